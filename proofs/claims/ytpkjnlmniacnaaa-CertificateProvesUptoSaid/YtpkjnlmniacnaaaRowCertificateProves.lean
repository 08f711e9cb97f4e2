/- CertificateProves: whatever the arguments are, their bulk at most 1048576, the statement's function returns true and leaves its arguments as they were. -/
import Derived.Test.YtpkjnlmniacnaaaPart1
import Derived.Test.YtpkjnlmniacnaaaAbPart6
import Derived.Test.YtpkjnlmniacnaaaPart3
import Derived.Test.YtpkjnlmniacnaaaPart6
namespace Go.Proofs.Ytpkjnlmniacnaaa.certificateProves
open Go.ChangeShapes Go.WideShapes Go.ChangeAt Go.RowKit Go.Ab
set_option linter.unusedVariables false

theorem own : ownKnob Try.prog.godebug = none := by kernel_rfl

set_option maxRecDepth 100000 in
theorem laid : laidOutB Try.prog = true := by kernel_rfl

set_option maxRecDepth 100000 in
theorem contract (H : Type) (enc : TypeId × Value → H) (W : World) (base : Nat) (args : Array Value) (ds gs : List (DataW H)) (before : List MemPlace)
    (hval : ∀ (j : Nat) t v, Try.f7.params[j]? = some t → args[j]? = some v → Value.okWide Try.prog W .any base t v)
    (hW : DataW.Whole enc Try.prog Try.f7.params.toList Rows.certificateProvesSpec.vars false W args.toList ds gs before) (hk : Rows.uptoSmall H (ds ++ gs) = true) :
    Calls Try.prog 7 args W fun e W' => ∃ v, e = .returned v ∧ Rows.certificateProvesSpec.post enc Try.prog Try.f7 false true false false W args v W' := by
  refine contract_of (A := A) (f := 7) (fn := Try.f7) (s := Rows.certificateProvesSpec) (tb := 4) (wf_of types_ok names_ok cpt_ok) follows_ok laid (by kernel_rfl) (by kernel_rfl) (by kernel_rfl) (by kernel_rfl) (by kernel_rfl) ?_ ?_ hval hW hk
  · intro ds hl
    obtain ⟨d1, d2, rfl⟩ : ∃ d1 d2, ds = [d1, d2] := by
      match ds, hl with
      | [d1, d2], _ => exact ⟨d1, d2, rfl⟩
    rfl
  · intro xs b hr hb
    refine ⟨1102000, ?_⟩
    rw [show Try.f7.params.toList = [29, 29] by kernel_rfl] at hr
    cases hr with
    | cons h1 hr =>
      cases hr with
      | cons h2 hr =>
        cases hr
        obtain ⟨l1, rfl, _, hl1⟩ := h1.ints (e := 3) (by kernel_rfl) (by kernel_rfl)
        obtain ⟨l2, rfl, _, hl2⟩ := h2.ints (e := 3) (by kernel_rfl) (by kernel_rfl)
        exact proves_wp (n := 1102000) (by omega) (Nat.le_refl _)

set_option maxRecDepth 100000 in
theorem lifted (os : Os) (started : os.Started) (H : Type) (enc : TypeId × Value → H) (F : Stop.Interp) :
    ReturnsInHanded {} Try.checked os 7 .any ((Rows.OpenSpec.upto Rows.certificateProvesSpec).pre6 enc Try.prog Try.f7 Rows.certificateProvesUptoRow.domain false) (((Rows.OpenSpec.upto Rows.certificateProvesSpec).at F).post enc Try.prog Try.f7 false true false false) := by
  refine returnsInHanded_of_cond (C := Try.checked) (s := Rows.OpenSpec.upto Rows.certificateProvesSpec) (k := Rows.uptoSmall) rfl own started (by kernel_rfl) Try.func7
    (OpenSpec.witness (enc := enc) (C := Try.checked) (s := Rows.OpenSpec.upto Rows.certificateProvesSpec) (k := Rows.uptoSmall) rfl false ⟨#[], #[.slice none 0 0, .slice none 0 0], []⟩ 8 (by kernel_rfl) (by kernel_rfl) (by kernel_rfl)
      (x := ([.nil, .nil], [], [])) (by kernel_rfl) rfl (by kernel_rfl)) ?_
  intro W base args ds gs before hval hW _ hk _
  exact contract H enc W base args ds gs before hval hW hk

theorem over : Rows.certificateProvesUptoRow.holds Try.pinned (Rows.OpenSpec.upto Rows.certificateProvesSpec) :=
  OpenClaim.holds_of_cond 7 Try.f7 rfl rfl rfl rfl rfl rfl rfl ⟨rfl, rfl, rfl, rfl, rfl⟩ rfl rfl rfl rfl rfl (by kernel_rfl) Try.func7 (by kernel_rfl)
    (of_decide_eq_true (by kernel_rfl)) (by unfold Func.isWrapper; first | (rw [if_pos (by decide +kernel)]; kernel_rfl) | (rw [if_neg (by decide +kernel)]; exact ⟨rfl, rfl⟩))
    (fun os started H enc _ F => lifted os started H enc F)

/-- The statement. -/
theorem proved : Rows.CertificateProvesUptoSaid :=
  over
end Go.Proofs.Ytpkjnlmniacnaaa.certificateProves
