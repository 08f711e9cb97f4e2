/- EvictCommon: whatever the list of numbers is, its bulk at most 1048576, the statement's function returns true and leaves its argument as it was. -/
import Derived.Test.YtdbahkmnhodhmaaPart1
import Derived.Test.YtdbahkmnhodhmaaAbPart7
import Derived.Test.YtdbahkmnhodhmaaPart2
namespace Go.Proofs.Ytdbahkmnhodhmaa.evictCommon
open Go.ChangeShapes Go.WideShapes Go.ChangeAt Go.RowKit Go.Ab
set_option linter.unusedVariables false

theorem own : ownKnob Try.prog.godebug = none := by kernel_rfl

set_option maxRecDepth 100000 in
theorem laid : laidOutB Try.prog = true := by kernel_rfl

set_option maxRecDepth 100000 in
theorem contract (H : Type) (enc : TypeId × Value → H) (W : World) (base : Nat) (args : Array Value) (ds gs : List (DataW H)) (before : List MemPlace)
    (hval : ∀ (j : Nat) t v, Try.f3.params[j]? = some t → args[j]? = some v → Value.okWide Try.prog W .any base t v)
    (hW : DataW.Whole enc Try.prog Try.f3.params.toList Rows.evictCommonSpec.vars false W args.toList ds gs before) (hk : Rows.uptoSmall H (ds ++ gs) = true) :
    Calls Try.prog 3 args W fun e W' => ∃ v, e = .returned v ∧ Rows.evictCommonSpec.post enc Try.prog Try.f3 false true false false W args v W' := by
  refine contract_of (A := A) (f := 3) (fn := Try.f3) (s := Rows.evictCommonSpec) (tb := 4) (wf_of types_ok names_ok) follows_ok laid (by kernel_rfl) (by kernel_rfl) (by kernel_rfl) (by kernel_rfl) (by kernel_rfl) ?_ ?_ hval hW hk
  · intro ds hl
    obtain ⟨d, rfl⟩ : ∃ d, ds = [d] := List.length_eq_one_iff.mp (by simpa using hl)
    rfl
  · intro xs b hr hb
    refine ⟨70, ?_⟩
    rw [show Try.f3.params.toList = [22] by kernel_rfl] at hr
    cases hr with
    | cons h1 h2 =>
      cases h2
      cases h1 with
      | int h _ _ => exact absurd h (by rw [show tk Try.prog 22 = .slc 3 by kernel_rfl]; simp)
      | bool h _ => exact absurd h (by rw [show tk Try.prog 22 = .slc 3 by kernel_rfl]; simp)
      | ints _ _ _ hl => exact evict_common_wp (by omega) (by omega)

set_option maxRecDepth 100000 in
theorem lifted (os : Os) (started : os.Started) (H : Type) (enc : TypeId × Value → H) (F : Stop.Interp) :
    ReturnsInHanded {} Try.checked os 3 .any ((Rows.OpenSpec.upto Rows.evictCommonSpec).pre6 enc Try.prog Try.f3 Rows.evictCommonUptoRow.domain false) (((Rows.OpenSpec.upto Rows.evictCommonSpec).at F).post enc Try.prog Try.f3 false true false false) := by
  refine returnsInHanded_of_cond (C := Try.checked) (s := Rows.OpenSpec.upto Rows.evictCommonSpec) (k := Rows.uptoSmall) rfl own started (by kernel_rfl) Try.func3
    (OpenSpec.witness (enc := enc) (C := Try.checked) (s := Rows.OpenSpec.upto Rows.evictCommonSpec) (k := Rows.uptoSmall) rfl false ⟨#[], #[.slice none 0 0], []⟩ 8 (by kernel_rfl) (by kernel_rfl) (by kernel_rfl)
      (x := ([.nil], [], [])) (by kernel_rfl) rfl (by kernel_rfl)) ?_
  intro W base args ds gs before hval hW _ hk _
  exact contract H enc W base args ds gs before hval hW hk

theorem over : Rows.evictCommonUptoRow.holds Try.pinned (Rows.OpenSpec.upto Rows.evictCommonSpec) :=
  OpenClaim.holds_of_cond 3 Try.f3 rfl rfl rfl rfl rfl rfl rfl ⟨rfl, rfl, rfl, rfl, rfl⟩ rfl rfl rfl rfl rfl (by kernel_rfl) Try.func3 (by kernel_rfl)
    (of_decide_eq_true (by kernel_rfl)) (by unfold Func.isWrapper; first | (rw [if_pos (by decide +kernel)]; kernel_rfl) | (rw [if_neg (by decide +kernel)]; exact ⟨rfl, rfl⟩))
    (fun os started H enc _ F => lifted os started H enc F)

/-- The statement. -/
theorem proved : Rows.EvictCommonUptoSaid :=
  over
end Go.Proofs.Ytdbahkmnhodhmaa.evictCommon
