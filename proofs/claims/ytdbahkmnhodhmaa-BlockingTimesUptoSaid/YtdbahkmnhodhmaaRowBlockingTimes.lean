/- BlockingTimes: whatever the arguments are, their bulk at most 1048576, the statement's function returns true and leaves its arguments as they were. -/
import Derived.Test.YtdbahkmnhodhmaaPart1
import Derived.Test.YtdbahkmnhodhmaaAbPart8
import Derived.Test.YtdbahkmnhodhmaaPart3
namespace Go.Proofs.Ytdbahkmnhodhmaa.blockingTimes
open Go.ChangeShapes Go.WideShapes Go.ChangeAt Go.RowKit Go.Ab
set_option linter.unusedVariables false

theorem own : ownKnob Try.prog.godebug = none := by kernel_rfl

set_option maxRecDepth 100000 in
theorem laid : laidOutB Try.prog = true := by kernel_rfl

/-- Jobs of an argument. -/
theorem jobs_of {x : D} {b : Nat} (h : Raw Try.prog 35 x b) (hb : b ≤ 1048576) (hl : D.len x ≤ 10) : Jbs x := by
  obtain ⟨xs, rfl, h1, h2⟩ := h.slice (e := 48) (by kernel_rfl)
  refine jbs_of (b := 1048576) (by simp only [len_slc] at hl; omega) (by omega) fun y hy => ?_
  obtain ⟨ds, rfl, _, h4⟩ := (h2 y hy).fields (fs := [(3, 0), (3, 1), (3, 2), (3, 3), (3, 4), (46, 5), (3, 6)]) (by kernel_rfl)
  obtain ⟨zs, hz, h5, _⟩ := (h4 5 46 5 rfl).slice (e := 50) (by kernel_rfl)
  have e : secs (.agg ds) = .slc zs := hz
  rw [e, len_slc]
  omega

set_option maxRecDepth 100000 in
theorem contract (H : Type) (enc : TypeId × Value → H) (W : World) (base : Nat) (args : Array Value) (ds gs : List (DataW H)) (before : List MemPlace)
    (hval : ∀ (j : Nat) t v, Try.f5.params[j]? = some t → args[j]? = some v → Value.okWide Try.prog W .any base t v)
    (hW : DataW.Whole enc Try.prog Try.f5.params.toList Rows.blockingTimesSpec.vars false W args.toList ds gs before) (hk : Rows.uptoSmall H (ds ++ gs) = true) :
    Calls Try.prog 5 args W fun e W' => ∃ v, e = .returned v ∧ Rows.blockingTimesSpec.post enc Try.prog Try.f5 false true false false W args v W' := by
  refine contract_of (A := A) (f := 5) (fn := Try.f5) (s := Rows.blockingTimesSpec) (tb := 4) (wf_of types_ok names_ok) follows_ok laid (by kernel_rfl) (by kernel_rfl) (by kernel_rfl) (by kernel_rfl) (by kernel_rfl) ?_ ?_ hval hW hk
  · intro ds hl
    obtain ⟨d1, d2, d3, d4, d5, rfl⟩ : ∃ d1 d2 d3 d4 d5, ds = [d1, d2, d3, d4, d5] := by
      match ds, hl with
      | [d1, d2, d3, d4, d5], _ => exact ⟨d1, d2, d3, d4, d5, rfl⟩
    rfl
  · intro xs b hr hb
    refine ⟨1100200, ?_⟩
    rw [show Try.f5.params.toList = [35, 22, 3, 3, 3] by kernel_rfl] at hr
    cases hr with
    | cons h1 hr => cases hr with
      | cons h2 hr => cases hr with
        | cons h3 hr => cases hr with
          | cons h4 hr => cases hr with
            | cons h5 hr =>
              cases hr
              obtain ⟨l, rfl, _, hl⟩ := h2.ints (e := 3) (by kernel_rfl) (by kernel_rfl)
              obtain ⟨n3, rfl, _⟩ := h3.num (by kernel_rfl)
              obtain ⟨n4, rfl, _⟩ := h4.num (by kernel_rfl)
              obtain ⟨n5, rfl, _⟩ := h5.num (by kernel_rfl)
              exact times_wp (Nat.le_refl _) (fun hl => jobs_of h1 (by omega) hl) (by omega)

set_option maxRecDepth 100000 in
theorem lifted (os : Os) (started : os.Started) (H : Type) (enc : TypeId × Value → H) (F : Stop.Interp) :
    ReturnsInHanded {} Try.checked os 5 .any ((Rows.OpenSpec.upto Rows.blockingTimesSpec).pre6 enc Try.prog Try.f5 Rows.blockingTimesUptoRow.domain false) (((Rows.OpenSpec.upto Rows.blockingTimesSpec).at F).post enc Try.prog Try.f5 false true false false) := by
  refine returnsInHanded_of_cond (C := Try.checked) (s := Rows.OpenSpec.upto Rows.blockingTimesSpec) (k := Rows.uptoSmall) rfl own started (by kernel_rfl) Try.func5
    (OpenSpec.witness (enc := enc) (C := Try.checked) (s := Rows.OpenSpec.upto Rows.blockingTimesSpec) (k := Rows.uptoSmall) rfl false ⟨#[], #[.slice none 0 0, .slice none 0 0, .int .i64 0, .int .i64 0, .int .i64 0], []⟩ 8 (by kernel_rfl) (by kernel_rfl) (by kernel_rfl)
      (x := ([.nil, .nil, .lit (.int .i64 0), .lit (.int .i64 0), .lit (.int .i64 0)], [], [])) (by kernel_rfl) rfl (by kernel_rfl)) ?_
  intro W base args ds gs before hval hW _ hk _
  exact contract H enc W base args ds gs before hval hW hk

theorem over : Rows.blockingTimesUptoRow.holds Try.pinned (Rows.OpenSpec.upto Rows.blockingTimesSpec) :=
  OpenClaim.holds_of_cond 5 Try.f5 rfl rfl rfl rfl rfl rfl rfl ⟨rfl, rfl, rfl, rfl, rfl⟩ rfl rfl rfl rfl rfl (by kernel_rfl) Try.func5 (by kernel_rfl)
    (of_decide_eq_true (by kernel_rfl)) (by unfold Func.isWrapper; first | (rw [if_pos (by decide +kernel)]; kernel_rfl) | (rw [if_neg (by decide +kernel)]; exact ⟨rfl, rfl⟩))
    (fun os started H enc _ F => lifted os started H enc F)

/-- The statement. -/
theorem proved : Rows.BlockingTimesUptoSaid :=
  over
end Go.Proofs.Ytdbahkmnhodhmaa.blockingTimes
