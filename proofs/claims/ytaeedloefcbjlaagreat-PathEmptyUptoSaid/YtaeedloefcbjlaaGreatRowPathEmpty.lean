/- PathEmpty: whatever the arguments are, their bulk at most 1048576, the statement's function returns true and leaves its arguments as they were. -/
import Derived.Test.YtaeedloefcbjlaaGreatPart1
import Derived.Test.YtaeedloefcbjlaaGreatAbsPart7
import Derived.Test.YtaeedloefcbjlaaGreatPart3
import Derived.Test.YtaeedloefcbjlaaGreatPart6
namespace Go.Proofs.YtaeedloefcbjlaaGreat.pathEmpty
open Go.ChangeShapes Go.WideShapes Go.ChangeAt Go.RowKit Go.Ab
set_option linter.unusedVariables false

theorem nocpt : (Tryz.prog.funcs.toList.all fun f => !(f.name == "slices.Compact[[]int,int]")) = true := by kernel_rfl
theorem cpt_ok (h : Nat) (hc : isCpt Tryz.prog h = true) : CompactAt Tryz.prog h := by
 exfalso
 unfold isCpt at hc
 cases hf : Tryz.prog.funcs[h]? with
 | none => rw [hf] at hc; cases hc
 | some fn =>
  rw [hf] at hc
  have hm : fn ∈ Tryz.prog.funcs.toList := Array.mem_toList_iff.2 (Array.mem_of_getElem? hf)
  have := List.all_eq_true.1 nocpt fn hm
  simp only at hc
  rw [hc] at this
  cases this

theorem own : ownKnob Tryz.prog.godebug = none := by kernel_rfl

set_option maxRecDepth 100000 in
theorem laid : laidOutB Tryz.prog = true := by kernel_rfl

set_option maxRecDepth 100000 in
theorem contract (H : Type) (enc : TypeId × Value → H) (W : World) (base : Nat) (args : Array Value) (ds gs : List (DataW H)) (before : List MemPlace)
  (hval : ∀ (j : Nat) t v, Tryz.f3.params[j]? = some t → args[j]? = some v → Value.okWide Tryz.prog W .any base t v)
  (hW : DataW.Whole enc Tryz.prog Tryz.f3.params.toList Rows.pathEmptySpec.vars false W args.toList ds gs before) (hk : Rows.uptoSmall H (ds ++ gs) = true) :
  Calls Tryz.prog 3 args W fun e W' => ∃ v, e = .returned v ∧ Rows.pathEmptySpec.post enc Tryz.prog Tryz.f3 false true false false W args v W' := by
 refine contract_of (A := A) (f := 3) (fn := Tryz.f3) (s := Rows.pathEmptySpec) (tb := 4) (wf_of types_ok names_ok cpt_ok) follows_ok laid (by kernel_rfl) (by kernel_rfl) (by kernel_rfl) (by kernel_rfl) (by kernel_rfl) ?_ ?_ hval hW hk sp_ok
 ·intro ds hl
  obtain ⟨d1, rfl⟩ : ∃ d1, ds = [d1] := by
   match ds, hl with
   | [d1], _ => exact ⟨d1, rfl⟩
  rfl
 ·intro xs b hr hb
  refine ⟨1102000, ?_⟩
  rw [show Tryz.f3.params.toList = [22] by kernel_rfl] at hr
  cases hr with
  | cons h1 hr =>
   cases hr
   obtain ⟨l1, rfl, hl1⟩ := h1.bytes (e := 5) (by kernel_rfl) (by kernel_rfl)
   exact path_wp hl1 (n := 1102000) (by omega)

set_option maxRecDepth 100000 in
theorem lifted (os : Os) (started : os.Started) (H : Type) (enc : TypeId × Value → H) (F : Stop.Interp) :
  ReturnsInHanded {} Tryz.checked os 3 .any ((Rows.OpenSpec.upto Rows.pathEmptySpec).pre6 enc Tryz.prog Tryz.f3 Rows.pathEmptyUptoRow.domain false) (((Rows.OpenSpec.upto Rows.pathEmptySpec).at F).post enc Tryz.prog Tryz.f3 false true false false) := by
 refine returnsInHanded_of_cond (C := Tryz.checked) (s := Rows.OpenSpec.upto Rows.pathEmptySpec) (k := Rows.uptoSmall) rfl own started (by kernel_rfl) Tryz.func3
  (OpenSpec.witness (enc := enc) (C := Tryz.checked) (s := Rows.OpenSpec.upto Rows.pathEmptySpec) (k := Rows.uptoSmall) rfl false ⟨#[], #[.slice none 0 0], []⟩ 8 (by kernel_rfl) (by kernel_rfl) (by kernel_rfl)
   (x := ([.nil], [], [])) (by kernel_rfl) rfl (by kernel_rfl)) ?_
 intro W base args ds gs before hval hW _ hk _
 exact contract H enc W base args ds gs before hval hW hk

theorem over : Rows.pathEmptyUptoRow.holds Tryz.pinned (Rows.OpenSpec.upto Rows.pathEmptySpec) :=
 OpenClaim.holds_of_cond 3 Tryz.f3 rfl rfl rfl rfl rfl rfl rfl ⟨rfl, rfl, rfl, rfl, rfl⟩ rfl rfl rfl rfl rfl (by kernel_rfl) Tryz.func3 (by kernel_rfl)
  (of_decide_eq_true (by kernel_rfl)) (by unfold Func.isWrapper; first | (rw [if_pos (by decide +kernel)]; kernel_rfl) | (rw [if_neg (by decide +kernel)]; exact ⟨rfl, rfl⟩))
  (fun os started H enc _ F => lifted os started H enc F)

/-- The statement. -/
theorem proved : Rows.PathEmptyUptoSaid :=
 over
end Go.Proofs.YtaeedloefcbjlaaGreat.pathEmpty
