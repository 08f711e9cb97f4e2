/- Equations and plain laws of the functions that the statement reaches, part 1. Conditions: those in each theorem. -/
import Derived.Test.YtpkjnlmniacnaaaAbPart7
import Derived.Test.YtpkjnlmniacnaaaChecked
import Derived.KernelRfl
import Derived.Test.YtpkjnlmniacnaaaProg
import Derived.Test.YtpkjnlmniacnaaaAbPart1
import Derived.Shelf.Slices.Cells
set_option linter.unusedVariables false
set_option linter.unusedSimpArgs false
namespace Go.Ab
open Go.Proofs
set_option maxRecDepth 100000
theorem follows_ok : Try.prog.follows .mixedOrders = true := by kernel_rfl
theorem types_ok : typesB Try.prog = true := by kernel_rfl
theorem names_ok : namesB Try.prog = true := by kernel_rfl
end Go.Ab

/- slices.Compact of numbers, by the library's contract. -/
namespace Go.Ab
open Go.Proofs Go.Shelf Go.Lib

def cptR : Ren := ⟨fun _ => 47, fun t => if t = 22 then 29 else t, fun x => x⟩
set_option maxRecDepth 100000

theorem cpt_lays : Lays2.n20 Try.prog cptR where
  mixed := by kernel_rfl
  f20 := by kernel_rfl
  t0 := by kernel_rfl
  a0 := fun w => by kernel_rfl
  z0 := fun w => by kernel_rfl
  v0 := fun w => by kernel_rfl
  t3 := by kernel_rfl
  a3 := fun w => by kernel_rfl
  z3 := fun w => by kernel_rfl
  v3 := fun w => by kernel_rfl
  t4 := by kernel_rfl
  a4 := fun w => by kernel_rfl
  z4 := fun w => by kernel_rfl
  v4 := fun w => by kernel_rfl
  t22 := by kernel_rfl
  a22 := fun w => by kernel_rfl
  z22 := fun w => by kernel_rfl
  v22 := fun w => by kernel_rfl
  i3 := by kernel_rfl

theorem only47 : ((List.range Try.prog.funcs.size).all fun h => !(isCpt Try.prog h) || Nat.beq h 47) = true := by kernel_rfl

theorem keeps_setCell (w : World) (b o : Nat) (v : Value) : Keeps (fun x => x = b) w (w.setCell ⟨b, o, none⟩ v) := by
  refine ⟨rfl, rfl, rfl, ?_, fun c hc hn => ?_⟩
  · simp [World.setCell]
  · simp only [World.setCell, Array.getElem?_modify, if_neg (fun e => hn (Eq.symm e))]
theorem keeps_setCells (b : Nat) : ∀ (l : List Value) (o : Nat) (w : World), Keeps (fun x => x = b) w (w.setCells b o l)
  | [], _, w => Keeps.refl _ w
  | v :: l, o, w => (keeps_setCell w b o v).trans (keeps_setCells b l (o + 1) _) (fun _ h => h) fun _ _ h => h

theorem cptI_compact (zs : List Int) : Lib.compact zs = cptI zs := by
  have key : ∀ (l pre : List Int) (p : Int), (pre ++ [p]).length ≤ (pre ++ p :: l).length → compactUpTo (pre ++ p :: l).toArray (pre ++ p :: l).length = compactUpTo (pre ++ p :: l).toArray (pre ++ [p]).length ++ cptF p l := by
    intro l
    induction l with
    | nil => intro pre p _; simp [cptF]
    | cons x l ih =>
      intro pre p _
      have h1 := ih (pre ++ [p]) x (by simp)
      have e1 : pre ++ [p] ++ x :: l = pre ++ p :: x :: l := by simp
      rw [e1] at h1
      rw [h1]
      have h2 : (pre ++ [p] ++ [x]).length = (pre ++ [p]).length + 1 := by simp
      rw [h2, compactUpTo_succ]
      have gx : (pre ++ p :: x :: l).toArray[(pre ++ [p]).length]! = x := by
        rw [getElem!_pos _ _ (by simp)]
        simp [List.getElem_append_right]
      have gp : (pre ++ p :: x :: l).toArray[(pre ++ [p]).length - 1]! = p := by
        rw [getElem!_pos _ _ (by simp)]
        simp [List.getElem_append_right]
      have hk : keeps (pre ++ p :: x :: l).toArray (pre ++ [p]).length = decide (x ≠ p) := by
        unfold keeps
        rw [gx, gp]
        simp
      rw [hk, gx]
      by_cases e : x = p
      · simp [cptF, e]
      · simp [cptF, e]
  cases zs with
  | nil => rfl
  | cons x l =>
    have := key l [] x (by simp)
    simp only [List.nil_append] at this
    unfold Lib.compact
    rw [this]
    have h1 : compactUpTo (x :: l).toArray [x].length = [x] := by
      unfold compactUpTo
      simp [List.range_succ, keeps, List.filter]
    rw [h1]
    rfl

theorem cpt_at : CompactAt Try.prog 47 := by
  refine ⟨⟨Try.f47, by kernel_rfl, by kernel_rfl⟩, fun b off n c zs w hn hbig hcap hc hf => ?_, fun a c w => ?_⟩
  · have h := Any.slices_Compact_int_cells cpt_lays b off n c zs w (by omega) hbig hcap (fun j hj => hc j (by omega)) hf
    rw [List.take_of_length_le (by omega), cptI_compact] at h
    refine Calls.mono h ?_
    rintro e w' ⟨rfl, q, rfl⟩
    have hl : (cptI zs).length ≤ n := by
      rw [← cptI_compact, ← hn]
      exact compact_length_le zs
    have hk : Keeps (fun x => x = b) w (w.drewN q) := ⟨rfl, rfl, rfl, Nat.le_refl _, fun _ _ _ => rfl⟩
    refine ⟨rfl, hk.trans (keeps_setCells b _ off _) (fun _ h => h) fun _ _ h => h, fun j hj => ?_⟩
    rw [World.cell?_setCells_in b _ off _ (fun i hi => ?_) j (by simp; omega)]
    · simp [List.getElem_append_left, hj, List.getD_eq_getElem?_getD]
    · simp only [List.length_map, List.length_append, List.length_replicate] at hi
      rw [World.cell?_drewN, hc i (by omega)]
      rfl
  · exact Calls.mono (Any.slices_Compact_int_empty cpt_lays a c w) fun e w' h => h

theorem cpt_ok (h : Nat) (hh : isCpt Try.prog h = true) : CompactAt Try.prog h := by
  by_cases hl : h < Try.prog.funcs.size
  · have := List.all_eq_true.1 only47 h (by simpa using hl)
    rw [hh] at this
    have : h = 47 := by simpa using this
    subst this
    exact cpt_at
  · unfold isCpt at hh
    rw [Array.getElem?_eq_none (by omega)] at hh
    cases hh

end Go.Ab
