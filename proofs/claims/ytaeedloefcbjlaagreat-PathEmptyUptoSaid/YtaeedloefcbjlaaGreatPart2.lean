/- Equations and plain laws of the functions that the statement reaches, part 2. Conditions: those in each theorem. -/
import Derived.Test.YtaeedloefcbjlaaGreatAbsPart1
set_option linter.unusedVariables false
set_option linter.unusedSimpArgs false
/- Data of laws: parts of constructed data, numbers that fit, lists of numbers as data. -/
namespace Go.Ab

theorem i_int (n : Int) : D.i (.int n) = n := rfl
theorem b_bool (b : Bool) : D.b (.bool b) = b := rfl
theorem xs_slc (l : List D) : D.xs (.slc l) = l := rfl
theorem es_map (l : List (D × D)) : D.es (.map l) = l := rfl
theorem len_slc (l : List D) : D.len (.slc l) = l.length := rfl
theorem fld0 (a : D) (l : List D) : D.fld (.agg (a :: l)) 0 = a := rfl
theorem fldS (a : D) (l : List D) (k : Nat) : D.fld (.agg (a :: l)) (k + 1) = D.fld (.agg l) k := rfl
theorem rs0 (a : D) (l : List D) : rs (a :: l) 0 = a := rfl
theorem rsS (a : D) (l : List D) (k : Nat) : rs (a :: l) (k + 1) = rs l k := rfl
def iLt (a b : Int) : Bool := decide (a < b)
def iLe (a b : Int) : Bool := decide (a ≤ b)
def iEq (a b : Int) : Bool := decide (a = b)
def bEq (a b : Bool) : Bool := decide (a = b)
theorem iLt_iff {a b : Int} : iLt a b = true ↔ a < b := decide_eq_true_iff
theorem iLe_iff {a b : Int} : iLe a b = true ↔ a ≤ b := decide_eq_true_iff
theorem iEq_iff {a b : Int} : iEq a b = true ↔ a = b := decide_eq_true_iff
theorem iLt_not {a b : Int} : iLt a b = false ↔ ¬ a < b := decide_eq_false_iff_not
theorem iLe_not {a b : Int} : iLe a b = false ↔ ¬ a ≤ b := decide_eq_false_iff_not
theorem iEq_not {a b : Int} : iEq a b = false ↔ ¬ a = b := decide_eq_false_iff_not
theorem cnd {c : Bool} {a b : Prop} (h1 : c = true → a) (h2 : c = false → b) : cond c a b := by
 cases c
 ·exact h2 rfl
 ·exact h1 rfl
theorem cLt {x y : Int} {a b : Prop} (h1 : x < y → a) (h2 : ¬ x < y → b) : cond (iLt x y) a b := cnd (fun h => h1 (iLt_iff.mp h)) fun h => h2 (iLt_not.mp h)
theorem cLe {x y : Int} {a b : Prop} (h1 : x ≤ y → a) (h2 : ¬ x ≤ y → b) : cond (iLe x y) a b := cnd (fun h => h1 (iLe_iff.mp h)) fun h => h2 (iLe_not.mp h)
theorem cEq {x y : Int} {a b : Prop} (h1 : x = y → a) (h2 : ¬ x = y → b) : cond (iEq x y) a b := cnd (fun h => h1 (iEq_iff.mp h)) fun h => h2 (iEq_not.mp h)
theorem cNe {x y : Int} {a b : Prop} (h1 : ¬ x = y → a) (h2 : x = y → b) : cond (!iEq x y) a b := cnd (fun h => h1 (iEq_not.mp (by simpa using h))) fun h => h2 (iEq_iff.mp (by simpa using h))
theorem cNot {c : Bool} {a b : Prop} (h1 : c = false → a) (h2 : c = true → b) : cond (!c) a b := by
 cases c
 ·exact h1 rfl
 ·exact h2 rfl
theorem wrap_id {x : Int} (h1 : -9223372036854775808 ≤ x) (h2 : x ≤ 9223372036854775807) : IntKind.wrap .i64 x = x := by
 simp only [IntKind.wrap, IntKind.bits, IntKind.signed, Bool.true_and]
 by_cases h : x % 2 ^ 64 ≥ 2 ^ (64 - 1)
 ·rw [if_pos (by simpa using h)]; omega
 ·rw [if_neg (by simpa using h)]; omega

/-- Numbers as data. -/
def lst (l : List Int) : D := .slc (l.map .int)
def lst2 (l : List (List Int)) : D := .slc (l.map lst)
def lst3 (l : List (List (List Int))) : D := .slc (l.map lst2)

theorem len_lst (l : List Int) : D.len (lst l) = l.length := by simp [lst, D.len, D.xs]
theorem el_map {α : Type} (f : α → D) (l : List α) (k : Nat) (d : α) (h : k < l.length) : D.el (.slc (l.map f)) (k : Int) = f (l.getD k d) := by
 simp [D.el, D.xs, List.getD, h]
theorem el_lst (l : List Int) (k : Nat) (h : k < l.length) : D.el (lst l) (k : Int) = .int (l.getD k 0) := el_map _ _ _ _ h
theorem toNat_nat (k : Nat) : Int.toNat (k : Int) = k := rfl
theorem drop_get {α : Type} {l : List α} {k : Nat} (d : α) (h : k < l.length) : l.drop k = l.getD k d :: l.drop (k + 1) := by
 rw [List.drop_eq_getElem_cons h]
 simp [List.getD, h]

theorem getD_mem {α : Type} {l : List α} {k : Nat} {d : α} (h : k < l.length) : l.getD k d ∈ l := by
 rw [List.getD, List.getElem?_eq_getElem h, Option.getD_some]
 exact List.getElem_mem _

/-- A method's name. -/
def mName (P : Program) (t j : Nat) : String := match P.info? t with
 | some i => match i.methods.toList[j]? with
  | some m => m.name
  | none => ""
 | none => ""

/-- Does something hold of a number below 'n'? -/
def anyB (p : Nat → Bool) (n : Nat) : Bool := (List.range n).any p
theorem anyB_true {p : Nat → Bool} {n i : Nat} (h : i < n) (hp : p i = true) : anyB p n = true := by
 simp only [anyB, List.any_eq_true, List.mem_range]
 exact ⟨i, h, hp⟩
theorem anyB_false {p : Nat → Bool} {n : Nat} (h : ∀ i, i < n → p i = false) : anyB p n = false := by
 simp only [anyB, List.any_eq_false, List.mem_range]
 intro i hi
 simp [h i hi]
theorem anyB_congr {p q : Nat → Bool} {n : Nat} (h : ∀ i, i < n → p i = q i) : anyB p n = anyB q n := by
 unfold anyB
 have : ∀ l : List Nat, (∀ i ∈ l, i < n) → l.any p = l.any q := by
  intro l hl
  induction l with
  | nil => rfl
  | cons a l ih => rw [List.any_cons, List.any_cons, h a (hl a (by simp)), ih fun i hi => hl i (by simp [hi])]
 exact this _ fun i hi => by simpa using hi

/-- Steps one by one. -/
def iter {S : Type} (step : S → Nat → S) (s : S) : Nat → S
 | 0 => s
 | k + 1 => step (iter step s k) k

/-- A SEARCH through a list: the place that is found, or -1. -/
theorem find_loop {L : Nat → D → D → D → D → (List D → Prop) → Prop} {call : D → D → (List D → Prop) → Prop}
  (heq : ∀ m x0 x1 x7 x8 Q, L (m + 1) x0 x1 x7 x8 Q = cond (iLt (D.i x8) (D.i x7)) ((0 ≤ D.i x8 ∧ D.i x8 < D.len x0) ∧ call x1 (D.el x0 (D.i x8)) fun r1 => cond (D.b (rs r1 0)) (Q [x8]) (L m x0 x1 x7 (.int (IntKind.wrap .i64 (D.i x8 + 1))) Q)) (Q [.int (-1)]))
  {x0 x1 : D} {p : Nat → Bool} {N : Nat} (hN : D.len x0 = N) (hs : N ≤ 4000000000) (hp : ∀ i, i < N → ∀ Q : List D → Prop, Q [.bool (p i)] → call x1 (D.el x0 (i : Int)) Q) {Q : List D → Prop} :
  ∀ m j, j ≤ N → N - j < m → (∀ i : Nat, i < N → p i = true → Q [.int (i : Int)]) → ((∀ i, j ≤ i → i < N → p i = false) → Q [.int (-1)]) → L m x0 x1 (.int (N : Int)) (.int (j : Int)) Q := by
 intro m
 induction m with
 | zero => intro j _ h; omega
 | succ m ih =>
  intro j hj hm h1 h2
  rw [heq]
  simp only [i_int]
  refine cLt (fun c => ⟨by omega, hp j (by omega) _ ?_⟩) fun c => h2 fun i h3 h4 => by omega
  simp only [rs0, b_bool]
  refine cnd (fun hc => h1 j (by omega) hc) fun hc => ?_
  rw [wrap_id (by omega) (by omega)]
  refine ih (j + 1) (by omega) (by omega) h1 fun h3 => h2 fun i h4 h5 => ?_
  by_cases e : i = j
  ·subst e; exact hc
  ·exact h3 i (by omega) h5
/-- 'Is it found?' -/
theorem found_loop {L : Nat → D → D → D → D → (List D → Prop) → Prop} {call : D → D → (List D → Prop) → Prop}
  (heq : ∀ m x0 x1 x7 x8 Q, L (m + 1) x0 x1 x7 x8 Q = cond (iLt (D.i x8) (D.i x7)) ((0 ≤ D.i x8 ∧ D.i x8 < D.len x0) ∧ call x1 (D.el x0 (D.i x8)) fun r1 => cond (D.b (rs r1 0)) (Q [x8]) (L m x0 x1 x7 (.int (IntKind.wrap .i64 (D.i x8 + 1))) Q)) (Q [.int (-1)]))
  {x0 x1 : D} {p : Nat → Bool} {N : Nat} (hN : D.len x0 = N) (hs : N ≤ 4000000000) (hp : ∀ i, i < N → ∀ Q : List D → Prop, Q [.bool (p i)] → call x1 (D.el x0 (i : Int)) Q) {Q : List D → Prop} {m : Nat} (hm : N < m)
  (h : Q [.bool (anyB p N)]) : L m x0 x1 (.int (D.len x0)) (.int 0) fun r => Q [.bool (iLe 0 (D.i (rs r 0)))] := by
 rw [hN]
 refine find_loop heq hN hs hp m 0 (by omega) (by omega) (fun i hi hpi => ?_) fun hn => ?_
 ·rw [rs0, i_int, iLe_iff.mpr (by omega), ← anyB_true hi hpi]
  exact h
 ·rw [rs0, i_int, show iLe 0 (-1) = false from rfl, ← anyB_false fun i hi => hn i (by omega) hi]
  exact h

/-- A list of numbers that are taken one after the other, and where it is. -/
def deck (l : List Int) (a : Int) : D := .agg [lst l, .int a]

end Go.Ab
