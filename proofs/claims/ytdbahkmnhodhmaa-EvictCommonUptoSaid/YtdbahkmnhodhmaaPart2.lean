/- Equations and plain laws of the functions that the statement reaches, part 2. Conditions: those in each theorem. -/
import Derived.Test.YtdbahkmnhodhmaaAbPart1
import Derived.Test.YtdbahkmnhodhmaaProg
import Derived.KernelRfl
set_option linter.unusedVariables false
set_option linter.unusedSimpArgs false
/- Data of laws: parts of constructed data, numbers that fit, lists of numbers as data. -/
namespace Go.Ab

theorem i_int (n : Int) : D.i (.int n) = n := rfl
theorem b_bool (b : Bool) : D.b (.bool b) = b := rfl
theorem xs_slc (l : List D) : D.xs (.slc l) = l := rfl
theorem fs_agg (l : List D) : D.fs (.agg l) = l := rfl
theorem es_map (l : List (D × D)) : D.es (.map l) = l := rfl
theorem dr_ptr (d : D) : D.dr (.ptr d) = d := rfl
theorem len_slc (l : List D) : D.len (.slc l) = l.length := rfl
theorem fld0 (a : D) (l : List D) : D.fld (.agg (a :: l)) 0 = a := rfl
theorem fldS (a : D) (l : List D) (k : Nat) : D.fld (.agg (a :: l)) (k + 1) = D.fld (.agg l) k := rfl
theorem rs0 (a : D) (l : List D) : rs (a :: l) 0 = a := rfl
theorem rsS (a : D) (l : List D) (k : Nat) : rs (a :: l) (k + 1) = rs l k := rfl
theorem el0 (a : D) (l : List D) : D.el (.slc (a :: l)) 0 = a := rfl

def iLt (a b : Int) : Bool := decide (a < b)
def iLe (a b : Int) : Bool := decide (a ≤ b)
def iEq (a b : Int) : Bool := decide (a = b)
def bEq (a b : Bool) : Bool := decide (a = b)
theorem iLt_iff {a b : Int} : iLt a b = true ↔ a < b := decide_eq_true_iff
theorem iLe_iff {a b : Int} : iLe a b = true ↔ a ≤ b := decide_eq_true_iff
theorem iEq_iff {a b : Int} : iEq a b = true ↔ a = b := decide_eq_true_iff
theorem bEq_iff {a b : Bool} : bEq a b = true ↔ a = b := decide_eq_true_iff
theorem iLt_not {a b : Int} : iLt a b = false ↔ ¬ a < b := decide_eq_false_iff_not
theorem iLe_not {a b : Int} : iLe a b = false ↔ ¬ a ≤ b := decide_eq_false_iff_not
theorem iEq_not {a b : Int} : iEq a b = false ↔ ¬ a = b := decide_eq_false_iff_not
theorem bEq_not {a b : Bool} : bEq a b = false ↔ ¬ a = b := decide_eq_false_iff_not

theorem cnd {c : Bool} {a b : Prop} (h1 : c = true → a) (h2 : c = false → b) : cond c a b := by
  cases c
  · exact h2 rfl
  · exact h1 rfl
theorem cLt {x y : Int} {a b : Prop} (h1 : x < y → a) (h2 : ¬ x < y → b) : cond (iLt x y) a b := cnd (fun h => h1 (iLt_iff.mp h)) fun h => h2 (iLt_not.mp h)
theorem cLe {x y : Int} {a b : Prop} (h1 : x ≤ y → a) (h2 : ¬ x ≤ y → b) : cond (iLe x y) a b := cnd (fun h => h1 (iLe_iff.mp h)) fun h => h2 (iLe_not.mp h)
theorem cEq {x y : Int} {a b : Prop} (h1 : x = y → a) (h2 : ¬ x = y → b) : cond (iEq x y) a b := cnd (fun h => h1 (iEq_iff.mp h)) fun h => h2 (iEq_not.mp h)
theorem cNe {x y : Int} {a b : Prop} (h1 : ¬ x = y → a) (h2 : x = y → b) : cond (!iEq x y) a b := cnd (fun h => h1 (iEq_not.mp (by simpa using h))) fun h => h2 (iEq_iff.mp (by simpa using h))
theorem cNot {c : Bool} {a b : Prop} (h1 : c = false → a) (h2 : c = true → b) : cond (!c) a b := by
  cases c
  · exact h1 rfl
  · exact h2 rfl
theorem cond_not {α : Sort _} (c : Bool) (a b : α) : cond (!c) a b = cond c b a := by cases c <;> rfl

theorem wrap_id {x : Int} (h1 : -9223372036854775808 ≤ x) (h2 : x ≤ 9223372036854775807) : IntKind.wrap .i64 x = x := by
  simp only [IntKind.wrap, IntKind.bits, IntKind.signed, Bool.true_and]
  by_cases h : x % 2 ^ 64 ≥ 2 ^ (64 - 1)
  · rw [if_pos (by simpa using h)]; omega
  · rw [if_neg (by simpa using h)]; omega

/-- Numbers as data. -/
def lst (l : List Int) : D := .slc (l.map .int)
def lst2 (l : List (List Int)) : D := .slc (l.map lst)
def lst3 (l : List (List (List Int))) : D := .slc (l.map lst2)

theorem len_lst (l : List Int) : D.len (lst l) = l.length := by simp [lst, D.len, D.xs]
theorem len_lst2 (l : List (List Int)) : D.len (lst2 l) = l.length := by simp [lst2, D.len, D.xs]
theorem len_lst3 (l : List (List (List Int))) : D.len (lst3 l) = l.length := by simp [lst3, D.len, D.xs]
theorem el_map {α : Type} (f : α → D) (l : List α) (k : Nat) (d : α) (h : k < l.length) : D.el (.slc (l.map f)) (k : Int) = f (l.getD k d) := by
  simp [D.el, D.xs, List.getD, h]
theorem el_lst (l : List Int) (k : Nat) (h : k < l.length) : D.el (lst l) (k : Int) = .int (l.getD k 0) := el_map _ _ _ _ h
theorem el_lst2 (l : List (List Int)) (k : Nat) (h : k < l.length) : D.el (lst2 l) (k : Int) = lst (l.getD k []) := el_map _ _ _ _ h
theorem el_lst3 (l : List (List (List Int))) (k : Nat) (h : k < l.length) : D.el (lst3 l) (k : Int) = lst2 (l.getD k []) := el_map _ _ _ _ h
theorem set_map {α : Type} (f : α → D) (l : List α) (k : Nat) (x : α) : (l.map f).set k (f x) = (l.set k x).map f := by
  simp [List.map_set]
theorem xs_lst (l : List Int) : D.xs (lst l) = l.map .int := rfl
theorem xs_lst2 (l : List (List Int)) : D.xs (lst2 l) = l.map lst := rfl
theorem xs_lst3 (l : List (List (List Int))) : D.xs (lst3 l) = l.map lst2 := rfl
theorem toNat_nat (k : Nat) : Int.toNat (k : Int) = k := rfl
theorem drop_get {α : Type} {l : List α} {k : Nat} (d : α) (h : k < l.length) : l.drop k = l.getD k d :: l.drop (k + 1) := by
  rw [List.drop_eq_getElem_cons h]
  simp [List.getD, h]

theorem getD_mem {α : Type} {l : List α} {k : Nat} {d : α} (h : k < l.length) : l.getD k d ∈ l := by
  rw [List.getD, List.getElem?_eq_getElem h, Option.getD_some]
  exact List.getElem_mem _

/-- A list of numbers that are taken one after the other, and where it is. -/
def deck (l : List Int) (a : Int) : D := .agg [lst l, .int a]

end Go.Ab

set_option linter.unusedVariables false
namespace Go.Ab
open Go.Proofs
def sigL : List (Nat × Sig) := [(3, ⟨[.imm 22], [.val 4 .imm]⟩),
  (4, ⟨[.imm 22], [.val 4 .imm]⟩),
  (5, ⟨[.imm 35, .imm 22, .imm 3, .imm 3, .imm 3], [.val 4 .imm]⟩),
  (6, ⟨[.imm 22], [.val 4 .imm]⟩),
  (7, ⟨[.imm 51, .imm 22, .imm 22, .imm 3, .imm 3, .imm 3], [.val 4 .imm]⟩),
  (8, ⟨[.imm 22, .imm 3, .imm 3, .imm 3], [.val 4 .imm]⟩),
  (9, ⟨[.imm 22], [.val 4 .imm]⟩),
  (10, ⟨[.imm 78, .imm 82, .imm 22], [.val 4 .imm]⟩),
  (11, ⟨[.imm 22], [.val 4 .imm]⟩),
  (12, ⟨[.imm 22], [.val 4 .imm]⟩),
  (13, ⟨[.imm 78, .imm 22, .imm 3], [.val 4 .imm]⟩),
  (14, ⟨[.imm 22], [.val 4 .imm]⟩),
  (15, ⟨[.imm 22], [.box 110 .imm]⟩),
  (16, ⟨[.lent 110 .imm], [.val 26 .imm]⟩),
  (17, ⟨[.lent 110 .imm, .imm 26], [.val 28 (.slc (.slc .imm none) none)]⟩),
  (18, ⟨[.lent 110 .imm, .imm 3], [.val 3 .imm]⟩),
  (19, ⟨[.imm 26, .imm 28, .imm 30], [.val 3 .imm]⟩),
  (20, ⟨[.imm 26, .imm 28, .imm 30], [.val 3 .imm]⟩),
  (21, ⟨[], [.val 4 .imm]⟩),
  (22, ⟨[], [.val 4 .imm]⟩),
  (23, ⟨[.lent 110 .imm, .imm 3], [.val 35 (.slc .imm none)]⟩),
  (24, ⟨[.imm 35, .imm 3, .imm 3], [.val 35 (.slc .imm none)]⟩),
  (25, ⟨[.imm 35], [.val 4 .imm]⟩),
  (26, ⟨[.imm 35], [.val 4 .imm]⟩),
  (27, ⟨[.imm 35, .imm 3, .imm 3], [.val 4 .imm]⟩),
  (28, ⟨[.imm 35, .imm 3, .imm 3], [.val 4 .imm]⟩),
  (29, ⟨[.imm 35, .imm 3], [.val 3 .imm, .val 4 .imm]⟩),
  (30, ⟨[.imm 35, .imm 3], [.val 3 .imm, .val 4 .imm]⟩),
  (31, ⟨[.imm 3, .imm 3], [.val 3 .imm]⟩),
  (32, ⟨[.imm 35, .imm 3, .imm 3], [.val 3 .imm]⟩),
  (33, ⟨[.imm 35, .imm 3, .imm 3], [.val 3 .imm]⟩),
  (34, ⟨[], [.val 4 .imm]⟩),
  (35, ⟨[.lent 110 .imm], [.val 51 (.slc .imm none)]⟩),
  (36, ⟨[.imm 51, .imm 3, .imm 3], [.val 51 (.slc .imm none)]⟩),
  (37, ⟨[.imm 51], [.val 4 .imm]⟩),
  (38, ⟨[.imm 51], [.val 4 .imm]⟩),
  (39, ⟨[.imm 51, .imm 3], [.val 22 (.slc .imm none), .val 56 .imm]⟩),
  (40, ⟨[.imm 51, .imm 3], [.val 22 (.slc .imm none), .val 56 .imm]⟩),
  (41, ⟨[.imm 22, .imm 22], [.val 4 .imm]⟩),
  (42, ⟨[.imm 51, .imm 22], [.val 3 .imm, .val 3 .imm, .val 4 .imm]⟩),
  (43, ⟨[.imm 51, .imm 22], [.val 3 .imm, .val 3 .imm, .val 4 .imm]⟩),
  (44, ⟨[.lent 110 .imm], [.val 67 .imm]⟩),
  (45, ⟨[.imm 67, .imm 51, .imm 22], [.val 67 .imm, .val 56 .imm]⟩),
  (46, ⟨[.imm 65, .imm 3], [.val 4 .imm]⟩),
  (47, ⟨[], [.val 4 .imm]⟩),
  (48, ⟨[.lent 110 .imm], [.val 82 .imm, .val 22 .imm]⟩),
  (49, ⟨[.lent 110 .imm, .imm 82, .imm 3], [.val 78 .imm]⟩),
  (50, ⟨[.lent 110 .imm, .imm 78], [.val 78 .imm]⟩),
  (51, ⟨[.imm 82, .imm 78], [.val 4 .imm]⟩),
  (52, ⟨[.imm 82, .imm 78], [.val 4 .imm]⟩),
  (53, ⟨[.imm 82, .imm 78], [.val 56 .imm]⟩),
  (54, ⟨[.imm 82, .imm 78], [.val 56 .imm]⟩),
  (55, ⟨[.imm 78], [.val 3 .imm]⟩),
  (56, ⟨[.imm 78], [.val 3 .imm]⟩),
  (57, ⟨[.imm 82, .imm 22], [.val 3 .imm, .val 4 .imm]⟩),
  (58, ⟨[.imm 82], [.val 94 .imm]⟩),
  (59, ⟨[.imm 82, .imm 79, .imm 94], [.val 3 .imm, .val 4 .imm, .val 4 .imm]⟩),
  (60, ⟨[.lent 110 .imm, .imm 3], [.val 80 (.slc .imm none)]⟩),
  (61, ⟨[.imm 82, .imm 80, .imm 3, .imm 78, .imm 78], [.val 78 .imm, .val 56 .imm]⟩),
  (62, ⟨[.imm 82, .imm 80, .imm 3, .imm 78, .imm 78], [.val 78 .imm, .val 56 .imm]⟩),
  (63, ⟨[.imm 78, .imm 78], [.val 4 .imm]⟩),
  (64, ⟨[.imm 80, .imm 3], [.val 100 .imm, .val 100 (.agg [(0, (.slc .imm none))])]⟩),
  (65, ⟨[.lent 110 .imm], [.val 26 .imm]⟩),
  (66, ⟨[.imm 26], [.val 56 .imm]⟩),
  (67, ⟨[.imm 30, .imm 113], [.val 4 .imm]⟩),
  (68, ⟨[.imm 28, .iptr 26], [.val 4 .imm]⟩),
  (69, ⟨[.imm 67], [.val 3 .imm]⟩),
  (70, ⟨[], [.val 35 (.slc .imm none)]⟩),
  (71, ⟨[.imm 35, .imm 121], [.val 4 .imm]⟩),
  (72, ⟨[.imm 48], [.val 4 .imm]⟩),
  (73, ⟨[.imm 3, .imm 3, .imm 3], [.val 4 .imm]⟩),
  (74, ⟨[.imm 46, .imm 120], [.val 4 .imm]⟩),
  (75, ⟨[.imm 50], [.val 4 .imm]⟩),
  (76, ⟨[.imm 3, .imm 3, .imm 3], [.val 4 .imm]⟩),
  (77, ⟨[.imm 50, .iptr 3], [.val 4 .imm]⟩),
  (78, ⟨[.imm 48, .imm 3], [.val 4 .imm]⟩),
  (79, ⟨[], [.val 51 (.slc .imm none)]⟩),
  (80, ⟨[.imm 75], [.val 4 .imm]⟩),
  (81, ⟨[.imm 51, .imm 125], [.val 4 .imm]⟩),
  (82, ⟨[.imm 75, .iptr 75], [.val 4 .imm]⟩),
  (83, ⟨[.imm 22, .imm 22], [.val 3 .imm]⟩),
  (84, ⟨[.imm 22, .imm 22], [.val 4 .imm]⟩),
  (85, ⟨[.imm 3, .imm 22], [.val 4 .imm]⟩),
  (86, ⟨[.imm 67], [.val 56 .imm]⟩),
  (87, ⟨[.imm 65], [.val 65 (.slc .imm none)]⟩),
  (88, ⟨[], [.val 82 .imm, .val 78 (.agg [(0, (.slc (.agg [(4, (.slc .imm none))]) none))])]⟩),
  (89, ⟨[.lent 110 .imm, .imm 3], [.val 82 .imm]⟩),
  (90, ⟨[.lent 110 .imm, .imm 82], [.val 22 (.slc .imm none)]⟩),
  (91, ⟨[.imm 82, .imm 22], [.val 82 .imm, .val 56 .imm]⟩),
  (92, ⟨[.imm 82], [.val 4 .imm]⟩),
  (93, ⟨[.imm 94], [.val 143 .imm]⟩),
  (94, ⟨[.imm 141, .imm 4], [.val 4 .imm]⟩),
  (95, ⟨[.imm 94], [.val 4 .imm]⟩),
  (96, ⟨[.imm 82, .imm 80, .imm 3], [.val 4 .imm]⟩),
  (97, ⟨[.imm 78], [.val 151 (.slc .imm none)]⟩),
  (98, ⟨[.imm 151, .imm 154], [.val 4 .imm]⟩),
  (99, ⟨[.imm 79, .iptr 82], [.val 4 .imm]⟩),
  (100, ⟨[.imm 94], [.val 4 .imm]⟩),
  (101, ⟨[.imm 82, .imm 79, .imm 94], [.val 3 .imm, .val 4 .imm, .val 4 .imm]⟩),
  (102, ⟨[.imm 82], [.val 4 .imm]⟩),
  (103, ⟨[.imm 80, .imm 3], [.val 3 .imm]⟩),
  (104, ⟨[.imm 82, .imm 80, .imm 3], [.val 4 .imm]⟩),
  (105, ⟨[.imm 80], [.val 80 (.slc .imm none)]⟩),
  (106, ⟨[.imm 82, .imm 76, .imm 3], [.val 76 (.slc .imm none)]⟩),
  (107, ⟨[.imm 76, .imm 3, .imm 3], [.val 76 (.slc .imm none)]⟩),
  (108, ⟨[.imm 80, .imm 80], [.val 4 .imm]⟩),
  (109, ⟨[.imm 3, .imm 3, .imm 3], [.val 4 .imm]⟩),
  (110, ⟨[.imm 30, .imm 113], [.val 3 .imm]⟩),
  (111, ⟨[.imm 35, .imm 121], [.val 3 .imm]⟩),
  (112, ⟨[.imm 46, .imm 120], [.val 3 .imm]⟩),
  (113, ⟨[.imm 51, .imm 125], [.val 3 .imm]⟩),
  (114, ⟨[.imm 3, .imm 3], [.val 3 .imm]⟩),
  (115, ⟨[.imm 3, .imm 3, .imm 3], [.val 4 .imm]⟩),
  (116, ⟨[.imm 65, .imm 3], [.val 4 .imm]⟩),
  (117, ⟨[.imm 82], [.val 4 .imm]⟩),
  (118, ⟨[.imm 82, .imm 3, .imm 3, .imm 3, .imm 3, .imm 3, .imm 3], [.val 4 .imm]⟩),
  (119, ⟨[.imm 141, .imm 4], [.val 3 .imm]⟩),
  (120, ⟨[.imm 100, .imm 3], [.val 4 .imm]⟩),
  (121, ⟨[.imm 94], [.val 100 .imm, .val 100 .imm]⟩),
  (122, ⟨[.imm 79], [.val 79 (.slc .imm none)]⟩),
  (123, ⟨[.imm 151, .imm 154], [.val 3 .imm]⟩),
  (124, ⟨[.imm 82, .imm 79, .imm 80], [.val 22 (.slc .imm none), .val 3 .imm, .val 4 .imm]⟩),
  (125, ⟨[.imm 80, .imm 3, .imm 3], [.val 4 .imm]⟩),
  (126, ⟨[.imm 22, .imm 175], [.val 4 .imm]⟩),
  (127, ⟨[.imm 3], [.val 4 .imm]⟩),
  (128, ⟨[.imm 3, .imm 3], [.val 3 .imm]⟩),
  (129, ⟨[.imm 80, .imm 3, .imm 3], [.val 4 .imm]⟩),
  (130, ⟨[.imm 3], [.val 4 .imm]⟩),
  (131, ⟨[.imm 65, .imm 177], [.val 4 .imm]⟩),
  (132, ⟨[.imm 73, .iptr 3], [.val 4 .imm]⟩),
  (133, ⟨[.imm 3, .imm 3], [.val 4 .imm]⟩),
  (134, ⟨[.imm 79, .imm 180], [.val 4 .imm]⟩),
  (135, ⟨[.imm 100, .iptr 82, .iptr 3, .iptr 3], [.val 4 .imm]⟩),
  (136, ⟨[.imm 22, .imm 175], [.val 3 .imm]⟩),
  (137, ⟨[.imm 65, .imm 177], [.val 3 .imm]⟩),
  (138, ⟨[.imm 79, .imm 180], [.val 3 .imm]⟩),
  (155, ⟨[.imm 146, .imm 82, .imm 3], [.val 4 .imm]⟩),
  (156, ⟨[.imm 80], [.val 4 .imm]⟩),
  (157, ⟨[.imm 147, .imm 82, .imm 3], [.val 4 .imm]⟩)]
def cmdL : List (Nat × List (Nat × List Cmd)) := [(12, [(6, [.frz 10 []])]),
  (14, [(6, [.frz 9 []])]),
  (23, [(10, [.frz 6 []])]),
  (44, [(8, [.frz 3 []])]),
  (45, [(15, [.frz 3 []])]),
  (47, [(2, [.frz 2 []])]),
  (49, [(10, [.frz 7 []])]),
  (50, [(3, [.frz 3 []]), (22, [.frz 3 [.fld 0]]), (25, [.frz 3 []])]),
  (51, [(23, [.frz 31 []])]),
  (52, [(20, [.frz 25 []])]),
  (54, [(13, [.frz 25 [.idx 0]]), (14, [.frz 9 []])]),
  (58, [(8, [.frz 3 []])]),
  (61, [(8, [.weak 12 (.agg [(0, (.slc .imm none))])]), (10, [.frz 12 []])]),
  (62, [(9, [.weak 13 (.agg [(0, (.slc .imm none))])]), (11, [.frz 13 []])]),
  (70, [(2, [.frz 1 []]), (4, [.frz 2 []])]),
  (88, [(2, [.frz 2 []])]),
  (89, [(14, [.frz 7 [], .weak 5 (.agg [(1, (.slc .imm none)), (2, (.slc .imm none))])]), (15, [.frz 5 []])]),
  (91, [(16, [.frz 6 []])]),
  (106, [(14, [.frz 9 []])]),
  (107, [(17, [.frz 9 []])]),
  (121, [(8, [.frz 3 []])])]
def loopL : List (Nat × List (Nat × (List Cmd × List Nat × List Nat))) := [(3, [(6, ([.thaw 6 (.slc (.slc .imm none) none), .home 6], [3, 4, 5, 6, 7], [4, 6, 9, 14]))]),
  (4, [(6, ([], [3, 4, 5, 6, 7, 20, 21], [4, 10, 15, 18]))]),
  (5, [(6, ([], [4, 12, 40, 41, 42], [33, 40])), (11, ([], [4, 12, 14, 15, 40, 41, 42], [33, 40])), (14, ([], [4, 12, 14, 15, 16, 40, 41, 42], [33, 40])), (19, ([], [4, 12, 14, 17, 40, 41, 42], [33, 40])), (27, ([], [4, 12, 98, 99], [33]))]),
  (6, [(7, ([], [4, 5, 43, 44], [18, 20])), (12, ([], [4, 5, 7, 8, 9, 10, 43, 44, 54, 55], [18, 20]))]),
  (7, [(6, ([], [1, 3, 13, 50, 51, 52], [41, 50])), (11, ([], [1, 3, 13, 16, 50, 51, 52, 67, 68, 69], [41, 50, 67])), (19, ([], [1, 3, 13, 16, 50, 51, 52, 101, 102, 103], [41, 50, 101]))]),
  (8, [(12, ([.thaw 22 .imm, .home 22], [3, 10, 11, 16, 22, 87, 88], [22, 30]))]),
  (9, [(5, ([.thaw 6 .imm, .home 6], [3, 4, 5, 6, 23, 24], [5, 6, 17, 19])), (14, ([], [4, 5, 6, 8, 49], [5, 6, 8, 19])), (18, ([], [4, 5, 6, 8, 10, 11, 12, 49, 60, 61, 62], [5, 6, 8, 19]))]),
  (10, [(7, ([], [4, 8, 44, 45, 46], [4, 8, 44]))]),
  (11, [(9, ([], [4, 5, 6, 7], [4, 6, 34])), (13, ([], [4, 5, 6, 7, 10], [4, 6, 34]))]),
  (13, [(10, ([.weak 52 .imm], [2, 7, 8, 12, 62, 63, 64], [8, 27, 52, 62])), (13, ([.weak 52 .imm], [2, 7, 8, 12, 14, 62, 63, 64, 72, 73, 74], [8, 14, 27, 52, 62, 72]))]),
  (17, [(3, ([], [0, 3, 5, 6], [0, 3, 14]))]),
  (19, [(5, ([], [2, 3, 7, 31, 32, 33], [3])), (10, ([], [2, 3, 7, 8, 10, 31, 32, 33, 42, 43, 44], [3, 41])), (13, ([], [2, 3, 7, 8, 10, 31, 32, 33, 42, 43, 44, 51, 52, 53], [3, 41])), (20, ([], [2, 3, 7, 15, 31, 32, 33, 62], [3, 41, 62]))]),
  (20, [(5, ([], [1, 2, 3, 7, 20, 21], [3])), (9, ([], [1, 2, 3, 7, 8, 9, 20, 21, 25, 26, 27], [3, 24])), (14, ([], [1, 2, 3, 7, 8, 9, 20, 21, 25, 26, 27, 39, 40, 41], [3, 24]))]),
  (23, [(3, ([.thaw 5 .imm, .home 5], [0, 5, 8, 9], [0, 5])), (7, ([], [0, 5, 6, 7, 8, 9], [0, 5, 6]))]),
  (26, [(2, ([], [0, 7, 8, 9], [])), (7, ([], [0, 7, 8, 9, 52, 53, 54], []))]),
  (29, [(3, ([], [0, 3, 6, 7, 10, 11, 12], [3]))]),
  (30, [(3, ([], [0, 1, 6, 7, 10, 11, 12], []))]),
  (32, [(3, ([], [0, 1, 2, 7, 14, 15, 16], [])), (8, ([], [0, 1, 2, 7, 14, 15, 16, 30, 31, 32], []))]),
  (33, [(3, ([], [0, 1, 2, 7, 14, 15, 16], [])), (8, ([], [0, 1, 2, 7, 14, 15, 16, 30, 31, 32], []))]),
  (35, [(4, ([.thaw 3 .imm, .home 3], [0, 3, 4, 5], [0, 3, 4]))]),
  (37, [(2, ([], [0, 5, 6, 7], []))]),
  (38, [(2, ([], [0, 8, 9, 10], [])), (10, ([], [0, 4, 8, 9, 10, 61, 62, 63], [4]))]),
  (39, [(8, ([.thaw 6 .imm, .home 6], [0, 1, 6, 7, 8, 26, 27], [6])), (12, ([.thaw 10 .imm, .home 10], [0, 1, 6, 7, 8, 9, 10, 26, 27, 31, 32], [6, 10]))]),
  (40, [(8, ([.thaw 6 .imm, .home 6], [0, 1, 6, 7, 8, 9], [6])), (12, ([.thaw 10 .imm, .home 10], [0, 1, 6, 7, 8, 9, 10, 33, 34], [6, 10]))]),
  (41, [(4, ([], [0, 1, 5], []))]),
  (42, [(5, ([], [0, 7, 8, 21, 22, 23], []))]),
  (43, [(5, ([], [0, 1, 7, 8, 14, 15, 16], []))]),
  (45, [(7, ([], [1, 3, 6, 33, 34, 35], [3, 6]))]),
  (46, [(2, ([], [0, 1, 5], []))]),
  (51, [(5, ([], [2, 3, 5, 33, 34, 35], [2, 3, 31])), (16, ([], [2, 3, 5, 33, 34, 35, 58, 59, 60], [2, 3, 31, 58]))]),
  (52, [(5, ([], [2, 3, 5, 27, 28, 29], [2, 3, 25])), (13, ([], [2, 3, 5, 6, 27, 28, 29, 69, 70, 71], [2, 3, 25, 69])), (21, ([], [97, 98, 99], []))]),
  (53, [(9, ([], [2, 3, 5, 24, 25, 26], [2, 3, 19]))]),
  (54, [(7, ([.weak 25 (.slc .imm none)], [2, 3, 5, 27, 28, 29], [2, 3, 25])), (17, ([], [2, 3, 5, 81, 82, 83], [2, 3, 25]))]),
  (55, [(3, ([], [3, 7, 8, 9], []))]),
  (56, [(3, ([], [3, 7, 8, 9], []))]),
  (57, [(4, ([], [1, 2, 21, 22, 23], [2])), (10, ([], [1, 2, 35, 36, 37], [2])), (14, ([], [1, 2, 9, 10, 35, 36, 37, 42, 43, 44], [2, 9])), (23, ([], [1, 13, 67, 68, 69], []))]),
  (58, [(3, ([], [1, 2, 3, 8, 9, 10], [1, 2, 3]))]),
  (59, [(4, ([], [1, 3, 5, 9, 10, 23, 24, 25], [3, 5, 21])), (13, ([], [1, 3, 5, 9, 10, 12, 13, 23, 24, 25, 67, 68, 69], [3, 5, 12, 13, 21])), (20, ([], [3, 5, 10, 94, 95, 96], [3, 5, 21]))]),
  (60, [(3, ([.thaw 5 .imm, .home 5], [0, 1, 5, 6], [0, 5]))]),
  (63, [(4, ([], [3, 23, 24, 25], [3]))]),
  (64, [(3, ([.thaw 6 .imm, .home 6], [0, 1, 4, 5, 6, 9, 10, 11], [4, 5, 6]))]),
  (78, [(2, ([], [1, 8, 9, 10], []))]),
  (83, [(2, ([], [0, 1, 9, 10, 11], []))]),
  (84, [(2, ([], [0, 1, 7, 8], []))]),
  (85, [(2, ([], [0, 1, 7, 8, 9], []))]),
  (86, [(8, ([], [1, 31, 32, 33], [1, 31]))]),
  (89, [(4, ([.weak 5 (.agg [(1, (.slc .imm none)), (2, (.slc .imm none))])], [0, 4, 5, 6], [0, 4, 5])), (9, ([], [0, 4, 5, 6, 7, 41, 42], [0, 4, 5, 7]))]),
  (90, [(3, ([.thaw 5 .imm, .home 5], [0, 5, 7, 8], [0, 5]))]),
  (91, [(5, ([], [1, 4, 6, 36, 37, 38], [4, 6])), (10, ([], [4, 6, 54, 55, 56], [4, 6]))]),
  (95, [(2, ([], [1, 6, 7, 8], [1]))]),
  (97, [(3, ([.weak 11 (.slc .imm none)], [3, 13, 14, 15], [11]))]),
  (101, [(5, ([], [3, 5, 9, 10, 39, 40, 41], [3, 5, 20]))]),
  (102, [(2, ([], [1, 6, 7, 8], [1]))]),
  (103, [(2, ([], [1, 7, 8, 9], []))]),
  (106, [(3, ([.thaw 7 .imm, .home 7], [2, 3, 7, 11, 12, 13], [3, 7])), (8, ([], [2, 3, 7, 9, 11, 12, 13, 29, 30], [3, 7, 9]))]),
  (107, [(3, ([.thaw 7 .imm, .home 7], [1, 2, 7, 13, 14, 15], [7])), (10, ([.thaw 10 .imm, .home 10], [1, 2, 7, 9, 10, 13, 14, 15, 37, 38, 39], [7, 9, 10]))]),
  (108, [(4, ([], [0, 1, 12, 13], []))]),
  (110, [(2, ([], [0, 1, 7, 8], []))]),
  (111, [(2, ([], [0, 1, 7, 8], []))]),
  (112, [(2, ([], [0, 1, 7, 8], []))]),
  (113, [(2, ([], [0, 1, 7, 8], []))]),
  (117, [(4, ([], [1, 38, 39, 40], [1]))]),
  (119, [(2, ([], [0, 1, 7, 8], []))]),
  (121, [(4, ([], [2, 3, 17, 18, 19], [2, 3]))]),
  (123, [(2, ([], [0, 1, 7, 8], []))]),
  (124, [(3, ([], [1, 3, 9, 10, 20, 21, 22], [3, 19])), (13, ([], [1, 3, 9, 10, 12, 20, 21, 22, 79, 80, 81], [3, 12, 19]))]),
  (125, [(2, ([], [0, 1, 2, 9, 10, 11], []))]),
  (129, [(2, ([], [0, 1, 2, 9, 10, 11], []))]),
  (136, [(2, ([], [0, 1, 7, 8], []))]),
  (137, [(2, ([], [0, 1, 7, 8], []))]),
  (138, [(2, ([], [0, 1, 7, 8], []))]),
  (156, [(2, ([], [0, 5, 6, 7], []))])]
def ownL : List (Nat × List Nat) := [(23, [22]), (58, [6]), (89, [16, 35]), (91, [26, 34, 49, 67, 74])]
def A : Ann :=
  { sig := fun f => assoc sigL f ⟨[], []⟩, cmd := fun f r => assoc (assoc cmdL f []) r [], loop := fun f r => assoc (assoc loopL f []) r ([], [], []), own := fun f d => (assoc ownL f []).any (Nat.beq d) }
/- timebound/timeboundmake.New -/
theorem E15 (n : Nat) (d0 : D) (Q : List D → Prop) : wpF Try.prog A (n + 1) 15 [d0] Q =
 (Q [(D.agg [d0, (D.int (0 : Int))])]) := by kernel_rfl

/- timebound/timeboundmake.Mod -/
theorem E31 (n : Nat) (d0 d1 : D) (Q : List D → Prop) : wpF Try.prog A (n + 1) 31 [d0, d1] Q =
 ((D.i d1) ≠ (0 : Int) ∧ ((D.i d1) ≠ (0 : Int) ∧ (Q [(D.int (Int.tmod (IntKind.wrap .i64 ((Int.tmod (D.i d0) (D.i d1)) + (D.i d1))) (D.i d1)))]))) := by kernel_rfl

/- (*timebound/timeboundmake.Deck).Next -/
theorem E18 (n : Nat) (d0 d1 : D) (Q : List D → Prop) : wpF Try.prog A (n + 1) 18 [d0, d1] Q =
 (cond (iLe (D.len (D.fld d0 0)) (D.i (D.fld d0 1)))
 (Q [(D.int (0 : Int)), d0])
 (cond (iLe (D.i d1) (1 : Int))
 (Q [(D.int (0 : Int)), d0])
 (True ∧ ((0 ≤ (IntKind.wrap .i64 ((IntKind.wrap .i64 ((D.i (D.fld d0 1)) + (1 : Int))) - (1 : Int))) ∧ (IntKind.wrap .i64 ((IntKind.wrap .i64 ((D.i (D.fld d0 1)) + (1 : Int))) - (1 : Int))) < (D.len (D.fld d0 0))) ∧ (wpF Try.prog A n 31 [(D.el (D.fld d0 0) (IntKind.wrap .i64 ((IntKind.wrap .i64 ((D.i (D.fld d0 1)) + (1 : Int))) - (1 : Int)))), d1] fun r1 =>
 (Q [(rs r1 0), (D.agg [(D.fld d0 0), (D.int (IntKind.wrap .i64 ((D.i (D.fld d0 1)) + (1 : Int))))])])))))) := by kernel_rfl

/- timebound/timeboundmake.Cache -/
theorem E65 (n : Nat) (d0 : D) (Q : List D → Prop) : wpF Try.prog A (n + 1) 65 [d0] Q =
 (wpF Try.prog A n 18 [d0, (D.int (5 : Int))] fun r1 =>
 (wpF Try.prog A n 18 [(rs r1 1), (D.int (3 : Int))] fun r2 =>
 (wpF Try.prog A n 18 [(rs r2 1), (D.int (4 : Int))] fun r3 =>
 (True ∧ (Q [(D.agg [(rs r1 0), (D.int (IntKind.wrap .i64 ((1 : Int) + (D.i (rs r2 0))))), (D.int (IntKind.wrap .i64 ((1 : Int) + (D.i (rs r3 0)))))]), (rs r3 1)]))))) := by kernel_rfl

/- timebound/timeboundmake2.Cache -/
theorem E16 (n : Nat) (d0 : D) (Q : List D → Prop) : wpF Try.prog A (n + 1) 16 [d0] Q =
 (wpF Try.prog A n 65 [d0] fun r1 =>
 (True ∧ (Q [(rs r1 0), (rs r1 1)]))) := by kernel_rfl

/- timebound/timeboundlaw38.lists -/
def L17_3 (n m0 : Nat) (x6 : D) (xo0 : D) (xo3 : D) (xo14 : D) (Q : List D → Prop) : Prop :=
  loopK (wpC Try.prog A (hnd Try.prog A n) 17 n (cA (cA (cB (cA (cB (cB (bodyOf Try.f17)))))))) (nmK (A.loop 17 3)) m0 { sl := [(0, .ptr 0 [] 110), (3, .ptr 3 [] 26), (5, .val 14 [] 28), (6, .imm 3 x6)], ob := [(0, some ⟨true, 110, .imm, xo0⟩), (3, some ⟨true, 26, .imm, xo3⟩), (14, some ⟨false, 28, (.slc (.slc .imm none) none), xo14⟩)] } (kBlock 0 (kSeq (wpC Try.prog A (hnd Try.prog A n) 17 n (cB (cB (cB (bodyOf Try.f17))))) (kEnd Try.prog Try.f17 (A.sig 17) Q)))
theorem L17_3_eq (n m0 : Nat) (x6 : D) (xo0 : D) (xo3 : D) (xo14 : D) (Q : List D → Prop) : L17_3 n (m0 + 1) x6 xo0 xo3 xo14 Q =
 (cond (iLt (0 : Int) (D.i x6))
 (cond (iLt (0 : Int) (D.len xo14))
 (wpF Try.prog A n 18 [xo0, (D.int (D.len xo14))] fun r3 =>
 ((0 ≤ (D.i (rs r3 0)) ∧ (D.i (rs r3 0)) < (D.len xo14)) ∧ (wpF Try.prog A n 18 [(rs r3 1), (D.int (5 : Int))] fun r4 =>
 (room (((List.length (D.xs (List.getD (D.xs xo14) (Int.toNat (D.i (rs r3 0))) D.und)) : Nat) : Int) + ((List.length [(D.int (IntKind.wrap .i64 ((D.i (rs r3 0)) + (IntKind.wrap .i64 ((D.i (D.fld xo3 0)) * (D.i (rs r4 0)))))))] : Nat) : Int)) 8 ∧ ((0 ≤ (D.i (rs r3 0)) ∧ (D.i (rs r3 0)) < (D.len xo14)) ∧ (((Int.toNat (D.i (rs r3 0))) = (Int.toNat (D.i (rs r3 0))) ∧ True) ∧ (L17_3 n  m0 (D.int (IntKind.wrap .i64 ((D.i x6) - (1 : Int)))) (rs r4 1) xo3 (D.slc (List.set (D.xs xo14) (Int.toNat (D.i (rs r3 0))) (D.slc ((D.xs (List.getD (D.xs xo14) (Int.toNat (D.i (rs r3 0))) D.und)) ++ [(D.int (IntKind.wrap .i64 ((D.i (rs r3 0)) + (IntKind.wrap .i64 ((D.i (D.fld xo3 0)) * (D.i (rs r4 0)))))))])))) Q)))))))
 (Q [xo14, xo0]))
 (Q [xo14, xo0])) := by kernel_rfl
theorem E17 (n : Nat) (d0 d1 : D) (Q : List D → Prop) : wpF Try.prog A (n + 1) 17 [d0, d1] Q =
 (wpF Try.prog A n 18 [d0, (D.int (12 : Int))] fun r1 =>
 ((11 : Int) ≠ (0 : Int) ∧ ((0 ≤ (IntKind.wrap .i64 ((D.i (D.fld d1 0)) + (IntKind.wrap .i64 (Int.tdiv (D.i (rs r1 0)) (11 : Int))))) ∧ (IntKind.wrap .i64 ((D.i (D.fld d1 0)) + (IntKind.wrap .i64 (Int.tdiv (D.i (rs r1 0)) (11 : Int))))) ≤ (IntKind.wrap .i64 ((D.i (D.fld d1 0)) + (IntKind.wrap .i64 (Int.tdiv (D.i (rs r1 0)) (11 : Int))))) ∧ room (IntKind.wrap .i64 ((D.i (D.fld d1 0)) + (IntKind.wrap .i64 (Int.tdiv (D.i (rs r1 0)) (11 : Int))))) 24) ∧ (wpF Try.prog A n 18 [(rs r1 1), (D.int (9 : Int))] fun r2 =>
 (L17_3 n  n (rs r2 0) (rs r2 1) d1 (D.slc (List.replicate (Int.toNat (IntKind.wrap .i64 ((D.i (D.fld d1 0)) + (IntKind.wrap .i64 (Int.tdiv (D.i (rs r1 0)) (11 : Int)))))) (D.slc ([] : List D)))) Q))))) := by kernel_rfl
attribute [irreducible] L17_3

/- timebound/cache.between -/
theorem E109 (n : Nat) (d0 d1 d2 : D) (Q : List D → Prop) : wpF Try.prog A (n + 1) 109 [d0, d1, d2] Q =
 (cond (iLe (D.i d1) (D.i d0))
 (Q [(D.bool (iLe (D.i d0) (D.i d2)))])
 (Q [(D.bool false)])) := by kernel_rfl

/- timebound/cache.Check -/
theorem E66 (n : Nat) (d0 : D) (Q : List D → Prop) : wpF Try.prog A (n + 1) 66 [d0] Q =
 (wpF Try.prog A n 109 [(D.fld d0 0), (D.int (0 : Int)), (D.int (8 : Int))] fun r1 =>
 (cond (!(D.b (rs r1 0)))
 (Q [(D.int (3 : Int))])
 (wpF Try.prog A n 109 [(D.fld d0 1), (D.int (1 : Int)), (D.int (4 : Int))] fun r2 =>
 (cond (!(D.b (rs r2 0)))
 (Q [(D.int (3 : Int))])
 (wpF Try.prog A n 109 [(D.fld d0 2), (D.int (1 : Int)), (D.int (8 : Int))] fun r3 =>
 (cond (!(D.b (rs r3 0)))
 (Q [(D.int (3 : Int))])
 (Q [(D.int (0 : Int))]))))))) := by kernel_rfl

/- slices.IndexFunc[[][][]int,[][]int] -/
def L110_2 (n m0 : Nat) (x0 : D) (x1 : D) (x7 : D) (x8 : D) (Q : List D → Prop) : Prop :=
  loopK (wpC Try.prog A (hnd Try.prog A n) 110 n (cA (cA (cB (cA (cB (bodyOf Try.f110))))))) (nmK (A.loop 110 2)) m0 { sl := [(0, .imm 30 x0), (1, .imm 113 x1), (7, .imm 3 x7), (8, .imm 3 x8)], ob := [] } (kBlock 0 (kSeq (wpC Try.prog A (hnd Try.prog A n) 110 n (cB (cB (bodyOf Try.f110)))) (kEnd Try.prog Try.f110 (A.sig 110) Q)))
theorem L110_2_eq (n m0 : Nat) (x0 : D) (x1 : D) (x7 : D) (x8 : D) (Q : List D → Prop) : L110_2 n (m0 + 1) x0 x1 x7 x8 Q =
 (cond (iLt (D.i x8) (D.i x7))
 ((0 ≤ (D.i x8) ∧ (D.i x8) < (D.len x0)) ∧ (dynH A (wpF Try.prog A n) x1 [.imm 28] [.val 4 .imm] [(D.el x0 (D.i x8))] fun r1 =>
 (cond (D.b (rs r1 0))
 (Q [x8])
 (L110_2 n  m0 x0 x1 x7 (D.int (IntKind.wrap .i64 ((D.i x8) + (1 : Int)))) Q))))
 (Q [(D.int (-1 : Int))])) := by kernel_rfl
theorem E110 (n : Nat) (d0 d1 : D) (Q : List D → Prop) : wpF Try.prog A (n + 1) 110 [d0, d1] Q =
 (L110_2 n  n d0 d1 (D.int (D.len d0)) (D.int (0 : Int)) Q) := by kernel_rfl
attribute [irreducible] L110_2

/- slices.ContainsFunc[[][][]int,[][]int] -/
theorem E67 (n : Nat) (d0 d1 : D) (Q : List D → Prop) : wpF Try.prog A (n + 1) 67 [d0, d1] Q =
 (wpF Try.prog A n 110 [d0, d1] fun r1 =>
 (Q [(D.bool (iLe (0 : Int) (D.i (rs r1 0))))])) := by kernel_rfl

/- timebound/evict.Common$1 -/
theorem E68 (n : Nat) (d0 d1 : D) (Q : List D → Prop) : wpF Try.prog A (n + 1) 68 [d0, d1] Q =
 (Q [(D.bool (!(iEq (D.len d0) (D.i (D.fld d1 0)))))]) := by kernel_rfl

/- timebound/evict.Common -/
def L19_5 (n m0 : Nat) (x2 : D) (x7 : D) (x31 : D) (x32 : D) (x33 : D) (xo3 : D) (Q : List D → Prop) : Prop :=
  loopK (wpC Try.prog A (hnd Try.prog A n) 19 n (cA (cA (cB (cA (cB (cB (cB (bodyOf Try.f19))))))))) (nmK (A.loop 19 5)) m0 { sl := [(2, .imm 30 x2), (3, .ptr 3 [] 26), (7, .imm 3 x7), (31, .imm 28 x31), (32, .imm 3 x32), (33, .imm 3 x33)], ob := [(3, some ⟨true, 26, .imm, xo3⟩)] } (kBlock 0 (kSeq (wpC Try.prog A (hnd Try.prog A n) 19 n (cB (cB (cB (cB (bodyOf Try.f19)))))) (kEnd Try.prog Try.f19 (A.sig 19) Q)))
def L19_10 (n m0 m1 : Nat) (x2 : D) (x7 : D) (x8 : D) (x31 : D) (x32 : D) (x33 : D) (x42 : D) (x43 : D) (x44 : D) (xo3 : D) (xo41 : D) (Q : List D → Prop) : Prop :=
  loopK (wpC Try.prog A (hnd Try.prog A n) 19 n (cA (cA (cB (cA (cB (cB (cB (cA (cA (cB (cB (cA (cA (cB (cA (cB (cB (cB (bodyOf Try.f19)))))))))))))))))))) (nmK (A.loop 19 10)) m1 { sl := [(2, .imm 30 x2), (3, .ptr 3 [] 26), (7, .imm 3 x7), (8, .imm 3 x8), (10, .val 41 [] 114), (31, .imm 28 x31), (32, .imm 3 x32), (33, .imm 3 x33), (42, .imm 30 x42), (43, .imm 3 x43), (44, .imm 3 x44)], ob := [(3, some ⟨true, 26, .imm, xo3⟩), (41, some ⟨false, 114, .mp, xo41⟩)] } (kBlock 2 (kSeq (wpC Try.prog A (hnd Try.prog A n) 19 n (cB (cB (cB (cB (cA (cA (cB (cB (cA (cA (cB (cA (cB (cB (cB (bodyOf Try.f19))))))))))))))))) (kBlock 1 (kSeq (wpC Try.prog A (hnd Try.prog A n) 19 n (cB (cB (cB (cA (cA (cB (cA (cB (cB (cB (bodyOf Try.f19)))))))))))) (kLoop (nmK (A.loop 19 5)) (fun g => loopK (wpC Try.prog A (hnd Try.prog A n) 19 n (cA (cA (cB (cA (cB (cB (cB (bodyOf Try.f19))))))))) (nmK (A.loop 19 5)) m0 g (kBlock 0 (kSeq (wpC Try.prog A (hnd Try.prog A n) 19 n (cB (cB (cB (cB (bodyOf Try.f19)))))) (kEnd Try.prog Try.f19 (A.sig 19) Q)))) (kBlock 0 (kSeq (wpC Try.prog A (hnd Try.prog A n) 19 n (cB (cB (cB (cB (bodyOf Try.f19)))))) (kEnd Try.prog Try.f19 (A.sig 19) Q))))))))
def L19_13 (n m0 m1 m2 : Nat) (x2 : D) (x7 : D) (x8 : D) (x31 : D) (x32 : D) (x33 : D) (x42 : D) (x43 : D) (x44 : D) (x51 : D) (x52 : D) (x53 : D) (xo3 : D) (xo41 : D) (Q : List D → Prop) : Prop :=
  loopK (wpC Try.prog A (hnd Try.prog A n) 19 n (cA (cA (cB (cB (cA (cA (cB (cB (cA (cA (cB (cA (cB (cB (cB (cA (cA (cB (cB (cA (cA (cB (cA (cB (cB (cB (bodyOf Try.f19)))))))))))))))))))))))))))) (nmK (A.loop 19 13)) m2 { sl := [(2, .imm 30 x2), (3, .ptr 3 [] 26), (7, .imm 3 x7), (8, .imm 3 x8), (10, .val 41 [] 114), (31, .imm 28 x31), (32, .imm 3 x32), (33, .imm 3 x33), (42, .imm 30 x42), (43, .imm 3 x43), (44, .imm 3 x44), (51, .imm 22 x51), (52, .imm 3 x52), (53, .imm 3 x53)], ob := [(3, some ⟨true, 26, .imm, xo3⟩), (41, some ⟨false, 114, .mp, xo41⟩)] } (kBlock 4 (kBlock 3 (kSeq (wpC Try.prog A (hnd Try.prog A n) 19 n (cB (cB (cB (cA (cA (cB (cA (cB (cB (cB (cA (cA (cB (cB (cA (cA (cB (cA (cB (cB (cB (bodyOf Try.f19))))))))))))))))))))))) (kLoop (nmK (A.loop 19 10)) (fun g => loopK (wpC Try.prog A (hnd Try.prog A n) 19 n (cA (cA (cB (cA (cB (cB (cB (cA (cA (cB (cB (cA (cA (cB (cA (cB (cB (cB (bodyOf Try.f19)))))))))))))))))))) (nmK (A.loop 19 10)) m1 g (kBlock 2 (kSeq (wpC Try.prog A (hnd Try.prog A n) 19 n (cB (cB (cB (cB (cA (cA (cB (cB (cA (cA (cB (cA (cB (cB (cB (bodyOf Try.f19))))))))))))))))) (kBlock 1 (kSeq (wpC Try.prog A (hnd Try.prog A n) 19 n (cB (cB (cB (cA (cA (cB (cA (cB (cB (cB (bodyOf Try.f19)))))))))))) (kLoop (nmK (A.loop 19 5)) (fun g => loopK (wpC Try.prog A (hnd Try.prog A n) 19 n (cA (cA (cB (cA (cB (cB (cB (bodyOf Try.f19))))))))) (nmK (A.loop 19 5)) m0 g (kBlock 0 (kSeq (wpC Try.prog A (hnd Try.prog A n) 19 n (cB (cB (cB (cB (bodyOf Try.f19)))))) (kEnd Try.prog Try.f19 (A.sig 19) Q)))) (kBlock 0 (kSeq (wpC Try.prog A (hnd Try.prog A n) 19 n (cB (cB (cB (cB (bodyOf Try.f19)))))) (kEnd Try.prog Try.f19 (A.sig 19) Q))))))))) (kBlock 2 (kSeq (wpC Try.prog A (hnd Try.prog A n) 19 n (cB (cB (cB (cB (cA (cA (cB (cB (cA (cA (cB (cA (cB (cB (cB (bodyOf Try.f19))))))))))))))))) (kBlock 1 (kSeq (wpC Try.prog A (hnd Try.prog A n) 19 n (cB (cB (cB (cA (cA (cB (cA (cB (cB (cB (bodyOf Try.f19)))))))))))) (kLoop (nmK (A.loop 19 5)) (fun g => loopK (wpC Try.prog A (hnd Try.prog A n) 19 n (cA (cA (cB (cA (cB (cB (cB (bodyOf Try.f19))))))))) (nmK (A.loop 19 5)) m0 g (kBlock 0 (kSeq (wpC Try.prog A (hnd Try.prog A n) 19 n (cB (cB (cB (cB (bodyOf Try.f19)))))) (kEnd Try.prog Try.f19 (A.sig 19) Q)))) (kBlock 0 (kSeq (wpC Try.prog A (hnd Try.prog A n) 19 n (cB (cB (cB (cB (bodyOf Try.f19)))))) (kEnd Try.prog Try.f19 (A.sig 19) Q))))))))))))
def L19_20 (n m0 m1 : Nat) (x2 : D) (x7 : D) (x15 : D) (x31 : D) (x32 : D) (x33 : D) (xo3 : D) (xo41 : D) (xo62 : D) (Q : List D → Prop) : Prop :=
  loopK (wpC Try.prog A (hnd Try.prog A n) 19 n (cA (cA (cB (cA (cB (cB (cB (cB (cB (cA (cA (cB (cB (cA (cA (cB (cA (cB (cB (cB (bodyOf Try.f19)))))))))))))))))))))) (nmK (A.loop 19 20)) m1 { sl := [(2, .imm 30 x2), (3, .ptr 3 [] 26), (7, .imm 3 x7), (15, .imm 3 x15), (31, .imm 28 x31), (32, .imm 3 x32), (33, .imm 3 x33), (62, .val 62 [.fld 41] 114)], ob := [(3, some ⟨true, 26, .imm, xo3⟩), (41, some ⟨false, 114, .mp, xo41⟩), (62, some ⟨false, 114, .it, xo62⟩)] } (kBlock 6 (kSeq (wpC Try.prog A (hnd Try.prog A n) 19 n (cB (cB (cB (cB (cB (cB (cA (cA (cB (cB (cA (cA (cB (cA (cB (cB (cB (bodyOf Try.f19))))))))))))))))))) (kBlock 1 (kSeq (wpC Try.prog A (hnd Try.prog A n) 19 n (cB (cB (cB (cA (cA (cB (cA (cB (cB (cB (bodyOf Try.f19)))))))))))) (kLoop (nmK (A.loop 19 5)) (fun g => loopK (wpC Try.prog A (hnd Try.prog A n) 19 n (cA (cA (cB (cA (cB (cB (cB (bodyOf Try.f19))))))))) (nmK (A.loop 19 5)) m0 g (kBlock 0 (kSeq (wpC Try.prog A (hnd Try.prog A n) 19 n (cB (cB (cB (cB (bodyOf Try.f19)))))) (kEnd Try.prog Try.f19 (A.sig 19) Q)))) (kBlock 0 (kSeq (wpC Try.prog A (hnd Try.prog A n) 19 n (cB (cB (cB (cB (bodyOf Try.f19)))))) (kEnd Try.prog Try.f19 (A.sig 19) Q))))))))
theorem L19_5_eq (n m0 : Nat) (x2 : D) (x7 : D) (x31 : D) (x32 : D) (x33 : D) (xo3 : D) (Q : List D → Prop) : L19_5 n (m0 + 1) x2 x7 x31 x32 x33 xo3 Q =
 (cond (iLt (D.i x33) (D.i x32))
 ((0 ≤ (D.i x33) ∧ (D.i x33) < (D.len x31)) ∧ (cond (iEq (D.len (D.el x31 (D.i x33))) (0 : Int))
 (L19_5 n  m0 x2 x7 x31 x32 (D.int (IntKind.wrap .i64 ((D.i x33) + (1 : Int)))) xo3 Q)
 (L19_10 n m0 n x2 x7 x33 x31 x32 x33 x2 (D.int (D.len x2)) (D.int (0 : Int)) xo3 (D.map []) Q)))
 (Q [x7])) := by kernel_rfl
theorem L19_10_eq (n m0 m1 : Nat) (x2 : D) (x7 : D) (x8 : D) (x31 : D) (x32 : D) (x33 : D) (x42 : D) (x43 : D) (x44 : D) (xo3 : D) (xo41 : D) (Q : List D → Prop) : L19_10 n m0 (m1 + 1) x2 x7 x8 x31 x32 x33 x42 x43 x44 xo3 xo41 Q =
 (cond (iLt (D.i x44) (D.i x43))
 ((0 ≤ (D.i x44) ∧ (D.i x44) < (D.len x42)) ∧ ((0 ≤ (D.i x8) ∧ (D.i x8) < (D.len (D.el x42 (D.i x44)))) ∧ (L19_13 n m0 m1 n x2 x7 x8 x31 x32 x33 x42 x43 x44 (D.el (D.el x42 (D.i x44)) (D.i x8)) (D.int (D.len (D.el (D.el x42 (D.i x44)) (D.i x8)))) (D.int (0 : Int)) xo3 xo41 Q)))
 (L19_20 n m0 n x2 x7 (D.int (0 : Int)) x31 x32 x33 xo3 xo41 (D.map (D.es xo41)) Q)) := by kernel_rfl
theorem L19_13_eq (n m0 m1 m2 : Nat) (x2 : D) (x7 : D) (x8 : D) (x31 : D) (x32 : D) (x33 : D) (x42 : D) (x43 : D) (x44 : D) (x51 : D) (x52 : D) (x53 : D) (xo3 : D) (xo41 : D) (Q : List D → Prop) : L19_13 n m0 m1 (m2 + 1) x2 x7 x8 x31 x32 x33 x42 x43 x44 x51 x52 x53 xo3 xo41 Q =
 (cond (iLt (D.i x53) (D.i x52))
 ((0 ≤ (D.i x53) ∧ (D.i x53) < (D.len x51)) ∧ (L19_13 n m0 m1 m2 x2 x7 x8 x31 x32 x33 x42 x43 x44 x51 x52 (D.int (IntKind.wrap .i64 ((D.i x53) + (1 : Int)))) xo3 (D.map (mapPut (D.es xo41) (D.el x51 (D.i x53)) (D.bool true))) Q))
 (L19_10 n m0 m1 x2 x7 x8 x31 x32 x33 x42 x43 (D.int (IntKind.wrap .i64 ((D.i x44) + (1 : Int)))) xo3 xo41 Q)) := by kernel_rfl
theorem L19_20_eq (n m0 m1 : Nat) (x2 : D) (x7 : D) (x15 : D) (x31 : D) (x32 : D) (x33 : D) (xo3 : D) (xo41 : D) (xo62 : D) (Q : List D → Prop) : L19_20 n m0 (m1 + 1) x2 x7 x15 x31 x32 x33 xo3 xo41 xo62 Q =
 ((D.es xo62 = [] → (L19_5 n  m0 x2 (D.int (IntKind.wrap .i64 ((D.i x7) + (minmax false (D.i (D.fld xo3 1)) (D.i x15))))) x31 x32 (D.int (IntKind.wrap .i64 ((D.i x33) + (1 : Int)))) xo3 Q)) ∧ ∀ i3, i3 < (D.es xo62).length → (L19_20 n m0 m1 x2 x7 (D.int (IntKind.wrap .i64 ((D.i x15) + (1 : Int)))) x31 x32 x33 xo3 xo41 (D.map ((D.es xo62).eraseIdx i3)) Q)) := by kernel_rfl
theorem E19 (n : Nat) (d0 d1 d2 : D) (Q : List D → Prop) : wpF Try.prog A (n + 1) 19 [d0, d1, d2] Q =
 (wpF Try.prog A n 66 [d0] fun r1 =>
 (cond (!(iEq (D.i (rs r1 0)) (0 : Int)))
 (Q [(D.int (0 : Int))])
 (cond (!(iEq (D.len d1) (D.i (D.fld d0 0))))
 (Q [(D.int (0 : Int))])
 (wpF Try.prog A n 67 [d2, (D.fn 68 [(D.ptr d0)])] fun r2 =>
 (cond (D.b (rs r2 0))
 (Q [(D.int (0 : Int))])
 (L19_5 n  n d2 (D.int (0 : Int)) d1 (D.int (D.len d1)) (D.int (0 : Int)) d0 Q)))))) := by kernel_rfl
attribute [irreducible] L19_5 L19_10 L19_13 L19_20

/- timebound/timeboundref38.Common -/
def L20_5 (n m0 : Nat) (x1 : D) (x2 : D) (x7 : D) (x20 : D) (x21 : D) (xo3 : D) (Q : List D → Prop) : Prop :=
  loopK (wpC Try.prog A (hnd Try.prog A n) 20 n (cA (cA (cB (cA (cB (cB (cB (bodyOf Try.f20))))))))) (nmK (A.loop 20 5)) m0 { sl := [(1, .imm 28 x1), (2, .imm 30 x2), (3, .ptr 3 [] 26), (7, .imm 3 x7), (20, .imm 3 x20), (21, .imm 3 x21)], ob := [(3, some ⟨true, 26, .imm, xo3⟩)] } (kBlock 0 (kSeq (wpC Try.prog A (hnd Try.prog A n) 20 n (cB (cB (cB (cB (bodyOf Try.f20)))))) (kEnd Try.prog Try.f20 (A.sig 20) Q)))
def L20_9 (n m0 m1 : Nat) (x1 : D) (x2 : D) (x7 : D) (x8 : D) (x20 : D) (x21 : D) (x25 : D) (x26 : D) (x27 : D) (xo3 : D) (xo24 : D) (Q : List D → Prop) : Prop :=
  loopK (wpC Try.prog A (hnd Try.prog A n) 20 n (cA (cA (cB (cA (cB (cB (cA (cA (cB (cB (cA (cA (cB (cA (cB (cB (cB (bodyOf Try.f20))))))))))))))))))) (nmK (A.loop 20 9)) m1 { sl := [(1, .imm 28 x1), (2, .imm 30 x2), (3, .ptr 3 [] 26), (7, .imm 3 x7), (8, .imm 3 x8), (9, .val 24 [] 114), (20, .imm 3 x20), (21, .imm 3 x21), (25, .imm 30 x25), (26, .imm 3 x26), (27, .imm 3 x27)], ob := [(3, some ⟨true, 26, .imm, xo3⟩), (24, some ⟨false, 114, .mp, xo24⟩)] } (kBlock 2 (kSeq (wpC Try.prog A (hnd Try.prog A n) 20 n (cB (cB (cB (cA (cA (cB (cB (cA (cA (cB (cA (cB (cB (cB (bodyOf Try.f20)))))))))))))))) (kBlock 1 (kSeq (wpC Try.prog A (hnd Try.prog A n) 20 n (cB (cB (cB (cA (cA (cB (cA (cB (cB (cB (bodyOf Try.f20)))))))))))) (kLoop (nmK (A.loop 20 5)) (fun g => loopK (wpC Try.prog A (hnd Try.prog A n) 20 n (cA (cA (cB (cA (cB (cB (cB (bodyOf Try.f20))))))))) (nmK (A.loop 20 5)) m0 g (kBlock 0 (kSeq (wpC Try.prog A (hnd Try.prog A n) 20 n (cB (cB (cB (cB (bodyOf Try.f20)))))) (kEnd Try.prog Try.f20 (A.sig 20) Q)))) (kBlock 0 (kSeq (wpC Try.prog A (hnd Try.prog A n) 20 n (cB (cB (cB (cB (bodyOf Try.f20)))))) (kEnd Try.prog Try.f20 (A.sig 20) Q))))))))
def L20_14 (n m0 m1 m2 : Nat) (x1 : D) (x2 : D) (x7 : D) (x8 : D) (x20 : D) (x21 : D) (x25 : D) (x26 : D) (x27 : D) (x39 : D) (x40 : D) (x41 : D) (xo3 : D) (xo24 : D) (Q : List D → Prop) : Prop :=
  loopK (wpC Try.prog A (hnd Try.prog A n) 20 n (cA (cA (cB (cB (cB (cA (cA (cB (cB (cA (cA (cB (cA (cB (cB (cA (cA (cB (cB (cA (cA (cB (cA (cB (cB (cB (bodyOf Try.f20)))))))))))))))))))))))))))) (nmK (A.loop 20 14)) m2 { sl := [(1, .imm 28 x1), (2, .imm 30 x2), (3, .ptr 3 [] 26), (7, .imm 3 x7), (8, .imm 3 x8), (9, .val 24 [] 114), (20, .imm 3 x20), (21, .imm 3 x21), (25, .imm 30 x25), (26, .imm 3 x26), (27, .imm 3 x27), (39, .imm 22 x39), (40, .imm 3 x40), (41, .imm 3 x41)], ob := [(3, some ⟨true, 26, .imm, xo3⟩), (24, some ⟨false, 114, .mp, xo24⟩)] } (kBlock 4 (kBlock 3 (kSeq (wpC Try.prog A (hnd Try.prog A n) 20 n (cB (cB (cB (cA (cA (cB (cA (cB (cB (cA (cA (cB (cB (cA (cA (cB (cA (cB (cB (cB (bodyOf Try.f20)))))))))))))))))))))) (kLoop (nmK (A.loop 20 9)) (fun g => loopK (wpC Try.prog A (hnd Try.prog A n) 20 n (cA (cA (cB (cA (cB (cB (cA (cA (cB (cB (cA (cA (cB (cA (cB (cB (cB (bodyOf Try.f20))))))))))))))))))) (nmK (A.loop 20 9)) m1 g (kBlock 2 (kSeq (wpC Try.prog A (hnd Try.prog A n) 20 n (cB (cB (cB (cA (cA (cB (cB (cA (cA (cB (cA (cB (cB (cB (bodyOf Try.f20)))))))))))))))) (kBlock 1 (kSeq (wpC Try.prog A (hnd Try.prog A n) 20 n (cB (cB (cB (cA (cA (cB (cA (cB (cB (cB (bodyOf Try.f20)))))))))))) (kLoop (nmK (A.loop 20 5)) (fun g => loopK (wpC Try.prog A (hnd Try.prog A n) 20 n (cA (cA (cB (cA (cB (cB (cB (bodyOf Try.f20))))))))) (nmK (A.loop 20 5)) m0 g (kBlock 0 (kSeq (wpC Try.prog A (hnd Try.prog A n) 20 n (cB (cB (cB (cB (bodyOf Try.f20)))))) (kEnd Try.prog Try.f20 (A.sig 20) Q)))) (kBlock 0 (kSeq (wpC Try.prog A (hnd Try.prog A n) 20 n (cB (cB (cB (cB (bodyOf Try.f20)))))) (kEnd Try.prog Try.f20 (A.sig 20) Q))))))))) (kBlock 2 (kSeq (wpC Try.prog A (hnd Try.prog A n) 20 n (cB (cB (cB (cA (cA (cB (cB (cA (cA (cB (cA (cB (cB (cB (bodyOf Try.f20)))))))))))))))) (kBlock 1 (kSeq (wpC Try.prog A (hnd Try.prog A n) 20 n (cB (cB (cB (cA (cA (cB (cA (cB (cB (cB (bodyOf Try.f20)))))))))))) (kLoop (nmK (A.loop 20 5)) (fun g => loopK (wpC Try.prog A (hnd Try.prog A n) 20 n (cA (cA (cB (cA (cB (cB (cB (bodyOf Try.f20))))))))) (nmK (A.loop 20 5)) m0 g (kBlock 0 (kSeq (wpC Try.prog A (hnd Try.prog A n) 20 n (cB (cB (cB (cB (bodyOf Try.f20)))))) (kEnd Try.prog Try.f20 (A.sig 20) Q)))) (kBlock 0 (kSeq (wpC Try.prog A (hnd Try.prog A n) 20 n (cB (cB (cB (cB (bodyOf Try.f20)))))) (kEnd Try.prog Try.f20 (A.sig 20) Q))))))))))))
theorem L20_5_eq (n m0 : Nat) (x1 : D) (x2 : D) (x7 : D) (x20 : D) (x21 : D) (xo3 : D) (Q : List D → Prop) : L20_5 n (m0 + 1) x1 x2 x7 x20 x21 xo3 Q =
 (cond (iLt (D.i x21) (D.i x20))
 (L20_9 n m0 n x1 x2 x7 x21 x20 x21 x2 (D.int (D.len x2)) (D.int (0 : Int)) xo3 (D.map []) Q)
 (Q [x7])) := by kernel_rfl
theorem L20_9_eq (n m0 m1 : Nat) (x1 : D) (x2 : D) (x7 : D) (x8 : D) (x20 : D) (x21 : D) (x25 : D) (x26 : D) (x27 : D) (xo3 : D) (xo24 : D) (Q : List D → Prop) : L20_9 n m0 (m1 + 1) x1 x2 x7 x8 x20 x21 x25 x26 x27 xo3 xo24 Q =
 (cond (iLt (D.i x27) (D.i x26))
 ((0 ≤ (D.i x27) ∧ (D.i x27) < (D.len x25)) ∧ (cond (!(iEq (D.len (D.el x25 (D.i x27))) (D.i (D.fld xo3 0))))
 (Q [(D.int (0 : Int))])
 ((0 ≤ (D.i x8) ∧ (D.i x8) < (D.len (D.el x25 (D.i x27)))) ∧ (L20_14 n m0 m1 n x1 x2 x7 x8 x20 x21 x25 x26 x27 (D.el (D.el x25 (D.i x27)) (D.i x8)) (D.int (D.len (D.el (D.el x25 (D.i x27)) (D.i x8)))) (D.int (0 : Int)) xo3 xo24 Q))))
 ((0 ≤ (D.i x8) ∧ (D.i x8) < (D.len x1)) ∧ (cond (iLt (0 : Int) (D.len (D.el x1 (D.i x8))))
 (L20_5 n  m0 x1 x2 (D.int (IntKind.wrap .i64 ((D.i x7) + (minmax false (D.i (D.fld xo3 1)) (((D.es xo24).length : Int)))))) x20 (D.int (IntKind.wrap .i64 ((D.i x21) + (1 : Int)))) xo3 Q)
 (L20_5 n  m0 x1 x2 x7 x20 (D.int (IntKind.wrap .i64 ((D.i x21) + (1 : Int)))) xo3 Q)))) := by kernel_rfl
theorem L20_14_eq (n m0 m1 m2 : Nat) (x1 : D) (x2 : D) (x7 : D) (x8 : D) (x20 : D) (x21 : D) (x25 : D) (x26 : D) (x27 : D) (x39 : D) (x40 : D) (x41 : D) (xo3 : D) (xo24 : D) (Q : List D → Prop) : L20_14 n m0 m1 (m2 + 1) x1 x2 x7 x8 x20 x21 x25 x26 x27 x39 x40 x41 xo3 xo24 Q =
 (cond (iLt (D.i x41) (D.i x40))
 ((0 ≤ (D.i x41) ∧ (D.i x41) < (D.len x39)) ∧ (L20_14 n m0 m1 m2 x1 x2 x7 x8 x20 x21 x25 x26 x27 x39 x40 (D.int (IntKind.wrap .i64 ((D.i x41) + (1 : Int)))) xo3 (D.map (mapPut (D.es xo24) (D.el x39 (D.i x41)) (D.bool true))) Q))
 (L20_9 n m0 m1 x1 x2 x7 x8 x20 x21 x25 x26 (D.int (IntKind.wrap .i64 ((D.i x27) + (1 : Int)))) xo3 xo24 Q)) := by kernel_rfl
theorem E20 (n : Nat) (d0 d1 d2 : D) (Q : List D → Prop) : wpF Try.prog A (n + 1) 20 [d0, d1, d2] Q =
 (cond (!(iEq (D.len d1) (D.i (D.fld d0 0))))
 (Q [(D.int (0 : Int))])
 (L20_5 n  n d1 d2 (D.int (0 : Int)) (D.int (D.len d1)) (D.int (0 : Int)) d0 Q)) := by kernel_rfl
attribute [irreducible] L20_5 L20_9 L20_14

/- timebound/evict.Refill -/
theorem E69 (n : Nat) (d0 : D) (Q : List D → Prop) : wpF Try.prog A (n + 1) 69 [d0] Q =
 (Q [(D.int (IntKind.wrap .i64 ((IntKind.wrap .i64 ((IntKind.wrap .i64 ((IntKind.wrap .i64 ((D.i (D.fld d0 2)) * (IntKind.wrap .i64 ((IntKind.wrap .i64 ((D.i (D.fld (D.fld d0 0) 0)) * (D.i (D.fld (D.fld d0 0) 1)))) + (IntKind.wrap .i64 ((D.i (D.fld (D.fld d0 1) 0)) * (D.i (D.fld (D.fld d0 1) 1)))))))) + (IntKind.wrap .i64 ((D.i (D.fld d0 7)) * (D.i (D.fld d0 6)))))) + (IntKind.wrap .i64 ((D.i (D.fld d0 5)) * (D.i (D.fld d0 3)))))) + (D.i (D.fld d0 8)))))]) := by kernel_rfl

/- timebound/timeboundlaw38.awake -/
theorem E21 (n : Nat)  (Q : List D → Prop) : wpF Try.prog A (n + 1) 21 [] Q =
 (True ∧ (True ∧ (wpF Try.prog A n 19 [(D.agg [(D.int (2 : Int)), (D.int (2 : Int)), (D.int (1 : Int))]), (D.slc [(D.slc [(D.int (0 : Int))]), (D.slc ([] : List D))]), (D.slc [(D.slc [(D.slc [(D.int (2 : Int)), (D.int (4 : Int)), (D.int (6 : Int))]), (D.slc [(D.int (1 : Int))])]), (D.slc [(D.slc [(D.int (2 : Int))]), (D.slc ([] : List D))])])] fun r1 =>
 (cond (iEq (D.i (rs r1 0)) (2 : Int))
 (wpF Try.prog A n 69 [(D.agg [(D.agg [(D.int (2 : Int)), (D.int (2 : Int)), (D.int (1 : Int))]), (D.agg [(D.int (2 : Int)), (D.int (2 : Int)), (D.int (1 : Int))]), (D.int (10 : Int)), (D.int (1 : Int)), (D.int (1 : Int)), (D.int (2 : Int)), (D.int (3 : Int)), (D.int (1 : Int)), (D.int (4 : Int)), (D.int (0 : Int)), (D.int (0 : Int)), (D.slc ([] : List D)), (D.slc ([] : List D))])] fun r2 =>
 (Q [(D.bool (iEq (D.i (rs r2 0)) (89 : Int)))]))
 (Q [(D.bool false)]))))) := by kernel_rfl

/- timebound/timeboundlaw38.EvictCommon -/
def L3_6 (n m0 : Nat) (x7 : D) (xo4 : D) (xo6 : D) (xo9 : D) (xo14 : D) (Q : List D → Prop) : Prop :=
  loopK (wpC Try.prog A (hnd Try.prog A n) 3 n (cA (cA (cB (cA (cB (cB (cB (cB (cB (bodyOf Try.f3))))))))))) (nmK (A.loop 3 6)) m0 { sl := [(3, .ptr 9 [] 110), (4, .ptr 4 [] 26), (5, .val 14 [] 28), (6, .val 6 [] 30), (7, .imm 3 x7)], ob := [(4, some ⟨true, 26, .imm, xo4⟩), (6, some ⟨false, 30, (.slc (.slc (.slc .imm none) none) none), xo6⟩), (9, some ⟨true, 110, .imm, xo9⟩), (14, some ⟨false, 28, (.slc (.slc .imm none) none), xo14⟩)] } (kBlock 0 (kSeq (wpC Try.prog A (hnd Try.prog A n) 3 n (cB (cB (cB (cB (cB (cB (bodyOf Try.f3)))))))) (kEnd Try.prog Try.f3 (A.sig 3) Q)))
theorem L3_6_eq (n m0 : Nat) (x7 : D) (xo4 : D) (xo6 : D) (xo9 : D) (xo14 : D) (Q : List D → Prop) : L3_6 n (m0 + 1) x7 xo4 xo6 xo9 xo14 Q =
 (cond (iLt (0 : Int) (D.i x7))
 (wpF Try.prog A n 17 [xo9, xo4] fun r5 =>
 (room (((List.length (D.xs xo6) : Nat) : Int) + ((List.length [(rs r5 0)] : Nat) : Int)) 24 ∧ (L3_6 n  m0 (D.int (IntKind.wrap .i64 ((D.i x7) - (1 : Int)))) xo4 (D.slc ((D.xs xo6) ++ [(rs r5 0)])) (rs r5 1) xo14 Q)))
 (wpF Try.prog A n 19 [xo4, xo14, xo6] fun r6 =>
 (wpF Try.prog A n 20 [xo4, xo14, xo6] fun r7 =>
 (cond (iEq (D.i (rs r6 0)) (D.i (rs r7 0)))
 (wpF Try.prog A n 21 [] fun r8 =>
 (Q [(rs r8 0)]))
 (Q [(D.bool false)]))))) := by kernel_rfl
theorem E3 (n : Nat) (d0 : D) (Q : List D → Prop) : wpF Try.prog A (n + 1) 3 [d0] Q =
 (wpF Try.prog A n 15 [d0] fun r1 =>
 (wpF Try.prog A n 16 [(rs r1 0)] fun r2 =>
 (True ∧ (wpF Try.prog A n 17 [(rs r2 1), (rs r2 0)] fun r3 =>
 (wpF Try.prog A n 18 [(rs r3 1), (D.int (4 : Int))] fun r4 =>
 (L3_6 n  n (rs r4 0) (rs r2 0) (D.slc ([] : List D)) (rs r4 1) (rs r3 0) Q)))))) := by kernel_rfl
attribute [irreducible] L3_6

/- timebound/timeboundlaw38.EvictApart -/
def L4_6 (n m0 : Nat) (x7 : D) (x20 : D) (x21 : D) (xo4 : D) (xo10 : D) (xo15 : D) (xo18 : D) (Q : List D → Prop) : Prop :=
  loopK (wpC Try.prog A (hnd Try.prog A n) 4 n (cA (cA (cB (cA (cB (cB (cB (cB (cB (bodyOf Try.f4))))))))))) (nmK (A.loop 4 6)) m0 { sl := [(3, .ptr 10 [] 110), (4, .ptr 4 [] 26), (5, .val 15 [] 28), (6, .val 18 [] 28), (7, .imm 3 x7), (20, .imm 3 x20), (21, .imm 3 x21)], ob := [(4, some ⟨true, 26, .imm, xo4⟩), (10, some ⟨true, 110, .imm, xo10⟩), (15, some ⟨false, 28, (.slc (.slc .imm none) none), xo15⟩), (18, some ⟨false, 28, (.slc (.slc .imm none) none), xo18⟩)] } (kBlock 0 (kSeq (wpC Try.prog A (hnd Try.prog A n) 4 n (cB (cB (cB (cB (cB (cB (bodyOf Try.f4)))))))) (kEnd Try.prog Try.f4 (A.sig 4) Q)))
theorem L4_6_eq (n m0 : Nat) (x7 : D) (x20 : D) (x21 : D) (xo4 : D) (xo10 : D) (xo15 : D) (xo18 : D) (Q : List D → Prop) : L4_6 n (m0 + 1) x7 x20 x21 xo4 xo10 xo15 xo18 Q =
 (cond (iLt (D.i x21) (D.i x20))
 (wpF Try.prog A n 18 [xo10, (D.int (4 : Int))] fun r3 =>
 (cond (iEq (D.i (rs r3 0)) (0 : Int))
 ((0 ≤ (D.i x21) ∧ (D.i x21) < (D.len xo15)) ∧ (True ∧ (L4_6 n  m0 x7 x20 (D.int (IntKind.wrap .i64 ((D.i x21) + (1 : Int)))) xo4 (rs r3 1) (D.slc (List.set (D.xs xo15) (Int.toNat (D.i x21)) (D.slc [x21]))) xo18 Q)))
 (cond (iEq (D.i (rs r3 0)) (1 : Int))
 ((0 ≤ (D.i x21) ∧ (D.i x21) < (D.len xo18)) ∧ (True ∧ (L4_6 n  m0 x7 x20 (D.int (IntKind.wrap .i64 ((D.i x21) + (1 : Int)))) xo4 (rs r3 1) xo15 (D.slc (List.set (D.xs xo18) (Int.toNat (D.i x21)) (D.slc [(D.int (IntKind.wrap .i64 ((D.i x21) + (D.i (D.fld xo4 0)))))]))) Q)))
 (cond (iEq (D.i (rs r3 0)) (2 : Int))
 ((0 ≤ (D.i x21) ∧ (D.i x21) < (D.len xo15)) ∧ (True ∧ ((0 ≤ (D.i x21) ∧ (D.i x21) < (D.len xo18)) ∧ (True ∧ (L4_6 n  m0 (D.int (IntKind.wrap .i64 ((D.i x7) + (minmax false (2 : Int) (D.i (D.fld xo4 1)))))) x20 (D.int (IntKind.wrap .i64 ((D.i x21) + (1 : Int)))) xo4 (rs r3 1) (D.slc (List.set (D.xs xo15) (Int.toNat (D.i x21)) (D.slc [x21]))) (D.slc (List.set (D.xs xo18) (Int.toNat (D.i x21)) (D.slc [x21, (D.int (IntKind.wrap .i64 ((D.i x21) + (D.i (D.fld xo4 0)))))]))) Q)))))
 (L4_6 n  m0 x7 x20 (D.int (IntKind.wrap .i64 ((D.i x21) + (1 : Int)))) xo4 (rs r3 1) xo15 xo18 Q)))))
 (wpF Try.prog A n 19 [xo4, xo15, (D.slc [xo18])] fun r4 =>
 (cond (iEq (D.i (rs r4 0)) (D.i x7))
 (wpF Try.prog A n 19 [xo4, xo15, (D.slc ([] : List D))] fun r5 =>
 (cond (iEq (D.i (rs r5 0)) (0 : Int))
 (wpF Try.prog A n 21 [] fun r6 =>
 (Q [(rs r6 0)]))
 (Q [(D.bool false)])))
 (Q [(D.bool false)])))) := by kernel_rfl
theorem E4 (n : Nat) (d0 : D) (Q : List D → Prop) : wpF Try.prog A (n + 1) 4 [d0] Q =
 (wpF Try.prog A n 15 [d0] fun r1 =>
 (wpF Try.prog A n 16 [(rs r1 0)] fun r2 =>
 (True ∧ ((0 ≤ (D.i (D.fld (rs r2 0) 0)) ∧ (D.i (D.fld (rs r2 0) 0)) ≤ (D.i (D.fld (rs r2 0) 0)) ∧ room (D.i (D.fld (rs r2 0) 0)) 24) ∧ ((0 ≤ (D.i (D.fld (rs r2 0) 0)) ∧ (D.i (D.fld (rs r2 0) 0)) ≤ (D.i (D.fld (rs r2 0) 0)) ∧ room (D.i (D.fld (rs r2 0) 0)) 24) ∧ (L4_6 n  n (D.int (0 : Int)) (D.fld (rs r2 0) 0) (D.int (0 : Int)) (rs r2 0) (rs r2 1) (D.slc (List.replicate (Int.toNat (D.i (D.fld (rs r2 0) 0))) (D.slc ([] : List D)))) (D.slc (List.replicate (Int.toNat (D.i (D.fld (rs r2 0) 0))) (D.slc ([] : List D)))) Q)))))) := by kernel_rfl
attribute [irreducible] L4_6
end Go.Ab

/- The deck of a law: numbers that are taken one after the other; the cache that it makes. -/
namespace Go.Ab
open Go.Proofs

/-- A deck at some place. -/
def Dk (d : D) : Prop := ∃ (l : List Int) (a : Int), d = deck l a ∧ 0 ≤ a ∧ a ≤ l.length ∧ l.length ≤ 2000000

theorem mod_wp {n : Nat} (hn : 1 ≤ n) {x k : Int} {Q : List D → Prop} (hk : 1 ≤ k) (hk2 : k ≤ 4000000000000) (h : 0 ≤ Int.tmod (Int.tmod x k + k) k → Int.tmod (Int.tmod x k + k) k < k → Q [.int (Int.tmod (Int.tmod x k + k) k)]) :
    wpF Try.prog A n 31 [.int x, .int k] Q := by
  obtain ⟨m, rfl⟩ : ∃ m, n = m + 1 := ⟨n - 1, by omega⟩
  rw [E31]
  simp only [i_int]
  have h1 : -k < Int.tmod x k := Int.lt_tmod_of_pos x (by omega)
  have h2 : Int.tmod x k < k := Int.tmod_lt_of_pos x (by omega)
  rw [wrap_id (by omega) (by omega)]
  exact ⟨by omega, by omega, h (Int.tmod_nonneg _ (by omega)) (Int.tmod_lt_of_pos _ (by omega))⟩

theorem next_wp {n : Nat} (hn : 2 ≤ n) {d : D} {k : Int} {Q : List D → Prop} (hd : Dk d) (hk : 1 ≤ k) (hk2 : k ≤ 4000000000000) (h : ∀ v d', 0 ≤ v → v < k → Dk d' → Q [.int v, d']) :
    wpF Try.prog A n 18 [d, .int k] Q := by
  obtain ⟨l, a, rfl, h1, h2, h3⟩ := hd
  obtain ⟨m, rfl⟩ : ∃ m, n = m + 1 := ⟨n - 1, by omega⟩
  rw [E18]
  simp only [deck, fld0, fldS, i_int, len_lst]
  have hdk : Dk (deck l a) := ⟨l, a, rfl, h1, h2, h3⟩
  refine cLe (fun c => ?_) fun c => ?_
  · exact h 0 _ (by omega) (by omega) hdk
  · refine cLe (fun c2 => ?_) fun c2 => ?_
    · exact h 0 _ (by omega) (by omega) hdk
    · simp (disch := omega) only [wrap_id]
      rw [show a + 1 - 1 = a by omega]
      obtain ⟨b, rfl⟩ : ∃ b : Nat, a = (b : Int) := ⟨a.toNat, by omega⟩
      rw [el_lst l b (by omega)]
      refine ⟨trivial, by omega, mod_wp (by omega) hk hk2 fun h4 h5 => ?_⟩
      exact h _ _ h4 h5 ⟨l, _, rfl, by omega, by omega, h3⟩

theorem new_wp {n : Nat} (hn : 1 ≤ n) {l : List Int} {Q : List D → Prop} (hl : l.length ≤ 2000000) (h : ∀ d, Dk d → Q [d]) : wpF Try.prog A n 15 [lst l] Q := by
  obtain ⟨m, rfl⟩ : ∃ m, n = m + 1 := ⟨n - 1, by omega⟩
  rw [E15]
  exact h _ ⟨l, 0, rfl, by omega, by omega, hl⟩

/-- A cache. -/
def cch (s w b : Int) : D := .agg [.int s, .int w, .int b]

theorem mcache_wp {n : Nat} (hn : 3 ≤ n) {d : D} {Q : List D → Prop} (hd : Dk d)
    (h : ∀ s w b d', 0 ≤ s → s ≤ 4 → 1 ≤ w → w ≤ 3 → 1 ≤ b → b ≤ 4 → Dk d' → Q [cch s w b, d']) : wpF Try.prog A n 65 [d] Q := by
  obtain ⟨m, rfl⟩ : ∃ m, n = m + 1 := ⟨n - 1, by omega⟩
  rw [E65]
  refine next_wp (by omega) hd (by omega) (by omega) fun v1 d1 h1 h1' hd1 => ?_
  simp only [rs0, rsS]
  refine next_wp (by omega) hd1 (by omega) (by omega) fun v2 d2 h2 h2' hd2 => ?_
  simp only [rs0, rsS]
  refine next_wp (by omega) hd2 (by omega) (by omega) fun v3 d3 h3 h3' hd3 => ?_
  simp only [rs0, rsS, i_int]
  simp (disch := omega) only [wrap_id]
  exact ⟨trivial, h _ _ _ _ h1 (by omega) (by omega) (by omega) (by omega) (by omega) hd3⟩

theorem cache_wp {n : Nat} (hn : 4 ≤ n) {d : D} {Q : List D → Prop} (hd : Dk d)
    (h : ∀ s w b d', 0 ≤ s → s ≤ 4 → 1 ≤ w → w ≤ 3 → 1 ≤ b → b ≤ 4 → Dk d' → Q [cch s w b, d']) : wpF Try.prog A n 16 [d] Q := by
  obtain ⟨m, rfl⟩ : ∃ m, n = m + 1 := ⟨n - 1, by omega⟩
  rw [E16]
  refine mcache_wp (by omega) hd fun s w b d' h1 h2 h3 h4 h5 h6 hd' => ?_
  simp only [rs0, rsS]
  exact ⟨trivial, h _ _ _ _ h1 h2 h3 h4 h5 h6 hd'⟩

end Go.Ab

/- What the two answers for common cache lines compute: one and the same sum. -/
namespace Go.Ab
open Go.Proofs
attribute [local irreducible] wpF

def adds (es : List (D × D)) (l : List Int) : List (D × D) := l.foldl (fun es x => mapPut es (.int x) (.bool true)) es
def seen (es : List (D × D)) (s : Nat) (others : List (List (List Int))) : List (D × D) := others.foldl (fun es o => adds es (o.getD s [])) es
def cnt (others : List (List (List Int))) (s : Nat) : Nat := (seen [] s others).length
def comC (w : Int) (others : List (List (List Int))) : Nat → List (List Int) → Int
  | _, [] => 0
  | k, m :: r => (if m.length = 0 then 0 else minmax false w (cnt others k)) + comC w others (k + 1) r
def commonV (s w : Int) (mine : List (List Int)) (others : List (List (List Int))) : Int :=
  if (mine.length : Int) = s ∧ ∀ o ∈ others, (o.length : Int) = s then comC w others 0 mine else 0

theorem put_len (es : List (D × D)) (k v : D) : (mapPut es k v).length ≤ es.length + 1 := by
  induction es with
  | nil => simp [mapPut]
  | cons x es ih =>
    simp only [mapPut]
    cases D.same 8 x.1 k <;> simp <;> omega
theorem adds_len (l : List Int) : ∀ es, (adds es l).length ≤ es.length + l.length := by
  induction l with
  | nil => intro es; simp [adds]
  | cons x l ih =>
    intro es
    have := ih (mapPut es (.int x) (.bool true))
    have := put_len es (.int x) (.bool true)
    simp only [adds, List.foldl_cons, List.length_cons] at *
    omega
theorem seen_len {B s : Nat} : ∀ (others : List (List (List Int))) (es : List (D × D)), (∀ o ∈ others, ∀ l ∈ o, l.length ≤ B) → (seen es s others).length ≤ es.length + B * others.length
  | [], es, _ => by simp [seen]
  | o :: os, es, h => by
    have h1 := seen_len (B := B) (s := s) os (adds es (o.getD s [])) fun o ho => h o (by simp [ho])
    have h2 := adds_len (o.getD s []) es
    have h3 : (o.getD s []).length ≤ B := by
      by_cases hs : s < o.length
      · simp only [List.getD, List.getElem?_eq_getElem hs, Option.getD_some]
        exact h o (by simp) _ (List.getElem_mem hs)
      · simp [List.getD, Nat.le_of_not_lt hs]
    simp only [seen, List.foldl_cons, List.length_cons, Nat.mul_add, Nat.mul_one] at *
    omega
theorem cnt_le {B : Nat} {others : List (List (List Int))} (h : ∀ o ∈ others, ∀ l ∈ o, l.length ≤ B) (s : Nat) : cnt others s ≤ B * others.length := by
  have := seen_len (s := s) others [] h
  simpa [cnt] using this

theorem mm_le {a b : Int} (h : 0 ≤ a) (h' : 0 ≤ b) : 0 ≤ minmax false a b ∧ minmax false a b ≤ a := by
  simp only [minmax, Bool.false_eq_true, if_false]
  split <;> omega

/-- What bounds the numbers: lists, sets, fuel. -/
structure Bnd (n : Nat) (w : Int) (mine : List (List Int)) (others : List (List (List Int))) : Prop where
  w0 : 0 ≤ w
  w1 : w ≤ 1000
  ml : mine.length ≤ 1000
  mn : mine.length < n
  on : others.length < n
  os : others.length ≤ 1000000
  ln : ∀ o ∈ others, ∀ l ∈ o, l.length < n ∧ l.length ≤ 1000000
  cn : ∀ s, cnt others s < n
  cs : ∀ s, cnt others s ≤ 1000000000

section
variable {n : Nat} {s w b : Int} {mine : List (List Int)} {others : List (List (List Int))} {Q : List D → Prop}

theorem c19_20 (m0 : Nat) (x31 x32 x33 xo3 xo41 : D) (acc : Int) : ∀ (m1 : Nat) (es : List (D × D)) (k : Nat), es.length < m1 → es.length + k ≤ 1000000000 →
    (h : L19_5 n m0 (lst3 others) (.int (IntKind.wrap .i64 (acc + minmax false (D.i (D.fld xo3 1)) ((k + es.length : Nat) : Int)))) x31 x32 (.int (IntKind.wrap .i64 (D.i x33 + 1))) xo3 Q) →
    L19_20 n m0 m1 (lst3 others) (.int acc) (.int (k : Int)) x31 x32 x33 xo3 xo41 (.map es) Q := by
  intro m1
  induction m1 with
  | zero => intro es k h; omega
  | succ m1 ih =>
    intro es k h1 h2 h
    rw [L19_20_eq]
    simp only [i_int, es_map]
    refine ⟨fun he => ?_, fun i hi => ?_⟩
    · subst he
      simpa using h
    · have hl : (es.eraseIdx i).length = es.length - 1 := by simp [List.length_eraseIdx, hi]
      rw [wrap_id (by omega) (by omega)]
      refine ih (es.eraseIdx i) (k + 1) (by omega) (by omega) ?_
      rw [hl, show k + 1 + (es.length - 1) = k + es.length by omega]
      exact h

theorem c19_13 (m0 m1 : Nat) (x7 x8 x31 x32 x33 x42 x43 x44 xo3 : D) (l : List Int) (hl : l.length ≤ 1000000) : ∀ (m2 : Nat) (es : List (D × D)) (k : Nat), k ≤ l.length → l.length - k < m2 →
    (h : L19_10 n m0 m1 (lst3 others) x7 x8 x31 x32 x33 x42 x43 (.int (IntKind.wrap .i64 (D.i x44 + 1))) xo3 (.map (adds es (l.drop k))) Q) →
    L19_13 n m0 m1 m2 (lst3 others) x7 x8 x31 x32 x33 x42 x43 x44 (lst l) (.int l.length) (.int (k : Int)) xo3 (.map es) Q := by
  intro m2
  induction m2 with
  | zero => intro es k _ h; omega
  | succ m2 ih =>
    intro es k h1 h2 h
    rw [L19_13_eq]
    simp only [i_int, es_map, len_lst]
    refine cLt (fun c => ⟨by omega, ?_⟩) fun c => ?_
    · rw [wrap_id (by omega) (by omega), el_lst l k (by omega)]
      refine ih _ (k + 1) (by omega) (by omega) ?_
      rw [drop_get 0 (by omega)] at h
      exact h
    · rw [List.drop_eq_nil_of_le (by omega)] at h
      exact h

theorem c19_10 (hB : Bnd n w mine others) (m0 s : Nat) (x7 x31 x32 x33 xo3 : D) (ho : ∀ o ∈ others, s < o.length) : ∀ (m1 : Nat) (es : List (D × D)) (j : Nat), j ≤ others.length → others.length - j < m1 →
    (h : L19_20 n m0 n (lst3 others) x7 (.int 0) x31 x32 x33 xo3 (.map (seen es s (others.drop j))) (.map (seen es s (others.drop j))) Q) →
    L19_10 n m0 m1 (lst3 others) x7 (.int (s : Int)) x31 x32 x33 (lst3 others) (.int others.length) (.int (j : Int)) xo3 (.map es) Q := by
  intro m1
  induction m1 with
  | zero => intro es k _ h; omega
  | succ m1 ih =>
    intro es j h1 h2 h
    rw [L19_10_eq]
    simp only [i_int, es_map, len_lst3]
    have hos := hB.os
    refine cLt (fun c => ⟨by omega, ?_⟩) fun c => ?_
    · have hj : others.getD j [] ∈ others := by
        exact getD_mem (show j < others.length by omega)
      have hs := ho _ hj
      rw [el_lst3 _ _ (by omega), len_lst2, el_lst2 _ _ hs, len_lst]
      have hb : ((others.getD j []).getD s []).length < n ∧ ((others.getD j []).getD s []).length ≤ 1000000 := by
        refine hB.ln _ hj _ ?_
        exact getD_mem hs
      refine ⟨by omega, c19_13 _ _ _ _ _ _ _ _ _ _ _ _ hb.2 n es 0 (by omega) (by omega) ?_⟩
      rw [i_int, wrap_id (by omega) (by omega)]
      refine ih _ (j + 1) (by omega) (by omega) ?_
      rw [drop_get [] (show j < others.length by omega)] at h
      exact h
    · rw [List.drop_eq_nil_of_le (by omega)] at h
      exact h

theorem c19_5 (hB : Bnd n w mine others) (ho : ∀ o ∈ others, o.length = mine.length) : ∀ (m0 : Nat) (acc : Int) (k : Nat), k ≤ mine.length → mine.length - k < m0 → 0 ≤ acc → acc ≤ 1000 * k →
    (h : Q [.int (acc + comC w others k (mine.drop k))]) →
    L19_5 n m0 (lst3 others) (.int acc) (lst2 mine) (.int mine.length) (.int (k : Int)) (cch s w b) Q := by
  intro m0
  induction m0 with
  | zero => intro acc k _ h; omega
  | succ m0 ih =>
    intro acc k h1 h2 ha hb h
    rw [L19_5_eq]
    simp only [i_int, len_lst2]
    have hmm := hB.ml
    refine cLt (fun c => ⟨by omega, ?_⟩) fun c => ?_
    · rw [el_lst2 _ _ (by omega), len_lst]
      rw [drop_get [] (show k < mine.length by omega)] at h
      have hcn := hB.cn k
      have hcs := hB.cs k
      have hw0 := hB.w0
      have hw1 := hB.w1
      have hm1 := mm_le (b := cnt others k) hw0 (by omega)
      refine cEq (fun c2 => ?_) fun c2 => ?_
      · rw [wrap_id (by omega) (by omega)]
        refine ih acc (k + 1) (by omega) (by omega) ha (by omega) ?_
        rw [comC, if_pos (by omega)] at h
        simpa using h
      · rw [len_lst3]
        refine c19_10 hB m0 k _ _ _ _ _ (fun o hx => by rw [ho o hx]; omega) n [] 0 (by omega) (by have := hB.on; omega) ?_
        rw [List.drop_zero]
        refine c19_20 (k := 0) m0 _ _ _ _ _ acc n _ (by simpa [cnt] using hcn) (by simpa [cnt] using hcs) ?_
        simp only [i_int]
        rw [Nat.zero_add]
        rw [show D.i (D.fld (cch s w b) 1) = w from rfl]
        rw [show ((seen [] k others).length) = cnt others k from rfl]
        rw [wrap_id (by omega) (by omega), wrap_id (by omega) (by omega)]
        refine ih _ (k + 1) (by omega) (by omega) (by omega) (by omega) ?_
        rw [comC, if_neg (by omega)] at h
        rw [Int.add_assoc]
        exact h
    · rw [List.drop_eq_nil_of_le (by omega)] at h
      simpa [comC] using h

theorem between_wp (hn : 1 ≤ n) {x y z : Int} (h : Q [.bool (iLe y x && iLe x z)]) : wpF Try.prog A n 109 [.int x, .int y, .int z] Q := by
  obtain ⟨m, rfl⟩ : ∃ m, n = m + 1 := ⟨n - 1, by omega⟩
  rw [E109]
  simp only [i_int]
  refine cLe (fun c => ?_) fun c => ?_
  · rw [iLe_iff.mpr c, Bool.true_and] at h
    exact h
  · rw [iLe_not.mpr c, Bool.false_and] at h
    exact h

theorem check_wp (hn : 2 ≤ n) (h0 : 0 ≤ s) (h1 : s ≤ 8) (h2 : 1 ≤ w) (h3 : w ≤ 4) (h4 : 1 ≤ b) (h5 : b ≤ 8) (h : Q [.int 0]) : wpF Try.prog A n 66 [cch s w b] Q := by
  obtain ⟨m, rfl⟩ : ∃ m, n = m + 1 := ⟨n - 1, by omega⟩
  rw [E66]
  simp only [cch, fld0, fldS]
  refine between_wp (by omega) ?_
  simp only [rs0, b_bool, iLe_iff.mpr h0, iLe_iff.mpr h1, Bool.and_self, Bool.not_true, cond_false]
  refine between_wp (by omega) ?_
  simp only [rs0, b_bool, iLe_iff.mpr h2, iLe_iff.mpr h3, Bool.and_self, Bool.not_true, cond_false]
  refine between_wp (by omega) ?_
  simp only [rs0, b_bool, iLe_iff.mpr h4, iLe_iff.mpr h5, Bool.and_self, Bool.not_true, cond_false]
  exact h

theorem pred_wp (hn : 1 ≤ n) {o : List (List Int)} (h : Q [.bool (!iEq o.length s)]) : wpF Try.prog A n 68 [lst2 o, cch s w b] Q := by
  obtain ⟨m, rfl⟩ : ∃ m, n = m + 1 := ⟨n - 1, by omega⟩
  rw [E68, len_lst2]
  exact h

theorem c110 (hn : 1 ≤ n) (hol : others.length ≤ 1000000) : ∀ (m0 j : Nat), j ≤ others.length → others.length - j < m0 →
    (h1 : ∀ i : Nat, (∃ o ∈ others.drop j, (o.length : Int) ≠ s) → Q [.int (i : Int)]) → (h2 : (∀ o ∈ others.drop j, (o.length : Int) = s) → Q [.int (-1)]) →
    L110_2 n m0 (lst3 others) (.fn 68 [.ptr (cch s w b)]) (.int others.length) (.int (j : Int)) Q := by
  intro m0
  induction m0 with
  | zero => intro j _ h; omega
  | succ m0 ih =>
    intro j hj hm h1 h2
    rw [L110_2_eq]
    simp only [i_int, len_lst3]
    refine cLt (fun c => ⟨by omega, ?_⟩) fun c => ?_
    · rw [el_lst3 _ _ (by omega)]
      refine ⟨⟨rfl, rfl, rfl, rfl⟩, ?_⟩
      rw [drop_get [] (show j < others.length by omega)] at h1 h2
      refine pred_wp hn ?_
      rw [rs0, b_bool]
      refine cNe (fun c => ?_) fun c => ?_
      · exact h1 j ⟨_, by simp, c⟩
      · rw [wrap_id (by omega) (by omega)]
        refine ih (j + 1) (by omega) (by omega) ?_ ?_
        · rintro i ⟨o, ho, hne⟩
          exact h1 i ⟨o, by simp [ho], hne⟩
        · intro ha
          refine h2 fun o ho => ?_
          rcases List.mem_cons.mp ho with rfl | ho
          · exact c
          · exact ha o ho
    · rw [List.drop_eq_nil_of_le (by omega)] at h2
      exact h2 (by simp)

theorem any_wp (hn : 3 ≤ n) (hol : others.length ≤ 1000000) (hon : others.length + 2 < n) (h1 : (∃ o ∈ others, (o.length : Int) ≠ s) → Q [.bool true]) (h2 : (∀ o ∈ others, (o.length : Int) = s) → Q [.bool false]) :
    wpF Try.prog A n 67 [lst3 others, .fn 68 [.ptr (cch s w b)]] Q := by
  obtain ⟨m, rfl⟩ : ∃ m, n = m + 2 := ⟨n - 2, by omega⟩
  rw [E67, E110, len_lst3]
  refine c110 (by omega) hol m 0 (by omega) (by omega) ?_ ?_
  · rintro i ⟨o, ho, hne⟩
    rw [rs0, i_int, iLe_iff.mpr (by omega)]
    exact h1 ⟨o, by simpa using ho, hne⟩
  · intro ha
    have hf : ∀ o ∈ others, (o.length : Int) = s := by simpa using ha
    exact h2 hf

/-- What the program's own function computes. -/
theorem common_wp (hB : Bnd n w mine others) (hon : others.length + 4 < n + 1) (h0 : 0 ≤ s) (h1 : s ≤ 8) (h2 : 1 ≤ w) (h3 : w ≤ 4) (h4 : 1 ≤ b) (h5 : b ≤ 8)
    (h : Q [.int (commonV s w mine others)]) : wpF Try.prog A (n + 1) 19 [cch s w b, lst2 mine, lst3 others] Q := by
  rw [E19]
  refine check_wp (by omega) h0 h1 h2 h3 h4 h5 ?_
  simp only [rs0, i_int, show iEq 0 0 = true from rfl, Bool.not_true, cond_false, len_lst2]
  refine cNe (fun c => ?_) fun c => ?_
  · rw [commonV, if_neg (fun hh => c hh.1)] at h
    exact h
  · refine any_wp (by omega) hB.os (by omega) ?_ ?_
    · rintro ⟨o, ho, hne⟩
      rw [commonV, if_neg (fun hh => hne (hh.2 o ho))] at h
      exact h
    · intro c2
      rw [commonV, if_pos ⟨c, c2⟩] at h
      refine c19_5 hB (fun o ho => by have h1 := c2 o ho; have h2 : (mine.length : Int) = s := c; omega) n 0 0 (by omega) (by have := hB.mn; omega) (by omega) (by omega) ?_
      simpa using h

theorem c20_14 (m0 m1 : Nat) (x1 x7 x8 x20 x21 x25 x26 x27 xo3 : D) (l : List Int) (hl : l.length ≤ 1000000) : ∀ (m2 : Nat) (es : List (D × D)) (k : Nat), k ≤ l.length → l.length - k < m2 →
    (h : L20_9 n m0 m1 x1 (lst3 others) x7 x8 x20 x21 x25 x26 (.int (IntKind.wrap .i64 (D.i x27 + 1))) xo3 (.map (adds es (l.drop k))) Q) →
    L20_14 n m0 m1 m2 x1 (lst3 others) x7 x8 x20 x21 x25 x26 x27 (lst l) (.int l.length) (.int (k : Int)) xo3 (.map es) Q := by
  intro m2
  induction m2 with
  | zero => intro es k _ h; omega
  | succ m2 ih =>
    intro es k h1 h2 h
    rw [L20_14_eq]
    simp only [i_int, es_map, len_lst]
    refine cLt (fun c => ⟨by omega, ?_⟩) fun c => ?_
    · rw [wrap_id (by omega) (by omega), el_lst l k (by omega)]
      refine ih _ (k + 1) (by omega) (by omega) ?_
      rw [drop_get 0 (by omega)] at h
      exact h
    · rw [List.drop_eq_nil_of_le (by omega)] at h
      exact h

theorem c20_9 (hB : Bnd n w mine others) (m0 k : Nat) (hk : k < mine.length) (acc : Int) (x20 x21 : D) (hs : (mine.length : Int) = s) : ∀ (m1 : Nat) (es : List (D × D)) (j : Nat), j ≤ others.length → others.length - j < m1 →
    (h1 : (∃ o ∈ others.drop j, (o.length : Int) ≠ s) → Q [.int 0]) →
    (h2 : (∀ o ∈ others.drop j, (o.length : Int) = s) → L20_5 n m0 (lst2 mine) (lst3 others) (if (mine.getD k []).length = 0 then .int acc else .int (IntKind.wrap .i64 (acc + minmax false w (seen es k (others.drop j)).length))) x20 (.int (IntKind.wrap .i64 (D.i x21 + 1))) (cch s w b) Q) →
    L20_9 n m0 m1 (lst2 mine) (lst3 others) (.int acc) (.int (k : Int)) x20 x21 (lst3 others) (.int others.length) (.int (j : Int)) (cch s w b) (.map es) Q := by
  intro m1
  induction m1 with
  | zero => intro es j _ h; omega
  | succ m1 ih =>
    intro es j hj hm h1 h2
    rw [L20_9_eq]
    have hos := hB.os
    simp only [i_int, es_map, len_lst3, len_lst2]
    refine cLt (fun c => ⟨by omega, ?_⟩) fun c => ?_
    · rw [el_lst3 _ _ (by omega), len_lst2, show D.i (D.fld (cch s w b) 0) = s from rfl]
      have hjm : others.getD j [] ∈ others := by
        exact getD_mem (show j < others.length by omega)
      rw [drop_get [] (show j < others.length by omega)] at h1 h2
      refine cNe (fun c2 => ?_) fun c2 => ?_
      · exact h1 ⟨_, by simp, c2⟩
      · have hsl : k < (others.getD j []).length := by omega
        rw [el_lst2 _ _ hsl, len_lst]
        have hb : ((others.getD j []).getD k []).length < n ∧ ((others.getD j []).getD k []).length ≤ 1000000 := by
          refine hB.ln _ hjm _ ?_
          exact getD_mem hsl
        refine ⟨by omega, c20_14 _ _ _ _ _ _ _ _ _ _ _ _ hb.2 n es 0 (by omega) (by omega) ?_⟩
        rw [i_int, wrap_id (by omega) (by omega)]
        refine ih _ (j + 1) (by omega) (by omega) ?_ ?_
        · rintro ⟨o, ho, hne⟩
          exact h1 ⟨o, by simp [ho], hne⟩
        · intro ha
          refine h2 fun o ho => ?_
          rcases List.mem_cons.mp ho with rfl | ho
          · exact c2
          · exact ha o ho
    · rw [List.drop_eq_nil_of_le (by omega)] at h2
      have h2 := h2 (by simp)
      refine ⟨by omega, ?_⟩
      rw [el_lst2 _ _ hk, len_lst, show D.i (D.fld (cch s w b) 1) = w from rfl]
      refine cLt (fun c2 => ?_) fun c2 => ?_
      · rw [if_neg (by omega)] at h2
        exact h2
      · rw [if_pos (by omega)] at h2
        exact h2

theorem c20_5 (hB : Bnd n w mine others) (hs : (mine.length : Int) = s) : ∀ (m0 : Nat) (acc : Int) (k : Nat), k ≤ mine.length → mine.length - k < m0 → 0 ≤ acc → acc ≤ 1000 * k →
    (h1 : (∃ o ∈ others, (o.length : Int) ≠ s) → k < mine.length → Q [.int 0]) →
    (h : (∀ o ∈ others, (o.length : Int) = s) ∨ k = mine.length → Q [.int (acc + comC w others k (mine.drop k))]) →
    L20_5 n m0 (lst2 mine) (lst3 others) (.int acc) (.int mine.length) (.int (k : Int)) (cch s w b) Q := by
  intro m0
  induction m0 with
  | zero => intro acc k _ h; omega
  | succ m0 ih =>
    intro acc k hk hm ha hb h1 h
    rw [L20_5_eq]
    simp only [i_int, len_lst3]
    have hmm := hB.ml
    refine cLt (fun c => ?_) fun c => ?_
    · have hcs := hB.cs k
      have hw0 := hB.w0
      have hw1 := hB.w1
      have hm1 := mm_le (b := cnt others k) hw0 (by omega)
      refine c20_9 hB m0 k (by omega) acc _ _ hs n [] 0 (by omega) (by have := hB.on; omega) ?_ ?_
      · intro he
        exact h1 (by simpa using he) (by omega)
      · intro he
        have he' : ∀ o ∈ others, (o.length : Int) = s := by simpa using he
        have h := h (.inl he')
        rw [drop_get [] (show k < mine.length by omega), comC] at h
        rw [i_int, wrap_id (show -9223372036854775808 ≤ (k : Int) + 1 by omega) (by omega), List.drop_zero, show ((seen [] k others).length) = cnt others k from rfl]
        have hno : ¬ ∃ o ∈ others, (o.length : Int) ≠ s := fun ⟨o, ho, hne⟩ => hne (he' o ho)
        split
        · rename_i hz
          rw [if_pos hz] at h
          exact ih acc (k + 1) (by omega) (by omega) ha (by omega) (fun hh => absurd hh hno) (fun _ => by simpa using h)
        · rename_i hz
          rw [if_neg hz] at h
          rw [wrap_id (by omega) (by omega)]
          refine ih _ (k + 1) (by omega) (by omega) (by omega) (by omega) (fun hh => absurd hh hno) (fun _ => ?_)
          rw [Int.add_assoc]
          exact h
    · have h := h (.inr (by omega))
      rw [List.drop_eq_nil_of_le (by omega)] at h
      simpa [comC] using h

/-- What the document's answer computes. -/
theorem common'_wp (hB : Bnd n w mine others) (h : Q [.int (commonV s w mine others)]) : wpF Try.prog A (n + 1) 20 [cch s w b, lst2 mine, lst3 others] Q := by
  rw [E20]
  simp only [len_lst2, show D.i (D.fld (cch s w b) 0) = s from rfl]
  refine cNe (fun c => ?_) fun c => ?_
  · rw [commonV, if_neg (fun hh => c hh.1)] at h
    exact h
  · refine c20_5 hB c n 0 0 (by omega) (by have := hB.mn; omega) (by omega) (by omega) ?_ ?_
    · rintro ⟨o, ho, hne⟩ _
      rw [commonV, if_neg (fun hh => hne (hh.2 o ho))] at h
      exact h
    · rintro (ha | hz)
      · rw [commonV, if_pos ⟨c, ha⟩] at h
        simpa using h
      · have hz' : mine = [] := List.length_eq_zero_iff.mp hz.symm
        subst hz'
        unfold commonV at h
        split at h <;> simpa [comC] using h
end
end Go.Ab

/- The statements EvictApart and EvictCommon, as what their functions compute. -/
namespace Go.Ab
open Go.Proofs
attribute [local irreducible] wpF

/-- The bounds, where numbers are small. -/
theorem bnd_of {n B C : Nat} {w : Int} {mine : List (List Int)} {others : List (List (List Int))} (h0 : 0 ≤ w) (h1 : w ≤ 1000) (hm : mine.length ≤ 1000) (hmn : mine.length < n)
    (hc : others.length ≤ C) (hB : ∀ o ∈ others, ∀ l ∈ o, l.length ≤ B) (hb : B ≤ 1000) (hC : C ≤ 1000) (hn : B * C < n) (hBn : B < n) (hCn : C < n) : Bnd n w mine others := by
  have hBC : B * others.length ≤ B * C := Nat.mul_le_mul_left _ hc
  have h2 : B * C ≤ 1000 * 1000 := Nat.mul_le_mul hb hC
  exact { w0 := h0, w1 := h1, ml := hm, mn := hmn, on := by omega, os := by omega
          ln := fun o ho l hl => by have := hB o ho l hl; omega
          cn := fun s => by have := cnt_le hB s; omega
          cs := fun s => by have := cnt_le hB s; omega }

theorem awake_wp {n : Nat} (hn : 20 ≤ n) {Q : List D → Prop} (h : Q [.bool true]) : wpF Try.prog A n 21 [] Q := by
  obtain ⟨m, rfl⟩ : ∃ m, n = m + 2 := ⟨n - 2, by omega⟩
  rw [E21]
  rw [show (D.slc [(D.slc [(D.int (0 : Int))]), (D.slc ([] : List D))]) = lst2 [[0], []] from rfl, show (D.agg [(D.int (2 : Int)), (D.int (2 : Int)), (D.int (1 : Int))]) = cch 2 2 1 from rfl,
    show (D.slc [(D.slc [(D.slc [(D.int (2 : Int)), (D.int (4 : Int)), (D.int (6 : Int))]), (D.slc [(D.int (1 : Int))])]), (D.slc [(D.slc [(D.int (2 : Int))]), (D.slc ([] : List D))])]) = lst3 [[[2, 4, 6], [1]], [[2], []]] from rfl]
  have hB : Bnd m 2 [[0], []] [[[2, 4, 6], [1]], [[2], []]] := bnd_of (B := 3) (C := 2) (by omega) (by omega) (by simp) (by simp; omega) (by simp) (by simp) (by omega) (by omega) (by omega) (by omega) (by omega)
  refine ⟨trivial, trivial, common_wp hB (by simp; omega) (by omega) (by omega) (by omega) (by omega) (by omega) (by omega) ?_⟩
  rw [rs0, i_int, show iEq (commonV 2 2 [[0], []] [[[2, 4, 6], [1]], [[2], []]]) 2 = true from by decide +kernel, cond_true, E69]
  simp only [cch, fld0, fldS, i_int, rs0]
  exact h

/-- What one set adds. -/
def both1 (w : Int) (p : List Int × List Int) : Int := if p.1.length = 0 then 0 else minmax false w (adds [] p.2).length
def bothV (w : Int) (ps : List (List Int × List Int)) : Int := (ps.map (both1 w)).sum

theorem getD_snd {ps : List (List Int × List Int)} {k : Nat} (p : List Int × List Int) (hp : ps.drop k = p :: ps.drop (k + 1)) : (ps.map (·.2)).getD k [] = p.2 := by
  have h1 : ps[k]? = some p := by
    have := congrArg (fun l => l[0]?) hp
    simpa using this
  simp [List.getD, h1]

theorem comC_pairs (w : Int) (ps : List (List Int × List Int)) : ∀ (k : Nat), k ≤ ps.length → comC w [ps.map (·.2)] k ((ps.drop k).map (·.1)) = bothV w (ps.drop k) := by
  intro k hk
  induction hd : ps.length - k generalizing k with
  | zero =>
    rw [List.drop_eq_nil_of_le (by omega)]
    simp [comC, bothV]
  | succ d ih =>
    obtain ⟨p, hp⟩ : ∃ p, ps.drop k = p :: ps.drop (k + 1) := ⟨ps.getD k ([], []), drop_get _ (by omega)⟩
    rw [hp, List.map_cons, comC, ih (k + 1) (by omega) (by omega)]
    have : cnt [ps.map (·.2)] k = (adds [] p.2).length := by
      simp only [cnt, seen, List.foldl_cons, List.foldl_nil]
      rw [getD_snd p hp]
    rw [this]
    simp [bothV, both1]

theorem both_le {w : Int} (h0 : 0 ≤ w) (h1 : w ≤ 3) : ∀ ps : List (List Int × List Int), 0 ≤ bothV w ps ∧ bothV w ps ≤ 3 * ps.length := by
  intro ps
  induction ps with
  | nil => simp [bothV]
  | cons p ps ih =>
    have h2 := mm_le (b := (adds [] p.2).length) h0 (by omega)
    have h3 : 0 ≤ both1 w p ∧ both1 w p ≤ 3 := by
      unfold both1
      split <;> omega
    simp only [bothV, List.map_cons, List.sum_cons, List.length_cons] at *
    omega

theorem set_mid {α : Type} (xs : List α) (x y : α) (k : Nat) : (xs ++ List.replicate (k + 1) y).set xs.length x = (xs ++ [x]) ++ List.replicate k y := by
  rw [List.set_append_right _ _ (Nat.le_refl _), Nat.sub_self, List.replicate_succ, List.set_cons_zero]
  simp

/-- A part of what was made, and empty sets behind it. -/
def fil (l : List (List Int)) (S : Nat) : D := .slc ((l ++ List.replicate (S - l.length) []).map lst)

theorem fil_set {l : List (List Int)} {S : Nat} (h : l.length < S) (x : List Int) (k : Nat) (hk : k = l.length) : D.slc (List.set (D.xs (fil l S)) k (lst x)) = fil (l ++ [x]) S := by
  subst hk
  simp only [fil, xs_slc]
  rw [set_map, show S - l.length = (S - l.length - 1) + 1 by omega, set_mid]
  simp [show S - l.length - 1 = S - (l.length + 1) by omega]
theorem fil_app {l : List (List Int)} {S : Nat} (h : l.length < S) : fil l S = fil (l ++ [[]]) S := by
  simp only [fil]
  rw [show S - l.length = (S - l.length - 1) + 1 by omega, List.replicate_succ]
  simp [show S - l.length - 1 = S - (l.length + 1) by omega]
theorem fil_len {l : List (List Int)} {S : Nat} (h : l.length ≤ S) : D.len (fil l S) = S := by
  simp [fil, D.len, D.xs]; omega
theorem fil_all {l : List (List Int)} {S : Nat} (h : l.length = S) : fil l S = lst2 l := by simp [fil, h, lst2]

theorem both_app (w : Int) (ps : List (List Int × List Int)) (p : List Int × List Int) : bothV w (ps ++ [p]) = bothV w ps + both1 w p := by
  simp [bothV, List.sum_append]

theorem mm_comm (a b : Int) : minmax false a b = minmax false b a := by
  simp only [minmax, Bool.false_eq_true, if_false]
  split <;> split <;> omega

theorem adds_two {a b : Int} (h : a ≠ b) : (adds [] [a, b]).length = 2 := by
  simp [adds, mapPut, D.same, h]

section
variable {n : Nat} {w b : Int} {S : Nat}

theorem apart_end (hn : 20 ≤ n) (hw : 1 ≤ w) (hw2 : w ≤ 3) (hb : 1 ≤ b) (hb2 : b ≤ 4) (hS : S ≤ 4) {ps : List (List Int × List Int)} (hps : ps.length = S) (hl : ∀ p ∈ ps, p.2.length ≤ 2) {Q : List D → Prop} (h : Q [.bool true]) :
    (wpF Try.prog A n 19 [cch S w b, lst2 (ps.map (·.1)), D.slc [lst2 (ps.map (·.2))]] fun r4 =>
 (cond (iEq (D.i (rs r4 0)) (bothV w ps))
 (wpF Try.prog A n 19 [cch S w b, lst2 (ps.map (·.1)), (D.slc ([] : List D))] fun r5 =>
 (cond (iEq (D.i (rs r5 0)) (0 : Int))
 (wpF Try.prog A n 21 [] fun r6 =>
 (Q [(rs r6 0)]))
 (Q [(D.bool false)])))
 (Q [(D.bool false)]))) := by
  obtain ⟨m, rfl⟩ : ∃ m, n = m + 1 := ⟨n - 1, by omega⟩
  have hL : ∀ o ∈ [ps.map (·.2)], ∀ l ∈ o, l.length ≤ 2 := by
    intro o ho l hl'
    simp only [List.mem_singleton] at ho
    subst ho
    obtain ⟨p, hp, rfl⟩ := List.mem_map.mp hl'
    exact hl p hp
  rw [show D.slc [lst2 (ps.map (·.2))] = lst3 [ps.map (·.2)] from rfl, show D.slc ([] : List D) = lst3 [] from rfl]
  have hB1 : Bnd m w (ps.map (·.1)) [ps.map (·.2)] := bnd_of (B := 2) (C := 1) (by omega) (by omega) (by simp; omega) (by simp; omega) (by simp) hL (by omega) (by omega) (by omega) (by omega) (by omega)
  have hB2 : Bnd m w (ps.map (·.1)) [] := bnd_of (B := 0) (C := 0) (by omega) (by omega) (by simp; omega) (by simp; omega) (by simp) (by simp) (by omega) (by omega) (by omega) (by omega) (by omega)
  refine common_wp hB1 (by simp; omega) (by omega) (by omega) (by omega) (by omega) (by omega) (by omega) ?_
  have h1 : commonV S w (ps.map (·.1)) [ps.map (·.2)] = bothV w ps := by
    rw [commonV, if_pos (by simp [hps])]
    simpa using comC_pairs w ps 0 (by omega)
  rw [rs0, i_int, h1, iEq_iff.mpr rfl, cond_true]
  refine common_wp hB2 (by simp; omega) (by omega) (by omega) (by omega) (by omega) (by omega) (by omega) ?_
  have h2 : ∀ (l : List (List Int)) (k : Nat), comC w [] k l = 0 := by
    intro l
    induction l with
    | nil => intro k; rfl
    | cons x l ih =>
      intro k
      rw [comC, ih]
      have : minmax false w ((cnt [] k : Nat) : Int) = 0 := by
        simp only [cnt, seen, List.foldl_nil, List.length_nil, minmax, Bool.false_eq_true, if_false]
        rw [if_pos (by omega)]; rfl
      rw [this]
      simp
  have h3 : commonV S w (ps.map (·.1)) [] = 0 := by
    unfold commonV
    rw [h2]
    simp
  rw [rs0, i_int, h3, iEq_iff.mpr rfl, cond_true]
  exact awake_wp (by omega) h

theorem c4_6 (hn : 20 ≤ n) (hw : 1 ≤ w) (hw2 : w ≤ 3) (hb : 1 ≤ b) (hb2 : b ≤ 4) (hS : S ≤ 4) {Q : List D → Prop} (h : Q [.bool true]) : ∀ (m0 : Nat) (d : D) (ps : List (List Int × List Int)), Dk d → ps.length ≤ S → S - ps.length < m0 → (∀ p ∈ ps, p.2.length ≤ 2) →
    L4_6 n m0 (.int (bothV w ps)) (.int (S : Int)) (.int (ps.length : Int)) (cch S w b) d (fil (ps.map (·.1)) S) (fil (ps.map (·.2)) S) Q := by
  intro m0
  induction m0 with
  | zero => intro d ps _ _ h; omega
  | succ m0 ih =>
    intro d ps hd h1 h2 hp
    rw [L4_6_eq]
    simp only [i_int, show D.i (D.fld (cch S w b) 0) = S from rfl, show D.i (D.fld (cch S w b) 1) = w from rfl]
    have hbl := both_le (w := w) (by omega) hw2 ps
    have go : ∀ (x y : List Int) (d' : D), Dk d' → y.length ≤ 2 → bothV w ps + both1 w (x, y) = bothV w (ps ++ [(x, y)]) → ps.length < S →
        L4_6 n m0 (.int (bothV w ps + both1 w (x, y))) (.int (S : Int)) (.int ((ps.length : Int) + 1)) (cch S w b) d' (fil (ps.map (·.1) ++ [x]) S) (fil (ps.map (·.2) ++ [y]) S) Q := by
      intro x y d' hd' hy he hlt
      have := ih d' (ps ++ [(x, y)]) hd' (by simp; omega) (by simp; omega) (by
        intro p hp'
        rcases List.mem_append.mp hp' with hp' | hp'
        · exact hp p hp'
        · simp only [List.mem_singleton] at hp'; subst hp'; exact hy)
      rw [← he] at this
      simpa using this
    refine cLt (fun c => ?_) fun c => ?_
    · have hlt : ps.length < S := by omega
      have hl1 : (ps.map (·.1)).length < S := by simpa using hlt
      have hl2 : (ps.map (·.2)).length < S := by simpa using hlt
      refine next_wp (by omega) hd (by omega) (by omega) fun v d' hv hv' hd' => ?_
      simp only [rs0, rsS, i_int, toNat_nat]
      rw [fil_len (by omega), fil_len (by omega)]
      rw [wrap_id (show -9223372036854775808 ≤ (ps.length : Int) + 1 by omega) (by omega), wrap_id (show -9223372036854775808 ≤ (ps.length : Int) + (S : Int) by omega) (by omega)]
      refine cEq (fun c1 => ⟨by omega, trivial, ?_⟩) fun c1 => ?_
      · have h0 : both1 w ([(ps.length : Int)], []) = 0 := by
          simp only [both1, adds, List.foldl_nil, List.length_nil, minmax, Bool.false_eq_true, if_false]
          rw [if_neg (by simp), if_pos (by omega)]; rfl
        have := go [(ps.length : Int)] [] d' hd' (by simp) (both_app _ _ _).symm hlt
        rw [h0, Int.add_zero, ← fil_app hl2, ← fil_set hl1 _ ps.length (by simp)] at this
        exact this
      · refine cEq (fun c2 => ⟨by omega, trivial, ?_⟩) fun c2 => ?_
        · have h0 : both1 w (([] : List Int), [(ps.length : Int) + S]) = 0 := rfl
          have := go [] [(ps.length : Int) + S] d' hd' (by simp) (both_app _ _ _).symm hlt
          rw [h0, Int.add_zero, ← fil_app hl1, ← fil_set hl2 _ ps.length (by simp)] at this
          exact this
        · refine cEq (fun c3 => ⟨by omega, trivial, by omega, trivial, ?_⟩) fun c3 => ?_
          · have hm := mm_le (b := 2) (show 0 ≤ w by omega) (by omega)
            have h0 : both1 w ([(ps.length : Int)], [(ps.length : Int), (ps.length : Int) + S]) = minmax false w 2 := by
              rw [both1, if_neg (by simp), adds_two (by omega)]
              rfl
            have := go [(ps.length : Int)] [(ps.length : Int), (ps.length : Int) + S] d' hd' (by simp) (both_app _ _ _).symm hlt
            rw [h0, ← fil_set hl1 _ ps.length (by simp), ← fil_set hl2 _ ps.length (by simp)] at this
            rw [mm_comm 2 w, wrap_id (by omega) (by omega)]
            exact this
          · have h0 : both1 w (([] : List Int), []) = 0 := rfl
            have := go [] [] d' hd' (by simp) (both_app _ _ _).symm hlt
            rw [h0, Int.add_zero, ← fil_app hl1, ← fil_app hl2] at this
            exact this
    · have hlen : ps.length = S := by omega
      rw [fil_all (by simpa using hlen), fil_all (by simpa using hlen)]
      exact apart_end hn hw hw2 hb hb2 hS hlen hp h

theorem apart_wp (hn : 30 ≤ n) {l : List Int} (hl : l.length ≤ 2000000) : wpF Try.prog A n 4 [lst l] fun r => r = [.bool true] := by
  obtain ⟨m, rfl⟩ : ∃ m, n = m + 1 := ⟨n - 1, by omega⟩
  rw [E4]
  refine new_wp (by omega) hl fun d hd => ?_
  rw [rs0]
  refine cache_wp (by omega) hd fun s w b d' h1 h2 h3 h4 h5 h6 hd' => ?_
  simp only [rs0, rsS]
  obtain ⟨S, rfl⟩ : ∃ S : Nat, s = S := ⟨s.toNat, by omega⟩
  simp only [show D.fld (cch S w b) 0 = .int S from rfl, i_int, toNat_nat]
  refine ⟨trivial, ⟨by omega, by omega, by unfold room; omega⟩, ⟨by omega, by omega, by unfold room; omega⟩, ?_⟩
  have := c4_6 (n := m) (b := b) (S := S) (Q := fun r => r = [.bool true]) (by omega) h3 h4 h5 h6 (by omega) rfl m d' [] hd' (by simp) (by simp; omega) (by simp)
  simpa [bothV, fil, lst] using this
end
end Go.Ab

/- The statement EvictCommon, as what its functions compute. -/
namespace Go.Ab
open Go.Proofs
attribute [local irreducible] wpF

section
variable {n : Nat} {w b : Int} {S : Nat}

theorem c17_3 (hn : 2 ≤ n) (hS : S ≤ 4) {Q : List D → Prop} {T : Nat} (hT : T ≤ 5) : ∀ (m0 k : Nat) (d : D) (out : List (List Int)), Dk d → k < m0 → k ≤ 8 → out.length = T → (∀ l ∈ out, l.length + k ≤ 8) →
    (h : ∀ out d', Dk d' → out.length = T → (∀ l ∈ out, l.length ≤ 8) → Q [lst2 out, d']) → L17_3 n m0 (.int (k : Int)) d (cch S w b) (lst2 out) Q := by
  intro m0
  induction m0 with
  | zero => intro k d out _ h; omega
  | succ m0 ih =>
    intro k d out hd h1 h1' h2 h3 h
    rw [L17_3_eq]
    simp only [i_int, len_lst2, show D.i (D.fld (cch S w b) 0) = S from rfl]
    have hend : Q [lst2 out, d] := h out d hd h2 fun l hl => by have := h3 l hl; omega
    refine cLt (fun c => ?_) fun c => hend
    refine cLt (fun c1 => ?_) fun c1 => hend
    refine next_wp hn hd (by omega) (by omega) fun v d1 hv hv' hd1 => ?_
    simp only [rs0, rsS, i_int]
    obtain ⟨j, rfl⟩ : ∃ j : Nat, v = j := ⟨v.toNat, by omega⟩
    have hj : j < out.length := by omega
    refine ⟨by omega, next_wp hn hd1 (by omega) (by omega) fun u d2 hu hu' hd2 => ?_⟩
    simp only [rs0, rsS, i_int, toNat_nat]
    have hget : List.getD (D.xs (lst2 out)) j D.und = lst (out.getD j []) := by
      simp [xs_lst2, List.getD, hj]
    have hb := h3 _ (getD_mem (d := []) hj)
    rw [hget, xs_lst, xs_lst2]
    have hSu : (S : Int) * u ≤ 4 * 4 := by
      have h1 : (S : Int) * u ≤ 4 * u := Int.mul_le_mul_of_nonneg_right (by omega) hu
      omega
    have hSu0 : 0 ≤ (S : Int) * u := Int.mul_nonneg (by omega) hu
    rw [wrap_id (show -9223372036854775808 ≤ (S : Int) * u by omega) (by omega), wrap_id (show -9223372036854775808 ≤ (j : Int) + S * u by omega) (by omega), wrap_id (show -9223372036854775808 ≤ (k : Int) - 1 by omega) (by omega)]
    rw [show (out.getD j []).map D.int ++ [D.int (j + S * u)] = ((out.getD j []) ++ [j + S * u]).map D.int by simp]
    rw [show D.slc (List.map D.int (out.getD j [] ++ [↑j + ↑S * u])) = lst (out.getD j [] ++ [j + S * u]) from rfl, set_map]
    refine ⟨?_, by omega, ⟨trivial, trivial⟩, ?_⟩
    · unfold room
      simp only [List.length_map, List.length_singleton]
      omega
    · rw [show ((k : Int) - 1) = ((k - 1 : Nat) : Int) by omega]
      refine ih (k - 1) d2 _ hd2 (by omega) (by omega) (by simpa using h2) (fun l hl => ?_) h
      rcases List.mem_or_eq_of_mem_set hl with hl | rfl
      · have := h3 l hl; omega
      · rw [List.length_append, List.length_singleton]; omega

theorem lists_wp (hn : 20 ≤ n) (hS : S ≤ 4) {d : D} (hd : Dk d) {Q : List D → Prop} (h : ∀ out d', Dk d' → out.length ≤ 5 → (∀ l ∈ out, l.length ≤ 8) → Q [lst2 out, d']) : wpF Try.prog A n 17 [d, cch S w b] Q := by
  obtain ⟨m, rfl⟩ : ∃ m, n = m + 1 := ⟨n - 1, by omega⟩
  rw [E17]
  refine next_wp (by omega) hd (by omega) (by omega) fun v d1 hv hv' hd1 => ?_
  simp only [rs0, rsS, i_int, show D.i (D.fld (cch S w b) 0) = S from rfl]
  have ht : 0 ≤ v.tdiv 11 ∧ v.tdiv 11 ≤ 1 := by
    rw [Int.tdiv_eq_ediv_of_nonneg hv]
    omega
  rw [wrap_id (show -9223372036854775808 ≤ v.tdiv 11 by omega) (by omega), wrap_id (show -9223372036854775808 ≤ (S : Int) + v.tdiv 11 by omega) (by omega)]
  refine ⟨by omega, ⟨by omega, by omega, by unfold room; omega⟩, next_wp (by omega) hd1 (by omega) (by omega) fun u d2 hu hu' hd2 => ?_⟩
  simp only [rs0, rsS]
  obtain ⟨k, rfl⟩ : ∃ k : Nat, u = k := ⟨u.toNat, by omega⟩
  have he : D.slc (List.replicate ((S : Int) + v.tdiv 11).toNat (D.slc [])) = lst2 (List.replicate ((S : Int) + v.tdiv 11).toNat []) := by simp [lst2, lst]
  rw [he]
  refine c17_3 (by omega) hS (T := ((S : Int) + v.tdiv 11).toNat) (by omega) m k d2 _ hd2 (by omega) (by omega) (by simp) (fun l hl => ?_) fun out d' hd' ho hl => h out d' hd' (by omega) hl
  have := List.eq_of_mem_replicate hl
  subst this
  simp; omega

theorem c3_6 (hn : 60 ≤ n) (hw : 1 ≤ w) (hw2 : w ≤ 3) (hb : 1 ≤ b) (hb2 : b ≤ 4) (hS : S ≤ 4) {mine : List (List Int)} (hm : mine.length ≤ 5) {Q : List D → Prop} (h : Q [.bool true]) : ∀ (m0 k : Nat) (d : D) (others : List (List (List Int))), Dk d → k < m0 → others.length + k ≤ 3 →
    (∀ o ∈ others, ∀ l ∈ o, l.length ≤ 8) → L3_6 n m0 (.int (k : Int)) (cch S w b) (lst3 others) d (lst2 mine) Q := by
  intro m0
  induction m0 with
  | zero => intro k d out _ h; omega
  | succ m0 ih =>
    intro k d others hd h1 h2 h3
    rw [L3_6_eq]
    simp only [i_int, xs_lst3]
    refine cLt (fun c => ?_) fun c => ?_
    · refine lists_wp (by omega) hS hd fun out d' hd' ho hl => ?_
      simp only [rs0, rsS]
      rw [wrap_id (show -9223372036854775808 ≤ (k : Int) - 1 by omega) (by omega)]
      refine ⟨?_, ?_⟩
      · unfold room
        simp only [List.length_map, List.length_singleton]
        omega
      · rw [show ((k : Int) - 1) = ((k - 1 : Nat) : Int) by omega, show D.slc (others.map lst2 ++ [lst2 out]) = lst3 (others ++ [out]) by simp [lst3]]
        refine ih (k - 1) d' _ hd' (by omega) (by simp; omega) (fun o ho => ?_)
        rcases List.mem_append.mp ho with ho | ho
        · exact h3 o ho
        · simp only [List.mem_singleton] at ho
          subst ho
          exact hl
    · obtain ⟨m, rfl⟩ : ∃ m, n = m + 1 := ⟨n - 1, by omega⟩
      have hB : Bnd m w mine others := bnd_of (B := 8) (C := 3) (by omega) (by omega) (by omega) (by omega) (by omega) h3 (by omega) (by omega) (by omega) (by omega) (by omega)
      refine common_wp (s := S) hB (by omega) (by omega) (by omega) (by omega) (by omega) (by omega) (by omega) ?_
      refine common'_wp (s := S) hB ?_
      rw [rs0, i_int, iEq_iff.mpr rfl, cond_true]
      exact awake_wp (by omega) h

theorem evict_common_wp (hn : 70 ≤ n) {l : List Int} (hl : l.length ≤ 2000000) : wpF Try.prog A n 3 [lst l] fun r => r = [.bool true] := by
  obtain ⟨m, rfl⟩ : ∃ m, n = m + 1 := ⟨n - 1, by omega⟩
  rw [E3]
  refine new_wp (by omega) hl fun d hd => ?_
  rw [rs0]
  refine cache_wp (by omega) hd fun s w b d' h1 h2 h3 h4 h5 h6 hd' => ?_
  simp only [rs0, rsS]
  obtain ⟨S, rfl⟩ : ∃ S : Nat, s = S := ⟨s.toNat, by omega⟩
  refine ⟨trivial, lists_wp (by omega) (by omega) hd' fun mine d2 hd2 hm hml => ?_⟩
  simp only [rs0, rsS]
  refine next_wp (by omega) hd2 (by omega) (by omega) fun v d3 hv hv' hd3 => ?_
  simp only [rs0, rsS]
  obtain ⟨k, rfl⟩ : ∃ k : Nat, v = k := ⟨v.toNat, by omega⟩
  rw [show D.slc ([] : List D) = lst3 [] from rfl]
  exact c3_6 (Q := fun r => r = [.bool true]) (by omega) h3 h4 h5 h6 (by omega) hm rfl m k d3 [] hd3 (by omega) (by simp; omega) (by simp)
end
end Go.Ab
