/- Equations and plain laws of the functions that the statement reaches, part 3. Conditions: those in each theorem. -/
import Derived.Test.YtpkjnlmniacnaaaProg
import Derived.Test.YtpkjnlmniacnaaaAbPart1
import Derived.Shelf.Slices.Cells
import Derived.KernelRfl
import Derived.Test.YtpkjnlmniacnaaaPart2
set_option linter.unusedVariables false
set_option linter.unusedSimpArgs false
/- slices.Compact of numbers, by the library's contract. -/
namespace Go.Ab
open Go.Proofs Go.Shelf Go.Lib

def cptR : Ren := ⟨fun _ => 47, fun t => if t = 22 then 29 else t, fun x => x⟩
set_option maxRecDepth 100000

theorem cpt_lays : Lays2.n20 Try.prog cptR where
  mixed := by kernel_rfl
  f20 := by kernel_rfl
  t0 := by kernel_rfl
  a0 := fun w => by kernel_rfl
  z0 := fun w => by kernel_rfl
  v0 := fun w => by kernel_rfl
  t3 := by kernel_rfl
  a3 := fun w => by kernel_rfl
  z3 := fun w => by kernel_rfl
  v3 := fun w => by kernel_rfl
  t4 := by kernel_rfl
  a4 := fun w => by kernel_rfl
  z4 := fun w => by kernel_rfl
  v4 := fun w => by kernel_rfl
  t22 := by kernel_rfl
  a22 := fun w => by kernel_rfl
  z22 := fun w => by kernel_rfl
  v22 := fun w => by kernel_rfl
  i3 := by kernel_rfl

theorem only47 : ((List.range Try.prog.funcs.size).all fun h => !(isCpt Try.prog h) || Nat.beq h 47) = true := by kernel_rfl

theorem keeps_setCell (w : World) (b o : Nat) (v : Value) : Keeps (fun x => x = b) w (w.setCell ⟨b, o, none⟩ v) := by
  refine ⟨rfl, rfl, rfl, ?_, fun c hc hn => ?_⟩
  · simp [World.setCell]
  · simp only [World.setCell, Array.getElem?_modify, if_neg (fun e => hn (Eq.symm e))]
theorem keeps_setCells (b : Nat) : ∀ (l : List Value) (o : Nat) (w : World), Keeps (fun x => x = b) w (w.setCells b o l)
  | [], _, w => Keeps.refl _ w
  | v :: l, o, w => (keeps_setCell w b o v).trans (keeps_setCells b l (o + 1) _) (fun _ h => h) fun _ _ h => h

theorem cptI_compact (zs : List Int) : Lib.compact zs = cptI zs := by
  have key : ∀ (l pre : List Int) (p : Int), (pre ++ [p]).length ≤ (pre ++ p :: l).length → compactUpTo (pre ++ p :: l).toArray (pre ++ p :: l).length = compactUpTo (pre ++ p :: l).toArray (pre ++ [p]).length ++ cptF p l := by
    intro l
    induction l with
    | nil => intro pre p _; simp [cptF]
    | cons x l ih =>
      intro pre p _
      have h1 := ih (pre ++ [p]) x (by simp)
      have e1 : pre ++ [p] ++ x :: l = pre ++ p :: x :: l := by simp
      rw [e1] at h1
      rw [h1]
      have h2 : (pre ++ [p] ++ [x]).length = (pre ++ [p]).length + 1 := by simp
      rw [h2, compactUpTo_succ]
      have gx : (pre ++ p :: x :: l).toArray[(pre ++ [p]).length]! = x := by
        rw [getElem!_pos _ _ (by simp)]
        simp [List.getElem_append_right]
      have gp : (pre ++ p :: x :: l).toArray[(pre ++ [p]).length - 1]! = p := by
        rw [getElem!_pos _ _ (by simp)]
        simp [List.getElem_append_right]
      have hk : keeps (pre ++ p :: x :: l).toArray (pre ++ [p]).length = decide (x ≠ p) := by
        unfold keeps
        rw [gx, gp]
        simp
      rw [hk, gx]
      by_cases e : x = p
      · simp [cptF, e]
      · simp [cptF, e]
  cases zs with
  | nil => rfl
  | cons x l =>
    have := key l [] x (by simp)
    simp only [List.nil_append] at this
    unfold Lib.compact
    rw [this]
    have h1 : compactUpTo (x :: l).toArray [x].length = [x] := by
      unfold compactUpTo
      simp [List.range_succ, keeps, List.filter]
    rw [h1]
    rfl

theorem cpt_at : CompactAt Try.prog 47 := by
  refine ⟨⟨Try.f47, by kernel_rfl, by kernel_rfl⟩, fun b off n c zs w hn hbig hcap hc hf => ?_, fun a c w => ?_⟩
  · have h := Any.slices_Compact_int_cells cpt_lays b off n c zs w (by omega) hbig hcap (fun j hj => hc j (by omega)) hf
    rw [List.take_of_length_le (by omega), cptI_compact] at h
    refine Calls.mono h ?_
    rintro e w' ⟨rfl, q, rfl⟩
    have hl : (cptI zs).length ≤ n := by
      rw [← cptI_compact, ← hn]
      exact compact_length_le zs
    have hk : Keeps (fun x => x = b) w (w.drewN q) := ⟨rfl, rfl, rfl, Nat.le_refl _, fun _ _ _ => rfl⟩
    refine ⟨rfl, hk.trans (keeps_setCells b _ off _) (fun _ h => h) fun _ _ h => h, fun j hj => ?_⟩
    rw [World.cell?_setCells_in b _ off _ (fun i hi => ?_) j (by simp; omega)]
    · simp [List.getElem_append_left, hj, List.getD_eq_getElem?_getD]
    · simp only [List.length_map, List.length_append, List.length_replicate] at hi
      rw [World.cell?_drewN, hc i (by omega)]
      rfl
  · exact Calls.mono (Any.slices_Compact_int_empty cpt_lays a c w) fun e w' h => h

theorem cpt_ok (h : Nat) (hh : isCpt Try.prog h = true) : CompactAt Try.prog h := by
  by_cases hl : h < Try.prog.funcs.size
  · have := List.all_eq_true.1 only47 h (by simpa using hl)
    rw [hh] at this
    have : h = 47 := by simpa using this
    subst this
    exact cpt_at
  · unfold isCpt at hh
    rw [Array.getElem?_eq_none (by omega)] at hh
    cases hh

end Go.Ab

/- What is known ahead of each function: which memory is owned, lent, read. -/
set_option linter.unusedVariables false
namespace Go.Ab
open Go.Proofs
def sigL : List (Nat × Sig) := [(4, ⟨[.imm 29, .imm 3, .imm 3, .imm 3], [.val 4 .imm], []⟩),
  (5, ⟨[.imm 29], [.val 4 .imm], []⟩),
  (6, ⟨[.imm 29, .imm 3, .imm 3], [.val 4 .imm], []⟩),
  (7, ⟨[.imm 29, .imm 29], [.val 4 .imm], []⟩),
  (8, ⟨[], [.val 32 .imm, .val 34 (.agg [(0, (.slc (.slc .imm none) none)), (1, (.slc .imm none))])], []⟩),
  (11, ⟨[.imm 29], [.box 102 .imm], []⟩),
  (12, ⟨[.lent 102 .imm true], [.val 50 .imm], []⟩),
  (13, ⟨[.imm 3, .imm 3], [.val 3 .imm], []⟩),
  (14, ⟨[.imm 29, .imm 29], [.val 4 .imm], []⟩),
  (15, ⟨[.imm 50, .imm 54], [.val 29 .imm], []⟩),
  (16, ⟨[.imm 50, .imm 54], [.val 29 (.slc .imm none)], []⟩),
  (17, ⟨[.imm 50, .imm 3, .imm 4], [.val 4 .imm], []⟩),
  (18, ⟨[.imm 50, .imm 3, .imm 4], [.val 4 .imm], []⟩),
  (19, ⟨[], [.val 4 .imm], []⟩),
  (20, ⟨[.lent 102 .imm true], [.val 47 .imm], []⟩),
  (21, ⟨[.lent 102 .imm true, .imm 47], [.val 61 (.agg [(0, (.slc (.slc .imm none) none))])], []⟩),
  (22, ⟨[.imm 47, .imm 25, .imm 3], [.val 4 .imm], []⟩),
  (23, ⟨[.lent 102 .imm true, .imm 3], [.val 3 .imm], []⟩),
  (24, ⟨[.imm 61], [.val 61 (.agg [(0, (.slc (.slc .imm none) none))])], []⟩),
  (25, ⟨[.imm 47, .lent 61 (.agg [(0, (.slc (.slc .imm none) none))]) false, .imm 3], [.val 4 .imm], []⟩),
  (26, ⟨[.lent 102 .imm true], [.val 69 (.slc .imm none)], []⟩),
  (27, ⟨[.imm 50, .imm 69, .imm 29], [.val 50 .imm, .val 71 .imm], []⟩),
  (28, ⟨[.imm 50, .imm 69, .imm 29], [.val 50 .imm, .val 71 .imm], []⟩),
  (29, ⟨[.imm 50, .imm 50], [.val 4 .imm], []⟩),
  (30, ⟨[.imm 50], [.val 3 .imm], []⟩),
  (31, ⟨[.imm 50], [.val 3 .imm], []⟩),
  (32, ⟨[], [.val 4 .imm], []⟩),
  (33, ⟨[], [.val 4 .imm], []⟩),
  (34, ⟨[.lent 102 .imm true, .imm 3], [.val 80 .imm], []⟩),
  (35, ⟨[.lent 102 .imm true, .imm 80], [.val 29 (.slc .imm none)], []⟩),
  (36, ⟨[.imm 80, .imm 29], [.val 85 .imm, .val 71 .imm], []⟩),
  (37, ⟨[.imm 80, .imm 29], [.val 3 .imm, .val 29 (.slc .imm none), .val 71 .imm], []⟩),
  (38, ⟨[.imm 80, .imm 29], [.val 80 .imm, .val 71 .imm], []⟩),
  (39, ⟨[.imm 80, .imm 85], [.val 71 .imm], []⟩),
  (43, ⟨[.lent 102 .imm true], [.val 47 .imm], []⟩),
  (44, ⟨[.imm 54], [.val 3 .imm, .val 3 .imm], []⟩),
  (45, ⟨[.imm 47, .imm 3], [.val 3 .imm], []⟩),
  (46, ⟨[.lent 29 (.slc .imm none) false], [], []⟩),
  (48, ⟨[.imm 47, .imm 3], [.val 3 .imm], []⟩),
  (49, ⟨[.imm 48, .imm 3], [.val 4 .imm], []⟩),
  (50, ⟨[.imm 48, .imm 3], [.val 4 .imm], []⟩),
  (51, ⟨[.lent 102 .imm true, .imm 47], [.val 61 (.agg [(0, (.slc (.slc .imm none) none))])], []⟩),
  (52, ⟨[.imm 47, .imm 3], [.val 3 .imm], []⟩),
  (53, ⟨[.imm 50], [.val 71 .imm], []⟩),
  (54, ⟨[.imm 69], [.val 4 .imm], []⟩),
  (55, ⟨[.imm 3, .imm 29], [.val 4 .imm], []⟩),
  (56, ⟨[.imm 48], [.val 48 (.slc .imm none)], []⟩),
  (57, ⟨[.imm 50], [.val 71 .imm], []⟩),
  (58, ⟨[.imm 69, .imm 29], [.val 3 .imm, .val 3 .imm, .val 4 .imm], []⟩),
  (59, ⟨[.imm 48], [.val 3 .imm], []⟩),
  (60, ⟨[.imm 69, .imm 3], [.val 29 (.slc .imm none), .val 71 .imm], []⟩),
  (61, ⟨[], [.val 69 (.slc .imm none)], []⟩),
  (62, ⟨[], [.val 80 .imm, .val 85 (.agg [(0, (.slc (.agg [(4, (.slc .imm none))]) none))])], []⟩),
  (63, ⟨[.imm 80, .imm 85], [.val 71 .imm], []⟩),
  (64, ⟨[.imm 85], [.val 3 .imm], []⟩),
  (65, ⟨[.lent 102 .imm true, .imm 3], [.val 78 (.slc .imm none)], []⟩),
  (66, ⟨[.imm 80, .imm 29], [.val 3 .imm, .val 29 .imm, .val 71 .imm], []⟩),
  (67, ⟨[.imm 80, .imm 29], [.val 80 .imm, .val 71 .imm], []⟩),
  (68, ⟨[.lent 134 (.agg [(2, (.slc .imm none)), (3, (.slc .imm none)), (4, (.slc .imm none)), (5, (.slc .imm none))]) true, .imm 3, .imm 3, .imm 3], [], []⟩),
  (69, ⟨[.imm 80, .imm 29], [.val 3 .imm, .val 4 .imm], []⟩),
  (70, ⟨[.imm 80], [.val 4 .imm], []⟩),
  (71, ⟨[.imm 80], [.val 4 .imm], []⟩),
  (72, ⟨[.imm 80, .imm 85], [.val 4 .imm], []⟩),
  (73, ⟨[.imm 78, .imm 3], [.val 129 .imm, .val 129 (.agg [(0, (.slc .imm none))])], []⟩),
  (74, ⟨[.imm 80, .imm 77, .imm 141], [.val 3 .imm, .val 4 .imm, .val 4 .imm], []⟩),
  (79, ⟨[.imm 29, .imm 155], [.val 4 .imm], []⟩),
  (80, ⟨[.imm 3, .iptr 32], [.val 4 .imm], []⟩),
  (83, ⟨[.imm 32, .imm 3, .imm 41], [.val 4 .imm], []⟩),
  (84, ⟨[.imm 32], [.val 4 .imm], []⟩),
  (86, ⟨[.imm 47], [.val 71 .imm], []⟩),
  (87, ⟨[.lent 29 (.slc .imm none) false, .imm 3, .imm 3, .imm 3], [], []⟩),
  (88, ⟨[.imm 163], [.val 3 .imm], []⟩),
  (89, ⟨[.imm 47], [.val 71 .imm], []⟩),
  (90, ⟨[.imm 48, .imm 165], [.val 4 .imm], []⟩),
  (91, ⟨[.imm 104, .iptr 3], [.val 4 .imm], []⟩),
  (92, ⟨[.lent 102 .imm true, .imm 47], [.val 61 (.agg [(0, (.slc (.slc .imm none) none))])], []⟩),
  (93, ⟨[.imm 3, .imm 3, .imm 3], [.val 4 .imm], []⟩),
  (94, ⟨[.imm 48, .imm 3], [.val 4 .imm], []⟩),
  (95, ⟨[.imm 113], [.val 4 .imm], []⟩),
  (96, ⟨[.imm 69, .imm 167], [.val 4 .imm], []⟩),
  (97, ⟨[.imm 113, .iptr 113], [.val 4 .imm], []⟩),
  (98, ⟨[.imm 3], [.val 4 .imm], []⟩),
  (99, ⟨[.imm 48, .imm 3], [.val 4 .imm], []⟩),
  (100, ⟨[.imm 69], [.val 4 .imm], []⟩),
  (101, ⟨[.lent 48 (.slc .imm none) false, .imm 170], [], []⟩),
  (102, ⟨[.imm 104, .imm 104], [.val 3 .imm], []⟩),
  (103, ⟨[.imm 69, .imm 29], [.val 3 .imm, .val 3 .imm, .val 4 .imm], []⟩),
  (104, ⟨[.imm 29, .imm 29], [.val 3 .imm], []⟩),
  (105, ⟨[.imm 80], [.val 4 .imm], []⟩),
  (106, ⟨[.imm 80, .imm 85], [.val 4 .imm], []⟩),
  (107, ⟨[.imm 85], [.val 139 (.slc .imm none)], []⟩),
  (108, ⟨[.imm 139, .imm 174], [.val 4 .imm], []⟩),
  (109, ⟨[.imm 77, .iptr 80], [.val 4 .imm], []⟩),
  (110, ⟨[.imm 141], [.val 4 .imm], []⟩),
  (111, ⟨[.imm 80, .imm 77, .imm 141], [.val 3 .imm, .val 4 .imm, .val 4 .imm], []⟩),
  (113, ⟨[.imm 29, .iptr 80, .lent 4 .imm true, .lent 3 .imm true, .lent 29 (.slc .imm none) true], [], []⟩),
  (114, ⟨[.imm 80, .imm 29], [.val 3 .imm, .val 4 .imm], []⟩),
  (115, ⟨[.imm 29], [.val 29 (.slc .imm none)], []⟩),
  (116, ⟨[.imm 80], [.val 4 .imm], []⟩),
  (117, ⟨[.imm 3], [.val 4 .imm], []⟩),
  (118, ⟨[.imm 78], [.val 78 (.slc .imm none)], []⟩),
  (119, ⟨[.lent 134 (.agg [(2, (.slc .imm none)), (3, (.slc .imm none)), (4, (.slc .imm none)), (5, (.slc .imm none))]) true], [], []⟩),
  (120, ⟨[.imm 3, .lent 3 .imm true, .lent 134 (.agg [(2, (.slc .imm none)), (3, (.slc .imm none)), (4, (.slc .imm none)), (5, (.slc .imm none))]) true, .lent 3 .imm true], [], [2]⟩),
  (121, ⟨[.imm 78, .imm 3, .imm 3], [.val 4 .imm], []⟩),
  (122, ⟨[.imm 129, .imm 3], [.val 4 .imm], []⟩),
  (123, ⟨[.imm 141], [.val 4 .imm], []⟩),
  (124, ⟨[.imm 80, .imm 78, .imm 3], [.val 4 .imm], []⟩),
  (125, ⟨[.imm 78, .imm 3], [.val 3 .imm], []⟩),
  (126, ⟨[.imm 32, .imm 34], [.val 4 .imm], []⟩),
  (130, ⟨[.imm 3, .imm 3, .imm 152], [.val 188 .imm], []⟩),
  (131, ⟨[.imm 188, .imm 3, .imm 3], [.val 152 (.slc .imm none)], []⟩),
  (132, ⟨[.imm 152], [.val 152 (.slc .imm none)], []⟩),
  (133, ⟨[.imm 32, .imm 52], [.val 152 (.slc .imm none)], []⟩),
  (134, ⟨[.imm 196, .imm 3, .imm 3], [.val 3 .imm], []⟩),
  (135, ⟨[.imm 29, .imm 155], [.val 3 .imm], []⟩),
  (136, ⟨[.imm 3, .iptr 32], [.val 4 .imm], []⟩),
  (137, ⟨[.imm 3, .iptr 32], [.val 4 .imm], []⟩),
  (138, ⟨[.imm 29, .imm 3], [.val 4 .imm], []⟩),
  (139, ⟨[.imm 29, .imm 3], [.val 4 .imm], []⟩),
  (140, ⟨[.imm 3, .iptr 29], [.val 4 .imm], []⟩),
  (141, ⟨[.imm 32, .imm 3, .imm 3], [.val 4 .imm], []⟩),
  (142, ⟨[.imm 3, .iptr 38], [.val 4 .imm], []⟩),
  (143, ⟨[.imm 3, .imm 178, .iptr 32, .iptr 41], [], []⟩),
  (144, ⟨[.imm 32, .imm 3, .imm 3], [.val 3 .imm], []⟩),
  (147, ⟨[.imm 3, .imm 3, .imm 3], [.val 4 .imm], []⟩),
  (148, ⟨[.lent 29 (.slc .imm none) false, .imm 3, .imm 3], [], []⟩),
  (149, ⟨[.lent 29 (.slc .imm none) false, .imm 3, .imm 3], [], []⟩),
  (150, ⟨[.lent 29 (.slc .imm none) false, .imm 3, .imm 3], [], []⟩),
  (151, ⟨[.imm 29, .imm 3, .imm 3], [.val 3 .imm, .val 203 .imm], []⟩),
  (152, ⟨[.lent 29 (.slc .imm none) false, .imm 3, .imm 3], [], []⟩),
  (153, ⟨[.lent 29 (.slc .imm none) false, .imm 3, .imm 3], [.val 4 .imm], []⟩),
  (154, ⟨[.imm 3, .imm 3], [.val 4 .imm], []⟩),
  (155, ⟨[.lent 29 (.slc .imm none) false, .imm 3, .imm 3, .imm 3], [.val 3 .imm], []⟩),
  (156, ⟨[.lent 29 (.slc .imm none) false, .imm 3, .imm 3, .imm 3], [.val 3 .imm, .val 4 .imm], []⟩),
  (157, ⟨[.imm 210], [.val 3 .imm], []⟩),
  (158, ⟨[.imm 212], [.val 3 .imm], []⟩),
  (159, ⟨[.imm 48, .imm 165], [.val 3 .imm], []⟩),
  (160, ⟨[.imm 47], [.val 61 (.agg [(0, (.slc (.slc .imm none) none))])], []⟩),
  (161, ⟨[.imm 104, .iptr 3], [.val 4 .imm], []⟩),
  (162, ⟨[.imm 69, .imm 167], [.val 3 .imm], []⟩),
  (163, ⟨[.lent 48 (.slc .imm none) false, .imm 3, .imm 3, .imm 3, .imm 170], [], []⟩),
  (164, ⟨[.imm 3, .imm 3], [.val 3 .imm], []⟩),
  (165, ⟨[.imm 80, .imm 3, .imm 3, .imm 3, .imm 3, .imm 3, .imm 3], [.val 4 .imm], []⟩),
  (166, ⟨[.imm 141], [.val 219 .imm], []⟩),
  (167, ⟨[.imm 41, .imm 4], [.val 4 .imm], []⟩),
  (168, ⟨[.imm 141], [.val 129 .imm, .val 129 .imm], []⟩),
  (169, ⟨[.imm 77], [.val 77 (.slc .imm none)], []⟩),
  (170, ⟨[.imm 139, .imm 174], [.val 3 .imm], []⟩),
  (171, ⟨[.imm 80, .imm 77, .imm 78], [.val 29 (.slc .imm none), .val 3 .imm, .val 4 .imm], []⟩),
  (172, ⟨[.imm 78, .imm 3, .imm 3], [.val 4 .imm], []⟩),
  (173, ⟨[.imm 3], [.val 4 .imm], []⟩),
  (174, ⟨[.imm 3, .imm 3], [.val 3 .imm], []⟩),
  (176, ⟨[.imm 3], [.val 4 .imm], []⟩),
  (177, ⟨[.imm 80, .imm 29], [.val 3 .imm], []⟩),
  (178, ⟨[.imm 78, .imm 29], [.val 3 .imm], []⟩),
  (179, ⟨[.imm 3, .imm 3, .lent 141 (.agg [(4, (.slc .imm none))]) true], [], []⟩),
  (180, ⟨[.lent 78 (.slc .imm none) false, .imm 235], [], []⟩),
  (181, ⟨[.imm 131, .imm 131], [.val 3 .imm], []⟩),
  (182, ⟨[.imm 3], [.val 4 .imm], []⟩),
  (184, ⟨[.imm 152], [.val 152 (.slc .imm none)], []⟩),
  (185, ⟨[.imm 191, .iptr 29], [.val 4 .imm], []⟩),
  (186, ⟨[.imm 191, .iptr 41], [.val 4 .imm], []⟩),
  (187, ⟨[.lent 152 (.slc .imm none) false], [], []⟩),
  (188, ⟨[.imm 29, .imm 3], [.val 3 .imm, .val 4 .imm], []⟩),
  (189, ⟨[.imm 29, .imm 3], [.val 3 .imm], []⟩),
  (190, ⟨[.imm 23, .imm 242], [.val 3 .imm], []⟩),
  (191, ⟨[.imm 38, .iptr 3, .iptr 3], [.val 4 .imm], []⟩),
  (192, ⟨[.lent 29 (.slc .imm none) false, .imm 3, .imm 3, .imm 3], [], []⟩),
  (193, ⟨[.imm 3], [.val 163 .imm], []⟩),
  (194, ⟨[.lent 243 .imm true], [.val 212 .imm], []⟩),
  (195, ⟨[.imm 29, .imm 3, .lent 3 .imm true], [.val 3 .imm], []⟩),
  (196, ⟨[.imm 29, .imm 3, .imm 3, .imm 3, .lent 3 .imm true], [.val 3 .imm], []⟩),
  (197, ⟨[.imm 3], [.val 4 .imm], []⟩),
  (198, ⟨[.lent 48 (.slc .imm none) false, .imm 3, .imm 3, .imm 170], [], []⟩),
  (199, ⟨[.lent 48 (.slc .imm none) false, .imm 3, .imm 3, .imm 170], [], []⟩),
  (200, ⟨[.lent 48 (.slc .imm none) false, .imm 3, .imm 3, .imm 170], [], []⟩),
  (201, ⟨[.imm 48, .imm 3, .imm 3, .imm 170], [.val 3 .imm, .val 203 .imm], []⟩),
  (202, ⟨[.lent 48 (.slc .imm none) false, .imm 3, .imm 3, .imm 170], [], []⟩),
  (203, ⟨[.lent 48 (.slc .imm none) false, .imm 3, .imm 3, .imm 170], [.val 4 .imm], []⟩),
  (204, ⟨[.lent 48 (.slc .imm none) false, .imm 3, .imm 3, .imm 3, .imm 170], [.val 3 .imm], []⟩),
  (205, ⟨[.lent 48 (.slc .imm none) false, .imm 3, .imm 3, .imm 3, .imm 170], [.val 3 .imm, .val 4 .imm], []⟩),
  (206, ⟨[.imm 3, .imm 3], [.val 4 .imm], []⟩),
  (207, ⟨[.imm 77, .imm 255], [.val 4 .imm], []⟩),
  (208, ⟨[.imm 129, .iptr 80, .iptr 3, .iptr 3], [.val 4 .imm], []⟩),
  (209, ⟨[.imm 41, .imm 4], [.val 3 .imm], []⟩),
  (210, ⟨[.imm 77, .imm 255], [.val 3 .imm], []⟩),
  (211, ⟨[.imm 129, .iptr 29], [.val 4 .imm], []⟩),
  (212, ⟨[.lent 78 (.slc .imm none) false, .imm 3, .imm 3, .imm 3, .imm 235], [], []⟩),
  (213, ⟨[.imm 152, .imm 237], [.val 3 .imm], []⟩),
  (214, ⟨[.imm 3], [.val 4 .imm], []⟩),
  (215, ⟨[.imm 29, .imm 3, .imm 3, .lent 3 .imm true], [.val 3 .imm, .val 3 .imm], []⟩),
  (216, ⟨[.lent 48 (.slc .imm none) false, .imm 3, .imm 3, .imm 3, .imm 170], [], []⟩),
  (217, ⟨[.imm 48, .imm 3, .lent 3 .imm true, .imm 170], [.val 3 .imm], []⟩),
  (218, ⟨[.imm 48, .imm 3, .imm 3, .imm 3, .lent 3 .imm true, .imm 170], [.val 3 .imm], []⟩),
  (219, ⟨[.lent 78 (.slc .imm none) false, .imm 3, .imm 3, .imm 235], [], []⟩),
  (220, ⟨[.lent 78 (.slc .imm none) false, .imm 3, .imm 3, .imm 235], [], []⟩),
  (221, ⟨[.lent 78 (.slc .imm none) false, .imm 3, .imm 3, .imm 235], [], []⟩),
  (222, ⟨[.imm 78, .imm 3, .imm 3, .imm 235], [.val 3 .imm, .val 203 .imm], []⟩),
  (223, ⟨[.lent 78 (.slc .imm none) false, .imm 3, .imm 3, .imm 235], [], []⟩),
  (224, ⟨[.lent 78 (.slc .imm none) false, .imm 3, .imm 3, .imm 235], [.val 4 .imm], []⟩),
  (225, ⟨[.lent 78 (.slc .imm none) false, .imm 3, .imm 3, .imm 3, .imm 235], [.val 3 .imm], []⟩),
  (226, ⟨[.lent 78 (.slc .imm none) false, .imm 3, .imm 3, .imm 3, .imm 235], [.val 3 .imm, .val 4 .imm], []⟩),
  (227, ⟨[.imm 48, .imm 3, .imm 3, .lent 3 .imm true, .imm 170], [.val 3 .imm, .val 3 .imm], []⟩),
  (228, ⟨[.lent 78 (.slc .imm none) false, .imm 3, .imm 3, .imm 3, .imm 235], [], []⟩),
  (229, ⟨[.imm 78, .imm 3, .lent 3 .imm true, .imm 235], [.val 3 .imm], []⟩),
  (230, ⟨[.imm 78, .imm 3, .imm 3, .imm 3, .lent 3 .imm true, .imm 235], [.val 3 .imm], []⟩),
  (231, ⟨[.imm 78, .imm 3, .imm 3, .lent 3 .imm true, .imm 235], [.val 3 .imm, .val 3 .imm], []⟩),
  (248, ⟨[.imm 222, .imm 80, .imm 3], [.val 4 .imm], []⟩),
  (249, ⟨[.imm 78], [.val 4 .imm], []⟩),
  (250, ⟨[.imm 223, .imm 80, .imm 3], [.val 4 .imm], []⟩),
  (251, ⟨[.imm 80, .imm 78, .imm 3], [.val 4 .imm], []⟩)]
def cmdL : List (Nat × List (Nat × List Cmd)) := [(5, [(26, [.unbox 15])]),
  (6, [(16, [.frz 54 []])]),
  (8, [(2, [.frz 2 []])]),
  (12, [(8, [.frz 3 []])]),
  (24, [(6, [.unbox 3])]),
  (27, [(15, [.frz 3 []])]),
  (28, [(16, [.frz 3 []])]),
  (33, [(2, [.frz 2 []])]),
  (34, [(14, [.frz 7 [], .weak 5 (.agg [(1, (.slc .imm none)), (2, (.slc .imm none))])]), (15, [.frz 5 []])]),
  (36, [(11, [.weak 36 (.agg [(2, (.slc .imm none)), (3, (.slc .imm none)), (4, (.slc .imm none)), (5, (.slc .imm none))])]), (12, [.frz 36 [.fld 5]])]),
  (38, [(16, [.frz 6 []])]),
  (39, [(13, [.frz 25 [.idx 0]]), (14, [.frz 9 []])]),
  (62, [(2, [.frz 2 []])]),
  (66, [(9, [.frz 11 []])]),
  (67, [(14, [.frz 6 []])]),
  (72, [(20, [.frz 25 []])]),
  (92, [(2, [.unbox 5])]),
  (106, [(23, [.frz 31 []])]),
  (107, [(7, [.frz 11 [.idx 0]])]),
  (119, [(6, [.weak 2 (.agg [(4, (.slc .imm none))])]), (20, [.weak 2 (.agg [(4, (.slc .imm none))])]), (34, [.frz 2 []])]),
  (130, [(17, [.frz 7 []])]),
  (160, [(11, [.unbox 3])]),
  (168, [(8, [.frz 3 []])])]
def loopL : List (Nat × List (Nat × (List Cmd × List Nat × List Nat))) := [(5, [(9, ([.thaw 7 .imm, .home 7], [3, 4, 5, 6, 7, 8], [4, 5, 7, 19, 36])), (15, ([], [3, 4, 5, 6, 7, 8, 9, 10, 55, 56, 57], [4, 5, 7, 19, 36, 48])), (23, ([], [3, 4, 5, 6, 7, 13, 87], [4, 5, 7, 19, 36, 86])), (31, ([], [4, 6, 13, 112, 113, 114], [4, 7, 36, 86]))]),
  (6, [(9, ([.thaw 10 .imm, .home 10], [2, 7, 8, 9, 10, 37, 38], [9, 10, 19, 21])), (15, ([.weak 9 .imm, .weak 21 .imm, .weak 54 .imm], [8, 9, 54, 55, 56], [9, 21, 54]))]),
  (7, [(6, ([], [6, 32, 33, 34], [6, 32]))]),
  (14, [(4, ([], [0, 1, 5], []))]),
  (15, [(4, ([.thaw 5 .imm, .home 5], [2, 5, 7, 8], [2, 5]))]),
  (16, [(3, ([.thaw 5 .imm, .home 5], [2, 3, 5, 6], [2, 3, 5]))]),
  (24, [(3, ([], [1, 2, 3, 4], [1, 2, 3]))]),
  (25, [(8, ([], [1, 7, 8, 9, 10, 11], [1])), (13, ([], [1, 7, 8, 10, 12], [1]))]),
  (26, [(4, ([.thaw 3 .imm, .home 3], [0, 3, 4, 5], [0, 3, 4]))]),
  (27, [(7, ([], [1, 3, 6, 33, 34, 35], [3, 6]))]),
  (28, [(8, ([], [1, 3, 6, 35, 36, 37], [3, 6]))]),
  (29, [(4, ([], [2, 3, 102, 103], [2, 3])), (10, ([], [2, 3, 120, 121], [2, 3]))]),
  (31, [(3, ([], [1, 3, 6], [1])), (9, ([], [1, 3, 16], [1]))]),
  (34, [(4, ([.weak 5 (.agg [(1, (.slc .imm none)), (2, (.slc .imm none))])], [0, 4, 5, 6], [0, 4, 5])), (9, ([], [0, 4, 5, 6, 7, 41, 42], [0, 4, 5, 7]))]),
  (35, [(3, ([.thaw 5 .imm, .home 5], [0, 5, 7, 8], [0, 5]))]),
  (36, [(7, ([], [2, 4, 6, 11, 38, 39], [2, 4, 36]))]),
  (37, [(7, ([.thaw 12 .imm, .home 12], [1, 2, 7, 9, 10, 11, 12], [2, 7, 12, 27])), (11, ([], [1, 2, 7, 9, 10, 11, 12, 15], [2, 7, 12, 27, 46]))]),
  (38, [(5, ([], [1, 4, 6, 36, 37, 38], [4, 6])), (10, ([], [4, 6, 54, 55, 56], [4, 6]))]),
  (39, [(7, ([.weak 25 (.slc .imm none)], [2, 3, 5, 27, 28, 29], [2, 3, 25])), (17, ([], [2, 3, 5, 81, 82, 83], [2, 3, 25]))]),
  (50, [(2, ([], [0, 1, 5], []))]),
  (53, [(8, ([], [1, 31, 32, 33], [1, 31]))]),
  (54, [(2, ([], [0, 5, 6, 7], []))]),
  (55, [(2, ([], [0, 1, 7, 8, 9], []))]),
  (58, [(5, ([], [0, 1, 7, 8, 14, 15, 16], []))]),
  (59, [(5, ([], [3, 4, 12, 13, 14], [9]))]),
  (60, [(8, ([.thaw 6 .imm, .home 6], [0, 1, 6, 7, 8, 26, 27], [6])), (12, ([.thaw 10 .imm, .home 10], [0, 1, 6, 7, 8, 9, 10, 26, 27, 31, 32], [6, 10]))]),
  (63, [(9, ([], [2, 3, 5, 24, 25, 26], [2, 3, 19]))]),
  (64, [(3, ([], [3, 7, 8, 9], []))]),
  (65, [(3, ([.thaw 5 .imm, .home 5], [0, 1, 5, 6], [0, 5]))]),
  (67, [(5, ([], [1, 4, 6, 40, 41, 42], [4, 6])), (10, ([], [4, 6, 58, 59, 60], [4, 6]))]),
  (69, [(4, ([], [1, 2, 21, 22, 23], [2])), (10, ([], [1, 2, 35, 36, 37], [2])), (14, ([], [1, 2, 9, 10, 35, 36, 37, 42, 43, 44], [2, 9])), (23, ([], [1, 13, 67, 68, 69], []))]),
  (70, [(4, ([], [1, 38, 39, 40], [1]))]),
  (71, [(2, ([], [1, 6, 7, 8], [1]))]),
  (72, [(5, ([], [2, 3, 5, 27, 28, 29], [2, 3, 25])), (13, ([], [2, 3, 5, 6, 27, 28, 29, 69, 70, 71], [2, 3, 25, 69])), (21, ([], [97, 98, 99], []))]),
  (73, [(3, ([.thaw 6 .imm, .home 6], [0, 1, 4, 5, 6, 9, 10, 11], [4, 5, 6]))]),
  (74, [(4, ([], [1, 3, 5, 9, 10, 23, 24, 25], [3, 5, 21])), (13, ([], [1, 3, 5, 9, 10, 12, 13, 23, 24, 25, 67, 68, 69], [3, 5, 12, 13, 21])), (20, ([], [3, 5, 10, 94, 95, 96], [3, 5, 21]))]),
  (83, [(4, ([], [2, 3, 7, 8, 22, 23, 24], [3, 7])), (12, ([], [2, 7, 99, 100, 101], [7])), (15, ([], [2, 7, 11, 99, 100, 101, 107, 108, 109], [7]))]),
  (84, [(2, ([], [1, 11, 12, 13], [1])), (12, ([], [1, 50, 51, 52], [1])), (15, ([], [1, 6, 7, 50, 51, 52, 60, 61, 62], [1, 7]))]),
  (87, [(2, ([], [0, 1, 2, 3, 8, 9], [0]))]),
  (92, [(3, ([], [0, 3, 4, 5, 6], [0, 3, 4, 5]))]),
  (99, [(4, ([], [0, 1, 5], []))]),
  (100, [(2, ([], [0, 8, 9, 10], [])), (10, ([], [0, 4, 8, 9, 10, 61, 62, 63], [4]))]),
  (103, [(5, ([], [0, 7, 8, 21, 22, 23], []))]),
  (104, [(2, ([], [0, 1, 9, 10, 11], []))]),
  (106, [(5, ([], [2, 3, 5, 33, 34, 35], [2, 3, 31])), (16, ([], [2, 3, 5, 33, 34, 35, 58, 59, 60], [2, 3, 31, 58]))]),
  (107, [(3, ([.weak 11 (.slc .imm none)], [3, 13, 14, 15], [11]))]),
  (111, [(5, ([], [3, 5, 9, 10, 39, 40, 41], [3, 5, 20]))]),
  (119, [(8, ([], [0, 2, 3, 4, 47, 48, 49], [0, 2, 22])), (13, ([], [0, 2, 3, 4, 65, 66, 67], [0, 2, 22])), (18, ([.weak 2 (.agg [(4, (.slc .imm none))])], [0, 2, 4, 78, 79, 80], [0, 2, 22])), (26, ([.thaw 12 .imm], [0, 2, 12, 111, 112, 113], [0, 2, 12]))]),
  (121, [(2, ([], [0, 1, 2, 9, 10, 11], []))]),
  (123, [(2, ([], [1, 6, 7, 8], [1]))]),
  (125, [(2, ([], [1, 7, 8, 9], []))]),
  (126, [(5, ([], [2, 5, 31, 32, 33], [2]))]),
  (130, [(4, ([], [1, 2, 6, 7, 23, 24], [6, 7])), (7, ([], [1, 2, 6, 7, 8, 23, 24, 26, 27, 28], [6, 7]))]),
  (131, [(3, ([.thaw 7 .imm, .home 7], [1, 3, 7, 8], [3, 7]))]),
  (132, [(3, ([], [3, 8, 9, 10], [7]))]),
  (133, [(3, ([.thaw 5 .imm], [1, 5, 11, 12, 13], [5])), (6, ([.thaw 5 .imm, .home 5], [1, 5, 6, 11, 12, 13, 19, 20, 21], [5]))]),
  (134, [(3, ([], [1, 3, 7, 8, 33, 34, 35], [3]))]),
  (135, [(2, ([], [0, 1, 7, 8], []))]),
  (141, [(1, ([], [1, 2, 3], [3]))]),
  (143, [(1, ([], [0, 1, 2, 3, 13, 14, 15], []))]),
  (148, [(1, ([], [0, 1, 2, 6], [0])), (4, ([], [0, 1, 2, 6, 7], [0]))]),
  (149, [(4, ([], [0, 6, 7, 8, 9], [0])), (8, ([], [0, 6, 7, 10], [0]))]),
  (150, [(5, ([], [0, 1, 6, 7, 8, 9], [0, 7]))]),
  (152, [(2, ([], [0, 6, 7], [0]))]),
  (153, [(3, ([], [0, 1, 2, 7, 8], [0])), (5, ([], [0, 1, 2, 7, 8], [0])), (14, ([], [0, 1, 2, 7, 8, 9], [0])), (20, ([], [0, 1, 2, 7, 8, 10], [0]))]),
  (155, [(3, ([], [0, 1, 9, 10], [0]))]),
  (156, [(3, ([], [0, 1, 10, 11], [0])), (5, ([], [0, 1, 10, 11], [0])), (13, ([], [0, 1, 10, 11], [0]))]),
  (159, [(2, ([], [0, 1, 7, 8], []))]),
  (160, [(3, ([], [1, 2, 3, 4], [1, 2, 3])), (7, ([.thaw 5 .imm, .home 5], [1, 2, 3, 4, 5, 6], [1, 2, 3, 5]))]),
  (162, [(2, ([], [0, 1, 7, 8], []))]),
  (163, [(2, ([], [0, 1, 2, 3, 4, 10, 11], [0]))]),
  (168, [(4, ([], [2, 3, 17, 18, 19], [2, 3]))]),
  (170, [(2, ([], [0, 1, 7, 8], []))]),
  (171, [(3, ([], [1, 3, 9, 10, 20, 21, 22], [3, 19])), (13, ([], [1, 3, 9, 10, 12, 20, 21, 22, 79, 80, 81], [3, 12, 19]))]),
  (172, [(2, ([], [0, 1, 2, 9, 10, 11], []))]),
  (178, [(3, ([], [1, 5, 8, 9, 10], []))]),
  (187, [(1, ([], [0, 2, 3], [0]))]),
  (188, [(3, ([], [0, 1, 6, 7, 8], []))]),
  (189, [(2, ([], [0, 1, 7, 8], []))]),
  (190, [(2, ([], [0, 1, 7, 8], []))]),
  (192, [(1, ([], [0, 2, 3, 8], [0]))]),
  (198, [(1, ([], [0, 1, 2, 3, 8], [0])), (4, ([], [0, 1, 2, 3, 8, 9], [0]))]),
  (199, [(4, ([], [0, 3, 8, 9, 10, 11], [0])), (8, ([], [0, 3, 8, 9, 12], [0]))]),
  (200, [(5, ([], [0, 1, 8, 9, 10, 11], [0, 9]))]),
  (202, [(2, ([], [0, 8, 9], [0]))]),
  (203, [(3, ([], [0, 1, 2, 3, 9, 10], [0])), (5, ([], [0, 1, 2, 3, 9, 10], [0])), (14, ([], [0, 1, 2, 3, 9, 10, 11], [0])), (20, ([], [0, 1, 2, 3, 9, 10, 12], [0]))]),
  (204, [(3, ([], [0, 1, 4, 11, 12], [0]))]),
  (205, [(3, ([], [0, 1, 4, 12, 13], [0])), (5, ([], [0, 1, 4, 12, 13], [0])), (13, ([], [0, 1, 4, 12, 13], [0]))]),
  (209, [(2, ([], [0, 1, 7, 8], []))]),
  (210, [(2, ([], [0, 1, 7, 8], []))]),
  (212, [(2, ([], [0, 1, 2, 3, 4, 10, 11], [0]))]),
  (213, [(2, ([], [0, 1, 7, 8], []))]),
  (216, [(1, ([], [0, 2, 3, 4, 10], [0]))]),
  (219, [(1, ([], [0, 1, 2, 3, 8], [0])), (4, ([], [0, 1, 2, 3, 8, 9], [0]))]),
  (220, [(4, ([], [0, 3, 8, 9, 10, 11], [0])), (8, ([], [0, 3, 8, 9, 12], [0]))]),
  (221, [(5, ([], [0, 1, 8, 9, 10, 11], [0, 9]))]),
  (223, [(2, ([], [0, 8, 9], [0]))]),
  (224, [(3, ([], [0, 1, 2, 3, 9, 10], [0])), (5, ([], [0, 1, 2, 3, 9, 10], [0])), (14, ([], [0, 1, 2, 3, 9, 10, 11], [0])), (20, ([], [0, 1, 2, 3, 9, 10, 12], [0]))]),
  (225, [(3, ([], [0, 1, 4, 11, 12], [0]))]),
  (226, [(3, ([], [0, 1, 4, 12, 13], [0])), (5, ([], [0, 1, 4, 12, 13], [0])), (13, ([], [0, 1, 4, 12, 13], [0]))]),
  (228, [(1, ([], [0, 2, 3, 4, 10], [0]))]),
  (249, [(2, ([], [0, 5, 6, 7], []))])]
def ownL : List (Nat × List Nat) := [(34, [16, 35]), (36, [22, 35, 73]), (38, [26, 34, 49, 67, 74]), (67, [30, 38, 53, 71]), (119, [16])]
def A : Ann :=
  { sig := fun f => assoc sigL f ⟨[], [], []⟩, cmd := fun f r => assoc (assoc cmdL f []) r [], loop := fun f r => assoc (assoc loopL f []) r ([], [], []), own := fun f d => (assoc ownL f []).any (Nat.beq d), prim := fun f => [47].any (Nat.beq f) }
end Go.Ab

/- Equations of functions: each rule reduces to a plain formula, by the kernel. -/
set_option linter.unusedVariables false
namespace Go.Ab
open Go.Proofs
/- timebound/timeboundmake.New -/
theorem E11 (n : Nat) (d0 : D) (Q : List D → Prop) : wpF Try.prog A (n + 1) 11 [d0] Q =
 (Q [(D.agg [d0, (D.int (0 : Int))])]) := by kernel_rfl

/- timebound/timeboundmake.Mod -/
theorem E13 (n : Nat) (d0 d1 : D) (Q : List D → Prop) : wpF Try.prog A (n + 1) 13 [d0, d1] Q =
 ((D.i d1) ≠ (0 : Int) ∧ ((D.i d1) ≠ (0 : Int) ∧ (Q [(D.int (Int.tmod (IntKind.wrap .i64 ((Int.tmod (D.i d0) (D.i d1)) + (D.i d1))) (D.i d1)))]))) := by kernel_rfl

/- (*timebound/timeboundmake.Deck).Next -/
theorem E23 (n : Nat) (d0 d1 : D) (Q : List D → Prop) : wpF Try.prog A (n + 1) 23 [d0, d1] Q =
 (cond (iLe (D.len (D.fld d0 0)) (D.i (D.fld d0 1)))
 (Q [(D.int (0 : Int)), d0])
 (cond (iLe (D.i d1) (1 : Int))
 (Q [(D.int (0 : Int)), d0])
 (True ∧ ((0 ≤ (IntKind.wrap .i64 ((IntKind.wrap .i64 ((D.i (D.fld d0 1)) + (1 : Int))) - (1 : Int))) ∧ (IntKind.wrap .i64 ((IntKind.wrap .i64 ((D.i (D.fld d0 1)) + (1 : Int))) - (1 : Int))) < (D.len (D.fld d0 0))) ∧ (wpF Try.prog A n 13 [(D.el (D.fld d0 0) (IntKind.wrap .i64 ((IntKind.wrap .i64 ((D.i (D.fld d0 1)) + (1 : Int))) - (1 : Int)))), d1] fun r1 =>
 (Q [(rs r1 0), (D.agg [(D.fld d0 0), (D.int (IntKind.wrap .i64 ((D.i (D.fld d0 1)) + (1 : Int))))])])))))) := by kernel_rfl

/- timebound/timeboundmake.Cache -/
/- timebound/cache.between -/
/- timebound/cache.Check -/
/- timebound/timeboundmake2.Cache -/
end Go.Ab

/- The deck of a law: numbers that are taken one after the other; the cache that it makes. -/
namespace Go.Ab
open Go.Proofs

/-- A deck at some place. -/
def Dk (d : D) : Prop := ∃ (l : List Int) (a : Int), d = deck l a ∧ 0 ≤ a ∧ a ≤ l.length ∧ l.length ≤ 2000000

theorem mod_wp {n : Nat} (hn : 1 ≤ n) {x k : Int} {Q : List D → Prop} (hk : 1 ≤ k) (hk2 : k ≤ 4000000000000) (h : 0 ≤ Int.tmod (Int.tmod x k + k) k → Int.tmod (Int.tmod x k + k) k < k → Q [.int (Int.tmod (Int.tmod x k + k) k)]) :
    wpF Try.prog A n 13 [.int x, .int k] Q := by
  obtain ⟨m, rfl⟩ : ∃ m, n = m + 1 := ⟨n - 1, by omega⟩
  rw [E13]
  simp only [i_int]
  have h1 : -k < Int.tmod x k := Int.lt_tmod_of_pos x (by omega)
  have h2 : Int.tmod x k < k := Int.tmod_lt_of_pos x (by omega)
  rw [wrap_id (by omega) (by omega)]
  exact ⟨by omega, by omega, h (Int.tmod_nonneg _ (by omega)) (Int.tmod_lt_of_pos _ (by omega))⟩

theorem next_wp {n : Nat} (hn : 2 ≤ n) {d : D} {k : Int} {Q : List D → Prop} (hd : Dk d) (hk : 1 ≤ k) (hk2 : k ≤ 4000000000000) (h : ∀ v d', 0 ≤ v → v < k → Dk d' → Q [.int v, d']) :
    wpF Try.prog A n 23 [d, .int k] Q := by
  obtain ⟨l, a, rfl, h1, h2, h3⟩ := hd
  obtain ⟨m, rfl⟩ : ∃ m, n = m + 1 := ⟨n - 1, by omega⟩
  rw [E23]
  simp only [deck, fld0, fldS, i_int, len_lst]
  have hdk : Dk (deck l a) := ⟨l, a, rfl, h1, h2, h3⟩
  refine cLe (fun c => ?_) fun c => ?_
  · exact h 0 _ (by omega) (by omega) hdk
  · refine cLe (fun c2 => ?_) fun c2 => ?_
    · exact h 0 _ (by omega) (by omega) hdk
    · simp (disch := omega) only [wrap_id]
      rw [show a + 1 - 1 = a by omega]
      obtain ⟨b, rfl⟩ : ∃ b : Nat, a = (b : Int) := ⟨a.toNat, by omega⟩
      rw [el_lst l b (by omega)]
      refine ⟨trivial, by omega, mod_wp (by omega) hk hk2 fun h4 h5 => ?_⟩
      exact h _ _ h4 h5 ⟨l, _, rfl, by omega, by omega, h3⟩

theorem new_wp {n : Nat} (hn : 1 ≤ n) {l : List Int} {Q : List D → Prop} (hl : l.length ≤ 2000000) (h : ∀ d, Dk d → Q [d]) : wpF Try.prog A n 11 [lst l] Q := by
  obtain ⟨m, rfl⟩ : ∃ m, n = m + 1 := ⟨n - 1, by omega⟩
  rw [E11]
  exact h _ ⟨l, 0, rfl, by omega, by omega, hl⟩

/-- A cache. -/
def cch (s w b : Int) : D := .agg [.int s, .int w, .int b]

end Go.Ab
