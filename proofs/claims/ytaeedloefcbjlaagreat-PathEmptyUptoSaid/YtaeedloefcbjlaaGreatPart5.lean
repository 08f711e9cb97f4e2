/- Equations and plain laws of the functions that the statement reaches, part 5. Conditions: those in each theorem. -/
import Derived.Test.YtaeedloefcbjlaaGreatProg
import Derived.Test.YtaeedloefcbjlaaGreatPart2
import Derived.KernelRfl
import Derived.Test.YtaeedloefcbjlaaGreatPart3
import Derived.Test.YtaeedloefcbjlaaGreatPart4
set_option linter.unusedVariables false
set_option linter.unusedSimpArgs false
/- Equations of functions: each rule reduces to a plain formula, by the kernel. -/
set_option linter.unusedVariables false
namespace Go.Ab
open Go.Proofs
/- timebound/heaviest.Looped$1 -/
theorem E63 (n : Nat) (d0 d1 : D) (Q : List D → Prop) : wpF Tryz.prog A (n + 1) 63 [d0, d1] Q =
 (cond (iLe (D.i d0) (0 : Int))
 (Q [(D.bool true)])
 (Q [(D.bool (iLe (D.len (D.fld d1 1)) (D.i d0)))])) := by kernel_rfl

/- timebound/heaviest.Reached$1 -/
theorem E39 (n : Nat) (d0 d1 : D) (Q : List D → Prop) : wpF Tryz.prog A (n + 1) 39 [d0, d1] Q =
 (cond (iLt (D.i d0) (0 : Int))
 (Q [(D.bool true)])
 (Q [(D.bool (iLe (D.len (D.fld d1 1)) (D.i d0)))])) := by kernel_rfl

/- timebound/heaviest.Reached -/
def L15_3 (n m0 : Nat) (x15 : D) (x16 : D) (x17 : D) (xo1 : D) (xo13 : D) (Q : List D → Prop) : Prop :=
 loopK (wpC Tryz.prog A (hnd Tryz.prog A n) 15 n (cA (cA (cB (cA (cB (cB (bodyOf Tryz.f15)))))))) (nmK Tryz.prog (A.loop 15 3)) m0 { sl := [(1, .ptr 1 [] 34), (3, .val 13 [] 61), (15, .imm 24 x15), (16, .imm 3 x16), (17, .imm 3 x17)], ob := [(1, some ⟨true, 34, .imm, xo1⟩), (13, some ⟨false, 61, (.slc .imm none), xo13⟩)] } (kBlock 0 (kSeq (wpC Tryz.prog A (hnd Tryz.prog A n) 15 n (cB (cB (cB (bodyOf Tryz.f15))))) (kEnd Tryz.prog Tryz.f15 (A.sig 15) Q)))
def L15_12 (n m0 : Nat) (xo1 : D) (xo13 : D) (xo33 : D) (Q : List D → Prop) : Prop :=
 loopK (wpC Tryz.prog A (hnd Tryz.prog A n) 15 n (cA (cA (cB (cA (cB (cB (cB (cB (cB (bodyOf Tryz.f15))))))))))) (nmK Tryz.prog (A.loop 15 12)) m0 { sl := [(1, .ptr 1 [] 34), (3, .val 13 [] 61), (6, .val 33 [] 31)], ob := [(1, some ⟨true, 34, .imm, xo1⟩), (13, some ⟨false, 61, (.slc .imm none), xo13⟩), (33, some ⟨false, 31, (.slc .imm none), xo33⟩)] } (kBlock 2 (kSeq (wpC Tryz.prog A (hnd Tryz.prog A n) 15 n (cB (cB (cB (cB (cB (cB (bodyOf Tryz.f15)))))))) (kEnd Tryz.prog Tryz.f15 (A.sig 15) Q)))
def L15_16 (n m0 m1 : Nat) (x47 : D) (x48 : D) (x49 : D) (xo1 : D) (xo13 : D) (xo33 : D) (Q : List D → Prop) : Prop :=
 loopK (wpC Tryz.prog A (hnd Tryz.prog A n) 15 n (cA (cA (cB (cB (cB (cA (cB (cA (cA (cB (cA (cB (cB (cB (cB (cB (bodyOf Tryz.f15)))))))))))))))))) (nmK Tryz.prog (A.loop 15 16)) m1 { sl := [(1, .ptr 1 [] 34), (3, .val 13 [] 61), (6, .val 33 [] 31), (47, .imm 31 x47), (48, .imm 3 x48), (49, .imm 3 x49)], ob := [(1, some ⟨true, 34, .imm, xo1⟩), (13, some ⟨false, 61, (.slc .imm none), xo13⟩), (33, some ⟨false, 31, (.slc .imm none), xo33⟩)] } (kBlock 4 (kBlock 3 (kLoop (nmK Tryz.prog (A.loop 15 12)) (fun g => loopK (wpC Tryz.prog A (hnd Tryz.prog A n) 15 n (cA (cA (cB (cA (cB (cB (cB (cB (cB (bodyOf Tryz.f15))))))))))) (nmK Tryz.prog (A.loop 15 12)) m0 g (kBlock 2 (kSeq (wpC Tryz.prog A (hnd Tryz.prog A n) 15 n (cB (cB (cB (cB (cB (cB (bodyOf Tryz.f15)))))))) (kEnd Tryz.prog Tryz.f15 (A.sig 15) Q)))) (kBlock 2 (kSeq (wpC Tryz.prog A (hnd Tryz.prog A n) 15 n (cB (cB (cB (cB (cB (cB (bodyOf Tryz.f15)))))))) (kEnd Tryz.prog Tryz.f15 (A.sig 15) Q))))))
theorem L15_3_eq (n m0 : Nat) (x15 : D) (x16 : D) (x17 : D) (xo1 : D) (xo13 : D) (Q : List D → Prop) : L15_3 n (m0 + 1) x15 x16 x17 xo1 xo13 Q =
 (cond (iLt (D.i x17) (D.i x16))
 ((0 ≤ (D.i x17) ∧ (D.i x17) < (D.len x15)) ∧ (True ∧ (wpF Tryz.prog A n 38 [(D.fld (D.el x15 (D.i x17)) 2), (D.fn 39 [(D.ptr xo1)])] fun r1 =>
 (cond (D.b (rs r1 0))
 (Q [xo13])
 (L15_3 n  m0 x15 x16 (D.int (IntKind.wrap .i64 ((D.i x17) + (1 : Int)))) xo1 xo13 Q)))))
 (cond (iEq (D.len xo13) (0 : Int))
 (Q [xo13])
 ((0 ≤ (0 : Int) ∧ (0 : Int) < (D.len xo13)) ∧ (True ∧ (L15_12 n  n xo1 (D.slc (List.set (D.xs xo13) (Int.toNat (0 : Int)) (D.bool true))) (D.slc [(D.int (0 : Int))]) Q))))) := by kernel_rfl
theorem L15_12_eq (n m0 : Nat) (xo1 : D) (xo13 : D) (xo33 : D) (Q : List D → Prop) : L15_12 n (m0 + 1) xo1 xo13 xo33 Q =
 (cond (iLt (0 : Int) (D.len xo33))
 ((0 ≤ (0 : Int) ∧ (0 : Int) < (D.len xo33)) ∧ ((0 ≤ (1 : Int) ∧ (1 : Int) ≤ (D.len xo33) ∧ (D.len xo33) ≤ (D.len xo33)) ∧ ((0 ≤ (D.i (List.getD (D.xs xo33) (Int.toNat (0 : Int)) D.und)) ∧ (D.i (List.getD (D.xs xo33) (Int.toNat (0 : Int)) D.und)) < (D.len (D.fld xo1 1))) ∧ (L15_16 n m0 n (D.fld (D.el (D.fld xo1 1) (D.i (List.getD (D.xs xo33) (Int.toNat (0 : Int)) D.und))) 2) (D.int (D.len (D.fld (D.el (D.fld xo1 1) (D.i (List.getD (D.xs xo33) (Int.toNat (0 : Int)) D.und))) 2))) (D.int (0 : Int)) xo1 xo13 (D.slc (List.drop (Int.toNat (1 : Int)) (List.take (Int.toNat (D.len xo33)) (D.xs xo33)))) Q))))
 (Q [xo13])) := by kernel_rfl
theorem L15_16_eq (n m0 m1 : Nat) (x47 : D) (x48 : D) (x49 : D) (xo1 : D) (xo13 : D) (xo33 : D) (Q : List D → Prop) : L15_16 n m0 (m1 + 1) x47 x48 x49 xo1 xo13 xo33 Q =
 (cond (iLt (D.i x49) (D.i x48))
 ((0 ≤ (D.i x49) ∧ (D.i x49) < (D.len x47)) ∧ ((0 ≤ (D.i (D.el x47 (D.i x49))) ∧ (D.i (D.el x47 (D.i x49))) < (D.len xo13)) ∧ (cond (!(D.b (List.getD (D.xs xo13) (Int.toNat (D.i (D.el x47 (D.i x49)))) D.und)))
 ((0 ≤ (D.i (D.el x47 (D.i x49))) ∧ (D.i (D.el x47 (D.i x49))) < (D.len xo13)) ∧ (True ∧ (room (((List.length (D.xs xo33) : Nat) : Int) + ((List.length [(D.el x47 (D.i x49))] : Nat) : Int)) 8 ∧ (L15_16 n m0 m1 x47 x48 (D.int (IntKind.wrap .i64 ((D.i x49) + (1 : Int)))) xo1 (D.slc (List.set (D.xs xo13) (Int.toNat (D.i (D.el x47 (D.i x49)))) (D.bool true))) (D.slc ((D.xs xo33) ++ [(D.el x47 (D.i x49))])) Q))))
 (L15_16 n m0 m1 x47 x48 (D.int (IntKind.wrap .i64 ((D.i x49) + (1 : Int)))) xo1 xo13 xo33 Q))))
 (L15_12 n  m0 xo1 xo13 xo33 Q)) := by kernel_rfl
theorem E15 (n : Nat) (d0 : D) (Q : List D → Prop) : wpF Tryz.prog A (n + 1) 15 [d0] Q =
 ((0 ≤ (D.len (D.fld d0 1)) ∧ (D.len (D.fld d0 1)) ≤ (D.len (D.fld d0 1)) ∧ room (D.len (D.fld d0 1)) 1) ∧ (L15_3 n  n (D.fld d0 1) (D.int (D.len (D.fld d0 1))) (D.int (0 : Int)) d0 (D.slc (List.replicate (Int.toNat (D.len (D.fld d0 1))) (D.bool false))) Q)) := by kernel_rfl
attribute [irreducible] L15_3 L15_12 L15_16

/- timebound/heaviest.End -/
def L14_3 (n m0 : Nat) (x3 : D) (x8 : D) (x9 : D) (xo1 : D) (xo7 : D) (Q : List D → Prop) : Prop :=
 loopK (wpC Tryz.prog A (hnd Tryz.prog A n) 14 n (cA (cA (cB (cA (cB (cB (bodyOf Tryz.f14)))))))) (nmK Tryz.prog (A.loop 14 3)) m0 { sl := [(1, .ptr 1 [] 34), (3, .imm 3 x3), (7, .val 7 [] 61), (8, .imm 3 x8), (9, .imm 3 x9)], ob := [(1, some ⟨true, 34, .imm, xo1⟩), (7, some ⟨false, 61, (.slc .imm none), xo7⟩)] } (kBlock 0 (kSeq (wpC Tryz.prog A (hnd Tryz.prog A n) 14 n (cB (cB (cB (bodyOf Tryz.f14))))) (kEnd Tryz.prog Tryz.f14 (A.sig 14) Q)))
theorem L14_3_eq (n m0 : Nat) (x3 : D) (x8 : D) (x9 : D) (xo1 : D) (xo7 : D) (Q : List D → Prop) : L14_3 n (m0 + 1) x3 x8 x9 xo1 xo7 Q =
 (cond (iLt (D.i x9) (D.i x8))
 ((0 ≤ (D.i x9) ∧ (D.i x9) < (D.len xo7)) ∧ (cond (!(D.b (List.getD (D.xs xo7) (Int.toNat (D.i x9)) D.und)))
 (L14_3 n  m0 x3 x8 (D.int (IntKind.wrap .i64 ((D.i x9) + (1 : Int)))) xo1 xo7 Q)
 ((0 ≤ (D.i x9) ∧ (D.i x9) < (D.len (D.fld xo1 1))) ∧ (cond (iLt (0 : Int) (D.len (D.fld (D.el (D.fld xo1 1) (D.i x9)) 2)))
 (L14_3 n  m0 x3 x8 (D.int (IntKind.wrap .i64 ((D.i x9) + (1 : Int)))) xo1 xo7 Q)
 (cond (iLe (0 : Int) (D.i x3))
 (Q [(D.int (-1 : Int))])
 (L14_3 n  m0 x9 x8 (D.int (IntKind.wrap .i64 ((D.i x9) + (1 : Int)))) xo1 xo7 Q))))))
 (Q [x3])) := by kernel_rfl
theorem E14 (n : Nat) (d0 : D) (Q : List D → Prop) : wpF Tryz.prog A (n + 1) 14 [d0] Q =
 (wpF Tryz.prog A n 15 [d0] fun r1 =>
 (L14_3 n  n (D.int (-1 : Int)) (D.int (D.len (rs r1 0))) (D.int (0 : Int)) d0 (rs r1 0) Q)) := by kernel_rfl
attribute [irreducible] L14_3

/- timebound/heaviest.nested -/
def L65_2 (n m0 : Nat) (x11 : D) (x12 : D) (x13 : D) (xo1 : D) (Q : List D → Prop) : Prop :=
 loopK (wpC Tryz.prog A (hnd Tryz.prog A n) 65 n (cA (cA (cB (cA (cB (bodyOf Tryz.f65))))))) (nmK Tryz.prog (A.loop 65 2)) m0 { sl := [(1, .ptr 1 [] 34), (11, .imm 25 x11), (12, .imm 3 x12), (13, .imm 3 x13)], ob := [(1, some ⟨true, 34, .imm, xo1⟩)] } (kBlock 0 (kSeq (wpC Tryz.prog A (hnd Tryz.prog A n) 65 n (cB (cB (bodyOf Tryz.f65)))) (kEnd Tryz.prog Tryz.f65 (A.sig 65) Q)))
def L65_12 (n m0 : Nat) (x50 : D) (x51 : D) (x52 : D) (xo1 : D) (Q : List D → Prop) : Prop :=
 loopK (wpC Tryz.prog A (hnd Tryz.prog A n) 65 n (cA (cA (cB (cA (cB (cB (bodyOf Tryz.f65)))))))) (nmK Tryz.prog (A.loop 65 12)) m0 { sl := [(1, .ptr 1 [] 34), (50, .imm 25 x50), (51, .imm 3 x51), (52, .imm 3 x52)], ob := [(1, some ⟨true, 34, .imm, xo1⟩)] } (kBlock 2 (kSeq (wpC Tryz.prog A (hnd Tryz.prog A n) 65 n (cB (cB (cB (bodyOf Tryz.f65))))) (kEnd Tryz.prog Tryz.f65 (A.sig 65) Q)))
def L65_15 (n m0 m1 : Nat) (x6 : D) (x50 : D) (x51 : D) (x52 : D) (x60 : D) (x61 : D) (x62 : D) (xo1 : D) (xo7 : D) (Q : List D → Prop) : Prop :=
 loopK (wpC Tryz.prog A (hnd Tryz.prog A n) 65 n (cA (cA (cB (cB (cA (cA (cB (cB (cA (cA (cB (cA (cB (cB (bodyOf Tryz.f65)))))))))))))))) (nmK Tryz.prog (A.loop 65 15)) m1 { sl := [(1, .ptr 1 [] 34), (6, .imm 3 x6), (7, .ptr 7 [] 69), (50, .imm 25 x50), (51, .imm 3 x51), (52, .imm 3 x52), (60, .imm 25 x60), (61, .imm 3 x61), (62, .imm 3 x62)], ob := [(1, some ⟨true, 34, .imm, xo1⟩), (7, some ⟨true, 69, .imm, xo7⟩)] } (kBlock 4 (kBlock 3 (kSeq (wpC Tryz.prog A (hnd Tryz.prog A n) 65 n (cB (cB (cB (cA (cA (cB (cA (cB (cB (bodyOf Tryz.f65))))))))))) (kLoop (nmK Tryz.prog (A.loop 65 12)) (fun g => loopK (wpC Tryz.prog A (hnd Tryz.prog A n) 65 n (cA (cA (cB (cA (cB (cB (bodyOf Tryz.f65)))))))) (nmK Tryz.prog (A.loop 65 12)) m0 g (kBlock 2 (kSeq (wpC Tryz.prog A (hnd Tryz.prog A n) 65 n (cB (cB (cB (bodyOf Tryz.f65))))) (kEnd Tryz.prog Tryz.f65 (A.sig 65) Q)))) (kBlock 2 (kSeq (wpC Tryz.prog A (hnd Tryz.prog A n) 65 n (cB (cB (cB (bodyOf Tryz.f65))))) (kEnd Tryz.prog Tryz.f65 (A.sig 65) Q)))))))
theorem L65_2_eq (n m0 : Nat) (x11 : D) (x12 : D) (x13 : D) (xo1 : D) (Q : List D → Prop) : L65_2 n (m0 + 1) x11 x12 x13 xo1 Q =
 (cond (iLt (D.i x13) (D.i x12))
 ((0 ≤ (D.i x13) ∧ (D.i x13) < (D.len x11)) ∧ (True ∧ (cond (iLt (D.i (D.fld (D.el x11 (D.i x13)) 3)) (-1 : Int))
 (Q [(D.bool false)])
 (cond (iLe (D.i x13) (D.i (D.fld (D.el x11 (D.i x13)) 3)))
 (Q [(D.bool false)])
 (cond (iLe (0 : Int) (D.i (D.fld (D.el x11 (D.i x13)) 3)))
 ((0 ≤ (D.i (D.fld (D.el x11 (D.i x13)) 3)) ∧ (D.i (D.fld (D.el x11 (D.i x13)) 3)) < (D.len (D.fld xo1 2))) ∧ (True ∧ (wpF Tryz.prog A n 100 [(D.fld (D.el (D.fld xo1 2) (D.i (D.fld (D.el x11 (D.i x13)) 3))) 2), (D.fld (D.el x11 (D.i x13)) 1)] fun r1 =>
 (cond (!(D.b (rs r1 0)))
 (Q [(D.bool false)])
 (wpF Tryz.prog A n 38 [(D.fld (D.el x11 (D.i x13)) 2), (D.fn 101 [(D.ptr (D.fld (D.el (D.fld xo1 2) (D.i (D.fld (D.el x11 (D.i x13)) 3))) 2))])] fun r2 =>
 (cond (D.b (rs r2 0))
 (Q [(D.bool false)])
 (L65_2 n  m0 x11 x12 (D.int (IntKind.wrap .i64 ((D.i x13) + (1 : Int)))) xo1 Q)))))))
 (L65_2 n  m0 x11 x12 (D.int (IntKind.wrap .i64 ((D.i x13) + (1 : Int)))) xo1 Q))))))
 (L65_12 n  n (D.fld xo1 2) (D.int (D.len (D.fld xo1 2))) (D.int (0 : Int)) xo1 Q)) := by kernel_rfl
theorem L65_12_eq (n m0 : Nat) (x50 : D) (x51 : D) (x52 : D) (xo1 : D) (Q : List D → Prop) : L65_12 n (m0 + 1) x50 x51 x52 xo1 Q =
 (cond (iLt (D.i x52) (D.i x51))
 ((0 ≤ (D.i x52) ∧ (D.i x52) < (D.len x50)) ∧ (True ∧ ((0 ≤ (0 : Int) ∧ (0 : Int) ≤ (D.i x52) ∧ (D.i x52) ≤ (D.len (D.fld xo1 2))) ∧ (L65_15 n m0 n x52 x50 x51 x52 (D.slc (List.drop (Int.toNat (0 : Int)) (List.take (Int.toNat (D.i x52)) (D.xs (D.fld xo1 2))))) (D.int (D.len (D.slc (List.drop (Int.toNat (0 : Int)) (List.take (Int.toNat (D.i x52)) (D.xs (D.fld xo1 2))))))) (D.int (0 : Int)) xo1 (D.el x50 (D.i x52)) Q))))
 (Q [(D.bool true)])) := by kernel_rfl
theorem E65 (n : Nat) (d0 : D) (Q : List D → Prop) : wpF Tryz.prog A (n + 1) 65 [d0] Q =
 (L65_2 n  n (D.fld d0 2) (D.int (D.len (D.fld d0 2))) (D.int (0 : Int)) d0 Q) := by kernel_rfl
attribute [irreducible] L65_2 L65_12 L65_15

/- timebound/heaviest.Looped -/
def L33_2 (n m0 : Nat) (x8 : D) (x9 : D) (x10 : D) (xo1 : D) (Q : List D → Prop) : Prop :=
 loopK (wpC Tryz.prog A (hnd Tryz.prog A n) 33 n (cA (cA (cB (cA (cB (bodyOf Tryz.f33))))))) (nmK Tryz.prog (A.loop 33 2)) m0 { sl := [(1, .ptr 1 [] 34), (8, .imm 24 x8), (9, .imm 3 x9), (10, .imm 3 x10)], ob := [(1, some ⟨true, 34, .imm, xo1⟩)] } (kBlock 0 (kSeq (wpC Tryz.prog A (hnd Tryz.prog A n) 33 n (cB (cB (bodyOf Tryz.f33)))) (kEnd Tryz.prog Tryz.f33 (A.sig 33) Q)))
def L33_11 (n m0 : Nat) (x35 : D) (x36 : D) (xo1 : D) (xo32 : D) (Q : List D → Prop) : Prop :=
 loopK (wpC Tryz.prog A (hnd Tryz.prog A n) 33 n (cA (cA (cB (cA (cB (cB (cB (cB (bodyOf Tryz.f33)))))))))) (nmK Tryz.prog (A.loop 33 11)) m0 { sl := [(1, .ptr 1 [] 34), (5, .val 32 [] 61), (35, .imm 3 x35), (36, .imm 3 x36)], ob := [(1, some ⟨true, 34, .imm, xo1⟩), (32, some ⟨false, 61, (.slc .imm none), xo32⟩)] } (kBlock 2 (kSeq (wpC Tryz.prog A (hnd Tryz.prog A n) 33 n (cB (cB (cB (cB (cB (bodyOf Tryz.f33))))))) (kEnd Tryz.prog Tryz.f33 (A.sig 33) Q)))
theorem L33_2_eq (n m0 : Nat) (x8 : D) (x9 : D) (x10 : D) (xo1 : D) (Q : List D → Prop) : L33_2 n (m0 + 1) x8 x9 x10 xo1 Q =
 (cond (iLt (D.i x10) (D.i x9))
 ((0 ≤ (D.i x10) ∧ (D.i x10) < (D.len x8)) ∧ (True ∧ (wpF Tryz.prog A n 38 [(D.fld (D.el x8 (D.i x10)) 2), (D.fn 63 [(D.ptr xo1)])] fun r1 =>
 (cond (D.b (rs r1 0))
 (Q [(D.bool false)])
 (L33_2 n  m0 x8 x9 (D.int (IntKind.wrap .i64 ((D.i x10) + (1 : Int)))) xo1 Q)))))
 (wpF Tryz.prog A n 14 [xo1] fun r2 =>
 (cond (iLt (D.i (rs r2 0)) (0 : Int))
 (Q [(D.bool false)])
 (cond (iLt (D.len (D.fld xo1 1)) (D.len (D.fld xo1 2)))
 (Q [(D.bool false)])
 (wpF Tryz.prog A n 15 [xo1] fun r3 =>
 (L33_11 n  n (D.int (D.len (D.fld xo1 2))) (D.int (0 : Int)) xo1 (rs r3 0) Q)))))) := by kernel_rfl
theorem L33_11_eq (n m0 : Nat) (x35 : D) (x36 : D) (xo1 : D) (xo32 : D) (Q : List D → Prop) : L33_11 n (m0 + 1) x35 x36 xo1 xo32 Q =
 (cond (iLt (D.i x36) (D.i x35))
 (wpF Tryz.prog A n 64 [xo1, x36, xo32] fun r4 =>
 (cond (!(D.b (rs r4 0)))
 (Q [(D.bool false)])
 (L33_11 n  m0 x35 (D.int (IntKind.wrap .i64 ((D.i x36) + (1 : Int)))) xo1 xo32 Q)))
 (wpF Tryz.prog A n 65 [xo1] fun r5 =>
 (cond (D.b (rs r5 0))
 (wpF Tryz.prog A n 66 [xo1, xo32] fun r6 =>
 (Q [(rs r6 0)]))
 (Q [(D.bool false)])))) := by kernel_rfl
theorem E33 (n : Nat) (d0 : D) (Q : List D → Prop) : wpF Tryz.prog A (n + 1) 33 [d0] Q =
 (L33_2 n  n (D.fld d0 1) (D.int (D.len (D.fld d0 1))) (D.int (0 : Int)) d0 Q) := by kernel_rfl
attribute [irreducible] L33_2 L33_11

/- timebound/costs.Valid$1 -/
theorem E67 (n : Nat) (d0 : D) (Q : List D → Prop) : wpF Tryz.prog A (n + 1) 67 [d0] Q =
 (cond (iLt (D.i d0) (0 : Int))
 (Q [(D.bool true)])
 (Q [(D.bool (iLt (16777216 : Int) (D.i d0)))])) := by kernel_rfl

/- timebound/costs.Valid -/
def L34_5 (n m0 : Nat) (x31 : D) (x32 : D) (x33 : D) (xo2 : D) (Q : List D → Prop) : Prop :=
 loopK (wpC Tryz.prog A (hnd Tryz.prog A n) 34 n (cA (cA (cB (cA (cB (cB (cB (bodyOf Tryz.f34))))))))) (nmK Tryz.prog (A.loop 34 5)) m0 { sl := [(2, .ptr 2 [] 34), (5, .fn 67), (31, .imm 27 x31), (32, .imm 3 x32), (33, .imm 3 x33)], ob := [(2, some ⟨true, 34, .imm, xo2⟩)] } (kBlock 0 (kSeq (wpC Tryz.prog A (hnd Tryz.prog A n) 34 n (cB (cB (cB (cB (bodyOf Tryz.f34)))))) (kEnd Tryz.prog Tryz.f34 (A.sig 34) Q)))
theorem L34_5_eq (n m0 : Nat) (x31 : D) (x32 : D) (x33 : D) (xo2 : D) (Q : List D → Prop) : L34_5 n (m0 + 1) x31 x32 x33 xo2 Q =
 (cond (iLt (D.i x33) (D.i x32))
 ((0 ≤ (D.i x33) ∧ (D.i x33) < (D.len x31)) ∧ ((0 ≤ (D.i x33) ∧ (D.i x33) < (D.len (D.fld xo2 1))) ∧ (cond (!(iEq (D.len (D.el x31 (D.i x33))) (minmax true (1 : Int) (D.len (D.fld (D.el (D.fld xo2 1) (D.i x33)) 2)))))
 (Q [(D.bool false)])
 (wpF Tryz.prog A n 38 [(D.el x31 (D.i x33)), (D.fn 67 [])] fun r2 =>
 (cond (D.b (rs r2 0))
 (Q [(D.bool false)])
 (L34_5 n  m0 x31 x32 (D.int (IntKind.wrap .i64 ((D.i x33) + (1 : Int)))) xo2 Q))))))
 (Q [(D.bool true)])) := by kernel_rfl
theorem E34 (n : Nat) (d0 d1 : D) (Q : List D → Prop) : wpF Tryz.prog A (n + 1) 34 [d0, d1] Q =
 (cond (!(iEq (D.len (D.fld d1 0)) (D.len (D.fld d0 1))))
 (Q [(D.bool false)])
 (cond (!(iEq (D.len (D.fld d1 1)) (D.len (D.fld d0 2))))
 (Q [(D.bool false)])
 (wpF Tryz.prog A n 38 [(D.fld d1 1), (D.fn 67 [])] fun r1 =>
 (cond (D.b (rs r1 0))
 (Q [(D.bool false)])
 (L34_5 n  n (D.fld d1 0) (D.int (D.len (D.fld d1 0))) (D.int (0 : Int)) d0 Q))))) := by kernel_rfl
attribute [irreducible] L34_5

/- timebound/path.check -/
theorem E10 (n : Nat) (d0 d1 : D) (Q : List D → Prop) : wpF Tryz.prog A (n + 1) 10 [d0, d1] Q =
 (wpF Tryz.prog A n 33 [d0] fun r1 =>
 (cond (!(D.b (rs r1 0)))
 (Q [(D.int (30 : Int))])
 (wpF Tryz.prog A n 34 [d0, d1] fun r2 =>
 (cond (!(D.b (rs r2 0)))
 (Q [(D.int (10 : Int))])
 (Q [(D.int (0 : Int))]))))) := by kernel_rfl

/- timebound/path.Dead$1 -/
/- timebound/path.Dead -/
def L22_3 (n m0 : Nat) (x13 : D) (x14 : D) (x15 : D) (xo11 : D) (Q : List D → Prop) : Prop :=
 loopK (wpC Tryz.prog A (hnd Tryz.prog A n) 22 n (cA (cA (cB (cA (cB (cB (bodyOf Tryz.f22)))))))) (nmK Tryz.prog (A.loop 22 3)) m0 { sl := [(3, .val 11 [] 61), (13, .imm 28 x13), (14, .imm 3 x14), (15, .imm 3 x15)], ob := [(11, some ⟨false, 61, (.slc .imm none), xo11⟩)] } (kBlock 0 (kSeq (wpC Tryz.prog A (hnd Tryz.prog A n) 22 n (cB (cB (cB (bodyOf Tryz.f22))))) (kEnd Tryz.prog Tryz.f22 (A.sig 22) Q)))
def L22_7 (n m0 m1 : Nat) (x13 : D) (x14 : D) (x15 : D) (x28 : D) (x29 : D) (x30 : D) (xo11 : D) (Q : List D → Prop) : Prop :=
 loopK (wpC Tryz.prog A (hnd Tryz.prog A n) 22 n (cA (cA (cB (cB (cB (cA (cA (cB (cB (cA (cA (cB (cA (cB (cB (bodyOf Tryz.f22))))))))))))))))) (nmK Tryz.prog (A.loop 22 7)) m1 { sl := [(3, .val 11 [] 61), (13, .imm 28 x13), (14, .imm 3 x14), (15, .imm 3 x15), (28, .imm 44 x28), (29, .imm 3 x29), (30, .imm 3 x30)], ob := [(11, some ⟨false, 61, (.slc .imm none), xo11⟩)] } (kBlock 2 (kBlock 1 (kSeq (wpC Tryz.prog A (hnd Tryz.prog A n) 22 n (cB (cB (cB (cA (cA (cB (cA (cB (cB (bodyOf Tryz.f22))))))))))) (kLoop (nmK Tryz.prog (A.loop 22 3)) (fun g => loopK (wpC Tryz.prog A (hnd Tryz.prog A n) 22 n (cA (cA (cB (cA (cB (cB (bodyOf Tryz.f22)))))))) (nmK Tryz.prog (A.loop 22 3)) m0 g (kBlock 0 (kSeq (wpC Tryz.prog A (hnd Tryz.prog A n) 22 n (cB (cB (cB (bodyOf Tryz.f22))))) (kEnd Tryz.prog Tryz.f22 (A.sig 22) Q)))) (kBlock 0 (kSeq (wpC Tryz.prog A (hnd Tryz.prog A n) 22 n (cB (cB (cB (bodyOf Tryz.f22))))) (kEnd Tryz.prog Tryz.f22 (A.sig 22) Q)))))))
theorem L22_3_eq (n m0 : Nat) (x13 : D) (x14 : D) (x15 : D) (xo11 : D) (Q : List D → Prop) : L22_3 n (m0 + 1) x13 x14 x15 xo11 Q =
 (cond (iLt (D.i x15) (D.i x14))
 ((0 ≤ (D.i x15) ∧ (D.i x15) < (D.len x13)) ∧ (True ∧ (cond (!(iEq (D.i (D.fld (D.el x13 (D.i x15)) 1)) (0 : Int)))
 (L22_3 n  m0 x13 x14 (D.int (IntKind.wrap .i64 ((D.i x15) + (1 : Int)))) xo11 Q)
 (wpF Tryz.prog A n 23 [(D.fld (D.el x13 (D.i x15)) 0), (D.fn 46 [])] fun r1 =>
 (cond (D.b (rs r1 0))
 (L22_3 n  m0 x13 x14 (D.int (IntKind.wrap .i64 ((D.i x15) + (1 : Int)))) xo11 Q)
 (L22_7 n m0 n x13 x14 x15 (D.fld (D.el x13 (D.i x15)) 0) (D.int (D.len (D.fld (D.el x13 (D.i x15)) 0))) (D.int (0 : Int)) xo11 Q))))))
 (Q [xo11])) := by kernel_rfl
theorem E22 (n : Nat) (d0 : D) (Q : List D → Prop) : wpF Tryz.prog A (n + 1) 22 [d0] Q =
 ((0 ≤ (D.len (D.fld d0 1)) ∧ (D.len (D.fld d0 1)) ≤ (D.len (D.fld d0 1)) ∧ room (D.len (D.fld d0 1)) 1) ∧ (L22_3 n  n (D.fld d0 5) (D.int (D.len (D.fld d0 5))) (D.int (0 : Int)) (D.slc (List.replicate (Int.toNat (D.len (D.fld d0 1))) (D.bool false))) Q)) := by kernel_rfl
attribute [irreducible] L22_3 L22_7

/- timebound/path.Cases -/
def L11_3 (n m0 : Nat) (x18 : D) (x19 : D) (x20 : D) (xo1 : D) (xo3 : D) (Q : List D → Prop) : Prop :=
 loopK (wpC Tryz.prog A (hnd Tryz.prog A n) 11 n (cA (cA (cB (cA (cB (cB (bodyOf Tryz.f11)))))))) (nmK Tryz.prog (A.loop 11 3)) m0 { sl := [(1, .ptr 1 [] 34), (3, .val 3 [] 59), (18, .imm 29 x18), (19, .imm 3 x19), (20, .imm 3 x20)], ob := [(1, some ⟨true, 34, .imm, xo1⟩), (3, some ⟨false, 59, (.slc (.slc .imm none) none), xo3⟩), (11, none)] } (kBlock 0 (kSeq (wpC Tryz.prog A (hnd Tryz.prog A n) 11 n (cB (cB (cB (bodyOf Tryz.f11))))) (kEnd Tryz.prog Tryz.f11 (A.sig 11) Q)))
def L11_7 (n m0 m1 : Nat) (x18 : D) (x19 : D) (x20 : D) (x25 : D) (x26 : D) (xo1 : D) (xo3 : D) (xo5 : D) (xo6 : D) (Q : List D → Prop) : Prop :=
 loopK (wpC Tryz.prog A (hnd Tryz.prog A n) 11 n (cA (cA (cB (cA (cB (cB (cA (cA (cB (cB (cA (cA (cB (cA (cB (cB (bodyOf Tryz.f11)))))))))))))))))) (nmK Tryz.prog (A.loop 11 7)) m1 { sl := [(1, .ptr 1 [] 34), (5, .ptr 5 [] 106), (6, .val 6 [] 59), (18, .imm 29 x18), (19, .imm 3 x19), (20, .imm 3 x20), (24, .val 3 [] 59), (25, .imm 3 x25), (26, .imm 3 x26)], ob := [(1, some ⟨true, 34, .imm, xo1⟩), (3, some ⟨false, 59, (.slc (.slc .imm none) none), xo3⟩), (5, some ⟨true, 106, .imm, xo5⟩), (6, some ⟨false, 59, (.slc (.slc .imm none) none), xo6⟩), (11, none)] } (kBlock 2 (kSeq (wpC Tryz.prog A (hnd Tryz.prog A n) 11 n (cB (cB (cB (cA (cA (cB (cB (cA (cA (cB (cA (cB (cB (bodyOf Tryz.f11))))))))))))))) (kBlock 1 (kSeq (wpC Tryz.prog A (hnd Tryz.prog A n) 11 n (cB (cB (cB (cA (cA (cB (cA (cB (cB (bodyOf Tryz.f11))))))))))) (kLoop (nmK Tryz.prog (A.loop 11 3)) (fun g => loopK (wpC Tryz.prog A (hnd Tryz.prog A n) 11 n (cA (cA (cB (cA (cB (cB (bodyOf Tryz.f11)))))))) (nmK Tryz.prog (A.loop 11 3)) m0 g (kBlock 0 (kSeq (wpC Tryz.prog A (hnd Tryz.prog A n) 11 n (cB (cB (cB (bodyOf Tryz.f11))))) (kEnd Tryz.prog Tryz.f11 (A.sig 11) Q)))) (kBlock 0 (kSeq (wpC Tryz.prog A (hnd Tryz.prog A n) 11 n (cB (cB (cB (bodyOf Tryz.f11))))) (kEnd Tryz.prog Tryz.f11 (A.sig 11) Q))))))))
theorem L11_3_eq (n m0 : Nat) (x18 : D) (x19 : D) (x20 : D) (xo1 : D) (xo3 : D) (Q : List D → Prop) : L11_3 n (m0 + 1) x18 x19 x20 xo1 xo3 Q =
 (cond (iLt (D.i x20) (D.i x19))
 ((0 ≤ (D.i x20) ∧ (D.i x20) < (D.len x18)) ∧ (True ∧ (L11_7 n m0 n x18 x19 x20 (D.int (D.len xo3)) (D.int (0 : Int)) xo1 xo3 (D.el x18 (D.i x20)) (D.slc ([] : List D)) Q)))
 (Q [xo3])) := by kernel_rfl
theorem E11 (n : Nat) (d0 : D) (Q : List D → Prop) : wpF Tryz.prog A (n + 1) 11 [d0] Q =
 (wpF Tryz.prog A n 22 [d0] fun r1 =>
 ((0 ≤ (0 : Int) ∧ (0 : Int) ≤ (minmax false (D.len (D.fld d0 6)) (8 : Int)) ∧ (minmax false (D.len (D.fld d0 6)) (8 : Int)) ≤ (D.len (D.fld d0 6))) ∧ (L11_3 n  n (D.slc (List.drop (Int.toNat (0 : Int)) (List.take (Int.toNat (minmax false (D.len (D.fld d0 6)) (8 : Int))) (D.xs (D.fld d0 6))))) (D.int (D.len (D.slc (List.drop (Int.toNat (0 : Int)) (List.take (Int.toNat (minmax false (D.len (D.fld d0 6)) (8 : Int))) (D.xs (D.fld d0 6))))))) (D.int (0 : Int)) d0 (D.slc [(rs r1 0)]) Q))) := by kernel_rfl
attribute [irreducible] L11_3 L11_7

/- timebound/heaviest.fits -/
theorem E69 (n : Nat) (d0 d1 d2 : D) (Q : List D → Prop) : wpF Tryz.prog A (n + 1) 69 [d0, d1, d2] Q =
 (wpF Tryz.prog A n 33 [d0] fun r1 =>
 (cond (D.b (rs r1 0))
 (wpF Tryz.prog A n 34 [d0, d1] fun r2 =>
 (cond (D.b (rs r2 0))
 (Q [(D.bool (iEq (D.len d2) (D.len (D.fld d0 1))))])
 (Q [(D.bool false)])))
 (Q [(D.bool false)]))) := by kernel_rfl

/- timebound/heaviest.gone -/
def L108_3 (n m0 : Nat) (x1 : D) (x11 : D) (x12 : D) (xo9 : D) (Q : List D → Prop) : Prop :=
 loopK (wpC Tryz.prog A (hnd Tryz.prog A n) 108 n (cA (cA (cB (cA (cB (cB (bodyOf Tryz.f108)))))))) (nmK Tryz.prog (A.loop 108 3)) m0 { sl := [(1, .imm 61 x1), (5, .val 9 [] 61), (10, .val 9 [] 61), (11, .imm 3 x11), (12, .imm 3 x12)], ob := [(9, some ⟨false, 61, (.slc .imm none), xo9⟩)] } (kBlock 0 (kSeq (wpC Tryz.prog A (hnd Tryz.prog A n) 108 n (cB (cB (cB (bodyOf Tryz.f108))))) (kEnd Tryz.prog Tryz.f108 (A.sig 108) Q)))
theorem L108_3_eq (n m0 : Nat) (x1 : D) (x11 : D) (x12 : D) (xo9 : D) (Q : List D → Prop) : L108_3 n (m0 + 1) x1 x11 x12 xo9 Q =
 (cond (iLt (D.i x12) (D.i x11))
 ((0 ≤ (D.i x12) ∧ (D.i x12) < (D.len xo9)) ∧ (cond (!(D.b (List.getD (D.xs xo9) (Int.toNat (D.i x12)) D.und)))
 ((0 ≤ (D.i x12) ∧ (D.i x12) < (D.len xo9)) ∧ (True ∧ (L108_3 n  m0 x1 x11 (D.int (IntKind.wrap .i64 ((D.i x12) + (1 : Int)))) (D.slc (List.set (D.xs xo9) (Int.toNat (D.i x12)) (D.bool true))) Q)))
 ((0 ≤ (D.i x12) ∧ (D.i x12) < (D.len x1)) ∧ ((0 ≤ (D.i x12) ∧ (D.i x12) < (D.len xo9)) ∧ (True ∧ (L108_3 n  m0 x1 x11 (D.int (IntKind.wrap .i64 ((D.i x12) + (1 : Int)))) (D.slc (List.set (D.xs xo9) (Int.toNat (D.i x12)) (D.el x1 (D.i x12)))) Q))))))
 (Q [xo9])) := by kernel_rfl
theorem E108 (n : Nat) (d0 d1 : D) (Q : List D → Prop) : wpF Tryz.prog A (n + 1) 108 [d0, d1] Q =
 (wpF Tryz.prog A n 15 [d0] fun r1 =>
 (L108_3 n  n d1 (D.int (D.len (rs r1 0))) (D.int (0 : Int)) (rs r1 0) Q)) := by kernel_rfl
attribute [irreducible] L108_3

/- timebound/heaviest.Back$1 -/
/- slices.IndexFunc[[]timebound/api.Loop,timebound/api.Loop] -/
def L122_2 (n m0 : Nat) (x0 : D) (x1 : D) (x7 : D) (x8 : D) (Q : List D → Prop) : Prop :=
 loopK (wpC Tryz.prog A (hnd Tryz.prog A n) 122 n (cA (cA (cB (cA (cB (bodyOf Tryz.f122))))))) (nmK Tryz.prog (A.loop 122 2)) m0 { sl := [(0, .imm 25 x0), (1, .imm 195 x1), (7, .imm 3 x7), (8, .imm 3 x8)], ob := [] } (kBlock 0 (kSeq (wpC Tryz.prog A (hnd Tryz.prog A n) 122 n (cB (cB (bodyOf Tryz.f122)))) (kEnd Tryz.prog Tryz.f122 (A.sig 122) Q)))
theorem L122_2_eq (n m0 : Nat) (x0 : D) (x1 : D) (x7 : D) (x8 : D) (Q : List D → Prop) : L122_2 n (m0 + 1) x0 x1 x7 x8 Q =
 (cond (iLt (D.i x8) (D.i x7))
 ((0 ≤ (D.i x8) ∧ (D.i x8) < (D.len x0)) ∧ (dynH A (wpF Tryz.prog A n) x1 [.imm 69] [.val 4 .imm] [(D.el x0 (D.i x8))] fun r1 =>
 (cond (D.b (rs r1 0))
 (Q [x8])
 (L122_2 n  m0 x0 x1 x7 (D.int (IntKind.wrap .i64 ((D.i x8) + (1 : Int)))) Q))))
 (Q [(D.int (-1 : Int))])) := by kernel_rfl
theorem E122 (n : Nat) (d0 d1 : D) (Q : List D → Prop) : wpF Tryz.prog A (n + 1) 122 [d0, d1] Q =
 (L122_2 n  n d0 d1 (D.int (D.len d0)) (D.int (0 : Int)) Q) := by kernel_rfl
attribute [irreducible] L122_2

/- timebound/heaviest.Back -/
theorem E105 (n : Nat) (d0 d1 d2 : D) (Q : List D → Prop) : wpF Tryz.prog A (n + 1) 105 [d0, d1, d2] Q =
 (wpF Tryz.prog A n 122 [(D.fld d0 2), (D.fn 123 [(D.ptr d2), (D.ptr d1)])] fun r1 =>
 (Q [(rs r1 0)])) := by kernel_rfl

/- (timebound/heaviest.scale).weigh -/
def L76_3 (n m0 : Nat) (x1 : D) (x7 : D) (x8 : D) (x33 : D) (x34 : D) (x35 : D) (xo3 : D) (Q : List D → Prop) : Prop :=
 loopK (wpC Tryz.prog A (hnd Tryz.prog A n) 76 n (cA (cA (cB (cA (cB (cB (bodyOf Tryz.f76)))))))) (nmK Tryz.prog (A.loop 76 3)) m0 { sl := [(1, .imm 3 x1), (3, .ptr 3 [] 147), (7, .imm 3 x7), (8, .imm 3 x8), (33, .imm 25 x33), (34, .imm 3 x34), (35, .imm 3 x35)], ob := [(3, some ⟨true, 147, .imm, xo3⟩)] } (kBlock 0 (kSeq (wpC Tryz.prog A (hnd Tryz.prog A n) 76 n (cB (cB (cB (bodyOf Tryz.f76))))) (kEnd Tryz.prog Tryz.f76 (A.sig 76) Q)))
theorem L76_3_eq (n m0 : Nat) (x1 : D) (x7 : D) (x8 : D) (x33 : D) (x34 : D) (x35 : D) (xo3 : D) (Q : List D → Prop) : L76_3 n (m0 + 1) x1 x7 x8 x33 x34 x35 xo3 Q =
 (cond (iLt (D.i x35) (D.i x34))
 ((0 ≤ (D.i x35) ∧ (D.i x35) < (D.len x33)) ∧ (True ∧ (cond (iEq (D.i (D.fld (D.el x33 (D.i x35)) 1)) (D.i x1))
 (cond (iEq (D.i (D.fld (D.el x33 (D.i x35)) 0)) (D.i x7))
 ((0 ≤ (D.i x35) ∧ (D.i x35) < (D.len (D.fld (D.fld xo3 1) 1))) ∧ ((0 ≤ (D.i x35) ∧ (D.i x35) < (D.len (D.fld xo3 2))) ∧ (L76_3 n  m0 x1 x7 (D.int (IntKind.wrap .i64 ((D.i x8) + (IntKind.wrap .i64 ((D.i (D.el (D.fld (D.fld xo3 1) 1) (D.i x35))) + (IntKind.wrap .i64 ((D.i (D.fld (D.el x33 (D.i x35)) 4)) * (D.i (D.el (D.fld xo3 2) (D.i x35)))))))))) x33 x34 (D.int (IntKind.wrap .i64 ((D.i x35) + (1 : Int)))) xo3 Q)))
 (L76_3 n  m0 x1 x7 x8 x33 x34 (D.int (IntKind.wrap .i64 ((D.i x35) + (1 : Int)))) xo3 Q))
 (L76_3 n  m0 x1 x7 x8 x33 x34 (D.int (IntKind.wrap .i64 ((D.i x35) + (1 : Int)))) xo3 Q))))
 (wpF Tryz.prog A n 105 [(D.fld xo3 0), x1, x7] fun r1 =>
 (cond (iLe (0 : Int) (D.i (rs r1 0)))
 ((0 ≤ (D.i (rs r1 0)) ∧ (D.i (rs r1 0)) < (D.len (D.fld xo3 2))) ∧ (Q [(D.int (IntKind.wrap .i64 ((D.i x8) - (D.i (D.el (D.fld xo3 2) (D.i (rs r1 0)))))))]))
 (Q [x8])))) := by kernel_rfl
theorem E76 (n : Nat) (d0 d1 d2 : D) (Q : List D → Prop) : wpF Tryz.prog A (n + 1) 76 [d0, d1, d2] Q =
 ((0 ≤ (D.i d1) ∧ (D.i d1) < (D.len (D.fld (D.fld d0 0) 1))) ∧ ((0 ≤ (D.i d2) ∧ (D.i d2) < (D.len (D.fld (D.el (D.fld (D.fld d0 0) 1) (D.i d1)) 2))) ∧ ((0 ≤ (D.i d1) ∧ (D.i d1) < (D.len (D.fld (D.fld d0 1) 0))) ∧ ((0 ≤ (D.i d2) ∧ (D.i d2) < (D.len (D.el (D.fld (D.fld d0 1) 0) (D.i d1)))) ∧ (L76_3 n  n d1 (D.el (D.fld (D.el (D.fld (D.fld d0 0) 1) (D.i d1)) 2) (D.i d2)) (D.el (D.el (D.fld (D.fld d0 1) 0) (D.i d1)) (D.i d2)) (D.fld (D.fld d0 0) 2) (D.int (D.len (D.fld (D.fld d0 0) 2))) (D.int (0 : Int)) d0 Q))))) := by kernel_rfl
attribute [irreducible] L76_3

/- timebound/heaviest.each -/
def L75_3 (n m0 : Nat) (x1 : D) (x11 : D) (x12 : D) (x13 : D) (xo5 : D) (Q : List D → Prop) : Prop :=
 loopK (wpC Tryz.prog A (hnd Tryz.prog A n) 75 n (cA (cA (cB (cA (cB (cB (bodyOf Tryz.f75)))))))) (nmK Tryz.prog (A.loop 75 3)) m0 { sl := [(1, .imm 145 x1), (5, .val 5 [] 75), (11, .imm 24 x11), (12, .imm 3 x12), (13, .imm 3 x13)], ob := [(5, some ⟨false, 75, (.slc .imm none), xo5⟩)] } (kBlock 0 (kSeq (wpC Tryz.prog A (hnd Tryz.prog A n) 75 n (cB (cB (cB (bodyOf Tryz.f75))))) (kEnd Tryz.prog Tryz.f75 (A.sig 75) Q)))
def L75_6 (n m0 m1 : Nat) (x1 : D) (x6 : D) (x11 : D) (x12 : D) (x13 : D) (x19 : D) (x20 : D) (x21 : D) (xo5 : D) (Q : List D → Prop) : Prop :=
 loopK (wpC Tryz.prog A (hnd Tryz.prog A n) 75 n (cA (cA (cB (cB (cA (cA (cB (cB (cA (cA (cB (cA (cB (cB (bodyOf Tryz.f75)))))))))))))))) (nmK Tryz.prog (A.loop 75 6)) m1 { sl := [(1, .imm 145 x1), (5, .val 5 [] 75), (6, .imm 3 x6), (11, .imm 24 x11), (12, .imm 3 x12), (13, .imm 3 x13), (19, .imm 31 x19), (20, .imm 3 x20), (21, .imm 3 x21)], ob := [(5, some ⟨false, 75, (.slc .imm none), xo5⟩)] } (kBlock 2 (kBlock 1 (kSeq (wpC Tryz.prog A (hnd Tryz.prog A n) 75 n (cB (cB (cB (cA (cA (cB (cA (cB (cB (bodyOf Tryz.f75))))))))))) (kLoop (nmK Tryz.prog (A.loop 75 3)) (fun g => loopK (wpC Tryz.prog A (hnd Tryz.prog A n) 75 n (cA (cA (cB (cA (cB (cB (bodyOf Tryz.f75)))))))) (nmK Tryz.prog (A.loop 75 3)) m0 g (kBlock 0 (kSeq (wpC Tryz.prog A (hnd Tryz.prog A n) 75 n (cB (cB (cB (bodyOf Tryz.f75))))) (kEnd Tryz.prog Tryz.f75 (A.sig 75) Q)))) (kBlock 0 (kSeq (wpC Tryz.prog A (hnd Tryz.prog A n) 75 n (cB (cB (cB (bodyOf Tryz.f75))))) (kEnd Tryz.prog Tryz.f75 (A.sig 75) Q)))))))
theorem L75_3_eq (n m0 : Nat) (x1 : D) (x11 : D) (x12 : D) (x13 : D) (xo5 : D) (Q : List D → Prop) : L75_3 n (m0 + 1) x1 x11 x12 x13 xo5 Q =
 (cond (iLt (D.i x13) (D.i x12))
 ((0 ≤ (D.i x13) ∧ (D.i x13) < (D.len x11)) ∧ (True ∧ (L75_6 n m0 n x1 x13 x11 x12 x13 (D.fld (D.el x11 (D.i x13)) 2) (D.int (D.len (D.fld (D.el x11 (D.i x13)) 2))) (D.int (0 : Int)) xo5 Q)))
 (Q [xo5])) := by kernel_rfl
theorem L75_6_eq (n m0 m1 : Nat) (x1 : D) (x6 : D) (x11 : D) (x12 : D) (x13 : D) (x19 : D) (x20 : D) (x21 : D) (xo5 : D) (Q : List D → Prop) : L75_6 n m0 (m1 + 1) x1 x6 x11 x12 x13 x19 x20 x21 xo5 Q =
 (cond (iLt (D.i x21) (D.i x20))
 ((0 ≤ (D.i x21) ∧ (D.i x21) < (D.len x19)) ∧ (dynH A (wpF Tryz.prog A n) x1 [.imm 3, .imm 3] [.val 3 .imm] [x6, x21] fun r1 =>
 (room (((List.length (D.xs xo5) : Nat) : Int) + ((List.length [(D.agg [x6, x21, (D.el x19 (D.i x21)), (rs r1 0)])] : Nat) : Int)) 32 ∧ (L75_6 n m0 m1 x1 x6 x11 x12 x13 x19 x20 (D.int (IntKind.wrap .i64 ((D.i x21) + (1 : Int)))) (D.slc ((D.xs xo5) ++ [(D.agg [x6, x21, (D.el x19 (D.i x21)), (rs r1 0)])])) Q))))
 (L75_3 n  m0 x1 x11 x12 (D.int (IntKind.wrap .i64 ((D.i x13) + (1 : Int)))) xo5 Q)) := by kernel_rfl
theorem E75 (n : Nat) (d0 d1 : D) (Q : List D → Prop) : wpF Tryz.prog A (n + 1) 75 [d0, d1] Q =
 (L75_3 n  n d1 (D.fld d0 1) (D.int (D.len (D.fld d0 1))) (D.int (0 : Int)) (D.slc ([] : List D)) Q) := by kernel_rfl
attribute [irreducible] L75_3 L75_6

/- timebound/heaviest.Edges -/
theorem E43 (n : Nat) (d0 d1 d2 : D) (Q : List D → Prop) : wpF Tryz.prog A (n + 1) 43 [d0, d1, d2] Q =
 (wpF Tryz.prog A n 75 [d0, (D.mv 76 (D.agg [d0, d1, d2]))] fun r1 =>
 (Q [(rs r1 0)])) := by kernel_rfl

/- slices.Clone[[]timebound/heaviest.Edge,timebound/heaviest.Edge] -/
theorem E124 (n : Nat) (d0 : D) (Q : List D → Prop) : wpF Tryz.prog A (n + 1) 124 [d0] Q =
 (∀ b1 : Bool, (b1 = true → (D.len d0) = 0) → (cond b1
 (Q [(D.slc ([] : List D))])
 (room (((List.length ([] : List D) : Nat) : Int) + ((List.length (D.xs d0) : Nat) : Int)) 32 ∧ (Q [(D.slc (([] : List D) ++ (D.xs d0)))])))) := by kernel_rfl

/- slices.IndexFunc[[]timebound/heaviest.Edge,timebound/heaviest.Edge] -/
def L74_2 (n m0 : Nat) (x0 : D) (x1 : D) (x7 : D) (x8 : D) (Q : List D → Prop) : Prop :=
 loopK (wpC Tryz.prog A (hnd Tryz.prog A n) 74 n (cA (cA (cB (cA (cB (bodyOf Tryz.f74))))))) (nmK Tryz.prog (A.loop 74 2)) m0 { sl := [(0, .imm 75 x0), (1, .imm 117 x1), (7, .imm 3 x7), (8, .imm 3 x8)], ob := [] } (kBlock 0 (kSeq (wpC Tryz.prog A (hnd Tryz.prog A n) 74 n (cB (cB (bodyOf Tryz.f74)))) (kEnd Tryz.prog Tryz.f74 (A.sig 74) Q)))
theorem L74_2_eq (n m0 : Nat) (x0 : D) (x1 : D) (x7 : D) (x8 : D) (Q : List D → Prop) : L74_2 n (m0 + 1) x0 x1 x7 x8 Q =
 (cond (iLt (D.i x8) (D.i x7))
 ((0 ≤ (D.i x8) ∧ (D.i x8) < (D.len x0)) ∧ (dynH A (wpF Tryz.prog A n) x1 [.imm 78] [.val 4 .imm] [(D.el x0 (D.i x8))] fun r1 =>
 (cond (D.b (rs r1 0))
 (Q [x8])
 (L74_2 n  m0 x0 x1 x7 (D.int (IntKind.wrap .i64 ((D.i x8) + (1 : Int)))) Q))))
 (Q [(D.int (-1 : Int))])) := by kernel_rfl
theorem E74 (n : Nat) (d0 d1 : D) (Q : List D → Prop) : wpF Tryz.prog A (n + 1) 74 [d0, d1] Q =
 (L74_2 n  n d0 d1 (D.int (D.len d0)) (D.int (0 : Int)) Q) := by kernel_rfl
attribute [irreducible] L74_2

/- slices.DeleteFunc[[]timebound/heaviest.Edge,timebound/heaviest.Edge] -/
def L42_5 (n m0 : Nat) (x0 : D) (x1 : D) (x5 : D) (x6 : D) (Q : List D → Prop) : Prop :=
 loopK (wpC Tryz.prog A (hnd Tryz.prog A n) 42 n (cA (cA (cB (cA (cB (cB (cB (bodyOf Tryz.f42))))))))) (nmK Tryz.prog (A.loop 42 5)) m0 { sl := [(0, .imm 75 x0), (1, .imm 117 x1), (5, .imm 3 x5), (6, .imm 3 x6)], ob := [] } (kBlock 0 (kSeq (wpC Tryz.prog A (hnd Tryz.prog A n) 42 n (cB (cB (cB (cB (bodyOf Tryz.f42)))))) (kEnd Tryz.prog Tryz.f42 (A.sig 42) Q)))
theorem E42 (n : Nat) (d0 d1 : D) (Q : List D → Prop) : wpF Tryz.prog A (n + 1) 42 [d0, d1] Q =
 (wpF Tryz.prog A n 74 [d0, d1] fun r1 =>
 (cond (iEq (D.i (rs r1 0)) (-1 : Int))
 (Q [d0])
 (L42_5 n  n d0 d1 (rs r1 0) (D.int (IntKind.wrap .i64 ((D.i (rs r1 0)) + (1 : Int)))) Q))) := by kernel_rfl
attribute [irreducible] L42_5

/- timebound/heaviest.open$1 -/
theorem E126 (n : Nat) (d0 d1 : D) (Q : List D → Prop) : wpF Tryz.prog A (n + 1) 126 [d0, d1] Q =
 ((0 ≤ (D.i (D.fld d0 0)) ∧ (D.i (D.fld d0 0)) < (D.len d1)) ∧ (cond (D.b (D.el d1 (D.i (D.fld d0 0))))
 (Q [(D.bool true)])
 ((0 ≤ (D.i (D.fld d0 2)) ∧ (D.i (D.fld d0 2)) < (D.len d1)) ∧ (Q [(D.el d1 (D.i (D.fld d0 2)))])))) := by kernel_rfl

/- timebound/heaviest.open -/
theorem E110 (n : Nat) (d0 d1 : D) (Q : List D → Prop) : wpF Tryz.prog A (n + 1) 110 [d0, d1] Q =
 (wpF Tryz.prog A n 124 [d0] fun r1 =>
 (wpF Tryz.prog A n 42 [(rs r1 0), (D.fn 126 [(D.ptr d1)])] fun r2 =>
 (Q [(rs r2 0)]))) := by kernel_rfl

/- timebound/heaviest.spread -/
def L111_4 (n m0 : Nat) (x1 : D) (x2 : D) (x23 : D) (x24 : D) (xo6 : D) (xo7 : D) (Q : List D → Prop) : Prop :=
 loopK (wpC Tryz.prog A (hnd Tryz.prog A n) 111 n (cA (cA (cB (cA (cB (cB (cB (bodyOf Tryz.f111))))))))) (nmK Tryz.prog (A.loop 111 4)) m0 { sl := [(1, .imm 3 x1), (2, .imm 75 x2), (6, .ptr 6 [] 183), (7, .ptr 7 [] 183), (23, .imm 3 x23), (24, .imm 3 x24)], ob := [(6, some ⟨true, 183, (.agg [(0, (.slc .imm none)), (1, (.slc .imm none)), (2, (.slc .imm none))]), xo6⟩), (7, some ⟨true, 183, (.agg [(0, (.slc .imm none)), (1, (.slc .imm none)), (2, (.slc .imm none))]), xo7⟩)] } (kBlock 0 (kSeq (wpC Tryz.prog A (hnd Tryz.prog A n) 111 n (cB (cB (cB (cB (bodyOf Tryz.f111)))))) (kEnd Tryz.prog Tryz.f111 (A.sig 111) Q)))
def L111_7 (n m0 m1 : Nat) (x1 : D) (x2 : D) (x8 : D) (x23 : D) (x24 : D) (x26 : D) (x27 : D) (x28 : D) (xo6 : D) (xo7 : D) (Q : List D → Prop) : Prop :=
 loopK (wpC Tryz.prog A (hnd Tryz.prog A n) 111 n (cA (cA (cB (cA (cB (cA (cA (cB (cB (cA (cA (cB (cA (cB (cB (cB (bodyOf Tryz.f111)))))))))))))))))) (nmK Tryz.prog (A.loop 111 7)) m1 { sl := [(1, .imm 3 x1), (2, .imm 75 x2), (6, .ptr 6 [] 183), (7, .ptr 7 [] 183), (8, .imm 4 x8), (23, .imm 3 x23), (24, .imm 3 x24), (26, .imm 75 x26), (27, .imm 3 x27), (28, .imm 3 x28)], ob := [(6, some ⟨true, 183, (.agg [(0, (.slc .imm none)), (1, (.slc .imm none)), (2, (.slc .imm none))]), xo6⟩), (7, some ⟨true, 183, (.agg [(0, (.slc .imm none)), (1, (.slc .imm none)), (2, (.slc .imm none))]), xo7⟩)] } (kBlock 2 (kSeq (wpC Tryz.prog A (hnd Tryz.prog A n) 111 n (cB (cB (cA (cA (cB (cB (cA (cA (cB (cA (cB (cB (cB (bodyOf Tryz.f111))))))))))))))) (kBlock 1 (kSeq (wpC Tryz.prog A (hnd Tryz.prog A n) 111 n (cB (cB (cB (cA (cA (cB (cA (cB (cB (cB (bodyOf Tryz.f111)))))))))))) (kLoop (nmK Tryz.prog (A.loop 111 4)) (fun g => loopK (wpC Tryz.prog A (hnd Tryz.prog A n) 111 n (cA (cA (cB (cA (cB (cB (cB (bodyOf Tryz.f111))))))))) (nmK Tryz.prog (A.loop 111 4)) m0 g (kBlock 0 (kSeq (wpC Tryz.prog A (hnd Tryz.prog A n) 111 n (cB (cB (cB (cB (bodyOf Tryz.f111)))))) (kEnd Tryz.prog Tryz.f111 (A.sig 111) Q)))) (kBlock 0 (kSeq (wpC Tryz.prog A (hnd Tryz.prog A n) 111 n (cB (cB (cB (cB (bodyOf Tryz.f111)))))) (kEnd Tryz.prog Tryz.f111 (A.sig 111) Q))))))))
theorem L111_4_eq (n m0 : Nat) (x1 : D) (x2 : D) (x23 : D) (x24 : D) (xo6 : D) (xo7 : D) (Q : List D → Prop) : L111_4 n (m0 + 1) x1 x2 x23 x24 xo6 xo7 Q =
 (cond (iLt (D.i x24) (D.i x23))
 (L111_7 n m0 n x1 x2 (D.bool false) x23 x24 x2 (D.int (D.len x2)) (D.int (0 : Int)) xo6 xo7 Q)
 (True ∧ (Q [xo7]))) := by kernel_rfl
theorem L111_7_eq (n m0 m1 : Nat) (x1 : D) (x2 : D) (x8 : D) (x23 : D) (x24 : D) (x26 : D) (x27 : D) (x28 : D) (xo6 : D) (xo7 : D) (Q : List D → Prop) : L111_7 n m0 (m1 + 1) x1 x2 x8 x23 x24 x26 x27 x28 xo6 xo7 Q =
 (cond (iLt (D.i x28) (D.i x27))
 ((0 ≤ (D.i x28) ∧ (D.i x28) < (D.len x26)) ∧ (True ∧ ((0 ≤ (D.i (D.fld (D.el x26 (D.i x28)) 0)) ∧ (D.i (D.fld (D.el x26 (D.i x28)) 0)) < (D.len (D.fld xo7 0))) ∧ (cond (!(D.b (List.getD (D.xs (D.fld xo7 0)) (Int.toNat (D.i (D.fld (D.el x26 (D.i x28)) 0))) D.und)))
 (L111_7 n m0 m1 x1 x2 x8 x23 x24 x26 x27 (D.int (IntKind.wrap .i64 ((D.i x28) + (1 : Int)))) xo6 xo7 Q)
 (cond (iEq (D.i (D.fld (D.el x26 (D.i x28)) 2)) (D.i x1))
 (L111_7 n m0 m1 x1 x2 x8 x23 x24 x26 x27 (D.int (IntKind.wrap .i64 ((D.i x28) + (1 : Int)))) xo6 xo7 Q)
 ((0 ≤ (D.i (D.fld (D.el x26 (D.i x28)) 0)) ∧ (D.i (D.fld (D.el x26 (D.i x28)) 0)) < (D.len (D.fld xo7 1))) ∧ ((0 ≤ (D.i (D.fld (D.el x26 (D.i x28)) 2)) ∧ (D.i (D.fld (D.el x26 (D.i x28)) 2)) < (D.len (D.fld xo7 0))) ∧ (cond (!(D.b (List.getD (D.xs (D.fld xo7 0)) (Int.toNat (D.i (D.fld (D.el x26 (D.i x28)) 2))) D.und)))
 ((0 ≤ (D.i (D.fld (D.el x26 (D.i x28)) 2)) ∧ (D.i (D.fld (D.el x26 (D.i x28)) 2)) < (D.len (D.fld xo7 0))) ∧ (True ∧ ((0 ≤ (D.i (D.fld (D.el x26 (D.i x28)) 2)) ∧ (D.i (D.fld (D.el x26 (D.i x28)) 2)) < (D.len (D.fld xo7 1))) ∧ (True ∧ ((0 ≤ (D.i (D.fld (D.el x26 (D.i x28)) 2)) ∧ (D.i (D.fld (D.el x26 (D.i x28)) 2)) < (D.len (D.fld xo7 2))) ∧ (True ∧ (L111_7 n m0 m1 x1 x2 (D.bool true) x23 x24 x26 x27 (D.int (IntKind.wrap .i64 ((D.i x28) + (1 : Int)))) xo6 (D.agg [(D.slc (List.set (D.xs (D.fld xo7 0)) (Int.toNat (D.i (D.fld (D.el x26 (D.i x28)) 2))) (D.bool true))), (D.slc (List.set (D.xs (D.fld xo7 1)) (Int.toNat (D.i (D.fld (D.el x26 (D.i x28)) 2))) (D.int (IntKind.wrap .i64 ((D.i (List.getD (D.xs (D.fld xo7 1)) (Int.toNat (D.i (D.fld (D.el x26 (D.i x28)) 0))) D.und)) + (D.i (D.fld (D.el x26 (D.i x28)) 3))))))), (D.slc (List.set (D.xs (D.fld xo7 2)) (Int.toNat (D.i (D.fld (D.el x26 (D.i x28)) 2))) (D.el x26 (D.i x28))))]) Q)))))))
 ((0 ≤ (D.i (D.fld (D.el x26 (D.i x28)) 2)) ∧ (D.i (D.fld (D.el x26 (D.i x28)) 2)) < (D.len (D.fld xo7 1))) ∧ (cond (iLt (D.i (List.getD (D.xs (D.fld xo7 1)) (Int.toNat (D.i (D.fld (D.el x26 (D.i x28)) 2))) D.und)) (IntKind.wrap .i64 ((D.i (List.getD (D.xs (D.fld xo7 1)) (Int.toNat (D.i (D.fld (D.el x26 (D.i x28)) 0))) D.und)) + (D.i (D.fld (D.el x26 (D.i x28)) 3)))))
 ((0 ≤ (D.i (D.fld (D.el x26 (D.i x28)) 2)) ∧ (D.i (D.fld (D.el x26 (D.i x28)) 2)) < (D.len (D.fld xo7 0))) ∧ (True ∧ ((0 ≤ (D.i (D.fld (D.el x26 (D.i x28)) 2)) ∧ (D.i (D.fld (D.el x26 (D.i x28)) 2)) < (D.len (D.fld xo7 1))) ∧ (True ∧ ((0 ≤ (D.i (D.fld (D.el x26 (D.i x28)) 2)) ∧ (D.i (D.fld (D.el x26 (D.i x28)) 2)) < (D.len (D.fld xo7 2))) ∧ (True ∧ (L111_7 n m0 m1 x1 x2 (D.bool true) x23 x24 x26 x27 (D.int (IntKind.wrap .i64 ((D.i x28) + (1 : Int)))) xo6 (D.agg [(D.slc (List.set (D.xs (D.fld xo7 0)) (Int.toNat (D.i (D.fld (D.el x26 (D.i x28)) 2))) (D.bool true))), (D.slc (List.set (D.xs (D.fld xo7 1)) (Int.toNat (D.i (D.fld (D.el x26 (D.i x28)) 2))) (D.int (IntKind.wrap .i64 ((D.i (List.getD (D.xs (D.fld xo7 1)) (Int.toNat (D.i (D.fld (D.el x26 (D.i x28)) 0))) D.und)) + (D.i (D.fld (D.el x26 (D.i x28)) 3))))))), (D.slc (List.set (D.xs (D.fld xo7 2)) (Int.toNat (D.i (D.fld (D.el x26 (D.i x28)) 2))) (D.el x26 (D.i x28))))]) Q)))))))
 (L111_7 n m0 m1 x1 x2 x8 x23 x24 x26 x27 (D.int (IntKind.wrap .i64 ((D.i x28) + (1 : Int)))) xo6 xo7 Q)))))))))))
 (cond (!(D.b x8))
 (True ∧ (Q [xo7]))
 (L111_4 n  m0 x1 x2 x23 (D.int (IntKind.wrap .i64 ((D.i x24) + (1 : Int)))) xo6 xo7 Q))) := by kernel_rfl
theorem E111 (n : Nat) (d0 d1 d2 : D) (Q : List D → Prop) : wpF Tryz.prog A (n + 1) 111 [d0, d1, d2] Q =
 ((0 ≤ (D.i d0) ∧ (D.i d0) ≤ (D.i d0) ∧ room (D.i d0) 1) ∧ ((0 ≤ (D.i d0) ∧ (D.i d0) ≤ (D.i d0) ∧ room (D.i d0) 8) ∧ ((0 ≤ (D.i d0) ∧ (D.i d0) ≤ (D.i d0) ∧ room (D.i d0) 32) ∧ (True ∧ ((0 ≤ (D.i d1) ∧ (D.i d1) < (D.len (D.slc (List.replicate (Int.toNat (D.i d0)) (D.bool false))))) ∧ (True ∧ (L111_4 n  n d1 d2 d0 (D.int (0 : Int)) (D.agg [(D.slc ([] : List D)), (D.slc ([] : List D)), (D.slc ([] : List D))]) (D.agg [(D.slc (List.set (List.replicate (Int.toNat (D.i d0)) (D.bool false)) (Int.toNat (D.i d1)) (D.bool true))), (D.slc (List.replicate (Int.toNat (D.i d0)) (D.int (0 : Int)))), (D.slc (List.replicate (Int.toNat (D.i d0)) (D.agg [(D.int (0 : Int)), (D.int (0 : Int)), (D.int (0 : Int)), (D.int (0 : Int))])))]) Q))))))) := by kernel_rfl
attribute [irreducible] L111_4 L111_7

/- timebound/heaviest.prices -/
def L70_4 (n m0 : Nat) (x10 : D) (xo3 : D) (xo4 : D) (xo20 : D) (xo24 : D) (xo27 : D) (Q : List D → Prop) : Prop :=
 loopK (wpC Tryz.prog A (hnd Tryz.prog A n) 70 n (cA (cA (cB (cA (cB (cB (cB (bodyOf Tryz.f70))))))))) (nmK Tryz.prog (A.loop 70 4)) m0 { sl := [(2, .val 27 [] 61), (3, .ptr 3 [] 34), (4, .ptr 4 [] 36), (8, .val 20 [] 31), (9, .val 24 [] 136), (10, .imm 3 x10)], ob := [(3, some ⟨true, 34, .imm, xo3⟩), (4, some ⟨true, 36, .imm, xo4⟩), (20, some ⟨false, 31, (.slc .imm none), xo20⟩), (24, some ⟨false, 136, (.slc (.slc .imm none) none), xo24⟩), (27, some ⟨false, 61, .imm, xo27⟩)] } (kBlock 0 (kSeq (wpC Tryz.prog A (hnd Tryz.prog A n) 70 n (cB (cB (cB (cB (bodyOf Tryz.f70)))))) (kEnd Tryz.prog Tryz.f70 (A.sig 70) Q)))
def L70_11 (n m0 m1 : Nat) (x10 : D) (x62 : D) (x63 : D) (x64 : D) (xo3 : D) (xo4 : D) (xo11 : D) (xo13 : D) (xo20 : D) (xo24 : D) (xo27 : D) (Q : List D → Prop) : Prop :=
 loopK (wpC Tryz.prog A (hnd Tryz.prog A n) 70 n (cA (cA (cB (cB (cB (cB (cB (cA (cA (cB (cA (cA (cB (cA (cB (cB (cB (bodyOf Tryz.f70))))))))))))))))))) (nmK Tryz.prog (A.loop 70 11)) m1 { sl := [(2, .val 27 [] 61), (3, .ptr 3 [] 34), (4, .ptr 4 [] 36), (8, .val 20 [] 31), (9, .val 24 [] 136), (10, .imm 3 x10), (11, .ptr 11 [] 69), (13, .ptr 13 [] 183), (62, .imm 75 x62), (63, .imm 3 x63), (64, .imm 3 x64)], ob := [(3, some ⟨true, 34, .imm, xo3⟩), (4, some ⟨true, 36, .imm, xo4⟩), (11, some ⟨true, 69, .imm, xo11⟩), (13, some ⟨true, 183, (.agg [(0, (.slc .imm none)), (1, (.slc .imm none)), (2, (.slc .imm none))]), xo13⟩), (20, some ⟨false, 31, (.slc .imm none), xo20⟩), (24, some ⟨false, 136, (.slc (.slc .imm none) none), xo24⟩), (27, some ⟨false, 61, .imm, xo27⟩)] } (kBlock 2 (kBlock 1 (kSeq (wpC Tryz.prog A (hnd Tryz.prog A n) 70 n (cB (cB (cA (cA (cB (cA (cB (cB (cB (bodyOf Tryz.f70))))))))))) (kLoop (nmK Tryz.prog (A.loop 70 4)) (fun g => loopK (wpC Tryz.prog A (hnd Tryz.prog A n) 70 n (cA (cA (cB (cA (cB (cB (cB (bodyOf Tryz.f70))))))))) (nmK Tryz.prog (A.loop 70 4)) m0 g (kBlock 0 (kSeq (wpC Tryz.prog A (hnd Tryz.prog A n) 70 n (cB (cB (cB (cB (bodyOf Tryz.f70)))))) (kEnd Tryz.prog Tryz.f70 (A.sig 70) Q)))) (kBlock 0 (kSeq (wpC Tryz.prog A (hnd Tryz.prog A n) 70 n (cB (cB (cB (cB (bodyOf Tryz.f70)))))) (kEnd Tryz.prog Tryz.f70 (A.sig 70) Q)))))))
theorem L70_4_eq (n m0 : Nat) (x10 : D) (xo3 : D) (xo4 : D) (xo20 : D) (xo24 : D) (xo27 : D) (Q : List D → Prop) : L70_4 n (m0 + 1) x10 xo3 xo4 xo20 xo24 xo27 Q =
 (cond (iLe (0 : Int) (D.i x10))
 ((0 ≤ (D.i x10) ∧ (D.i x10) < (D.len (D.fld xo3 2))) ∧ (True ∧ ((0 ≤ (D.i (D.fld (D.el (D.fld xo3 2) (D.i x10)) 0)) ∧ (D.i (D.fld (D.el (D.fld xo3 2) (D.i x10)) 0)) < (D.len xo27)) ∧ (cond (D.b (D.el xo27 (D.i (D.fld (D.el (D.fld xo3 2) (D.i x10)) 0))))
 (L70_4 n  m0 (D.int (IntKind.wrap .i64 ((D.i x10) - (1 : Int)))) xo3 xo4 xo20 xo24 xo27 Q)
 (wpF Tryz.prog A n 43 [xo3, xo4, xo20] fun r2 =>
 (wpF Tryz.prog A n 110 [(rs r2 0), xo27] fun r3 =>
 (wpF Tryz.prog A n 109 [(rs r3 0), (D.fld (D.el (D.fld xo3 2) (D.i x10)) 2)] fun r4 =>
 (wpF Tryz.prog A n 111 [(D.int (D.len (D.fld xo3 1))), (D.fld (D.el (D.fld xo3 2) (D.i x10)) 0), (rs r4 0)] fun r5 =>
 (True ∧ (L70_11 n m0 n x10 (rs r4 0) (D.int (D.len (rs r4 0))) (D.int (0 : Int)) xo3 xo4 (D.el (D.fld xo3 2) (D.i x10)) (rs r5 0) xo20 xo24 xo27 Q))))))))))
 (Q [xo20, xo24])) := by kernel_rfl
theorem E70 (n : Nat) (d0 d1 d2 : D) (Q : List D → Prop) : wpF Tryz.prog A (n + 1) 70 [d0, d1, d2] Q =
 ((0 ≤ (D.len (D.fld d0 2)) ∧ (D.len (D.fld d0 2)) ≤ (D.len (D.fld d0 2)) ∧ room (D.len (D.fld d0 2)) 8) ∧ ((0 ≤ (D.len (D.fld d0 2)) ∧ (D.len (D.fld d0 2)) ≤ (D.len (D.fld d0 2)) ∧ room (D.len (D.fld d0 2)) 24) ∧ (wpF Tryz.prog A n 108 [d0, d2] fun r1 =>
 (L70_4 n  n (D.int (IntKind.wrap .i64 ((D.len (D.fld d0 2)) - (1 : Int)))) d0 d1 (D.slc (List.replicate (Int.toNat (D.len (D.fld d0 2))) (D.int (0 : Int)))) (D.slc (List.replicate (Int.toNat (D.len (D.fld d0 2))) (D.slc ([] : List D)))) (rs r1 0) Q)))) := by kernel_rfl
attribute [irreducible] L70_4 L70_11

/- timebound/heaviest.turned -/
def L113_3 (n m0 : Nat) (x9 : D) (x10 : D) (xo7 : D) (Q : List D → Prop) : Prop :=
 loopK (wpC Tryz.prog A (hnd Tryz.prog A n) 113 n (cA (cA (cB (cA (cB (cB (bodyOf Tryz.f113)))))))) (nmK Tryz.prog (A.loop 113 3)) m0 { sl := [(3, .val 7 [] 75), (8, .val 7 [] 75), (9, .imm 3 x9), (10, .imm 3 x10)], ob := [(7, some ⟨false, 75, (.slc .imm none), xo7⟩)] } (kBlock 0 (kSeq (wpC Tryz.prog A (hnd Tryz.prog A n) 113 n (cB (cB (cB (bodyOf Tryz.f113))))) (kEnd Tryz.prog Tryz.f113 (A.sig 113) Q)))
theorem L113_3_eq (n m0 : Nat) (x9 : D) (x10 : D) (xo7 : D) (Q : List D → Prop) : L113_3 n (m0 + 1) x9 x10 xo7 Q =
 (cond (iLt (D.i x10) (D.i x9))
 ((0 ≤ (D.i x10) ∧ (D.i x10) < (D.len xo7)) ∧ (True ∧ ((0 ≤ (D.i x10) ∧ (D.i x10) < (D.len xo7)) ∧ (True ∧ ((0 ≤ (D.i x10) ∧ (D.i x10) < (D.len (D.slc (List.set (D.xs xo7) (Int.toNat (D.i x10)) (D.agg [(D.fld (List.getD (D.xs xo7) (Int.toNat (D.i x10)) D.und) 2), (D.fld (List.getD (D.xs xo7) (Int.toNat (D.i x10)) D.und) 1), (D.fld (List.getD (D.xs xo7) (Int.toNat (D.i x10)) D.und) 2), (D.fld (List.getD (D.xs xo7) (Int.toNat (D.i x10)) D.und) 3)]))))) ∧ (True ∧ (L113_3 n  m0 x9 (D.int (IntKind.wrap .i64 ((D.i x10) + (1 : Int)))) (D.slc (List.set (List.set (D.xs xo7) (Int.toNat (D.i x10)) (D.agg [(D.fld (List.getD (D.xs xo7) (Int.toNat (D.i x10)) D.und) 2), (D.fld (List.getD (D.xs xo7) (Int.toNat (D.i x10)) D.und) 1), (D.fld (List.getD (D.xs xo7) (Int.toNat (D.i x10)) D.und) 2), (D.fld (List.getD (D.xs xo7) (Int.toNat (D.i x10)) D.und) 3)])) (Int.toNat (D.i x10)) (D.agg [(D.fld (List.getD (D.xs (D.slc (List.set (D.xs xo7) (Int.toNat (D.i x10)) (D.agg [(D.fld (List.getD (D.xs xo7) (Int.toNat (D.i x10)) D.und) 2), (D.fld (List.getD (D.xs xo7) (Int.toNat (D.i x10)) D.und) 1), (D.fld (List.getD (D.xs xo7) (Int.toNat (D.i x10)) D.und) 2), (D.fld (List.getD (D.xs xo7) (Int.toNat (D.i x10)) D.und) 3)])))) (Int.toNat (D.i x10)) D.und) 0), (D.fld (List.getD (D.xs (D.slc (List.set (D.xs xo7) (Int.toNat (D.i x10)) (D.agg [(D.fld (List.getD (D.xs xo7) (Int.toNat (D.i x10)) D.und) 2), (D.fld (List.getD (D.xs xo7) (Int.toNat (D.i x10)) D.und) 1), (D.fld (List.getD (D.xs xo7) (Int.toNat (D.i x10)) D.und) 2), (D.fld (List.getD (D.xs xo7) (Int.toNat (D.i x10)) D.und) 3)])))) (Int.toNat (D.i x10)) D.und) 1), (D.fld (List.getD (D.xs xo7) (Int.toNat (D.i x10)) D.und) 0), (D.fld (List.getD (D.xs (D.slc (List.set (D.xs xo7) (Int.toNat (D.i x10)) (D.agg [(D.fld (List.getD (D.xs xo7) (Int.toNat (D.i x10)) D.und) 2), (D.fld (List.getD (D.xs xo7) (Int.toNat (D.i x10)) D.und) 1), (D.fld (List.getD (D.xs xo7) (Int.toNat (D.i x10)) D.und) 2), (D.fld (List.getD (D.xs xo7) (Int.toNat (D.i x10)) D.und) 3)])))) (Int.toNat (D.i x10)) D.und) 3)]))) Q)))))))
 (Q [xo7])) := by kernel_rfl
theorem E113 (n : Nat) (d0 : D) (Q : List D → Prop) : wpF Tryz.prog A (n + 1) 113 [d0] Q =
 (wpF Tryz.prog A n 124 [d0] fun r1 =>
 (L113_3 n  n (D.int (D.len (rs r1 0))) (D.int (0 : Int)) (rs r1 0) Q)) := by kernel_rfl
attribute [irreducible] L113_3

/- timebound/heaviest.potentials -/
def L71_8 (n m0 : Nat) (x10 : D) (x39 : D) (x40 : D) (xo5 : D) (xo12 : D) (Q : List D → Prop) : Prop :=
 loopK (wpC Tryz.prog A (hnd Tryz.prog A n) 71 n (cA (cA (cB (cA (cB (cB (cB (cB (cB (cB (bodyOf Tryz.f71)))))))))))) (nmK Tryz.prog (A.loop 71 8)) m0 { sl := [(5, .ptr 5 [] 36), (10, .imm 3 x10), (12, .ptr 12 [] 183), (39, .imm 3 x39), (40, .imm 3 x40)], ob := [(5, some ⟨true, 36, .imm, xo5⟩), (12, some ⟨true, 183, (.agg [(0, (.slc .imm none)), (1, (.slc .imm none)), (2, (.slc .imm none))]), xo12⟩)] } (kBlock 0 (kSeq (wpC Tryz.prog A (hnd Tryz.prog A n) 71 n (cB (cB (cB (cB (cB (cB (cB (bodyOf Tryz.f71))))))))) (kEnd Tryz.prog Tryz.f71 (A.sig 71) Q)))
theorem L71_8_eq (n m0 : Nat) (x10 : D) (x39 : D) (x40 : D) (xo5 : D) (xo12 : D) (Q : List D → Prop) : L71_8 n (m0 + 1) x10 x39 x40 xo5 xo12 Q =
 (cond (iLt (D.i x40) (D.i x39))
 ((0 ≤ (D.i x40) ∧ (D.i x40) < (D.len (D.fld xo12 0))) ∧ (cond (D.b (List.getD (D.xs (D.fld xo12 0)) (Int.toNat (D.i x40)) D.und))
 ((0 ≤ (D.i x40) ∧ (D.i x40) < (D.len (D.fld xo12 1))) ∧ ((0 ≤ (D.i x10) ∧ (D.i x10) < (D.len (D.fld xo5 0))) ∧ ((0 ≤ (0 : Int) ∧ (0 : Int) < (D.len (D.el (D.fld xo5 0) (D.i x10)))) ∧ ((0 ≤ (D.i x40) ∧ (D.i x40) < (D.len (D.fld xo12 1))) ∧ (True ∧ (L71_8 n  m0 x10 x39 (D.int (IntKind.wrap .i64 ((D.i x40) + (1 : Int)))) xo5 (D.agg [(D.fld xo12 0), (D.slc (List.set (D.xs (D.fld xo12 1)) (Int.toNat (D.i x40)) (D.int (IntKind.wrap .i64 ((D.i (List.getD (D.xs (D.fld xo12 1)) (Int.toNat (D.i x40)) D.und)) + (D.i (D.el (D.el (D.fld xo5 0) (D.i x10)) (0 : Int)))))))), (D.fld xo12 2)]) Q))))))
 (L71_8 n  m0 x10 x39 (D.int (IntKind.wrap .i64 ((D.i x40) + (1 : Int)))) xo5 xo12 Q)))
 (Q [(D.fld xo12 1), (D.fld xo12 0)])) := by kernel_rfl
theorem E71 (n : Nat) (d0 d1 d2 d3 : D) (Q : List D → Prop) : wpF Tryz.prog A (n + 1) 71 [d0, d1, d2, d3] Q =
 (wpF Tryz.prog A n 14 [d0] fun r1 =>
 (wpF Tryz.prog A n 108 [d0, d2] fun r2 =>
 ((0 ≤ (D.i (rs r1 0)) ∧ (D.i (rs r1 0)) < (D.len (rs r2 0))) ∧ (cond (D.b (List.getD (D.xs (rs r2 0)) (Int.toNat (D.i (rs r1 0))) D.und))
 ((0 ≤ (D.len (D.fld d0 1)) ∧ (D.len (D.fld d0 1)) ≤ (D.len (D.fld d0 1)) ∧ room (D.len (D.fld d0 1)) 8) ∧ ((0 ≤ (D.len (D.fld d0 1)) ∧ (D.len (D.fld d0 1)) ≤ (D.len (D.fld d0 1)) ∧ room (D.len (D.fld d0 1)) 1) ∧ (Q [(D.slc (List.replicate (Int.toNat (D.len (D.fld d0 1))) (D.int (0 : Int)))), (D.slc (List.replicate (Int.toNat (D.len (D.fld d0 1))) (D.bool false)))])))
 (wpF Tryz.prog A n 110 [d3, (rs r2 0)] fun r3 =>
 (wpF Tryz.prog A n 113 [(rs r3 0)] fun r4 =>
 (wpF Tryz.prog A n 111 [(D.int (D.len (D.fld d0 1))), (rs r1 0), (rs r4 0)] fun r5 =>
 (True ∧ (L71_8 n  n (rs r1 0) (D.int (D.len (D.fld (rs r5 0) 1))) (D.int (0 : Int)) d1 (rs r5 0) Q))))))))) := by kernel_rfl
attribute [irreducible] L71_8

/- timebound/heaviest.Potentials -/
theorem E37 (n : Nat) (d0 d1 d2 : D) (Q : List D → Prop) : wpF Tryz.prog A (n + 1) 37 [d0, d1, d2] Q =
 (wpF Tryz.prog A n 69 [d0, d1, d2] fun r1 =>
 (cond (!(D.b (rs r1 0)))
 (Q [(D.slc ([] : List D)), (D.slc ([] : List D)), (D.bool false)])
 (wpF Tryz.prog A n 70 [d0, d1, d2] fun r2 =>
 (wpF Tryz.prog A n 43 [d0, d1, (rs r2 0)] fun r3 =>
 (wpF Tryz.prog A n 71 [d0, d1, d2, (rs r3 0)] fun r4 =>
 (Q [(rs r4 0), (rs r4 1), (D.bool true)])))))) := by kernel_rfl

/- timebound/heaviest.Cost -/
theorem E12 (n : Nat) (d0 d1 d2 : D) (Q : List D → Prop) : wpF Tryz.prog A (n + 1) 12 [d0, d1, d2] Q =
 (wpF Tryz.prog A n 37 [d0, d1, d2] fun r1 =>
 (cond (!(D.b (rs r1 2)))
 (Q [(D.int (0 : Int)), (D.bool false)])
 ((0 ≤ (0 : Int) ∧ (0 : Int) < (D.len (rs r1 1))) ∧ (cond (!(D.b (D.el (rs r1 1) (0 : Int))))
 (Q [(D.int (0 : Int)), (D.bool false)])
 ((0 ≤ (0 : Int) ∧ (0 : Int) < (D.len (rs r1 0))) ∧ (Q [(D.el (rs r1 0) (0 : Int)), (D.bool true)])))))) := by kernel_rfl

/- timebound/path.Most -/
def L5_6 (n m0 : Nat) (x7 : D) (x8 : D) (x21 : D) (x22 : D) (xo2 : D) (xo3 : D) (xo20 : D) (Q : List D → Prop) : Prop :=
 loopK (wpC Tryz.prog A (hnd Tryz.prog A n) 5 n (cA (cA (cB (cA (cB (cB (cB (bodyOf Tryz.f5))))))))) (nmK Tryz.prog (A.loop 5 6)) m0 { sl := [(2, .ptr 2 [] 34), (3, .ptr 3 [] 36), (7, .imm 3 x7), (8, .imm 4 x8), (20, .val 20 [] 59), (21, .imm 3 x21), (22, .imm 3 x22)], ob := [(2, some ⟨true, 34, .imm, xo2⟩), (3, some ⟨true, 36, .imm, xo3⟩), (20, some ⟨false, 59, (.slc (.slc .imm none) none), xo20⟩)] } (kBlock 0 (kSeq (wpC Tryz.prog A (hnd Tryz.prog A n) 5 n (cB (cB (cB (cB (bodyOf Tryz.f5)))))) (kEnd Tryz.prog Tryz.f5 (A.sig 5) Q)))
theorem L5_6_eq (n m0 : Nat) (x7 : D) (x8 : D) (x21 : D) (x22 : D) (xo2 : D) (xo3 : D) (xo20 : D) (Q : List D → Prop) : L5_6 n (m0 + 1) x7 x8 x21 x22 xo2 xo3 xo20 Q =
 (cond (iLt (D.i x22) (D.i x21))
 ((0 ≤ (D.i x22) ∧ (D.i x22) < (D.len xo20)) ∧ (wpF Tryz.prog A n 12 [xo2, xo3, (List.getD (D.xs xo20) (Int.toNat (D.i x22)) D.und)] fun r3 =>
 (cond (D.b (rs r3 1))
 (L5_6 n  m0 (D.int (minmax true (D.i x7) (D.i (rs r3 0)))) (D.bool true) x21 (D.int (IntKind.wrap .i64 ((D.i x22) + (1 : Int)))) xo2 xo3 xo20 Q)
 (L5_6 n  m0 x7 x8 x21 (D.int (IntKind.wrap .i64 ((D.i x22) + (1 : Int)))) xo2 xo3 xo20 Q))))
 (cond (!(D.b x8))
 (Q [(D.int (0 : Int)), (D.int (15 : Int))])
 (Q [x7, (D.int (0 : Int))]))) := by kernel_rfl
theorem E5 (n : Nat) (d0 d1 : D) (Q : List D → Prop) : wpF Tryz.prog A (n + 1) 5 [d0, d1] Q =
 (wpF Tryz.prog A n 10 [d0, d1] fun r1 =>
 (cond (!(iEq (D.i (rs r1 0)) (0 : Int)))
 (Q [(D.int (0 : Int)), (rs r1 0)])
 (wpF Tryz.prog A n 11 [d0] fun r2 =>
 (L5_6 n  n (D.int (0 : Int)) (D.bool false) (D.int (D.len (rs r2 0))) (D.int (0 : Int)) d0 d1 (rs r2 0) Q)))) := by kernel_rfl
attribute [irreducible] L5_6

/- timebound/path.Columns -/
def L13_3 (n m0 : Nat) (x10 : D) (x11 : D) (xo1 : D) (xo3 : D) (xo9 : D) (Q : List D → Prop) : Prop :=
 loopK (wpC Tryz.prog A (hnd Tryz.prog A n) 13 n (cA (cA (cB (cA (cB (cB (bodyOf Tryz.f13)))))))) (nmK Tryz.prog (A.loop 13 3)) m0 { sl := [(1, .ptr 1 [] 34), (3, .val 3 [] 63), (9, .val 9 [] 61), (10, .imm 3 x10), (11, .imm 3 x11)], ob := [(1, some ⟨true, 34, .imm, xo1⟩), (3, some ⟨false, 63, (.slc .imm none), xo3⟩), (9, some ⟨false, 61, (.slc .imm none), xo9⟩)] } (kBlock 0 (kSeq (wpC Tryz.prog A (hnd Tryz.prog A n) 13 n (cB (cB (cB (bodyOf Tryz.f13))))) (kEnd Tryz.prog Tryz.f13 (A.sig 13) Q)))
def L13_7 (n m0 m1 : Nat) (x4 : D) (x10 : D) (x11 : D) (x23 : D) (x24 : D) (x25 : D) (xo1 : D) (xo3 : D) (xo9 : D) (Q : List D → Prop) : Prop :=
 loopK (wpC Tryz.prog A (hnd Tryz.prog A n) 13 n (cA (cA (cB (cB (cB (cA (cA (cB (cB (cA (cA (cB (cA (cB (cB (bodyOf Tryz.f13))))))))))))))))) (nmK Tryz.prog (A.loop 13 7)) m1 { sl := [(1, .ptr 1 [] 34), (3, .val 3 [] 63), (4, .imm 3 x4), (9, .val 9 [] 61), (10, .imm 3 x10), (11, .imm 3 x11), (23, .imm 31 x23), (24, .imm 3 x24), (25, .imm 3 x25)], ob := [(1, some ⟨true, 34, .imm, xo1⟩), (3, some ⟨false, 63, (.slc .imm none), xo3⟩), (9, some ⟨false, 61, (.slc .imm none), xo9⟩)] } (kBlock 2 (kBlock 1 (kSeq (wpC Tryz.prog A (hnd Tryz.prog A n) 13 n (cB (cB (cB (cA (cA (cB (cA (cB (cB (bodyOf Tryz.f13))))))))))) (kLoop (nmK Tryz.prog (A.loop 13 3)) (fun g => loopK (wpC Tryz.prog A (hnd Tryz.prog A n) 13 n (cA (cA (cB (cA (cB (cB (bodyOf Tryz.f13)))))))) (nmK Tryz.prog (A.loop 13 3)) m0 g (kBlock 0 (kSeq (wpC Tryz.prog A (hnd Tryz.prog A n) 13 n (cB (cB (cB (bodyOf Tryz.f13))))) (kEnd Tryz.prog Tryz.f13 (A.sig 13) Q)))) (kBlock 0 (kSeq (wpC Tryz.prog A (hnd Tryz.prog A n) 13 n (cB (cB (cB (bodyOf Tryz.f13))))) (kEnd Tryz.prog Tryz.f13 (A.sig 13) Q)))))))
theorem L13_3_eq (n m0 : Nat) (x10 : D) (x11 : D) (xo1 : D) (xo3 : D) (xo9 : D) (Q : List D → Prop) : L13_3 n (m0 + 1) x10 x11 xo1 xo3 xo9 Q =
 (cond (iLt (D.i x11) (D.i x10))
 ((0 ≤ (D.i x11) ∧ (D.i x11) < (D.len xo9)) ∧ (cond (!(D.b (List.getD (D.xs xo9) (Int.toNat (D.i x11)) D.und)))
 (L13_3 n  m0 x10 (D.int (IntKind.wrap .i64 ((D.i x11) + (1 : Int)))) xo1 xo3 xo9 Q)
 ((0 ≤ (D.i x11) ∧ (D.i x11) < (D.len (D.fld xo1 1))) ∧ (L13_7 n m0 n x11 x10 x11 (D.fld (D.el (D.fld xo1 1) (D.i x11)) 2) (D.int (D.len (D.fld (D.el (D.fld xo1 1) (D.i x11)) 2))) (D.int (0 : Int)) xo1 xo3 xo9 Q))))
 (Q [xo3])) := by kernel_rfl
theorem L13_7_eq (n m0 m1 : Nat) (x4 : D) (x10 : D) (x11 : D) (x23 : D) (x24 : D) (x25 : D) (xo1 : D) (xo3 : D) (xo9 : D) (Q : List D → Prop) : L13_7 n m0 (m1 + 1) x4 x10 x11 x23 x24 x25 xo1 xo3 xo9 Q =
 (cond (iLt (D.i x25) (D.i x24))
 ((0 ≤ (D.i x25) ∧ (D.i x25) < (D.len x23)) ∧ (room (((List.length (D.xs xo3) : Nat) : Int) + ((List.length [(D.agg [x4, (D.el x23 (D.i x25))])] : Nat) : Int)) 16 ∧ (L13_7 n m0 m1 x4 x10 x11 x23 x24 (D.int (IntKind.wrap .i64 ((D.i x25) + (1 : Int)))) xo1 (D.slc ((D.xs xo3) ++ [(D.agg [x4, (D.el x23 (D.i x25))])])) xo9 Q)))
 (L13_3 n  m0 x10 (D.int (IntKind.wrap .i64 ((D.i x11) + (1 : Int)))) xo1 xo3 xo9 Q)) := by kernel_rfl
theorem E13 (n : Nat) (d0 : D) (Q : List D → Prop) : wpF Tryz.prog A (n + 1) 13 [d0] Q =
 (wpF Tryz.prog A n 15 [d0] fun r1 =>
 (L13_3 n  n (D.int (D.len (rs r1 0))) (D.int (0 : Int)) d0 (D.slc ([] : List D)) (rs r1 0) Q)) := by kernel_rfl
attribute [irreducible] L13_3 L13_7

/- timebound/path.terms -/
def L20_3 (n m0 : Nat) (x6 : D) (x7 : D) (x8 : D) (xo3 : D) (Q : List D → Prop) : Prop :=
 loopK (wpC Tryz.prog A (hnd Tryz.prog A n) 20 n (cA (cA (cB (cA (cB (cB (bodyOf Tryz.f20)))))))) (nmK Tryz.prog (A.loop 20 3)) m0 { sl := [(3, .val 3 [] 44), (6, .imm 31 x6), (7, .imm 3 x7), (8, .imm 3 x8)], ob := [(3, some ⟨false, 44, (.slc .imm none), xo3⟩)] } (kBlock 0 (kSeq (wpC Tryz.prog A (hnd Tryz.prog A n) 20 n (cB (cB (cB (bodyOf Tryz.f20))))) (kEnd Tryz.prog Tryz.f20 (A.sig 20) Q)))
theorem L20_3_eq (n m0 : Nat) (x6 : D) (x7 : D) (x8 : D) (xo3 : D) (Q : List D → Prop) : L20_3 n (m0 + 1) x6 x7 x8 xo3 Q =
 (cond (iLt (D.i x8) (D.i x7))
 ((0 ≤ (D.i x8) ∧ (D.i x8) < (D.len x6)) ∧ (cond (!(iEq (D.i (D.el x6 (D.i x8))) (0 : Int)))
 (room (((List.length (D.xs xo3) : Nat) : Int) + ((List.length [(D.agg [x8, (D.el x6 (D.i x8))])] : Nat) : Int)) 16 ∧ (L20_3 n  m0 x6 x7 (D.int (IntKind.wrap .i64 ((D.i x8) + (1 : Int)))) (D.slc ((D.xs xo3) ++ [(D.agg [x8, (D.el x6 (D.i x8))])])) Q))
 (L20_3 n  m0 x6 x7 (D.int (IntKind.wrap .i64 ((D.i x8) + (1 : Int)))) xo3 Q)))
 (Q [xo3])) := by kernel_rfl
theorem E20 (n : Nat) (d0 : D) (Q : List D → Prop) : wpF Tryz.prog A (n + 1) 20 [d0] Q =
 (L20_3 n  n d0 (D.int (D.len d0)) (D.int (0 : Int)) (D.slc ([] : List D)) Q) := by kernel_rfl
attribute [irreducible] L20_3

/- timebound/path.both -/
def L40_4 (n m0 : Nat) (x1 : D) (x12 : D) (x13 : D) (xo6 : D) (xo10 : D) (Q : List D → Prop) : Prop :=
 loopK (wpC Tryz.prog A (hnd Tryz.prog A n) 40 n (cA (cA (cB (cA (cB (cB (cB (bodyOf Tryz.f40))))))))) (nmK Tryz.prog (A.loop 40 4)) m0 { sl := [(1, .imm 3 x1), (5, .val 10 [] 44), (6, .val 6 [] 44), (11, .val 10 [] 44), (12, .imm 3 x12), (13, .imm 3 x13)], ob := [(6, some ⟨false, 44, (.slc .imm none), xo6⟩), (10, some ⟨false, 44, (.slc .imm none), xo10⟩)] } (kBlock 0 (kSeq (wpC Tryz.prog A (hnd Tryz.prog A n) 40 n (cB (cB (cB (cB (bodyOf Tryz.f40)))))) (kEnd Tryz.prog Tryz.f40 (A.sig 40) Q)))
theorem L40_4_eq (n m0 : Nat) (x1 : D) (x12 : D) (x13 : D) (xo6 : D) (xo10 : D) (Q : List D → Prop) : L40_4 n (m0 + 1) x1 x12 x13 xo6 xo10 Q =
 (cond (iLt (D.i x13) (D.i x12))
 ((0 ≤ (D.i x13) ∧ (D.i x13) < (D.len xo10)) ∧ (True ∧ (room (((List.length (D.xs xo6) : Nat) : Int) + ((List.length [(D.agg [(D.fld (List.getD (D.xs xo10) (Int.toNat (D.i x13)) D.und) 0), (D.int (IntKind.wrap .i64 ((0 : Int) - (D.i (D.fld (List.getD (D.xs xo10) (Int.toNat (D.i x13)) D.und) 1)))))])] : Nat) : Int)) 16 ∧ (L40_4 n  m0 x1 x12 (D.int (IntKind.wrap .i64 ((D.i x13) + (1 : Int)))) (D.slc ((D.xs xo6) ++ [(D.agg [(D.fld (List.getD (D.xs xo10) (Int.toNat (D.i x13)) D.und) 0), (D.int (IntKind.wrap .i64 ((0 : Int) - (D.i (D.fld (List.getD (D.xs xo10) (Int.toNat (D.i x13)) D.und) 1)))))])])) xo10 Q))))
 (Q [(D.slc [(D.agg [xo10, x1]), (D.agg [xo6, (D.int (IntKind.wrap .i64 ((0 : Int) - (D.i x1))))])])])) := by kernel_rfl
theorem E40 (n : Nat) (d0 d1 : D) (Q : List D → Prop) : wpF Tryz.prog A (n + 1) 40 [d0, d1] Q =
 (wpF Tryz.prog A n 20 [d0] fun r1 =>
 (L40_4 n  n d1 (D.int (D.len (rs r1 0))) (D.int (0 : Int)) (D.slc ([] : List D)) (rs r1 0) Q)) := by kernel_rfl
attribute [irreducible] L40_4

/- timebound/path.flows -/
def L16_8 (n m0 : Nat) (x2 : D) (x8 : D) (x9 : D) (x33 : D) (x34 : D) (x35 : D) (xo14 : D) (Q : List D → Prop) : Prop :=
 loopK (wpC Tryz.prog A (hnd Tryz.prog A n) 16 n (cA (cA (cB (cA (cB (cB (cB (cB (cB (bodyOf Tryz.f16))))))))))) (nmK Tryz.prog (A.loop 16 8)) m0 { sl := [(2, .imm 3 x2), (7, .val 14 [] 31), (8, .imm 3 x8), (9, .imm 4 x9), (33, .imm 63 x33), (34, .imm 3 x34), (35, .imm 3 x35)], ob := [(14, some ⟨false, 31, (.slc .imm none), xo14⟩)] } (kBlock 0 (kSeq (wpC Tryz.prog A (hnd Tryz.prog A n) 16 n (cB (cB (cB (cB (cB (cB (bodyOf Tryz.f16)))))))) (kEnd Tryz.prog Tryz.f16 (A.sig 16) Q)))
theorem L16_8_eq (n m0 : Nat) (x2 : D) (x8 : D) (x9 : D) (x33 : D) (x34 : D) (x35 : D) (xo14 : D) (Q : List D → Prop) : L16_8 n (m0 + 1) x2 x8 x9 x33 x34 x35 xo14 Q =
 (cond (iLt (D.i x35) (D.i x34))
 ((0 ≤ (D.i x35) ∧ (D.i x35) < (D.len x33)) ∧ (True ∧ ((0 ≤ (0 : Int) ∧ (0 : Int) < (2 : Int)) ∧ (cond (iEq (D.i (List.getD (D.fs (D.el x33 (D.i x35))) (Int.toNat (0 : Int)) D.und)) (D.i x2))
 ((0 ≤ (D.i x35) ∧ (D.i x35) < (D.len xo14)) ∧ ((0 ≤ (D.i x35) ∧ (D.i x35) < (D.len xo14)) ∧ (True ∧ ((0 ≤ (1 : Int) ∧ (1 : Int) < (2 : Int)) ∧ (cond (iEq (D.i (List.getD (D.fs (D.el x33 (D.i x35))) (Int.toNat (1 : Int)) D.und)) (D.i x2))
 (cond (D.b x9)
 ((0 ≤ (D.i x35) ∧ (D.i x35) < (D.len (D.slc (List.set (D.xs xo14) (Int.toNat (D.i x35)) (D.int (IntKind.wrap .i64 ((D.i (List.getD (D.xs xo14) (Int.toNat (D.i x35)) D.und)) + (1 : Int)))))))) ∧ ((0 ≤ (D.i x35) ∧ (D.i x35) < (D.len (D.slc (List.set (D.xs xo14) (Int.toNat (D.i x35)) (D.int (IntKind.wrap .i64 ((D.i (List.getD (D.xs xo14) (Int.toNat (D.i x35)) D.und)) + (1 : Int)))))))) ∧ (True ∧ (L16_8 n  m0 x2 x8 x9 x33 x34 (D.int (IntKind.wrap .i64 ((D.i x35) + (1 : Int)))) (D.slc (List.set (List.set (D.xs xo14) (Int.toNat (D.i x35)) (D.int (IntKind.wrap .i64 ((D.i (List.getD (D.xs xo14) (Int.toNat (D.i x35)) D.und)) + (1 : Int))))) (Int.toNat (D.i x35)) (D.int (IntKind.wrap .i64 ((D.i (List.getD (D.xs (D.slc (List.set (D.xs xo14) (Int.toNat (D.i x35)) (D.int (IntKind.wrap .i64 ((D.i (List.getD (D.xs xo14) (Int.toNat (D.i x35)) D.und)) + (1 : Int))))))) (Int.toNat (D.i x35)) D.und)) + (1 : Int)))))) Q))))
 ((0 ≤ (1 : Int) ∧ (1 : Int) < (2 : Int)) ∧ (cond (iEq (D.i (List.getD (D.fs (D.el x33 (D.i x35))) (Int.toNat (1 : Int)) D.und)) (D.i x2))
 ((0 ≤ (D.i x35) ∧ (D.i x35) < (D.len (D.slc (List.set (D.xs xo14) (Int.toNat (D.i x35)) (D.int (IntKind.wrap .i64 ((D.i (List.getD (D.xs xo14) (Int.toNat (D.i x35)) D.und)) + (1 : Int)))))))) ∧ ((0 ≤ (D.i x35) ∧ (D.i x35) < (D.len (D.slc (List.set (D.xs xo14) (Int.toNat (D.i x35)) (D.int (IntKind.wrap .i64 ((D.i (List.getD (D.xs xo14) (Int.toNat (D.i x35)) D.und)) + (1 : Int)))))))) ∧ (True ∧ (L16_8 n  m0 x2 x8 x9 x33 x34 (D.int (IntKind.wrap .i64 ((D.i x35) + (1 : Int)))) (D.slc (List.set (List.set (D.xs xo14) (Int.toNat (D.i x35)) (D.int (IntKind.wrap .i64 ((D.i (List.getD (D.xs xo14) (Int.toNat (D.i x35)) D.und)) + (1 : Int))))) (Int.toNat (D.i x35)) (D.int (IntKind.wrap .i64 ((D.i (List.getD (D.xs (D.slc (List.set (D.xs xo14) (Int.toNat (D.i x35)) (D.int (IntKind.wrap .i64 ((D.i (List.getD (D.xs xo14) (Int.toNat (D.i x35)) D.und)) + (1 : Int))))))) (Int.toNat (D.i x35)) D.und)) - (1 : Int)))))) Q))))
 (L16_8 n  m0 x2 x8 x9 x33 x34 (D.int (IntKind.wrap .i64 ((D.i x35) + (1 : Int)))) (D.slc (List.set (D.xs xo14) (Int.toNat (D.i x35)) (D.int (IntKind.wrap .i64 ((D.i (List.getD (D.xs xo14) (Int.toNat (D.i x35)) D.und)) + (1 : Int)))))) Q))))
 ((0 ≤ (1 : Int) ∧ (1 : Int) < (2 : Int)) ∧ (cond (iEq (D.i (List.getD (D.fs (D.el x33 (D.i x35))) (Int.toNat (1 : Int)) D.und)) (D.i x2))
 ((0 ≤ (D.i x35) ∧ (D.i x35) < (D.len (D.slc (List.set (D.xs xo14) (Int.toNat (D.i x35)) (D.int (IntKind.wrap .i64 ((D.i (List.getD (D.xs xo14) (Int.toNat (D.i x35)) D.und)) + (1 : Int)))))))) ∧ ((0 ≤ (D.i x35) ∧ (D.i x35) < (D.len (D.slc (List.set (D.xs xo14) (Int.toNat (D.i x35)) (D.int (IntKind.wrap .i64 ((D.i (List.getD (D.xs xo14) (Int.toNat (D.i x35)) D.und)) + (1 : Int)))))))) ∧ (True ∧ (L16_8 n  m0 x2 x8 x9 x33 x34 (D.int (IntKind.wrap .i64 ((D.i x35) + (1 : Int)))) (D.slc (List.set (List.set (D.xs xo14) (Int.toNat (D.i x35)) (D.int (IntKind.wrap .i64 ((D.i (List.getD (D.xs xo14) (Int.toNat (D.i x35)) D.und)) + (1 : Int))))) (Int.toNat (D.i x35)) (D.int (IntKind.wrap .i64 ((D.i (List.getD (D.xs (D.slc (List.set (D.xs xo14) (Int.toNat (D.i x35)) (D.int (IntKind.wrap .i64 ((D.i (List.getD (D.xs xo14) (Int.toNat (D.i x35)) D.und)) + (1 : Int))))))) (Int.toNat (D.i x35)) D.und)) - (1 : Int)))))) Q))))
 (L16_8 n  m0 x2 x8 x9 x33 x34 (D.int (IntKind.wrap .i64 ((D.i x35) + (1 : Int)))) (D.slc (List.set (D.xs xo14) (Int.toNat (D.i x35)) (D.int (IntKind.wrap .i64 ((D.i (List.getD (D.xs xo14) (Int.toNat (D.i x35)) D.und)) + (1 : Int)))))) Q))))))))
 ((0 ≤ (1 : Int) ∧ (1 : Int) < (2 : Int)) ∧ (cond (iEq (D.i (List.getD (D.fs (D.el x33 (D.i x35))) (Int.toNat (1 : Int)) D.und)) (D.i x2))
 (cond (D.b x9)
 ((0 ≤ (D.i x35) ∧ (D.i x35) < (D.len xo14)) ∧ ((0 ≤ (D.i x35) ∧ (D.i x35) < (D.len xo14)) ∧ (True ∧ (L16_8 n  m0 x2 x8 x9 x33 x34 (D.int (IntKind.wrap .i64 ((D.i x35) + (1 : Int)))) (D.slc (List.set (D.xs xo14) (Int.toNat (D.i x35)) (D.int (IntKind.wrap .i64 ((D.i (List.getD (D.xs xo14) (Int.toNat (D.i x35)) D.und)) + (1 : Int)))))) Q))))
 ((0 ≤ (1 : Int) ∧ (1 : Int) < (2 : Int)) ∧ (cond (iEq (D.i (List.getD (D.fs (D.el x33 (D.i x35))) (Int.toNat (1 : Int)) D.und)) (D.i x2))
 ((0 ≤ (D.i x35) ∧ (D.i x35) < (D.len xo14)) ∧ ((0 ≤ (D.i x35) ∧ (D.i x35) < (D.len xo14)) ∧ (True ∧ (L16_8 n  m0 x2 x8 x9 x33 x34 (D.int (IntKind.wrap .i64 ((D.i x35) + (1 : Int)))) (D.slc (List.set (D.xs xo14) (Int.toNat (D.i x35)) (D.int (IntKind.wrap .i64 ((D.i (List.getD (D.xs xo14) (Int.toNat (D.i x35)) D.und)) - (1 : Int)))))) Q))))
 (L16_8 n  m0 x2 x8 x9 x33 x34 (D.int (IntKind.wrap .i64 ((D.i x35) + (1 : Int)))) xo14 Q))))
 ((0 ≤ (1 : Int) ∧ (1 : Int) < (2 : Int)) ∧ (cond (iEq (D.i (List.getD (D.fs (D.el x33 (D.i x35))) (Int.toNat (1 : Int)) D.und)) (D.i x2))
 ((0 ≤ (D.i x35) ∧ (D.i x35) < (D.len xo14)) ∧ ((0 ≤ (D.i x35) ∧ (D.i x35) < (D.len xo14)) ∧ (True ∧ (L16_8 n  m0 x2 x8 x9 x33 x34 (D.int (IntKind.wrap .i64 ((D.i x35) + (1 : Int)))) (D.slc (List.set (D.xs xo14) (Int.toNat (D.i x35)) (D.int (IntKind.wrap .i64 ((D.i (List.getD (D.xs xo14) (Int.toNat (D.i x35)) D.und)) - (1 : Int)))))) Q))))
 (L16_8 n  m0 x2 x8 x9 x33 x34 (D.int (IntKind.wrap .i64 ((D.i x35) + (1 : Int)))) xo14 Q)))))))))
 (wpF Tryz.prog A n 40 [xo14, x8] fun r1 =>
 (Q [(rs r1 0)]))) := by kernel_rfl
theorem E16 (n : Nat) (d0 d1 d2 : D) (Q : List D → Prop) : wpF Tryz.prog A (n + 1) 16 [d0, d1, d2] Q =
 ((0 ≤ (D.len d1) ∧ (D.len d1) ≤ (D.len d1) ∧ room (D.len d1) 8) ∧ ((0 ≤ (D.i d2) ∧ (D.i d2) < (D.len (D.fld d0 1))) ∧ (cond (iEq (D.i d2) (0 : Int))
 (cond (iEq (D.i d2) (0 : Int))
 (cond (iEq (D.len (D.fld (D.el (D.fld d0 1) (D.i d2)) 2)) (0 : Int))
 (Q [(D.slc ([] : List D))])
 (L16_8 n  n d2 (D.int (1 : Int)) (D.bool (iEq (D.len (D.fld (D.el (D.fld d0 1) (D.i d2)) 2)) (0 : Int))) d1 (D.int (D.len d1)) (D.int (0 : Int)) (D.slc (List.replicate (Int.toNat (D.len d1)) (D.int (0 : Int)))) Q))
 (L16_8 n  n d2 (D.int (1 : Int)) (D.bool (iEq (D.len (D.fld (D.el (D.fld d0 1) (D.i d2)) 2)) (0 : Int))) d1 (D.int (D.len d1)) (D.int (0 : Int)) (D.slc (List.replicate (Int.toNat (D.len d1)) (D.int (0 : Int)))) Q))
 (cond (iEq (D.len (D.fld (D.el (D.fld d0 1) (D.i d2)) 2)) (0 : Int))
 (cond (iEq (D.i d2) (0 : Int))
 (cond (iEq (D.len (D.fld (D.el (D.fld d0 1) (D.i d2)) 2)) (0 : Int))
 (Q [(D.slc ([] : List D))])
 (L16_8 n  n d2 (D.int (1 : Int)) (D.bool (iEq (D.len (D.fld (D.el (D.fld d0 1) (D.i d2)) 2)) (0 : Int))) d1 (D.int (D.len d1)) (D.int (0 : Int)) (D.slc (List.replicate (Int.toNat (D.len d1)) (D.int (0 : Int)))) Q))
 (L16_8 n  n d2 (D.int (1 : Int)) (D.bool (iEq (D.len (D.fld (D.el (D.fld d0 1) (D.i d2)) 2)) (0 : Int))) d1 (D.int (D.len d1)) (D.int (0 : Int)) (D.slc (List.replicate (Int.toNat (D.len d1)) (D.int (0 : Int)))) Q))
 (cond (iEq (D.i d2) (0 : Int))
 (cond (iEq (D.len (D.fld (D.el (D.fld d0 1) (D.i d2)) 2)) (0 : Int))
 (Q [(D.slc ([] : List D))])
 (L16_8 n  n d2 (D.int (0 : Int)) (D.bool (iEq (D.len (D.fld (D.el (D.fld d0 1) (D.i d2)) 2)) (0 : Int))) d1 (D.int (D.len d1)) (D.int (0 : Int)) (D.slc (List.replicate (Int.toNat (D.len d1)) (D.int (0 : Int)))) Q))
 (L16_8 n  n d2 (D.int (0 : Int)) (D.bool (iEq (D.len (D.fld (D.el (D.fld d0 1) (D.i d2)) 2)) (0 : Int))) d1 (D.int (D.len d1)) (D.int (0 : Int)) (D.slc (List.replicate (Int.toNat (D.len d1)) (D.int (0 : Int)))) Q)))))) := by kernel_rfl
attribute [irreducible] L16_8

/- timebound/path.edges$1 -/
theorem E44 (n : Nat) (d0 d1 : D) (Q : List D → Prop) : wpF Tryz.prog A (n + 1) 44 [d0, d1] Q =
 ((0 ≤ (D.i (D.fld d0 0)) ∧ (D.i (D.fld d0 0)) < (D.len d1)) ∧ (Q [(D.bool (!(D.b (D.el d1 (D.i (D.fld d0 0))))))])) := by kernel_rfl

/- timebound/path.edges -/
theorem E19 (n : Nat) (d0 d1 d2 : D) (Q : List D → Prop) : wpF Tryz.prog A (n + 1) 19 [d0, d1, d2] Q =
 (wpF Tryz.prog A n 15 [d0] fun r1 =>
 (True ∧ (wpF Tryz.prog A n 43 [d0, d1, d2] fun r2 =>
 (wpF Tryz.prog A n 42 [(rs r2 0), (D.fn 44 [(D.ptr (rs r1 0))])] fun r3 =>
 (Q [(rs r3 0)]))))) := by kernel_rfl

/- timebound/path.Model -/
def L6_7 (n m0 : Nat) (x40 : D) (x41 : D) (xo2 : D) (xo3 : D) (xo4 : D) (xo8 : D) (xo26 : D) (xo39 : D) (Q : List D → Prop) : Prop :=
 loopK (wpC Tryz.prog A (hnd Tryz.prog A n) 6 n (cA (cA (cB (cA (cB (cB (cB (cB (bodyOf Tryz.f6)))))))))) (nmK Tryz.prog (A.loop 6 7)) m0 { sl := [(2, .ptr 2 [] 34), (3, .ptr 3 [] 36), (4, .ptr 4 [] 46), (7, .val 26 [] 63), (8, .ptr 8 [] 46), (39, .val 39 [] 61), (40, .imm 3 x40), (41, .imm 3 x41)], ob := [(2, some ⟨true, 34, .imm, xo2⟩), (3, some ⟨true, 36, .imm, xo3⟩), (4, some ⟨true, 46, (.agg [(1, (.slc (.agg [(0, (.slc .imm none))]) none)), (2, (.slc .imm none))]), xo4⟩), (8, some ⟨true, 46, (.agg [(1, (.slc (.agg [(0, (.slc .imm none))]) none)), (2, (.slc .imm none))]), xo8⟩), (26, some ⟨false, 63, (.slc .imm none), xo26⟩), (39, some ⟨false, 61, (.slc .imm none), xo39⟩)] } (kBlock 0 (kSeq (wpC Tryz.prog A (hnd Tryz.prog A n) 6 n (cB (cB (cB (cB (cB (bodyOf Tryz.f6))))))) (kEnd Tryz.prog Tryz.f6 (A.sig 6) Q)))
def L6_13 (n m0 : Nat) (x57 : D) (x58 : D) (x59 : D) (xo2 : D) (xo3 : D) (xo4 : D) (xo8 : D) (xo26 : D) (Q : List D → Prop) : Prop :=
 loopK (wpC Tryz.prog A (hnd Tryz.prog A n) 6 n (cA (cA (cB (cA (cB (cB (cB (cB (cB (bodyOf Tryz.f6))))))))))) (nmK Tryz.prog (A.loop 6 13)) m0 { sl := [(2, .ptr 2 [] 34), (3, .ptr 3 [] 36), (4, .ptr 4 [] 46), (7, .val 26 [] 63), (8, .ptr 8 [] 46), (57, .imm 25 x57), (58, .imm 3 x58), (59, .imm 3 x59)], ob := [(2, some ⟨true, 34, .imm, xo2⟩), (3, some ⟨true, 36, .imm, xo3⟩), (4, some ⟨true, 46, (.agg [(1, (.slc (.agg [(0, (.slc .imm none))]) none)), (2, (.slc .imm none))]), xo4⟩), (8, some ⟨true, 46, (.agg [(1, (.slc (.agg [(0, (.slc .imm none))]) none)), (2, (.slc .imm none))]), xo8⟩), (26, some ⟨false, 63, (.slc .imm none), xo26⟩)] } (kBlock 2 (kSeq (wpC Tryz.prog A (hnd Tryz.prog A n) 6 n (cB (cB (cB (cB (cB (cB (bodyOf Tryz.f6)))))))) (kEnd Tryz.prog Tryz.f6 (A.sig 6) Q)))
def L6_18 (n m0 : Nat) (x74 : D) (x75 : D) (x76 : D) (xo2 : D) (xo3 : D) (xo4 : D) (xo8 : D) (xo26 : D) (Q : List D → Prop) : Prop :=
 loopK (wpC Tryz.prog A (hnd Tryz.prog A n) 6 n (cA (cA (cB (cA (cB (cB (cB (cB (cB (cB (bodyOf Tryz.f6)))))))))))) (nmK Tryz.prog (A.loop 6 18)) m0 { sl := [(2, .ptr 2 [] 34), (3, .ptr 3 [] 36), (4, .ptr 4 [] 46), (7, .val 26 [] 63), (8, .ptr 8 [] 46), (74, .imm 28 x74), (75, .imm 3 x75), (76, .imm 3 x76)], ob := [(2, some ⟨true, 34, .imm, xo2⟩), (3, some ⟨true, 36, .imm, xo3⟩), (4, some ⟨true, 46, (.agg [(1, (.slc (.agg [(0, (.slc .imm none))]) none)), (2, (.slc .imm none))]), xo4⟩), (8, some ⟨true, 46, (.agg [(1, (.slc (.agg [(0, (.slc .imm none))]) none)), (2, (.slc .imm none))]), xo8⟩), (26, some ⟨false, 63, (.slc .imm none), xo26⟩)] } (kBlock 4 (kSeq (wpC Tryz.prog A (hnd Tryz.prog A n) 6 n (cB (cB (cB (cB (cB (cB (cB (bodyOf Tryz.f6))))))))) (kEnd Tryz.prog Tryz.f6 (A.sig 6) Q)))
def L6_24 (n m0 : Nat) (x98 : D) (x99 : D) (x100 : D) (xo4 : D) (xo8 : D) (xo91 : D) (Q : List D → Prop) : Prop :=
 loopK (wpC Tryz.prog A (hnd Tryz.prog A n) 6 n (cA (cA (cB (cA (cB (cB (cB (cB (cB (cB (cB (cB (bodyOf Tryz.f6)))))))))))))) (nmK Tryz.prog (A.loop 6 24)) m0 { sl := [(4, .ptr 4 [] 46), (8, .ptr 8 [] 46), (15, .val 91 [] 31), (98, .imm 75 x98), (99, .imm 3 x99), (100, .imm 3 x100)], ob := [(4, some ⟨true, 46, (.agg [(1, (.slc (.agg [(0, (.slc .imm none))]) none)), (2, (.slc .imm none))]), xo4⟩), (8, some ⟨true, 46, (.agg [(1, (.slc (.agg [(0, (.slc .imm none))]) none)), (2, (.slc .imm none))]), xo8⟩), (91, some ⟨false, 31, (.slc .imm none), xo91⟩)] } (kBlock 6 (kSeq (wpC Tryz.prog A (hnd Tryz.prog A n) 6 n (cB (cB (cB (cB (cB (cB (cB (cB (cB (bodyOf Tryz.f6))))))))))) (kEnd Tryz.prog Tryz.f6 (A.sig 6) Q)))
theorem L6_7_eq (n m0 : Nat) (x40 : D) (x41 : D) (xo2 : D) (xo3 : D) (xo4 : D) (xo8 : D) (xo26 : D) (xo39 : D) (Q : List D → Prop) : L6_7 n (m0 + 1) x40 x41 xo2 xo3 xo4 xo8 xo26 xo39 Q =
 (cond (iLt (D.i x41) (D.i x40))
 ((0 ≤ (D.i x41) ∧ (D.i x41) < (D.len xo39)) ∧ (cond (D.b (List.getD (D.xs xo39) (Int.toNat (D.i x41)) D.und))
 (wpF Tryz.prog A n 16 [xo2, xo26, x41] fun r5 =>
 (room (((List.length (D.xs (D.fld xo8 1)) : Nat) : Int) + ((List.length (D.xs (rs r5 0)) : Nat) : Int)) 32 ∧ (True ∧ (L6_7 n  m0 x40 (D.int (IntKind.wrap .i64 ((D.i x41) + (1 : Int)))) xo2 xo3 xo4 (D.agg [(D.fld xo8 0), (D.slc ((D.xs (D.fld xo8 1)) ++ (D.xs (rs r5 0)))), (D.fld xo8 2), (D.fld xo8 3)]) xo26 xo39 Q))))
 (L6_7 n  m0 x40 (D.int (IntKind.wrap .i64 ((D.i x41) + (1 : Int)))) xo2 xo3 xo4 xo8 xo26 xo39 Q)))
 (L6_13 n  n (D.fld xo2 2) (D.int (D.len (D.fld xo2 2))) (D.int (0 : Int)) xo2 xo3 xo4 xo8 xo26 Q)) := by kernel_rfl
theorem L6_13_eq (n m0 : Nat) (x57 : D) (x58 : D) (x59 : D) (xo2 : D) (xo3 : D) (xo4 : D) (xo8 : D) (xo26 : D) (Q : List D → Prop) : L6_13 n (m0 + 1) x57 x58 x59 xo2 xo3 xo4 xo8 xo26 Q =
 (cond (iLt (D.i x59) (D.i x58))
 ((0 ≤ (D.i x59) ∧ (D.i x59) < (D.len x57)) ∧ (True ∧ (wpF Tryz.prog A n 17 [xo2, xo26, (D.el x57 (D.i x59))] fun r6 =>
 (room (((List.length (D.xs (D.fld xo8 1)) : Nat) : Int) + ((List.length [(rs r6 0)] : Nat) : Int)) 32 ∧ (True ∧ (L6_13 n  m0 x57 x58 (D.int (IntKind.wrap .i64 ((D.i x59) + (1 : Int)))) xo2 xo3 xo4 (D.agg [(D.fld xo8 0), (D.slc ((D.xs (D.fld xo8 1)) ++ [(rs r6 0)])), (D.fld xo8 2), (D.fld xo8 3)]) xo26 Q))))))
 (L6_18 n  n (D.fld xo2 5) (D.int (D.len (D.fld xo2 5))) (D.int (0 : Int)) xo2 xo3 xo4 xo8 xo26 Q)) := by kernel_rfl
theorem L6_18_eq (n m0 : Nat) (x74 : D) (x75 : D) (x76 : D) (xo2 : D) (xo3 : D) (xo4 : D) (xo8 : D) (xo26 : D) (Q : List D → Prop) : L6_18 n (m0 + 1) x74 x75 x76 xo2 xo3 xo4 xo8 xo26 Q =
 (cond (iLt (D.i x76) (D.i x75))
 ((0 ≤ (D.i x76) ∧ (D.i x76) < (D.len x74)) ∧ (True ∧ (wpF Tryz.prog A n 18 [xo26, (D.el x74 (D.i x76))] fun r7 =>
 (room (((List.length (D.xs (D.fld xo8 1)) : Nat) : Int) + ((List.length [(rs r7 0)] : Nat) : Int)) 32 ∧ (True ∧ (L6_18 n  m0 x74 x75 (D.int (IntKind.wrap .i64 ((D.i x76) + (1 : Int)))) xo2 xo3 xo4 (D.agg [(D.fld xo8 0), (D.slc ((D.xs (D.fld xo8 1)) ++ [(rs r7 0)])), (D.fld xo8 2), (D.fld xo8 3)]) xo26 Q))))))
 ((0 ≤ (0 : Int) ∧ (0 : Int) ≤ (D.len xo26) ∧ room (D.len xo26) 8) ∧ ((0 ≤ (D.len (D.fld xo2 2)) ∧ (D.len (D.fld xo2 2)) ≤ (D.len (D.fld xo2 2)) ∧ room (D.len (D.fld xo2 2)) 8) ∧ (wpF Tryz.prog A n 19 [xo2, xo3, (D.slc (List.replicate (Int.toNat (D.len (D.fld xo2 2))) (D.int (0 : Int))))] fun r8 =>
 (L6_24 n  n (rs r8 0) (D.int (D.len (rs r8 0))) (D.int (0 : Int)) xo4 xo8 (D.slc (List.replicate (Int.toNat (0 : Int)) (D.int (0 : Int)))) Q))))) := by kernel_rfl
theorem L6_24_eq (n m0 : Nat) (x98 : D) (x99 : D) (x100 : D) (xo4 : D) (xo8 : D) (xo91 : D) (Q : List D → Prop) : L6_24 n (m0 + 1) x98 x99 x100 xo4 xo8 xo91 Q =
 (cond (iLt (D.i x100) (D.i x99))
 ((0 ≤ (D.i x100) ∧ (D.i x100) < (D.len x98)) ∧ (True ∧ (room (((List.length (D.xs xo91) : Nat) : Int) + ((List.length [(D.fld (D.el x98 (D.i x100)) 3)] : Nat) : Int)) 8 ∧ (L6_24 n  m0 x98 x99 (D.int (IntKind.wrap .i64 ((D.i x100) + (1 : Int)))) xo4 xo8 (D.slc ((D.xs xo91) ++ [(D.fld (D.el x98 (D.i x100)) 3)])) Q))))
 (wpF Tryz.prog A n 20 [xo91] fun r9 =>
 (True ∧ (wpF Tryz.prog A n 21 [(D.agg [(D.fld xo8 0), (D.fld xo8 1), (rs r9 0), (D.fld xo8 3)])] fun r10 =>
 (cond (!(D.b (rs r10 0)))
 (True ∧ (Q [(D.agg [(D.int (0 : Int)), (D.slc ([] : List D)), (D.slc ([] : List D)), (D.int (0 : Int))]), (D.int (33 : Int))]))
 (True ∧ (Q [(D.agg [(D.fld xo8 0), (D.fld xo8 1), (rs r9 0), (D.fld xo8 3)]), (D.int (0 : Int))]))))))) := by kernel_rfl
theorem E6 (n : Nat) (d0 d1 : D) (Q : List D → Prop) : wpF Tryz.prog A (n + 1) 6 [d0, d1] Q =
 (wpF Tryz.prog A n 10 [d0, d1] fun r1 =>
 (cond (!(iEq (D.i (rs r1 0)) (0 : Int)))
 (True ∧ (Q [(D.agg [(D.int (0 : Int)), (D.slc ([] : List D)), (D.slc ([] : List D)), (D.int (0 : Int))]), (rs r1 0)]))
 (wpF Tryz.prog A n 13 [d0] fun r2 =>
 (wpF Tryz.prog A n 14 [d0] fun r3 =>
 ((0 ≤ (D.i (rs r3 0)) ∧ (D.i (rs r3 0)) < (D.len (D.fld d1 0))) ∧ ((0 ≤ (0 : Int) ∧ (0 : Int) < (D.len (D.el (D.fld d1 0) (D.i (rs r3 0))))) ∧ (True ∧ (wpF Tryz.prog A n 15 [d0] fun r4 =>
 (L6_7 n  n (D.int (D.len (rs r4 0))) (D.int (0 : Int)) d0 d1 (D.agg [(D.int (0 : Int)), (D.slc ([] : List D)), (D.slc ([] : List D)), (D.int (0 : Int))]) (D.agg [(D.int (D.len (rs r2 0))), (D.slc ([] : List D)), (D.slc ([] : List D)), (D.el (D.el (D.fld d1 0) (D.i (rs r3 0))) (0 : Int))]) (rs r2 0) (rs r4 0) Q))))))))) := by kernel_rfl
attribute [irreducible] L6_7 L6_13 L6_18 L6_24

/- timebound/timeboundlaw35.awake -/
theorem E4 (n : Nat)  (Q : List D → Prop) : wpF Tryz.prog A (n + 1) 4 [] Q =
 (True ∧ (True ∧ (wpF Tryz.prog A n 5 [(D.agg [(D.str ByteArray.empty), (D.slc [(D.agg [(D.int (0 : Int)), (D.int (0 : Int)), (D.slc ([] : List D)), (D.slc ([] : List D))])]), (D.slc ([] : List D)), (D.slc ([] : List D)), (D.slc ([] : List D)), (D.slc ([] : List D)), (D.slc ([] : List D)), (D.slc ([] : List D)), (D.slc ([] : List D)), (D.slc ([] : List D))]), (D.agg [(D.slc [(D.slc [(D.int (7 : Int))])]), (D.slc ([] : List D))])] fun r1 =>
 (wpF Tryz.prog A n 6 [(D.agg [(D.str ByteArray.empty), (D.slc [(D.agg [(D.int (0 : Int)), (D.int (0 : Int)), (D.slc ([] : List D)), (D.slc ([] : List D))])]), (D.slc ([] : List D)), (D.slc ([] : List D)), (D.slc ([] : List D)), (D.slc ([] : List D)), (D.slc ([] : List D)), (D.slc ([] : List D)), (D.slc ([] : List D)), (D.slc ([] : List D))]), (D.agg [(D.slc [(D.slc [(D.int (7 : Int))])]), (D.slc ([] : List D))])] fun r2 =>
 (True ∧ (True ∧ (wpF Tryz.prog A n 5 [(D.agg [(D.str ByteArray.empty), (D.slc [(D.agg [(D.int (0 : Int)), (D.int (0 : Int)), (D.slc [(D.int (1 : Int))]), (D.slc ([] : List D))]), (D.agg [(D.int (0 : Int)), (D.int (0 : Int)), (D.slc ([] : List D)), (D.slc ([] : List D))])]), (D.slc ([] : List D)), (D.slc ([] : List D)), (D.slc ([] : List D)), (D.slc ([] : List D)), (D.slc ([] : List D)), (D.slc ([] : List D)), (D.slc ([] : List D)), (D.slc ([] : List D))]), (D.agg [(D.slc [(D.slc [(D.int (7 : Int))]), (D.slc [(D.int (2 : Int))])]), (D.slc ([] : List D))])] fun r3 =>
 (cond (iEq (D.i (rs r1 1)) (0 : Int))
 (cond (iEq (D.i (rs r2 1)) (0 : Int))
 (cond (iEq (D.i (rs r3 1)) (0 : Int))
 (cond (iEq (D.i (rs r1 0)) (7 : Int))
 (cond (iEq (D.i (D.fld (rs r2 0) 3)) (7 : Int))
 (cond (iEq (D.i (D.fld (rs r2 0) 0)) (0 : Int))
 (Q [(D.bool (iEq (D.i (rs r3 0)) (9 : Int)))])
 (Q [(D.bool false)]))
 (Q [(D.bool false)]))
 (Q [(D.bool false)]))
 (Q [(D.bool false)]))
 (Q [(D.bool false)]))
 (Q [(D.bool false)]))))))))) := by kernel_rfl

/- (timebound/path.multipliers).add -/
theorem E82 (n : Nat) (d0 d1 d2 : D) (Q : List D → Prop) : wpF Tryz.prog A (n + 1) 82 [d0, d1, d2] Q =
 (cond (iLt (0 : Int) (D.i d2))
 (Q [(D.map (mapPut (D.es d0) d1 (D.int (IntKind.wrap .i64 ((D.i ((mapGet (D.es d0) d1).getD (D.int (0 : Int)))) + (D.i d2))))))])
 (Q [d0])) := by kernel_rfl

/- (timebound/path.multipliers).leaf -/
def L83_3 (n m0 : Nat) (xo0 : D) (xo4 : D) (xo5 : D) (xo11 : D) (Q : List D → Prop) : Prop :=
 loopK (wpC Tryz.prog A (hnd Tryz.prog A n) 83 n (cA (cA (cB (cA (cB (cB (bodyOf Tryz.f83)))))))) (nmK Tryz.prog (A.loop 83 3)) m0 { sl := [(0, .val 0 [] 152), (4, .ptr 4 [] 98), (5, .ptr 5 [] 98), (11, .val 11 [.fld 0] 152)], ob := [(0, some ⟨false, 152, .mp, xo0⟩), (4, some ⟨true, 98, (.agg [(2, (.slc .imm none)), (4, (.slc .imm none))]), xo4⟩), (5, some ⟨true, 98, (.agg [(2, (.slc .imm none)), (4, (.slc .imm none))]), xo5⟩), (11, some ⟨false, 152, .it, xo11⟩)] } (kBlock 0 (kSeq (wpC Tryz.prog A (hnd Tryz.prog A n) 83 n (cB (cB (cB (bodyOf Tryz.f83))))) (kEnd Tryz.prog Tryz.f83 (A.sig 83) Q)))
theorem L83_3_eq (n m0 : Nat) (xo0 : D) (xo4 : D) (xo5 : D) (xo11 : D) (Q : List D → Prop) : L83_3 n (m0 + 1) xo0 xo4 xo5 xo11 Q =
 ((D.es xo11 = [] → (wpF Tryz.prog A n 115 [(D.fld xo5 4), (D.fn 116 [])] fun r2 =>
 (True ∧ (Q [(D.agg [(D.fld xo5 0), (D.fld xo5 1), (D.fld xo5 2), (D.fld xo5 3), (rs r2 0), (D.fld xo5 5)]), xo0])))) ∧ ∀ i1, i1 < (D.es xo11).length → (room (((List.length (D.xs (D.fld xo5 4)) : Nat) : Int) + ((List.length [(D.agg [((D.es xo11).getD i1 (D.und, D.und)).1, ((D.es xo11).getD i1 (D.und, D.und)).2])] : Nat) : Int)) 16 ∧ (True ∧ (L83_3 n  m0 xo0 xo4 (D.agg [(D.fld xo5 0), (D.fld xo5 1), (D.fld xo5 2), (D.fld xo5 3), (D.slc ((D.xs (D.fld xo5 4)) ++ [(D.agg [((D.es xo11).getD i1 (D.und, D.und)).1, ((D.es xo11).getD i1 (D.und, D.und)).2])])), (D.fld xo5 5)]) (D.agg [(D.map ((D.es xo11).eraseIdx i1)), ((D.es xo11).getD i1 (D.und, D.und)).1, ((D.es xo11).getD i1 (D.und, D.und)).2]) Q)))) := by kernel_rfl
theorem E83 (n : Nat) (d0 d1 : D) (Q : List D → Prop) : wpF Tryz.prog A (n + 1) 83 [d0, d1] Q =
 (True ∧ (L83_3 n  n d0 (D.agg [(D.int (0 : Int)), (D.int (0 : Int)), (D.slc ([] : List D)), (D.int (0 : Int)), (D.slc ([] : List D)), (D.int (0 : Int))]) (D.agg [(D.int (-1 : Int)), (D.int (-1 : Int)), (D.slc ([] : List D)), (D.int (0 : Int)), (D.slc ([] : List D)), d1]) (D.map (D.es d0)) Q)) := by kernel_rfl
attribute [irreducible] L83_3

/- (*timebound/path.prover).kill -/
def L87_1 (n m0 : Nat) (x0 : D) (x2 : D) (x3 : D) (x15 : D) (x16 : D) (x17 : D) (xo1 : D) (Q : List D → Prop) : Prop :=
 loopK (wpC Tryz.prog A (hnd Tryz.prog A n) 87 n (cA (cA (cB (bodyOf Tryz.f87))))) (nmK Tryz.prog (A.loop 87 1)) m0 { sl := [(0, .iptr 83 x0), (1, .val 1 [] 152), (2, .imm 61 x2), (3, .imm 84 x3), (15, .imm 31 x15), (16, .imm 3 x16), (17, .imm 3 x17)], ob := [(1, some ⟨false, 152, .mp, xo1⟩)] } (kBlock 0 (kEnd Tryz.prog Tryz.f87 (A.sig 87) Q))
def L87_7 (n m0 m1 : Nat) (x0 : D) (x2 : D) (x3 : D) (x11 : D) (x15 : D) (x16 : D) (x17 : D) (x47 : D) (x48 : D) (x49 : D) (xo1 : D) (Q : List D → Prop) : Prop :=
 loopK (wpC Tryz.prog A (hnd Tryz.prog A n) 87 n (cA (cA (cB (cB (cB (cB (cB (cA (cA (cB (cB (cA (cA (cB (bodyOf Tryz.f87)))))))))))))))) (nmK Tryz.prog (A.loop 87 7)) m1 { sl := [(0, .iptr 83 x0), (1, .val 1 [] 152), (2, .imm 61 x2), (3, .imm 84 x3), (11, .imm 3 x11), (15, .imm 31 x15), (16, .imm 3 x16), (17, .imm 3 x17), (47, .imm 31 x47), (48, .imm 3 x48), (49, .imm 3 x49)], ob := [(1, some ⟨false, 152, .mp, xo1⟩)] } (kBlock 2 (kBlock 1 (kSeq (wpC Tryz.prog A (hnd Tryz.prog A n) 87 n (cB (cB (cB (cA (cA (cB (bodyOf Tryz.f87)))))))) (kLoop (nmK Tryz.prog (A.loop 87 1)) (fun g => loopK (wpC Tryz.prog A (hnd Tryz.prog A n) 87 n (cA (cA (cB (bodyOf Tryz.f87))))) (nmK Tryz.prog (A.loop 87 1)) m0 g (kBlock 0 (kEnd Tryz.prog Tryz.f87 (A.sig 87) Q))) (kBlock 0 (kEnd Tryz.prog Tryz.f87 (A.sig 87) Q))))))
theorem L87_1_eq (n m0 : Nat) (x0 : D) (x2 : D) (x3 : D) (x15 : D) (x16 : D) (x17 : D) (xo1 : D) (Q : List D → Prop) : L87_1 n (m0 + 1) x0 x2 x3 x15 x16 x17 xo1 Q =
 (cond (iLt (D.i x17) (D.i x16))
 ((0 ≤ (D.i x17) ∧ (D.i x17) < (D.len x15)) ∧ (True ∧ (cond (iLe (D.i (D.el x15 (D.i x17))) (0 : Int))
 (L87_1 n  m0 x0 x2 x3 x15 x16 (D.int (IntKind.wrap .i64 ((D.i x17) + (1 : Int)))) xo1 Q)
 ((0 ≤ (D.i x17) ∧ (D.i x17) < (D.len (D.fld x0 3))) ∧ ((0 ≤ (1 : Int) ∧ (1 : Int) < (2 : Int)) ∧ ((0 ≤ (D.i (List.getD (D.fs (D.el (D.fld x0 3) (D.i x17))) (Int.toNat (1 : Int)) D.und)) ∧ (D.i (List.getD (D.fs (D.el (D.fld x0 3) (D.i x17))) (Int.toNat (1 : Int)) D.und)) < (D.len x2)) ∧ (cond (!(D.b (D.el x2 (D.i (List.getD (D.fs (D.el (D.fld x0 3) (D.i x17))) (Int.toNat (1 : Int)) D.und)))))
 (L87_1 n  m0 x0 x2 x3 x15 x16 (D.int (IntKind.wrap .i64 ((D.i x17) + (1 : Int)))) xo1 Q)
 (wpF Tryz.prog A n 118 [x3, (D.fn 119 [(D.ptr x17)])] fun r1 =>
 (cond (iLt (D.i (rs r1 0)) (0 : Int))
 (L87_1 n  m0 x0 x2 x3 x15 x16 (D.int (IntKind.wrap .i64 ((D.i x17) + (1 : Int)))) xo1 Q)
 ((0 ≤ (D.i (rs r1 0)) ∧ (D.i (rs r1 0)) < (D.len x3)) ∧ (L87_7 n m0 n x0 x2 x3 (D.el x15 (D.i x17)) x15 x16 x17 (D.fld (D.el x3 (D.i (rs r1 0))) 1) (D.int (D.len (D.fld (D.el x3 (D.i (rs r1 0))) 1))) (D.int (0 : Int)) xo1 Q)))))))))))
 (Q [xo1])) := by kernel_rfl
theorem E87 (n : Nat) (d0 d1 d2 d3 d4 : D) (Q : List D → Prop) : wpF Tryz.prog A (n + 1) 87 [d0, d1, d2, d3, d4] Q =
 (L87_1 n  n d0 d2 d3 d4 (D.int (D.len d4)) (D.int (0 : Int)) d1 Q) := by kernel_rfl
attribute [irreducible] L87_1 L87_7

/- (*timebound/path.prover).nodes -/
def L88_2 (n m0 : Nat) (x0 : D) (x2 : D) (x6 : D) (x14 : D) (x15 : D) (xo1 : D) (xo13 : D) (Q : List D → Prop) : Prop :=
 loopK (wpC Tryz.prog A (hnd Tryz.prog A n) 88 n (cA (cA (cB (cB (bodyOf Tryz.f88)))))) (nmK Tryz.prog (A.loop 88 2)) m0 { sl := [(0, .iptr 83 x0), (1, .val 1 [] 152), (2, .imm 31 x2), (6, .imm 3 x6), (13, .val 13 [] 61), (14, .imm 3 x14), (15, .imm 3 x15)], ob := [(1, some ⟨false, 152, .mp, xo1⟩), (13, some ⟨false, 61, (.slc .imm none), xo13⟩)] } (kBlock 0 (kEnd Tryz.prog Tryz.f88 (A.sig 88) Q))
theorem L88_2_eq (n m0 : Nat) (x0 : D) (x2 : D) (x6 : D) (x14 : D) (x15 : D) (xo1 : D) (xo13 : D) (Q : List D → Prop) : L88_2 n (m0 + 1) x0 x2 x6 x14 x15 xo1 xo13 Q =
 (cond (iLt (D.i x15) (D.i x14))
 ((0 ≤ (D.i x15) ∧ (D.i x15) < (D.len xo13)) ∧ (cond (!(D.b (List.getD (D.xs xo13) (Int.toNat (D.i x15)) D.und)))
 (L88_2 n  m0 x0 x2 x6 x14 (D.int (IntKind.wrap .i64 ((D.i x15) + (1 : Int)))) xo1 xo13 Q)
 ((0 ≤ (D.i x15) ∧ (D.i x15) < (D.len (D.fld (D.fld x0 0) 1))) ∧ (cond (iLt (0 : Int) (D.len (D.fld (D.el (D.fld (D.fld x0 0) 1) (D.i x15)) 2)))
 ((0 ≤ (D.i x15) ∧ (D.i x15) < (D.len x2)) ∧ (wpF Tryz.prog A n 82 [xo1, x6, (D.el x2 (D.i x15))] fun r2 =>
 ((0 ≤ (D.i x15) ∧ (D.i x15) < (D.len x2)) ∧ (wpF Tryz.prog A n 82 [(rs r2 0), (D.int (IntKind.wrap .i64 ((D.i x6) + (1 : Int)))), (D.int (IntKind.wrap .i64 ((0 : Int) - (D.i (D.el x2 (D.i x15))))))] fun r3 =>
 (L88_2 n  m0 x0 x2 (D.int (IntKind.wrap .i64 ((D.i x6) + (2 : Int)))) x14 (D.int (IntKind.wrap .i64 ((D.i x15) + (1 : Int)))) (rs r3 0) xo13 Q)))))
 (L88_2 n  m0 x0 x2 (D.int (IntKind.wrap .i64 ((D.i x6) + (2 : Int)))) x14 (D.int (IntKind.wrap .i64 ((D.i x15) + (1 : Int)))) xo1 xo13 Q)))))
 (Q [xo1])) := by kernel_rfl
theorem E88 (n : Nat) (d0 d1 d2 : D) (Q : List D → Prop) : wpF Tryz.prog A (n + 1) 88 [d0, d1, d2] Q =
 (wpF Tryz.prog A n 15 [(D.fld d0 0)] fun r1 =>
 (L88_2 n  n d0 d2 (D.int (0 : Int)) (D.int (D.len (rs r1 0))) (D.int (0 : Int)) d1 (rs r1 0) Q)) := by kernel_rfl
attribute [irreducible] L88_2

/- timebound/heaviest.Prices -/
theorem E85 (n : Nat) (d0 d1 d2 : D) (Q : List D → Prop) : wpF Tryz.prog A (n + 1) 85 [d0, d1, d2] Q =
 (wpF Tryz.prog A n 69 [d0, d1, d2] fun r1 =>
 (cond (!(D.b (rs r1 0)))
 (Q [(D.slc ([] : List D)), (D.bool false)])
 (wpF Tryz.prog A n 70 [d0, d1, d2] fun r2 =>
 (Q [(rs r2 0), (D.bool true)])))) := by kernel_rfl

/- timebound/path.values$1 -/
theorem E117 (n : Nat) (d0 d1 d2 : D) (Q : List D → Prop) : wpF Tryz.prog A (n + 1) 117 [d0, d1, d2] Q =
 ((0 ≤ (D.i d0) ∧ (D.i d0) < (D.len d1)) ∧ (cond (!(D.b (D.el d1 (D.i d0))))
 ((0 ≤ (D.i d0) ∧ (D.i d0) < (D.len d2)) ∧ (Q [(D.bool (!(D.b (D.el d2 (D.i d0)))))]))
 (Q [(D.bool false)]))) := by kernel_rfl

/- timebound/path.values -/
def L86_4 (n m0 : Nat) (x0 : D) (x2 : D) (x4 : D) (x27 : D) (x28 : D) (xo6 : D) (xo8 : D) (xo24 : D) (Q : List D → Prop) : Prop :=
 loopK (wpC Tryz.prog A (hnd Tryz.prog A n) 86 n (cA (cA (cB (cA (cB (cB (cB (bodyOf Tryz.f86))))))))) (nmK Tryz.prog (A.loop 86 4)) m0 { sl := [(0, .imm 75 x0), (2, .imm 31 x2), (4, .imm 3 x4), (6, .ptr 6 [] 61), (8, .ptr 8 [] 61), (11, .val 24 [] 31), (12, .clo 117 [.ptr 6 [] 61, .ptr 8 [] 61]), (27, .imm 3 x27), (28, .imm 3 x28)], ob := [(6, some ⟨true, 61, .imm, xo6⟩), (8, some ⟨true, 61, .imm, xo8⟩), (24, some ⟨false, 31, (.slc .imm none), xo24⟩)] } (kBlock 0 (kSeq (wpC Tryz.prog A (hnd Tryz.prog A n) 86 n (cB (cB (cB (cB (bodyOf Tryz.f86)))))) (kEnd Tryz.prog Tryz.f86 (A.sig 86) Q)))
def L86_6 (n m0 m1 : Nat) (x0 : D) (x2 : D) (x4 : D) (x27 : D) (x28 : D) (x30 : D) (x31 : D) (x32 : D) (xo6 : D) (xo8 : D) (xo24 : D) (Q : List D → Prop) : Prop :=
 loopK (wpC Tryz.prog A (hnd Tryz.prog A n) 86 n (cA (cA (cB (cA (cA (cB (cB (cA (cA (cB (cA (cB (cB (cB (bodyOf Tryz.f86)))))))))))))))) (nmK Tryz.prog (A.loop 86 6)) m1 { sl := [(0, .imm 75 x0), (2, .imm 31 x2), (4, .imm 3 x4), (6, .ptr 6 [] 61), (8, .ptr 8 [] 61), (11, .val 24 [] 31), (12, .clo 117 [.ptr 6 [] 61, .ptr 8 [] 61]), (27, .imm 3 x27), (28, .imm 3 x28), (30, .imm 75 x30), (31, .imm 3 x31), (32, .imm 3 x32)], ob := [(6, some ⟨true, 61, .imm, xo6⟩), (8, some ⟨true, 61, .imm, xo8⟩), (24, some ⟨false, 31, (.slc .imm none), xo24⟩)] } (kBlock 2 (kBlock 1 (kSeq (wpC Tryz.prog A (hnd Tryz.prog A n) 86 n (cB (cB (cB (cA (cA (cB (cA (cB (cB (cB (bodyOf Tryz.f86)))))))))))) (kLoop (nmK Tryz.prog (A.loop 86 4)) (fun g => loopK (wpC Tryz.prog A (hnd Tryz.prog A n) 86 n (cA (cA (cB (cA (cB (cB (cB (bodyOf Tryz.f86))))))))) (nmK Tryz.prog (A.loop 86 4)) m0 g (kBlock 0 (kSeq (wpC Tryz.prog A (hnd Tryz.prog A n) 86 n (cB (cB (cB (cB (bodyOf Tryz.f86)))))) (kEnd Tryz.prog Tryz.f86 (A.sig 86) Q)))) (kBlock 0 (kSeq (wpC Tryz.prog A (hnd Tryz.prog A n) 86 n (cB (cB (cB (cB (bodyOf Tryz.f86)))))) (kEnd Tryz.prog Tryz.f86 (A.sig 86) Q)))))))
def L86_13 (n m0 : Nat) (x0 : D) (x2 : D) (x4 : D) (x67 : D) (x68 : D) (xo6 : D) (xo8 : D) (xo24 : D) (Q : List D → Prop) : Prop :=
 loopK (wpC Tryz.prog A (hnd Tryz.prog A n) 86 n (cA (cA (cB (cA (cB (cB (cB (cB (bodyOf Tryz.f86)))))))))) (nmK Tryz.prog (A.loop 86 13)) m0 { sl := [(0, .imm 75 x0), (2, .imm 31 x2), (4, .imm 3 x4), (6, .ptr 6 [] 61), (8, .ptr 8 [] 61), (11, .val 24 [] 31), (12, .clo 117 [.ptr 6 [] 61, .ptr 8 [] 61]), (67, .imm 3 x67), (68, .imm 3 x68)], ob := [(6, some ⟨true, 61, .imm, xo6⟩), (8, some ⟨true, 61, .imm, xo8⟩), (24, some ⟨false, 31, (.slc .imm none), xo24⟩)] } (kBlock 4 (kSeq (wpC Tryz.prog A (hnd Tryz.prog A n) 86 n (cB (cB (cB (cB (cB (bodyOf Tryz.f86))))))) (kEnd Tryz.prog Tryz.f86 (A.sig 86) Q)))
def L86_20 (n m0 : Nat) (x0 : D) (x16 : D) (x85 : D) (x86 : D) (x87 : D) (xo6 : D) (xo8 : D) (xo24 : D) (Q : List D → Prop) : Prop :=
 loopK (wpC Tryz.prog A (hnd Tryz.prog A n) 86 n (cA (cA (cB (cA (cB (cB (cB (cB (cB (cB (bodyOf Tryz.f86)))))))))))) (nmK Tryz.prog (A.loop 86 20)) m0 { sl := [(0, .imm 75 x0), (6, .ptr 6 [] 61), (8, .ptr 8 [] 61), (11, .val 24 [] 31), (12, .clo 117 [.ptr 6 [] 61, .ptr 8 [] 61]), (16, .imm 3 x16), (85, .imm 75 x85), (86, .imm 3 x86), (87, .imm 3 x87)], ob := [(6, some ⟨true, 61, .imm, xo6⟩), (8, some ⟨true, 61, .imm, xo8⟩), (24, some ⟨false, 31, (.slc .imm none), xo24⟩)] } (kBlock 6 (kSeq (wpC Tryz.prog A (hnd Tryz.prog A n) 86 n (cB (cB (cB (cB (cB (cB (cB (bodyOf Tryz.f86))))))))) (kEnd Tryz.prog Tryz.f86 (A.sig 86) Q)))
def L86_26 (n m0 : Nat) (x0 : D) (x16 : D) (x120 : D) (x121 : D) (xo6 : D) (xo8 : D) (xo24 : D) (Q : List D → Prop) : Prop :=
 loopK (wpC Tryz.prog A (hnd Tryz.prog A n) 86 n (cA (cA (cB (cA (cB (cB (cB (cB (cB (cB (cB (bodyOf Tryz.f86))))))))))))) (nmK Tryz.prog (A.loop 86 26)) m0 { sl := [(0, .imm 75 x0), (6, .ptr 6 [] 61), (11, .val 24 [] 31), (12, .clo 117 [.ptr 6 [] 61, .ptr 8 [] 61]), (16, .imm 3 x16), (120, .imm 3 x120), (121, .imm 3 x121)], ob := [(6, some ⟨true, 61, .imm, xo6⟩), (8, some ⟨true, 61, .imm, xo8⟩), (24, some ⟨false, 31, (.slc .imm none), xo24⟩)] } (kBlock 8 (kSeq (wpC Tryz.prog A (hnd Tryz.prog A n) 86 n (cB (cB (cB (cB (cB (cB (cB (cB (bodyOf Tryz.f86)))))))))) (kEnd Tryz.prog Tryz.f86 (A.sig 86) Q)))
def L86_32 (n m0 : Nat) (x135 : D) (x136 : D) (x137 : D) (xo6 : D) (xo24 : D) (Q : List D → Prop) : Prop :=
 loopK (wpC Tryz.prog A (hnd Tryz.prog A n) 86 n (cA (cA (cB (cA (cB (cB (cB (cB (cB (cB (cB (cB (bodyOf Tryz.f86)))))))))))))) (nmK Tryz.prog (A.loop 86 32)) m0 { sl := [(6, .ptr 6 [] 61), (11, .val 24 [] 31), (135, .imm 75 x135), (136, .imm 3 x136), (137, .imm 3 x137)], ob := [(6, some ⟨true, 61, .imm, xo6⟩), (24, some ⟨false, 31, (.slc .imm none), xo24⟩)] } (kBlock 10 (kSeq (wpC Tryz.prog A (hnd Tryz.prog A n) 86 n (cB (cB (cB (cB (cB (cB (cB (cB (cB (bodyOf Tryz.f86))))))))))) (kEnd Tryz.prog Tryz.f86 (A.sig 86) Q)))
theorem L86_4_eq (n m0 : Nat) (x0 : D) (x2 : D) (x4 : D) (x27 : D) (x28 : D) (xo6 : D) (xo8 : D) (xo24 : D) (Q : List D → Prop) : L86_4 n (m0 + 1) x0 x2 x4 x27 x28 xo6 xo8 xo24 Q =
 (cond (iLt (D.i x28) (D.i x27))
 (L86_6 n m0 n x0 x2 x4 x27 x28 x0 (D.int (D.len x0)) (D.int (0 : Int)) xo6 xo8 xo24 Q)
 (L86_13 n  n x0 x2 x4 (D.int (D.len xo24)) (D.int (0 : Int)) xo6 xo8 xo24 Q)) := by kernel_rfl
theorem L86_6_eq (n m0 m1 : Nat) (x0 : D) (x2 : D) (x4 : D) (x27 : D) (x28 : D) (x30 : D) (x31 : D) (x32 : D) (xo6 : D) (xo8 : D) (xo24 : D) (Q : List D → Prop) : L86_6 n m0 (m1 + 1) x0 x2 x4 x27 x28 x30 x31 x32 xo6 xo8 xo24 Q =
 (cond (iLt (D.i x32) (D.i x31))
 ((0 ≤ (D.i x32) ∧ (D.i x32) < (D.len x30)) ∧ (True ∧ (wpF Tryz.prog A n 117 [(D.fld (D.el x30 (D.i x32)) 0), xo6, xo8] fun r1 =>
 (cond (D.b (rs r1 0))
 (wpF Tryz.prog A n 117 [(D.fld (D.el x30 (D.i x32)) 2), xo6, xo8] fun r2 =>
 (cond (D.b (rs r2 0))
 ((0 ≤ (D.i (D.fld (D.el x30 (D.i x32)) 0)) ∧ (D.i (D.fld (D.el x30 (D.i x32)) 0)) < (D.len xo24)) ∧ ((0 ≤ (D.i (D.fld (D.el x30 (D.i x32)) 2)) ∧ (D.i (D.fld (D.el x30 (D.i x32)) 2)) < (D.len xo24)) ∧ ((0 ≤ (D.i (D.fld (D.el x30 (D.i x32)) 0)) ∧ (D.i (D.fld (D.el x30 (D.i x32)) 0)) < (D.len xo24)) ∧ (True ∧ (L86_6 n m0 m1 x0 x2 x4 x27 x28 x30 x31 (D.int (IntKind.wrap .i64 ((D.i x32) + (1 : Int)))) xo6 xo8 (D.slc (List.set (D.xs xo24) (Int.toNat (D.i (D.fld (D.el x30 (D.i x32)) 0))) (D.int (minmax true (D.i (List.getD (D.xs xo24) (Int.toNat (D.i (D.fld (D.el x30 (D.i x32)) 0))) D.und)) (IntKind.wrap .i64 ((D.i (D.fld (D.el x30 (D.i x32)) 3)) + (D.i (List.getD (D.xs xo24) (Int.toNat (D.i (D.fld (D.el x30 (D.i x32)) 2))) D.und)))))))) Q)))))
 (L86_6 n m0 m1 x0 x2 x4 x27 x28 x30 x31 (D.int (IntKind.wrap .i64 ((D.i x32) + (1 : Int)))) xo6 xo8 xo24 Q)))
 (L86_6 n m0 m1 x0 x2 x4 x27 x28 x30 x31 (D.int (IntKind.wrap .i64 ((D.i x32) + (1 : Int)))) xo6 xo8 xo24 Q)))))
 (L86_4 n  m0 x0 x2 x4 x27 (D.int (IntKind.wrap .i64 ((D.i x28) + (1 : Int)))) xo6 xo8 xo24 Q)) := by kernel_rfl
theorem L86_13_eq (n m0 : Nat) (x0 : D) (x2 : D) (x4 : D) (x67 : D) (x68 : D) (xo6 : D) (xo8 : D) (xo24 : D) (Q : List D → Prop) : L86_13 n (m0 + 1) x0 x2 x4 x67 x68 xo6 xo8 xo24 Q =
 (cond (iLt (D.i x68) (D.i x67))
 ((0 ≤ (D.i x68) ∧ (D.i x68) < (D.len xo8)) ∧ (cond (D.b (D.el xo8 (D.i x68)))
 ((0 ≤ (D.i x68) ∧ (D.i x68) < (D.len x2)) ∧ ((0 ≤ (D.i x68) ∧ (D.i x68) < (D.len xo24)) ∧ (True ∧ (L86_13 n  m0 x0 x2 x4 x67 (D.int (IntKind.wrap .i64 ((D.i x68) + (1 : Int)))) xo6 xo8 (D.slc (List.set (D.xs xo24) (Int.toNat (D.i x68)) (D.int (IntKind.wrap .i64 ((D.i (D.el x2 (D.i x68))) - (D.i x4)))))) Q))))
 (L86_13 n  m0 x0 x2 x4 x67 (D.int (IntKind.wrap .i64 ((D.i x68) + (1 : Int)))) xo6 xo8 xo24 Q)))
 (L86_20 n  n x0 (D.int (0 : Int)) x0 (D.int (D.len x0)) (D.int (0 : Int)) xo6 xo8 xo24 Q)) := by kernel_rfl
theorem L86_20_eq (n m0 : Nat) (x0 : D) (x16 : D) (x85 : D) (x86 : D) (x87 : D) (xo6 : D) (xo8 : D) (xo24 : D) (Q : List D → Prop) : L86_20 n (m0 + 1) x0 x16 x85 x86 x87 xo6 xo8 xo24 Q =
 (cond (iLt (D.i x87) (D.i x86))
 ((0 ≤ (D.i x87) ∧ (D.i x87) < (D.len x85)) ∧ (True ∧ ((0 ≤ (D.i (D.fld (D.el x85 (D.i x87)) 0)) ∧ (D.i (D.fld (D.el x85 (D.i x87)) 0)) < (D.len xo8)) ∧ (cond (D.b (D.el xo8 (D.i (D.fld (D.el x85 (D.i x87)) 0))))
 (wpF Tryz.prog A n 117 [(D.fld (D.el x85 (D.i x87)) 2), xo6, xo8] fun r3 =>
 (cond (D.b (rs r3 0))
 ((0 ≤ (D.i (D.fld (D.el x85 (D.i x87)) 2)) ∧ (D.i (D.fld (D.el x85 (D.i x87)) 2)) < (D.len xo24)) ∧ ((0 ≤ (D.i (D.fld (D.el x85 (D.i x87)) 0)) ∧ (D.i (D.fld (D.el x85 (D.i x87)) 0)) < (D.len xo24)) ∧ (L86_20 n  m0 x0 (D.int (minmax true (D.i x16) (IntKind.wrap .i64 ((IntKind.wrap .i64 ((D.i (D.fld (D.el x85 (D.i x87)) 3)) + (D.i (List.getD (D.xs xo24) (Int.toNat (D.i (D.fld (D.el x85 (D.i x87)) 2))) D.und)))) - (D.i (List.getD (D.xs xo24) (Int.toNat (D.i (D.fld (D.el x85 (D.i x87)) 0))) D.und)))))) x85 x86 (D.int (IntKind.wrap .i64 ((D.i x87) + (1 : Int)))) xo6 xo8 xo24 Q)))
 (L86_20 n  m0 x0 x16 x85 x86 (D.int (IntKind.wrap .i64 ((D.i x87) + (1 : Int)))) xo6 xo8 xo24 Q)))
 (L86_20 n  m0 x0 x16 x85 x86 (D.int (IntKind.wrap .i64 ((D.i x87) + (1 : Int)))) xo6 xo8 xo24 Q)))))
 (L86_26 n  n x0 x16 (D.int (D.len xo24)) (D.int (0 : Int)) xo6 xo8 xo24 Q)) := by kernel_rfl
theorem L86_26_eq (n m0 : Nat) (x0 : D) (x16 : D) (x120 : D) (x121 : D) (xo6 : D) (xo8 : D) (xo24 : D) (Q : List D → Prop) : L86_26 n (m0 + 1) x0 x16 x120 x121 xo6 xo8 xo24 Q =
 (cond (iLt (D.i x121) (D.i x120))
 (wpF Tryz.prog A n 117 [x121, xo6, xo8] fun r4 =>
 (cond (D.b (rs r4 0))
 ((0 ≤ (D.i x121) ∧ (D.i x121) < (D.len xo24)) ∧ ((0 ≤ (D.i x121) ∧ (D.i x121) < (D.len xo24)) ∧ (True ∧ (L86_26 n  m0 x0 x16 x120 (D.int (IntKind.wrap .i64 ((D.i x121) + (1 : Int)))) xo6 xo8 (D.slc (List.set (D.xs xo24) (Int.toNat (D.i x121)) (D.int (IntKind.wrap .i64 ((D.i (List.getD (D.xs xo24) (Int.toNat (D.i x121)) D.und)) - (D.i x16)))))) Q))))
 (L86_26 n  m0 x0 x16 x120 (D.int (IntKind.wrap .i64 ((D.i x121) + (1 : Int)))) xo6 xo8 xo24 Q)))
 (L86_32 n  n x0 (D.int (D.len x0)) (D.int (0 : Int)) xo6 xo24 Q)) := by kernel_rfl
theorem L86_32_eq (n m0 : Nat) (x135 : D) (x136 : D) (x137 : D) (xo6 : D) (xo24 : D) (Q : List D → Prop) : L86_32 n (m0 + 1) x135 x136 x137 xo6 xo24 Q =
 (cond (iLt (D.i x137) (D.i x136))
 ((0 ≤ (D.i x137) ∧ (D.i x137) < (D.len x135)) ∧ (True ∧ ((0 ≤ (D.i (D.fld (D.el x135 (D.i x137)) 0)) ∧ (D.i (D.fld (D.el x135 (D.i x137)) 0)) < (D.len xo6)) ∧ (cond (D.b (D.el xo6 (D.i (D.fld (D.el x135 (D.i x137)) 0))))
 ((0 ≤ (D.i (D.fld (D.el x135 (D.i x137)) 2)) ∧ (D.i (D.fld (D.el x135 (D.i x137)) 2)) < (D.len xo6)) ∧ (cond (!(D.b (D.el xo6 (D.i (D.fld (D.el x135 (D.i x137)) 2)))))
 ((0 ≤ (D.i (D.fld (D.el x135 (D.i x137)) 0)) ∧ (D.i (D.fld (D.el x135 (D.i x137)) 0)) < (D.len xo24)) ∧ ((0 ≤ (D.i (D.fld (D.el x135 (D.i x137)) 2)) ∧ (D.i (D.fld (D.el x135 (D.i x137)) 2)) < (D.len xo24)) ∧ ((0 ≤ (D.i (D.fld (D.el x135 (D.i x137)) 0)) ∧ (D.i (D.fld (D.el x135 (D.i x137)) 0)) < (D.len xo24)) ∧ (True ∧ (L86_32 n  m0 x135 x136 (D.int (IntKind.wrap .i64 ((D.i x137) + (1 : Int)))) xo6 (D.slc (List.set (D.xs xo24) (Int.toNat (D.i (D.fld (D.el x135 (D.i x137)) 0))) (D.int (minmax true (D.i (List.getD (D.xs xo24) (Int.toNat (D.i (D.fld (D.el x135 (D.i x137)) 0))) D.und)) (IntKind.wrap .i64 ((D.i (D.fld (D.el x135 (D.i x137)) 3)) + (D.i (List.getD (D.xs xo24) (Int.toNat (D.i (D.fld (D.el x135 (D.i x137)) 2))) D.und)))))))) Q)))))
 (L86_32 n  m0 x135 x136 (D.int (IntKind.wrap .i64 ((D.i x137) + (1 : Int)))) xo6 xo24 Q)))
 (L86_32 n  m0 x135 x136 (D.int (IntKind.wrap .i64 ((D.i x137) + (1 : Int)))) xo6 xo24 Q)))))
 (Q [xo24])) := by kernel_rfl
theorem E86 (n : Nat) (d0 d1 d2 d3 d4 : D) (Q : List D → Prop) : wpF Tryz.prog A (n + 1) 86 [d0, d1, d2, d3, d4] Q =
 ((0 ≤ (D.len d2) ∧ (D.len d2) ≤ (D.len d2) ∧ room (D.len d2) 8) ∧ (L86_4 n  n d0 d2 d4 (D.int (D.len (D.slc (List.replicate (Int.toNat (D.len d2)) (D.int (0 : Int)))))) (D.int (0 : Int)) d1 d3 (D.slc (List.replicate (Int.toNat (D.len d2)) (D.int (0 : Int)))) Q)) := by kernel_rfl
attribute [irreducible] L86_4 L86_6 L86_13 L86_20 L86_26 L86_32

/- (*timebound/path.prover).loops -/
/- (*timebound/path.prover).leaf -/
def L48_4 (n m0 : Nat) (x0 : D) (x1 : D) (x39 : D) (x40 : D) (xo6 : D) (xo22 : D) (Q : List D → Prop) : Prop :=
 loopK (wpC Tryz.prog A (hnd Tryz.prog A n) 48 n (cA (cA (cB (cA (cA (cB (cA (cB (cB (bodyOf Tryz.f48))))))))))) (nmK Tryz.prog (A.loop 48 4)) m0 { sl := [(0, .iptr 83 x0), (1, .imm 61 x1), (6, .ptr 6 [] 98), (7, .val 22 [] 152), (39, .imm 3 x39), (40, .imm 3 x40)], ob := [(6, some ⟨true, 98, (.agg [(2, (.slc .imm none)), (4, (.slc .imm none))]), xo6⟩), (22, some ⟨false, 152, .mp, xo22⟩)] } (kBlock 0 (kSeq (wpC Tryz.prog A (hnd Tryz.prog A n) 48 n (cB (cA (cB (cA (cB (cB (bodyOf Tryz.f48)))))))) (kSeq (wpC Tryz.prog A (hnd Tryz.prog A n) 48 n (cB (cB (cB (bodyOf Tryz.f48))))) (kEnd Tryz.prog Tryz.f48 (A.sig 48) Q))))
def L48_20 (n m0 : Nat) (x0 : D) (x1 : D) (x2 : D) (x138 : D) (x139 : D) (x140 : D) (xo6 : D) (xo22 : D) (xo113 : D) (xo134 : D) (xo137 : D) (Q : List D → Prop) : Prop :=
 loopK (wpC Tryz.prog A (hnd Tryz.prog A n) 48 n (cA (cA (cB (cA (cB (cB (cB (cB (cB (cB (cB (cB (cB (bodyOf Tryz.f48))))))))))))))) (nmK Tryz.prog (A.loop 48 20)) m0 { sl := [(0, .iptr 83 x0), (1, .imm 61 x1), (2, .imm 84 x2), (6, .ptr 6 [] 98), (7, .val 22 [] 152), (13, .val 113 [] 31), (16, .val 134 [] 31), (17, .val 137 [] 31), (138, .imm 75 x138), (139, .imm 3 x139), (140, .imm 3 x140)], ob := [(6, some ⟨true, 98, (.agg [(2, (.slc .imm none)), (4, (.slc .imm none))]), xo6⟩), (22, some ⟨false, 152, .mp, xo22⟩), (113, some ⟨false, 31, .imm, xo113⟩), (134, some ⟨false, 31, (.slc .imm none), xo134⟩), (137, some ⟨false, 31, (.slc .imm none), xo137⟩)] } (kBlock 2 (kSeq (wpC Tryz.prog A (hnd Tryz.prog A n) 48 n (cB (cB (cB (cB (cB (cB (cB (cB (cB (cB (bodyOf Tryz.f48)))))))))))) (kEnd Tryz.prog Tryz.f48 (A.sig 48) Q)))
def L48_27 (n m0 : Nat) (x0 : D) (x174 : D) (x175 : D) (xo6 : D) (xo22 : D) (xo113 : D) (Q : List D → Prop) : Prop :=
 loopK (wpC Tryz.prog A (hnd Tryz.prog A n) 48 n (cA (cA (cB (cA (cB (cB (cB (cB (cB (cB (cB (cB (cB (cB (cB (cB (bodyOf Tryz.f48)))))))))))))))))) (nmK Tryz.prog (A.loop 48 27)) m0 { sl := [(0, .iptr 83 x0), (6, .ptr 6 [] 98), (7, .val 22 [] 152), (173, .val 113 [] 31), (174, .imm 3 x174), (175, .imm 3 x175)], ob := [(6, some ⟨true, 98, (.agg [(2, (.slc .imm none)), (4, (.slc .imm none))]), xo6⟩), (22, some ⟨false, 152, .mp, xo22⟩), (113, some ⟨false, 31, .imm, xo113⟩)] } (kBlock 4 (kSeq (wpC Tryz.prog A (hnd Tryz.prog A n) 48 n (cB (cB (cB (cB (cB (cB (cB (cB (cB (cB (cB (cB (cB (bodyOf Tryz.f48))))))))))))))) (kEnd Tryz.prog Tryz.f48 (A.sig 48) Q)))
theorem L48_4_eq (n m0 : Nat) (x0 : D) (x1 : D) (x39 : D) (x40 : D) (xo6 : D) (xo22 : D) (Q : List D → Prop) : L48_4 n (m0 + 1) x0 x1 x39 x40 xo6 xo22 Q =
 (cond (iLt (D.i x40) (D.i x39))
 (wpF Tryz.prog A n 26 [x0] fun r2 =>
 ((0 ≤ (IntKind.wrap .i64 ((D.i (rs r2 0)) + (D.i x40))) ∧ (IntKind.wrap .i64 ((D.i (rs r2 0)) + (D.i x40))) < (D.len (D.fld (D.fld x0 2) 1))) ∧ (True ∧ ((0 ≤ (0 : Int) ∧ (0 : Int) < (D.len x1)) ∧ (cond (D.b (D.el x1 (0 : Int)))
 (cond (iLt (D.i (D.fld (D.el (D.fld (D.fld x0 2) 1) (IntKind.wrap .i64 ((D.i (rs r2 0)) + (D.i x40)))) 1)) (0 : Int))
 (wpF Tryz.prog A n 23 [(D.fld (D.el (D.fld (D.fld x0 2) 1) (IntKind.wrap .i64 ((D.i (rs r2 0)) + (D.i x40)))) 0), (D.fn 81 [])] fun r3 =>
 (cond (!(D.b (rs r3 0)))
 (wpF Tryz.prog A n 26 [x0] fun r4 =>
 (wpF Tryz.prog A n 82 [xo22, (D.int (IntKind.wrap .i64 ((D.i (rs r4 0)) + (D.i x40)))), (D.int (1 : Int))] fun r5 =>
 (wpF Tryz.prog A n 83 [(rs r5 0), (D.int (0 : Int))] fun r6 =>
 (True ∧ (Q [(rs r6 0)])))))
 (L48_4 n  m0 x0 x1 x39 (D.int (IntKind.wrap .i64 ((D.i x40) + (1 : Int)))) xo6 xo22 Q)))
 (L48_4 n  m0 x0 x1 x39 (D.int (IntKind.wrap .i64 ((D.i x40) + (1 : Int)))) xo6 xo22 Q))
 (L48_4 n  m0 x0 x1 x39 (D.int (IntKind.wrap .i64 ((D.i x40) + (1 : Int)))) xo6 xo22 Q))))))
 (wpF Tryz.prog A n 83 [xo22, (D.int (1 : Int))] fun r7 =>
 (True ∧ (Q [(rs r7 0)])))) := by kernel_rfl
theorem L48_20_eq (n m0 : Nat) (x0 : D) (x1 : D) (x2 : D) (x138 : D) (x139 : D) (x140 : D) (xo6 : D) (xo22 : D) (xo113 : D) (xo134 : D) (xo137 : D) (Q : List D → Prop) : L48_20 n (m0 + 1) x0 x1 x2 x138 x139 x140 xo6 xo22 xo113 xo134 xo137 Q =
 (cond (iLt (D.i x140) (D.i x139))
 ((0 ≤ (D.i x140) ∧ (D.i x140) < (D.len x138)) ∧ (True ∧ ((0 ≤ (D.i (D.fld (D.el x138 (D.i x140)) 2)) ∧ (D.i (D.fld (D.el x138 (D.i x140)) 2)) < (D.len xo134)) ∧ ((0 ≤ (D.i (D.fld (D.el x138 (D.i x140)) 0)) ∧ (D.i (D.fld (D.el x138 (D.i x140)) 0)) < (D.len xo134)) ∧ ((0 ≤ (D.i x140) ∧ (D.i x140) < (D.len xo137)) ∧ (True ∧ (L48_20 n  m0 x0 x1 x2 x138 x139 (D.int (IntKind.wrap .i64 ((D.i x140) + (1 : Int)))) xo6 xo22 xo113 xo134 (D.slc (List.set (D.xs xo137) (Int.toNat (D.i x140)) (D.int (IntKind.wrap .i64 ((IntKind.wrap .i64 ((D.i (D.fld (D.el x138 (D.i x140)) 3)) + (D.i (List.getD (D.xs xo134) (Int.toNat (D.i (D.fld (D.el x138 (D.i x140)) 2))) D.und)))) - (D.i (List.getD (D.xs xo134) (Int.toNat (D.i (D.fld (D.el x138 (D.i x140)) 0))) D.und))))))) Q)))))))
 (wpF Tryz.prog A n 87 [x0, xo22, x1, x2, xo137] fun r13 =>
 (wpF Tryz.prog A n 88 [x0, (rs r13 0), xo134] fun r14 =>
 (L48_27 n  n x0 (D.int (D.len xo113)) (D.int (0 : Int)) xo6 (rs r14 0) xo113 Q)))) := by kernel_rfl
theorem L48_27_eq (n m0 : Nat) (x0 : D) (x174 : D) (x175 : D) (xo6 : D) (xo22 : D) (xo113 : D) (Q : List D → Prop) : L48_27 n (m0 + 1) x0 x174 x175 xo6 xo22 xo113 Q =
 (cond (iLt (D.i x175) (D.i x174))
 ((0 ≤ (D.i x175) ∧ (D.i x175) < (D.len xo113)) ∧ (wpF Tryz.prog A n 89 [x0] fun r15 =>
 (wpF Tryz.prog A n 82 [xo22, (D.int (IntKind.wrap .i64 ((D.i (rs r15 0)) + (D.i x175)))), (D.el xo113 (D.i x175))] fun r16 =>
 (L48_27 n  m0 x0 x174 (D.int (IntKind.wrap .i64 ((D.i x175) + (1 : Int)))) xo6 (rs r16 0) xo113 Q))))
 (wpF Tryz.prog A n 83 [xo22, (D.int (1 : Int))] fun r17 =>
 (True ∧ (Q [(rs r17 0)])))) := by kernel_rfl
theorem E48 (n : Nat) (d0 d1 d2 : D) (Q : List D → Prop) : wpF Tryz.prog A (n + 1) 48 [d0, d1, d2] Q =
 (wpF Tryz.prog A n 14 [(D.fld d0 0)] fun r1 =>
 (cond (iEq (D.i (rs r1 0)) (0 : Int))
 (L48_4 n  n d0 d1 (D.int (D.len (D.fld (D.fld d0 0) 5))) (D.int (0 : Int)) (D.agg [(D.int (0 : Int)), (D.int (0 : Int)), (D.slc ([] : List D)), (D.int (0 : Int)), (D.slc ([] : List D)), (D.int (0 : Int))]) (D.map []) Q)
 ((0 ≤ (0 : Int) ∧ (0 : Int) < (D.len d1)) ∧ (cond (D.b (D.el d1 (0 : Int)))
 (L48_4 n  n d0 d1 (D.int (D.len (D.fld (D.fld d0 0) 5))) (D.int (0 : Int)) (D.agg [(D.int (0 : Int)), (D.int (0 : Int)), (D.slc ([] : List D)), (D.int (0 : Int)), (D.slc ([] : List D)), (D.int (0 : Int))]) (D.map []) Q)
 (wpF Tryz.prog A n 37 [(D.fld d0 0), (D.fld d0 1), d1] fun r8 =>
 ((0 ≤ (0 : Int) ∧ (0 : Int) < (D.len (rs r8 1))) ∧ (cond (!(D.b (D.el (rs r8 1) (0 : Int))))
 (wpF Tryz.prog A n 84 [d0, d1, d2, (rs r8 1)] fun r9 =>
 (True ∧ (Q [(rs r9 0)])))
 (wpF Tryz.prog A n 85 [(D.fld d0 0), (D.fld d0 1), d1] fun r10 =>
 (wpF Tryz.prog A n 19 [(D.fld d0 0), (D.fld d0 1), (rs r10 0)] fun r11 =>
 (wpF Tryz.prog A n 86 [(rs r11 0), d1, (rs r8 0), (rs r8 1), (D.fld (D.fld d0 2) 3)] fun r12 =>
 ((0 ≤ (D.len (rs r11 0)) ∧ (D.len (rs r11 0)) ≤ (D.len (rs r11 0)) ∧ room (D.len (rs r11 0)) 8) ∧ (L48_20 n  n d0 d1 d2 (rs r11 0) (D.int (D.len (rs r11 0))) (D.int (0 : Int)) (D.agg [(D.int (0 : Int)), (D.int (0 : Int)), (D.slc ([] : List D)), (D.int (0 : Int)), (D.slc ([] : List D)), (D.int (0 : Int))]) (D.map []) (rs r10 0) (rs r12 0) (D.slc (List.replicate (Int.toNat (D.len (rs r11 0))) (D.int (0 : Int)))) Q)))))))))))) := by kernel_rfl
attribute [irreducible] L48_4 L48_20 L48_27

/- timebound/path.Prove -/
def L7_11 (n m0 : Nat) (x6 : D) (x47 : D) (x48 : D) (x49 : D) (xo4 : D) (xo8 : D) (xo11 : D) (xo43 : D) (xo45 : D) (Q : List D → Prop) : Prop :=
 loopK (wpC Tryz.prog A (hnd Tryz.prog A n) 7 n (cA (cA (cB (cA (cB (cB (cB (cB (cB (cB (cB (cB (bodyOf Tryz.f7)))))))))))))) (nmK Tryz.prog (A.loop 7 11)) m0 { sl := [(4, .ptr 4 [] 51), (6, .imm 3 x6), (8, .ptr 8 [] 46), (9, .ptr 43 [] 83), (10, .val 45 [] 61), (11, .val 11 [] 84), (47, .imm 28 x47), (48, .imm 3 x48), (49, .imm 3 x49)], ob := [(4, some ⟨true, 51, (.agg [(0, (.slc (.agg [(2, (.slc .imm none)), (4, (.slc .imm none))]) none))]), xo4⟩), (8, some ⟨true, 46, .imm, xo8⟩), (11, some ⟨false, 84, (.slc (.agg [(0, (.slc .imm none)), (1, (.slc .imm none))]) none), xo11⟩), (43, some ⟨true, 83, (.agg [(3, (.slc .imm none)), (4, (.slc (.agg [(2, (.slc .imm none)), (4, (.slc .imm none))]) none))]), xo43⟩), (45, some ⟨false, 61, (.slc .imm none), xo45⟩)] } (kBlock 0 (kSeq (wpC Tryz.prog A (hnd Tryz.prog A n) 7 n (cB (cB (cB (cB (cB (cB (cB (cB (cB (bodyOf Tryz.f7))))))))))) (kEnd Tryz.prog Tryz.f7 (A.sig 7) Q)))
theorem L7_11_eq (n m0 : Nat) (x6 : D) (x47 : D) (x48 : D) (x49 : D) (xo4 : D) (xo8 : D) (xo11 : D) (xo43 : D) (xo45 : D) (Q : List D → Prop) : L7_11 n (m0 + 1) x6 x47 x48 x49 xo4 xo8 xo11 xo43 xo45 Q =
 (cond (iLt (D.i x49) (D.i x48))
 ((0 ≤ (D.i x49) ∧ (D.i x49) < (D.len x47)) ∧ (True ∧ (cond (iEq (D.i (D.fld (D.el x47 (D.i x49)) 1)) (0 : Int))
 (wpF Tryz.prog A n 23 [(D.fld (D.el x47 (D.i x49)) 0), (D.fn 24 [])] fun r5 =>
 (cond (!(D.b (rs r5 0)))
 (wpF Tryz.prog A n 25 [(D.fld xo43 3), (D.fld (D.el x47 (D.i x49)) 0)] fun r6 =>
 (wpF Tryz.prog A n 26 [xo43] fun r7 =>
 (room (((List.length (D.xs xo11) : Nat) : Int) + ((List.length [(D.agg [(rs r6 0), (D.slc [(D.int (IntKind.wrap .i64 ((D.i (rs r7 0)) + (D.i x49))))])])] : Nat) : Int)) 48 ∧ (L7_11 n  m0 x6 x47 x48 (D.int (IntKind.wrap .i64 ((D.i x49) + (1 : Int)))) xo4 xo8 (D.slc ((D.xs xo11) ++ [(D.agg [(rs r6 0), (D.slc [(D.int (IntKind.wrap .i64 ((D.i (rs r7 0)) + (D.i x49))))])])])) xo43 xo45 Q))))
 (L7_11 n  m0 x6 x47 x48 (D.int (IntKind.wrap .i64 ((D.i x49) + (1 : Int)))) xo4 xo8 xo11 xo43 xo45 Q)))
 (L7_11 n  m0 x6 x47 x48 (D.int (IntKind.wrap .i64 ((D.i x49) + (1 : Int)))) xo4 xo8 xo11 xo43 xo45 Q))))
 (wpF Tryz.prog A n 27 [xo43, (D.int (0 : Int)), (D.int (0 : Int)), xo45, xo11] fun r8 =>
 (True ∧ (wpF Tryz.prog A n 28 [xo8, (D.agg [(D.fld (rs r8 0) 4), x6])] fun r9 =>
 (cond (!(iEq (D.i (rs r9 0)) (0 : Int)))
 (True ∧ (Q [(D.agg [(D.slc ([] : List D)), (D.int (0 : Int))]), (D.int (37 : Int))]))
 (True ∧ (Q [(D.agg [(D.fld (rs r8 0) 4), x6]), (D.int (0 : Int))]))))))) := by kernel_rfl
theorem E7 (n : Nat) (d0 d1 : D) (Q : List D → Prop) : wpF Tryz.prog A (n + 1) 7 [d0, d1] Q =
 (wpF Tryz.prog A n 5 [d0, d1] fun r1 =>
 (cond (!(iEq (D.i (rs r1 1)) (0 : Int)))
 (True ∧ (Q [(D.agg [(D.slc ([] : List D)), (D.int (0 : Int))]), (rs r1 1)]))
 (wpF Tryz.prog A n 6 [d0, d1] fun r2 =>
 (True ∧ (cond (!(iEq (D.i (rs r2 1)) (0 : Int)))
 (True ∧ (Q [(D.agg [(D.slc ([] : List D)), (D.int (0 : Int))]), (rs r2 1)]))
 (wpF Tryz.prog A n 13 [d0] fun r3 =>
 (wpF Tryz.prog A n 22 [d0] fun r4 =>
 (L7_11 n  n (rs r1 0) (D.fld d0 5) (D.int (D.len (D.fld d0 5))) (D.int (0 : Int)) (D.agg [(D.slc ([] : List D)), (D.int (0 : Int))]) (rs r2 0) (D.slc ([] : List D)) (D.agg [d0, d1, (rs r2 0), (rs r3 0), (D.slc ([] : List D))]) (rs r4 0) Q)))))))) := by kernel_rfl
attribute [irreducible] L7_11

/- timebound/timeboundref33.Value -/
def L8_4 (n m0 : Nat) (x1 : D) (x21 : D) (x22 : D) (x23 : D) (xo2 : D) (Q : List D → Prop) : Prop :=
 loopK (wpC Tryz.prog A (hnd Tryz.prog A n) 8 n (cA (cA (cB (cA (cB (cB (bodyOf Tryz.f8)))))))) (nmK Tryz.prog (A.loop 8 4)) m0 { sl := [(1, .imm 31 x1), (2, .ptr 2 [] 46), (21, .imm 31 x21), (22, .imm 3 x22), (23, .imm 3 x23)], ob := [(2, some ⟨true, 46, .imm, xo2⟩)] } (kBlock 0 (kSeq (wpC Tryz.prog A (hnd Tryz.prog A n) 8 n (cB (cB (cB (bodyOf Tryz.f8))))) (kEnd Tryz.prog Tryz.f8 (A.sig 8) Q)))
def L8_10 (n m0 : Nat) (x1 : D) (x35 : D) (x36 : D) (x37 : D) (xo2 : D) (Q : List D → Prop) : Prop :=
 loopK (wpC Tryz.prog A (hnd Tryz.prog A n) 8 n (cA (cA (cB (cA (cB (cB (cB (bodyOf Tryz.f8))))))))) (nmK Tryz.prog (A.loop 8 10)) m0 { sl := [(1, .imm 31 x1), (2, .ptr 2 [] 46), (35, .imm 43 x35), (36, .imm 3 x36), (37, .imm 3 x37)], ob := [(2, some ⟨true, 46, .imm, xo2⟩)] } (kBlock 2 (kSeq (wpC Tryz.prog A (hnd Tryz.prog A n) 8 n (cB (cB (cB (cB (bodyOf Tryz.f8)))))) (kEnd Tryz.prog Tryz.f8 (A.sig 8) Q)))
def L8_14 (n m0 m1 : Nat) (x1 : D) (x10 : D) (x35 : D) (x36 : D) (x37 : D) (x42 : D) (x43 : D) (x44 : D) (xo2 : D) (xo9 : D) (Q : List D → Prop) : Prop :=
 loopK (wpC Tryz.prog A (hnd Tryz.prog A n) 8 n (cA (cA (cB (cA (cB (cB (cA (cA (cB (cB (cA (cA (cB (cA (cB (cB (cB (bodyOf Tryz.f8))))))))))))))))))) (nmK Tryz.prog (A.loop 8 14)) m1 { sl := [(1, .imm 31 x1), (2, .ptr 2 [] 46), (9, .ptr 9 [] 71), (10, .imm 3 x10), (35, .imm 43 x35), (36, .imm 3 x36), (37, .imm 3 x37), (42, .imm 44 x42), (43, .imm 3 x43), (44, .imm 3 x44)], ob := [(2, some ⟨true, 46, .imm, xo2⟩), (9, some ⟨true, 71, .imm, xo9⟩)] } (kBlock 4 (kSeq (wpC Tryz.prog A (hnd Tryz.prog A n) 8 n (cB (cB (cB (cA (cA (cB (cB (cA (cA (cB (cA (cB (cB (cB (bodyOf Tryz.f8)))))))))))))))) (kBlock 3 (kSeq (wpC Tryz.prog A (hnd Tryz.prog A n) 8 n (cB (cB (cB (cA (cA (cB (cA (cB (cB (cB (bodyOf Tryz.f8)))))))))))) (kLoop (nmK Tryz.prog (A.loop 8 10)) (fun g => loopK (wpC Tryz.prog A (hnd Tryz.prog A n) 8 n (cA (cA (cB (cA (cB (cB (cB (bodyOf Tryz.f8))))))))) (nmK Tryz.prog (A.loop 8 10)) m0 g (kBlock 2 (kSeq (wpC Tryz.prog A (hnd Tryz.prog A n) 8 n (cB (cB (cB (cB (bodyOf Tryz.f8)))))) (kEnd Tryz.prog Tryz.f8 (A.sig 8) Q)))) (kBlock 2 (kSeq (wpC Tryz.prog A (hnd Tryz.prog A n) 8 n (cB (cB (cB (cB (bodyOf Tryz.f8)))))) (kEnd Tryz.prog Tryz.f8 (A.sig 8) Q))))))))
def L8_23 (n m0 : Nat) (x1 : D) (x13 : D) (x67 : D) (x68 : D) (x69 : D) (Q : List D → Prop) : Prop :=
 loopK (wpC Tryz.prog A (hnd Tryz.prog A n) 8 n (cA (cA (cB (cA (cB (cB (cB (cB (cB (bodyOf Tryz.f8))))))))))) (nmK Tryz.prog (A.loop 8 23)) m0 { sl := [(1, .imm 31 x1), (13, .imm 3 x13), (67, .imm 44 x67), (68, .imm 3 x68), (69, .imm 3 x69)], ob := [] } (kBlock 6 (kSeq (wpC Tryz.prog A (hnd Tryz.prog A n) 8 n (cB (cB (cB (cB (cB (cB (bodyOf Tryz.f8)))))))) (kEnd Tryz.prog Tryz.f8 (A.sig 8) Q)))
theorem L8_4_eq (n m0 : Nat) (x1 : D) (x21 : D) (x22 : D) (x23 : D) (xo2 : D) (Q : List D → Prop) : L8_4 n (m0 + 1) x1 x21 x22 x23 xo2 Q =
 (cond (iLt (D.i x23) (D.i x22))
 ((0 ≤ (D.i x23) ∧ (D.i x23) < (D.len x21)) ∧ (cond (iLt (D.i (D.el x21 (D.i x23))) (0 : Int))
 (Q [(D.int (0 : Int)), (D.bool false)])
 (cond (iLt (1048576 : Int) (D.i (D.el x21 (D.i x23))))
 (Q [(D.int (0 : Int)), (D.bool false)])
 (L8_4 n  m0 x1 x21 x22 (D.int (IntKind.wrap .i64 ((D.i x23) + (1 : Int)))) xo2 Q))))
 (L8_10 n  n x1 (D.fld xo2 1) (D.int (D.len (D.fld xo2 1))) (D.int (0 : Int)) xo2 Q)) := by kernel_rfl
theorem L8_10_eq (n m0 : Nat) (x1 : D) (x35 : D) (x36 : D) (x37 : D) (xo2 : D) (Q : List D → Prop) : L8_10 n (m0 + 1) x1 x35 x36 x37 xo2 Q =
 (cond (iLt (D.i x37) (D.i x36))
 ((0 ≤ (D.i x37) ∧ (D.i x37) < (D.len x35)) ∧ (True ∧ (L8_14 n m0 n x1 (D.int (0 : Int)) x35 x36 x37 (D.fld (D.el x35 (D.i x37)) 0) (D.int (D.len (D.fld (D.el x35 (D.i x37)) 0))) (D.int (0 : Int)) xo2 (D.el x35 (D.i x37)) Q)))
 (L8_23 n  n x1 (D.fld xo2 3) (D.fld xo2 2) (D.int (D.len (D.fld xo2 2))) (D.int (0 : Int)) Q)) := by kernel_rfl
theorem L8_14_eq (n m0 m1 : Nat) (x1 : D) (x10 : D) (x35 : D) (x36 : D) (x37 : D) (x42 : D) (x43 : D) (x44 : D) (xo2 : D) (xo9 : D) (Q : List D → Prop) : L8_14 n m0 (m1 + 1) x1 x10 x35 x36 x37 x42 x43 x44 xo2 xo9 Q =
 (cond (iLt (D.i x44) (D.i x43))
 ((0 ≤ (D.i x44) ∧ (D.i x44) < (D.len x42)) ∧ (True ∧ ((0 ≤ (D.i (D.fld (D.el x42 (D.i x44)) 0)) ∧ (D.i (D.fld (D.el x42 (D.i x44)) 0)) < (D.len x1)) ∧ (L8_14 n m0 m1 x1 (D.int (IntKind.wrap .i64 ((D.i x10) + (IntKind.wrap .i64 ((D.i (D.fld (D.el x42 (D.i x44)) 1)) * (D.i (D.el x1 (D.i (D.fld (D.el x42 (D.i x44)) 0))))))))) x35 x36 x37 x42 x43 (D.int (IntKind.wrap .i64 ((D.i x44) + (1 : Int)))) xo2 xo9 Q))))
 (cond (iLt (D.i (D.fld xo9 1)) (D.i x10))
 (Q [(D.int (0 : Int)), (D.bool false)])
 (L8_10 n  m0 x1 x35 x36 (D.int (IntKind.wrap .i64 ((D.i x37) + (1 : Int)))) xo2 Q))) := by kernel_rfl
theorem L8_23_eq (n m0 : Nat) (x1 : D) (x13 : D) (x67 : D) (x68 : D) (x69 : D) (Q : List D → Prop) : L8_23 n (m0 + 1) x1 x13 x67 x68 x69 Q =
 (cond (iLt (D.i x69) (D.i x68))
 ((0 ≤ (D.i x69) ∧ (D.i x69) < (D.len x67)) ∧ (True ∧ ((0 ≤ (D.i (D.fld (D.el x67 (D.i x69)) 0)) ∧ (D.i (D.fld (D.el x67 (D.i x69)) 0)) < (D.len x1)) ∧ (L8_23 n  m0 x1 (D.int (IntKind.wrap .i64 ((D.i x13) + (IntKind.wrap .i64 ((D.i (D.fld (D.el x67 (D.i x69)) 1)) * (D.i (D.el x1 (D.i (D.fld (D.el x67 (D.i x69)) 0))))))))) x67 x68 (D.int (IntKind.wrap .i64 ((D.i x69) + (1 : Int)))) Q))))
 (Q [x13, (D.bool true)])) := by kernel_rfl
theorem E8 (n : Nat) (d0 d1 : D) (Q : List D → Prop) : wpF Tryz.prog A (n + 1) 8 [d0, d1] Q =
 (cond (!(iEq (D.len d1) (D.i (D.fld d0 0))))
 (Q [(D.int (0 : Int)), (D.bool false)])
 (L8_4 n  n d1 d1 (D.int (D.len d1)) (D.int (0 : Int)) d0 Q)) := by kernel_rfl
attribute [irreducible] L8_4 L8_10 L8_14 L8_23

/- timebound/timeboundlaw35.PathEmpty -/
def L3_7 (n m0 : Nat) (x0 : D) (x5 : D) (x22 : D) (x23 : D) (x24 : D) (xo3 : D) (xo4 : D) (Q : List D → Prop) : Prop :=
 loopK (wpC Tryz.prog A (hnd Tryz.prog A n) 3 n (cA (cA (cB (cA (cB (cB (cB (cB (cB (bodyOf Tryz.f3))))))))))) (nmK Tryz.prog (A.loop 3 7)) m0 { sl := [(0, .imm 22 x0), (3, .ptr 3 [] 34), (4, .ptr 4 [] 36), (5, .imm 3 x5), (22, .imm 22 x22), (23, .imm 3 x23), (24, .imm 3 x24)], ob := [(3, some ⟨true, 34, (.agg [(1, (.slc (.agg [(2, (.slc .imm none))]) none)), (2, (.slc (.agg [(2, (.slc .imm none))]) none)), (3, (.slc (.agg [(1, (.slc .imm none))]) none)), (4, (.slc (.slc .imm none) none)), (5, (.slc (.agg [(0, (.slc .imm none))]) none)), (6, (.slc .imm none)), (7, (.slc .imm none)), (8, (.slc .imm none)), (9, (.slc .imm none))]), xo3⟩), (4, some ⟨true, 36, (.agg [(0, (.slc (.slc .imm none) none)), (1, (.slc .imm none))]), xo4⟩)] } (kBlock 0 (kSeq (wpC Tryz.prog A (hnd Tryz.prog A n) 3 n (cB (cB (cB (cB (cB (cB (bodyOf Tryz.f3)))))))) (kEnd Tryz.prog Tryz.f3 (A.sig 3) Q)))
def L3_20 (n m0 : Nat) (x5 : D) (x8 : D) (x9 : D) (x11 : D) (x13 : D) (x85 : D) (x86 : D) (xo10 : D) (xo12 : D) (xo83 : D) (Q : List D → Prop) : Prop :=
 loopK (wpC Tryz.prog A (hnd Tryz.prog A n) 3 n (cA (cA (cB (cA (cB (cB (cB (cB (cB (cB (cB (cB (cB (cB (cB (cB (bodyOf Tryz.f3)))))))))))))))))) (nmK Tryz.prog (A.loop 3 20)) m0 { sl := [(5, .imm 3 x5), (8, .imm 3 x8), (9, .imm 40 x9), (10, .ptr 10 [] 46), (11, .imm 40 x11), (12, .ptr 12 [] 51), (13, .imm 40 x13), (14, .val 83 [] 31), (85, .imm 3 x85), (86, .imm 3 x86)], ob := [(10, some ⟨true, 46, .imm, xo10⟩), (12, some ⟨true, 51, .imm, xo12⟩), (83, some ⟨false, 31, (.slc .imm none), xo83⟩)] } (kBlock 2 (kSeq (wpC Tryz.prog A (hnd Tryz.prog A n) 3 n (cB (cB (cB (cB (cB (cB (cB (cB (cB (cB (cB (cB (cB (bodyOf Tryz.f3))))))))))))))) (kEnd Tryz.prog Tryz.f3 (A.sig 3) Q)))
theorem L3_7_eq (n m0 : Nat) (x0 : D) (x5 : D) (x22 : D) (x23 : D) (x24 : D) (xo3 : D) (xo4 : D) (Q : List D → Prop) : L3_7 n (m0 + 1) x0 x5 x22 x23 x24 xo3 xo4 Q =
 (cond (iLt (D.i x24) (D.i x23))
 ((0 ≤ (D.i x24) ∧ (D.i x24) < (D.len x22)) ∧ (room (((List.length (D.xs (D.fld xo3 1)) : Nat) : Int) + ((List.length [(D.agg [(D.int (0 : Int)), (D.int (0 : Int)), (D.slc [(D.int (IntKind.wrap .i64 ((D.i x24) + (1 : Int))))]), (D.slc ([] : List D))])] : Nat) : Int)) 64 ∧ (True ∧ (room (((List.length (D.xs (D.fld xo4 0)) : Nat) : Int) + ((List.length [(D.slc [(D.int (IntKind.wrap .i64 (D.i (D.el x22 (D.i x24)))))])] : Nat) : Int)) 24 ∧ (True ∧ (L3_7 n  m0 x0 (D.int (IntKind.wrap .i64 ((D.i x5) + (IntKind.wrap .i64 (D.i (D.el x22 (D.i x24))))))) x22 x23 (D.int (IntKind.wrap .i64 ((D.i x24) + (1 : Int)))) (D.agg [(D.fld xo3 0), (D.slc ((D.xs (D.fld xo3 1)) ++ [(D.agg [(D.int (0 : Int)), (D.int (0 : Int)), (D.slc [(D.int (IntKind.wrap .i64 ((D.i x24) + (1 : Int))))]), (D.slc ([] : List D))])])), (D.fld xo3 2), (D.fld xo3 3), (D.fld xo3 4), (D.fld xo3 5), (D.fld xo3 6), (D.fld xo3 7), (D.fld xo3 8), (D.fld xo3 9)]) (D.agg [(D.slc ((D.xs (D.fld xo4 0)) ++ [(D.slc [(D.int (IntKind.wrap .i64 (D.i (D.el x22 (D.i x24)))))])])), (D.fld xo4 1)]) Q))))))
 (room (((List.length (D.xs (D.fld xo3 1)) : Nat) : Int) + ((List.length [(D.agg [(D.int (0 : Int)), (D.int (0 : Int)), (D.slc ([] : List D)), (D.slc ([] : List D))])] : Nat) : Int)) 64 ∧ (True ∧ (room (((List.length (D.xs (D.fld xo4 0)) : Nat) : Int) + ((List.length [(D.slc [(D.int (5 : Int))])] : Nat) : Int)) 24 ∧ (True ∧ (wpF Tryz.prog A n 5 [(D.agg [(D.fld xo3 0), (D.slc ((D.xs (D.fld xo3 1)) ++ [(D.agg [(D.int (0 : Int)), (D.int (0 : Int)), (D.slc ([] : List D)), (D.slc ([] : List D))])])), (D.fld xo3 2), (D.fld xo3 3), (D.fld xo3 4), (D.fld xo3 5), (D.fld xo3 6), (D.fld xo3 7), (D.fld xo3 8), (D.fld xo3 9)]), (D.agg [(D.slc ((D.xs (D.fld xo4 0)) ++ [(D.slc [(D.int (5 : Int))])])), (D.fld xo4 1)])] fun r2 =>
 (wpF Tryz.prog A n 6 [(D.agg [(D.fld xo3 0), (D.slc ((D.xs (D.fld xo3 1)) ++ [(D.agg [(D.int (0 : Int)), (D.int (0 : Int)), (D.slc ([] : List D)), (D.slc ([] : List D))])])), (D.fld xo3 2), (D.fld xo3 3), (D.fld xo3 4), (D.fld xo3 5), (D.fld xo3 6), (D.fld xo3 7), (D.fld xo3 8), (D.fld xo3 9)]), (D.agg [(D.slc ((D.xs (D.fld xo4 0)) ++ [(D.slc [(D.int (5 : Int))])])), (D.fld xo4 1)])] fun r3 =>
 (True ∧ (wpF Tryz.prog A n 7 [(D.agg [(D.fld xo3 0), (D.slc ((D.xs (D.fld xo3 1)) ++ [(D.agg [(D.int (0 : Int)), (D.int (0 : Int)), (D.slc ([] : List D)), (D.slc ([] : List D))])])), (D.fld xo3 2), (D.fld xo3 3), (D.fld xo3 4), (D.fld xo3 5), (D.fld xo3 6), (D.fld xo3 7), (D.fld xo3 8), (D.fld xo3 9)]), (D.agg [(D.slc ((D.xs (D.fld xo4 0)) ++ [(D.slc [(D.int (5 : Int))])])), (D.fld xo4 1)])] fun r4 =>
 (True ∧ ((0 ≤ (D.len x0) ∧ (D.len x0) ≤ (D.len x0) ∧ room (D.len x0) 8) ∧ (L3_20 n  n x5 (rs r2 0) (rs r2 1) (rs r3 1) (rs r4 1) (D.int (D.len (D.slc (List.replicate (Int.toNat (D.len x0)) (D.int (0 : Int)))))) (D.int (0 : Int)) (rs r3 0) (rs r4 0) (D.slc (List.replicate (Int.toNat (D.len x0)) (D.int (0 : Int)))) Q)))))))))))) := by kernel_rfl
theorem L3_20_eq (n m0 : Nat) (x5 : D) (x8 : D) (x9 : D) (x11 : D) (x13 : D) (x85 : D) (x86 : D) (xo10 : D) (xo12 : D) (xo83 : D) (Q : List D → Prop) : L3_20 n (m0 + 1) x5 x8 x9 x11 x13 x85 x86 xo10 xo12 xo83 Q =
 (cond (iLt (D.i x86) (D.i x85))
 ((0 ≤ (D.i x86) ∧ (D.i x86) < (D.len xo83)) ∧ (True ∧ (L3_20 n  m0 x5 x8 x9 x11 x13 x85 (D.int (IntKind.wrap .i64 ((D.i x86) + (1 : Int)))) xo10 xo12 (D.slc (List.set (D.xs xo83) (Int.toNat (D.i x86)) (D.int (1 : Int)))) Q)))
 (wpF Tryz.prog A n 8 [xo10, xo83] fun r5 =>
 (cond (iEq (D.i x9) (0 : Int))
 (cond (iEq (D.i x11) (0 : Int))
 (cond (iEq (D.i x13) (0 : Int))
 (cond (iEq (D.i x8) (IntKind.wrap .i64 ((D.i x5) + (5 : Int))))
 (cond (D.b (rs r5 1))
 (cond (iEq (D.i (rs r5 0)) (D.i x8))
 (cond (iEq (D.i (D.fld xo12 1)) (D.i x8))
 (wpF Tryz.prog A n 9 [xo10, xo12] fun r6 =>
 (cond (iEq (D.i (rs r6 0)) (0 : Int))
 (wpF Tryz.prog A n 4 [] fun r7 =>
 (Q [(rs r7 0)]))
 (Q [(D.bool false)])))
 (Q [(D.bool false)]))
 (Q [(D.bool false)]))
 (Q [(D.bool false)]))
 (Q [(D.bool false)]))
 (Q [(D.bool false)]))
 (Q [(D.bool false)]))
 (Q [(D.bool false)])))) := by kernel_rfl
theorem E3 (n : Nat) (d0 : D) (Q : List D → Prop) : wpF Tryz.prog A (n + 1) 3 [d0] Q =
 (cond (iLt (40 : Int) (D.len d0))
 (wpF Tryz.prog A n 4 [] fun r1 =>
 (Q [(rs r1 0)]))
 (L3_7 n  n d0 (D.int (0 : Int)) d0 (D.int (D.len d0)) (D.int (0 : Int)) (D.agg [(D.str ByteArray.empty), (D.slc ([] : List D)), (D.slc ([] : List D)), (D.slc ([] : List D)), (D.slc ([] : List D)), (D.slc ([] : List D)), (D.slc ([] : List D)), (D.slc ([] : List D)), (D.slc ([] : List D)), (D.slc ([] : List D))]) (D.agg [(D.slc ([] : List D)), (D.slc ([] : List D))]) Q)) := by kernel_rfl
attribute [irreducible] L3_7 L3_20
end Go.Ab

/- Units that are chains: all nodes are reached, the last one is the end, the unit is looped, and its costs are valid. -/
namespace Go.Ab
open Go.Proofs
attribute [local irreducible] wpF
set_option maxRecDepth 100000

/-- A LOOP whose state is known ahead. -/
theorem up_loop {L : Nat → Nat → Prop} {N : Nat} (step : ∀ m k, k < N → L m (k + 1) → L (m + 1) k) (fin : ∀ m, L (m + 1) N) : ∀ m k, k ≤ N → N - k < m → L m k := by
 intro m
 induction m with
 | zero => intro k _ h; omega
 | succ m ih =>
  intro k h1 h2
  by_cases hk : k = N
  ·subst hk
   exact fin m
  ·exact step m k (by omega) (ih (k + 1) (by omega) (by omega))
theorem wr1 {k : Nat} (h : k ≤ 4000000000) : IntKind.wrap .i64 ((k : Int) + 1) = ((k + 1 : Nat) : Int) := wrap_id (by omega) (by omega)

/-- Costs of a chain. -/
def costL (ws : List Int) (e : Int) : List D := ws.map (fun w => .slc [.int w]) ++ [.slc [.int e]]
def chC (ws : List Int) (e : Int) : D := .agg [.slc (costL ws e), .slc []]
/-- Small numbers. -/
structure Ws (ws : List Int) (e : Int) : Prop where
 len : ws.length ≤ 40
 w : ∀ i, i < ws.length → 0 ≤ ws.getD i 0 ∧ ws.getD i 0 ≤ 255
 e : 0 ≤ e ∧ e ≤ 255

def nxt (n i : Nat) : List D := if i < n then [.int ((i : Int) + 1)] else []
theorem nodes_len (n : Nat) : (nodesC n).length = n + 1 := by simp [nodesC]
theorem node_at {n i : Nat} (h : i ≤ n) : D.fld (D.el (.slc (nodesC n)) (i : Int)) 2 = .slc (nxt n i) := by
 simp only [D.el, D.xs, toNat_nat, nxt]
 by_cases hlt : i < n
 ·rw [if_pos hlt]
  simp [nodesC, List.getD_eq_getElem?_getD, List.getElem?_append_left, hlt, nodeC, D.fld, D.fs]
 ·have : i = n := by omega
  subst this
  rw [if_neg hlt]
  simp [nodesC, List.getD_eq_getElem?_getD, nodeE, D.fld, D.fs]
theorem u1 (n : Nat) : D.fld (chU n) 1 = .slc (nodesC n) := rfl
theorem u2 (n : Nat) : D.fld (chU n) 2 = .slc [] := rfl
theorem u5 (n : Nat) : D.fld (chU n) 5 = .slc [] := rfl
theorem u6 (n : Nat) : D.fld (chU n) 6 = .slc [] := rfl
theorem nlen (n : Nat) : D.len (.slc (nodesC n)) = ((n + 1 : Nat) : Int) := by rw [len_slc, nodes_len]
theorem c0 (ws : List Int) (e : Int) : D.fld (chC ws e) 0 = .slc (costL ws e) := rfl
theorem c1 (ws : List Int) (e : Int) : D.fld (chC ws e) 1 = .slc [] := rfl
theorem clen (ws : List Int) (e : Int) : D.len (.slc (costL ws e)) = ((ws.length + 1 : Nat) : Int) := by simp [len_slc, costL]
theorem cost_at {ws : List Int} {e : Int} {i : Nat} (h : i ≤ ws.length) : D.el (.slc (costL ws e)) (i : Int) = .slc [.int ((ws ++ [e]).getD i 0)] := by
 simp only [D.el, D.xs, toNat_nat, costL]
 by_cases hlt : i < ws.length
 ·simp [List.getD_eq_getElem?_getD, List.getElem?_append_left, hlt]
 ·have : i = ws.length := by omega
  subst this
  simp [List.getD_eq_getElem?_getD]
theorem ws_get {ws : List Int} {e : Int} {i : Nat} (h : i < ws.length) : (ws ++ [e]).getD i 0 = ws.getD i 0 := by
 simp [List.getD_eq_getElem?_getD, List.getElem?_append_left, h]
theorem ws_last {ws : List Int} {e : Int} : (ws ++ [e]).getD ws.length 0 = e := by
 simp [List.getD_eq_getElem?_getD]
theorem ws_rng {ws : List Int} {e : Int} (h : Ws ws e) (i : Nat) : 0 ≤ (ws ++ [e]).getD i 0 ∧ (ws ++ [e]).getD i 0 ≤ 255 := by
 by_cases h1 : i < ws.length
 ·rw [ws_get h1]; exact h.w i h1
 ·by_cases h2 : i = ws.length
  ·subst h2; rw [ws_last]; exact h.e
  ·rw [List.getD_eq_getElem?_getD, List.getElem?_eq_none (by simp; omega)]; simp

section
variable {n : Nat} {Q : List D → Prop}

/-- Nothing is found. -/
theorem has_none {xs : List D} {g : D} (hl : xs.length ≤ 1000) (hn : 2000 ≤ n) (hp : ∀ i, i < xs.length → ∀ q, 100 ≤ q → ∀ Q : List D → Prop, Q [.bool false] → dynH A (wpF Tryz.prog A q) g [.imm 3] [.val 4 .imm] [D.el (.slc xs) (i : Int)] Q) (h : Q [.bool false]) : wpF Tryz.prog A n 38 [.slc xs, g] Q := by
 obtain ⟨m, rfl⟩ : ∃ m, n = m + 2 := ⟨n - 2, by omega⟩
 rw [E38, E72]
 refine found_loop (m := m) (p := fun _ => false) (N := xs.length) (call := fun g x Q => dynH A (wpF Tryz.prog A m) g [.imm 3] [.val 4 .imm] [x] Q) (fun m0 x0 x1 x7 x8 Q => L72_2_eq m m0 x0 x1 x7 x8 Q) (len_slc _) (by omega) (fun i hi Q hQ => hp i hi m (by omega) Q hQ) (by omega) ?_
 rw [anyB_false fun _ _ => rfl]
 exact h

def kn (n i : Nat) : D := .slc (List.replicate (i + 1) (.bool true) ++ List.replicate (n - i) (.bool false))
theorem kn_len {n i : Nat} (h : i ≤ n) : D.len (kn n i) = ((n + 1 : Nat) : Int) := by
 rw [kn, len_slc]; simp; omega
theorem kn_next {n i : Nat} (h : i < n) : (D.xs (kn n i)).getD (i + 1) .und = .bool false := by
 simp only [kn, D.xs, List.getD_eq_getElem?_getD]
 rw [List.getElem?_append_right (by simp)]
 simp [show 0 < n - i by omega]
theorem kn_set {n i : Nat} (h : i < n) : D.slc ((D.xs (kn n i)).set (i + 1) (.bool true)) = kn n (i + 1) := by
 have e2 : List.replicate (n - i) (D.bool false) = D.bool false :: List.replicate (n - (i + 1)) (.bool false) := by
  rw [show n - i = (n - (i + 1)) + 1 by omega]
  rfl
 have e3 : List.replicate (i + 1 + 1) (D.bool true) = List.replicate (i + 1) (D.bool true) ++ [.bool true] := List.replicate_succ'
 unfold kn
 simp only [D.xs]
 rw [List.set_append_right _ _ (by simp), e2, e3]
 simp
theorem kn_last {n : Nat} : kn n n = trues (n + 1) := by simp [kn, trues]
theorem tr_len (n : Nat) : D.len (trues n) = (n : Int) := by simp [trues, len_slc]
theorem tr_get {n i : Nat} (h : i < n) : (D.xs (trues n)).getD i .und = .bool true := by simp [trues, D.xs, List.getD_eq_getElem?_getD, h]

theorem reached_wp {N : Nat} (hN : N ≤ 40) (hn : 3000 ≤ n) (h : Q [trues (N + 1)]) : wpF Tryz.prog A n 15 [chU N] Q := by
 obtain ⟨p, rfl⟩ : ∃ p, n = p + 1 := ⟨n - 1, by omega⟩
 rw [E15, u1, nlen, toNat_nat]
 refine ⟨⟨by omega, by omega, by unfold room; omega⟩, ?_⟩
 have walk : ∀ m i, i ≤ N → N - i + 1 < m → L15_12 p m (chU N) (kn N i) (.slc [.int (i : Int)]) Q := by
  intro m
  induction m with
  | zero => intro i _ h; omega
  | succ m ih =>
   intro i hi hm
   rw [L15_12_eq]
   refine cLt (fun _ => ⟨⟨by omega, by show (0 : Int) < 1; omega⟩, ⟨by omega, by show (1 : Int) ≤ 1; omega, by omega⟩, ?_⟩) fun c => absurd (show (0 : Int) < 1 by omega) c
   have e0 : (List.getD (D.xs (.slc [.int (i : Int)])) (Int.toNat 0) D.und) = .int (i : Int) := rfl
   have e1 : D.slc (List.drop (Int.toNat (1 : Int)) (List.take (Int.toNat (D.len (.slc [.int (i : Int)]))) (D.xs (.slc [.int (i : Int)])))) = .slc [] := rfl
   rw [e0, e1, u1, nlen, i_int]
   refine ⟨⟨by omega, by omega⟩, ?_⟩
   rw [node_at hi]
   obtain ⟨q, rfl⟩ : ∃ q, p = q + 2 := ⟨p - 2, by omega⟩
   rw [L15_16_eq]
   simp only [i_int, len_slc, nxt]
   by_cases hlt : i < N
   ·rw [if_pos hlt]
    refine cLt (fun _ => ⟨⟨by omega, by simp⟩, ?_⟩) fun c => absurd (show (0 : Int) < 1 by omega) c
    have e2 : D.el (.slc [.int ((i : Int) + 1)]) 0 = .int ((i : Int) + 1) := rfl
    rw [e2, i_int, kn_len hi, show ((i : Int) + 1) = ((i + 1 : Nat) : Int) by omega, toNat_nat, kn_next hlt, kn_set hlt]
    refine ⟨⟨by omega, by omega⟩, cNot (fun _ => ⟨⟨by omega, by omega⟩, trivial, by unfold room; simp [D.xs], ?_⟩) fun c => by cases c⟩
    rw [L15_16_eq]
    have e3 : D.slc (D.xs (.slc []) ++ [.int ((i + 1 : Nat) : Int)]) = .slc [.int ((i + 1 : Nat) : Int)] := rfl
    have e4 : IntKind.wrap .i64 ((0 : Int) + 1) = 1 := rfl
    simp only [i_int, e3, e4]
    refine cLt (fun c => absurd c (by simp)) fun _ => ?_
    exact ih (i + 1) (by omega) (by omega)
   ·have : i = N := by omega
    subst this
    rw [if_neg hlt]
    refine cLt (fun c => absurd c (by simp)) fun _ => ?_
    obtain ⟨r, rfl⟩ : ∃ r, m = r + 1 := ⟨m - 1, by omega⟩
    rw [L15_12_eq]
    refine cLt (fun c => absurd c (by simp [len_slc])) fun _ => ?_
    rw [kn_last]
    exact h
 refine up_loop (L := fun m k => L15_3 p m (.slc (nodesC N)) (.int ((N + 1 : Nat) : Int)) (.int (k : Int)) (chU N) (.slc (List.replicate (N + 1) (.bool false))) Q) (N := N + 1) (fun m k hk hL => ?_) (fun m => ?_) p 0 (by omega) (by omega)
 ·rw [L15_3_eq]
  simp only [i_int]
  refine cLt (fun _ => ⟨⟨by omega, by rw [nlen]; omega⟩, trivial, ?_⟩) fun c => by omega
  rw [node_at (by omega)]
  refine has_none (by unfold nxt; split <;> simp) (by omega) (fun i hi q hq Q hQ => ⟨⟨rfl, rfl, rfl, rfl⟩, ?_⟩) ?_
  ·show wpF Tryz.prog A q 39 [D.el (.slc (nxt N k)) (i : Int), chU N] Q
   obtain ⟨q, rfl⟩ : ∃ r, q = r + 1 := ⟨q - 1, by omega⟩
   have hlt : k < N := by
    apply Classical.byContradiction
    intro hn
    simp [nxt, hn] at hi
   have hi0 : i = 0 := by simp [nxt, hlt] at hi; exact hi
   subst hi0
   have e : D.el (.slc (nxt N k)) ((0 : Nat) : Int) = .int ((k : Int) + 1) := by unfold nxt; rw [if_pos hlt]; rfl
   rw [e, E39, u1, nlen]
   simp only [i_int]
   refine cLt (fun c => by omega) fun _ => ?_
   rw [iLe_not.mpr (by omega)]
   exact hQ
  ·rw [rs0, b_bool, cond_false, wr1 (by omega)]
   exact hL
 ·rw [L15_3_eq]
  simp only [i_int]
  refine cLt (fun c => by omega) fun _ => ?_
  have el : D.len (.slc (List.replicate (N + 1) (.bool false))) = ((N + 1 : Nat) : Int) := by rw [len_slc, List.length_replicate]
  rw [el]
  refine cEq (fun c => by omega) fun _ => ⟨⟨by omega, by omega⟩, trivial, ?_⟩
  have ek : D.slc (List.set (D.xs (.slc (List.replicate (N + 1) (.bool false)))) (Int.toNat (0 : Int)) (.bool true)) = kn N 0 := by
   simp [D.xs, kn, List.replicate_succ]
  rw [ek]
  exact walk p 0 (by omega) (by omega)

theorem end_wp {N : Nat} (hN : N ≤ 40) (hn : 3100 ≤ n) (h : Q [.int (N : Int)]) : wpF Tryz.prog A n 14 [chU N] Q := by
 obtain ⟨p, rfl⟩ : ∃ p, n = p + 1 := ⟨n - 1, by omega⟩
 rw [E14]
 refine reached_wp hN (by omega) ?_
 rw [rs0, tr_len]
 refine up_loop (L := fun m k => L14_3 p m (.int (if k ≤ N then -1 else (N : Int))) (.int ((N + 1 : Nat) : Int)) (.int (k : Int)) (chU N) (trues (N + 1)) Q) (N := N + 1) (fun m k hk hL => ?_) (fun m => ?_) p 0 (by omega) (by omega)
 ·rw [L14_3_eq]
  simp only [i_int]
  refine cLt (fun _ => ⟨⟨by omega, by rw [tr_len]; omega⟩, ?_⟩) fun c => by omega
  rw [toNat_nat, tr_get hk]
  refine cNot (fun c => by cases c) fun _ => ?_
  rw [u1, nlen, node_at (by omega), wr1 (by omega), if_pos (show k ≤ N by omega)]
  refine ⟨⟨by omega, by omega⟩, ?_⟩
  rw [len_slc]
  by_cases hlt : k < N
  ·rw [if_pos (by omega)] at hL
   refine cLt (fun _ => hL) fun c => absurd (show (0 : Int) < ((nxt N k).length : Nat) by simp [nxt, hlt]) c
  ·have : k = N := by omega
   subst this
   rw [if_neg (by omega)] at hL
   refine cLt (fun c => absurd c (by simp [nxt])) fun _ => cLe (fun c => absurd c (by omega)) fun _ => hL
 ·rw [L14_3_eq]
  simp only [i_int]
  refine cLt (fun c => by omega) fun _ => ?_
  rw [if_neg (by omega)]
  exact h

theorem looped_wp {N : Nat} (hN : N ≤ 40) (hn : 3300 ≤ n) (h : Q [.bool true]) : wpF Tryz.prog A n 33 [chU N] Q := by
 obtain ⟨p, rfl⟩ : ∃ p, n = p + 1 := ⟨n - 1, by omega⟩
 rw [E33, u1, nlen]
 refine up_loop (L := fun m k => L33_2 p m (.slc (nodesC N)) (.int ((N + 1 : Nat) : Int)) (.int (k : Int)) (chU N) Q) (N := N + 1) (fun m k hk hL => ?_) (fun m => ?_) p 0 (by omega) (by omega)
 ·rw [L33_2_eq]
  simp only [i_int]
  refine cLt (fun _ => ⟨⟨by omega, by rw [nlen]; omega⟩, trivial, ?_⟩) fun c => by omega
  rw [node_at (by omega)]
  refine has_none (by unfold nxt; split <;> simp) (by omega) (fun i hi q hq Q hQ => ⟨⟨rfl, rfl, rfl, rfl⟩, ?_⟩) ?_
  ·show wpF Tryz.prog A q 63 [D.el (.slc (nxt N k)) (i : Int), chU N] Q
   obtain ⟨q, rfl⟩ : ∃ r, q = r + 1 := ⟨q - 1, by omega⟩
   have hlt : k < N := by
    apply Classical.byContradiction
    intro hn
    simp [nxt, hn] at hi
   have hi0 : i = 0 := by simp [nxt, hlt] at hi; exact hi
   subst hi0
   have e : D.el (.slc (nxt N k)) ((0 : Nat) : Int) = .int ((k : Int) + 1) := by unfold nxt; rw [if_pos hlt]; rfl
   rw [e, E63, u1, nlen]
   simp only [i_int]
   refine cLe (fun c => by omega) fun _ => ?_
   rw [iLe_not.mpr (by omega)]
   exact hQ
  ·rw [rs0, b_bool, cond_false, wr1 (by omega)]
   exact hL
 ·rw [L33_2_eq]
  simp only [i_int]
  refine cLt (fun c => by omega) fun _ => ?_
  refine end_wp hN (by omega) ?_
  rw [rs0, i_int]
  refine cLt (fun c => by omega) fun _ => ?_
  rw [u1, u2, nlen]
  refine cLt (fun c => absurd c (by rw [len_slc]; simp; omega)) fun _ => ?_
  refine reached_wp hN (by omega) ?_
  obtain ⟨q, rfl⟩ : ∃ q, p = q + 1 := ⟨p - 1, by omega⟩
  rw [L33_11_eq]
  simp only [i_int]
  refine cLt (fun c => absurd c (by rw [len_slc]; simp)) fun _ => ?_
  rw [E65, u2]
  obtain ⟨r, rfl⟩ : ∃ r, q = r + 1 := ⟨q - 1, by omega⟩
  rw [L65_2_eq]
  simp only [i_int]
  refine cLt (fun c => absurd c (by rw [len_slc]; simp)) fun _ => ?_
  rw [L65_12_eq, u2]
  simp only [i_int]
  refine cLt (fun c => absurd c (by rw [len_slc]; simp)) fun _ => ?_
  rw [rs0, rs0, b_bool, cond_true]
  have esp : ∀ m Q, wpF Tryz.prog A (m + 1) 66 [chU N, trues (N + 1)] Q = ((∃ r, fwdPost [chU N, trues (N + 1)] r) ∧ ∀ r, fwdPost [chU N, trues (N + 1)] r → Q r) := fun m Q => by kernel_rfl
  rw [esp]
  refine ⟨⟨[.bool true], N, by omega, rfl, rfl⟩, fun r' ⟨_, _, _, e⟩ => ?_⟩
  subst e
  rw [rs0]
  exact h

theorem valid_wp {ws : List Int} {e : Int} (hW : Ws ws e) (hn : 3000 ≤ n) (h : Q [.bool true]) : wpF Tryz.prog A n 34 [chU ws.length, chC ws e] Q := by
 have hN := hW.len
 obtain ⟨p, rfl⟩ : ∃ p, n = p + 1 := ⟨n - 1, by omega⟩
 rw [E34, u1, c0, nlen, clen, c1, u2]
 refine cNe (fun c => absurd rfl c) fun _ => cNe (fun c => absurd rfl c) fun _ => ?_
 refine has_none (by simp) (by omega) (fun i hi => absurd hi (by simp)) ?_
 rw [rs0, b_bool, cond_false]
 refine up_loop (L := fun m k => L34_5 p m (.slc (costL ws e)) (.int ((ws.length + 1 : Nat) : Int)) (.int (k : Int)) (chU ws.length) Q) (N := ws.length + 1) (fun m k hk hL => ?_) (fun m => ?_) p 0 (by omega) (by omega)
 ·rw [L34_5_eq]
  simp only [i_int]
  refine cLt (fun _ => ⟨⟨by omega, by rw [clen]; omega⟩, ⟨by omega, by rw [u1, nlen]; omega⟩, ?_⟩) fun c => by omega
  rw [cost_at (by omega), u1, node_at (by omega)]
  refine cNe (fun c => absurd ?_ c) fun _ => ?_
  ·simp only [len_slc, nxt]
   split <;> simp [minmax]
  refine has_none (by simp) (by omega) (fun i hi q hq Q hQ => ⟨⟨rfl, rfl, rfl, rfl⟩, ?_⟩) ?_
  ·have hi0 : i = 0 := by simpa using hi
   subst hi0
   show wpF Tryz.prog A q 67 [.int ((ws ++ [e]).getD k 0)] Q
   obtain ⟨q, rfl⟩ : ∃ r, q = r + 1 := ⟨q - 1, by omega⟩
   have := ws_rng hW k
   rw [E67]
   simp only [i_int]
   refine cLt (fun c => by omega) fun _ => ?_
   rw [iLt_not.mpr (by omega)]
   exact hQ
  ·rw [rs0, b_bool, cond_false, wr1 (by omega)]
   exact hL
 ·rw [L34_5_eq]
  simp only [i_int]
  exact cLt (fun c => by omega) fun _ => h

theorem checkU_wp {ws : List Int} {e : Int} (hW : Ws ws e) (hn : 3400 ≤ n) (h : Q [.int 0]) : wpF Tryz.prog A n 10 [chU ws.length, chC ws e] Q := by
 obtain ⟨p, rfl⟩ : ∃ p, n = p + 1 := ⟨n - 1, by omega⟩
 rw [E10]
 refine looped_wp hW.len (by omega) ?_
 rw [rs0, b_bool]
 refine cNot (fun c => by cases c) fun _ => ?_
 refine valid_wp hW (by omega) ?_
 rw [rs0, b_bool]
 exact cNot (fun c => by cases c) fun _ => h
end
end Go.Ab

/- Units that are chains: columns, edges with their weights, edges that are open. -/
namespace Go.Ab
open Go.Proofs
attribute [local irreducible] wpF
set_option maxRecDepth 100000

/-- Lists that are one thing ahead of a place, and another behind it. -/
def mixL (g f : Nat → D) (N k : Nat) : List D := (List.range N).map fun j => if j < k then g j else f j
theorem mix_len (g f : Nat → D) (N k : Nat) : (mixL g f N k).length = N := by simp [mixL]
theorem mix_get {g f : Nat → D} {N k j : Nat} (h : j < N) : (mixL g f N k).getD j .und = if j < k then g j else f j := by
 simp [mixL, List.getD_eq_getElem?_getD, h]
theorem mix_set {g f : Nat → D} {N k : Nat} : (mixL g f N k).set k (g k) = mixL g f N (k + 1) := by
 apply List.ext_getElem
 ·simp [mixL]
 ·intro j h1 h2
  simp only [mixL, List.getElem_set, List.getElem_map, List.getElem_range]
  by_cases e : k = j
  ·subst e; simp
  ·rw [if_neg e]
   by_cases h3 : j < k
   ·rw [if_pos h3, if_pos (by omega)]
   ·rw [if_neg h3, if_neg (by omega)]
theorem mix_zero (g f : Nat → D) (N : Nat) : mixL g f N 0 = (List.range N).map f := by
 apply List.map_congr_left
 intro j _
 rw [if_neg (by omega)]
theorem mix_all (g f : Nat → D) (N : Nat) : mixL g f N N = (List.range N).map g := by
 apply List.map_congr_left
 intro j hj
 rw [if_pos (by simpa using hj)]
theorem rng_get {f : Nat → D} {N j : Nat} (h : j < N) : ((List.range N).map f).getD j .und = f j := by
 simp [List.getD_eq_getElem?_getD, h]
theorem rng_el {f : Nat → D} {N j : Nat} (h : j < N) : D.el (.slc ((List.range N).map f)) (j : Int) = f j := rng_get h
theorem rng_len (f : Nat → D) (N : Nat) : D.len (.slc ((List.range N).map f)) = (N : Int) := by simp [len_slc]
theorem rng_const (c : D) (N : Nat) : (List.range N).map (fun _ => c) = List.replicate N c := List.ext_getElem (by simp) (by simp)
theorem rng_succ (f : Nat → D) (k : Nat) : (List.range (k + 1)).map f = (List.range k).map f ++ [f k] := by
 rw [List.range_succ, List.map_append]; rfl

/-- A column; an edge. -/
def colE (k : Nat) : D := .agg [.int (k : Int), .int ((k + 1 : Nat) : Int)]
def edE (ws : List Int) (k : Nat) : D := .agg [.int (k : Int), .int 0, .int ((k + 1 : Nat) : Int), .int (ws.getD k 0)]
def colL (N : Nat) : D := .slc ((List.range N).map colE)
def edL (ws : List Int) : D := .slc ((List.range ws.length).map (edE ws))

section
variable {n : Nat} {Q : List D → Prop}

theorem cols_wp {N : Nat} (hN : N ≤ 40) (hn : 3100 ≤ n) (h : Q [colL N]) : wpF Tryz.prog A n 13 [chU N] Q := by
 obtain ⟨p, rfl⟩ : ∃ p, n = p + 2 := ⟨n - 2, by omega⟩
 rw [E13]
 refine reached_wp hN (by omega) ?_
 rw [rs0, tr_len]
 refine up_loop (L := fun m k => L13_3 (p + 1) m (.int ((N + 1 : Nat) : Int)) (.int (k : Int)) (chU N) (.slc ((List.range (min k N)).map colE)) (trues (N + 1)) Q) (N := N + 1) (fun m k hk hL => ?_) (fun m => ?_) (p + 1) 0 (by omega) (by omega)
 ·rw [L13_3_eq]
  simp only [i_int]
  refine cLt (fun _ => ⟨⟨by omega, by rw [tr_len]; omega⟩, ?_⟩) fun c => by omega
  rw [toNat_nat, tr_get hk]
  refine cNot (fun c => by cases c) fun _ => ?_
  rw [u1, nlen, node_at (by omega)]
  refine ⟨⟨by omega, by omega⟩, ?_⟩
  rw [L13_7_eq]
  simp only [i_int, len_slc]
  by_cases hlt : k < N
  ·have hx : nxt N k = [.int ((k : Int) + 1)] := if_pos hlt
   rw [hx]
   refine cLt (fun _ => ⟨⟨by omega, by simp⟩, ?_⟩) fun c => absurd (show (0 : Int) < 1 by omega) c
   refine ⟨by unfold room; simp [D.xs]; omega, ?_⟩
   obtain ⟨q, rfl⟩ : ∃ q, p = q + 1 := ⟨p - 1, by omega⟩
   rw [L13_7_eq]
   have e4 : IntKind.wrap .i64 ((0 : Int) + 1) = 1 := rfl
   simp only [i_int, e4]
   refine cLt (fun c => absurd c (by simp)) fun _ => ?_
   rw [wr1 (by omega)]
   have e5 : D.slc (D.xs (.slc ((List.range (min k N)).map colE)) ++ [.agg [.int (k : Int), D.el (.slc [.int ((k : Int) + 1)]) 0]]) = .slc ((List.range (min (k + 1) N)).map colE) := by
    rw [show min k N = k by omega, show min (k + 1) N = k + 1 by omega, rng_succ]
    rfl
   rw [e5]
   exact hL
  ·have hx : nxt N k = [] := if_neg hlt
   rw [hx]
   refine cLt (fun c => absurd c (by simp)) fun _ => ?_
   rw [wr1 (by omega)]
   rw [show min (k + 1) N = min k N by omega] at hL
   exact hL
 ·rw [L13_3_eq]
  simp only [i_int]
  refine cLt (fun c => by omega) fun _ => ?_
  rw [show min (N + 1) N = N by omega]
  exact h

theorem back_wp {N : Nat} {a b : D} (hn : 100 ≤ n) (h : Q [.int (-1)]) : wpF Tryz.prog A n 105 [chU N, a, b] Q := by
 obtain ⟨p, rfl⟩ : ∃ p, n = p + 3 := ⟨n - 3, by omega⟩
 rw [E105, E122, u2, L122_2_eq]
 simp only [i_int, len_slc]
 refine cLt (fun c => absurd c (by simp)) fun _ => ?_
 rw [rs0]
 exact h

def noP : D := .slc []

theorem weigh_wp {ws : List Int} {e : Int} (hW : Ws ws e) {k : Nat} (hk : k < ws.length) (hn : 200 ≤ n) (h : Q [.int (ws.getD k 0)]) : wpF Tryz.prog A n 76 [.agg [chU ws.length, chC ws e, noP], .int (k : Int), .int 0] Q := by
 have hN := hW.len
 obtain ⟨p, rfl⟩ : ∃ p, n = p + 2 := ⟨n - 2, by omega⟩
 have f0 : D.fld (.agg [chU ws.length, chC ws e, noP]) 0 = chU ws.length := rfl
 have f1 : D.fld (.agg [chU ws.length, chC ws e, noP]) 1 = chC ws e := rfl
 have f2 : D.fld (.agg [chU ws.length, chC ws e, noP]) 2 = .slc [] := rfl
 rw [E76, f0, f1, u1, c0, u2]
 simp only [i_int]
 rw [nlen, clen, node_at (by omega), cost_at (by omega)]
 have hx : nxt ws.length k = [.int ((k : Int) + 1)] := if_pos hk
 rw [hx]
 refine ⟨⟨by omega, by omega⟩, ⟨by omega, by simp [len_slc]⟩, ⟨by omega, by omega⟩, ⟨by omega, by simp [len_slc]⟩, ?_⟩
 rw [L76_3_eq]
 simp only [i_int, len_slc]
 refine cLt (fun c => absurd c (by simp)) fun _ => ?_
 rw [f0]
 refine back_wp (by omega) ?_
 rw [rs0, i_int]
 refine cLe (fun c => by omega) fun _ => ?_
 have e1 : D.el (.slc [.int ((ws ++ [e]).getD k 0)]) 0 = .int ((ws ++ [e]).getD k 0) := rfl
 rw [e1, ws_get hk]
 exact h

theorem edgesH_wp {ws : List Int} {e : Int} (hW : Ws ws e) (hn : 3000 ≤ n) (h : Q [edL ws]) : wpF Tryz.prog A n 43 [chU ws.length, chC ws e, noP] Q := by
 have hN := hW.len
 obtain ⟨p, rfl⟩ : ∃ p, n = p + 3 := ⟨n - 3, by omega⟩
 rw [E43, E75, u1, nlen]
 refine up_loop (L := fun m k => L75_3 (p + 1) m (.mv 76 (.agg [chU ws.length, chC ws e, noP])) (.slc (nodesC ws.length)) (.int ((ws.length + 1 : Nat) : Int)) (.int (k : Int)) (.slc ((List.range (min k ws.length)).map (edE ws))) fun r1 => Q [rs r1 0]) (N := ws.length + 1) (fun m k hk hL => ?_) (fun m => ?_) (p + 1) 0 (by omega) (by omega)
 ·rw [L75_3_eq]
  simp only [i_int]
  refine cLt (fun _ => ⟨⟨by omega, by rw [nlen]; omega⟩, trivial, ?_⟩) fun c => by omega
  rw [node_at (by omega), L75_6_eq]
  simp only [i_int, len_slc]
  by_cases hlt : k < ws.length
  ·have hx : nxt ws.length k = [.int ((k : Int) + 1)] := if_pos hlt
   rw [hx]
   refine cLt (fun _ => ⟨⟨by omega, by simp⟩, ⟨rfl, rfl, rfl⟩, ?_⟩) fun c => absurd (show (0 : Int) < 1 by omega) c
   refine weigh_wp hW hlt (by omega) ?_
   refine ⟨by unfold room; simp [D.xs]; omega, ?_⟩
   obtain ⟨q, rfl⟩ : ∃ q, p = q + 1 := ⟨p - 1, by omega⟩
   rw [L75_6_eq]
   have e4 : IntKind.wrap .i64 ((0 : Int) + 1) = 1 := rfl
   simp only [i_int, e4]
   refine cLt (fun c => absurd c (by simp)) fun _ => ?_
   rw [wr1 (by omega)]
   have e5 : D.slc (D.xs (.slc ((List.range (min k ws.length)).map (edE ws))) ++ [.agg [.int (k : Int), .int 0, D.el (.slc [.int ((k : Int) + 1)]) 0, rs [.int (ws.getD k 0)] 0]]) = .slc ((List.range (min (k + 1) ws.length)).map (edE ws)) := by
    rw [show min k ws.length = k by omega, show min (k + 1) ws.length = k + 1 by omega, rng_succ]
    rfl
   rw [e5]
   exact hL
  ·have hx : nxt ws.length k = [] := if_neg hlt
   rw [hx]
   refine cLt (fun c => absurd c (by simp)) fun _ => ?_
   rw [wr1 (by omega)]
   rw [show min (k + 1) ws.length = min k ws.length by omega] at hL
   exact hL
 ·rw [L75_3_eq]
  simp only [i_int]
  refine cLt (fun c => by omega) fun _ => ?_
  rw [show min (ws.length + 1) ws.length = ws.length by omega, rs0]
  exact h

/-- Nothing is taken out. -/
theorem keepE_wp {xs : List D} {g : D} (hl : xs.length ≤ 1000) (hn : 2000 ≤ n) (hp : ∀ i, i < xs.length → ∀ q, 100 ≤ q → ∀ Q : List D → Prop, Q [.bool false] → dynH A (wpF Tryz.prog A q) g [.imm 78] [.val 4 .imm] [D.el (.slc xs) (i : Int)] Q) (h : Q [.slc xs]) : wpF Tryz.prog A n 42 [.slc xs, g] Q := by
 obtain ⟨m, rfl⟩ : ∃ m, n = m + 2 := ⟨n - 2, by omega⟩
 rw [E42, E74, len_slc]
 refine find_loop (p := fun _ => false) (N := xs.length) (call := fun g x Q => dynH A (wpF Tryz.prog A m) g [.imm 78] [.val 4 .imm] [x] Q) (fun m0 x0 x1 x7 x8 Q => L74_2_eq m m0 x0 x1 x7 x8 Q) (len_slc _) (by omega) (fun i hi Q hQ => hp i hi m (by omega) Q hQ) m 0 (by omega) (by omega) (fun i _ c => by cases c) fun _ => ?_
 rw [rs0, i_int]
 exact cEq (fun _ => h) fun c => absurd rfl c

theorem edgesP_wp {ws : List Int} {e : Int} (hW : Ws ws e) (hn : 3200 ≤ n) (h : Q [edL ws]) : wpF Tryz.prog A n 19 [chU ws.length, chC ws e, noP] Q := by
 have hN := hW.len
 obtain ⟨p, rfl⟩ : ∃ p, n = p + 1 := ⟨n - 1, by omega⟩
 rw [E19]
 refine reached_wp hN (by omega) ⟨trivial, ?_⟩
 refine edgesH_wp hW (by omega) ?_
 simp only [rs0]
 refine keepE_wp (by simp; omega) (by omega) (fun i hi q hq Q hQ => ⟨⟨rfl, rfl, rfl, rfl⟩, ?_⟩) ?_
 ·have hi : i < ws.length := by simpa using hi
  show wpF Tryz.prog A q 44 [D.el (.slc ((List.range ws.length).map (edE ws))) (i : Int), trues (ws.length + 1)] Q
  obtain ⟨q, rfl⟩ : ∃ r, q = r + 1 := ⟨q - 1, by omega⟩
  rw [rng_el hi, E44]
  have e1 : D.fld (edE ws i) 0 = .int (i : Int) := rfl
  rw [e1, i_int, tr_len]
  refine ⟨⟨by omega, by omega⟩, ?_⟩
  have e2 : D.el (trues (ws.length + 1)) (i : Int) = .bool true := tr_get (by omega)
  rw [e2]
  exact hQ
 ·exact h

/-- A list of what is not dead. -/
def falses (n : Nat) : D := .slc (List.replicate n (.bool false))
theorem fs_len (n : Nat) : D.len (falses n) = (n : Int) := by simp [falses, len_slc]
theorem fs_el {n i : Nat} (h : i < n) : D.el (falses n) (i : Int) = .bool false := by simp [falses, D.el, D.xs, List.getD_eq_getElem?_getD, h]

theorem cloneE_wp {xs : List D} (hl : xs.length ≤ 1000) (hn : 1 ≤ n) (h : Q [.slc xs]) : wpF Tryz.prog A n 124 [.slc xs] Q := by
 obtain ⟨m, rfl⟩ : ∃ m, n = m + 1 := ⟨n - 1, by omega⟩
 rw [E124]
 intro b hb
 refine cnd (fun c => ?_) fun c => ?_
 ·have := hb c
  have e : xs = [] := by
   rw [len_slc] at this
   exact List.eq_nil_of_length_eq_zero (by omega)
  subst e
  exact h
 ·refine ⟨by unfold room; simp [D.xs]; omega, ?_⟩
  have e : D.slc (([] : List D) ++ D.xs (.slc xs)) = .slc xs := rfl
  rw [e]
  exact h

theorem open_wp {ws : List Int} (hN : ws.length ≤ 40) (hn : 2100 ≤ n) (h : Q [edL ws]) : wpF Tryz.prog A n 110 [edL ws, falses (ws.length + 1)] Q := by
 obtain ⟨p, rfl⟩ : ∃ p, n = p + 1 := ⟨n - 1, by omega⟩
 rw [E110]
 refine cloneE_wp (by simp; omega) (by omega) ?_
 rw [rs0]
 refine keepE_wp (by simp; omega) (by omega) (fun i hi q hq Q hQ => ⟨⟨rfl, rfl, rfl, rfl⟩, ?_⟩) ?_
 ·have hi : i < ws.length := by simpa using hi
  show wpF Tryz.prog A q 126 [D.el (.slc ((List.range ws.length).map (edE ws))) (i : Int), falses (ws.length + 1)] Q
  obtain ⟨q, rfl⟩ : ∃ r, q = r + 1 := ⟨q - 1, by omega⟩
  rw [rng_el hi, E126]
  have e1 : D.fld (edE ws i) 0 = .int (i : Int) := rfl
  have e2 : D.fld (edE ws i) 2 = .int ((i + 1 : Nat) : Int) := rfl
  rw [e1, e2, i_int, i_int, fs_len, fs_el (by omega), fs_el (by omega)]
  refine ⟨⟨by omega, by omega⟩, cnd (fun c => by cases c) fun _ => ⟨⟨by omega, by omega⟩, hQ⟩⟩
 ·rw [rs0]; exact h

theorem gone_wp {N : Nat} (hN : N ≤ 40) (hn : 3100 ≤ n) (h : Q [falses (N + 1)]) : wpF Tryz.prog A n 108 [chU N, falses (N + 1)] Q := by
 obtain ⟨p, rfl⟩ : ∃ p, n = p + 1 := ⟨n - 1, by omega⟩
 rw [E108]
 refine reached_wp hN (by omega) ?_
 rw [rs0, tr_len]
 have e0 : trues (N + 1) = .slc (mixL (fun _ => .bool false) (fun _ => .bool true) (N + 1) 0) := by rw [mix_zero, rng_const]; rfl
 rw [e0]
 refine up_loop (L := fun m k => L108_3 p m (falses (N + 1)) (.int ((N + 1 : Nat) : Int)) (.int (k : Int)) (.slc (mixL (fun _ => .bool false) (fun _ => .bool true) (N + 1) k)) Q) (N := N + 1) (fun m k hk hL => ?_) (fun m => ?_) p 0 (by omega) (by omega)
 ·rw [L108_3_eq]
  simp only [i_int, xs_slc, toNat_nat]
  rw [len_slc, mix_len, mix_get hk, if_neg (by omega), fs_len, fs_el hk]
  refine cLt (fun _ => ⟨⟨by omega, by omega⟩, cNot (fun c => by cases c) fun _ => ⟨⟨by omega, by omega⟩, ⟨by omega, by omega⟩, trivial, ?_⟩⟩) fun c => by omega
  rw [wr1 (by omega), mix_set]
  exact hL
 ·rw [L108_3_eq]
  simp only [i_int]
  refine cLt (fun c => by omega) fun _ => ?_
  rw [mix_all]
  have : D.slc ((List.range (N + 1)).map fun _ => D.bool false) = falses (N + 1) := by rw [rng_const]; rfl
  rw [this]
  exact h

theorem fits_wp {ws : List Int} {e : Int} (hW : Ws ws e) (hn : 3400 ≤ n) (h : Q [.bool true]) : wpF Tryz.prog A n 69 [chU ws.length, chC ws e, falses (ws.length + 1)] Q := by
 obtain ⟨p, rfl⟩ : ∃ p, n = p + 1 := ⟨n - 1, by omega⟩
 rw [E69]
 refine looped_wp hW.len (by omega) ?_
 rw [rs0, b_bool, cond_true]
 refine valid_wp hW (by omega) ?_
 rw [rs0, b_bool, cond_true, fs_len, u1, nlen]
 rw [iEq_iff.mpr rfl]
 exact h

theorem prices_wp {ws : List Int} {e : Int} (hW : Ws ws e) (hn : 3400 ≤ n) (h : Q [noP, noP]) : wpF Tryz.prog A n 70 [chU ws.length, chC ws e, falses (ws.length + 1)] Q := by
 obtain ⟨p, rfl⟩ : ∃ p, n = p + 2 := ⟨n - 2, by omega⟩
 rw [E70, u2]
 refine ⟨⟨by simp [len_slc], by simp [len_slc], by unfold room; simp [len_slc]⟩, ⟨by simp [len_slc], by simp [len_slc], by unfold room; simp [len_slc]⟩, ?_⟩
 refine gone_wp hW.len (by omega) ?_
 rw [L70_4_eq]
 have e1 : D.i (.int (IntKind.wrap .i64 (D.len (.slc []) - 1))) = -1 := rfl
 rw [e1]
 exact cLe (fun c => by omega) fun _ => h

theorem pricesX_wp {ws : List Int} {e : Int} (hW : Ws ws e) (hn : 3500 ≤ n) (h : Q [noP, .bool true]) : wpF Tryz.prog A n 85 [chU ws.length, chC ws e, falses (ws.length + 1)] Q := by
 obtain ⟨p, rfl⟩ : ∃ p, n = p + 1 := ⟨n - 1, by omega⟩
 rw [E85]
 refine fits_wp hW (by omega) ?_
 rw [rs0, b_bool]
 refine cNot (fun c => by cases c) fun _ => prices_wp hW (by omega) ?_
 rw [rs0]
 exact h
end
end Go.Ab

/- Units that are chains: what lies before the end, and the greatest cost. -/
namespace Go.Ab
open Go.Proofs
attribute [local irreducible] wpF
set_option maxRecDepth 100000

/-- The sum of what is behind a place. -/
def suf (ws : List Int) (j : Nat) : Int := (ws.drop j).sum
theorem suf_step {ws : List Int} {j : Nat} (h : j < ws.length) : suf ws j = ws.getD j 0 + suf ws (j + 1) := by
 unfold suf
 rw [drop_get 0 h, List.sum_cons]
theorem suf_end {ws : List Int} {j : Nat} (h : ws.length ≤ j) : suf ws j = 0 := by
 unfold suf
 rw [List.drop_eq_nil_of_le h]
 rfl
theorem suf_rng {ws : List Int} {e : Int} (hW : Ws ws e) : ∀ (k j : Nat), ws.length - j = k → 0 ≤ suf ws j ∧ suf ws j ≤ 255 * (k : Int)
 | 0, j, h => by rw [suf_end (by omega)]; simp
 | k + 1, j, h => by
  have := suf_rng hW k (j + 1) (by omega)
  have := hW.w j (by omega)
  rw [suf_step (by omega)]
  omega
theorem suf_bd {ws : List Int} {e : Int} (hW : Ws ws e) (j : Nat) : 0 ≤ suf ws j ∧ suf ws j ≤ 20000 := by
 have h := suf_rng hW _ j rfl
 have := hW.len
 omega

/-- Lists that are one thing from a place on, and another ahead of it. -/
def mixR (g f : Nat → D) (M a : Nat) : List D := (List.range M).map fun j => if a ≤ j then g j else f j
theorem mixR_len (g f : Nat → D) (N k : Nat) : (mixR g f N k).length = N := by simp [mixR]
theorem mixR_get {g f : Nat → D} {N k j : Nat} (h : j < N) : (mixR g f N k).getD j .und = if k ≤ j then g j else f j := by
 simp [mixR, List.getD_eq_getElem?_getD, h]
theorem mixR_set {g f : Nat → D} {N a : Nat} : (mixR g f N (a + 1)).set a (g a) = mixR g f N a := by
 apply List.ext_getElem
 ·simp [mixR]
 ·intro j h1 h2
  simp only [mixR, List.getElem_set, List.getElem_map, List.getElem_range]
  by_cases e : a = j
  ·subst e; simp
  ·rw [if_neg e]
   by_cases h3 : a + 1 ≤ j
   ·rw [if_pos h3, if_pos (by omega)]
   ·rw [if_neg h3, if_neg (by omega)]
theorem mixR_zero (g f : Nat → D) (N : Nat) : mixR g f N 0 = (List.range N).map g := by
 apply List.map_congr_left
 intro j _
 rw [if_pos (by omega)]
theorem mixR_all (g f : Nat → D) (N : Nat) : mixR g f N N = (List.range N).map f := by
 apply List.map_congr_left
 intro j hj
 have : j < N := by simpa using hj
 rw [if_neg (by omega)]

def tdE (ws : List Int) (k : Nat) : D := .agg [.int ((k + 1 : Nat) : Int), .int 0, .int (k : Int), .int (ws.getD k 0)]
def tdL (ws : List Int) : D := .slc ((List.range ws.length).map (tdE ws))
def zE : D := .agg [.int 0, .int 0, .int 0, .int 0]
/-- What is known of ways when all from 'a' on is known. -/
def wst (ws : List Int) (a : Nat) : D :=
 .agg [.slc (mixR (fun _ => .bool true) (fun _ => .bool false) (ws.length + 1) a), .slc (mixR (fun j => .int (suf ws j)) (fun _ => .int 0) (ws.length + 1) a), .slc (mixR (fun j => if j < ws.length then tdE ws j else zE) (fun _ => zE) (ws.length + 1) a)]
theorem wst0 (ws : List Int) (a : Nat) : D.fld (wst ws a) 0 = .slc (mixR (fun _ => .bool true) (fun _ => .bool false) (ws.length + 1) a) := rfl
theorem wst1 (ws : List Int) (a : Nat) : D.fld (wst ws a) 1 = .slc (mixR (fun j => .int (suf ws j)) (fun _ => .int 0) (ws.length + 1) a) := rfl
theorem wst2 (ws : List Int) (a : Nat) : D.fld (wst ws a) 2 = .slc (mixR (fun j => if j < ws.length then tdE ws j else zE) (fun _ => zE) (ws.length + 1) a) := rfl

section
variable {n : Nat} {Q : List D → Prop}

theorem turned_wp {ws : List Int} (hN : ws.length ≤ 40) (hn : 100 ≤ n) (h : Q [tdL ws]) : wpF Tryz.prog A n 113 [edL ws] Q := by
 obtain ⟨p, rfl⟩ : ∃ p, n = p + 1 := ⟨n - 1, by omega⟩
 rw [E113]
 refine cloneE_wp (by simp; omega) (by omega) ?_
 rw [rs0, rng_len, ← mix_zero (tdE ws)]
 refine up_loop (L := fun m k => L113_3 p m (.int (ws.length : Int)) (.int (k : Int)) (.slc (mixL (tdE ws) (edE ws) ws.length k)) Q) (N := ws.length) (fun m k hk hL => ?_) (fun m => ?_) p 0 (by omega) (by omega)
 ·rw [L113_3_eq]
  simp only [i_int, xs_slc, toNat_nat, len_slc]
  simp only [mix_len, List.length_set, List.set_set]
  rw [mix_get hk, if_neg (by omega)]
  have e1 : ((mixL (tdE ws) (edE ws) ws.length k).set k (.agg [D.fld (edE ws k) 2, D.fld (edE ws k) 1, D.fld (edE ws k) 2, D.fld (edE ws k) 3])).getD k D.und = .agg [D.fld (edE ws k) 2, D.fld (edE ws k) 1, D.fld (edE ws k) 2, D.fld (edE ws k) 3] := by
   rw [List.getD_eq_getElem?_getD, List.getElem?_set_self (by rw [mix_len]; exact hk)]; rfl
  rw [e1]
  have e2 : D.agg [D.fld (.agg [D.fld (edE ws k) 2, D.fld (edE ws k) 1, D.fld (edE ws k) 2, D.fld (edE ws k) 3]) 0, D.fld (.agg [D.fld (edE ws k) 2, D.fld (edE ws k) 1, D.fld (edE ws k) 2, D.fld (edE ws k) 3]) 1, D.fld (edE ws k) 0, D.fld (.agg [D.fld (edE ws k) 2, D.fld (edE ws k) 1, D.fld (edE ws k) 2, D.fld (edE ws k) 3]) 3] = tdE ws k := rfl
  rw [e2, mix_set, wr1 (by omega)]
  refine cLt (fun _ => ⟨⟨by omega, by omega⟩, trivial, ⟨by omega, by omega⟩, trivial, ⟨by omega, by omega⟩, trivial, hL⟩) fun c => by omega
 ·rw [L113_3_eq]
  simp only [i_int]
  refine cLt (fun c => by omega) fun _ => ?_
  rw [mix_all]
  exact h

theorem spread_wp {ws : List Int} {e : Int} (hW : Ws ws e) (hn : 200 ≤ n) (h : Q [wst ws 0]) : wpF Tryz.prog A n 111 [.int ((ws.length + 1 : Nat) : Int), .int (ws.length : Int), tdL ws] Q := by
 have hN := hW.len
 obtain ⟨p, rfl⟩ : ∃ p, n = p + 1 := ⟨n - 1, by omega⟩
 rw [E111]
 simp only [i_int, toNat_nat]
 have hr : ∀ b : Int, 0 ≤ b → b ≤ 32 → room ((ws.length + 1 : Nat) : Int) b := fun b h0 h1 => by
  unfold room
  have : ((ws.length + 1 : Nat) : Int) * b ≤ 41 * 32 := Int.mul_le_mul (by omega) h1 h0 (by omega)
  omega
 refine ⟨⟨by omega, by omega, hr 1 (by omega) (by omega)⟩, ⟨by omega, by omega, hr 8 (by omega) (by omega)⟩, ⟨by omega, by omega, hr 32 (by omega) (by omega)⟩, trivial, ⟨by omega, by rw [len_slc, List.length_replicate]; omega⟩, trivial, ?_⟩
 have e0 : D.agg [.slc ((List.replicate (ws.length + 1) (.bool false)).set ws.length (.bool true)), .slc (List.replicate (ws.length + 1) (.int 0)), .slc (List.replicate (ws.length + 1) (.agg [.int 0, .int 0, .int 0, .int 0]))] = wst ws ws.length := by
  unfold wst
  congr 1
  have a1 : (List.replicate (ws.length + 1) (D.bool false)).set ws.length (.bool true) = mixR (fun _ => .bool true) (fun _ => .bool false) (ws.length + 1) ws.length := by
   rw [← mixR_set, mixR_all, rng_const]
  have a2 : List.replicate (ws.length + 1) (D.int 0) = mixR (fun j => .int (suf ws j)) (fun _ => .int 0) (ws.length + 1) ws.length := by
   rw [← rng_const]
   apply List.map_congr_left
   intro j hj
   split
   ·show D.int 0 = D.int (suf ws j)
    rw [suf_end (by omega)]
   ·rfl
  have a3 : List.replicate (ws.length + 1) (D.agg [.int 0, .int 0, .int 0, .int 0]) = mixR (fun j => if j < ws.length then tdE ws j else zE) (fun _ => zE) (ws.length + 1) ws.length := by
   rw [← rng_const]
   apply List.map_congr_left
   intro j hj
   split
   ·show _ = if j < ws.length then tdE ws j else zE
    rw [if_neg (by omega)]; rfl
   ·rfl
  rw [a1, a2, a3]
 rw [e0]
 generalize hz : D.agg [.slc ([] : List D), .slc ([] : List D), .slc ([] : List D)] = z
 -- one edge
 have edge : ∀ (m0 m1 k a c : Nat) (b : Bool), k < ws.length → a ≤ ws.length → c ≤ 41 →
   (k + 1 < a → L111_7 p m0 m1 (.int (ws.length : Int)) (tdL ws) (.bool b) (.int ((ws.length + 1 : Nat) : Int)) (.int (c : Int)) (tdL ws) (.int (ws.length : Int)) (.int ((k + 1 : Nat) : Int)) z (wst ws a) Q) →
   (k + 1 = a → L111_7 p m0 m1 (.int (ws.length : Int)) (tdL ws) (.bool true) (.int ((ws.length + 1 : Nat) : Int)) (.int (c : Int)) (tdL ws) (.int (ws.length : Int)) (.int ((k + 1 : Nat) : Int)) z (wst ws k) Q) →
   (a ≤ k → L111_7 p m0 m1 (.int (ws.length : Int)) (tdL ws) (.bool b) (.int ((ws.length + 1 : Nat) : Int)) (.int (c : Int)) (tdL ws) (.int (ws.length : Int)) (.int ((k + 1 : Nat) : Int)) z (wst ws a) Q) →
   L111_7 p m0 (m1 + 1) (.int (ws.length : Int)) (tdL ws) (.bool b) (.int ((ws.length + 1 : Nat) : Int)) (.int (c : Int)) (tdL ws) (.int (ws.length : Int)) (.int (k : Int)) z (wst ws a) Q := by
  intro m0 m1 k a c b hk ha hc g1 g2 g3
  rw [L111_7_eq]
  have t0 : D.el (tdL ws) (k : Int) = tdE ws k := rng_el hk
  have t1 : D.fld (tdE ws k) 0 = .int ((k + 1 : Nat) : Int) := rfl
  have t2 : D.fld (tdE ws k) 2 = .int (k : Int) := rfl
  have t3 : D.fld (tdE ws k) 3 = .int (ws.getD k 0) := rfl
  have t4 : D.len (tdL ws) = (ws.length : Int) := rng_len _ _
  simp only [i_int, t0, t1, t2, t3, t4, toNat_nat, wst0, wst1, wst2, xs_slc, len_slc, mixR_len, wr1 (show k ≤ 4000000000 by omega)]
  rw [mixR_get (show k + 1 < ws.length + 1 by omega), mixR_get (show k + 1 < ws.length + 1 by omega), mixR_get (show k < ws.length + 1 by omega), mixR_get (show k < ws.length + 1 by omega)]
  refine cLt (fun _ => ⟨⟨by omega, by omega⟩, trivial, ⟨by omega, by omega⟩, ?_⟩) fun c => by omega
  by_cases h1 : a ≤ k + 1
  ·rw [if_pos h1, if_pos h1, b_bool]
   refine cNot (fun c => by cases c) fun _ => cEq (fun c => by omega) fun _ => ⟨⟨by omega, by omega⟩, ⟨by omega, by omega⟩, ?_⟩
   by_cases h2 : a ≤ k
   ·rw [if_pos h2, if_pos h2, b_bool, i_int, i_int]
    refine cNot (fun c => by cases c) fun _ => ⟨⟨by omega, by omega⟩, ?_⟩
    have s1 := suf_bd hW k
    have s2 := suf_bd hW (k + 1)
    have s3 := suf_step hk
    have s4 := hW.w k hk
    rw [wrap_id (by omega) (by omega)]
    exact cLt (fun c => by omega) fun _ => g3 h2
   ·rw [if_neg h2, b_bool, i_int]
    have s2 := suf_bd hW (k + 1)
    have s3 := suf_step hk
    have s4 := hW.w k hk
    have ea : a = k + 1 := by omega
    subst ea
    have e1 : D.agg [.slc ((mixR (fun _ => .bool true) (fun _ => .bool false) (ws.length + 1) (k + 1)).set k (.bool true)), .slc ((mixR (fun j => .int (suf ws j)) (fun _ => .int 0) (ws.length + 1) (k + 1)).set k (.int (IntKind.wrap .i64 (suf ws (k + 1) + ws.getD k 0)))), .slc ((mixR (fun j => if j < ws.length then tdE ws j else zE) (fun _ => zE) (ws.length + 1) (k + 1)).set k (tdE ws k))] = wst ws k := by
     rw [wrap_id (by omega) (by omega), show suf ws (k + 1) + ws.getD k 0 = suf ws k by omega]
     have b1 : (mixR (fun _ => .bool true) (fun _ => .bool false) (ws.length + 1) (k + 1)).set k (D.bool true) = mixR (fun _ => .bool true) (fun _ => .bool false) (ws.length + 1) k := mixR_set
     have b2 : (mixR (fun j => .int (suf ws j)) (fun _ => .int 0) (ws.length + 1) (k + 1)).set k (D.int (suf ws k)) = mixR (fun j => .int (suf ws j)) (fun _ => .int 0) (ws.length + 1) k := mixR_set (g := fun j => .int (suf ws j))
     have b3 : (mixR (fun j => if j < ws.length then tdE ws j else zE) (fun _ => zE) (ws.length + 1) (k + 1)).set k (tdE ws k) = mixR (fun j => if j < ws.length then tdE ws j else zE) (fun _ => zE) (ws.length + 1) k := by
      have := mixR_set (g := fun j => if j < ws.length then tdE ws j else zE) (f := fun _ => zE) (N := ws.length + 1) (a := k)
      rw [if_pos hk] at this
      exact this
     rw [b1, b2, b3]
     rfl
    rw [e1]
    exact cNot (fun _ => ⟨⟨by omega, by omega⟩, trivial, ⟨by omega, by omega⟩, trivial, ⟨by omega, by omega⟩, trivial, g2 rfl⟩) fun c => by cases c
  ·rw [if_neg h1]
   exact cNot (fun _ => g1 (by omega)) fun c => by cases c
 -- one round
 have round : ∀ (m0 m1 k a a' c : Nat) (b : Bool), k ≤ ws.length → ws.length - k < m1 → c ≤ 41 → a ≤ ws.length → a' ≤ ws.length →
   (a' = if a ≤ k then a else a - 1) →
   (b = true → a ≤ k) → ((a ≤ k) → ∀ m1, L111_7 p m0 (m1 + 1) (.int (ws.length : Int)) (tdL ws) (.bool b) (.int ((ws.length + 1 : Nat) : Int)) (.int (c : Int)) (tdL ws) (.int (ws.length : Int)) (.int (ws.length : Int)) z (wst ws a) Q) →
   (¬ a ≤ k → ∀ m1, L111_7 p m0 (m1 + 1) (.int (ws.length : Int)) (tdL ws) (.bool true) (.int ((ws.length + 1 : Nat) : Int)) (.int (c : Int)) (tdL ws) (.int (ws.length : Int)) (.int (ws.length : Int)) z (wst ws (a - 1)) Q) →
   L111_7 p m0 m1 (.int (ws.length : Int)) (tdL ws) (.bool b) (.int ((ws.length + 1 : Nat) : Int)) (.int (c : Int)) (tdL ws) (.int (ws.length : Int)) (.int (k : Int)) z (wst ws a) Q := by
  intro m0 m1
  induction m1 with
  | zero => intro k a a' c b _ h; omega
  | succ m1 ih =>
   intro k a a' c b hk hm hc ha ha' hd hb g1 g2
   by_cases hlt : k < ws.length
   ·refine edge m0 m1 k a c b hlt ha hc (fun h1 => ?_) (fun h1 => ?_) fun h1 => ?_
    ·exact ih (k + 1) a (if a ≤ k + 1 then a else a - 1) c b (by omega) (by omega) hc ha (by split <;> omega) rfl (fun hh => by have := hb hh; omega) (fun h => by omega) fun _ => g2 (by omega)
    ·subst h1
     refine ih (k + 1) k k c true (by omega) (by omega) hc (by omega) (by omega) (by rw [if_pos (by omega)]) (fun _ => by omega) (fun _ => ?_) fun h => absurd (by omega) h
     have := g2 (by omega)
     rw [Nat.add_sub_cancel] at this
     exact this
    ·exact ih (k + 1) a a c b (by omega) (by omega) hc ha ha (by rw [if_pos (by omega)]) (fun hh => by have := hb hh; omega) (fun _ => g1 h1) fun h => absurd (by omega) h
   ·have : k = ws.length := by omega
    subst this
    exact g1 ha m1
 have rounds : ∀ m a, a ≤ ws.length → a + 1 < m → L111_4 p m (.int (ws.length : Int)) (tdL ws) (.int ((ws.length + 1 : Nat) : Int)) (.int ((ws.length - a : Nat) : Int)) z (wst ws a) Q := by
  intro m
  induction m with
  | zero => intro a _ h; omega
  | succ m ih =>
   intro a ha hm
   rw [L111_4_eq]
   simp only [i_int]
   have t4 : D.len (tdL ws) = (ws.length : Int) := rng_len _ _
   rw [t4]
   refine cLt (fun _ => ?_) fun c => by omega
   by_cases h0 : a = 0
   ·subst h0
    refine round m p 0 0 0 (ws.length - 0) false (by omega) (by omega) (by omega) (by omega) (by omega) (by simp) (fun c => by cases c) (fun _ m1 => ?_) fun h => absurd (by omega) h
    rw [L111_7_eq]
    simp only [i_int, b_bool]
    exact cLt (fun c => by omega) fun _ => cNot (fun _ => ⟨trivial, h⟩) fun c => by cases c
   ·refine round m p 0 a (a - 1) (ws.length - a) false (by omega) (by omega) (by omega) ha (by omega) (by rw [if_neg (by omega)]) (fun c => by cases c) (fun h => by omega) fun _ m1 => ?_
    rw [L111_7_eq]
    simp only [i_int, b_bool]
    refine cLt (fun c => by omega) fun _ => cNot (fun c => by cases c) fun _ => ?_
    rw [wr1 (by omega), show ws.length - a + 1 = ws.length - (a - 1) by omega]
    exact ih (a - 1) (by omega) (by omega)
 have := rounds p ws.length (Nat.le_refl _) (by omega)
 rw [Nat.sub_self] at this
 exact this

/-- Potentials of a chain. -/
def potL (ws : List Int) (e : Int) : D := .slc ((List.range (ws.length + 1)).map fun j => .int (suf ws j + e))

theorem pots_wp {ws : List Int} {e : Int} (hW : Ws ws e) (hn : 3400 ≤ n) (h : Q [potL ws e, trues (ws.length + 1)]) : wpF Tryz.prog A n 71 [chU ws.length, chC ws e, falses (ws.length + 1), edL ws] Q := by
 have hN := hW.len
 obtain ⟨p, rfl⟩ : ∃ p, n = p + 1 := ⟨n - 1, by omega⟩
 rw [E71]
 refine end_wp hN (by omega) ?_
 refine gone_wp hN (by omega) ?_
 simp only [rs0, i_int, toNat_nat]
 rw [fs_len, u1, nlen]
 have e1 : (D.xs (falses (ws.length + 1))).getD ws.length .und = .bool false := fs_el (by omega)
 rw [e1]
 refine ⟨⟨by omega, by omega⟩, cnd (fun c => by cases c) fun _ => ?_⟩
 refine open_wp hN (by omega) ?_
 rw [rs0]
 refine turned_wp hN (by omega) ?_
 rw [rs0]
 refine spread_wp hW (by omega) ⟨trivial, ?_⟩
 rw [rs0, wst1, len_slc, mixR_len]
 have hs : wst ws 0 = .agg [trues (ws.length + 1), .slc (mixL (fun j => .int (suf ws j + e)) (fun j => .int (suf ws j)) (ws.length + 1) 0), D.fld (wst ws 0) 2] := by
  rw [mix_zero]
  unfold wst
  rw [mixR_zero, mixR_zero, rng_const]
  rfl
 rw [hs]
 generalize D.fld (wst ws 0) 2 = z
 refine up_loop (L := fun m k => L71_8 p m (.int (ws.length : Int)) (.int ((ws.length + 1 : Nat) : Int)) (.int (k : Int)) (chC ws e) (.agg [trues (ws.length + 1), .slc (mixL (fun j => .int (suf ws j + e)) (fun j => .int (suf ws j)) (ws.length + 1) k), z]) Q) (N := ws.length + 1) (fun m k hk hL => ?_) (fun m => ?_) p 0 (by omega) (by omega)
 ·rw [L71_8_eq]
  simp only [fld0, fldS, i_int, toNat_nat, xs_slc]
  rw [tr_len, tr_get hk, c0, clen, cost_at (Nat.le_refl _), ws_last, len_slc, mix_len, mix_get hk, if_neg (by omega), b_bool, i_int]
  have e2 : D.el (.slc [.int e]) 0 = .int e := rfl
  have s1 := suf_bd hW k
  have s2 := hW.e
  have e3 : (mixL (fun j => .int (suf ws j + e)) (fun j => .int (suf ws j)) (ws.length + 1) k).set k (D.int (suf ws k + e)) = mixL (fun j => .int (suf ws j + e)) (fun j => .int (suf ws j)) (ws.length + 1) (k + 1) := mix_set (g := fun j => .int (suf ws j + e))
  rw [e2, i_int, wr1 (by omega), show IntKind.wrap .i64 (suf ws k + e) = suf ws k + e from wrap_id (by omega) (by omega), e3, cond_true]
  refine cLt (fun _ => ⟨⟨by omega, by omega⟩, ⟨by omega, by omega⟩, ⟨by omega, by omega⟩, ⟨by omega, by simp [len_slc]⟩, ⟨by omega, by omega⟩, trivial, hL⟩) fun c => by omega
 ·rw [L71_8_eq]
  simp only [i_int, fld0, fldS]
  refine cLt (fun c => by omega) fun _ => ?_
  rw [mix_all]
  exact h

theorem potentials_wp {ws : List Int} {e : Int} (hW : Ws ws e) (hn : 3600 ≤ n) (h : Q [potL ws e, trues (ws.length + 1), .bool true]) : wpF Tryz.prog A n 37 [chU ws.length, chC ws e, falses (ws.length + 1)] Q := by
 obtain ⟨p, rfl⟩ : ∃ p, n = p + 1 := ⟨n - 1, by omega⟩
 rw [E37]
 refine fits_wp hW (by omega) ?_
 rw [rs0, b_bool]
 refine cNot (fun c => by cases c) fun _ => prices_wp hW (by omega) ?_
 rw [rs0]
 refine edgesH_wp hW (by omega) ?_
 rw [rs0]
 refine pots_wp hW (by omega) ?_
 exact h

theorem pot_at {ws : List Int} {e : Int} {j : Nat} (h : j ≤ ws.length) : D.el (potL ws e) (j : Int) = .int (suf ws j + e) := rng_el (f := fun j => .int (suf ws j + e)) (by omega)
theorem pot_len (ws : List Int) (e : Int) : D.len (potL ws e) = ((ws.length + 1 : Nat) : Int) := rng_len _ _

theorem cost_wp {ws : List Int} {e : Int} (hW : Ws ws e) (hn : 3700 ≤ n) (h : Q [.int (suf ws 0 + e), .bool true]) : wpF Tryz.prog A n 12 [chU ws.length, chC ws e, falses (ws.length + 1)] Q := by
 obtain ⟨p, rfl⟩ : ∃ p, n = p + 1 := ⟨n - 1, by omega⟩
 rw [E12]
 refine potentials_wp hW (by omega) ?_
 simp only [rs0, rsS, b_bool]
 have e1 : D.el (trues (ws.length + 1)) 0 = .bool true := tr_get (i := 0) (by omega)
 have e2 : D.el (potL ws e) 0 = .int (suf ws 0 + e) := pot_at (j := 0) (by omega)
 rw [tr_len, e1, pot_len, e2]
 exact cNot (fun c => by cases c) fun _ => ⟨⟨by omega, by omega⟩, cNot (fun c => by cases c) fun _ => ⟨⟨by omega, by omega⟩, h⟩⟩

theorem dead_wp {N : Nat} (hN : N ≤ 40) (hn : 10 ≤ n) (h : Q [falses (N + 1)]) : wpF Tryz.prog A n 22 [chU N] Q := by
 obtain ⟨p, rfl⟩ : ∃ p, n = p + 2 := ⟨n - 2, by omega⟩
 rw [E22, u1, nlen, toNat_nat, u5, L22_3_eq]
 simp only [i_int, len_slc]
 exact ⟨⟨by omega, by omega, by unfold room; omega⟩, cLt (fun c => absurd c (by simp)) fun _ => h⟩

theorem cases_wp {N : Nat} (hN : N ≤ 40) (hn : 20 ≤ n) (h : Q [.slc [falses (N + 1)]]) : wpF Tryz.prog A n 11 [chU N] Q := by
 obtain ⟨p, rfl⟩ : ∃ p, n = p + 2 := ⟨n - 2, by omega⟩
 rw [E11]
 refine dead_wp hN (by omega) ?_
 rw [u6, L11_3_eq]
 refine ⟨⟨by omega, by decide, by decide⟩, ?_⟩
 simp only [i_int]
 exact cLt (fun c => absurd c (by decide)) fun _ => h

theorem most_wp {ws : List Int} {e : Int} (hW : Ws ws e) (hn : 4000 ≤ n) (h : Q [.int (suf ws 0 + e), .int 0]) : wpF Tryz.prog A n 5 [chU ws.length, chC ws e] Q := by
 obtain ⟨p, rfl⟩ : ∃ p, n = p + 3 := ⟨n - 3, by omega⟩
 rw [E5]
 refine checkU_wp hW (by omega) ?_
 rw [rs0, i_int]
 refine cNe (fun c => absurd rfl c) fun _ => cases_wp hW.len (by omega) ?_
 rw [rs0, L5_6_eq]
 simp only [i_int, len_slc]
 refine cLt (fun _ => ⟨⟨by omega, by simp⟩, ?_⟩) fun c => absurd (show (0 : Int) < 1 by omega) c
 have e1 : (D.xs (.slc [falses (ws.length + 1)])).getD (Int.toNat 0) .und = falses (ws.length + 1) := rfl
 rw [e1]
 refine cost_wp hW (by omega) ?_
 simp only [rs0, rsS, b_bool, i_int]
 refine cnd (fun _ => ?_) fun c => by cases c
 rw [L5_6_eq]
 have e2 : IntKind.wrap .i64 ((0 : Int) + 1) = 1 := rfl
 simp only [i_int, e2, b_bool]
 refine cLt (fun c => absurd c (by simp)) fun _ => cNot (fun c => by cases c) fun _ => ?_
 have s1 := suf_bd hW 0
 have s2 := hW.e
 have e3 : minmax true 0 (suf ws 0 + e) = suf ws 0 + e := by
  unfold minmax
  simp only [if_true]
  by_cases hz : 0 < suf ws 0 + e
  ·rw [if_pos hz]
  ·rw [if_neg hz]; omega
 rw [e3]
 exact h
end
end Go.Ab

/- Units that are chains: the rows of the nodes. -/
namespace Go.Ab
open Go.Proofs
attribute [local irreducible] wpF
set_option maxRecDepth 100000

/-- Terms of coefficients. -/
def tmP (c : Nat → Int) : Nat → List (Int × Int)
 | 0 => []
 | k + 1 => tmP c k ++ cond (iEq (c k) 0) [] [((k : Int), c k)]
def tmL (l : List (Int × Int)) : D := .slc (l.map tmD)
def negP (l : List (Int × Int)) : List (Int × Int) := l.map fun p => (p.1, -p.2)

theorem tmP_succ (c : Nat → Int) (k : Nat) : tmP c (k + 1) = tmP c k ++ cond (iEq (c k) 0) [] [((k : Int), c k)] := rfl
theorem tmP_mem {c : Nat → Int} : ∀ {k : Nat} {p : Int × Int}, p ∈ tmP c k → ∃ i, i < k ∧ p = ((i : Int), c i) ∧ c i ≠ 0
 | 0, p, h => by cases h
 | k + 1, p, h => by
  unfold tmP at h
  rcases List.mem_append.mp h with h | h
  ·obtain ⟨i, h1, h2⟩ := tmP_mem h
   exact ⟨i, by omega, h2⟩
  ·cases e : iEq (c k) 0 with
   | true => rw [e] at h; cases h
   | false =>
    rw [e] at h
    have := List.mem_singleton.mp h
    exact ⟨k, by omega, this, iEq_not.mp e⟩
theorem tmP_len (c : Nat → Int) : ∀ k, (tmP c k).length ≤ k
 | 0 => Nat.le_refl 0
 | k + 1 => by
  have := tmP_len c k
  unfold tmP
  rw [List.length_append]
  cases iEq (c k) 0 <;> simp <;> omega
theorem tmP_inc (c : Nat → Int) : ∀ k, (tmP c k).Pairwise fun p q => p.1 < q.1
 | 0 => List.Pairwise.nil
 | k + 1 => by
  unfold tmP
  refine List.pairwise_append.mpr ⟨tmP_inc c k, by cases iEq (c k) 0 <;> simp, fun p hp q hq => ?_⟩
  obtain ⟨i, h1, h2, _⟩ := tmP_mem hp
  cases e : iEq (c k) 0 with
  | true => rw [e] at hq; cases hq
  | false =>
   rw [e] at hq
   have := List.mem_singleton.mp hq
   subst this; subst h2
   show (i : Int) < (k : Int)
   omega

theorem tm_len (l : List (Int × Int)) : D.len (tmL l) = (l.length : Int) := by simp [tmL, len_slc]
theorem tm_get {l : List (Int × Int)} {k : Nat} (h : k < l.length) : (l.map tmD).getD k .und = tmD (l.getD k (0, 0)) := by
 simp [List.getD_eq_getElem?_getD, h]
theorem tm_el {l : List (Int × Int)} {k : Nat} (h : k < l.length) : D.el (tmL l) (k : Int) = tmD (l.getD k (0, 0)) := tm_get h
theorem tm_of {l : List (Int × Int)} {k : Nat} (h : k < l.length) : tof (tmL l) (k : Int) = (l.getD k (0, 0)).1 := by unfold tof; rw [tm_el h]; rfl
theorem tm_co {l : List (Int × Int)} {k : Nat} (h : k < l.length) : tco (tmL l) (k : Int) = (l.getD k (0, 0)).2 := by unfold tco; rw [tm_el h]; rfl
theorem getD_in {α : Type} {l : List α} {k : Nat} {d : α} (h : k < l.length) : l.getD k d ∈ l := by
 rw [List.getD_eq_getElem?_getD, List.getElem?_eq_getElem h]
 exact List.getElem_mem h
theorem tm_terms {l : List (Int × Int)} {cols M : Int} (hp : l.Pairwise fun p q => p.1 < q.1) (hm : ∀ p ∈ l, 0 ≤ p.1 ∧ p.1 < cols ∧ -M ≤ p.2 ∧ p.2 ≤ M ∧ p.2 ≠ 0) : termsB (tmL l) cols M = true := by
 refine terms_of fun k hk => ?_
 rw [tm_len] at hk
 have hk : k < l.length := by omega
 obtain ⟨h1, h2, h3, h4, h5⟩ := hm _ (getD_in (d := (0, 0)) hk)
 refine badT_of (by rw [tm_of hk]; exact h1) (by rw [tm_of hk]; exact h2) (fun h0 => ?_) (by rw [tm_co hk]; exact h3) (by rw [tm_co hk]; exact h4) (by rw [tm_co hk]; exact h5)
 have e : ((k : Int) - 1) = ((k - 1 : Nat) : Int) := by omega
 rw [e, tm_of hk, tm_of (show k - 1 < l.length by omega)]
 have := List.pairwise_iff_getElem.mp hp (k - 1) k (by omega) hk (by omega)
 simpa [List.getD_eq_getElem?_getD, List.getElem?_eq_getElem hk, List.getElem?_eq_getElem (show k - 1 < l.length by omega)] using this

/-- What flows through a node. -/
def flC (N k j : Nat) : Int := if j = k then 1 else if j + 1 = k then (if k = N then 1 else -1) else 0
def flM (N k : Nat) : Int := if k = 0 ∨ k = N then 1 else 0
def rowA (N k : Nat) : D := .agg [tmL (tmP (flC N k) N), .int (flM N k)]
def rowZ (N k : Nat) : D := .agg [tmL (negP (tmP (flC N k) N)), .int (-flM N k)]
def rowsK (N k : Nat) : List D := if N = 0 then [] else [rowA N k, rowZ N k]
theorem flC_rng (N k j : Nat) : -1 ≤ flC N k j ∧ flC N k j ≤ 1 := by
 unfold flC
 split
 ·omega
 ·split
  ·split <;> omega
  ·omega
theorem flM_rng (N k : Nat) : 0 ≤ flM N k ∧ flM N k ≤ 1 := by unfold flM; split <;> omega

section
variable {n : Nat} {Q : List D → Prop}

theorem cof_wp {c : Nat → Int} {N : Nat} (hN : N ≤ 1000) (hn : 1100 ≤ n) (h : Q [tmL (tmP c N)]) : wpF Tryz.prog A n 20 [.slc ((List.range N).map fun j => .int (c j))] Q := by
 obtain ⟨p, rfl⟩ : ∃ p, n = p + 1 := ⟨n - 1, by omega⟩
 rw [E20, rng_len]
 refine up_loop (L := fun m k => L20_3 p m (.slc ((List.range N).map fun j => .int (c j))) (.int (N : Int)) (.int (k : Int)) (tmL (tmP c k)) Q) (N := N) (fun m k hk hL => ?_) (fun m => ?_) p 0 (by omega) (by omega)
 ·rw [L20_3_eq]
  have ez : D.el (.slc ((List.range N).map fun j => .int (c j))) (k : Int) = .int (c k) := rng_el (f := fun j => .int (c j)) hk
  simp only [i_int]
  rw [rng_len, ez, i_int, wr1 (by omega)]
  refine cLt (fun _ => ⟨⟨by omega, by omega⟩, ?_⟩) fun c => by omega
  cases e : iEq (c k) 0 with
  | true =>
   have : tmP c (k + 1) = tmP c k := by rw [tmP_succ, e]; exact List.append_nil _
   rw [this] at hL
   exact hL
  | false =>
   have : tmL (tmP c (k + 1)) = .slc (D.xs (tmL (tmP c k)) ++ [.agg [.int (k : Int), .int (c k)]]) := by
    unfold tmL
    rw [tmP_succ, e, List.map_append]; rfl
   rw [this] at hL
   have hl := tmP_len c k
   refine ⟨?_, hL⟩
   unfold room
   rw [show (D.xs (tmL (tmP c k))).length = (tmP c k).length by simp [tmL, D.xs]]
   simp only [List.length_singleton]
   omega
 ·rw [L20_3_eq]
  simp only [i_int]
  exact cLt (fun c => by omega) fun _ => h

theorem both_wp {c : Nat → Int} {m : Int} {N : Nat} (hN : N ≤ 1000) (hn : 1200 ≤ n) (hc : ∀ j, -1000000 ≤ c j ∧ c j ≤ 1000000) (hm : -1000000 ≤ m ∧ m ≤ 1000000) (h : Q [.slc [.agg [tmL (tmP c N), .int m], .agg [tmL (negP (tmP c N)), .int (-m)]]]) : wpF Tryz.prog A n 40 [.slc ((List.range N).map fun j => .int (c j)), .int m] Q := by
 obtain ⟨p, rfl⟩ : ∃ p, n = p + 1 := ⟨n - 1, by omega⟩
 rw [E40]
 refine cof_wp hN (by omega) ?_
 rw [rs0, tm_len]
 have hl := tmP_len c N
 refine up_loop (L := fun q k => L40_4 p q (.int m) (.int ((tmP c N).length : Int)) (.int (k : Int)) (tmL (negP ((tmP c N).take k))) (tmL (tmP c N)) Q) (N := (tmP c N).length) (fun q k hk hL => ?_) (fun q => ?_) p 0 (by omega) (by omega)
 ·rw [L40_4_eq]
  simp only [i_int, toNat_nat]
  have e1 : List.getD (D.xs (tmL (tmP c N))) k .und = tmD ((tmP c N).getD k (0, 0)) := tm_get hk
  obtain ⟨i, _, hp, _⟩ := tmP_mem (getD_in (d := (0, 0)) hk)
  have hci := hc i
  have f0 : D.fld (tmD ((tmP c N).getD k (0, 0))) 0 = .int ((tmP c N).getD k (0, 0)).1 := rfl
  have f1 : D.fld (tmD ((tmP c N).getD k (0, 0))) 1 = .int ((tmP c N).getD k (0, 0)).2 := rfl
  have e2 : ((tmP c N).getD k (0, 0)).2 = c i := by rw [hp]
  rw [e1, f0, f1, i_int, tm_len, wr1 (by omega), e2, wrap_id (by omega) (by omega)]
  have e3 : tmL (negP ((tmP c N).take (k + 1))) = .slc (D.xs (tmL (negP ((tmP c N).take k))) ++ [.agg [.int ((tmP c N).getD k (0, 0)).1, .int (0 - c i)]]) := by
   have : (tmP c N).take (k + 1) = (tmP c N).take k ++ [(tmP c N).getD k (0, 0)] := by
    rw [List.getD_eq_getElem?_getD, List.getElem?_eq_getElem hk, List.take_succ_eq_append_getElem hk]; rfl
   rw [this]
   unfold tmL negP
   rw [List.map_append, List.map_append]
   simp only [D.xs]
   congr 2
   show [D.agg [.int ((tmP c N).getD k (0, 0)).1, .int (-((tmP c N).getD k (0, 0)).2)]] = _
   rw [e2, show -c i = 0 - c i by omega]
  rw [e3] at hL
  refine cLt (fun _ => ⟨⟨by omega, by omega⟩, trivial, ?_, hL⟩) fun c => by omega
  unfold room
  rw [show (D.xs (tmL (negP ((tmP c N).take k)))).length = k by simp [tmL, D.xs, negP]; omega]
  simp only [List.length_singleton]
  omega
 ·rw [L40_4_eq]
  simp only [i_int]
  rw [List.take_length, show IntKind.wrap .i64 ((0 : Int) - m) = -m by rw [wrap_id (by omega) (by omega)]; omega]
  exact cLt (fun c => by omega) fun _ => h

theorem mix_same {g f : Nat → D} {N k : Nat} (h : g k = f k) : mixL g f N (k + 1) = mixL g f N k := by
 apply List.map_congr_left
 intro j _
 by_cases e : j = k
 ·subst e; rw [if_pos (by omega), if_neg (by omega)]; exact h
 ·by_cases h3 : j < k
  ·rw [if_pos h3, if_pos (by omega)]
  ·rw [if_neg h3, if_neg (by omega)]

theorem flow_loop {N k p : Nat} (hN : N ≤ 40) (hk : k ≤ N) (hn : 1300 ≤ p) (hN0 : N ≠ 0) {m : Int} (hm : m = flM N k) (h : Q [.slc (rowsK N k)]) :
  L16_8 p p (.int (k : Int)) (.int m) (.bool (iEq ((nxt N k).length : Int) 0)) (colL N) (.int (N : Int)) (.int ((0 : Nat) : Int)) (.slc (List.replicate N (.int 0))) Q := by
 have e0 : D.slc (List.replicate N (.int 0)) = .slc (mixL (fun j => .int (flC N k j)) (fun _ => .int 0) N 0) := by rw [mix_zero, rng_const]
 rw [e0]
 refine up_loop (L := fun q i => L16_8 p q (.int (k : Int)) (.int m) (.bool (iEq ((nxt N k).length : Int) 0)) (colL N) (.int (N : Int)) (.int (i : Int)) (.slc (mixL (fun j => .int (flC N k j)) (fun _ => .int 0) N i)) Q) (N := N) (fun q i hi hL => ?_) (fun q => ?_) p 0 (by omega) (by omega)
 ·rw [L16_8_eq]
  have c1 : D.el (colL N) (i : Int) = colE i := rng_el hi
  have c2 : List.getD (D.fs (colE i)) (Int.toNat (0 : Int)) .und = .int (i : Int) := rfl
  have c3 : List.getD (D.fs (colE i)) (Int.toNat (1 : Int)) .und = .int ((i + 1 : Nat) : Int) := rfl
  have c4 : D.len (colL N) = (N : Int) := rng_len _ _
  simp only [i_int, c1, c2, c3, c4, toNat_nat, xs_slc, len_slc, mix_len, mix_get hi, if_neg (Nat.lt_irrefl i), wr1 (show i ≤ 4000000000 by omega), b_bool, List.length_set]
  have w1 : IntKind.wrap .i64 ((0 : Int) + 1) = 1 := rfl
  have w2 : IntKind.wrap .i64 ((0 : Int) - 1) = -1 := rfl
  rw [w1, w2]
  refine cLt (fun _ => ⟨⟨by omega, by omega⟩, trivial, ⟨by omega, by omega⟩, ?_⟩) fun c => by omega
  refine cEq (fun ce => ?_) fun ce => ?_
  ·have ce : i = k := by omega
   refine ⟨⟨by omega, by omega⟩, ⟨by omega, by omega⟩, trivial, ⟨by omega, by omega⟩, cEq (fun c => by omega) fun _ => ⟨⟨by omega, by omega⟩, cEq (fun c => by omega) fun _ => ?_⟩⟩
   have eg : D.int (flC N k i) = .int 1 := by unfold flC; rw [if_pos ce]
   rw [← mix_set, eg] at hL
   exact hL
  ·refine ⟨⟨by omega, by omega⟩, cEq (fun c => ?_) fun c => ⟨⟨by omega, by omega⟩, cEq (fun c' => absurd c' c) fun _ => ?_⟩⟩
   ·refine cnd (fun hl => ?_) fun hl => ?_
    ·have hkN : k = N := by
      have := iEq_iff.mp hl
      unfold nxt at this
      by_cases h : k < N
      ·rw [if_pos h] at this; simp at this
      ·omega
     have eg : D.int (flC N k i) = .int 1 := by unfold flC; rw [if_neg (by omega), if_pos (by omega), if_pos hkN]
     rw [← mix_set, eg] at hL
     exact ⟨⟨by omega, by omega⟩, ⟨by omega, by omega⟩, trivial, hL⟩
    ·have hkN : k ≠ N := by
      have := iEq_not.mp hl
      intro e
      apply this
      unfold nxt
      rw [if_neg (by omega)]; rfl
     have eg : D.int (flC N k i) = .int (-1) := by unfold flC; rw [if_neg (by omega), if_pos (by omega), if_neg hkN]
     rw [← mix_set, eg] at hL
     exact ⟨⟨by omega, by omega⟩, cEq (fun _ => ⟨⟨by omega, by omega⟩, ⟨by omega, by omega⟩, trivial, hL⟩) fun c' => absurd c c'⟩
   ·have eg : D.int (flC N k i) = .int 0 := by unfold flC; rw [if_neg (by omega), if_neg (by omega)]
    rw [mix_same (g := fun j => .int (flC N k j)) eg] at hL
    exact hL
 ·rw [L16_8_eq]
  simp only [i_int]
  rw [mix_all]
  refine cLt (fun c => by omega) fun _ => ?_
  have := flM_rng N k
  refine both_wp (by omega) (by omega) (fun j => by have := flC_rng N k j; omega) (by omega) ?_
  rw [rs0, hm]
  unfold rowsK at h
  rw [if_neg hN0] at h
  exact h

theorem flows_wp {N k : Nat} (hN : N ≤ 40) (hk : k ≤ N) (hn : 1400 ≤ n) (h : Q [.slc (rowsK N k)]) : wpF Tryz.prog A n 16 [chU N, colL N, .int (k : Int)] Q := by
 obtain ⟨p, rfl⟩ : ∃ p, n = p + 1 := ⟨n - 1, by omega⟩
 rw [E16, u1, nlen]
 have c4 : D.len (colL N) = (N : Int) := rng_len _ _
 simp only [i_int, c4, toNat_nat, node_at hk, len_slc]
 refine ⟨⟨by omega, by omega, by unfold room; omega⟩, ⟨by omega, by omega⟩, ?_⟩
 have hl : ((nxt N k).length : Int) = 0 → k = N := fun h => by
  unfold nxt at h
  by_cases h1 : k < N
  ·rw [if_pos h1] at h; simp at h
  ·omega
 have hl2 : k = N → ((nxt N k).length : Int) = 0 := fun h => by
  unfold nxt
  rw [if_neg (by omega)]; rfl
 have e0 : k = 0 → k = N → Q [.slc []] := fun h1 h2 => by
  unfold rowsK at h
  rw [if_pos (by omega)] at h
  exact h
 have nn : ¬ ((nxt N k).length : Int) = 0 → N ≠ 0 := fun h h1 => h (hl2 (by omega))
 refine cEq (fun k0 => cEq (fun _ => cEq (fun c => e0 (by omega) (hl c)) fun c => flow_loop hN hk (by omega) (nn c) ?_ h) fun c => absurd k0 c) fun k0 => cEq (fun c => cEq (fun c' => absurd c' k0) fun _ => flow_loop hN hk (by omega) (by omega) ?_ h) fun c => cEq (fun c' => absurd c' k0) fun _ => flow_loop hN hk (by omega) (by omega) ?_ h
 ·unfold flM; rw [if_pos (by omega)]
 ·unfold flM; rw [if_pos (Or.inr (hl c))]
 ·unfold flM; rw [if_neg (fun h => h.elim (fun h => k0 (by omega)) fun h => c (hl2 h))]
end
end Go.Ab

/- Units that are chains: their integer program. -/
namespace Go.Ab
open Go.Proofs
attribute [local irreducible] wpF
set_option maxRecDepth 100000

def rowsUp (N : Nat) : Nat → List D
 | 0 => []
 | k + 1 => rowsUp N k ++ rowsK N k
def goalP (ws : List Int) : List (Int × Int) := tmP (fun j => ws.getD j 0) ws.length
/-- The integer program of a chain. -/
def mdl (ws : List Int) (e : Int) : D := .agg [.int (ws.length : Int), .slc (rowsUp ws.length (ws.length + 1)), tmL (goalP ws), .int e]

theorem rowsUp_succ (N k : Nat) : rowsUp N (k + 1) = rowsUp N k ++ rowsK N k := rfl
theorem rowsUp_zero : ∀ k, rowsUp 0 k = []
 | 0 => rfl
 | k + 1 => by rw [rowsUp_succ, rowsUp_zero k]; rfl
theorem rowsUp_len {N : Nat} (h : N ≠ 0) : ∀ k, (rowsUp N k).length = 2 * k
 | 0 => rfl
 | k + 1 => by
  rw [rowsUp_succ, List.length_append, rowsUp_len h k]
  unfold rowsK
  rw [if_neg h]
  simp
  omega
theorem rowsUp_le (N k : Nat) : (rowsUp N k).length ≤ 2 * k := by
 by_cases h : N = 0
 ·subst h; rw [rowsUp_zero]; simp
 ·rw [rowsUp_len h]; omega
theorem rowsUp_mem {N : Nat} : ∀ {k : Nat} {x : D}, x ∈ rowsUp N k → ∃ i, i < k ∧ (x = rowA N i ∨ x = rowZ N i)
 | 0, x, h => by cases h
 | k + 1, x, h => by
  rw [rowsUp_succ] at h
  rcases List.mem_append.mp h with h | h
  ·obtain ⟨i, h1, h2⟩ := rowsUp_mem h
   exact ⟨i, by omega, h2⟩
  ·unfold rowsK at h
   by_cases h0 : N = 0
   ·rw [if_pos h0] at h; cases h
   ·rw [if_neg h0] at h
    refine ⟨k, by omega, ?_⟩
    rcases List.mem_cons.mp h with h | h
    ·exact Or.inl h
    ·exact Or.inr (List.mem_singleton.mp h)
theorem rowsUp_at {N : Nat} (h : N ≠ 0) : ∀ {k i : Nat}, i < k → (rowsUp N k).getD (2 * i) .und = rowA N i
 | 0, i, hi => by omega
 | k + 1, i, hi => by
  have hl := rowsUp_len h k
  have ih := fun hi => rowsUp_at h (k := k) (i := i) hi
  rw [rowsUp_succ, List.getD_eq_getElem?_getD]
  by_cases h2 : i < k
  ·rw [List.getElem?_append_left (by omega), ← List.getD_eq_getElem?_getD]
   exact ih h2
  ·have : i = k := by omega
   subst this
   rw [List.getElem?_append_right (by omega), hl, Nat.sub_self]
   unfold rowsK
   rw [if_neg h]; rfl

theorem md0 (ws : List Int) (e : Int) : D.fld (mdl ws e) 0 = .int (ws.length : Int) := rfl
theorem md1 (ws : List Int) (e : Int) : D.fld (mdl ws e) 1 = .slc (rowsUp ws.length (ws.length + 1)) := rfl
theorem md2 (ws : List Int) (e : Int) : D.fld (mdl ws e) 2 = tmL (goalP ws) := rfl
theorem md3 (ws : List Int) (e : Int) : D.fld (mdl ws e) 3 = .int e := rfl

theorem neg_mem {l : List (Int × Int)} {p : Int × Int} (h : p ∈ negP l) : ∃ q ∈ l, p = (q.1, -q.2) := by
 obtain ⟨q, h1, h2⟩ := List.mem_map.mp h
 exact ⟨q, h1, h2.symm⟩
theorem flow_terms (N k : Nat) : termsB (tmL (tmP (flC N k) N)) (N : Int) 1048576 = true := by
 refine tm_terms (tmP_inc _ _) fun p hp => ?_
 obtain ⟨i, h1, h2, h3⟩ := tmP_mem hp
 have := flC_rng N k i
 subst h2
 exact ⟨by show (0 : Int) ≤ (i : Int); omega, by show (i : Int) < (N : Int); omega, by show -1048576 ≤ flC N k i; omega, by show flC N k i ≤ 1048576; omega, h3⟩
theorem flow_neg (N k : Nat) : termsB (tmL (negP (tmP (flC N k) N))) (N : Int) 1048576 = true := by
 refine tm_terms ?_ fun p hp => ?_
 ·unfold negP
  exact List.pairwise_map.mpr (tmP_inc _ _)
 obtain ⟨q, hq, hpq⟩ := neg_mem hp
 obtain ⟨i, h1, h2, h3⟩ := tmP_mem hq
 have := flC_rng N k i
 subst hpq; subst h2
 exact ⟨by show (0 : Int) ≤ (i : Int); omega, by show (i : Int) < (N : Int); omega, by show -1048576 ≤ -flC N k i; omega, by show -flC N k i ≤ 1048576; omega, by show -flC N k i ≠ 0; omega⟩
theorem goal_terms {ws : List Int} {e : Int} (hW : Ws ws e) : termsB (tmL (goalP ws)) (ws.length : Int) 16777216 = true := by
 refine tm_terms (tmP_inc _ _) fun p hp => ?_
 obtain ⟨i, h1, h2, h3⟩ := tmP_mem hp
 have := hW.w i h1
 subst h2
 exact ⟨by show (0 : Int) ≤ (i : Int); omega, by show (i : Int) < (ws.length : Int); omega, by show -16777216 ≤ ws.getD i 0; omega, by show ws.getD i 0 ≤ 16777216; omega, h3⟩
theorem row_good {N : Nat} {x : D} {k : Nat} (h : x ∈ rowsUp N k) : rowB x (N : Int) = true ∧ D.len (D.fld x 0) ≤ 1100 ∨ 1100 < N := by
 by_cases hN : 1100 < N
 ·exact Or.inr hN
 left
 obtain ⟨i, _, h⟩ := rowsUp_mem h
 have hm := flM_rng N i
 have hl := tmP_len (flC N i) N
 unfold rowB wi34
 rcases h with h | h
 ·subst h
  have f0 : D.fld (rowA N i) 0 = tmL (tmP (flC N i) N) := rfl
  have f1 : D.fld (rowA N i) 1 = .int (flM N i) := rfl
  rw [f0, f1, flow_terms, i_int, iLe_iff.mpr (by omega), iLe_iff.mpr (by omega), tm_len]
  exact ⟨rfl, by omega⟩
 ·subst h
  have f0 : D.fld (rowZ N i) 0 = tmL (negP (tmP (flC N i) N)) := rfl
  have f1 : D.fld (rowZ N i) 1 = .int (-flM N i) := rfl
  rw [f0, f1, flow_neg, i_int, iLe_iff.mpr (by omega), iLe_iff.mpr (by omega), tm_len]
  refine ⟨rfl, ?_⟩
  unfold negP
  rw [List.length_map]
  omega
theorem mdl_el {ws : List Int} {i : Nat} (hi : (i : Int) < D.len (.slc (rowsUp ws.length (ws.length + 1)))) : D.el (.slc (rowsUp ws.length (ws.length + 1))) (i : Int) ∈ rowsUp ws.length (ws.length + 1) := by
 rw [len_slc] at hi
 exact getD_in (by omega)
theorem mdl_mo {ws : List Int} {e : Int} (hW : Ws ws e) : Mo (mdl ws e) := by
 have hN := hW.len
 have hr := rowsUp_le ws.length (ws.length + 1)
 refine ⟨by rw [md1, len_slc]; omega, fun i hi => ?_, ?_⟩
 ·rw [md1] at hi ⊢
  rcases row_good (mdl_el hi) with h | h
  ·have := h.2; omega
  ·omega
 ·rw [md2, tm_len]
  have := tmP_len (fun j => ws.getD j 0) ws.length
  unfold goalP
  omega
theorem mdl_ok {ws : List Int} {e : Int} (hW : Ws ws e) : modB (mdl ws e) = true := by
 have hN := hW.len
 have he := hW.e
 have hr := rowsUp_le ws.length (ws.length + 1)
 unfold modB wi34
 rw [md0, md1, md2, md3, i_int, i_int, goal_terms hW, iLe_iff.mpr (by omega), iLe_iff.mpr (by omega), iLe_iff.mpr (by rw [len_slc]; omega), iLe_iff.mpr (by omega), iLe_iff.mpr (by omega), anyB_false fun i hi => ?_]
 ·rfl
 ·have := ln0 (.slc (rowsUp ws.length (ws.length + 1)))
  rcases row_good (mdl_el (show (i : Int) < D.len (.slc (rowsUp ws.length (ws.length + 1))) by omega)) with h | h
  ·rw [h.1]; rfl
  ·omega

section
variable {n : Nat} {Q : List D → Prop}

theorem modl_wp {ws : List Int} {e : Int} (hW : Ws ws e) (hn : 1100400 ≤ n) (h : Q [mdl ws e, .int 0]) : wpF Tryz.prog A n 6 [chU ws.length, chC ws e] Q := by
 have hN := hW.len
 obtain ⟨p, rfl⟩ : ∃ p, n = p + 1 := ⟨n - 1, by omega⟩
 rw [E6]
 refine checkU_wp hW (by omega) ?_
 rw [rs0, i_int]
 refine cNe (fun c => absurd rfl c) fun _ => cols_wp hN (by omega) (end_wp hN (by omega) ?_)
 rw [rs0, rs0, i_int, c0, clen, cost_at (Nat.le_refl _), ws_last]
 refine ⟨⟨by omega, by omega⟩, ⟨by omega, by simp [len_slc]⟩, trivial, reached_wp hN (by omega) ?_⟩
 have e1 : D.el (.slc [.int e]) 0 = .int e := rfl
 have e2 : D.len (colL ws.length) = (ws.length : Int) := rng_len _ _
 rw [rs0, tr_len, e1, e2]
 refine up_loop (L := fun m k => L6_7 p m (.int ((ws.length + 1 : Nat) : Int)) (.int (k : Int)) (chU ws.length) (chC ws e) (.agg [.int 0, .slc [], .slc [], .int 0]) (.agg [.int (ws.length : Int), .slc (rowsUp ws.length k), .slc [], .int e]) (colL ws.length) (trues (ws.length + 1)) Q) (N := ws.length + 1) (fun m k hk hL => ?_) (fun m => ?_) p 0 (by omega) (by omega)
 ·rw [L6_7_eq]
  simp only [i_int, toNat_nat, fld0, fldS, xs_slc]
  rw [tr_len, tr_get hk, b_bool, cond_true, wr1 (by omega)]
  refine cLt (fun _ => ⟨⟨by omega, by omega⟩, flows_wp hN (by omega) (by omega) ⟨?_, trivial, hL⟩⟩) fun c => by omega
  have h1 := rowsUp_le ws.length k
  have h2 : (rowsK ws.length k).length ≤ 2 := by unfold rowsK; split <;> simp
  rw [rs0, xs_slc]
  unfold room
  omega
 ·rw [L6_7_eq]
  simp only [i_int]
  refine cLt (fun c => by omega) fun _ => ?_
  obtain ⟨q, rfl⟩ : ∃ q, p = q + 1 := ⟨p - 1, by omega⟩
  rw [u2, len_slc, L6_13_eq]
  simp only [i_int]
  refine cLt (fun c => absurd c (by simp)) fun _ => ?_
  rw [u5, len_slc, L6_18_eq]
  simp only [i_int]
  refine cLt (fun c => absurd c (by simp)) fun _ => ?_
  rw [u2, len_slc]
  refine ⟨⟨by omega, by rw [e2]; omega, by rw [e2]; unfold room; omega⟩, ⟨by simp, by simp, by unfold room; simp⟩, edgesP_wp hW (by omega) ?_⟩
  have e3 : D.len (edL ws) = (ws.length : Int) := rng_len _ _
  rw [rs0, e3]
  refine up_loop (L := fun m k => L6_24 (q + 1) m (edL ws) (.int (ws.length : Int)) (.int (k : Int)) (.agg [.int 0, .slc [], .slc [], .int 0]) (.agg [.int (ws.length : Int), .slc (rowsUp ws.length (ws.length + 1)), .slc [], .int e]) (.slc ((List.range k).map fun j => .int (ws.getD j 0))) Q) (N := ws.length) (fun m k hk hL => ?_) (fun m => ?_) (q + 1) 0 (by omega) (by omega)
  ·rw [L6_24_eq]
   have e4 : D.el (edL ws) (k : Int) = edE ws k := rng_el hk
   have e5 : D.fld (edE ws k) 3 = .int (ws.getD k 0) := rfl
   simp only [i_int]
   rw [e3, e4, e5, xs_slc, ← rng_succ (fun j => D.int (ws.getD j 0)), wr1 (by omega)]
   refine cLt (fun _ => ⟨⟨by omega, by omega⟩, trivial, ?_, hL⟩) fun c => by omega
   unfold room
   simp
   omega
  ·rw [L6_24_eq]
   simp only [i_int]
   refine cLt (fun c => by omega) fun _ => cof_wp (by omega) (by omega) ⟨trivial, ?_⟩
   simp only [fld0, fldS, rs0]
   refine model_wp (m := mdl ws e) (mdl_mo hW) (by omega) ?_
   rw [mdl_ok hW]
   exact cNot (fun c => by cases c) fun _ => ⟨trivial, h⟩
end
end Go.Ab

/- Units that are chains: the leaf of their certificate. -/
namespace Go.Ab
open Go.Proofs
attribute [local irreducible] wpF
set_option maxRecDepth 100000

/-- Maps of numbers. -/
def mpD (l : List (Int × Int)) : List (D × D) := l.map fun p => (.int p.1, .int p.2)
def leafD (l : List (Int × Int)) : D := .agg [.int (-1), .int (-1), .slc [], .int 0, tmL l, .int 1]
/-- The multipliers of a chain. -/
def entP (ws : List Int) : Nat → List (Int × Int)
 | 0 => []
 | k + 1 => entP ws k ++ cond (iEq (suf ws k) 0) [] [(((2 * k : Nat) : Int), suf ws k)]
def valL (ws : List Int) : D := .slc ((List.range (ws.length + 1)).map fun j => .int (suf ws j))
theorem entP_succ (ws : List Int) (k : Nat) : entP ws (k + 1) = entP ws k ++ cond (iEq (suf ws k) 0) [] [(((2 * k : Nat) : Int), suf ws k)] := rfl
theorem entP_mem {ws : List Int} : ∀ {k : Nat} {p : Int × Int}, p ∈ entP ws k → ∃ i, i < k ∧ p = (((2 * i : Nat) : Int), suf ws i) ∧ suf ws i ≠ 0
 | 0, p, h => by cases h
 | k + 1, p, h => by
  rw [entP_succ] at h
  rcases List.mem_append.mp h with h | h
  ·obtain ⟨i, h1, h2⟩ := entP_mem h
   exact ⟨i, by omega, h2⟩
  ·cases e : iEq (suf ws k) 0 with
   | true => rw [e] at h; cases h
   | false =>
    rw [e] at h
    exact ⟨k, by omega, List.mem_singleton.mp h, iEq_not.mp e⟩
theorem entP_inc (ws : List Int) : ∀ k, (entP ws k).Pairwise fun p q => p.1 < q.1
 | 0 => List.Pairwise.nil
 | k + 1 => by
  rw [entP_succ]
  refine List.pairwise_append.mpr ⟨entP_inc ws k, by cases iEq (suf ws k) 0 <;> simp, fun p hp q hq => ?_⟩
  obtain ⟨i, h1, h2, _⟩ := entP_mem hp
  cases e : iEq (suf ws k) 0 with
  | true => rw [e] at hq; cases hq
  | false =>
   rw [e] at hq
   have := List.mem_singleton.mp hq
   subst this; subst h2
   show (((2 * i : Nat) : Int)) < ((2 * k : Nat) : Int)
   omega
theorem entP_len (ws : List Int) : ∀ k, (entP ws k).length ≤ k
 | 0 => Nat.le_refl 0
 | k + 1 => by
  have := entP_len ws k
  rw [entP_succ, List.length_append]
  cases iEq (suf ws k) 0 <;> simp <;> omega

theorem mp_none {k : Int} : ∀ {l : List (Int × Int)}, (∀ p ∈ l, p.1 ≠ k) → mapGet (mpD l) (.int k) = none
 | [], _ => rfl
 | p :: l, h => by
  have h1 : D.same 8 (.int p.1) (.int k) = false := decide_eq_false_iff_not.mpr (h p (List.mem_cons_self ..))
  show cond (D.same 8 (.int p.1) (.int k)) _ (mapGet (mpD l) (.int k)) = none
  rw [h1]
  exact mp_none fun q hq => h q (List.mem_cons_of_mem _ hq)
theorem mp_put {k v : Int} : ∀ {l : List (Int × Int)}, (∀ p ∈ l, p.1 ≠ k) → mapPut (mpD l) (.int k) (.int v) = mpD (l ++ [(k, v)])
 | [], _ => rfl
 | p :: l, h => by
  have h1 : D.same 8 (.int p.1) (.int k) = false := decide_eq_false_iff_not.mpr (h p (List.mem_cons_self ..))
  show cond (D.same 8 (.int p.1) (.int k)) _ ((.int p.1, .int p.2) :: mapPut (mpD l) (.int k) (.int v)) = _
  rw [h1, mp_put fun q hq => h q (List.mem_cons_of_mem _ hq)]
  rfl

theorem erase_perm {α : Type} {d : α} : ∀ {l : List α} {i : Nat}, i < l.length → (l.getD i d :: l.eraseIdx i).Perm l
 | a :: l, 0, _ => List.Perm.refl _
 | a :: l, i + 1, h => by
  have := erase_perm (d := d) (l := l) (i := i) (by simpa using h)
  exact (List.Perm.swap a (l.getD i d) (l.eraseIdx i)).trans (this.cons a)
theorem erase_map {α β : Type} (f : α → β) : ∀ (l : List α) (i : Nat), (l.map f).eraseIdx i = (l.eraseIdx i).map f
 | [], _ => rfl
 | _ :: _, 0 => rfl
 | a :: l, i + 1 => by
  show f a :: (l.map f).eraseIdx i = f a :: (l.eraseIdx i).map f
  rw [erase_map f l i]
theorem tm_inj : ∀ {l m : List (Int × Int)}, l.map tmD = m.map tmD → l = m
 | [], [], _ => rfl
 | [], _ :: _, h => by cases h
 | _ :: _, [], h => by cases h
 | (a, b) :: l, (c, d) :: m, h => by
  have h1 : tmD (a, b) = tmD (c, d) := (List.cons.inj h).1
  have h2 := tm_inj (List.cons.inj h).2
  unfold tmD at h1
  injection h1 with h1
  injection h1 with h3 h4
  injection h4 with h4 h5
  injection h3 with h3
  injection h4 with h4
  rw [h2]
  simp only at h3 h4
  rw [h3, h4]
theorem pair_eq {l : List (Int × Int)} (hp : l.Pairwise fun p q => p.1 < q.1) : ∀ p q, p ∈ l → q ∈ l → p.1 = q.1 → p = q := by
 induction hp with
 | nil => intro p q h; cases h
 | cons h _ ih =>
  intro p q hp hq e
  rcases List.mem_cons.mp hp with h1 | h1 <;> rcases List.mem_cons.mp hq with h2 | h2
  ·rw [h1, h2]
  ·subst h1; have := h _ h2; omega
  ·subst h2; have := h _ h1; omega
  ·exact ih p q h1 h2 e

section
variable {n : Nat} {Q : List D → Prop}

theorem sort115 (m : Nat) (a b : D) (Q : List D → Prop) : wpF Tryz.prog A (m + 1) 115 [a, b] Q = ((∃ r, sortPost [a, b] r) ∧ ∀ r, sortPost [a, b] r → Q r) := by kernel_rfl

theorem leafM_wp {l : List (Int × Int)} (hp : l.Pairwise fun p q => p.1 < q.1) (hb : ∀ p ∈ l, 0 ≤ p.1 ∧ p.1 < 4000000000) (hl : l.length ≤ 1000) (hn : 1200 ≤ n) (h : Q [leafD l, .map (mpD l)]) : wpF Tryz.prog A n 83 [.map (mpD l), .int 1] Q := by
 obtain ⟨p, rfl⟩ : ∃ p, n = p + 2 := ⟨n - 2, by omega⟩
 rw [E83]
 refine ⟨trivial, ?_⟩
 have hz : ∀ z : D, ∀ m (rest acc : List (Int × Int)) (it : D), D.es it = mpD rest → rest.length < m → (acc ++ rest).Perm l →
   L83_3 (p + 1) m (.map (mpD l)) z (.agg [.int (-1), .int (-1), .slc [], .int 0, tmL acc, .int 1]) it Q := by
  intro z m
  induction m with
  | zero => intro rest _ _ _ h; omega
  | succ m ih =>
   intro rest acc it he hm hpm
   have hal : acc.length + rest.length = l.length := by rw [← List.length_append]; exact hpm.length_eq
   rw [L83_3_eq, he]
   simp only [fld0, fldS]
   refine ⟨fun e => ?_, fun i hi => ?_⟩
   ·have e0 : rest = [] := List.map_eq_nil_iff.mp e
    subst e0
    rw [List.append_nil] at hpm
    rw [sort115]
    refine ⟨⟨[.slc (l.map tmD)], acc, l, rfl, fun q hq => hb q (hpm.mem_iff.mp hq), by omega, rfl, hpm.symm, hp.imp fun h => by omega⟩, fun r hr => ?_⟩
    obtain ⟨l1, l2, h1, h2, h3, h4, h5, h6⟩ := hr
    have e1 : l1 = acc := by
     injection h1 with h1
     injection h1 with h1
     exact (tm_inj h1).symm
    subst e1
    have hpl : l2.Perm l := h5.trans hpm
    have e2 : l2 = l := hpl.eq_of_pairwise (le := fun p q => p.1 ≤ q.1) (fun a b ha hb' h7 h8 => pair_eq hp a b (hpl.mem_iff.mp ha) hb' (by omega)) h6 (hp.imp fun h => by omega)
    subst e2
    subst h4
    exact ⟨trivial, h⟩
   ·have hi' : i < rest.length := by simpa [mpD] using hi
    have e1 : (mpD rest).getD i (D.und, D.und) = (.int (rest.getD i (0, 0)).1, .int (rest.getD i (0, 0)).2) := by
     simp [mpD, List.getD_eq_getElem?_getD, hi']
    rw [e1]
    have e2 : D.slc (D.xs (tmL acc) ++ [.agg [.int (rest.getD i (0, 0)).1, .int (rest.getD i (0, 0)).2]]) = tmL (acc ++ [rest.getD i (0, 0)]) := by
     unfold tmL
     rw [List.map_append]; rfl
    simp only
    rw [e2]
    have hel : (rest.eraseIdx i).length = rest.length - 1 := List.length_eraseIdx_of_lt hi'
    refine ⟨?_, trivial, ih (rest.eraseIdx i) _ _ (erase_map _ rest i) (by omega) ?_⟩
    ·unfold room
     rw [show (D.xs (tmL acc)).length = acc.length by simp [tmL, D.xs]]
     simp only [List.length_singleton]
     omega
    ·rw [List.append_assoc]
     exact (List.Perm.append_left acc (erase_perm (d := (0, 0)) hi')).trans hpm
 exact hz _ (p + 1) l [] _ rfl (by omega) (List.Perm.refl _)

theorem add_wp {l : List (Int × Int)} {k v : Int} (hk : ∀ p ∈ l, p.1 ≠ k) (hv : 0 ≤ v ∧ v ≤ 1000000) (hn : 10 ≤ n) (h : Q [.map (mpD (l ++ cond (iEq v 0) [] [(k, v)]))]) : wpF Tryz.prog A n 82 [.map (mpD l), .int k, .int v] Q := by
 obtain ⟨p, rfl⟩ : ∃ p, n = p + 1 := ⟨n - 1, by omega⟩
 rw [E82]
 simp only [i_int]
 refine cLt (fun c => ?_) fun c => ?_
 ·rw [es_map, mp_none hk]
  have e : (Option.getD none (D.int 0)) = D.int 0 := rfl
  rw [e, i_int, wrap_id (by omega) (by omega), Int.zero_add, mp_put hk]
  rw [iEq_not.mpr (by omega)] at h
  exact h
 ·rw [iEq_iff.mpr (by omega), cond_true, List.append_nil] at h
  exact h
theorem addN_wp {d : D} {k : D} {v : Int} (hv : v ≤ 0) (hn : 10 ≤ n) (h : Q [d]) : wpF Tryz.prog A n 82 [d, k, .int v] Q := by
 obtain ⟨p, rfl⟩ : ∃ p, n = p + 1 := ⟨n - 1, by omega⟩
 rw [E82]
 simp only [i_int]
 exact cLt (fun c => by omega) fun c => h

theorem lost_wp {N k : Nat} (hk : k ≤ N) (hn : 10 ≤ n) (h : Q [.bool false]) : wpF Tryz.prog A n 117 [.int (k : Int), falses (N + 1), trues (N + 1)] Q := by
 obtain ⟨p, rfl⟩ : ∃ p, n = p + 1 := ⟨n - 1, by omega⟩
 rw [E117]
 have e1 : D.el (trues (N + 1)) (k : Int) = .bool true := tr_get (by omega)
 rw [i_int, fs_len, fs_el (by omega), tr_len, e1]
 exact ⟨⟨by omega, by omega⟩, cNot (fun _ => ⟨⟨by omega, by omega⟩, h⟩) fun c => by cases c⟩

theorem values_wp {ws : List Int} {e : Int} (hW : Ws ws e) (hn : 200 ≤ n) (h : Q [valL ws]) : wpF Tryz.prog A n 86 [edL ws, falses (ws.length + 1), potL ws e, trues (ws.length + 1), .int e] Q := by
 have hN := hW.len
 obtain ⟨p, rfl⟩ : ∃ p, n = p + 1 := ⟨n - 1, by omega⟩
 rw [E86, pot_len, toNat_nat]
 refine ⟨⟨by omega, by omega, by unfold room; omega⟩, ?_⟩
 have t4 : D.len (edL ws) = (ws.length : Int) := rng_len _ _
 have te : ∀ {k : Nat}, k < ws.length → D.el (edL ws) (k : Int) = edE ws k := fun hk => rng_el hk
 have f0 : ∀ k, D.fld (edE ws k) 0 = .int (k : Int) := fun _ => rfl
 have f2 : ∀ k, D.fld (edE ws k) 2 = .int ((k + 1 : Nat) : Int) := fun _ => rfl
 have lr : ∀ d : D, D.len (.slc (List.replicate (ws.length + 1) d)) = ((ws.length + 1 : Nat) : Int) := fun d => by rw [len_slc, List.length_replicate]
 rw [lr]
 refine up_loop (L := fun m k => L86_4 p m (edL ws) (potL ws e) (.int e) (.int ((ws.length + 1 : Nat) : Int)) (.int (k : Int)) (falses (ws.length + 1)) (trues (ws.length + 1)) (.slc (List.replicate (ws.length + 1) (.int 0))) Q) (N := ws.length + 1) (fun m k hk hL => ?_) (fun m => ?_) p 0 (by omega) (by omega)
 ·rw [L86_4_eq]
  simp only [i_int]
  refine cLt (fun _ => ?_) fun c => by omega
  rw [t4]
  refine up_loop (L := fun q i => L86_6 p m q (edL ws) (potL ws e) (.int e) (.int ((ws.length + 1 : Nat) : Int)) (.int (k : Int)) (edL ws) (.int (ws.length : Int)) (.int (i : Int)) (falses (ws.length + 1)) (trues (ws.length + 1)) (.slc (List.replicate (ws.length + 1) (.int 0))) Q) (N := ws.length) (fun q i hi hL2 => ?_) (fun q => ?_) p 0 (by omega) (by omega)
  ·rw [L86_6_eq]
   simp only [i_int]
   rw [te hi, f0, f2, t4, wr1 (by omega)]
   refine cLt (fun _ => ⟨⟨by omega, by omega⟩, trivial, lost_wp (by omega) (by omega) ?_⟩) fun c => by omega
   exact hL2
  ·rw [L86_6_eq]
   simp only [i_int]
   rw [wr1 (k := k) (by omega)]
   exact cLt (fun c => by omega) fun _ => hL
 ·rw [L86_4_eq]
  simp only [i_int]
  refine cLt (fun c => by omega) fun _ => ?_
  rw [lr]
  have e0 : D.slc (List.replicate (ws.length + 1) (.int 0)) = .slc (mixL (fun j => .int (suf ws j)) (fun _ => .int 0) (ws.length + 1) 0) := by rw [mix_zero, rng_const]
  rw [e0]
  refine up_loop (L := fun m k => L86_13 p m (edL ws) (potL ws e) (.int e) (.int ((ws.length + 1 : Nat) : Int)) (.int (k : Int)) (falses (ws.length + 1)) (trues (ws.length + 1)) (.slc (mixL (fun j => .int (suf ws j)) (fun _ => .int 0) (ws.length + 1) k)) Q) (N := ws.length + 1) (fun m k hk hL => ?_) (fun m => ?_) p 0 (by omega) (by omega)
  ·rw [L86_13_eq]
   have e1 : D.el (trues (ws.length + 1)) (k : Int) = .bool true := tr_get (by omega)
   have s1 := suf_bd hW k
   have s2 := hW.e
   simp only [i_int, toNat_nat, xs_slc]
   rw [tr_len, e1, pot_len, pot_at (by omega), i_int, len_slc, mix_len, wr1 (by omega), show IntKind.wrap .i64 (suf ws k + e - e) = suf ws k by rw [wrap_id (by omega) (by omega)]; omega]
   rw [mix_set (g := fun j => D.int (suf ws j))]
   exact cLt (fun _ => ⟨⟨by omega, by omega⟩, cnd (fun _ => ⟨⟨by omega, by omega⟩, ⟨by omega, by omega⟩, trivial, hL⟩) fun c => by cases c⟩) fun c => by omega
  ·rw [L86_13_eq, mix_all]
   simp only [i_int]
   refine cLt (fun c => by omega) fun _ => ?_
   have el : D.len (.slc ((List.range (ws.length + 1)).map fun j => .int (suf ws j))) = ((ws.length + 1 : Nat) : Int) := rng_len _ _
   rw [t4]
   refine up_loop (L := fun q i => L86_20 p q (edL ws) (.int 0) (edL ws) (.int (ws.length : Int)) (.int (i : Int)) (falses (ws.length + 1)) (trues (ws.length + 1)) (valL ws) Q) (N := ws.length) (fun q i hi hL2 => ?_) (fun q => ?_) p 0 (by omega) (by omega)
   ·rw [L86_20_eq]
    have e1 : D.el (trues (ws.length + 1)) (i : Int) = .bool true := tr_get (by omega)
    simp only [i_int]
    rw [te hi, f0, f2, i_int, t4, tr_len, e1, wr1 (by omega)]
    refine cLt (fun _ => ⟨⟨by omega, by omega⟩, trivial, ⟨by omega, by omega⟩, cnd (fun _ => lost_wp (by omega) (by omega) ?_) fun c => by cases c⟩) fun c => by omega
    exact hL2
   ·rw [L86_20_eq]
    simp only [i_int]
    refine cLt (fun c => by omega) fun _ => ?_
    have el : D.len (valL ws) = ((ws.length + 1 : Nat) : Int) := rng_len _ _
    rw [el]
    refine up_loop (L := fun q i => L86_26 p q (edL ws) (.int 0) (.int ((ws.length + 1 : Nat) : Int)) (.int (i : Int)) (falses (ws.length + 1)) (trues (ws.length + 1)) (valL ws) Q) (N := ws.length + 1) (fun q i hi hL2 => ?_) (fun q => ?_) p 0 (by omega) (by omega)
    ·rw [L86_26_eq]
     simp only [i_int]
     rw [wr1 (by omega)]
     refine cLt (fun _ => lost_wp (by omega) (by omega) ?_) fun c => by omega
     exact hL2
    ·rw [L86_26_eq]
     simp only [i_int]
     refine cLt (fun c => by omega) fun _ => ?_
     rw [t4]
     refine up_loop (L := fun q i => L86_32 p q (edL ws) (.int (ws.length : Int)) (.int (i : Int)) (falses (ws.length + 1)) (valL ws) Q) (N := ws.length) (fun q i hi hL2 => ?_) (fun q => ?_) p 0 (by omega) (by omega)
     ·rw [L86_32_eq]
      simp only [i_int]
      rw [te hi, f0, f2, i_int, t4, fs_len, fs_el (by omega), wr1 (by omega)]
      exact cLt (fun _ => ⟨⟨by omega, by omega⟩, trivial, ⟨by omega, by omega⟩, cnd (fun c => by cases c) fun _ => hL2⟩) fun c => by omega
     ·rw [L86_32_eq]
      simp only [i_int]
      exact cLt (fun c => by omega) fun _ => h
end
end Go.Ab

/- Units that are chains: the cases of their certificate. -/
namespace Go.Ab
open Go.Proofs
attribute [local irreducible] wpF
set_option maxRecDepth 100000

/-- What the certificate is built with. -/
def prv (ws : List Int) (e : Int) (l : List D) : D := .agg [chU ws.length, chC ws e, mdl ws e, colL ws.length, .slc l]
def bnd (ws : List Int) (e : Int) : D := .agg [.slc [leafD (entP ws ws.length)], .int (suf ws 0 + e)]

section
variable {n : Nat} {Q : List D → Prop}

theorem kill_wp {N : Nat} {a b c d : D} (hN : N ≤ 1000) (hn : 1100 ≤ n) (h : Q [b]) : wpF Tryz.prog A n 87 [a, b, c, d, .slc (List.replicate N (.int 0))] Q := by
 obtain ⟨p, rfl⟩ : ∃ p, n = p + 1 := ⟨n - 1, by omega⟩
 rw [E87, len_slc, List.length_replicate]
 refine up_loop (L := fun q i => L87_1 p q a c d (.slc (List.replicate N (.int 0))) (.int (N : Int)) (.int (i : Int)) b Q) (N := N) (fun q i hi hL => ?_) (fun q => ?_) p 0 (by omega) (by omega)
 ·rw [L87_1_eq]
  have e1 : D.el (.slc (List.replicate N (.int 0))) (i : Int) = .int 0 := by simp [D.el, D.xs, List.getD_eq_getElem?_getD, hi]
  simp only [i_int]
  rw [e1, i_int, len_slc, List.length_replicate, wr1 (k := i) (by omega)]
  exact cLt (fun _ => ⟨⟨by omega, by omega⟩, trivial, cLe (fun _ => hL) fun c => absurd (Int.le_refl 0) c⟩) fun c => by omega
 ·rw [L87_1_eq]
  simp only [i_int]
  exact cLt (fun c => by omega) fun _ => h

theorem nodes_wp {ws : List Int} {e : Int} {l : List D} (hW : Ws ws e) (hn : 3200 ≤ n) (h : Q [.map (mpD (entP ws ws.length))]) : wpF Tryz.prog A n 88 [prv ws e l, .map [], valL ws] Q := by
 have hN := hW.len
 obtain ⟨p, rfl⟩ : ∃ p, n = p + 1 := ⟨n - 1, by omega⟩
 have g0 : D.fld (prv ws e l) 0 = chU ws.length := rfl
 rw [E88, g0]
 refine reached_wp hN (by omega) ?_
 rw [rs0, tr_len]
 have el : D.len (valL ws) = ((ws.length + 1 : Nat) : Int) := rng_len _ _
 refine up_loop (L := fun q i => L88_2 p q (prv ws e l) (valL ws) (.int ((2 * i : Nat) : Int)) (.int ((ws.length + 1 : Nat) : Int)) (.int (i : Int)) (.map (mpD (entP ws (min i ws.length)))) (trues (ws.length + 1)) Q) (N := ws.length + 1) (fun q i hi hL => ?_) (fun q => ?_) p 0 (by omega) (by omega)
 ·rw [L88_2_eq]
  have e1 : D.el (valL ws) (i : Int) = .int (suf ws i) := rng_el (f := fun j => .int (suf ws j)) hi
  have s1 := suf_bd hW i
  simp only [i_int, toNat_nat]
  rw [tr_len, tr_get hi, g0, u1, nlen, node_at (by omega), e1, el, i_int, wr1 (k := i) (by omega), wr1 (k := 2 * i) (by omega)]
  have w2 : IntKind.wrap .i64 (((2 * i : Nat) : Int) + 2) = ((2 * (i + 1) : Nat) : Int) := by rw [wrap_id (by omega) (by omega)]; omega
  rw [w2, show IntKind.wrap .i64 (0 - suf ws i) = -suf ws i by rw [wrap_id (by omega) (by omega)]; omega]
  refine cLt (fun _ => ⟨⟨by omega, by omega⟩, cNot (fun c => by cases c) fun _ => ⟨⟨by omega, by omega⟩, ?_⟩⟩) fun c => by omega
  refine cLt (fun c => ?_) fun c => ?_
  ·have hlt : i < ws.length := by
    unfold nxt at c
    by_cases h : i < ws.length
    ·exact h
    ·rw [if_neg h] at c
     exact absurd c (by simp [len_slc])
   have m1 : min i ws.length = i := by omega
   have m2 : min (i + 1) ws.length = i + 1 := by omega
   rw [m2, entP_succ] at hL
   rw [m1]
   refine ⟨⟨by omega, by omega⟩, add_wp (fun q hq => ?_) (by omega) (by omega) ⟨⟨by omega, by omega⟩, ?_⟩⟩
   ·obtain ⟨j, h1, h2, _⟩ := entP_mem hq
    subst h2
    show ((2 * j : Nat) : Int) ≠ ((2 * i : Nat) : Int)
    omega
   ·rw [rs0]
    refine addN_wp (by omega) (by omega) ?_
    exact hL
  ·have hge : ¬ i < ws.length := fun h => c (by unfold nxt; rw [if_pos h]; simp [len_slc])
   rw [show min (i + 1) ws.length = min i ws.length by omega] at hL
   exact hL
 ·rw [L88_2_eq]
  simp only [i_int]
  rw [show min (ws.length + 1) ws.length = ws.length by omega]
  exact cLt (fun c => by omega) fun _ => h

theorem ent_ok {ws : List Int} (hN : ws.length ≤ 40) : ∀ p ∈ entP ws ws.length, 0 ≤ p.1 ∧ p.1 < 4000000000 := fun p hp => by
 obtain ⟨j, h1, h2, _⟩ := entP_mem hp
 subst h2
 show (0 : Int) ≤ ((2 * j : Nat) : Int) ∧ ((2 * j : Nat) : Int) < 4000000000
 omega

theorem leafC_wp {ws : List Int} {e : Int} {l : List D} (hW : Ws ws e) (hn : 5000 ≤ n) (h : Q [leafD (entP ws ws.length)]) : wpF Tryz.prog A n 48 [prv ws e l, falses (ws.length + 1), .slc []] Q := by
 have hN := hW.len
 obtain ⟨p, rfl⟩ : ∃ p, n = p + 2 := ⟨n - 2, by omega⟩
 have g0 : D.fld (prv ws e l) 0 = chU ws.length := rfl
 have g1 : D.fld (prv ws e l) 1 = chC ws e := rfl
 have g2 : D.fld (prv ws e l) 2 = mdl ws e := rfl
 have hle := entP_len ws ws.length
 have fe : D.el (falses (ws.length + 1)) 0 = .bool false := fs_el (i := 0) (by omega)
 have te : D.el (trues (ws.length + 1)) 0 = .bool true := tr_get (i := 0) (by omega)
 rw [E48, g0, g1, g2, md3]
 refine end_wp hN (by omega) ?_
 rw [rs0, i_int]
 refine cEq (fun c => ?_) fun c => ?_
 ·rw [u5, L48_4_eq]
  simp only [i_int, len_slc]
  refine cLt (fun c => absurd c (by simp)) fun _ => ?_
  have h0 : ws.length = 0 := by omega
  refine leafM_wp (l := []) List.Pairwise.nil (fun p hp => by cases hp) (by simp) (by omega) ⟨trivial, ?_⟩
  rw [h0] at h
  exact h
 ·rw [fs_len, fe]
  refine ⟨⟨by omega, by omega⟩, cnd (fun c => by cases c) fun _ => potentials_wp hW (by omega) ?_⟩
  rw [rs0, rsS, rs0, tr_len, te]
  refine ⟨⟨by omega, by omega⟩, cNot (fun c => by cases c) fun _ => pricesX_wp hW (by omega) ?_⟩
  rw [rs0]
  refine edgesP_wp hW (by omega) ?_
  rw [rs0]
  refine values_wp hW (by omega) ?_
  have t4 : D.len (edL ws) = (ws.length : Int) := rng_len _ _
  rw [rs0, t4, toNat_nat]
  refine ⟨⟨by omega, by omega, by unfold room; omega⟩, ?_⟩
  generalize D.agg [.int 0, .int 0, .slc [], .int 0, .slc [], .int 0] = z
  have ev : D.len (valL ws) = ((ws.length + 1 : Nat) : Int) := rng_len _ _
  refine up_loop (L := fun q i => L48_20 (p + 1) q (prv ws e l) (falses (ws.length + 1)) (.slc []) (edL ws) (.int (ws.length : Int)) (.int (i : Int)) z (.map []) noP (valL ws) (.slc (List.replicate ws.length (.int 0))) Q) (N := ws.length) (fun q i hi hL => ?_) (fun q => ?_) (p + 1) 0 (by omega) (by omega)
  ·rw [L48_20_eq]
   have e0 : D.el (edL ws) (i : Int) = edE ws i := rng_el hi
   have f0 : D.fld (edE ws i) 0 = .int (i : Int) := rfl
   have f2 : D.fld (edE ws i) 2 = .int ((i + 1 : Nat) : Int) := rfl
   have f3 : D.fld (edE ws i) 3 = .int (ws.getD i 0) := rfl
   have v1 : List.getD (D.xs (valL ws)) i .und = .int (suf ws i) := rng_get (f := fun j => .int (suf ws j)) (by omega)
   have v2 : List.getD (D.xs (valL ws)) (i + 1) .und = .int (suf ws (i + 1)) := rng_get (f := fun j => .int (suf ws j)) (by omega)
   have s1 := suf_bd hW i
   have s2 := suf_bd hW (i + 1)
   have s3 := suf_step hi
   have s4 := hW.w i hi
   simp only [i_int]
   rw [e0, f0, f2, f3]
   simp only [i_int, toNat_nat]
   rw [v1, v2, i_int, i_int, t4, ev, len_slc, List.length_replicate, xs_slc, wr1 (k := i) (by omega)]
   have z0 : IntKind.wrap .i64 (IntKind.wrap .i64 (ws.getD i 0 + suf ws (i + 1)) - suf ws i) = 0 := by
    rw [wrap_id (x := ws.getD i 0 + suf ws (i + 1)) (by omega) (by omega), show ws.getD i 0 + suf ws (i + 1) - suf ws i = 0 by omega]
    rfl
   rw [z0, List.set_replicate_self]
   exact cLt (fun _ => ⟨⟨by omega, by omega⟩, trivial, ⟨by omega, by omega⟩, ⟨by omega, by omega⟩, ⟨by omega, by omega⟩, trivial, hL⟩) fun c => by omega
  ·rw [L48_20_eq]
   simp only [i_int]
   refine cLt (fun c => by omega) fun _ => kill_wp (by omega) (by omega) (nodes_wp hW (by omega) ?_)
   have en : D.len noP = 0 := rfl
   rw [L48_27_eq, en]
   simp only [i_int]
   refine cLt (fun c => by omega) fun _ => leafM_wp (entP_inc ws _) (ent_ok hN) (by omega) (by omega) ⟨trivial, ?_⟩
   exact h

/-- Nothing is claimed: one leaf. (E27 in general has a long text: other branches are not needed.) -/
theorem E27s (n N : Nat) (c m cl d3 d4 : D) (l : List D) (Q : List D → Prop) : wpF Tryz.prog A (n + 1) 27 [.agg [chU N, c, m, cl, .slc l], .int 0, .int 0, d3, d4] Q =
 (wpF Tryz.prog A n 48 [.agg [chU N, c, m, cl, .slc l], d3, d4] fun r1 => (room (((List.length l : Nat) : Int) + ((List.length [(rs r1 0)] : Nat) : Int)) 80 ∧ (True ∧ (Q [.agg [chU N, c, m, cl, .slc (l ++ [(rs r1 0)])]])))) := by kernel_rfl
theorem build_wp {ws : List Int} {e : Int} (hW : Ws ws e) (hn : 5100 ≤ n) (h : Q [prv ws e [leafD (entP ws ws.length)]]) : wpF Tryz.prog A n 27 [prv ws e [], .int 0, .int 0, falses (ws.length + 1), .slc []] Q := by
 obtain ⟨p, rfl⟩ : ∃ p, n = p + 1 := ⟨n - 1, by omega⟩
 unfold prv
 rw [E27s]
 exact leafC_wp (l := []) hW (by omega) ⟨by unfold room; simp, trivial, h⟩
end
end Go.Ab
