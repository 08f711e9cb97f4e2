/- Equations and plain laws of the functions that the statement reaches, part 6. Conditions: those in each theorem. -/
import Derived.Test.YtpkjnlmniacnaaaProg
import Derived.Test.YtpkjnlmniacnaaaPart2
import Derived.KernelRfl
import Derived.Test.YtpkjnlmniacnaaaPart3
import Derived.Test.YtpkjnlmniacnaaaPart4
import Derived.Test.YtpkjnlmniacnaaaPart5
set_option linter.unusedVariables false
set_option linter.unusedSimpArgs false
/- Equations of functions: each rule reduces to a plain formula, by the kernel. -/
set_option linter.unusedVariables false
namespace Go.Ab
open Go.Proofs
/- timebound/persist.addresses -/
theorem E44 (n : Nat) (d0 : D) (Q : List D → Prop) : wpF Try.prog A (n + 1) 44 [d0] Q =
 (Q [(D.int (minmax true (0 : Int) (D.i (D.fld d0 1)))), (D.int (minmax false (D.i (D.fld d0 2)) (1023 : Int)))]) := by kernel_rfl

/- timebound/cache.Line -/
theorem E45 (n : Nat) (d0 d1 : D) (Q : List D → Prop) : wpF Try.prog A (n + 1) 45 [d0, d1] Q =
 (wpF Try.prog A n 86 [d0] fun r1 =>
 (cond (!(iEq (D.i (rs r1 0)) (0 : Int)))
 (Q [(D.int (-1 : Int))])
 (cond (iLt (D.i d1) (0 : Int))
 (Q [(D.int (-1 : Int))])
 ((D.i (D.fld d0 2)) ≠ (0 : Int) ∧ (Q [(D.int (IntKind.wrap .i64 (Int.tdiv (D.i d1) (D.i (D.fld d0 2)))))]))))) := by kernel_rfl

/- timebound/timing.Scratch$1 -/
theorem E91 (n : Nat) (d0 d1 : D) (Q : List D → Prop) : wpF Try.prog A (n + 1) 91 [d0, d1] Q =
 (cond (iLe (D.i (D.fld d0 0)) (D.i d1))
 (Q [(D.bool (iLt (D.i d1) (D.i (D.fld d0 1))))])
 (Q [(D.bool false)])) := by kernel_rfl

/- timebound/timing.Scratch -/
theorem E49 (n : Nat) (d0 d1 : D) (Q : List D → Prop) : wpF Try.prog A (n + 1) 49 [d0, d1] Q =
 (wpF Try.prog A n 90 [d0, (D.fn 91 [(D.ptr d1)])] fun r1 =>
 (Q [(rs r1 0)])) := by kernel_rfl

/- timebound/persist.Free -/
theorem E17 (n : Nat) (d0 d1 d2 : D) (Q : List D → Prop) : wpF Try.prog A (n + 1) 17 [d0, d1, d2] Q =
 (cond (D.b d2)
 (wpF Try.prog A n 49 [(D.fld d0 12), d1] fun r1 =>
 (Q [(rs r1 0)]))
 (wpF Try.prog A n 49 [(D.fld d0 11), d1] fun r2 =>
 (Q [(rs r2 0)]))) := by kernel_rfl

/- cmp.Less[int] -/
theorem E154 (n : Nat) (d0 d1 : D) (Q : List D → Prop) : wpF Try.prog A (n + 1) 154 [d0, d1] Q =
 (wpF Try.prog A n 197 [d0] fun r1 =>
 (cond (D.b (rs r1 0))
 (wpF Try.prog A n 197 [d1] fun r2 =>
 (cond (!(D.b (rs r2 0)))
 (Q [(D.bool true)])
 (Q [(D.bool (iLt (D.i d0) (D.i d1)))])))
 (Q [(D.bool (iLt (D.i d0) (D.i d1)))]))) := by kernel_rfl

/- slices.insertionSortOrdered[int] -/
def L148_1 (n m0 : Nat) (x1 : D) (x2 : D) (x6 : D) (xo0 : D) (Q : List D → Prop) : Prop :=
  loopK (wpC Try.prog A (hnd Try.prog A n) 148 n (cA (cA (cB (bodyOf Try.f148))))) (nmK Try.prog (A.loop 148 1)) m0 { sl := [(0, .val 0 [] 29), (1, .imm 3 x1), (2, .imm 3 x2), (6, .imm 3 x6)], ob := [(0, some ⟨false, 29, (.slc .imm none), xo0⟩)] } (kBlock 0 (kEnd Try.prog Try.f148 (A.sig 148) Q))
def L148_4 (n m0 m1 : Nat) (x1 : D) (x2 : D) (x6 : D) (x7 : D) (xo0 : D) (Q : List D → Prop) : Prop :=
  loopK (wpC Try.prog A (hnd Try.prog A n) 148 n (cA (cA (cB (cA (cA (cB (cA (cA (cB (bodyOf Try.f148))))))))))) (nmK Try.prog (A.loop 148 4)) m1 { sl := [(0, .val 0 [] 29), (1, .imm 3 x1), (2, .imm 3 x2), (6, .imm 3 x6), (7, .imm 3 x7)], ob := [(0, some ⟨false, 29, (.slc .imm none), xo0⟩)] } (kBlock 2 (kBlock 1 (kSeq (wpC Try.prog A (hnd Try.prog A n) 148 n (cB (cB (cA (cA (cB (bodyOf Try.f148))))))) (kLoop (nmK Try.prog (A.loop 148 1)) (fun g => loopK (wpC Try.prog A (hnd Try.prog A n) 148 n (cA (cA (cB (bodyOf Try.f148))))) (nmK Try.prog (A.loop 148 1)) m0 g (kBlock 0 (kEnd Try.prog Try.f148 (A.sig 148) Q))) (kBlock 0 (kEnd Try.prog Try.f148 (A.sig 148) Q))))))
theorem L148_1_eq (n m0 : Nat) (x1 : D) (x2 : D) (x6 : D) (xo0 : D) (Q : List D → Prop) : L148_1 n (m0 + 1) x1 x2 x6 xo0 Q =
 (cond (iLt (D.i x6) (D.i x2))
 (L148_4 n m0 n x1 x2 x6 x6 xo0 Q)
 (Q [xo0])) := by kernel_rfl
theorem L148_4_eq (n m0 m1 : Nat) (x1 : D) (x2 : D) (x6 : D) (x7 : D) (xo0 : D) (Q : List D → Prop) : L148_4 n m0 (m1 + 1) x1 x2 x6 x7 xo0 Q =
 (cond (iLt (D.i x1) (D.i x7))
 ((0 ≤ (D.i x7) ∧ (D.i x7) < (D.len xo0)) ∧ ((0 ≤ (IntKind.wrap .i64 ((D.i x7) - (1 : Int))) ∧ (IntKind.wrap .i64 ((D.i x7) - (1 : Int))) < (D.len xo0)) ∧ (wpF Try.prog A n 154 [(List.getD (D.xs xo0) (Int.toNat (D.i x7)) D.und), (List.getD (D.xs xo0) (Int.toNat (IntKind.wrap .i64 ((D.i x7) - (1 : Int)))) D.und)] fun r1 =>
 (cond (D.b (rs r1 0))
 ((0 ≤ (IntKind.wrap .i64 ((D.i x7) - (1 : Int))) ∧ (IntKind.wrap .i64 ((D.i x7) - (1 : Int))) < (D.len xo0)) ∧ ((0 ≤ (D.i x7) ∧ (D.i x7) < (D.len xo0)) ∧ ((0 ≤ (D.i x7) ∧ (D.i x7) < (D.len xo0)) ∧ (True ∧ ((0 ≤ (IntKind.wrap .i64 ((D.i x7) - (1 : Int))) ∧ (IntKind.wrap .i64 ((D.i x7) - (1 : Int))) < (D.len (D.slc (List.set (D.xs xo0) (Int.toNat (D.i x7)) (List.getD (D.xs xo0) (Int.toNat (IntKind.wrap .i64 ((D.i x7) - (1 : Int)))) D.und))))) ∧ (True ∧ (L148_4 n m0 m1 x1 x2 x6 (D.int (IntKind.wrap .i64 ((D.i x7) - (1 : Int)))) (D.slc (List.set (List.set (D.xs xo0) (Int.toNat (D.i x7)) (List.getD (D.xs xo0) (Int.toNat (IntKind.wrap .i64 ((D.i x7) - (1 : Int)))) D.und)) (Int.toNat (IntKind.wrap .i64 ((D.i x7) - (1 : Int)))) (List.getD (D.xs xo0) (Int.toNat (D.i x7)) D.und))) Q)))))))
 (L148_1 n  m0 x1 x2 (D.int (IntKind.wrap .i64 ((D.i x6) + (1 : Int)))) xo0 Q)))))
 (L148_1 n  m0 x1 x2 (D.int (IntKind.wrap .i64 ((D.i x6) + (1 : Int)))) xo0 Q)) := by kernel_rfl
theorem E148 (n : Nat) (d0 d1 d2 : D) (Q : List D → Prop) : wpF Try.prog A (n + 1) 148 [d0, d1, d2] Q =
 (L148_1 n  n d1 d2 (D.int (IntKind.wrap .i64 ((D.i d1) + (1 : Int)))) d0 Q) := by kernel_rfl
attribute [irreducible] L148_1 L148_4

/- slices.order2Ordered[int] -/
theorem E215 (n : Nat) (d0 d1 d2 d3 : D) (Q : List D → Prop) : wpF Try.prog A (n + 1) 215 [d0, d1, d2, d3] Q =
 ((0 ≤ (D.i d2) ∧ (D.i d2) < (D.len d0)) ∧ ((0 ≤ (D.i d1) ∧ (D.i d1) < (D.len d0)) ∧ (wpF Try.prog A n 154 [(D.el d0 (D.i d2)), (D.el d0 (D.i d1))] fun r1 =>
 (cond (D.b (rs r1 0))
 (True ∧ (Q [d2, d1, (D.int (IntKind.wrap .i64 ((D.i d3) + (1 : Int))))]))
 (Q [d1, d2, d3]))))) := by kernel_rfl

/- slices.medianOrdered[int] -/
theorem E196 (n : Nat) (d0 d1 d2 d3 d4 : D) (Q : List D → Prop) : wpF Try.prog A (n + 1) 196 [d0, d1, d2, d3, d4] Q =
 (wpF Try.prog A n 215 [d0, d1, d2, d4] fun r1 =>
 (wpF Try.prog A n 215 [d0, (rs r1 1), d3, (rs r1 2)] fun r2 =>
 (wpF Try.prog A n 215 [d0, (rs r1 0), (rs r2 0), (rs r2 2)] fun r3 =>
 (Q [(rs r3 1), (rs r3 2)])))) := by kernel_rfl

/- slices.medianAdjacentOrdered[int] -/
theorem E195 (n : Nat) (d0 d1 d2 : D) (Q : List D → Prop) : wpF Try.prog A (n + 1) 195 [d0, d1, d2] Q =
 (wpF Try.prog A n 196 [d0, (D.int (IntKind.wrap .i64 ((D.i d1) - (1 : Int)))), d1, (D.int (IntKind.wrap .i64 ((D.i d1) + (1 : Int)))), d2] fun r1 =>
 (Q [(rs r1 0), (rs r1 1)])) := by kernel_rfl

/- slices.choosePivotOrdered[int] -/
theorem E151 (n : Nat) (d0 d1 d2 : D) (Q : List D → Prop) : wpF Try.prog A (n + 1) 151 [d0, d1, d2] Q =
 ((4 : Int) ≠ (0 : Int) ∧ ((4 : Int) ≠ (0 : Int) ∧ ((4 : Int) ≠ (0 : Int) ∧ (cond (iLe (8 : Int) (IntKind.wrap .i64 ((D.i d2) - (D.i d1))))
 (cond (iLe (50 : Int) (IntKind.wrap .i64 ((D.i d2) - (D.i d1))))
 (wpF Try.prog A n 195 [d0, (D.int (IntKind.wrap .i64 ((D.i d1) + (IntKind.wrap .i64 ((IntKind.wrap .i64 (Int.tdiv (IntKind.wrap .i64 ((D.i d2) - (D.i d1))) (4 : Int))) * (1 : Int)))))), (D.int (0 : Int))] fun r1 =>
 (wpF Try.prog A n 195 [d0, (D.int (IntKind.wrap .i64 ((D.i d1) + (IntKind.wrap .i64 ((IntKind.wrap .i64 (Int.tdiv (IntKind.wrap .i64 ((D.i d2) - (D.i d1))) (4 : Int))) * (2 : Int)))))), (rs r1 1)] fun r2 =>
 (wpF Try.prog A n 195 [d0, (D.int (IntKind.wrap .i64 ((D.i d1) + (IntKind.wrap .i64 ((IntKind.wrap .i64 (Int.tdiv (IntKind.wrap .i64 ((D.i d2) - (D.i d1))) (4 : Int))) * (3 : Int)))))), (rs r2 1)] fun r3 =>
 (wpF Try.prog A n 196 [d0, (rs r1 0), (rs r2 0), (rs r3 0), (rs r3 1)] fun r4 =>
 (cond (iEq (D.i (rs r4 1)) (0 : Int))
 (Q [(rs r4 0), (D.int (1 : Int))])
 (cond (iEq (D.i (rs r4 1)) (12 : Int))
 (Q [(rs r4 0), (D.int (2 : Int))])
 (Q [(rs r4 0), (D.int (0 : Int))])))))))
 (wpF Try.prog A n 196 [d0, (D.int (IntKind.wrap .i64 ((D.i d1) + (IntKind.wrap .i64 ((IntKind.wrap .i64 (Int.tdiv (IntKind.wrap .i64 ((D.i d2) - (D.i d1))) (4 : Int))) * (1 : Int)))))), (D.int (IntKind.wrap .i64 ((D.i d1) + (IntKind.wrap .i64 ((IntKind.wrap .i64 (Int.tdiv (IntKind.wrap .i64 ((D.i d2) - (D.i d1))) (4 : Int))) * (2 : Int)))))), (D.int (IntKind.wrap .i64 ((D.i d1) + (IntKind.wrap .i64 ((IntKind.wrap .i64 (Int.tdiv (IntKind.wrap .i64 ((D.i d2) - (D.i d1))) (4 : Int))) * (3 : Int)))))), (D.int (0 : Int))] fun r5 =>
 (cond (iEq (D.i (rs r5 1)) (0 : Int))
 (Q [(rs r5 0), (D.int (1 : Int))])
 (cond (iEq (D.i (rs r5 1)) (12 : Int))
 (Q [(rs r5 0), (D.int (2 : Int))])
 (Q [(rs r5 0), (D.int (0 : Int))])))))
 (cond (iEq (0 : Int) (0 : Int))
 (Q [(D.int (IntKind.wrap .i64 ((D.i d1) + (IntKind.wrap .i64 ((IntKind.wrap .i64 (Int.tdiv (IntKind.wrap .i64 ((D.i d2) - (D.i d1))) (4 : Int))) * (2 : Int)))))), (D.int (1 : Int))])
 (cond (iEq (0 : Int) (12 : Int))
 (Q [(D.int (IntKind.wrap .i64 ((D.i d1) + (IntKind.wrap .i64 ((IntKind.wrap .i64 (Int.tdiv (IntKind.wrap .i64 ((D.i d2) - (D.i d1))) (4 : Int))) * (2 : Int)))))), (D.int (2 : Int))])
 (Q [(D.int (IntKind.wrap .i64 ((D.i d1) + (IntKind.wrap .i64 ((IntKind.wrap .i64 (Int.tdiv (IntKind.wrap .i64 ((D.i d2) - (D.i d1))) (4 : Int))) * (2 : Int)))))), (D.int (0 : Int))]))))))) := by kernel_rfl

/- slices.partialInsertionSortOrdered[int] -/
def L153_3 (n m0 : Nat) (x1 : D) (x2 : D) (x7 : D) (x8 : D) (xo0 : D) (Q : List D → Prop) : Prop :=
  loopK (wpC Try.prog A (hnd Try.prog A n) 153 n (cA (cA (cB (cA (cB (cB (bodyOf Try.f153)))))))) (nmK Try.prog (A.loop 153 3)) m0 { sl := [(0, .val 0 [] 29), (1, .imm 3 x1), (2, .imm 3 x2), (7, .imm 3 x7), (8, .imm 3 x8)], ob := [(0, some ⟨false, 29, (.slc .imm none), xo0⟩)] } (kBlock 0 (kSeq (wpC Try.prog A (hnd Try.prog A n) 153 n (cB (cB (cB (bodyOf Try.f153))))) (kEnd Try.prog Try.f153 (A.sig 153) Q)))
def L153_5 (n m0 m1 : Nat) (x1 : D) (x2 : D) (x7 : D) (x8 : D) (xo0 : D) (Q : List D → Prop) : Prop :=
  loopK (wpC Try.prog A (hnd Try.prog A n) 153 n (cA (cA (cA (cA (cA (cB (cA (cA (cB (cA (cB (cB (bodyOf Try.f153)))))))))))))) (nmK Try.prog (A.loop 153 5)) m1 { sl := [(0, .val 0 [] 29), (1, .imm 3 x1), (2, .imm 3 x2), (7, .imm 3 x7), (8, .imm 3 x8)], ob := [(0, some ⟨false, 29, (.slc .imm none), xo0⟩)] } (kBlock 2 (kSeq (wpC Try.prog A (hnd Try.prog A n) 153 n (cB (cA (cA (cB (cA (cA (cB (cA (cB (cB (bodyOf Try.f153)))))))))))) (kBlock 1 (kSeq (wpC Try.prog A (hnd Try.prog A n) 153 n (cB (cB (cA (cA (cB (cA (cB (cB (bodyOf Try.f153)))))))))) (kLoop (nmK Try.prog (A.loop 153 3)) (fun g => loopK (wpC Try.prog A (hnd Try.prog A n) 153 n (cA (cA (cB (cA (cB (cB (bodyOf Try.f153)))))))) (nmK Try.prog (A.loop 153 3)) m0 g (kBlock 0 (kSeq (wpC Try.prog A (hnd Try.prog A n) 153 n (cB (cB (cB (bodyOf Try.f153))))) (kEnd Try.prog Try.f153 (A.sig 153) Q)))) (kBlock 0 (kSeq (wpC Try.prog A (hnd Try.prog A n) 153 n (cB (cB (cB (bodyOf Try.f153))))) (kEnd Try.prog Try.f153 (A.sig 153) Q))))))))
def L153_14 (n m0 m1 : Nat) (x1 : D) (x2 : D) (x7 : D) (x8 : D) (x9 : D) (xo0 : D) (Q : List D → Prop) : Prop :=
  loopK (wpC Try.prog A (hnd Try.prog A n) 153 n (cA (cA (cB (cA (cB (cA (cB (cB (cB (cB (cA (cA (cB (cA (cA (cB (cA (cB (cB (bodyOf Try.f153))))))))))))))))))))) (nmK Try.prog (A.loop 153 14)) m1 { sl := [(0, .val 0 [] 29), (1, .imm 3 x1), (2, .imm 3 x2), (7, .imm 3 x7), (8, .imm 3 x8), (9, .imm 3 x9)], ob := [(0, some ⟨false, 29, (.slc .imm none), xo0⟩)] } (kBlock 4 (kSeq (wpC Try.prog A (hnd Try.prog A n) 153 n (cB (cB (cB (cB (cB (cA (cA (cB (cA (cA (cB (cA (cB (cB (bodyOf Try.f153)))))))))))))))) (kBlock 1 (kSeq (wpC Try.prog A (hnd Try.prog A n) 153 n (cB (cB (cA (cA (cB (cA (cB (cB (bodyOf Try.f153)))))))))) (kLoop (nmK Try.prog (A.loop 153 3)) (fun g => loopK (wpC Try.prog A (hnd Try.prog A n) 153 n (cA (cA (cB (cA (cB (cB (bodyOf Try.f153)))))))) (nmK Try.prog (A.loop 153 3)) m0 g (kBlock 0 (kSeq (wpC Try.prog A (hnd Try.prog A n) 153 n (cB (cB (cB (bodyOf Try.f153))))) (kEnd Try.prog Try.f153 (A.sig 153) Q)))) (kBlock 0 (kSeq (wpC Try.prog A (hnd Try.prog A n) 153 n (cB (cB (cB (bodyOf Try.f153))))) (kEnd Try.prog Try.f153 (A.sig 153) Q))))))))
def L153_20 (n m0 m1 : Nat) (x1 : D) (x2 : D) (x7 : D) (x8 : D) (x10 : D) (xo0 : D) (Q : List D → Prop) : Prop :=
  loopK (wpC Try.prog A (hnd Try.prog A n) 153 n (cA (cA (cB (cA (cB (cB (cB (cB (cB (cB (cA (cA (cB (cA (cA (cB (cA (cB (cB (bodyOf Try.f153))))))))))))))))))))) (nmK Try.prog (A.loop 153 20)) m1 { sl := [(0, .val 0 [] 29), (1, .imm 3 x1), (2, .imm 3 x2), (7, .imm 3 x7), (8, .imm 3 x8), (10, .imm 3 x10)], ob := [(0, some ⟨false, 29, (.slc .imm none), xo0⟩)] } (kBlock 6 (kBlock 1 (kSeq (wpC Try.prog A (hnd Try.prog A n) 153 n (cB (cB (cA (cA (cB (cA (cB (cB (bodyOf Try.f153)))))))))) (kLoop (nmK Try.prog (A.loop 153 3)) (fun g => loopK (wpC Try.prog A (hnd Try.prog A n) 153 n (cA (cA (cB (cA (cB (cB (bodyOf Try.f153)))))))) (nmK Try.prog (A.loop 153 3)) m0 g (kBlock 0 (kSeq (wpC Try.prog A (hnd Try.prog A n) 153 n (cB (cB (cB (bodyOf Try.f153))))) (kEnd Try.prog Try.f153 (A.sig 153) Q)))) (kBlock 0 (kSeq (wpC Try.prog A (hnd Try.prog A n) 153 n (cB (cB (cB (bodyOf Try.f153))))) (kEnd Try.prog Try.f153 (A.sig 153) Q)))))))
theorem L153_3_eq (n m0 : Nat) (x1 : D) (x2 : D) (x7 : D) (x8 : D) (xo0 : D) (Q : List D → Prop) : L153_3 n (m0 + 1) x1 x2 x7 x8 xo0 Q =
 (cond (iLt (D.i x8) (5 : Int))
 (L153_5 n m0 n x1 x2 x7 x8 xo0 Q)
 (Q [(D.bool false), xo0])) := by kernel_rfl
theorem L153_5_eq (n m0 m1 : Nat) (x1 : D) (x2 : D) (x7 : D) (x8 : D) (xo0 : D) (Q : List D → Prop) : L153_5 n m0 (m1 + 1) x1 x2 x7 x8 xo0 Q =
 (cond (iLt (D.i x7) (D.i x2))
 ((0 ≤ (D.i x7) ∧ (D.i x7) < (D.len xo0)) ∧ ((0 ≤ (IntKind.wrap .i64 ((D.i x7) - (1 : Int))) ∧ (IntKind.wrap .i64 ((D.i x7) - (1 : Int))) < (D.len xo0)) ∧ (wpF Try.prog A n 154 [(List.getD (D.xs xo0) (Int.toNat (D.i x7)) D.und), (List.getD (D.xs xo0) (Int.toNat (IntKind.wrap .i64 ((D.i x7) - (1 : Int)))) D.und)] fun r1 =>
 (cond (!(D.b (rs r1 0)))
 (L153_5 n m0 m1 x1 x2 (D.int (IntKind.wrap .i64 ((D.i x7) + (1 : Int)))) x8 xo0 Q)
 (cond (iEq (D.i x7) (D.i x2))
 (Q [(D.bool true), xo0])
 (cond (iLt (IntKind.wrap .i64 ((D.i x2) - (D.i x1))) (50 : Int))
 (Q [(D.bool false), xo0])
 ((0 ≤ (IntKind.wrap .i64 ((D.i x7) - (1 : Int))) ∧ (IntKind.wrap .i64 ((D.i x7) - (1 : Int))) < (D.len xo0)) ∧ ((0 ≤ (D.i x7) ∧ (D.i x7) < (D.len xo0)) ∧ ((0 ≤ (D.i x7) ∧ (D.i x7) < (D.len xo0)) ∧ (True ∧ ((0 ≤ (IntKind.wrap .i64 ((D.i x7) - (1 : Int))) ∧ (IntKind.wrap .i64 ((D.i x7) - (1 : Int))) < (D.len (D.slc (List.set (D.xs xo0) (Int.toNat (D.i x7)) (List.getD (D.xs xo0) (Int.toNat (IntKind.wrap .i64 ((D.i x7) - (1 : Int)))) D.und))))) ∧ (True ∧ (cond (iLe (2 : Int) (IntKind.wrap .i64 ((D.i x7) - (D.i x1))))
 (L153_14 n m0 n x1 x2 x7 x8 (D.int (IntKind.wrap .i64 ((D.i x7) - (1 : Int)))) (D.slc (List.set (List.set (D.xs xo0) (Int.toNat (D.i x7)) (List.getD (D.xs xo0) (Int.toNat (IntKind.wrap .i64 ((D.i x7) - (1 : Int)))) D.und)) (Int.toNat (IntKind.wrap .i64 ((D.i x7) - (1 : Int)))) (List.getD (D.xs xo0) (Int.toNat (D.i x7)) D.und))) Q)
 (cond (iLe (2 : Int) (IntKind.wrap .i64 ((D.i x2) - (D.i x7))))
 (L153_20 n m0 n x1 x2 x7 x8 (D.int (IntKind.wrap .i64 ((D.i x7) + (1 : Int)))) (D.slc (List.set (List.set (D.xs xo0) (Int.toNat (D.i x7)) (List.getD (D.xs xo0) (Int.toNat (IntKind.wrap .i64 ((D.i x7) - (1 : Int)))) D.und)) (Int.toNat (IntKind.wrap .i64 ((D.i x7) - (1 : Int)))) (List.getD (D.xs xo0) (Int.toNat (D.i x7)) D.und))) Q)
 (L153_3 n  m0 x1 x2 x7 (D.int (IntKind.wrap .i64 ((D.i x8) + (1 : Int)))) (D.slc (List.set (List.set (D.xs xo0) (Int.toNat (D.i x7)) (List.getD (D.xs xo0) (Int.toNat (IntKind.wrap .i64 ((D.i x7) - (1 : Int)))) D.und)) (Int.toNat (IntKind.wrap .i64 ((D.i x7) - (1 : Int)))) (List.getD (D.xs xo0) (Int.toNat (D.i x7)) D.und))) Q)))))))))))))))
 (cond (iEq (D.i x7) (D.i x2))
 (Q [(D.bool true), xo0])
 (cond (iLt (IntKind.wrap .i64 ((D.i x2) - (D.i x1))) (50 : Int))
 (Q [(D.bool false), xo0])
 ((0 ≤ (IntKind.wrap .i64 ((D.i x7) - (1 : Int))) ∧ (IntKind.wrap .i64 ((D.i x7) - (1 : Int))) < (D.len xo0)) ∧ ((0 ≤ (D.i x7) ∧ (D.i x7) < (D.len xo0)) ∧ ((0 ≤ (D.i x7) ∧ (D.i x7) < (D.len xo0)) ∧ (True ∧ ((0 ≤ (IntKind.wrap .i64 ((D.i x7) - (1 : Int))) ∧ (IntKind.wrap .i64 ((D.i x7) - (1 : Int))) < (D.len (D.slc (List.set (D.xs xo0) (Int.toNat (D.i x7)) (List.getD (D.xs xo0) (Int.toNat (IntKind.wrap .i64 ((D.i x7) - (1 : Int)))) D.und))))) ∧ (True ∧ (cond (iLe (2 : Int) (IntKind.wrap .i64 ((D.i x7) - (D.i x1))))
 (L153_14 n m0 n x1 x2 x7 x8 (D.int (IntKind.wrap .i64 ((D.i x7) - (1 : Int)))) (D.slc (List.set (List.set (D.xs xo0) (Int.toNat (D.i x7)) (List.getD (D.xs xo0) (Int.toNat (IntKind.wrap .i64 ((D.i x7) - (1 : Int)))) D.und)) (Int.toNat (IntKind.wrap .i64 ((D.i x7) - (1 : Int)))) (List.getD (D.xs xo0) (Int.toNat (D.i x7)) D.und))) Q)
 (cond (iLe (2 : Int) (IntKind.wrap .i64 ((D.i x2) - (D.i x7))))
 (L153_20 n m0 n x1 x2 x7 x8 (D.int (IntKind.wrap .i64 ((D.i x7) + (1 : Int)))) (D.slc (List.set (List.set (D.xs xo0) (Int.toNat (D.i x7)) (List.getD (D.xs xo0) (Int.toNat (IntKind.wrap .i64 ((D.i x7) - (1 : Int)))) D.und)) (Int.toNat (IntKind.wrap .i64 ((D.i x7) - (1 : Int)))) (List.getD (D.xs xo0) (Int.toNat (D.i x7)) D.und))) Q)
 (L153_3 n  m0 x1 x2 x7 (D.int (IntKind.wrap .i64 ((D.i x8) + (1 : Int)))) (D.slc (List.set (List.set (D.xs xo0) (Int.toNat (D.i x7)) (List.getD (D.xs xo0) (Int.toNat (IntKind.wrap .i64 ((D.i x7) - (1 : Int)))) D.und)) (Int.toNat (IntKind.wrap .i64 ((D.i x7) - (1 : Int)))) (List.getD (D.xs xo0) (Int.toNat (D.i x7)) D.und))) Q)))))))))))) := by kernel_rfl
theorem L153_14_eq (n m0 m1 : Nat) (x1 : D) (x2 : D) (x7 : D) (x8 : D) (x9 : D) (xo0 : D) (Q : List D → Prop) : L153_14 n m0 (m1 + 1) x1 x2 x7 x8 x9 xo0 Q =
 (cond (iLe (1 : Int) (D.i x9))
 ((0 ≤ (D.i x9) ∧ (D.i x9) < (D.len xo0)) ∧ ((0 ≤ (IntKind.wrap .i64 ((D.i x9) - (1 : Int))) ∧ (IntKind.wrap .i64 ((D.i x9) - (1 : Int))) < (D.len xo0)) ∧ (wpF Try.prog A n 154 [(List.getD (D.xs xo0) (Int.toNat (D.i x9)) D.und), (List.getD (D.xs xo0) (Int.toNat (IntKind.wrap .i64 ((D.i x9) - (1 : Int)))) D.und)] fun r2 =>
 (cond (!(D.b (rs r2 0)))
 (cond (iLe (2 : Int) (IntKind.wrap .i64 ((D.i x2) - (D.i x7))))
 (L153_20 n m0 n x1 x2 x7 x8 (D.int (IntKind.wrap .i64 ((D.i x7) + (1 : Int)))) xo0 Q)
 (L153_3 n  m0 x1 x2 x7 (D.int (IntKind.wrap .i64 ((D.i x8) + (1 : Int)))) xo0 Q))
 ((0 ≤ (IntKind.wrap .i64 ((D.i x9) - (1 : Int))) ∧ (IntKind.wrap .i64 ((D.i x9) - (1 : Int))) < (D.len xo0)) ∧ ((0 ≤ (D.i x9) ∧ (D.i x9) < (D.len xo0)) ∧ ((0 ≤ (D.i x9) ∧ (D.i x9) < (D.len xo0)) ∧ (True ∧ ((0 ≤ (IntKind.wrap .i64 ((D.i x9) - (1 : Int))) ∧ (IntKind.wrap .i64 ((D.i x9) - (1 : Int))) < (D.len (D.slc (List.set (D.xs xo0) (Int.toNat (D.i x9)) (List.getD (D.xs xo0) (Int.toNat (IntKind.wrap .i64 ((D.i x9) - (1 : Int)))) D.und))))) ∧ (True ∧ (L153_14 n m0 m1 x1 x2 x7 x8 (D.int (IntKind.wrap .i64 ((D.i x9) - (1 : Int)))) (D.slc (List.set (List.set (D.xs xo0) (Int.toNat (D.i x9)) (List.getD (D.xs xo0) (Int.toNat (IntKind.wrap .i64 ((D.i x9) - (1 : Int)))) D.und)) (Int.toNat (IntKind.wrap .i64 ((D.i x9) - (1 : Int)))) (List.getD (D.xs xo0) (Int.toNat (D.i x9)) D.und))) Q)))))))))))
 (cond (iLe (2 : Int) (IntKind.wrap .i64 ((D.i x2) - (D.i x7))))
 (L153_20 n m0 n x1 x2 x7 x8 (D.int (IntKind.wrap .i64 ((D.i x7) + (1 : Int)))) xo0 Q)
 (L153_3 n  m0 x1 x2 x7 (D.int (IntKind.wrap .i64 ((D.i x8) + (1 : Int)))) xo0 Q))) := by kernel_rfl
theorem L153_20_eq (n m0 m1 : Nat) (x1 : D) (x2 : D) (x7 : D) (x8 : D) (x10 : D) (xo0 : D) (Q : List D → Prop) : L153_20 n m0 (m1 + 1) x1 x2 x7 x8 x10 xo0 Q =
 (cond (iLt (D.i x10) (D.i x2))
 ((0 ≤ (D.i x10) ∧ (D.i x10) < (D.len xo0)) ∧ ((0 ≤ (IntKind.wrap .i64 ((D.i x10) - (1 : Int))) ∧ (IntKind.wrap .i64 ((D.i x10) - (1 : Int))) < (D.len xo0)) ∧ (wpF Try.prog A n 154 [(List.getD (D.xs xo0) (Int.toNat (D.i x10)) D.und), (List.getD (D.xs xo0) (Int.toNat (IntKind.wrap .i64 ((D.i x10) - (1 : Int)))) D.und)] fun r3 =>
 (cond (!(D.b (rs r3 0)))
 (L153_3 n  m0 x1 x2 x7 (D.int (IntKind.wrap .i64 ((D.i x8) + (1 : Int)))) xo0 Q)
 ((0 ≤ (IntKind.wrap .i64 ((D.i x10) - (1 : Int))) ∧ (IntKind.wrap .i64 ((D.i x10) - (1 : Int))) < (D.len xo0)) ∧ ((0 ≤ (D.i x10) ∧ (D.i x10) < (D.len xo0)) ∧ ((0 ≤ (D.i x10) ∧ (D.i x10) < (D.len xo0)) ∧ (True ∧ ((0 ≤ (IntKind.wrap .i64 ((D.i x10) - (1 : Int))) ∧ (IntKind.wrap .i64 ((D.i x10) - (1 : Int))) < (D.len (D.slc (List.set (D.xs xo0) (Int.toNat (D.i x10)) (List.getD (D.xs xo0) (Int.toNat (IntKind.wrap .i64 ((D.i x10) - (1 : Int)))) D.und))))) ∧ (True ∧ (L153_20 n m0 m1 x1 x2 x7 x8 (D.int (IntKind.wrap .i64 ((D.i x10) + (1 : Int)))) (D.slc (List.set (List.set (D.xs xo0) (Int.toNat (D.i x10)) (List.getD (D.xs xo0) (Int.toNat (IntKind.wrap .i64 ((D.i x10) - (1 : Int)))) D.und)) (Int.toNat (IntKind.wrap .i64 ((D.i x10) - (1 : Int)))) (List.getD (D.xs xo0) (Int.toNat (D.i x10)) D.und))) Q)))))))))))
 (L153_3 n  m0 x1 x2 x7 (D.int (IntKind.wrap .i64 ((D.i x8) + (1 : Int)))) xo0 Q)) := by kernel_rfl
theorem E153 (n : Nat) (d0 d1 d2 : D) (Q : List D → Prop) : wpF Try.prog A (n + 1) 153 [d0, d1, d2] Q =
 (L153_3 n  n d1 d2 (D.int (IntKind.wrap .i64 ((D.i d1) + (1 : Int)))) (D.int (0 : Int)) d0 Q) := by kernel_rfl
attribute [irreducible] L153_3 L153_5 L153_14 L153_20

/- slices.pdqsortOrdered[int] -/
def L87_2 (n m0 : Nat) (x1 : D) (x2 : D) (x3 : D) (x8 : D) (x9 : D) (xo0 : D) (Q : List D → Prop) : Prop :=
  loopK (wpC Try.prog A (hnd Try.prog A n) 87 n (cA (cA (cB (cB (bodyOf Try.f87)))))) (nmK Try.prog (A.loop 87 2)) m0 { sl := [(0, .val 0 [] 29), (1, .imm 3 x1), (2, .imm 3 x2), (3, .imm 3 x3), (8, .imm 4 x8), (9, .imm 4 x9)], ob := [(0, some ⟨false, 29, (.slc .imm none), xo0⟩)] } (kBlock 0 (kEnd Try.prog Try.f87 (A.sig 87) Q))
theorem L87_2_eq (n m0 : Nat) (x1 : D) (x2 : D) (x3 : D) (x8 : D) (x9 : D) (xo0 : D) (Q : List D → Prop) : L87_2 n (m0 + 1) x1 x2 x3 x8 x9 xo0 Q =
 (cond (iLe (IntKind.wrap .i64 ((D.i x2) - (D.i x1))) (12 : Int))
 (wpF Try.prog A n 148 [xo0, x1, x2] fun r1 =>
 (Q [(rs r1 0)]))
 (cond (iEq (D.i x3) (0 : Int))
 (wpF Try.prog A n 149 [xo0, x1, x2] fun r2 =>
 (Q [(rs r2 0)]))
 (cond (!(D.b x8))
 (wpF Try.prog A n 150 [xo0, x1, x2] fun r3 =>
 (wpF Try.prog A n 151 [(rs r3 0), x1, x2] fun r4 =>
 (cond (iEq (D.i (rs r4 1)) (2 : Int))
 (wpF Try.prog A n 152 [(rs r3 0), x1, x2] fun r5 =>
 (cond (D.b x8)
 (cond (D.b x9)
 (cond (iEq (1 : Int) (1 : Int))
 (wpF Try.prog A n 153 [(rs r5 0), x1, x2] fun r6 =>
 (cond (D.b (rs r6 0))
 (Q [(rs r6 1)])
 (cond (iLt (0 : Int) (D.i x1))
 ((0 ≤ (IntKind.wrap .i64 ((D.i x1) - (1 : Int))) ∧ (IntKind.wrap .i64 ((D.i x1) - (1 : Int))) < (D.len (rs r6 1))) ∧ ((0 ≤ (IntKind.wrap .i64 ((IntKind.wrap .i64 ((D.i x2) - (1 : Int))) - (IntKind.wrap .i64 ((D.i (rs r4 0)) - (D.i x1))))) ∧ (IntKind.wrap .i64 ((IntKind.wrap .i64 ((D.i x2) - (1 : Int))) - (IntKind.wrap .i64 ((D.i (rs r4 0)) - (D.i x1))))) < (D.len (rs r6 1))) ∧ (wpF Try.prog A n 154 [(List.getD (D.xs (rs r6 1)) (Int.toNat (IntKind.wrap .i64 ((D.i x1) - (1 : Int)))) D.und), (List.getD (D.xs (rs r6 1)) (Int.toNat (IntKind.wrap .i64 ((IntKind.wrap .i64 ((D.i x2) - (1 : Int))) - (IntKind.wrap .i64 ((D.i (rs r4 0)) - (D.i x1)))))) D.und)] fun r7 =>
 (cond (!(D.b (rs r7 0)))
 (wpF Try.prog A n 155 [(rs r6 1), x1, x2, (D.int (IntKind.wrap .i64 ((IntKind.wrap .i64 ((D.i x2) - (1 : Int))) - (IntKind.wrap .i64 ((D.i (rs r4 0)) - (D.i x1))))))] fun r8 =>
 (L87_2 n  m0 (rs r8 0) x2 (D.int (IntKind.wrap .i64 ((D.i x3) - (1 : Int)))) x8 x9 (rs r8 1) Q))
 (wpF Try.prog A n 156 [(rs r6 1), x1, x2, (D.int (IntKind.wrap .i64 ((IntKind.wrap .i64 ((D.i x2) - (1 : Int))) - (IntKind.wrap .i64 ((D.i (rs r4 0)) - (D.i x1))))))] fun r9 =>
 ((8 : Int) ≠ (0 : Int) ∧ (cond (iLt (IntKind.wrap .i64 ((D.i (rs r9 0)) - (D.i x1))) (IntKind.wrap .i64 ((D.i x2) - (D.i (rs r9 0)))))
 (wpF Try.prog A n 87 [(rs r9 2), x1, (rs r9 0), (D.int (IntKind.wrap .i64 ((D.i x3) - (1 : Int))))] fun r10 =>
 (L87_2 n  m0 (D.int (IntKind.wrap .i64 ((D.i (rs r9 0)) + (1 : Int)))) x2 (D.int (IntKind.wrap .i64 ((D.i x3) - (1 : Int)))) (D.bool (iLe (IntKind.wrap .i64 (Int.tdiv (IntKind.wrap .i64 ((D.i x2) - (D.i x1))) (8 : Int))) (IntKind.wrap .i64 ((D.i (rs r9 0)) - (D.i x1))))) (rs r9 1) (rs r10 0) Q))
 (wpF Try.prog A n 87 [(rs r9 2), (D.int (IntKind.wrap .i64 ((D.i (rs r9 0)) + (1 : Int)))), x2, (D.int (IntKind.wrap .i64 ((D.i x3) - (1 : Int))))] fun r11 =>
 (L87_2 n  m0 x1 (rs r9 0) (D.int (IntKind.wrap .i64 ((D.i x3) - (1 : Int)))) (D.bool (iLe (IntKind.wrap .i64 (Int.tdiv (IntKind.wrap .i64 ((D.i x2) - (D.i x1))) (8 : Int))) (IntKind.wrap .i64 ((D.i x2) - (D.i (rs r9 0)))))) (rs r9 1) (rs r11 0) Q)))))))))
 (wpF Try.prog A n 156 [(rs r6 1), x1, x2, (D.int (IntKind.wrap .i64 ((IntKind.wrap .i64 ((D.i x2) - (1 : Int))) - (IntKind.wrap .i64 ((D.i (rs r4 0)) - (D.i x1))))))] fun r12 =>
 ((8 : Int) ≠ (0 : Int) ∧ (cond (iLt (IntKind.wrap .i64 ((D.i (rs r12 0)) - (D.i x1))) (IntKind.wrap .i64 ((D.i x2) - (D.i (rs r12 0)))))
 (wpF Try.prog A n 87 [(rs r12 2), x1, (rs r12 0), (D.int (IntKind.wrap .i64 ((D.i x3) - (1 : Int))))] fun r13 =>
 (L87_2 n  m0 (D.int (IntKind.wrap .i64 ((D.i (rs r12 0)) + (1 : Int)))) x2 (D.int (IntKind.wrap .i64 ((D.i x3) - (1 : Int)))) (D.bool (iLe (IntKind.wrap .i64 (Int.tdiv (IntKind.wrap .i64 ((D.i x2) - (D.i x1))) (8 : Int))) (IntKind.wrap .i64 ((D.i (rs r12 0)) - (D.i x1))))) (rs r12 1) (rs r13 0) Q))
 (wpF Try.prog A n 87 [(rs r12 2), (D.int (IntKind.wrap .i64 ((D.i (rs r12 0)) + (1 : Int)))), x2, (D.int (IntKind.wrap .i64 ((D.i x3) - (1 : Int))))] fun r14 =>
 (L87_2 n  m0 x1 (rs r12 0) (D.int (IntKind.wrap .i64 ((D.i x3) - (1 : Int)))) (D.bool (iLe (IntKind.wrap .i64 (Int.tdiv (IntKind.wrap .i64 ((D.i x2) - (D.i x1))) (8 : Int))) (IntKind.wrap .i64 ((D.i x2) - (D.i (rs r12 0)))))) (rs r12 1) (rs r14 0) Q))))))))
 (cond (iLt (0 : Int) (D.i x1))
 ((0 ≤ (IntKind.wrap .i64 ((D.i x1) - (1 : Int))) ∧ (IntKind.wrap .i64 ((D.i x1) - (1 : Int))) < (D.len (rs r5 0))) ∧ ((0 ≤ (IntKind.wrap .i64 ((IntKind.wrap .i64 ((D.i x2) - (1 : Int))) - (IntKind.wrap .i64 ((D.i (rs r4 0)) - (D.i x1))))) ∧ (IntKind.wrap .i64 ((IntKind.wrap .i64 ((D.i x2) - (1 : Int))) - (IntKind.wrap .i64 ((D.i (rs r4 0)) - (D.i x1))))) < (D.len (rs r5 0))) ∧ (wpF Try.prog A n 154 [(List.getD (D.xs (rs r5 0)) (Int.toNat (IntKind.wrap .i64 ((D.i x1) - (1 : Int)))) D.und), (List.getD (D.xs (rs r5 0)) (Int.toNat (IntKind.wrap .i64 ((IntKind.wrap .i64 ((D.i x2) - (1 : Int))) - (IntKind.wrap .i64 ((D.i (rs r4 0)) - (D.i x1)))))) D.und)] fun r15 =>
 (cond (!(D.b (rs r15 0)))
 (wpF Try.prog A n 155 [(rs r5 0), x1, x2, (D.int (IntKind.wrap .i64 ((IntKind.wrap .i64 ((D.i x2) - (1 : Int))) - (IntKind.wrap .i64 ((D.i (rs r4 0)) - (D.i x1))))))] fun r16 =>
 (L87_2 n  m0 (rs r16 0) x2 (D.int (IntKind.wrap .i64 ((D.i x3) - (1 : Int)))) x8 x9 (rs r16 1) Q))
 (wpF Try.prog A n 156 [(rs r5 0), x1, x2, (D.int (IntKind.wrap .i64 ((IntKind.wrap .i64 ((D.i x2) - (1 : Int))) - (IntKind.wrap .i64 ((D.i (rs r4 0)) - (D.i x1))))))] fun r17 =>
 ((8 : Int) ≠ (0 : Int) ∧ (cond (iLt (IntKind.wrap .i64 ((D.i (rs r17 0)) - (D.i x1))) (IntKind.wrap .i64 ((D.i x2) - (D.i (rs r17 0)))))
 (wpF Try.prog A n 87 [(rs r17 2), x1, (rs r17 0), (D.int (IntKind.wrap .i64 ((D.i x3) - (1 : Int))))] fun r18 =>
 (L87_2 n  m0 (D.int (IntKind.wrap .i64 ((D.i (rs r17 0)) + (1 : Int)))) x2 (D.int (IntKind.wrap .i64 ((D.i x3) - (1 : Int)))) (D.bool (iLe (IntKind.wrap .i64 (Int.tdiv (IntKind.wrap .i64 ((D.i x2) - (D.i x1))) (8 : Int))) (IntKind.wrap .i64 ((D.i (rs r17 0)) - (D.i x1))))) (rs r17 1) (rs r18 0) Q))
 (wpF Try.prog A n 87 [(rs r17 2), (D.int (IntKind.wrap .i64 ((D.i (rs r17 0)) + (1 : Int)))), x2, (D.int (IntKind.wrap .i64 ((D.i x3) - (1 : Int))))] fun r19 =>
 (L87_2 n  m0 x1 (rs r17 0) (D.int (IntKind.wrap .i64 ((D.i x3) - (1 : Int)))) (D.bool (iLe (IntKind.wrap .i64 (Int.tdiv (IntKind.wrap .i64 ((D.i x2) - (D.i x1))) (8 : Int))) (IntKind.wrap .i64 ((D.i x2) - (D.i (rs r17 0)))))) (rs r17 1) (rs r19 0) Q)))))))))
 (wpF Try.prog A n 156 [(rs r5 0), x1, x2, (D.int (IntKind.wrap .i64 ((IntKind.wrap .i64 ((D.i x2) - (1 : Int))) - (IntKind.wrap .i64 ((D.i (rs r4 0)) - (D.i x1))))))] fun r20 =>
 ((8 : Int) ≠ (0 : Int) ∧ (cond (iLt (IntKind.wrap .i64 ((D.i (rs r20 0)) - (D.i x1))) (IntKind.wrap .i64 ((D.i x2) - (D.i (rs r20 0)))))
 (wpF Try.prog A n 87 [(rs r20 2), x1, (rs r20 0), (D.int (IntKind.wrap .i64 ((D.i x3) - (1 : Int))))] fun r21 =>
 (L87_2 n  m0 (D.int (IntKind.wrap .i64 ((D.i (rs r20 0)) + (1 : Int)))) x2 (D.int (IntKind.wrap .i64 ((D.i x3) - (1 : Int)))) (D.bool (iLe (IntKind.wrap .i64 (Int.tdiv (IntKind.wrap .i64 ((D.i x2) - (D.i x1))) (8 : Int))) (IntKind.wrap .i64 ((D.i (rs r20 0)) - (D.i x1))))) (rs r20 1) (rs r21 0) Q))
 (wpF Try.prog A n 87 [(rs r20 2), (D.int (IntKind.wrap .i64 ((D.i (rs r20 0)) + (1 : Int)))), x2, (D.int (IntKind.wrap .i64 ((D.i x3) - (1 : Int))))] fun r22 =>
 (L87_2 n  m0 x1 (rs r20 0) (D.int (IntKind.wrap .i64 ((D.i x3) - (1 : Int)))) (D.bool (iLe (IntKind.wrap .i64 (Int.tdiv (IntKind.wrap .i64 ((D.i x2) - (D.i x1))) (8 : Int))) (IntKind.wrap .i64 ((D.i x2) - (D.i (rs r20 0)))))) (rs r20 1) (rs r22 0) Q)))))))
 (cond (iLt (0 : Int) (D.i x1))
 ((0 ≤ (IntKind.wrap .i64 ((D.i x1) - (1 : Int))) ∧ (IntKind.wrap .i64 ((D.i x1) - (1 : Int))) < (D.len (rs r5 0))) ∧ ((0 ≤ (IntKind.wrap .i64 ((IntKind.wrap .i64 ((D.i x2) - (1 : Int))) - (IntKind.wrap .i64 ((D.i (rs r4 0)) - (D.i x1))))) ∧ (IntKind.wrap .i64 ((IntKind.wrap .i64 ((D.i x2) - (1 : Int))) - (IntKind.wrap .i64 ((D.i (rs r4 0)) - (D.i x1))))) < (D.len (rs r5 0))) ∧ (wpF Try.prog A n 154 [(List.getD (D.xs (rs r5 0)) (Int.toNat (IntKind.wrap .i64 ((D.i x1) - (1 : Int)))) D.und), (List.getD (D.xs (rs r5 0)) (Int.toNat (IntKind.wrap .i64 ((IntKind.wrap .i64 ((D.i x2) - (1 : Int))) - (IntKind.wrap .i64 ((D.i (rs r4 0)) - (D.i x1)))))) D.und)] fun r23 =>
 (cond (!(D.b (rs r23 0)))
 (wpF Try.prog A n 155 [(rs r5 0), x1, x2, (D.int (IntKind.wrap .i64 ((IntKind.wrap .i64 ((D.i x2) - (1 : Int))) - (IntKind.wrap .i64 ((D.i (rs r4 0)) - (D.i x1))))))] fun r24 =>
 (L87_2 n  m0 (rs r24 0) x2 (D.int (IntKind.wrap .i64 ((D.i x3) - (1 : Int)))) x8 x9 (rs r24 1) Q))
 (wpF Try.prog A n 156 [(rs r5 0), x1, x2, (D.int (IntKind.wrap .i64 ((IntKind.wrap .i64 ((D.i x2) - (1 : Int))) - (IntKind.wrap .i64 ((D.i (rs r4 0)) - (D.i x1))))))] fun r25 =>
 ((8 : Int) ≠ (0 : Int) ∧ (cond (iLt (IntKind.wrap .i64 ((D.i (rs r25 0)) - (D.i x1))) (IntKind.wrap .i64 ((D.i x2) - (D.i (rs r25 0)))))
 (wpF Try.prog A n 87 [(rs r25 2), x1, (rs r25 0), (D.int (IntKind.wrap .i64 ((D.i x3) - (1 : Int))))] fun r26 =>
 (L87_2 n  m0 (D.int (IntKind.wrap .i64 ((D.i (rs r25 0)) + (1 : Int)))) x2 (D.int (IntKind.wrap .i64 ((D.i x3) - (1 : Int)))) (D.bool (iLe (IntKind.wrap .i64 (Int.tdiv (IntKind.wrap .i64 ((D.i x2) - (D.i x1))) (8 : Int))) (IntKind.wrap .i64 ((D.i (rs r25 0)) - (D.i x1))))) (rs r25 1) (rs r26 0) Q))
 (wpF Try.prog A n 87 [(rs r25 2), (D.int (IntKind.wrap .i64 ((D.i (rs r25 0)) + (1 : Int)))), x2, (D.int (IntKind.wrap .i64 ((D.i x3) - (1 : Int))))] fun r27 =>
 (L87_2 n  m0 x1 (rs r25 0) (D.int (IntKind.wrap .i64 ((D.i x3) - (1 : Int)))) (D.bool (iLe (IntKind.wrap .i64 (Int.tdiv (IntKind.wrap .i64 ((D.i x2) - (D.i x1))) (8 : Int))) (IntKind.wrap .i64 ((D.i x2) - (D.i (rs r25 0)))))) (rs r25 1) (rs r27 0) Q)))))))))
 (wpF Try.prog A n 156 [(rs r5 0), x1, x2, (D.int (IntKind.wrap .i64 ((IntKind.wrap .i64 ((D.i x2) - (1 : Int))) - (IntKind.wrap .i64 ((D.i (rs r4 0)) - (D.i x1))))))] fun r28 =>
 ((8 : Int) ≠ (0 : Int) ∧ (cond (iLt (IntKind.wrap .i64 ((D.i (rs r28 0)) - (D.i x1))) (IntKind.wrap .i64 ((D.i x2) - (D.i (rs r28 0)))))
 (wpF Try.prog A n 87 [(rs r28 2), x1, (rs r28 0), (D.int (IntKind.wrap .i64 ((D.i x3) - (1 : Int))))] fun r29 =>
 (L87_2 n  m0 (D.int (IntKind.wrap .i64 ((D.i (rs r28 0)) + (1 : Int)))) x2 (D.int (IntKind.wrap .i64 ((D.i x3) - (1 : Int)))) (D.bool (iLe (IntKind.wrap .i64 (Int.tdiv (IntKind.wrap .i64 ((D.i x2) - (D.i x1))) (8 : Int))) (IntKind.wrap .i64 ((D.i (rs r28 0)) - (D.i x1))))) (rs r28 1) (rs r29 0) Q))
 (wpF Try.prog A n 87 [(rs r28 2), (D.int (IntKind.wrap .i64 ((D.i (rs r28 0)) + (1 : Int)))), x2, (D.int (IntKind.wrap .i64 ((D.i x3) - (1 : Int))))] fun r30 =>
 (L87_2 n  m0 x1 (rs r28 0) (D.int (IntKind.wrap .i64 ((D.i x3) - (1 : Int)))) (D.bool (iLe (IntKind.wrap .i64 (Int.tdiv (IntKind.wrap .i64 ((D.i x2) - (D.i x1))) (8 : Int))) (IntKind.wrap .i64 ((D.i x2) - (D.i (rs r28 0)))))) (rs r28 1) (rs r30 0) Q)))))))
 (cond (iLt (0 : Int) (D.i x1))
 ((0 ≤ (IntKind.wrap .i64 ((D.i x1) - (1 : Int))) ∧ (IntKind.wrap .i64 ((D.i x1) - (1 : Int))) < (D.len (rs r5 0))) ∧ ((0 ≤ (IntKind.wrap .i64 ((IntKind.wrap .i64 ((D.i x2) - (1 : Int))) - (IntKind.wrap .i64 ((D.i (rs r4 0)) - (D.i x1))))) ∧ (IntKind.wrap .i64 ((IntKind.wrap .i64 ((D.i x2) - (1 : Int))) - (IntKind.wrap .i64 ((D.i (rs r4 0)) - (D.i x1))))) < (D.len (rs r5 0))) ∧ (wpF Try.prog A n 154 [(List.getD (D.xs (rs r5 0)) (Int.toNat (IntKind.wrap .i64 ((D.i x1) - (1 : Int)))) D.und), (List.getD (D.xs (rs r5 0)) (Int.toNat (IntKind.wrap .i64 ((IntKind.wrap .i64 ((D.i x2) - (1 : Int))) - (IntKind.wrap .i64 ((D.i (rs r4 0)) - (D.i x1)))))) D.und)] fun r31 =>
 (cond (!(D.b (rs r31 0)))
 (wpF Try.prog A n 155 [(rs r5 0), x1, x2, (D.int (IntKind.wrap .i64 ((IntKind.wrap .i64 ((D.i x2) - (1 : Int))) - (IntKind.wrap .i64 ((D.i (rs r4 0)) - (D.i x1))))))] fun r32 =>
 (L87_2 n  m0 (rs r32 0) x2 (D.int (IntKind.wrap .i64 ((D.i x3) - (1 : Int)))) x8 x9 (rs r32 1) Q))
 (wpF Try.prog A n 156 [(rs r5 0), x1, x2, (D.int (IntKind.wrap .i64 ((IntKind.wrap .i64 ((D.i x2) - (1 : Int))) - (IntKind.wrap .i64 ((D.i (rs r4 0)) - (D.i x1))))))] fun r33 =>
 ((8 : Int) ≠ (0 : Int) ∧ (cond (iLt (IntKind.wrap .i64 ((D.i (rs r33 0)) - (D.i x1))) (IntKind.wrap .i64 ((D.i x2) - (D.i (rs r33 0)))))
 (wpF Try.prog A n 87 [(rs r33 2), x1, (rs r33 0), (D.int (IntKind.wrap .i64 ((D.i x3) - (1 : Int))))] fun r34 =>
 (L87_2 n  m0 (D.int (IntKind.wrap .i64 ((D.i (rs r33 0)) + (1 : Int)))) x2 (D.int (IntKind.wrap .i64 ((D.i x3) - (1 : Int)))) (D.bool (iLe (IntKind.wrap .i64 (Int.tdiv (IntKind.wrap .i64 ((D.i x2) - (D.i x1))) (8 : Int))) (IntKind.wrap .i64 ((D.i (rs r33 0)) - (D.i x1))))) (rs r33 1) (rs r34 0) Q))
 (wpF Try.prog A n 87 [(rs r33 2), (D.int (IntKind.wrap .i64 ((D.i (rs r33 0)) + (1 : Int)))), x2, (D.int (IntKind.wrap .i64 ((D.i x3) - (1 : Int))))] fun r35 =>
 (L87_2 n  m0 x1 (rs r33 0) (D.int (IntKind.wrap .i64 ((D.i x3) - (1 : Int)))) (D.bool (iLe (IntKind.wrap .i64 (Int.tdiv (IntKind.wrap .i64 ((D.i x2) - (D.i x1))) (8 : Int))) (IntKind.wrap .i64 ((D.i x2) - (D.i (rs r33 0)))))) (rs r33 1) (rs r35 0) Q)))))))))
 (wpF Try.prog A n 156 [(rs r5 0), x1, x2, (D.int (IntKind.wrap .i64 ((IntKind.wrap .i64 ((D.i x2) - (1 : Int))) - (IntKind.wrap .i64 ((D.i (rs r4 0)) - (D.i x1))))))] fun r36 =>
 ((8 : Int) ≠ (0 : Int) ∧ (cond (iLt (IntKind.wrap .i64 ((D.i (rs r36 0)) - (D.i x1))) (IntKind.wrap .i64 ((D.i x2) - (D.i (rs r36 0)))))
 (wpF Try.prog A n 87 [(rs r36 2), x1, (rs r36 0), (D.int (IntKind.wrap .i64 ((D.i x3) - (1 : Int))))] fun r37 =>
 (L87_2 n  m0 (D.int (IntKind.wrap .i64 ((D.i (rs r36 0)) + (1 : Int)))) x2 (D.int (IntKind.wrap .i64 ((D.i x3) - (1 : Int)))) (D.bool (iLe (IntKind.wrap .i64 (Int.tdiv (IntKind.wrap .i64 ((D.i x2) - (D.i x1))) (8 : Int))) (IntKind.wrap .i64 ((D.i (rs r36 0)) - (D.i x1))))) (rs r36 1) (rs r37 0) Q))
 (wpF Try.prog A n 87 [(rs r36 2), (D.int (IntKind.wrap .i64 ((D.i (rs r36 0)) + (1 : Int)))), x2, (D.int (IntKind.wrap .i64 ((D.i x3) - (1 : Int))))] fun r38 =>
 (L87_2 n  m0 x1 (rs r36 0) (D.int (IntKind.wrap .i64 ((D.i x3) - (1 : Int)))) (D.bool (iLe (IntKind.wrap .i64 (Int.tdiv (IntKind.wrap .i64 ((D.i x2) - (D.i x1))) (8 : Int))) (IntKind.wrap .i64 ((D.i x2) - (D.i (rs r36 0)))))) (rs r36 1) (rs r38 0) Q))))))))
 (cond (D.b x8)
 (cond (D.b x9)
 (cond (iEq (D.i (rs r4 1)) (1 : Int))
 (wpF Try.prog A n 153 [(rs r3 0), x1, x2] fun r39 =>
 (cond (D.b (rs r39 0))
 (Q [(rs r39 1)])
 (cond (iLt (0 : Int) (D.i x1))
 ((0 ≤ (IntKind.wrap .i64 ((D.i x1) - (1 : Int))) ∧ (IntKind.wrap .i64 ((D.i x1) - (1 : Int))) < (D.len (rs r39 1))) ∧ ((0 ≤ (D.i (rs r4 0)) ∧ (D.i (rs r4 0)) < (D.len (rs r39 1))) ∧ (wpF Try.prog A n 154 [(List.getD (D.xs (rs r39 1)) (Int.toNat (IntKind.wrap .i64 ((D.i x1) - (1 : Int)))) D.und), (List.getD (D.xs (rs r39 1)) (Int.toNat (D.i (rs r4 0))) D.und)] fun r40 =>
 (cond (!(D.b (rs r40 0)))
 (wpF Try.prog A n 155 [(rs r39 1), x1, x2, (rs r4 0)] fun r41 =>
 (L87_2 n  m0 (rs r41 0) x2 (D.int (IntKind.wrap .i64 ((D.i x3) - (1 : Int)))) x8 x9 (rs r41 1) Q))
 (wpF Try.prog A n 156 [(rs r39 1), x1, x2, (rs r4 0)] fun r42 =>
 ((8 : Int) ≠ (0 : Int) ∧ (cond (iLt (IntKind.wrap .i64 ((D.i (rs r42 0)) - (D.i x1))) (IntKind.wrap .i64 ((D.i x2) - (D.i (rs r42 0)))))
 (wpF Try.prog A n 87 [(rs r42 2), x1, (rs r42 0), (D.int (IntKind.wrap .i64 ((D.i x3) - (1 : Int))))] fun r43 =>
 (L87_2 n  m0 (D.int (IntKind.wrap .i64 ((D.i (rs r42 0)) + (1 : Int)))) x2 (D.int (IntKind.wrap .i64 ((D.i x3) - (1 : Int)))) (D.bool (iLe (IntKind.wrap .i64 (Int.tdiv (IntKind.wrap .i64 ((D.i x2) - (D.i x1))) (8 : Int))) (IntKind.wrap .i64 ((D.i (rs r42 0)) - (D.i x1))))) (rs r42 1) (rs r43 0) Q))
 (wpF Try.prog A n 87 [(rs r42 2), (D.int (IntKind.wrap .i64 ((D.i (rs r42 0)) + (1 : Int)))), x2, (D.int (IntKind.wrap .i64 ((D.i x3) - (1 : Int))))] fun r44 =>
 (L87_2 n  m0 x1 (rs r42 0) (D.int (IntKind.wrap .i64 ((D.i x3) - (1 : Int)))) (D.bool (iLe (IntKind.wrap .i64 (Int.tdiv (IntKind.wrap .i64 ((D.i x2) - (D.i x1))) (8 : Int))) (IntKind.wrap .i64 ((D.i x2) - (D.i (rs r42 0)))))) (rs r42 1) (rs r44 0) Q)))))))))
 (wpF Try.prog A n 156 [(rs r39 1), x1, x2, (rs r4 0)] fun r45 =>
 ((8 : Int) ≠ (0 : Int) ∧ (cond (iLt (IntKind.wrap .i64 ((D.i (rs r45 0)) - (D.i x1))) (IntKind.wrap .i64 ((D.i x2) - (D.i (rs r45 0)))))
 (wpF Try.prog A n 87 [(rs r45 2), x1, (rs r45 0), (D.int (IntKind.wrap .i64 ((D.i x3) - (1 : Int))))] fun r46 =>
 (L87_2 n  m0 (D.int (IntKind.wrap .i64 ((D.i (rs r45 0)) + (1 : Int)))) x2 (D.int (IntKind.wrap .i64 ((D.i x3) - (1 : Int)))) (D.bool (iLe (IntKind.wrap .i64 (Int.tdiv (IntKind.wrap .i64 ((D.i x2) - (D.i x1))) (8 : Int))) (IntKind.wrap .i64 ((D.i (rs r45 0)) - (D.i x1))))) (rs r45 1) (rs r46 0) Q))
 (wpF Try.prog A n 87 [(rs r45 2), (D.int (IntKind.wrap .i64 ((D.i (rs r45 0)) + (1 : Int)))), x2, (D.int (IntKind.wrap .i64 ((D.i x3) - (1 : Int))))] fun r47 =>
 (L87_2 n  m0 x1 (rs r45 0) (D.int (IntKind.wrap .i64 ((D.i x3) - (1 : Int)))) (D.bool (iLe (IntKind.wrap .i64 (Int.tdiv (IntKind.wrap .i64 ((D.i x2) - (D.i x1))) (8 : Int))) (IntKind.wrap .i64 ((D.i x2) - (D.i (rs r45 0)))))) (rs r45 1) (rs r47 0) Q))))))))
 (cond (iLt (0 : Int) (D.i x1))
 ((0 ≤ (IntKind.wrap .i64 ((D.i x1) - (1 : Int))) ∧ (IntKind.wrap .i64 ((D.i x1) - (1 : Int))) < (D.len (rs r3 0))) ∧ ((0 ≤ (D.i (rs r4 0)) ∧ (D.i (rs r4 0)) < (D.len (rs r3 0))) ∧ (wpF Try.prog A n 154 [(List.getD (D.xs (rs r3 0)) (Int.toNat (IntKind.wrap .i64 ((D.i x1) - (1 : Int)))) D.und), (List.getD (D.xs (rs r3 0)) (Int.toNat (D.i (rs r4 0))) D.und)] fun r48 =>
 (cond (!(D.b (rs r48 0)))
 (wpF Try.prog A n 155 [(rs r3 0), x1, x2, (rs r4 0)] fun r49 =>
 (L87_2 n  m0 (rs r49 0) x2 (D.int (IntKind.wrap .i64 ((D.i x3) - (1 : Int)))) x8 x9 (rs r49 1) Q))
 (wpF Try.prog A n 156 [(rs r3 0), x1, x2, (rs r4 0)] fun r50 =>
 ((8 : Int) ≠ (0 : Int) ∧ (cond (iLt (IntKind.wrap .i64 ((D.i (rs r50 0)) - (D.i x1))) (IntKind.wrap .i64 ((D.i x2) - (D.i (rs r50 0)))))
 (wpF Try.prog A n 87 [(rs r50 2), x1, (rs r50 0), (D.int (IntKind.wrap .i64 ((D.i x3) - (1 : Int))))] fun r51 =>
 (L87_2 n  m0 (D.int (IntKind.wrap .i64 ((D.i (rs r50 0)) + (1 : Int)))) x2 (D.int (IntKind.wrap .i64 ((D.i x3) - (1 : Int)))) (D.bool (iLe (IntKind.wrap .i64 (Int.tdiv (IntKind.wrap .i64 ((D.i x2) - (D.i x1))) (8 : Int))) (IntKind.wrap .i64 ((D.i (rs r50 0)) - (D.i x1))))) (rs r50 1) (rs r51 0) Q))
 (wpF Try.prog A n 87 [(rs r50 2), (D.int (IntKind.wrap .i64 ((D.i (rs r50 0)) + (1 : Int)))), x2, (D.int (IntKind.wrap .i64 ((D.i x3) - (1 : Int))))] fun r52 =>
 (L87_2 n  m0 x1 (rs r50 0) (D.int (IntKind.wrap .i64 ((D.i x3) - (1 : Int)))) (D.bool (iLe (IntKind.wrap .i64 (Int.tdiv (IntKind.wrap .i64 ((D.i x2) - (D.i x1))) (8 : Int))) (IntKind.wrap .i64 ((D.i x2) - (D.i (rs r50 0)))))) (rs r50 1) (rs r52 0) Q)))))))))
 (wpF Try.prog A n 156 [(rs r3 0), x1, x2, (rs r4 0)] fun r53 =>
 ((8 : Int) ≠ (0 : Int) ∧ (cond (iLt (IntKind.wrap .i64 ((D.i (rs r53 0)) - (D.i x1))) (IntKind.wrap .i64 ((D.i x2) - (D.i (rs r53 0)))))
 (wpF Try.prog A n 87 [(rs r53 2), x1, (rs r53 0), (D.int (IntKind.wrap .i64 ((D.i x3) - (1 : Int))))] fun r54 =>
 (L87_2 n  m0 (D.int (IntKind.wrap .i64 ((D.i (rs r53 0)) + (1 : Int)))) x2 (D.int (IntKind.wrap .i64 ((D.i x3) - (1 : Int)))) (D.bool (iLe (IntKind.wrap .i64 (Int.tdiv (IntKind.wrap .i64 ((D.i x2) - (D.i x1))) (8 : Int))) (IntKind.wrap .i64 ((D.i (rs r53 0)) - (D.i x1))))) (rs r53 1) (rs r54 0) Q))
 (wpF Try.prog A n 87 [(rs r53 2), (D.int (IntKind.wrap .i64 ((D.i (rs r53 0)) + (1 : Int)))), x2, (D.int (IntKind.wrap .i64 ((D.i x3) - (1 : Int))))] fun r55 =>
 (L87_2 n  m0 x1 (rs r53 0) (D.int (IntKind.wrap .i64 ((D.i x3) - (1 : Int)))) (D.bool (iLe (IntKind.wrap .i64 (Int.tdiv (IntKind.wrap .i64 ((D.i x2) - (D.i x1))) (8 : Int))) (IntKind.wrap .i64 ((D.i x2) - (D.i (rs r53 0)))))) (rs r53 1) (rs r55 0) Q)))))))
 (cond (iLt (0 : Int) (D.i x1))
 ((0 ≤ (IntKind.wrap .i64 ((D.i x1) - (1 : Int))) ∧ (IntKind.wrap .i64 ((D.i x1) - (1 : Int))) < (D.len (rs r3 0))) ∧ ((0 ≤ (D.i (rs r4 0)) ∧ (D.i (rs r4 0)) < (D.len (rs r3 0))) ∧ (wpF Try.prog A n 154 [(List.getD (D.xs (rs r3 0)) (Int.toNat (IntKind.wrap .i64 ((D.i x1) - (1 : Int)))) D.und), (List.getD (D.xs (rs r3 0)) (Int.toNat (D.i (rs r4 0))) D.und)] fun r56 =>
 (cond (!(D.b (rs r56 0)))
 (wpF Try.prog A n 155 [(rs r3 0), x1, x2, (rs r4 0)] fun r57 =>
 (L87_2 n  m0 (rs r57 0) x2 (D.int (IntKind.wrap .i64 ((D.i x3) - (1 : Int)))) x8 x9 (rs r57 1) Q))
 (wpF Try.prog A n 156 [(rs r3 0), x1, x2, (rs r4 0)] fun r58 =>
 ((8 : Int) ≠ (0 : Int) ∧ (cond (iLt (IntKind.wrap .i64 ((D.i (rs r58 0)) - (D.i x1))) (IntKind.wrap .i64 ((D.i x2) - (D.i (rs r58 0)))))
 (wpF Try.prog A n 87 [(rs r58 2), x1, (rs r58 0), (D.int (IntKind.wrap .i64 ((D.i x3) - (1 : Int))))] fun r59 =>
 (L87_2 n  m0 (D.int (IntKind.wrap .i64 ((D.i (rs r58 0)) + (1 : Int)))) x2 (D.int (IntKind.wrap .i64 ((D.i x3) - (1 : Int)))) (D.bool (iLe (IntKind.wrap .i64 (Int.tdiv (IntKind.wrap .i64 ((D.i x2) - (D.i x1))) (8 : Int))) (IntKind.wrap .i64 ((D.i (rs r58 0)) - (D.i x1))))) (rs r58 1) (rs r59 0) Q))
 (wpF Try.prog A n 87 [(rs r58 2), (D.int (IntKind.wrap .i64 ((D.i (rs r58 0)) + (1 : Int)))), x2, (D.int (IntKind.wrap .i64 ((D.i x3) - (1 : Int))))] fun r60 =>
 (L87_2 n  m0 x1 (rs r58 0) (D.int (IntKind.wrap .i64 ((D.i x3) - (1 : Int)))) (D.bool (iLe (IntKind.wrap .i64 (Int.tdiv (IntKind.wrap .i64 ((D.i x2) - (D.i x1))) (8 : Int))) (IntKind.wrap .i64 ((D.i x2) - (D.i (rs r58 0)))))) (rs r58 1) (rs r60 0) Q)))))))))
 (wpF Try.prog A n 156 [(rs r3 0), x1, x2, (rs r4 0)] fun r61 =>
 ((8 : Int) ≠ (0 : Int) ∧ (cond (iLt (IntKind.wrap .i64 ((D.i (rs r61 0)) - (D.i x1))) (IntKind.wrap .i64 ((D.i x2) - (D.i (rs r61 0)))))
 (wpF Try.prog A n 87 [(rs r61 2), x1, (rs r61 0), (D.int (IntKind.wrap .i64 ((D.i x3) - (1 : Int))))] fun r62 =>
 (L87_2 n  m0 (D.int (IntKind.wrap .i64 ((D.i (rs r61 0)) + (1 : Int)))) x2 (D.int (IntKind.wrap .i64 ((D.i x3) - (1 : Int)))) (D.bool (iLe (IntKind.wrap .i64 (Int.tdiv (IntKind.wrap .i64 ((D.i x2) - (D.i x1))) (8 : Int))) (IntKind.wrap .i64 ((D.i (rs r61 0)) - (D.i x1))))) (rs r61 1) (rs r62 0) Q))
 (wpF Try.prog A n 87 [(rs r61 2), (D.int (IntKind.wrap .i64 ((D.i (rs r61 0)) + (1 : Int)))), x2, (D.int (IntKind.wrap .i64 ((D.i x3) - (1 : Int))))] fun r63 =>
 (L87_2 n  m0 x1 (rs r61 0) (D.int (IntKind.wrap .i64 ((D.i x3) - (1 : Int)))) (D.bool (iLe (IntKind.wrap .i64 (Int.tdiv (IntKind.wrap .i64 ((D.i x2) - (D.i x1))) (8 : Int))) (IntKind.wrap .i64 ((D.i x2) - (D.i (rs r61 0)))))) (rs r61 1) (rs r63 0) Q)))))))
 (cond (iLt (0 : Int) (D.i x1))
 ((0 ≤ (IntKind.wrap .i64 ((D.i x1) - (1 : Int))) ∧ (IntKind.wrap .i64 ((D.i x1) - (1 : Int))) < (D.len (rs r3 0))) ∧ ((0 ≤ (D.i (rs r4 0)) ∧ (D.i (rs r4 0)) < (D.len (rs r3 0))) ∧ (wpF Try.prog A n 154 [(List.getD (D.xs (rs r3 0)) (Int.toNat (IntKind.wrap .i64 ((D.i x1) - (1 : Int)))) D.und), (List.getD (D.xs (rs r3 0)) (Int.toNat (D.i (rs r4 0))) D.und)] fun r64 =>
 (cond (!(D.b (rs r64 0)))
 (wpF Try.prog A n 155 [(rs r3 0), x1, x2, (rs r4 0)] fun r65 =>
 (L87_2 n  m0 (rs r65 0) x2 (D.int (IntKind.wrap .i64 ((D.i x3) - (1 : Int)))) x8 x9 (rs r65 1) Q))
 (wpF Try.prog A n 156 [(rs r3 0), x1, x2, (rs r4 0)] fun r66 =>
 ((8 : Int) ≠ (0 : Int) ∧ (cond (iLt (IntKind.wrap .i64 ((D.i (rs r66 0)) - (D.i x1))) (IntKind.wrap .i64 ((D.i x2) - (D.i (rs r66 0)))))
 (wpF Try.prog A n 87 [(rs r66 2), x1, (rs r66 0), (D.int (IntKind.wrap .i64 ((D.i x3) - (1 : Int))))] fun r67 =>
 (L87_2 n  m0 (D.int (IntKind.wrap .i64 ((D.i (rs r66 0)) + (1 : Int)))) x2 (D.int (IntKind.wrap .i64 ((D.i x3) - (1 : Int)))) (D.bool (iLe (IntKind.wrap .i64 (Int.tdiv (IntKind.wrap .i64 ((D.i x2) - (D.i x1))) (8 : Int))) (IntKind.wrap .i64 ((D.i (rs r66 0)) - (D.i x1))))) (rs r66 1) (rs r67 0) Q))
 (wpF Try.prog A n 87 [(rs r66 2), (D.int (IntKind.wrap .i64 ((D.i (rs r66 0)) + (1 : Int)))), x2, (D.int (IntKind.wrap .i64 ((D.i x3) - (1 : Int))))] fun r68 =>
 (L87_2 n  m0 x1 (rs r66 0) (D.int (IntKind.wrap .i64 ((D.i x3) - (1 : Int)))) (D.bool (iLe (IntKind.wrap .i64 (Int.tdiv (IntKind.wrap .i64 ((D.i x2) - (D.i x1))) (8 : Int))) (IntKind.wrap .i64 ((D.i x2) - (D.i (rs r66 0)))))) (rs r66 1) (rs r68 0) Q)))))))))
 (wpF Try.prog A n 156 [(rs r3 0), x1, x2, (rs r4 0)] fun r69 =>
 ((8 : Int) ≠ (0 : Int) ∧ (cond (iLt (IntKind.wrap .i64 ((D.i (rs r69 0)) - (D.i x1))) (IntKind.wrap .i64 ((D.i x2) - (D.i (rs r69 0)))))
 (wpF Try.prog A n 87 [(rs r69 2), x1, (rs r69 0), (D.int (IntKind.wrap .i64 ((D.i x3) - (1 : Int))))] fun r70 =>
 (L87_2 n  m0 (D.int (IntKind.wrap .i64 ((D.i (rs r69 0)) + (1 : Int)))) x2 (D.int (IntKind.wrap .i64 ((D.i x3) - (1 : Int)))) (D.bool (iLe (IntKind.wrap .i64 (Int.tdiv (IntKind.wrap .i64 ((D.i x2) - (D.i x1))) (8 : Int))) (IntKind.wrap .i64 ((D.i (rs r69 0)) - (D.i x1))))) (rs r69 1) (rs r70 0) Q))
 (wpF Try.prog A n 87 [(rs r69 2), (D.int (IntKind.wrap .i64 ((D.i (rs r69 0)) + (1 : Int)))), x2, (D.int (IntKind.wrap .i64 ((D.i x3) - (1 : Int))))] fun r71 =>
 (L87_2 n  m0 x1 (rs r69 0) (D.int (IntKind.wrap .i64 ((D.i x3) - (1 : Int)))) (D.bool (iLe (IntKind.wrap .i64 (Int.tdiv (IntKind.wrap .i64 ((D.i x2) - (D.i x1))) (8 : Int))) (IntKind.wrap .i64 ((D.i x2) - (D.i (rs r69 0)))))) (rs r69 1) (rs r71 0) Q))))))))))
 (wpF Try.prog A n 151 [xo0, x1, x2] fun r72 =>
 (cond (iEq (D.i (rs r72 1)) (2 : Int))
 (wpF Try.prog A n 152 [xo0, x1, x2] fun r73 =>
 (cond (D.b x8)
 (cond (D.b x9)
 (cond (iEq (1 : Int) (1 : Int))
 (wpF Try.prog A n 153 [(rs r73 0), x1, x2] fun r74 =>
 (cond (D.b (rs r74 0))
 (Q [(rs r74 1)])
 (cond (iLt (0 : Int) (D.i x1))
 ((0 ≤ (IntKind.wrap .i64 ((D.i x1) - (1 : Int))) ∧ (IntKind.wrap .i64 ((D.i x1) - (1 : Int))) < (D.len (rs r74 1))) ∧ ((0 ≤ (IntKind.wrap .i64 ((IntKind.wrap .i64 ((D.i x2) - (1 : Int))) - (IntKind.wrap .i64 ((D.i (rs r72 0)) - (D.i x1))))) ∧ (IntKind.wrap .i64 ((IntKind.wrap .i64 ((D.i x2) - (1 : Int))) - (IntKind.wrap .i64 ((D.i (rs r72 0)) - (D.i x1))))) < (D.len (rs r74 1))) ∧ (wpF Try.prog A n 154 [(List.getD (D.xs (rs r74 1)) (Int.toNat (IntKind.wrap .i64 ((D.i x1) - (1 : Int)))) D.und), (List.getD (D.xs (rs r74 1)) (Int.toNat (IntKind.wrap .i64 ((IntKind.wrap .i64 ((D.i x2) - (1 : Int))) - (IntKind.wrap .i64 ((D.i (rs r72 0)) - (D.i x1)))))) D.und)] fun r75 =>
 (cond (!(D.b (rs r75 0)))
 (wpF Try.prog A n 155 [(rs r74 1), x1, x2, (D.int (IntKind.wrap .i64 ((IntKind.wrap .i64 ((D.i x2) - (1 : Int))) - (IntKind.wrap .i64 ((D.i (rs r72 0)) - (D.i x1))))))] fun r76 =>
 (L87_2 n  m0 (rs r76 0) x2 x3 x8 x9 (rs r76 1) Q))
 (wpF Try.prog A n 156 [(rs r74 1), x1, x2, (D.int (IntKind.wrap .i64 ((IntKind.wrap .i64 ((D.i x2) - (1 : Int))) - (IntKind.wrap .i64 ((D.i (rs r72 0)) - (D.i x1))))))] fun r77 =>
 ((8 : Int) ≠ (0 : Int) ∧ (cond (iLt (IntKind.wrap .i64 ((D.i (rs r77 0)) - (D.i x1))) (IntKind.wrap .i64 ((D.i x2) - (D.i (rs r77 0)))))
 (wpF Try.prog A n 87 [(rs r77 2), x1, (rs r77 0), x3] fun r78 =>
 (L87_2 n  m0 (D.int (IntKind.wrap .i64 ((D.i (rs r77 0)) + (1 : Int)))) x2 x3 (D.bool (iLe (IntKind.wrap .i64 (Int.tdiv (IntKind.wrap .i64 ((D.i x2) - (D.i x1))) (8 : Int))) (IntKind.wrap .i64 ((D.i (rs r77 0)) - (D.i x1))))) (rs r77 1) (rs r78 0) Q))
 (wpF Try.prog A n 87 [(rs r77 2), (D.int (IntKind.wrap .i64 ((D.i (rs r77 0)) + (1 : Int)))), x2, x3] fun r79 =>
 (L87_2 n  m0 x1 (rs r77 0) x3 (D.bool (iLe (IntKind.wrap .i64 (Int.tdiv (IntKind.wrap .i64 ((D.i x2) - (D.i x1))) (8 : Int))) (IntKind.wrap .i64 ((D.i x2) - (D.i (rs r77 0)))))) (rs r77 1) (rs r79 0) Q)))))))))
 (wpF Try.prog A n 156 [(rs r74 1), x1, x2, (D.int (IntKind.wrap .i64 ((IntKind.wrap .i64 ((D.i x2) - (1 : Int))) - (IntKind.wrap .i64 ((D.i (rs r72 0)) - (D.i x1))))))] fun r80 =>
 ((8 : Int) ≠ (0 : Int) ∧ (cond (iLt (IntKind.wrap .i64 ((D.i (rs r80 0)) - (D.i x1))) (IntKind.wrap .i64 ((D.i x2) - (D.i (rs r80 0)))))
 (wpF Try.prog A n 87 [(rs r80 2), x1, (rs r80 0), x3] fun r81 =>
 (L87_2 n  m0 (D.int (IntKind.wrap .i64 ((D.i (rs r80 0)) + (1 : Int)))) x2 x3 (D.bool (iLe (IntKind.wrap .i64 (Int.tdiv (IntKind.wrap .i64 ((D.i x2) - (D.i x1))) (8 : Int))) (IntKind.wrap .i64 ((D.i (rs r80 0)) - (D.i x1))))) (rs r80 1) (rs r81 0) Q))
 (wpF Try.prog A n 87 [(rs r80 2), (D.int (IntKind.wrap .i64 ((D.i (rs r80 0)) + (1 : Int)))), x2, x3] fun r82 =>
 (L87_2 n  m0 x1 (rs r80 0) x3 (D.bool (iLe (IntKind.wrap .i64 (Int.tdiv (IntKind.wrap .i64 ((D.i x2) - (D.i x1))) (8 : Int))) (IntKind.wrap .i64 ((D.i x2) - (D.i (rs r80 0)))))) (rs r80 1) (rs r82 0) Q))))))))
 (cond (iLt (0 : Int) (D.i x1))
 ((0 ≤ (IntKind.wrap .i64 ((D.i x1) - (1 : Int))) ∧ (IntKind.wrap .i64 ((D.i x1) - (1 : Int))) < (D.len (rs r73 0))) ∧ ((0 ≤ (IntKind.wrap .i64 ((IntKind.wrap .i64 ((D.i x2) - (1 : Int))) - (IntKind.wrap .i64 ((D.i (rs r72 0)) - (D.i x1))))) ∧ (IntKind.wrap .i64 ((IntKind.wrap .i64 ((D.i x2) - (1 : Int))) - (IntKind.wrap .i64 ((D.i (rs r72 0)) - (D.i x1))))) < (D.len (rs r73 0))) ∧ (wpF Try.prog A n 154 [(List.getD (D.xs (rs r73 0)) (Int.toNat (IntKind.wrap .i64 ((D.i x1) - (1 : Int)))) D.und), (List.getD (D.xs (rs r73 0)) (Int.toNat (IntKind.wrap .i64 ((IntKind.wrap .i64 ((D.i x2) - (1 : Int))) - (IntKind.wrap .i64 ((D.i (rs r72 0)) - (D.i x1)))))) D.und)] fun r83 =>
 (cond (!(D.b (rs r83 0)))
 (wpF Try.prog A n 155 [(rs r73 0), x1, x2, (D.int (IntKind.wrap .i64 ((IntKind.wrap .i64 ((D.i x2) - (1 : Int))) - (IntKind.wrap .i64 ((D.i (rs r72 0)) - (D.i x1))))))] fun r84 =>
 (L87_2 n  m0 (rs r84 0) x2 x3 x8 x9 (rs r84 1) Q))
 (wpF Try.prog A n 156 [(rs r73 0), x1, x2, (D.int (IntKind.wrap .i64 ((IntKind.wrap .i64 ((D.i x2) - (1 : Int))) - (IntKind.wrap .i64 ((D.i (rs r72 0)) - (D.i x1))))))] fun r85 =>
 ((8 : Int) ≠ (0 : Int) ∧ (cond (iLt (IntKind.wrap .i64 ((D.i (rs r85 0)) - (D.i x1))) (IntKind.wrap .i64 ((D.i x2) - (D.i (rs r85 0)))))
 (wpF Try.prog A n 87 [(rs r85 2), x1, (rs r85 0), x3] fun r86 =>
 (L87_2 n  m0 (D.int (IntKind.wrap .i64 ((D.i (rs r85 0)) + (1 : Int)))) x2 x3 (D.bool (iLe (IntKind.wrap .i64 (Int.tdiv (IntKind.wrap .i64 ((D.i x2) - (D.i x1))) (8 : Int))) (IntKind.wrap .i64 ((D.i (rs r85 0)) - (D.i x1))))) (rs r85 1) (rs r86 0) Q))
 (wpF Try.prog A n 87 [(rs r85 2), (D.int (IntKind.wrap .i64 ((D.i (rs r85 0)) + (1 : Int)))), x2, x3] fun r87 =>
 (L87_2 n  m0 x1 (rs r85 0) x3 (D.bool (iLe (IntKind.wrap .i64 (Int.tdiv (IntKind.wrap .i64 ((D.i x2) - (D.i x1))) (8 : Int))) (IntKind.wrap .i64 ((D.i x2) - (D.i (rs r85 0)))))) (rs r85 1) (rs r87 0) Q)))))))))
 (wpF Try.prog A n 156 [(rs r73 0), x1, x2, (D.int (IntKind.wrap .i64 ((IntKind.wrap .i64 ((D.i x2) - (1 : Int))) - (IntKind.wrap .i64 ((D.i (rs r72 0)) - (D.i x1))))))] fun r88 =>
 ((8 : Int) ≠ (0 : Int) ∧ (cond (iLt (IntKind.wrap .i64 ((D.i (rs r88 0)) - (D.i x1))) (IntKind.wrap .i64 ((D.i x2) - (D.i (rs r88 0)))))
 (wpF Try.prog A n 87 [(rs r88 2), x1, (rs r88 0), x3] fun r89 =>
 (L87_2 n  m0 (D.int (IntKind.wrap .i64 ((D.i (rs r88 0)) + (1 : Int)))) x2 x3 (D.bool (iLe (IntKind.wrap .i64 (Int.tdiv (IntKind.wrap .i64 ((D.i x2) - (D.i x1))) (8 : Int))) (IntKind.wrap .i64 ((D.i (rs r88 0)) - (D.i x1))))) (rs r88 1) (rs r89 0) Q))
 (wpF Try.prog A n 87 [(rs r88 2), (D.int (IntKind.wrap .i64 ((D.i (rs r88 0)) + (1 : Int)))), x2, x3] fun r90 =>
 (L87_2 n  m0 x1 (rs r88 0) x3 (D.bool (iLe (IntKind.wrap .i64 (Int.tdiv (IntKind.wrap .i64 ((D.i x2) - (D.i x1))) (8 : Int))) (IntKind.wrap .i64 ((D.i x2) - (D.i (rs r88 0)))))) (rs r88 1) (rs r90 0) Q)))))))
 (cond (iLt (0 : Int) (D.i x1))
 ((0 ≤ (IntKind.wrap .i64 ((D.i x1) - (1 : Int))) ∧ (IntKind.wrap .i64 ((D.i x1) - (1 : Int))) < (D.len (rs r73 0))) ∧ ((0 ≤ (IntKind.wrap .i64 ((IntKind.wrap .i64 ((D.i x2) - (1 : Int))) - (IntKind.wrap .i64 ((D.i (rs r72 0)) - (D.i x1))))) ∧ (IntKind.wrap .i64 ((IntKind.wrap .i64 ((D.i x2) - (1 : Int))) - (IntKind.wrap .i64 ((D.i (rs r72 0)) - (D.i x1))))) < (D.len (rs r73 0))) ∧ (wpF Try.prog A n 154 [(List.getD (D.xs (rs r73 0)) (Int.toNat (IntKind.wrap .i64 ((D.i x1) - (1 : Int)))) D.und), (List.getD (D.xs (rs r73 0)) (Int.toNat (IntKind.wrap .i64 ((IntKind.wrap .i64 ((D.i x2) - (1 : Int))) - (IntKind.wrap .i64 ((D.i (rs r72 0)) - (D.i x1)))))) D.und)] fun r91 =>
 (cond (!(D.b (rs r91 0)))
 (wpF Try.prog A n 155 [(rs r73 0), x1, x2, (D.int (IntKind.wrap .i64 ((IntKind.wrap .i64 ((D.i x2) - (1 : Int))) - (IntKind.wrap .i64 ((D.i (rs r72 0)) - (D.i x1))))))] fun r92 =>
 (L87_2 n  m0 (rs r92 0) x2 x3 x8 x9 (rs r92 1) Q))
 (wpF Try.prog A n 156 [(rs r73 0), x1, x2, (D.int (IntKind.wrap .i64 ((IntKind.wrap .i64 ((D.i x2) - (1 : Int))) - (IntKind.wrap .i64 ((D.i (rs r72 0)) - (D.i x1))))))] fun r93 =>
 ((8 : Int) ≠ (0 : Int) ∧ (cond (iLt (IntKind.wrap .i64 ((D.i (rs r93 0)) - (D.i x1))) (IntKind.wrap .i64 ((D.i x2) - (D.i (rs r93 0)))))
 (wpF Try.prog A n 87 [(rs r93 2), x1, (rs r93 0), x3] fun r94 =>
 (L87_2 n  m0 (D.int (IntKind.wrap .i64 ((D.i (rs r93 0)) + (1 : Int)))) x2 x3 (D.bool (iLe (IntKind.wrap .i64 (Int.tdiv (IntKind.wrap .i64 ((D.i x2) - (D.i x1))) (8 : Int))) (IntKind.wrap .i64 ((D.i (rs r93 0)) - (D.i x1))))) (rs r93 1) (rs r94 0) Q))
 (wpF Try.prog A n 87 [(rs r93 2), (D.int (IntKind.wrap .i64 ((D.i (rs r93 0)) + (1 : Int)))), x2, x3] fun r95 =>
 (L87_2 n  m0 x1 (rs r93 0) x3 (D.bool (iLe (IntKind.wrap .i64 (Int.tdiv (IntKind.wrap .i64 ((D.i x2) - (D.i x1))) (8 : Int))) (IntKind.wrap .i64 ((D.i x2) - (D.i (rs r93 0)))))) (rs r93 1) (rs r95 0) Q)))))))))
 (wpF Try.prog A n 156 [(rs r73 0), x1, x2, (D.int (IntKind.wrap .i64 ((IntKind.wrap .i64 ((D.i x2) - (1 : Int))) - (IntKind.wrap .i64 ((D.i (rs r72 0)) - (D.i x1))))))] fun r96 =>
 ((8 : Int) ≠ (0 : Int) ∧ (cond (iLt (IntKind.wrap .i64 ((D.i (rs r96 0)) - (D.i x1))) (IntKind.wrap .i64 ((D.i x2) - (D.i (rs r96 0)))))
 (wpF Try.prog A n 87 [(rs r96 2), x1, (rs r96 0), x3] fun r97 =>
 (L87_2 n  m0 (D.int (IntKind.wrap .i64 ((D.i (rs r96 0)) + (1 : Int)))) x2 x3 (D.bool (iLe (IntKind.wrap .i64 (Int.tdiv (IntKind.wrap .i64 ((D.i x2) - (D.i x1))) (8 : Int))) (IntKind.wrap .i64 ((D.i (rs r96 0)) - (D.i x1))))) (rs r96 1) (rs r97 0) Q))
 (wpF Try.prog A n 87 [(rs r96 2), (D.int (IntKind.wrap .i64 ((D.i (rs r96 0)) + (1 : Int)))), x2, x3] fun r98 =>
 (L87_2 n  m0 x1 (rs r96 0) x3 (D.bool (iLe (IntKind.wrap .i64 (Int.tdiv (IntKind.wrap .i64 ((D.i x2) - (D.i x1))) (8 : Int))) (IntKind.wrap .i64 ((D.i x2) - (D.i (rs r96 0)))))) (rs r96 1) (rs r98 0) Q)))))))
 (cond (iLt (0 : Int) (D.i x1))
 ((0 ≤ (IntKind.wrap .i64 ((D.i x1) - (1 : Int))) ∧ (IntKind.wrap .i64 ((D.i x1) - (1 : Int))) < (D.len (rs r73 0))) ∧ ((0 ≤ (IntKind.wrap .i64 ((IntKind.wrap .i64 ((D.i x2) - (1 : Int))) - (IntKind.wrap .i64 ((D.i (rs r72 0)) - (D.i x1))))) ∧ (IntKind.wrap .i64 ((IntKind.wrap .i64 ((D.i x2) - (1 : Int))) - (IntKind.wrap .i64 ((D.i (rs r72 0)) - (D.i x1))))) < (D.len (rs r73 0))) ∧ (wpF Try.prog A n 154 [(List.getD (D.xs (rs r73 0)) (Int.toNat (IntKind.wrap .i64 ((D.i x1) - (1 : Int)))) D.und), (List.getD (D.xs (rs r73 0)) (Int.toNat (IntKind.wrap .i64 ((IntKind.wrap .i64 ((D.i x2) - (1 : Int))) - (IntKind.wrap .i64 ((D.i (rs r72 0)) - (D.i x1)))))) D.und)] fun r99 =>
 (cond (!(D.b (rs r99 0)))
 (wpF Try.prog A n 155 [(rs r73 0), x1, x2, (D.int (IntKind.wrap .i64 ((IntKind.wrap .i64 ((D.i x2) - (1 : Int))) - (IntKind.wrap .i64 ((D.i (rs r72 0)) - (D.i x1))))))] fun r100 =>
 (L87_2 n  m0 (rs r100 0) x2 x3 x8 x9 (rs r100 1) Q))
 (wpF Try.prog A n 156 [(rs r73 0), x1, x2, (D.int (IntKind.wrap .i64 ((IntKind.wrap .i64 ((D.i x2) - (1 : Int))) - (IntKind.wrap .i64 ((D.i (rs r72 0)) - (D.i x1))))))] fun r101 =>
 ((8 : Int) ≠ (0 : Int) ∧ (cond (iLt (IntKind.wrap .i64 ((D.i (rs r101 0)) - (D.i x1))) (IntKind.wrap .i64 ((D.i x2) - (D.i (rs r101 0)))))
 (wpF Try.prog A n 87 [(rs r101 2), x1, (rs r101 0), x3] fun r102 =>
 (L87_2 n  m0 (D.int (IntKind.wrap .i64 ((D.i (rs r101 0)) + (1 : Int)))) x2 x3 (D.bool (iLe (IntKind.wrap .i64 (Int.tdiv (IntKind.wrap .i64 ((D.i x2) - (D.i x1))) (8 : Int))) (IntKind.wrap .i64 ((D.i (rs r101 0)) - (D.i x1))))) (rs r101 1) (rs r102 0) Q))
 (wpF Try.prog A n 87 [(rs r101 2), (D.int (IntKind.wrap .i64 ((D.i (rs r101 0)) + (1 : Int)))), x2, x3] fun r103 =>
 (L87_2 n  m0 x1 (rs r101 0) x3 (D.bool (iLe (IntKind.wrap .i64 (Int.tdiv (IntKind.wrap .i64 ((D.i x2) - (D.i x1))) (8 : Int))) (IntKind.wrap .i64 ((D.i x2) - (D.i (rs r101 0)))))) (rs r101 1) (rs r103 0) Q)))))))))
 (wpF Try.prog A n 156 [(rs r73 0), x1, x2, (D.int (IntKind.wrap .i64 ((IntKind.wrap .i64 ((D.i x2) - (1 : Int))) - (IntKind.wrap .i64 ((D.i (rs r72 0)) - (D.i x1))))))] fun r104 =>
 ((8 : Int) ≠ (0 : Int) ∧ (cond (iLt (IntKind.wrap .i64 ((D.i (rs r104 0)) - (D.i x1))) (IntKind.wrap .i64 ((D.i x2) - (D.i (rs r104 0)))))
 (wpF Try.prog A n 87 [(rs r104 2), x1, (rs r104 0), x3] fun r105 =>
 (L87_2 n  m0 (D.int (IntKind.wrap .i64 ((D.i (rs r104 0)) + (1 : Int)))) x2 x3 (D.bool (iLe (IntKind.wrap .i64 (Int.tdiv (IntKind.wrap .i64 ((D.i x2) - (D.i x1))) (8 : Int))) (IntKind.wrap .i64 ((D.i (rs r104 0)) - (D.i x1))))) (rs r104 1) (rs r105 0) Q))
 (wpF Try.prog A n 87 [(rs r104 2), (D.int (IntKind.wrap .i64 ((D.i (rs r104 0)) + (1 : Int)))), x2, x3] fun r106 =>
 (L87_2 n  m0 x1 (rs r104 0) x3 (D.bool (iLe (IntKind.wrap .i64 (Int.tdiv (IntKind.wrap .i64 ((D.i x2) - (D.i x1))) (8 : Int))) (IntKind.wrap .i64 ((D.i x2) - (D.i (rs r104 0)))))) (rs r104 1) (rs r106 0) Q))))))))
 (cond (D.b x8)
 (cond (D.b x9)
 (cond (iEq (D.i (rs r72 1)) (1 : Int))
 (wpF Try.prog A n 153 [xo0, x1, x2] fun r107 =>
 (cond (D.b (rs r107 0))
 (Q [(rs r107 1)])
 (cond (iLt (0 : Int) (D.i x1))
 ((0 ≤ (IntKind.wrap .i64 ((D.i x1) - (1 : Int))) ∧ (IntKind.wrap .i64 ((D.i x1) - (1 : Int))) < (D.len (rs r107 1))) ∧ ((0 ≤ (D.i (rs r72 0)) ∧ (D.i (rs r72 0)) < (D.len (rs r107 1))) ∧ (wpF Try.prog A n 154 [(List.getD (D.xs (rs r107 1)) (Int.toNat (IntKind.wrap .i64 ((D.i x1) - (1 : Int)))) D.und), (List.getD (D.xs (rs r107 1)) (Int.toNat (D.i (rs r72 0))) D.und)] fun r108 =>
 (cond (!(D.b (rs r108 0)))
 (wpF Try.prog A n 155 [(rs r107 1), x1, x2, (rs r72 0)] fun r109 =>
 (L87_2 n  m0 (rs r109 0) x2 x3 x8 x9 (rs r109 1) Q))
 (wpF Try.prog A n 156 [(rs r107 1), x1, x2, (rs r72 0)] fun r110 =>
 ((8 : Int) ≠ (0 : Int) ∧ (cond (iLt (IntKind.wrap .i64 ((D.i (rs r110 0)) - (D.i x1))) (IntKind.wrap .i64 ((D.i x2) - (D.i (rs r110 0)))))
 (wpF Try.prog A n 87 [(rs r110 2), x1, (rs r110 0), x3] fun r111 =>
 (L87_2 n  m0 (D.int (IntKind.wrap .i64 ((D.i (rs r110 0)) + (1 : Int)))) x2 x3 (D.bool (iLe (IntKind.wrap .i64 (Int.tdiv (IntKind.wrap .i64 ((D.i x2) - (D.i x1))) (8 : Int))) (IntKind.wrap .i64 ((D.i (rs r110 0)) - (D.i x1))))) (rs r110 1) (rs r111 0) Q))
 (wpF Try.prog A n 87 [(rs r110 2), (D.int (IntKind.wrap .i64 ((D.i (rs r110 0)) + (1 : Int)))), x2, x3] fun r112 =>
 (L87_2 n  m0 x1 (rs r110 0) x3 (D.bool (iLe (IntKind.wrap .i64 (Int.tdiv (IntKind.wrap .i64 ((D.i x2) - (D.i x1))) (8 : Int))) (IntKind.wrap .i64 ((D.i x2) - (D.i (rs r110 0)))))) (rs r110 1) (rs r112 0) Q)))))))))
 (wpF Try.prog A n 156 [(rs r107 1), x1, x2, (rs r72 0)] fun r113 =>
 ((8 : Int) ≠ (0 : Int) ∧ (cond (iLt (IntKind.wrap .i64 ((D.i (rs r113 0)) - (D.i x1))) (IntKind.wrap .i64 ((D.i x2) - (D.i (rs r113 0)))))
 (wpF Try.prog A n 87 [(rs r113 2), x1, (rs r113 0), x3] fun r114 =>
 (L87_2 n  m0 (D.int (IntKind.wrap .i64 ((D.i (rs r113 0)) + (1 : Int)))) x2 x3 (D.bool (iLe (IntKind.wrap .i64 (Int.tdiv (IntKind.wrap .i64 ((D.i x2) - (D.i x1))) (8 : Int))) (IntKind.wrap .i64 ((D.i (rs r113 0)) - (D.i x1))))) (rs r113 1) (rs r114 0) Q))
 (wpF Try.prog A n 87 [(rs r113 2), (D.int (IntKind.wrap .i64 ((D.i (rs r113 0)) + (1 : Int)))), x2, x3] fun r115 =>
 (L87_2 n  m0 x1 (rs r113 0) x3 (D.bool (iLe (IntKind.wrap .i64 (Int.tdiv (IntKind.wrap .i64 ((D.i x2) - (D.i x1))) (8 : Int))) (IntKind.wrap .i64 ((D.i x2) - (D.i (rs r113 0)))))) (rs r113 1) (rs r115 0) Q))))))))
 (cond (iLt (0 : Int) (D.i x1))
 ((0 ≤ (IntKind.wrap .i64 ((D.i x1) - (1 : Int))) ∧ (IntKind.wrap .i64 ((D.i x1) - (1 : Int))) < (D.len xo0)) ∧ ((0 ≤ (D.i (rs r72 0)) ∧ (D.i (rs r72 0)) < (D.len xo0)) ∧ (wpF Try.prog A n 154 [(List.getD (D.xs xo0) (Int.toNat (IntKind.wrap .i64 ((D.i x1) - (1 : Int)))) D.und), (List.getD (D.xs xo0) (Int.toNat (D.i (rs r72 0))) D.und)] fun r116 =>
 (cond (!(D.b (rs r116 0)))
 (wpF Try.prog A n 155 [xo0, x1, x2, (rs r72 0)] fun r117 =>
 (L87_2 n  m0 (rs r117 0) x2 x3 x8 x9 (rs r117 1) Q))
 (wpF Try.prog A n 156 [xo0, x1, x2, (rs r72 0)] fun r118 =>
 ((8 : Int) ≠ (0 : Int) ∧ (cond (iLt (IntKind.wrap .i64 ((D.i (rs r118 0)) - (D.i x1))) (IntKind.wrap .i64 ((D.i x2) - (D.i (rs r118 0)))))
 (wpF Try.prog A n 87 [(rs r118 2), x1, (rs r118 0), x3] fun r119 =>
 (L87_2 n  m0 (D.int (IntKind.wrap .i64 ((D.i (rs r118 0)) + (1 : Int)))) x2 x3 (D.bool (iLe (IntKind.wrap .i64 (Int.tdiv (IntKind.wrap .i64 ((D.i x2) - (D.i x1))) (8 : Int))) (IntKind.wrap .i64 ((D.i (rs r118 0)) - (D.i x1))))) (rs r118 1) (rs r119 0) Q))
 (wpF Try.prog A n 87 [(rs r118 2), (D.int (IntKind.wrap .i64 ((D.i (rs r118 0)) + (1 : Int)))), x2, x3] fun r120 =>
 (L87_2 n  m0 x1 (rs r118 0) x3 (D.bool (iLe (IntKind.wrap .i64 (Int.tdiv (IntKind.wrap .i64 ((D.i x2) - (D.i x1))) (8 : Int))) (IntKind.wrap .i64 ((D.i x2) - (D.i (rs r118 0)))))) (rs r118 1) (rs r120 0) Q)))))))))
 (wpF Try.prog A n 156 [xo0, x1, x2, (rs r72 0)] fun r121 =>
 ((8 : Int) ≠ (0 : Int) ∧ (cond (iLt (IntKind.wrap .i64 ((D.i (rs r121 0)) - (D.i x1))) (IntKind.wrap .i64 ((D.i x2) - (D.i (rs r121 0)))))
 (wpF Try.prog A n 87 [(rs r121 2), x1, (rs r121 0), x3] fun r122 =>
 (L87_2 n  m0 (D.int (IntKind.wrap .i64 ((D.i (rs r121 0)) + (1 : Int)))) x2 x3 (D.bool (iLe (IntKind.wrap .i64 (Int.tdiv (IntKind.wrap .i64 ((D.i x2) - (D.i x1))) (8 : Int))) (IntKind.wrap .i64 ((D.i (rs r121 0)) - (D.i x1))))) (rs r121 1) (rs r122 0) Q))
 (wpF Try.prog A n 87 [(rs r121 2), (D.int (IntKind.wrap .i64 ((D.i (rs r121 0)) + (1 : Int)))), x2, x3] fun r123 =>
 (L87_2 n  m0 x1 (rs r121 0) x3 (D.bool (iLe (IntKind.wrap .i64 (Int.tdiv (IntKind.wrap .i64 ((D.i x2) - (D.i x1))) (8 : Int))) (IntKind.wrap .i64 ((D.i x2) - (D.i (rs r121 0)))))) (rs r121 1) (rs r123 0) Q)))))))
 (cond (iLt (0 : Int) (D.i x1))
 ((0 ≤ (IntKind.wrap .i64 ((D.i x1) - (1 : Int))) ∧ (IntKind.wrap .i64 ((D.i x1) - (1 : Int))) < (D.len xo0)) ∧ ((0 ≤ (D.i (rs r72 0)) ∧ (D.i (rs r72 0)) < (D.len xo0)) ∧ (wpF Try.prog A n 154 [(List.getD (D.xs xo0) (Int.toNat (IntKind.wrap .i64 ((D.i x1) - (1 : Int)))) D.und), (List.getD (D.xs xo0) (Int.toNat (D.i (rs r72 0))) D.und)] fun r124 =>
 (cond (!(D.b (rs r124 0)))
 (wpF Try.prog A n 155 [xo0, x1, x2, (rs r72 0)] fun r125 =>
 (L87_2 n  m0 (rs r125 0) x2 x3 x8 x9 (rs r125 1) Q))
 (wpF Try.prog A n 156 [xo0, x1, x2, (rs r72 0)] fun r126 =>
 ((8 : Int) ≠ (0 : Int) ∧ (cond (iLt (IntKind.wrap .i64 ((D.i (rs r126 0)) - (D.i x1))) (IntKind.wrap .i64 ((D.i x2) - (D.i (rs r126 0)))))
 (wpF Try.prog A n 87 [(rs r126 2), x1, (rs r126 0), x3] fun r127 =>
 (L87_2 n  m0 (D.int (IntKind.wrap .i64 ((D.i (rs r126 0)) + (1 : Int)))) x2 x3 (D.bool (iLe (IntKind.wrap .i64 (Int.tdiv (IntKind.wrap .i64 ((D.i x2) - (D.i x1))) (8 : Int))) (IntKind.wrap .i64 ((D.i (rs r126 0)) - (D.i x1))))) (rs r126 1) (rs r127 0) Q))
 (wpF Try.prog A n 87 [(rs r126 2), (D.int (IntKind.wrap .i64 ((D.i (rs r126 0)) + (1 : Int)))), x2, x3] fun r128 =>
 (L87_2 n  m0 x1 (rs r126 0) x3 (D.bool (iLe (IntKind.wrap .i64 (Int.tdiv (IntKind.wrap .i64 ((D.i x2) - (D.i x1))) (8 : Int))) (IntKind.wrap .i64 ((D.i x2) - (D.i (rs r126 0)))))) (rs r126 1) (rs r128 0) Q)))))))))
 (wpF Try.prog A n 156 [xo0, x1, x2, (rs r72 0)] fun r129 =>
 ((8 : Int) ≠ (0 : Int) ∧ (cond (iLt (IntKind.wrap .i64 ((D.i (rs r129 0)) - (D.i x1))) (IntKind.wrap .i64 ((D.i x2) - (D.i (rs r129 0)))))
 (wpF Try.prog A n 87 [(rs r129 2), x1, (rs r129 0), x3] fun r130 =>
 (L87_2 n  m0 (D.int (IntKind.wrap .i64 ((D.i (rs r129 0)) + (1 : Int)))) x2 x3 (D.bool (iLe (IntKind.wrap .i64 (Int.tdiv (IntKind.wrap .i64 ((D.i x2) - (D.i x1))) (8 : Int))) (IntKind.wrap .i64 ((D.i (rs r129 0)) - (D.i x1))))) (rs r129 1) (rs r130 0) Q))
 (wpF Try.prog A n 87 [(rs r129 2), (D.int (IntKind.wrap .i64 ((D.i (rs r129 0)) + (1 : Int)))), x2, x3] fun r131 =>
 (L87_2 n  m0 x1 (rs r129 0) x3 (D.bool (iLe (IntKind.wrap .i64 (Int.tdiv (IntKind.wrap .i64 ((D.i x2) - (D.i x1))) (8 : Int))) (IntKind.wrap .i64 ((D.i x2) - (D.i (rs r129 0)))))) (rs r129 1) (rs r131 0) Q)))))))
 (cond (iLt (0 : Int) (D.i x1))
 ((0 ≤ (IntKind.wrap .i64 ((D.i x1) - (1 : Int))) ∧ (IntKind.wrap .i64 ((D.i x1) - (1 : Int))) < (D.len xo0)) ∧ ((0 ≤ (D.i (rs r72 0)) ∧ (D.i (rs r72 0)) < (D.len xo0)) ∧ (wpF Try.prog A n 154 [(List.getD (D.xs xo0) (Int.toNat (IntKind.wrap .i64 ((D.i x1) - (1 : Int)))) D.und), (List.getD (D.xs xo0) (Int.toNat (D.i (rs r72 0))) D.und)] fun r132 =>
 (cond (!(D.b (rs r132 0)))
 (wpF Try.prog A n 155 [xo0, x1, x2, (rs r72 0)] fun r133 =>
 (L87_2 n  m0 (rs r133 0) x2 x3 x8 x9 (rs r133 1) Q))
 (wpF Try.prog A n 156 [xo0, x1, x2, (rs r72 0)] fun r134 =>
 ((8 : Int) ≠ (0 : Int) ∧ (cond (iLt (IntKind.wrap .i64 ((D.i (rs r134 0)) - (D.i x1))) (IntKind.wrap .i64 ((D.i x2) - (D.i (rs r134 0)))))
 (wpF Try.prog A n 87 [(rs r134 2), x1, (rs r134 0), x3] fun r135 =>
 (L87_2 n  m0 (D.int (IntKind.wrap .i64 ((D.i (rs r134 0)) + (1 : Int)))) x2 x3 (D.bool (iLe (IntKind.wrap .i64 (Int.tdiv (IntKind.wrap .i64 ((D.i x2) - (D.i x1))) (8 : Int))) (IntKind.wrap .i64 ((D.i (rs r134 0)) - (D.i x1))))) (rs r134 1) (rs r135 0) Q))
 (wpF Try.prog A n 87 [(rs r134 2), (D.int (IntKind.wrap .i64 ((D.i (rs r134 0)) + (1 : Int)))), x2, x3] fun r136 =>
 (L87_2 n  m0 x1 (rs r134 0) x3 (D.bool (iLe (IntKind.wrap .i64 (Int.tdiv (IntKind.wrap .i64 ((D.i x2) - (D.i x1))) (8 : Int))) (IntKind.wrap .i64 ((D.i x2) - (D.i (rs r134 0)))))) (rs r134 1) (rs r136 0) Q)))))))))
 (wpF Try.prog A n 156 [xo0, x1, x2, (rs r72 0)] fun r137 =>
 ((8 : Int) ≠ (0 : Int) ∧ (cond (iLt (IntKind.wrap .i64 ((D.i (rs r137 0)) - (D.i x1))) (IntKind.wrap .i64 ((D.i x2) - (D.i (rs r137 0)))))
 (wpF Try.prog A n 87 [(rs r137 2), x1, (rs r137 0), x3] fun r138 =>
 (L87_2 n  m0 (D.int (IntKind.wrap .i64 ((D.i (rs r137 0)) + (1 : Int)))) x2 x3 (D.bool (iLe (IntKind.wrap .i64 (Int.tdiv (IntKind.wrap .i64 ((D.i x2) - (D.i x1))) (8 : Int))) (IntKind.wrap .i64 ((D.i (rs r137 0)) - (D.i x1))))) (rs r137 1) (rs r138 0) Q))
 (wpF Try.prog A n 87 [(rs r137 2), (D.int (IntKind.wrap .i64 ((D.i (rs r137 0)) + (1 : Int)))), x2, x3] fun r139 =>
 (L87_2 n  m0 x1 (rs r137 0) x3 (D.bool (iLe (IntKind.wrap .i64 (Int.tdiv (IntKind.wrap .i64 ((D.i x2) - (D.i x1))) (8 : Int))) (IntKind.wrap .i64 ((D.i x2) - (D.i (rs r137 0)))))) (rs r137 1) (rs r139 0) Q)))))))))))) := by kernel_rfl
theorem E87 (n : Nat) (d0 d1 d2 d3 : D) (Q : List D → Prop) : wpF Try.prog A (n + 1) 87 [d0, d1, d2, d3] Q =
 (L87_2 n  n d1 d2 d3 (D.bool true) (D.bool true) d0 Q) := by kernel_rfl
attribute [irreducible] L87_2

/- slices.Sort[[]int,int] -/
theorem E46 (n : Nat) (d0 : D) (Q : List D → Prop) : wpF Try.prog A (n + 1) 46 [d0] Q =
 (wpF Try.prog A n 88 [(D.int (IntKind.wrap .u64 (D.len d0)))] fun r1 =>
 (wpF Try.prog A n 87 [d0, (D.int (0 : Int)), (D.int (D.len d0)), (rs r1 0)] fun r2 =>
 (Q [(rs r2 0)]))) := by kernel_rfl

/- timebound/persist.Lines -/
def L15_4 (n m0 : Nat) (x7 : D) (x8 : D) (xo2 : D) (xo5 : D) (Q : List D → Prop) : Prop :=
  loopK (wpC Try.prog A (hnd Try.prog A n) 15 n (cA (cA (cB (cA (cB (cB (cB (bodyOf Try.f15))))))))) (nmK Try.prog (A.loop 15 4)) m0 { sl := [(2, .ptr 2 [] 50), (5, .val 5 [] 29), (7, .imm 3 x7), (8, .imm 3 x8)], ob := [(2, some ⟨true, 50, .imm, xo2⟩), (5, some ⟨false, 29, (.slc .imm none), xo5⟩)] } (kBlock 0 (kSeq (wpC Try.prog A (hnd Try.prog A n) 15 n (cB (cB (cB (cB (bodyOf Try.f15)))))) (kEnd Try.prog Try.f15 (A.sig 15) Q)))
theorem L15_4_eq (n m0 : Nat) (x7 : D) (x8 : D) (xo2 : D) (xo5 : D) (Q : List D → Prop) : L15_4 n (m0 + 1) x7 x8 xo2 xo5 Q =
 (cond (iLe (D.i x8) (D.i x7))
 (wpF Try.prog A n 45 [(D.fld xo2 1), x8] fun r2 =>
 (cond (iLe (0 : Int) (D.i (rs r2 0)))
 (wpF Try.prog A n 17 [xo2, x8, (D.bool true)] fun r3 =>
 (cond (!(D.b (rs r3 0)))
 (room (((List.length (D.xs xo5) : Nat) : Int) + ((List.length [(rs r2 0)] : Nat) : Int)) 8 ∧ (L15_4 n  m0 x7 (D.int (IntKind.wrap .i64 ((D.i x8) + (1 : Int)))) xo2 (D.slc ((D.xs xo5) ++ [(rs r2 0)])) Q))
 (L15_4 n  m0 x7 (D.int (IntKind.wrap .i64 ((D.i x8) + (1 : Int)))) xo2 xo5 Q)))
 (L15_4 n  m0 x7 (D.int (IntKind.wrap .i64 ((D.i x8) + (1 : Int)))) xo2 xo5 Q)))
 (wpF Try.prog A n 46 [xo5] fun r4 =>
 ((D.len (rs r4 0)) ≤ (9223372036854775807 : Int) ∧ (Q [(D.slc (cptD (D.xs (rs r4 0))))])))) := by kernel_rfl
theorem E15 (n : Nat) (d0 d1 : D) (Q : List D → Prop) : wpF Try.prog A (n + 1) 15 [d0, d1] Q =
 (wpF Try.prog A n 44 [d1] fun r1 =>
 (L15_4 n  n (rs r1 1) (rs r1 0) d0 (D.slc ([] : List D)) Q)) := by kernel_rfl
attribute [irreducible] L15_4

/- timebound/timeboundref22.Line -/
theorem E48 (n : Nat) (d0 d1 : D) (Q : List D → Prop) : wpF Try.prog A (n + 1) 48 [d0, d1] Q =
 (wpF Try.prog A n 89 [d0] fun r1 =>
 (cond (!(iEq (D.i (rs r1 0)) (0 : Int)))
 (Q [(D.int (-1 : Int))])
 (cond (iLt (D.i d1) (0 : Int))
 (Q [(D.int (-1 : Int))])
 ((D.i (D.fld d0 2)) ≠ (0 : Int) ∧ (Q [(D.int (IntKind.wrap .i64 (Int.tdiv (D.i d1) (D.i (D.fld d0 2)))))]))))) := by kernel_rfl

/- timebound/timeboundref26.Free -/
theorem E18 (n : Nat) (d0 d1 d2 : D) (Q : List D → Prop) : wpF Try.prog A (n + 1) 18 [d0, d1, d2] Q =
 (cond (D.b d2)
 (wpF Try.prog A n 50 [(D.fld d0 12), d1] fun r1 =>
 (Q [(rs r1 0)]))
 (wpF Try.prog A n 50 [(D.fld d0 11), d1] fun r2 =>
 (Q [(rs r2 0)]))) := by kernel_rfl

/- timebound/timeboundref26.Lines -/
def L16_3 (n m0 : Nat) (x6 : D) (xo2 : D) (xo3 : D) (xo5 : D) (Q : List D → Prop) : Prop :=
  loopK (wpC Try.prog A (hnd Try.prog A n) 16 n (cA (cA (cB (cA (cB (cB (bodyOf Try.f16)))))))) (nmK Try.prog (A.loop 16 3)) m0 { sl := [(2, .ptr 2 [] 50), (3, .ptr 3 [] 54), (5, .val 5 [] 29), (6, .imm 3 x6)], ob := [(2, some ⟨true, 50, .imm, xo2⟩), (3, some ⟨true, 54, .imm, xo3⟩), (5, some ⟨false, 29, (.slc .imm none), xo5⟩)] } (kBlock 0 (kSeq (wpC Try.prog A (hnd Try.prog A n) 16 n (cB (cB (cB (bodyOf Try.f16))))) (kEnd Try.prog Try.f16 (A.sig 16) Q)))
theorem L16_3_eq (n m0 : Nat) (x6 : D) (xo2 : D) (xo3 : D) (xo5 : D) (Q : List D → Prop) : L16_3 n (m0 + 1) x6 xo2 xo3 xo5 Q =
 (cond (iLe (D.i x6) (D.i (D.fld xo3 2)))
 (wpF Try.prog A n 48 [(D.fld xo2 1), x6] fun r1 =>
 (wpF Try.prog A n 18 [xo2, x6, (D.bool true)] fun r2 =>
 (cond (!(D.b (rs r2 0)))
 (cond (iEq (D.len xo5) (0 : Int))
 (room (((List.length (D.xs xo5) : Nat) : Int) + ((List.length [(rs r1 0)] : Nat) : Int)) 8 ∧ (L16_3 n  m0 (D.int (IntKind.wrap .i64 ((D.i x6) + (1 : Int)))) xo2 xo3 (D.slc ((D.xs xo5) ++ [(rs r1 0)])) Q))
 ((0 ≤ (IntKind.wrap .i64 ((D.len xo5) - (1 : Int))) ∧ (IntKind.wrap .i64 ((D.len xo5) - (1 : Int))) < (D.len xo5)) ∧ (cond (!(iEq (D.i (List.getD (D.xs xo5) (Int.toNat (IntKind.wrap .i64 ((D.len xo5) - (1 : Int)))) D.und)) (D.i (rs r1 0))))
 (room (((List.length (D.xs xo5) : Nat) : Int) + ((List.length [(rs r1 0)] : Nat) : Int)) 8 ∧ (L16_3 n  m0 (D.int (IntKind.wrap .i64 ((D.i x6) + (1 : Int)))) xo2 xo3 (D.slc ((D.xs xo5) ++ [(rs r1 0)])) Q))
 (L16_3 n  m0 (D.int (IntKind.wrap .i64 ((D.i x6) + (1 : Int)))) xo2 xo3 xo5 Q))))
 (L16_3 n  m0 (D.int (IntKind.wrap .i64 ((D.i x6) + (1 : Int)))) xo2 xo3 xo5 Q))))
 (Q [xo5])) := by kernel_rfl
theorem E16 (n : Nat) (d0 d1 : D) (Q : List D → Prop) : wpF Try.prog A (n + 1) 16 [d0, d1] Q =
 (L16_3 n  n (D.fld d1 1) d0 d1 (D.slc ([] : List D)) Q) := by kernel_rfl
attribute [irreducible] L16_3

/- timebound/timeboundref01.SameInts -/
def L14_4 (n m0 : Nat) (x0 : D) (x1 : D) (x5 : D) (Q : List D → Prop) : Prop :=
  loopK (wpC Try.prog A (hnd Try.prog A n) 14 n (cA (cA (cB (cA (cB (cB (bodyOf Try.f14)))))))) (nmK Try.prog (A.loop 14 4)) m0 { sl := [(0, .imm 29 x0), (1, .imm 29 x1), (5, .imm 3 x5)], ob := [] } (kBlock 0 (kSeq (wpC Try.prog A (hnd Try.prog A n) 14 n (cB (cB (cB (bodyOf Try.f14))))) (kEnd Try.prog Try.f14 (A.sig 14) Q)))
theorem L14_4_eq (n m0 : Nat) (x0 : D) (x1 : D) (x5 : D) (Q : List D → Prop) : L14_4 n (m0 + 1) x0 x1 x5 Q =
 (cond (iLt (D.i x5) (D.len x0))
 ((0 ≤ (D.i x5) ∧ (D.i x5) < (D.len x0)) ∧ ((0 ≤ (D.i x5) ∧ (D.i x5) < (D.len x1)) ∧ (cond (!(iEq (D.i (D.el x0 (D.i x5))) (D.i (D.el x1 (D.i x5)))))
 (Q [(D.bool false)])
 (L14_4 n  m0 x0 x1 (D.int (IntKind.wrap .i64 ((D.i x5) + (1 : Int)))) Q))))
 (Q [(D.bool true)])) := by kernel_rfl
theorem E14 (n : Nat) (d0 d1 : D) (Q : List D → Prop) : wpF Try.prog A (n + 1) 14 [d0, d1] Q =
 (cond (!(iEq (D.len d0) (D.len d1)))
 (Q [(D.bool false)])
 (L14_4 n  n d0 d1 (D.int (0 : Int)) Q)) := by kernel_rfl
attribute [irreducible] L14_4

/- timebound/cache.Set -/
theorem E52 (n : Nat) (d0 d1 : D) (Q : List D → Prop) : wpF Try.prog A (n + 1) 52 [d0, d1] Q =
 (wpF Try.prog A n 86 [d0] fun r1 =>
 (cond (!(iEq (D.i (rs r1 0)) (0 : Int)))
 (Q [(D.int (-1 : Int))])
 (cond (iLt (D.i d1) (0 : Int))
 (Q [(D.int (-1 : Int))])
 (cond (iEq (D.i (D.fld d0 0)) (0 : Int))
 (Q [(D.int (-1 : Int))])
 ((D.i (D.fld d0 0)) ≠ (0 : Int) ∧ (Q [(D.int (Int.tmod (D.i d1) (D.i (D.fld d0 0))))])))))) := by kernel_rfl

/- timebound/persist.Fits -/
theorem E22 (n : Nat) (d0 d1 d2 : D) (Q : List D → Prop) : wpF Try.prog A (n + 1) 22 [d0, d1, d2] Q =
 (wpF Try.prog A n 52 [d0, d2] fun r1 =>
 (cond (iLe (0 : Int) (D.i (rs r1 0)))
 (cond (iLt (D.i (rs r1 0)) (D.len d1))
 ((0 ≤ (D.i (rs r1 0)) ∧ (D.i (rs r1 0)) < (D.len d1)) ∧ (Q [(D.bool (iLe (D.len (D.el d1 (D.i (rs r1 0)))) (D.i (D.fld d0 1))))]))
 (Q [(D.bool false)]))
 (Q [(D.bool false)]))) := by kernel_rfl

/- timebound/timeboundlaw26.awake -/
theorem E19 (n : Nat)  (Q : List D → Prop) : wpF Try.prog A (n + 1) 19 [] Q =
 (True ∧ (wpF Try.prog A n 15 [(D.agg [(D.agg [(D.int (0 : Int)), (D.int (0 : Int)), (D.int (0 : Int))]), (D.agg [(D.int (2 : Int)), (D.int (1 : Int)), (D.int (4 : Int))]), (D.int (0 : Int)), (D.int (0 : Int)), (D.int (0 : Int)), (D.int (0 : Int)), (D.int (0 : Int)), (D.int (0 : Int)), (D.int (0 : Int)), (D.int (0 : Int)), (D.int (0 : Int)), (D.slc ([] : List D)), (D.slc [(D.agg [(D.int (6 : Int)), (D.int (7 : Int))])])]), (D.agg [(D.int (0 : Int)), (D.int (3 : Int)), (D.int (6 : Int))])] fun r1 =>
 (cond (iEq (D.len (rs r1 0)) (2 : Int))
 ((0 ≤ (0 : Int) ∧ (0 : Int) < (D.len (rs r1 0))) ∧ (cond (iEq (D.i (D.el (rs r1 0) (0 : Int))) (0 : Int))
 ((0 ≤ (1 : Int) ∧ (1 : Int) < (D.len (rs r1 0))) ∧ (cond (iEq (D.i (D.el (rs r1 0) (1 : Int))) (1 : Int))
 (wpF Try.prog A n 17 [(D.agg [(D.agg [(D.int (0 : Int)), (D.int (0 : Int)), (D.int (0 : Int))]), (D.agg [(D.int (2 : Int)), (D.int (1 : Int)), (D.int (4 : Int))]), (D.int (0 : Int)), (D.int (0 : Int)), (D.int (0 : Int)), (D.int (0 : Int)), (D.int (0 : Int)), (D.int (0 : Int)), (D.int (0 : Int)), (D.int (0 : Int)), (D.int (0 : Int)), (D.slc ([] : List D)), (D.slc [(D.agg [(D.int (6 : Int)), (D.int (7 : Int))])])]), (D.int (6 : Int)), (D.bool true)] fun r2 =>
 (cond (D.b (rs r2 0))
 (wpF Try.prog A n 17 [(D.agg [(D.agg [(D.int (0 : Int)), (D.int (0 : Int)), (D.int (0 : Int))]), (D.agg [(D.int (2 : Int)), (D.int (1 : Int)), (D.int (4 : Int))]), (D.int (0 : Int)), (D.int (0 : Int)), (D.int (0 : Int)), (D.int (0 : Int)), (D.int (0 : Int)), (D.int (0 : Int)), (D.int (0 : Int)), (D.int (0 : Int)), (D.int (0 : Int)), (D.slc ([] : List D)), (D.slc [(D.agg [(D.int (6 : Int)), (D.int (7 : Int))])])]), (D.int (6 : Int)), (D.bool false)] fun r3 =>
 (cond (!(D.b (rs r3 0)))
 (wpF Try.prog A n 22 [(D.agg [(D.int (2 : Int)), (D.int (1 : Int)), (D.int (4 : Int))]), (D.slc [(D.slc [(D.int (0 : Int))]), (D.slc [(D.int (1 : Int))])]), (D.int (5 : Int))] fun r4 =>
 (Q [(rs r4 0)]))
 (Q [(D.bool false)])))
 (Q [(D.bool false)])))
 (Q [(D.bool false)])))
 (Q [(D.bool false)])))
 (Q [(D.bool false)])))) := by kernel_rfl

/- timebound/timeboundlaw26.PersistLines -/
theorem E4 (n : Nat) (d0 d1 d2 d3 : D) (Q : List D → Prop) : wpF Try.prog A (n + 1) 4 [d0, d1, d2, d3] Q =
 (wpF Try.prog A n 11 [d0] fun r1 =>
 (wpF Try.prog A n 12 [(rs r1 0)] fun r2 =>
 (True ∧ (wpF Try.prog A n 13 [d1, (D.int (60 : Int))] fun r3 =>
 (True ∧ (wpF Try.prog A n 13 [d2, (D.int (20 : Int))] fun r4 =>
 (True ∧ (wpF Try.prog A n 13 [d3, (D.int (130 : Int))] fun r5 =>
 (wpF Try.prog A n 15 [(rs r2 0), (D.agg [(D.int (0 : Int)), (rs r3 0), (D.int (IntKind.wrap .i64 ((IntKind.wrap .i64 ((D.i (rs r3 0)) + (D.i (rs r4 0)))) - (1 : Int))))])] fun r6 =>
 (wpF Try.prog A n 16 [(rs r2 0), (D.agg [(D.int (0 : Int)), (rs r3 0), (D.int (IntKind.wrap .i64 ((IntKind.wrap .i64 ((D.i (rs r3 0)) + (D.i (rs r4 0)))) - (1 : Int))))])] fun r7 =>
 (wpF Try.prog A n 14 [(rs r6 0), (rs r7 0)] fun r8 =>
 (cond (D.b (rs r8 0))
 (wpF Try.prog A n 17 [(rs r2 0), (D.int (IntKind.wrap .i64 ((D.i (rs r5 0)) - (2 : Int)))), (D.bool true)] fun r9 =>
 (wpF Try.prog A n 18 [(rs r2 0), (D.int (IntKind.wrap .i64 ((D.i (rs r5 0)) - (2 : Int)))), (D.bool true)] fun r10 =>
 (cond (bEq (D.b (rs r9 0)) (D.b (rs r10 0)))
 (wpF Try.prog A n 17 [(rs r2 0), (D.int (IntKind.wrap .i64 ((D.i (rs r5 0)) - (2 : Int)))), (D.bool false)] fun r11 =>
 (wpF Try.prog A n 18 [(rs r2 0), (D.int (IntKind.wrap .i64 ((D.i (rs r5 0)) - (2 : Int)))), (D.bool false)] fun r12 =>
 (cond (bEq (D.b (rs r11 0)) (D.b (rs r12 0)))
 (wpF Try.prog A n 19 [] fun r13 =>
 (Q [(rs r13 0)]))
 (Q [(D.bool false)]))))
 (Q [(D.bool false)]))))
 (Q [(D.bool false)]))))))))))))) := by kernel_rfl
end Go.Ab

/- Numbers in order: the sort leaves them as they are. -/
namespace Go.Ab
open Go.Proofs
attribute [local irreducible] wpF

section
variable {n : Nat} {Q : List D → Prop}

theorem lss_wp (hn : 2 ≤ n) {x y : D} (h : Q [.bool (iLt (D.i x) (D.i y))]) : wpF Try.prog A n 154 [x, y] Q := by
  obtain ⟨m, rfl⟩ : ∃ m, n = m + 2 := ⟨n - 2, by omega⟩
  rw [E154, E197, rs0, b_bool, iEq_iff.mpr rfl, Bool.not_true, cond_false]
  exact h

/-- In order. -/
def OrI (l : List D) : Prop := ∀ a b, a < b → b < l.length → D.i (l.getD a .und) ≤ D.i (l.getD b .und)

theorem insI_wp {l : List D} (hl : l.length ≤ 100) (ho : OrI l) (hn : 1000 ≤ n) (h : Q [.slc l]) :
    wpF Try.prog A n 148 [.slc l, .int 0, .int l.length] Q := by
  obtain ⟨m, rfl⟩ : ∃ m, n = m + 1 := ⟨n - 1, by omega⟩
  rw [E148]
  have outer : ∀ (m0 i : Nat), 1 ≤ i → i ≤ l.length + 1 → l.length + 1 - i < m0 → L148_1 m m0 (.int 0) (.int l.length) (.int (i : Int)) (.slc l) Q := by
    intro m0
    induction m0 with
    | zero => intro i _ _ h; omega
    | succ m0 ih =>
      intro i h1 h2 h3
      rw [L148_1_eq]
      simp only [i_int]
      refine cLt (fun c => ?_) fun c => h
      obtain ⟨p, rfl⟩ : ∃ p, m = p + 1 := ⟨m - 1, by omega⟩
      rw [L148_4_eq]
      simp only [i_int, xs_slc, len_slc]
      refine cLt (fun c1 => ?_) fun c1 => by omega
      rw [wrap_id (show -9223372036854775808 ≤ (i : Int) - 1 by omega) (by omega), show ((i : Int) - 1) = ((i - 1 : Nat) : Int) by omega]
      simp only [toNat_nat]
      refine ⟨by omega, by omega, lss_wp (by omega) ?_⟩
      simp only [rs0, b_bool]
      have := ho (i - 1) i (by omega) (by omega)
      rw [iLt_not.mpr (by omega), cond_false, wrap_id (by omega) (by omega)]
      exact ih (i + 1) (by omega) (by omega) (by omega)
  have := outer m 1 (Nat.le_refl _) (by omega) (by omega)
  simp only [i_int]
  rw [wrap_id (by omega) (by omega)]
  exact this

theorem pinsI_wp {l : List D} (hl : l.length ≤ 100) (h13 : 13 ≤ l.length) (ho : OrI l) (hn : 1000 ≤ n) (h : Q [.bool true, .slc l]) :
    wpF Try.prog A n 153 [.slc l, .int 0, .int l.length] Q := by
  obtain ⟨m, rfl⟩ : ∃ m, n = m + 1 := ⟨n - 1, by omega⟩
  rw [E153]
  obtain ⟨p, rfl⟩ : ∃ p, m = p + 1 := ⟨m - 1, by omega⟩
  rw [L153_3_eq]
  simp only [i_int]
  rw [show iLt 0 5 = true from rfl, cond_true]
  have key : ∀ (m1 k : Nat), 1 ≤ k → k ≤ l.length → l.length - k < m1 → L153_5 (p + 1) p m1 (.int 0) (.int l.length) (.int (k : Int)) (.int 0) (.slc l) Q := by
    intro m1
    induction m1 with
    | zero => intro k _ _ h; omega
    | succ m1 ih =>
      intro k h1 h2 h3
      rw [L153_5_eq]
      simp only [i_int]
      refine cLt (fun c => ?_) fun c => ?_
      · refine ⟨by rw [len_slc]; omega, ?_⟩
        rw [wrap_id (show -9223372036854775808 ≤ (k : Int) - 1 by omega) (by omega), show ((k : Int) - 1) = ((k - 1 : Nat) : Int) by omega]
        refine ⟨by rw [len_slc]; omega, ?_⟩
        simp only [toNat_nat, xs_slc]
        refine lss_wp (by omega) ?_
        simp only [rs0, b_bool]
        have := ho (k - 1) k (by omega) (by omega)
        rw [iLt_not.mpr (by omega), Bool.not_false, cond_true, wrap_id (by omega) (by omega)]
        exact ih (k + 1) (by omega) (by omega) (by omega)
      · have e : k = l.length := by omega
        subst e
        rw [iEq_iff.mpr rfl, cond_true]
        exact h
  have := key (p + 1) 1 (Nat.le_refl _) (by omega) (by omega)
  rw [wrap_id (by omega) (by omega)]
  exact this

theorem ord2I_wp {l : List D} (ho : OrI l) (hn : 10 ≤ n) {a b : Nat} {z : D} (hab : a < b) (hb : b < l.length) (h : Q [.int (a : Int), .int (b : Int), z]) :
    wpF Try.prog A n 215 [.slc l, .int (a : Int), .int (b : Int), z] Q := by
  obtain ⟨m, rfl⟩ : ∃ m, n = m + 1 := ⟨n - 1, by omega⟩
  rw [E215]
  simp only [i_int, len_slc]
  refine ⟨by omega, by omega, lss_wp (by omega) ?_⟩
  simp only [rs0, b_bool]
  have := ho a b hab hb
  rw [iLt_not.mpr (by show ¬ D.i (l.getD b .und) < D.i (l.getD a .und); omega), cond_false]
  exact h

theorem pivotI_wp {l : List D} (hl : l.length ≤ 40) (h13 : 13 ≤ l.length) (ho : OrI l) (hn : 1000 ≤ n) (h : ∀ z, Q [z, .int 1]) :
    wpF Try.prog A n 151 [.slc l, .int 0, .int l.length] Q := by
  obtain ⟨m, rfl⟩ : ∃ m, n = m + 3 := ⟨n - 3, by omega⟩
  rw [E151]
  simp only [i_int]
  refine ⟨by omega, by omega, by omega, ?_⟩
  rw [wrap_id (show -9223372036854775808 ≤ (l.length : Int) - 0 by omega) (by omega), Int.sub_zero, iLe_iff.mpr (show (8 : Int) ≤ l.length by omega), cond_true, iLe_not.mpr (show ¬ (50 : Int) ≤ l.length by omega), cond_false]
  have hq : Int.tdiv (l.length : Int) 4 = ((l.length / 4 : Nat) : Int) := rfl
  rw [hq]
  have hb : l.length / 4 ≤ 10 := by omega
  have hb2 : 3 ≤ l.length / 4 := by omega
  have hb3 : 4 * (l.length / 4) ≤ l.length := by omega
  generalize l.length / 4 = q at hb hb2 hb3 ⊢
  simp (disch := omega) only [wrap_id]
  rw [show (0 : Int) + (q : Int) * 1 = ((q : Nat) : Int) by omega, show (0 : Int) + (q : Int) * 2 = ((q * 2 : Nat) : Int) by omega, show (0 : Int) + (q : Int) * 3 = ((q * 3 : Nat) : Int) by omega]
  rw [E196]
  refine ord2I_wp ho (by omega) (by omega) (by omega) ?_
  simp only [rs0, rsS]
  refine ord2I_wp ho (by omega) (by omega) (by omega) ?_
  simp only [rs0, rsS]
  refine ord2I_wp ho (by omega) (by omega) (by omega) ?_
  simp only [rs0, rsS, i_int]
  rw [show iEq 0 0 = true from rfl, cond_true]
  exact h _

theorem pdqI_wp {l : List D} (hl : l.length ≤ 40) (ho : OrI l) (hn : 2000 ≤ n) {z : Int} (hz : 13 ≤ l.length → z ≠ 0)
    (h : Q [.slc l]) : wpF Try.prog A n 87 [.slc l, .int 0, .int l.length, .int z] Q := by
  obtain ⟨m, rfl⟩ : ∃ m, n = m + 1 := ⟨n - 1, by omega⟩
  rw [E87]
  obtain ⟨p, rfl⟩ : ∃ p, m = p + 1 := ⟨m - 1, by omega⟩
  rw [L87_2_eq]
  simp only [i_int]
  rw [wrap_id (show -9223372036854775808 ≤ (l.length : Int) - 0 by omega) (by omega), Int.sub_zero]
  refine cLe (fun c => ?_) fun c => ?_
  · exact insI_wp (by omega) ho (by omega) (by rw [rs0]; exact h)
  · rw [iEq_not.mpr (hz (by omega)), cond_false, b_bool, Bool.not_true, cond_false]
    refine pivotI_wp (by omega) (by omega) ho (by omega) fun z => ?_
    simp only [rs0, rsS, i_int]
    rw [show iEq 1 2 = false from rfl, cond_false, cond_true, cond_true, show iEq 1 1 = true from rfl, cond_true]
    refine pinsI_wp (by omega) (by omega) ho (by omega) ?_
    rw [rs0, b_bool, cond_true, rsS, rs0]
    exact h

set_option maxRecDepth 100000 in
theorem len20_wp (hn : 10 ≤ n) {N : Nat} (hN : N ≤ 20) (h : ∀ z : Int, (13 ≤ N → z ≠ 0) → Q [.int z]) : wpF Try.prog A n 88 [.int (IntKind.wrap .u64 (N : Int))] Q := by
  obtain ⟨m, rfl⟩ : ∃ m, n = m + 2 := ⟨n - 2, by omega⟩
  rw [wrapu_id (by omega) (by omega), E88, E158]
  simp only [i_int]
  rw [iLe_not.mpr (by omega), cond_false, iLe_not.mpr (by omega), cond_false, iLe_not.mpr (by omega), cond_false]
  have hw : IntKind.wrap .u8 (N : Int) = N := by
    simp only [IntKind.wrap, IntKind.bits, IntKind.signed, Bool.false_and]
    rw [if_neg (by simp)]
    omega
  rw [hw]
  refine ⟨⟨by omega, ?_⟩, ?_⟩
  · show (N : Int) < 256
    omega
  · rw [rs0]
    refine h _ fun h13 => ?_
    have : N = 13 ∨ N = 14 ∨ N = 15 ∨ N = 16 ∨ N = 17 ∨ N = 18 ∨ N = 19 ∨ N = 20 := by omega
    rcases this with rfl | rfl | rfl | rfl | rfl | rfl | rfl | rfl <;> decide +kernel

theorem sortI_wp {l : List D} (hl : l.length ≤ 20) (ho : OrI l) (hn : 3000 ≤ n) (h : Q [.slc l]) : wpF Try.prog A n 46 [.slc l] Q := by
  obtain ⟨m, rfl⟩ : ∃ m, n = m + 1 := ⟨n - 1, by omega⟩
  rw [E46]
  rw [len_slc]
  refine len20_wp (by omega) hl fun z hz => ?_
  rw [rs0]
  exact pdqI_wp (by omega) ho (by omega) hz (by rw [rs0]; exact h)

end
end Go.Ab

/- The lines that an access can touch, on both sides. -/
namespace Go.Ab
open Go.Proofs
attribute [local irreducible] wpF

/-- The lines of addresses that are not free, one by one. -/
def pl (b : Nat) (ds : List D) (lo : Nat) : Nat → List Int
  | 0 => []
  | k + 1 => cond (scr ds ((lo + k : Nat) : Int)) (pl b ds lo k) (pl b ds lo k ++ [(((lo + k) / b : Nat) : Int)])

theorem pl_len (b : Nat) (ds : List D) (lo : Nat) : ∀ k, (pl b ds lo k).length ≤ k
  | 0 => Nat.le_refl _
  | k + 1 => by
    have := pl_len b ds lo k
    simp only [pl, Bool.cond_eq_ite]
    split
    · omega
    · simp; omega
theorem pl_mem (b : Nat) (ds : List D) (lo : Nat) : ∀ k x, x ∈ pl b ds lo k → ∃ j, j < k ∧ x = (((lo + j) / b : Nat) : Int)
  | 0, x, h => by simp [pl] at h
  | k + 1, x, h => by
    simp only [pl, Bool.cond_eq_ite] at h
    split at h
    · obtain ⟨j, h1, h2⟩ := pl_mem b ds lo k x h
      exact ⟨j, by omega, h2⟩
    · rcases List.mem_append.1 h with h | h
      · obtain ⟨j, h1, h2⟩ := pl_mem b ds lo k x h
        exact ⟨j, by omega, h2⟩
      · exact ⟨k, by omega, by simpa using h⟩
theorem pl_ord (b : Nat) (ds : List D) (lo : Nat) : ∀ k, (pl b ds lo k).Pairwise (· ≤ ·)
  | 0 => .nil
  | k + 1 => by
    have ih := pl_ord b ds lo k
    simp only [pl, Bool.cond_eq_ite]
    split
    · exact ih
    · refine List.pairwise_append.2 ⟨ih, by simp, fun x hx y hy => ?_⟩
      obtain ⟨j, h1, rfl⟩ := pl_mem b ds lo k x hx
      simp only [List.mem_singleton] at hy
      subst hy
      have : (lo + j) / b ≤ (lo + k) / b := Nat.div_le_div_right (by omega)
      omega
theorem orI_of {l : List Int} (h : l.Pairwise (· ≤ ·)) : OrI (l.map .int) := by
  intro a c hac hc
  have hc' : c < l.length := by simpa using hc
  have := (List.pairwise_iff_getElem.1 h) a c (by omega) hc' hac
  simpa [List.getD_eq_getElem?_getD, show a < l.length by omega, hc', D.i] using this

theorem cptF_snoc (x : Int) : ∀ (l : List Int) (p : Int), cptF p (l ++ [x]) = cond (decide (x = l.getLast?.getD p)) (cptF p l) (cptF p l ++ [x])
  | [], p => rfl
  | y :: l, p => by
    have e : (y :: l).getLast?.getD p = l.getLast?.getD y := by
      cases l with
      | nil => rfl
      | cons z l => simp [List.getLast?_cons]
    rw [e]
    simp only [List.cons_append, cptF]
    rw [cptF_snoc x l y]
    by_cases h : y = p
    · subst h
      simp only [decide_true, cond_true]
      exact cptF_snoc x l y
    · rw [cptF_snoc x l p]
      simp only [h, decide_false, cond_false]
      by_cases h2 : x = l.getLast?.getD y
      · simp [h2]
      · simp [h2]
theorem cptI_snoc (x : Int) (l : List Int) : cptI (l ++ [x]) = cond (decide (l.getLast? = some x)) (cptI l) (cptI l ++ [x]) := by
  cases l with
  | nil => simp [cptI, cptF]
  | cons y l =>
    simp only [List.cons_append, cptI, cptF_snoc]
    have e : (y :: l).getLast? = some (l.getLast?.getD y) := by simp [List.getLast?_cons]
    rw [e]
    by_cases h : x = l.getLast?.getD y
    · simp [h]
    · simp [h, Ne.symm h]
theorem cptI_last' : ∀ (k : Nat) (l : List Int), l.length = k → (cptI l).getLast? = l.getLast? := by
  intro k
  induction k with
  | zero =>
    intro l hl
    rw [List.eq_nil_of_length_eq_zero hl]
    rfl
  | succ k ih =>
    intro l hl
    rcases List.eq_nil_or_concat l with rfl | ⟨l, x, rfl⟩
    · cases hl
    · rw [List.concat_eq_append] at hl ⊢
      rw [cptI_snoc]
      by_cases h : l.getLast? = some x
      · simp only [h, decide_true, cond_true]
        rw [ih l (by simpa using hl), h]
        simp
      · simp only [h, decide_false, cond_false]
        simp
theorem cptI_last (l : List Int) : (cptI l).getLast? = l.getLast? := cptI_last' _ l rfl
theorem cptI_nil {l : List Int} (h : cptI l = []) : l = [] := by
  cases l with
  | nil => rfl
  | cons _ _ => simp [cptI] at h
theorem cptF_len : ∀ (l : List Int) (p : Int), (cptF p l).length ≤ l.length
  | [], _ => by simp [cptF]
  | x :: l, p => by
    have h1 := cptF_len l p
    have h2 := cptF_len l x
    simp only [cptF, Bool.cond_eq_ite]
    split
    · simp; omega
    · simp; omega
theorem cptI_len (l : List Int) : (cptI l).length ≤ l.length := by
  cases l with
  | nil => simp [cptI]
  | cons x l => have := cptF_len l x; simp [cptI]; omega
theorem cptD_map (l : List Int) : cptD (l.map .int) = (cptI l).map .int := by
  unfold cptD
  rw [List.map_map]
  have : (D.i ∘ D.int) = id := rfl
  rw [this, List.map_id]

theorem iEq_not' {a b : Int} : iEq a b = false ↔ ¬ a = b := by
  rw [← iEq_iff]
  cases iEq a b <;> simp

section
variable {n : Nat} {Q : List D → Prop}

theorem inS_wp (hn : 1 ≤ n) {x : D} {a : Int} (h : Q [.bool (inS x a)]) : wpF Try.prog A n 91 [x, .int a] Q := by
  obtain ⟨m, rfl⟩ : ∃ m, n = m + 1 := ⟨n - 1, by omega⟩
  rw [E91]
  unfold inS at h
  simp only [i_int]
  exact cnd (fun c => by rw [c, Bool.true_and] at h; exact h) fun c => by rw [c, Bool.false_and] at h; exact h

theorem anyB_any {p : Nat → Bool} {q : D → Bool} (l : List D) (hp : ∀ i, i < l.length → p i = q (l.getD i .und)) : anyB p l.length = l.any q := by
  cases h : l.any q with
  | true =>
    obtain ⟨x, hx, hq⟩ := List.any_eq_true.1 h
    obtain ⟨i, hi, rfl⟩ := List.mem_iff_getElem.1 hx
    refine anyB_true hi ?_
    rw [hp i hi]
    simpa [List.getD_eq_getElem?_getD, hi] using hq
  | false =>
    refine anyB_false fun i hi => ?_
    rw [hp i hi]
    have := List.any_eq_false.1 h l[i] (List.getElem_mem hi)
    simpa [List.getD_eq_getElem?_getD, hi] using this

theorem scrp_wp {l : List D} {a : Int} (hn : 2000 ≤ n) (hl : l.length ≤ 1000) (h : Q [.bool (scr l a)]) : wpF Try.prog A n 49 [.slc l, .int a] Q := by
  obtain ⟨m, rfl⟩ : ∃ m, n = m + 3 := ⟨n - 3, by omega⟩
  rw [E49, E90, E159]
  refine found_loop (Q := fun r => Q [rs r 0]) (x1 := .fn 91 [.ptr (.int a)]) (N := l.length) (p := fun i => inS (l.getD i .und) a) (L := L159_2 m) (call := fun x1 e Q => dynH A (wpF Try.prog A m) x1 [.imm 104] [.val 4 .imm] [e] Q) (fun m0 x0 x1 x7 x8 Q => L159_2_eq m m0 x0 x1 x7 x8 Q) (len_slc l) (by omega)
    (fun i hi Q hQ => ⟨⟨rfl, rfl, rfl, rfl⟩, ?_⟩) (by omega) ?_
  · exact inS_wp (by omega) hQ
  · rw [rs0, anyB_any (q := fun s => inS s a) l fun _ _ => rfl]
    exact h

theorem free_wp {r : D} {cs ds : List D} {a : Int} {b : Bool} (hn : 3000 ≤ n) (h1 : D.fld r 11 = .slc cs) (h2 : D.fld r 12 = .slc ds) (hc : cs.length ≤ 1000) (hd : ds.length ≤ 1000) (h : Q [.bool (scr (cond b ds cs) a)]) :
    wpF Try.prog A n 17 [r, .int a, .bool b] Q := by
  obtain ⟨m, rfl⟩ : ∃ m, n = m + 1 := ⟨n - 1, by omega⟩
  rw [E17, h1, h2, b_bool]
  cases b with
  | true => rw [cond_true]; exact scrp_wp (by omega) hd (by rw [rs0]; exact h)
  | false => rw [cond_false]; exact scrp_wp (by omega) hc (by rw [rs0]; exact h)
theorem rfree_wp {r : D} {cs ds : List D} {a : Int} {b : Bool} (hn : 3000 ≤ n) (h1 : D.fld r 11 = .slc cs) (h2 : D.fld r 12 = .slc ds) (hc : cs.length ≤ 1000) (hd : ds.length ≤ 1000) (h : Q [.bool (scr (cond b ds cs) a)]) :
    wpF Try.prog A n 18 [r, .int a, .bool b] Q := by
  obtain ⟨m, rfl⟩ : ∃ m, n = m + 1 := ⟨n - 1, by omega⟩
  rw [E18, h1, h2, b_bool]
  cases b with
  | true => rw [cond_true]; exact scr_wp (by omega) hd (by rw [rs0]; exact h)
  | false => rw [cond_false]; exact scr_wp (by omega) hc (by rw [rs0]; exact h)

/-- A cache that is right. -/
def Okc (s w : Int) (b : Nat) : Prop := 0 ≤ s ∧ s ≤ 4 ∧ 1 ≤ w ∧ w ≤ 3 ∧ 1 ≤ (b : Int) ∧ (b : Int) ≤ 4

theorem line_wp {s w : Int} {b a : Nat} (hk : Okc s w b) (ha : a ≤ 1000000) (hn : 10 ≤ n) (h : Q [.int ((a / b : Nat) : Int)]) : wpF Try.prog A n 45 [cch s w b, .int (a : Int)] Q := by
  obtain ⟨m, rfl⟩ : ∃ m, n = m + 1 := ⟨n - 1, by omega⟩
  rw [E45]
  refine ccheck_wp (by omega) hk ?_
  have hb : a / b ≤ a := Nat.div_le_self _ _
  have e : Int.tdiv (a : Int) (b : Int) = ((a / b : Nat) : Int) := rfl
  generalize a / b = q at hb e h
  simp only [rs0, i_int, cch, fld0, fldS]
  rw [show iEq 0 0 = true from rfl, Bool.not_true, cond_false, iLt_not.mpr (by omega), cond_false, e, wrap_id (by omega) (by omega)]
  exact ⟨by have := hk.2.2.2.2.1; omega, h⟩
theorem rline_wp {s w : Int} {b a : Nat} (hk : Okc s w b) (ha : a ≤ 1000000) (hn : 10 ≤ n) (h : Q [.int ((a / b : Nat) : Int)]) : wpF Try.prog A n 48 [cch s w b, .int (a : Int)] Q := by
  obtain ⟨m, rfl⟩ : ∃ m, n = m + 1 := ⟨n - 1, by omega⟩
  rw [E48]
  refine rcchk_wp (by omega) hk ?_
  have hb : a / b ≤ a := Nat.div_le_self _ _
  have e : Int.tdiv (a : Int) (b : Int) = ((a / b : Nat) : Int) := rfl
  generalize a / b = q at hb e h
  simp only [rs0, i_int, cch, fld0, fldS]
  rw [show iEq 0 0 = true from rfl, Bool.not_true, cond_false, iLt_not.mpr (by omega), cond_false, e, wrap_id (by omega) (by omega)]
  exact ⟨by have := hk.2.2.2.2.1; omega, h⟩

theorem lines_wp {r acc : D} {cs ds : List D} {s w : Int} {b lo N : Nat} (hn : 10000 ≤ n) (h0 : D.fld r 1 = cch s w b) (hk : Okc s w b) (h1 : D.fld r 11 = .slc cs) (h2 : D.fld r 12 = .slc ds) (hc : cs.length ≤ 1000) (hd : ds.length ≤ 1000)
    (ha : D.fld acc 1 = .int lo) (hb : D.fld acc 2 = .int ((lo : Int) + N - 1)) (hlo : lo ≤ 100) (hN : N ≤ 20) (h : Q [lst (cptI (pl b ds lo N))]) : wpF Try.prog A n 15 [r, acc] Q := by
  obtain ⟨m, rfl⟩ : ∃ m, n = m + 2 := ⟨n - 2, by omega⟩
  rw [E15, E44, ha, hb]
  simp only [rs0, rsS, i_int]
  have e1 : minmax true 0 (lo : Int) = lo := by
    simp only [minmax, if_true]
    split <;> omega
  have e2 : minmax false ((lo : Int) + N - 1) 1023 = (lo : Int) + N - 1 := by
    simp only [minmax, Bool.false_eq_true, if_false]
    rw [if_neg (by omega)]
  rw [e1, e2]
  have key : ∀ (m0 k : Nat), k ≤ N → N - k < m0 → L15_4 (m + 1) m0 (.int ((lo : Int) + N - 1)) (.int ((lo + k : Nat) : Int)) r (.slc ((pl b ds lo k).map .int)) Q := by
    intro m0
    induction m0 with
    | zero => intro k _ h; omega
    | succ m0 ih =>
      intro k k1 k2
      rw [L15_4_eq]
      simp only [i_int]
      refine cLe (fun c => ?_) fun c => ?_
      · have hkN : k < N := by omega
        have next := ih (k + 1) (by omega) (by omega)
        rw [show lo + (k + 1) = lo + k + 1 by omega] at next
        rw [h0]
        refine line_wp hk (by omega) (by omega) ?_
        simp only [rs0, i_int]
        rw [iLe_iff.mpr (Int.natCast_nonneg _), cond_true]
        refine free_wp (by omega) h1 h2 hc hd ?_
        simp only [rs0, b_bool, cond_true]
        rw [wrap_id (show -9223372036854775808 ≤ ((lo + k : Nat) : Int) + 1 by omega) (by omega), show ((lo + k : Nat) : Int) + 1 = ((lo + k + 1 : Nat) : Int) by omega]
        simp only [pl] at next
        cases hs : scr ds ((lo + k : Nat) : Int) with
        | true =>
          rw [hs, cond_true] at next
          rw [Bool.not_true, cond_false]
          exact next
        | false =>
          rw [hs, cond_false] at next
          rw [Bool.not_false, cond_true]
          have hl := pl_len b ds lo k
          refine ⟨?_, ?_⟩
          · unfold room
            simp only [xs_slc, List.length_map, List.length_singleton]
            omega
          · simp only [xs_slc]
            rw [List.map_append] at next
            exact next
      · have e : k = N := by omega
        subst e
        have hl := pl_len b ds lo k
        refine sortI_wp (by simp; omega) (orI_of (pl_ord b ds lo k)) (by omega) ?_
        rw [rs0, len_slc, xs_slc, cptD_map]
        exact ⟨by simp; omega, h⟩
  have := key (m + 1) 0 (by omega) (by omega)
  exact this

theorem rlines_wp {r acc : D} {cs ds : List D} {s w : Int} {b lo N : Nat} (hn : 10000 ≤ n) (h0 : D.fld r 1 = cch s w b) (hk : Okc s w b) (h1 : D.fld r 11 = .slc cs) (h2 : D.fld r 12 = .slc ds) (hc : cs.length ≤ 1000) (hd : ds.length ≤ 1000)
    (ha : D.fld acc 1 = .int lo) (hb : D.fld acc 2 = .int ((lo : Int) + N - 1)) (hlo : lo ≤ 100) (hN : N ≤ 20) (h : Q [lst (cptI (pl b ds lo N))]) : wpF Try.prog A n 16 [r, acc] Q := by
  obtain ⟨m, rfl⟩ : ∃ m, n = m + 1 := ⟨n - 1, by omega⟩
  rw [E16, ha]
  have key : ∀ (m0 k : Nat), k ≤ N → N - k < m0 → L16_3 m m0 (.int ((lo + k : Nat) : Int)) r acc (.slc ((cptI (pl b ds lo k)).map .int)) Q := by
    intro m0
    induction m0 with
    | zero => intro k _ h; omega
    | succ m0 ih =>
      intro k k1 k2
      rw [L16_3_eq, hb]
      simp only [i_int]
      refine cLe (fun c => ?_) fun c => ?_
      · have hkN : k < N := by omega
        have next := ih (k + 1) (by omega) (by omega)
        rw [show lo + (k + 1) = lo + k + 1 by omega] at next
        rw [h0]
        refine rline_wp hk (by omega) (by omega) ?_
        simp only [rs0, i_int]
        refine rfree_wp (by omega) h1 h2 hc hd ?_
        simp only [rs0, b_bool, cond_true]
        rw [wrap_id (show -9223372036854775808 ≤ ((lo + k : Nat) : Int) + 1 by omega) (by omega), show ((lo + k : Nat) : Int) + 1 = ((lo + k + 1 : Nat) : Int) by omega]
        simp only [pl] at next
        have hl := pl_len b ds lo k
        have hl2 := cptI_len (pl b ds lo k)
        cases hs : scr ds ((lo + k : Nat) : Int) with
        | true =>
          rw [hs, cond_true] at next
          rw [Bool.not_true, cond_false]
          exact next
        | false =>
          rw [hs, cond_false, cptI_snoc] at next
          rw [Bool.not_false, cond_true]
          have hlast := cptI_last (pl b ds lo k)
          generalize cptI (pl b ds lo k) = out at next hlast hl2 ⊢
          generalize hx : (((lo + k) / b : Nat) : Int) = x at next ⊢
          have hroom : room (((D.xs (D.slc (out.map .int))).length : Int) + (([D.int x].length : Nat) : Int)) 8 := by
            unfold room
            simp only [xs_slc, List.length_map, List.length_singleton]
            omega
          have app : (pl b ds lo k).getLast? ≠ some x → L16_3 m m0 (.int ((lo + k + 1 : Nat) : Int)) r acc (.slc ((D.slc (out.map .int)).xs ++ [.int x])) Q := fun hne => by
            rw [show decide ((pl b ds lo k).getLast? = some x) = false by simpa using hne, cond_false, List.map_append] at next
            exact next
          rw [len_slc, List.length_map]
          refine cEq (fun c1 => ⟨hroom, app ?_⟩) fun c1 => ?_
          · have : out = [] := List.eq_nil_of_length_eq_zero (by omega)
            rw [← hlast, this]
            simp
          · have hpos : 0 < out.length := by omega
            rw [wrap_id (show -9223372036854775808 ≤ (out.length : Int) - 1 by omega) (by omega), show (out.length : Int) - 1 = ((out.length - 1 : Nat) : Int) by omega]
            refine ⟨by omega, ?_⟩
            simp only [toNat_nat, xs_slc]
            have e : (out.map D.int).getD (out.length - 1) .und = .int (out.getLastD 0) := by
              rw [List.getD_eq_getElem?_getD, List.getElem?_map, List.getLastD_eq_getLast?, List.getLast?_eq_getElem?, List.getElem?_eq_getElem (by omega)]
              rfl
            have e2 : out.getLast? = some (out.getLastD 0) := by
              rw [List.getLastD_eq_getLast?, List.getLast?_eq_getElem?, List.getElem?_eq_getElem (by omega)]
              rfl
            rw [e, i_int]
            refine cNot (fun c2 => ⟨hroom, app ?_⟩) fun c2 => ?_
            · rw [← hlast, e2]
              have := iEq_not'.mp c2
              simpa using this
            · have := iEq_iff.mp c2
              rw [← hlast, e2, this] at next
              simpa using next
      · have e : k = N := by omega
        subst e
        exact h
  have := key m 0 (by omega) (by omega)
  exact this

theorem same_wp {l : List Int} (hl : l.length ≤ 1000) (hn : 2000 ≤ n) (h : Q [.bool true]) : wpF Try.prog A n 14 [lst l, lst l] Q := by
  obtain ⟨m, rfl⟩ : ∃ m, n = m + 1 := ⟨n - 1, by omega⟩
  rw [E14, iEq_iff.mpr rfl, Bool.not_true, cond_false]
  have key : ∀ (m0 k : Nat), l.length - k < m0 → k ≤ l.length → L14_4 m m0 (lst l) (lst l) (.int (k : Int)) Q := by
    intro m0
    induction m0 with
    | zero => intro k h; omega
    | succ m0 ih =>
      intro k h1 h2
      rw [L14_4_eq]
      simp only [i_int, len_lst]
      refine cLt (fun c => ⟨by omega, by omega, ?_⟩) fun c => h
      rw [iEq_iff.mpr rfl, Bool.not_true, cond_false, wrap_id (by omega) (by omega)]
      exact ih (k + 1) (by omega) (by omega)
  exact key m 0 (by omega) (by omega)

theorem set_wp {s w : Int} {b a : Nat} {S : Nat} (hs : s = S) (hS : 0 < S) (hk : Okc s w b) (hn : 10 ≤ n) (h : Q [.int ((a % S : Nat) : Int)]) : wpF Try.prog A n 52 [cch s w b, .int (a : Int)] Q := by
  obtain ⟨m, rfl⟩ : ∃ m, n = m + 1 := ⟨n - 1, by omega⟩
  rw [E52]
  refine ccheck_wp (by omega) hk ?_
  subst hs
  have e : Int.tmod (a : Int) (S : Int) = ((a % S : Nat) : Int) := rfl
  simp only [rs0, i_int, cch, fld0, fldS]
  rw [show iEq 0 0 = true from rfl, Bool.not_true, cond_false, iLt_not.mpr (by omega), cond_false, iEq_not.mpr (by omega), cond_false, e]
  exact ⟨by omega, h⟩

def p26 : D := (D.agg [(D.agg [(D.int (0 : Int)), (D.int (0 : Int)), (D.int (0 : Int))]), (D.agg [(D.int (2 : Int)), (D.int (1 : Int)), (D.int (4 : Int))]), (D.int (0 : Int)), (D.int (0 : Int)), (D.int (0 : Int)), (D.int (0 : Int)), (D.int (0 : Int)), (D.int (0 : Int)), (D.int (0 : Int)), (D.int (0 : Int)), (D.int (0 : Int)), (D.slc ([] : List D)), (D.slc [(D.agg [(D.int (6 : Int)), (D.int (7 : Int))])])])

theorem awake26_wp (hn : 20000 ≤ n) (h : Q [.bool true]) : wpF Try.prog A n 19 [] Q := by
  obtain ⟨m, rfl⟩ : ∃ m, n = m + 1 := ⟨n - 1, by omega⟩
  rw [E19]
  have f1 : D.fld p26 1 = cch 2 1 ((4 : Nat) : Int) := rfl
  have f2 : D.fld p26 11 = .slc [] := rfl
  have f3 : D.fld p26 12 = .slc [(D.agg [(D.int (6 : Int)), (D.int (7 : Int))])] := rfl
  have hk : Okc 2 1 4 := ⟨by omega, by omega, by omega, by omega, by omega, by omega⟩
  refine ⟨trivial, ?_⟩
  show wpF Try.prog A m 15 [p26, _] _
  refine lines_wp (lo := 3) (N := 4) (by omega) f1 hk f2 f3 (by simp) (by simp) rfl rfl (by omega) (by omega) ?_
  have e : cptI (pl 4 [(D.agg [(D.int (6 : Int)), (D.int (7 : Int))])] 3 4) = [0, 1] := by decide +kernel
  rw [e, rs0]
  have l2 : D.len (lst [0, 1]) = 2 := rfl
  rw [l2, show iEq 2 2 = true from rfl, cond_true]
  refine ⟨⟨by omega, by omega⟩, ?_⟩
  rw [show iEq (D.i (D.el (lst [0, 1]) 0)) 0 = true from rfl, cond_true]
  refine ⟨⟨by omega, by omega⟩, ?_⟩
  rw [show iEq (D.i (D.el (lst [0, 1]) 1)) 1 = true from rfl, cond_true]
  show wpF Try.prog A m 17 [p26, .int 6, .bool true] _
  refine free_wp (by omega) f2 f3 (by simp) (by simp) ?_
  rw [rs0, b_bool, show scr (cond true [(D.agg [(D.int (6 : Int)), (D.int (7 : Int))])] []) 6 = true from rfl, cond_true]
  show wpF Try.prog A m 17 [p26, .int 6, .bool false] _
  refine free_wp (by omega) f2 f3 (by simp) (by simp) ?_
  rw [rs0, b_bool, show scr (cond false [(D.agg [(D.int (6 : Int)), (D.int (7 : Int))])] []) 6 = false from rfl, Bool.not_false, cond_true]
  obtain ⟨k, rfl⟩ : ∃ k, m = k + 1 := ⟨m - 1, by omega⟩
  rw [E22]
  show wpF Try.prog A k 52 [cch 2 1 ((4 : Nat) : Int), .int ((5 : Nat) : Int)] _
  refine set_wp (S := 2) rfl (by omega) hk (by omega) ?_
  rw [rs0, i_int, show iLe 0 ((5 % 2 : Nat) : Int) = true from rfl, cond_true, show iLt ((5 % 2 : Nat) : Int) (D.len (D.slc [(D.slc [(D.int (0 : Int))]), (D.slc [(D.int (1 : Int))])])) = true from rfl, cond_true]
  refine ⟨⟨by omega, by rw [len_slc]; simp⟩, ?_⟩
  exact h

theorem lines26_wp (hn : 30000 ≤ n) {l : List Int} (hl : l.length ≤ 2000000) {x y z : Int} : wpF Try.prog A n 4 [lst l, .int x, .int y, .int z] fun r => r = [.bool true] := by
  obtain ⟨m, rfl⟩ : ∃ m, n = m + 1 := ⟨n - 1, by omega⟩
  rw [E4]
  refine new_wp (by omega) hl fun d hd => ?_
  rw [rs0]
  refine proc_wp (by omega) hd fun r cs ds d2 hd2 hP hc hds e1 e2 => ⟨trivial, ?_⟩
  obtain ⟨s1, w1, b1, s2, w2, b2, mi, bu, dr, wa, en, wr, st, mu, di, hr, g1, g2, g3, g⟩ := id hP.is
  rw [rs0]
  refine mod_wp (by omega) (by omega) (by omega) fun k1 k2 => ?_
  generalize Int.tmod (Int.tmod x 60 + 60) 60 = lo at k1 k2 ⊢
  refine ⟨trivial, mod_wp (by omega) (by omega) (by omega) fun q1 q2 => ?_⟩
  generalize Int.tmod (Int.tmod y 20 + 20) 20 = N at q1 q2 ⊢
  refine ⟨trivial, mod_wp (by omega) (by omega) (by omega) fun p1 p2 => ?_⟩
  generalize Int.tmod (Int.tmod z 130 + 130) 130 = at' at p1 p2 ⊢
  simp only [rs0, i_int]
  obtain ⟨lo, rfl⟩ : ∃ q : Nat, lo = q := ⟨lo.toNat, by omega⟩
  obtain ⟨N, rfl⟩ : ∃ q : Nat, N = q := ⟨N.toNat, by omega⟩
  obtain ⟨b2, rfl⟩ : ∃ q : Nat, b2 = q := ⟨b2.toNat, by omega⟩
  rw [wrap_id (show -9223372036854775808 ≤ (lo : Int) + N by omega) (by omega), wrap_id (show -9223372036854775808 ≤ (lo : Int) + N - 1 by omega) (by omega), wrap_id (show -9223372036854775808 ≤ at' - 2 by omega) (by omega)]
  have h0 : D.fld r 1 = cch s2 w2 (b2 : Int) := by rw [hr]; rfl
  refine lines_wp (lo := lo) (N := N) (by omega) h0 g2 e1 e2 (by omega) (by omega) rfl rfl (by omega) (by omega) ?_
  refine rlines_wp (lo := lo) (N := N) (by omega) h0 g2 e1 e2 (by omega) (by omega) rfl rfl (by omega) (by omega) ?_
  rw [rs0]
  have hl1 := cptI_len (pl b2 ds lo N)
  have hl2 := pl_len b2 ds lo N
  refine same_wp (by omega) (by omega) ?_
  rw [rs0, b_bool, cond_true]
  refine free_wp (by omega) e1 e2 (by omega) (by omega) ?_
  refine rfree_wp (by omega) e1 e2 (by omega) (by omega) ?_
  simp only [rs0]
  rw [bEq_iff.mpr rfl, cond_true]
  refine free_wp (by omega) e1 e2 (by omega) (by omega) ?_
  refine rfree_wp (by omega) e1 e2 (by omega) (by omega) ?_
  simp only [rs0]
  rw [bEq_iff.mpr rfl, cond_true]
  refine awake26_wp (Q := fun r => [rs r 0] = [.bool true]) (by omega) ?_
  rw [rs0]

end
end Go.Ab

/- Equations of functions: each rule reduces to a plain formula, by the kernel. -/
set_option linter.unusedVariables false
namespace Go.Ab
open Go.Proofs
/- timebound/timeboundref22.Empty -/
def L160_3 (n m0 : Nat) (x4 : D) (xo1 : D) (xo2 : D) (xo3 : D) (Q : List D → Prop) : Prop :=
  loopK (wpC Try.prog A (hnd Try.prog A n) 160 n (cA (cA (cB (cA (cB (cB (bodyOf Try.f160)))))))) (nmK Try.prog (A.loop 160 3)) m0 { sl := [(1, .ptr 1 [] 47), (2, .ptr 2 [] 61), (3, .ptr 3 [] 61), (4, .imm 3 x4)], ob := [(1, some ⟨true, 47, .imm, xo1⟩), (2, some ⟨true, 61, (.agg [(0, (.slc (.slc .imm none) none))]), xo2⟩), (3, some ⟨true, 61, (.agg [(0, (.slc (.slc .imm none) none))]), xo3⟩)] } (kBlock 0 (kSeq (wpC Try.prog A (hnd Try.prog A n) 160 n (cB (cB (cB (bodyOf Try.f160))))) (kEnd Try.prog Try.f160 (A.sig 160) Q)))
def L160_7 (n m0 m1 : Nat) (x4 : D) (x6 : D) (xo1 : D) (xo2 : D) (xo3 : D) (xo5 : D) (Q : List D → Prop) : Prop :=
  loopK (wpC Try.prog A (hnd Try.prog A n) 160 n (cA (cA (cB (cA (cB (cA (cA (cB (cA (cA (cB (cA (cB (cB (bodyOf Try.f160)))))))))))))))) (nmK Try.prog (A.loop 160 7)) m1 { sl := [(1, .ptr 1 [] 47), (2, .ptr 2 [] 61), (3, .ptr 3 [] 61), (4, .imm 3 x4), (5, .val 5 [] 29), (6, .imm 3 x6)], ob := [(1, some ⟨true, 47, .imm, xo1⟩), (2, some ⟨true, 61, (.agg [(0, (.slc (.slc .imm none) none))]), xo2⟩), (3, some ⟨true, 61, (.agg [(0, (.slc (.slc .imm none) none))]), xo3⟩), (5, some ⟨false, 29, (.slc .imm none), xo5⟩)] } (kBlock 2 (kSeq (wpC Try.prog A (hnd Try.prog A n) 160 n (cB (cB (cA (cA (cB (cA (cA (cB (cA (cB (cB (bodyOf Try.f160))))))))))))) (kBlock 1 (kSeq (wpC Try.prog A (hnd Try.prog A n) 160 n (cB (cB (cA (cA (cB (cA (cB (cB (bodyOf Try.f160)))))))))) (kLoop (nmK Try.prog (A.loop 160 3)) (fun g => loopK (wpC Try.prog A (hnd Try.prog A n) 160 n (cA (cA (cB (cA (cB (cB (bodyOf Try.f160)))))))) (nmK Try.prog (A.loop 160 3)) m0 g (kBlock 0 (kSeq (wpC Try.prog A (hnd Try.prog A n) 160 n (cB (cB (cB (bodyOf Try.f160))))) (kEnd Try.prog Try.f160 (A.sig 160) Q)))) (kBlock 0 (kSeq (wpC Try.prog A (hnd Try.prog A n) 160 n (cB (cB (cB (bodyOf Try.f160))))) (kEnd Try.prog Try.f160 (A.sig 160) Q))))))))
theorem L160_3_eq (n m0 : Nat) (x4 : D) (xo1 : D) (xo2 : D) (xo3 : D) (Q : List D → Prop) : L160_3 n (m0 + 1) x4 xo1 xo2 xo3 Q =
 (cond (iLt (D.i x4) (D.i (D.fld xo1 0)))
 (wpF Try.prog A n 89 [xo1] fun r1 =>
 (cond (iEq (D.i (rs r1 0)) (0 : Int))
 (L160_7 n m0 n x4 (D.int (0 : Int)) xo1 xo2 xo3 (D.slc ([] : List D)) Q)
 (True ∧ (Q [xo3]))))
 (True ∧ (Q [xo3]))) := by kernel_rfl
theorem L160_7_eq (n m0 m1 : Nat) (x4 : D) (x6 : D) (xo1 : D) (xo2 : D) (xo3 : D) (xo5 : D) (Q : List D → Prop) : L160_7 n m0 (m1 + 1) x4 x6 xo1 xo2 xo3 xo5 Q =
 (cond (iLt (D.i x6) (D.i (D.fld xo1 1)))
 (room (((List.length (D.xs xo5) : Nat) : Int) + ((List.length [(D.int (-1 : Int))] : Nat) : Int)) 8 ∧ (L160_7 n m0 m1 x4 (D.int (IntKind.wrap .i64 ((D.i x6) + (1 : Int)))) xo1 xo2 xo3 (D.slc ((D.xs xo5) ++ [(D.int (-1 : Int))])) Q))
 (room (((List.length (D.xs (D.fld xo3 0)) : Nat) : Int) + ((List.length [xo5] : Nat) : Int)) 24 ∧ (True ∧ (L160_3 n  m0 (D.int (IntKind.wrap .i64 ((D.i x4) + (1 : Int)))) xo1 xo2 (D.agg [(D.slc ((D.xs (D.fld xo3 0)) ++ [xo5]))]) Q)))) := by kernel_rfl
theorem E160 (n : Nat) (d0 : D) (Q : List D → Prop) : wpF Try.prog A (n + 1) 160 [d0] Q =
 (L160_3 n  n (D.int (0 : Int)) d0 (D.agg [(D.slc ([] : List D))]) (D.agg [(D.slc ([] : List D))]) Q) := by kernel_rfl
attribute [irreducible] L160_3 L160_7

/- timebound/timeboundref22.Use -/
def L25_8 (n m0 : Nat) (x7 : D) (x8p1 : Nat) (x9 : D) (x10 : D) (x11 : D) (xo1 : D) (Q : List D → Prop) : Prop :=
  loopK (wpC Try.prog A (hnd Try.prog A n) 25 n (cA (cA (cB (cA (cB (cB (cB (cB (cB (cB (bodyOf Try.f25)))))))))))) (nmK Try.prog (A.loop 25 8)) m0 { sl := [(1, .val 1 [] 61), (7, .imm 3 x7), (8, .val 1 [.fld 0, .idx x8p1] 29), (9, .imm 3 x9), (10, .imm 4 x10), (11, .imm 3 x11)], ob := [(1, some ⟨false, 61, (.agg [(0, (.slc (.slc .imm none) none))]), xo1⟩)] } (kBlock 0 (kSeq (wpC Try.prog A (hnd Try.prog A n) 25 n (cB (cB (cB (cB (cB (cB (cB (bodyOf Try.f25))))))))) (kEnd Try.prog Try.f25 (A.sig 25) Q)))
def L25_13 (n m0 : Nat) (x7 : D) (x8p1 : Nat) (x10 : D) (x12 : D) (xo1 : D) (Q : List D → Prop) : Prop :=
  loopK (wpC Try.prog A (hnd Try.prog A n) 25 n (cA (cA (cB (cA (cB (cB (cB (cB (cB (cB (cB (bodyOf Try.f25))))))))))))) (nmK Try.prog (A.loop 25 13)) m0 { sl := [(1, .val 1 [] 61), (7, .imm 3 x7), (8, .val 1 [.fld 0, .idx x8p1] 29), (10, .imm 4 x10), (12, .imm 3 x12)], ob := [(1, some ⟨false, 61, (.agg [(0, (.slc (.slc .imm none) none))]), xo1⟩)] } (kBlock 2 (kSeq (wpC Try.prog A (hnd Try.prog A n) 25 n (cB (cB (cB (cB (cB (cB (cB (cB (bodyOf Try.f25)))))))))) (kEnd Try.prog Try.f25 (A.sig 25) Q)))
theorem L25_8_eq (n m0 : Nat) (x7 : D) (x8p1 : Nat) (x9 : D) (x10 : D) (x11 : D) (xo1 : D) (Q : List D → Prop) : L25_8 n (m0 + 1) x7 x8p1 x9 x10 x11 xo1 Q =
 (cond (iLt (D.i x11) (D.len (List.getD (D.xs (D.fld xo1 0)) x8p1 D.und)))
 ((0 ≤ (D.i x11) ∧ (D.i x11) < (D.len (List.getD (D.xs (D.fld xo1 0)) x8p1 D.und))) ∧ (cond (iEq (D.i (List.getD (D.xs (List.getD (D.xs (D.fld xo1 0)) x8p1 D.und)) (Int.toNat (D.i x11)) D.und)) (D.i x7))
 (L25_8 n  m0 x7 (x8p1) x11 (D.bool true) (D.int (IntKind.wrap .i64 ((D.i x11) + (1 : Int)))) xo1 Q)
 (L25_8 n  m0 x7 (x8p1) x9 x10 (D.int (IntKind.wrap .i64 ((D.i x11) + (1 : Int)))) xo1 Q)))
 (L25_13 n  n x7 (x8p1) x10 x9 xo1 Q)) := by kernel_rfl
theorem L25_13_eq (n m0 : Nat) (x7 : D) (x8p1 : Nat) (x10 : D) (x12 : D) (xo1 : D) (Q : List D → Prop) : L25_13 n (m0 + 1) x7 x8p1 x10 x12 xo1 Q =
 (cond (iLt (0 : Int) (D.i x12))
 ((0 ≤ (IntKind.wrap .i64 ((D.i x12) - (1 : Int))) ∧ (IntKind.wrap .i64 ((D.i x12) - (1 : Int))) < (D.len (List.getD (D.xs (D.fld xo1 0)) x8p1 D.und))) ∧ ((0 ≤ (D.i x12) ∧ (D.i x12) < (D.len (List.getD (D.xs (D.fld xo1 0)) x8p1 D.und))) ∧ (True ∧ (L25_13 n  m0 x7 (x8p1) x10 (D.int (IntKind.wrap .i64 ((D.i x12) - (1 : Int)))) (D.agg [(D.slc (List.set (D.xs (D.fld xo1 0)) x8p1 (D.slc (List.set (D.xs (List.getD (D.xs (D.fld xo1 0)) x8p1 D.und)) (Int.toNat (D.i x12)) (List.getD (D.xs (List.getD (D.xs (D.fld xo1 0)) x8p1 D.und)) (Int.toNat (IntKind.wrap .i64 ((D.i x12) - (1 : Int)))) D.und)))))]) Q))))
 ((0 ≤ (0 : Int) ∧ (0 : Int) < (D.len (List.getD (D.xs (D.fld xo1 0)) x8p1 D.und))) ∧ (True ∧ (Q [x10, (D.agg [(D.slc (List.set (D.xs (D.fld xo1 0)) x8p1 (D.slc (List.set (D.xs (List.getD (D.xs (D.fld xo1 0)) x8p1 D.und)) (Int.toNat (0 : Int)) x7))))])])))) := by kernel_rfl
theorem E25 (n : Nat) (d0 d1 d2 : D) (Q : List D → Prop) : wpF Try.prog A (n + 1) 25 [d0, d1, d2] Q =
 (cond (iEq (D.i (D.fld d0 0)) (0 : Int))
 (Q [(D.bool false), d1])
 ((D.i (D.fld d0 2)) ≠ (0 : Int) ∧ ((D.i (D.fld d0 0)) ≠ (0 : Int) ∧ ((0 ≤ (Int.tmod (IntKind.wrap .i64 (Int.tdiv (D.i d2) (D.i (D.fld d0 2)))) (D.i (D.fld d0 0))) ∧ (Int.tmod (IntKind.wrap .i64 (Int.tdiv (D.i d2) (D.i (D.fld d0 2)))) (D.i (D.fld d0 0))) < (D.len (D.fld d1 0))) ∧ (L25_8 n  n (D.int (IntKind.wrap .i64 (Int.tdiv (D.i d2) (D.i (D.fld d0 2))))) ((Int.toNat (Int.tmod (IntKind.wrap .i64 (Int.tdiv (D.i d2) (D.i (D.fld d0 2)))) (D.i (D.fld d0 0))))) (D.int (IntKind.wrap .i64 ((D.len (List.getD (D.xs (D.fld d1 0)) (Int.toNat (Int.tmod (IntKind.wrap .i64 (Int.tdiv (D.i d2) (D.i (D.fld d0 2)))) (D.i (D.fld d0 0)))) D.und)) - (1 : Int)))) (D.bool false) (D.int (0 : Int)) d1 Q))))) := by kernel_rfl
attribute [irreducible] L25_8 L25_13

/- timebound/timeboundmake.lines -/
def L92_3 (n m0 : Nat) (x6 : D) (xo0 : D) (xo3 : D) (xo4 : D) (xo5 : D) (Q : List D → Prop) : Prop :=
  loopK (wpC Try.prog A (hnd Try.prog A n) 92 n (cA (cA (cB (cA (cB (cB (bodyOf Try.f92)))))))) (nmK Try.prog (A.loop 92 3)) m0 { sl := [(0, .ptr 0 [] 102), (3, .ptr 3 [] 47), (4, .ptr 4 [] 61), (5, .vptr 5 [] 61), (6, .imm 3 x6)], ob := [(0, some ⟨true, 102, .imm, xo0⟩), (3, some ⟨true, 47, .imm, xo3⟩), (4, some ⟨true, 61, (.agg [(0, (.slc (.slc .imm none) none))]), xo4⟩), (5, some ⟨false, 61, (.agg [(0, (.slc (.slc .imm none) none))]), xo5⟩)] } (kBlock 0 (kSeq (wpC Try.prog A (hnd Try.prog A n) 92 n (cB (cB (cB (bodyOf Try.f92))))) (kEnd Try.prog Try.f92 (A.sig 92) Q)))
theorem L92_3_eq (n m0 : Nat) (x6 : D) (xo0 : D) (xo3 : D) (xo4 : D) (xo5 : D) (Q : List D → Prop) : L92_3 n (m0 + 1) x6 xo0 xo3 xo4 xo5 Q =
 (cond (iLt (0 : Int) (D.i x6))
 (cond (iLt (0 : Int) (D.i (D.fld xo3 0)))
 (wpF Try.prog A n 23 [xo0, (D.int (120 : Int))] fun r3 =>
 (wpF Try.prog A n 25 [xo3, xo5, (rs r3 0)] fun r4 =>
 (L92_3 n  m0 (D.int (IntKind.wrap .i64 ((D.i x6) - (1 : Int)))) (rs r3 1) xo3 xo4 (rs r4 1) Q)))
 (True ∧ (Q [xo5, xo0])))
 (True ∧ (Q [xo5, xo0]))) := by kernel_rfl
theorem E92 (n : Nat) (d0 d1 : D) (Q : List D → Prop) : wpF Try.prog A (n + 1) 92 [d0, d1] Q =
 (wpF Try.prog A n 160 [d1] fun r1 =>
 (True ∧ (wpF Try.prog A n 23 [d0, (D.int (12 : Int))] fun r2 =>
 (L92_3 n  n (rs r2 0) (rs r2 1) d1 (D.agg [(D.slc ([] : List D))]) (rs r1 0) Q)))) := by kernel_rfl
attribute [irreducible] L92_3

/- timebound/timeboundmake.Lines -/
theorem E51 (n : Nat) (d0 d1 : D) (Q : List D → Prop) : wpF Try.prog A (n + 1) 51 [d0, d1] Q =
 (wpF Try.prog A n 92 [d0, d1] fun r1 =>
 (True ∧ (Q [(rs r1 0), (rs r1 1)]))) := by kernel_rfl

/- timebound/timeboundmake2.Contents -/
theorem E21 (n : Nat) (d0 d1 : D) (Q : List D → Prop) : wpF Try.prog A (n + 1) 21 [d0, d1] Q =
 (wpF Try.prog A n 51 [d0, d1] fun r1 =>
 (True ∧ (Q [(rs r1 0), (rs r1 1)]))) := by kernel_rfl

/- timebound/timeboundref22.Copy -/
def L24_3 (n m0 : Nat) (x4 : D) (xo1 : D) (xo2 : D) (xo3 : D) (Q : List D → Prop) : Prop :=
  loopK (wpC Try.prog A (hnd Try.prog A n) 24 n (cA (cA (cB (cA (cB (cB (bodyOf Try.f24)))))))) (nmK Try.prog (A.loop 24 3)) m0 { sl := [(1, .ptr 1 [] 61), (2, .ptr 2 [] 61), (3, .ptr 3 [] 61), (4, .imm 3 x4)], ob := [(1, some ⟨true, 61, .imm, xo1⟩), (2, some ⟨true, 61, (.agg [(0, (.slc (.slc .imm none) none))]), xo2⟩), (3, some ⟨true, 61, (.agg [(0, (.slc (.slc .imm none) none))]), xo3⟩)] } (kBlock 0 (kSeq (wpC Try.prog A (hnd Try.prog A n) 24 n (cB (cB (cB (bodyOf Try.f24))))) (kEnd Try.prog Try.f24 (A.sig 24) Q)))
theorem L24_3_eq (n m0 : Nat) (x4 : D) (xo1 : D) (xo2 : D) (xo3 : D) (Q : List D → Prop) : L24_3 n (m0 + 1) x4 xo1 xo2 xo3 Q =
 (cond (iLt (D.i x4) (D.len (D.fld xo1 0)))
 ((0 ≤ (D.i x4) ∧ (D.i x4) < (D.len (D.fld xo1 0))) ∧ (room (((List.length ([] : List D) : Nat) : Int) + ((List.length (D.xs (D.el (D.fld xo1 0) (D.i x4))) : Nat) : Int)) 8 ∧ (room (((List.length (D.xs (D.fld xo3 0)) : Nat) : Int) + ((List.length [(D.slc (([] : List D) ++ (D.xs (D.el (D.fld xo1 0) (D.i x4)))))] : Nat) : Int)) 24 ∧ (True ∧ (L24_3 n  m0 (D.int (IntKind.wrap .i64 ((D.i x4) + (1 : Int)))) xo1 xo2 (D.agg [(D.slc ((D.xs (D.fld xo3 0)) ++ [(D.slc (([] : List D) ++ (D.xs (D.el (D.fld xo1 0) (D.i x4)))))]))]) Q)))))
 (True ∧ (Q [xo3]))) := by kernel_rfl
theorem E24 (n : Nat) (d0 : D) (Q : List D → Prop) : wpF Try.prog A (n + 1) 24 [d0] Q =
 (L24_3 n  n (D.int (0 : Int)) d0 (D.agg [(D.slc ([] : List D))]) (D.agg [(D.slc ([] : List D))]) Q) := by kernel_rfl
attribute [irreducible] L24_3

/- timebound/timeboundlaw26.PersistStays -/
def L5_9 (n m0 : Nat) (x8 : D) (xo4 : D) (xo5 : D) (xo7 : D) (xo19 : D) (xo36 : D) (Q : List D → Prop) : Prop :=
  loopK (wpC Try.prog A (hnd Try.prog A n) 5 n (cA (cA (cB (cA (cB (cB (cB (cB (cB (cB (cB (bodyOf Try.f5))))))))))))) (nmK Try.prog (A.loop 5 9)) m0 { sl := [(3, .ptr 19 [] 102), (4, .ptr 4 [] 47), (5, .ptr 5 [] 61), (6, .val 36 [] 25), (7, .val 7 [] 29), (8, .imm 3 x8)], ob := [(4, some ⟨true, 47, .imm, xo4⟩), (5, some ⟨true, 61, (.agg [(0, (.slc (.slc .imm none) none))]), xo5⟩), (7, some ⟨false, 29, (.slc .imm none), xo7⟩), (19, some ⟨true, 102, .imm, xo19⟩), (36, some ⟨false, 25, (.slc (.slc .imm none) none), xo36⟩)] } (kBlock 0 (kSeq (wpC Try.prog A (hnd Try.prog A n) 5 n (cB (cB (cB (cB (cB (cB (cB (cB (bodyOf Try.f5)))))))))) (kEnd Try.prog Try.f5 (A.sig 5) Q)))
def L5_15 (n m0 m1 : Nat) (x8 : D) (x9 : D) (x10 : D) (x55p0 : Nat) (x56 : D) (x57 : D) (xo4 : D) (xo5 : D) (xo7 : D) (xo19 : D) (xo36 : D) (Q : List D → Prop) : Prop :=
  loopK (wpC Try.prog A (hnd Try.prog A n) 5 n (cA (cA (cB (cA (cB (cB (cB (cA (cA (cB (cA (cA (cB (cA (cB (cB (cB (cB (cB (cB (cB (bodyOf Try.f5))))))))))))))))))))))) (nmK Try.prog (A.loop 5 15)) m1 { sl := [(3, .ptr 19 [] 102), (4, .ptr 4 [] 47), (5, .ptr 5 [] 61), (6, .val 36 [] 25), (7, .val 7 [] 29), (8, .imm 3 x8), (9, .imm 3 x9), (10, .imm 4 x10), (55, .val 36 [.idx x55p0] 29), (56, .imm 3 x56), (57, .imm 3 x57)], ob := [(4, some ⟨true, 47, .imm, xo4⟩), (5, some ⟨true, 61, (.agg [(0, (.slc (.slc .imm none) none))]), xo5⟩), (7, some ⟨false, 29, (.slc .imm none), xo7⟩), (19, some ⟨true, 102, .imm, xo19⟩), (36, some ⟨false, 25, (.slc (.slc .imm none) none), xo36⟩), (48, none)] } (kBlock 2 (kSeq (wpC Try.prog A (hnd Try.prog A n) 5 n (cB (cB (cB (cB (cA (cA (cB (cA (cA (cB (cA (cB (cB (cB (cB (cB (cB (cB (bodyOf Try.f5)))))))))))))))))))) (kBlock 1 (kSeq (wpC Try.prog A (hnd Try.prog A n) 5 n (cB (cB (cA (cA (cB (cA (cB (cB (cB (cB (cB (cB (cB (bodyOf Try.f5))))))))))))))) (kLoop (nmK Try.prog (A.loop 5 9)) (fun g => loopK (wpC Try.prog A (hnd Try.prog A n) 5 n (cA (cA (cB (cA (cB (cB (cB (cB (cB (cB (cB (bodyOf Try.f5))))))))))))) (nmK Try.prog (A.loop 5 9)) m0 g (kBlock 0 (kSeq (wpC Try.prog A (hnd Try.prog A n) 5 n (cB (cB (cB (cB (cB (cB (cB (cB (bodyOf Try.f5)))))))))) (kEnd Try.prog Try.f5 (A.sig 5) Q)))) (kBlock 0 (kSeq (wpC Try.prog A (hnd Try.prog A n) 5 n (cB (cB (cB (cB (cB (cB (cB (cB (bodyOf Try.f5)))))))))) (kEnd Try.prog Try.f5 (A.sig 5) Q))))))))
def L5_23 (n m0 : Nat) (x87 : D) (xo4 : D) (xo5 : D) (xo7 : D) (xo19 : D) (xo36 : D) (xo86 : D) (Q : List D → Prop) : Prop :=
  loopK (wpC Try.prog A (hnd Try.prog A n) 5 n (cA (cA (cB (cA (cB (cB (cB (cB (cB (cB (cB (cB (cB (bodyOf Try.f5))))))))))))))) (nmK Try.prog (A.loop 5 23)) m0 { sl := [(3, .ptr 19 [] 102), (4, .ptr 4 [] 47), (5, .ptr 5 [] 61), (6, .val 36 [] 25), (7, .val 7 [] 29), (13, .val 86 [] 65), (87, .imm 3 x87)], ob := [(4, some ⟨true, 47, .imm, xo4⟩), (5, some ⟨true, 61, (.agg [(0, (.slc (.slc .imm none) none))]), xo5⟩), (7, some ⟨false, 29, (.slc .imm none), xo7⟩), (19, some ⟨true, 102, .imm, xo19⟩), (36, some ⟨false, 25, (.slc (.slc .imm none) none), xo36⟩), (86, some ⟨false, 65, .mp, xo86⟩)] } (kBlock 4 (kSeq (wpC Try.prog A (hnd Try.prog A n) 5 n (cB (cB (cB (cB (cB (cB (cB (cB (cB (cB (bodyOf Try.f5)))))))))))) (kEnd Try.prog Try.f5 (A.sig 5) Q)))
def L5_31 (n m0 : Nat) (x113 : D) (x114 : D) (xo4 : D) (xo7 : D) (xo36 : D) (xo86 : D) (Q : List D → Prop) : Prop :=
  loopK (wpC Try.prog A (hnd Try.prog A n) 5 n (cA (cA (cB (cA (cB (cB (cB (cB (cB (cB (cB (cB (cB (cB (bodyOf Try.f5)))))))))))))))) (nmK Try.prog (A.loop 5 31)) m0 { sl := [(4, .ptr 4 [] 47), (6, .val 36 [] 25), (13, .val 86 [] 65), (112, .val 7 [] 29), (113, .imm 3 x113), (114, .imm 3 x114)], ob := [(4, some ⟨true, 47, .imm, xo4⟩), (7, some ⟨false, 29, (.slc .imm none), xo7⟩), (36, some ⟨false, 25, (.slc (.slc .imm none) none), xo36⟩), (86, some ⟨false, 65, .mp, xo86⟩)] } (kBlock 6 (kSeq (wpC Try.prog A (hnd Try.prog A n) 5 n (cB (cB (cB (cB (cB (cB (cB (cB (cB (cB (cB (bodyOf Try.f5))))))))))))) (kEnd Try.prog Try.f5 (A.sig 5) Q)))
theorem L5_9_eq (n m0 : Nat) (x8 : D) (xo4 : D) (xo5 : D) (xo7 : D) (xo19 : D) (xo36 : D) (Q : List D → Prop) : L5_9 n (m0 + 1) x8 xo4 xo5 xo7 xo19 xo36 Q =
 (cond (iLe (0 : Int) (D.i x8))
 (wpF Try.prog A n 23 [xo19, (D.int (20 : Int))] fun r7 =>
 (room (((List.length (D.xs xo7) : Nat) : Int) + ((List.length [(rs r7 0)] : Nat) : Int)) 8 ∧ ((D.i (D.fld xo4 0)) ≠ (0 : Int) ∧ ((0 ≤ (Int.tmod (D.i (rs r7 0)) (D.i (D.fld xo4 0))) ∧ (Int.tmod (D.i (rs r7 0)) (D.i (D.fld xo4 0))) < (D.len xo36)) ∧ (L5_15 n m0 n x8 (rs r7 0) (D.bool false) ((Int.toNat (Int.tmod (D.i (rs r7 0)) (D.i (D.fld xo4 0))))) (D.int (D.len (List.getD (D.xs xo36) (Int.toNat (Int.tmod (D.i (rs r7 0)) (D.i (D.fld xo4 0)))) D.und))) (D.int (0 : Int)) xo4 xo5 (D.slc ((D.xs xo7) ++ [(rs r7 0)])) (rs r7 1) xo36 Q)))))
 (L5_23 n  n (D.int (0 : Int)) xo4 xo5 xo7 xo19 xo36 (D.map []) Q)) := by kernel_rfl
theorem L5_15_eq (n m0 m1 : Nat) (x8 : D) (x9 : D) (x10 : D) (x55p0 : Nat) (x56 : D) (x57 : D) (xo4 : D) (xo5 : D) (xo7 : D) (xo19 : D) (xo36 : D) (Q : List D → Prop) : L5_15 n m0 (m1 + 1) x8 x9 x10 x55p0 x56 x57 xo4 xo5 xo7 xo19 xo36 Q =
 (cond (iLt (D.i x57) (D.i x56))
 ((0 ≤ (D.i x57) ∧ (D.i x57) < (D.len (List.getD (D.xs xo36) x55p0 D.und))) ∧ (cond (D.b x10)
 (L5_15 n m0 m1 x8 x9 (D.bool true) (x55p0) x56 (D.int (IntKind.wrap .i64 ((D.i x57) + (1 : Int)))) xo4 xo5 xo7 xo19 xo36 Q)
 (L5_15 n m0 m1 x8 x9 (D.bool (iEq (D.i (List.getD (D.xs (List.getD (D.xs xo36) x55p0 D.und)) (Int.toNat (D.i x57)) D.und)) (D.i x9))) (x55p0) x56 (D.int (IntKind.wrap .i64 ((D.i x57) + (1 : Int)))) xo4 xo5 xo7 xo19 xo36 Q)))
 (cond (!(D.b x10))
 ((D.i (D.fld xo4 0)) ≠ (0 : Int) ∧ ((D.i (D.fld xo4 0)) ≠ (0 : Int) ∧ ((0 ≤ (Int.tmod (D.i x9) (D.i (D.fld xo4 0))) ∧ (Int.tmod (D.i x9) (D.i (D.fld xo4 0))) < (D.len xo36)) ∧ (room (((List.length (D.xs (List.getD (D.xs xo36) (Int.toNat (Int.tmod (D.i x9) (D.i (D.fld xo4 0)))) D.und)) : Nat) : Int) + ((List.length [x9] : Nat) : Int)) 8 ∧ ((0 ≤ (Int.tmod (D.i x9) (D.i (D.fld xo4 0))) ∧ (Int.tmod (D.i x9) (D.i (D.fld xo4 0))) < (D.len xo36)) ∧ (((Int.toNat (Int.tmod (D.i x9) (D.i (D.fld xo4 0)))) = (Int.toNat (Int.tmod (D.i x9) (D.i (D.fld xo4 0)))) ∧ True) ∧ (L5_9 n  m0 (D.int (IntKind.wrap .i64 ((D.i x8) - (1 : Int)))) xo4 xo5 xo7 xo19 (D.slc (List.set (D.xs xo36) (Int.toNat (Int.tmod (D.i x9) (D.i (D.fld xo4 0)))) (D.slc ((D.xs (List.getD (D.xs xo36) (Int.toNat (Int.tmod (D.i x9) (D.i (D.fld xo4 0)))) D.und)) ++ [x9])))) Q)))))))
 (L5_9 n  m0 (D.int (IntKind.wrap .i64 ((D.i x8) - (1 : Int)))) xo4 xo5 xo7 xo19 xo36 Q))) := by kernel_rfl
theorem L5_23_eq (n m0 : Nat) (x87 : D) (xo4 : D) (xo5 : D) (xo7 : D) (xo19 : D) (xo36 : D) (xo86 : D) (Q : List D → Prop) : L5_23 n (m0 + 1) x87 xo4 xo5 xo7 xo19 xo36 xo86 Q =
 (cond (iLt (D.i x87) (60 : Int))
 (wpF Try.prog A n 23 [xo19, (D.int (D.len xo7))] fun r8 =>
 ((0 ≤ (D.i (rs r8 0)) ∧ (D.i (rs r8 0)) < (D.len xo7)) ∧ (wpF Try.prog A n 24 [xo5] fun r9 =>
 (True ∧ (wpF Try.prog A n 25 [xo4, (rs r9 0), (D.int (IntKind.wrap .i64 ((D.i (List.getD (D.xs xo7) (Int.toNat (D.i (rs r8 0))) D.und)) * (D.i (D.fld xo4 2)))))] fun r10 =>
 (cond (!(D.b (rs r10 0)))
 (True ∧ (L5_23 n  m0 (D.int (IntKind.wrap .i64 ((D.i x87) + (1 : Int)))) xo4 (rs r10 1) xo7 (rs r8 1) xo36 (D.map (mapPut (D.es xo86) (List.getD (D.xs xo7) (Int.toNat (D.i (rs r8 0))) D.und) (D.int (IntKind.wrap .i64 ((D.i ((mapGet (D.es xo86) (List.getD (D.xs xo7) (Int.toNat (D.i (rs r8 0))) D.und)).getD (D.int (0 : Int)))) + (1 : Int)))))) Q))
 (True ∧ (L5_23 n  m0 (D.int (IntKind.wrap .i64 ((D.i x87) + (1 : Int)))) xo4 (rs r10 1) xo7 (rs r8 1) xo36 xo86 Q))))))))
 (L5_31 n  n (D.int (D.len xo7)) (D.int (0 : Int)) xo4 xo7 xo36 xo86 Q)) := by kernel_rfl
theorem L5_31_eq (n m0 : Nat) (x113 : D) (x114 : D) (xo4 : D) (xo7 : D) (xo36 : D) (xo86 : D) (Q : List D → Prop) : L5_31 n (m0 + 1) x113 x114 xo4 xo7 xo36 xo86 Q =
 (cond (iLt (D.i x114) (D.i x113))
 ((0 ≤ (D.i x114) ∧ (D.i x114) < (D.len xo7)) ∧ (wpF Try.prog A n 22 [xo4, xo36, (List.getD (D.xs xo7) (Int.toNat (D.i x114)) D.und)] fun r11 =>
 (cond (D.b (rs r11 0))
 (cond (iLt (1 : Int) (D.i ((mapGet (D.es xo86) (List.getD (D.xs xo7) (Int.toNat (D.i x114)) D.und)).getD (D.int (0 : Int)))))
 (Q [(D.bool false)])
 (wpF Try.prog A n 22 [xo4, xo36, (List.getD (D.xs xo7) (Int.toNat (D.i x114)) D.und)] fun r12 =>
 ((D.i (D.fld xo4 0)) ≠ (0 : Int) ∧ ((0 ≤ (Int.tmod (D.i (List.getD (D.xs xo7) (Int.toNat (D.i x114)) D.und)) (D.i (D.fld xo4 0))) ∧ (Int.tmod (D.i (List.getD (D.xs xo7) (Int.toNat (D.i x114)) D.und)) (D.i (D.fld xo4 0))) < (D.len xo36)) ∧ (cond (!(bEq (D.b (rs r12 0)) (iLe (D.len (List.getD (D.xs xo36) (Int.toNat (Int.tmod (D.i (List.getD (D.xs xo7) (Int.toNat (D.i x114)) D.und)) (D.i (D.fld xo4 0)))) D.und)) (D.i (D.fld xo4 1)))))
 (Q [(D.bool false)])
 (L5_31 n  m0 x113 (D.int (IntKind.wrap .i64 ((D.i x114) + (1 : Int)))) xo4 xo7 xo36 xo86 Q))))))
 (wpF Try.prog A n 22 [xo4, xo36, (List.getD (D.xs xo7) (Int.toNat (D.i x114)) D.und)] fun r13 =>
 ((D.i (D.fld xo4 0)) ≠ (0 : Int) ∧ ((0 ≤ (Int.tmod (D.i (List.getD (D.xs xo7) (Int.toNat (D.i x114)) D.und)) (D.i (D.fld xo4 0))) ∧ (Int.tmod (D.i (List.getD (D.xs xo7) (Int.toNat (D.i x114)) D.und)) (D.i (D.fld xo4 0))) < (D.len xo36)) ∧ (cond (!(bEq (D.b (rs r13 0)) (iLe (D.len (List.getD (D.xs xo36) (Int.toNat (Int.tmod (D.i (List.getD (D.xs xo7) (Int.toNat (D.i x114)) D.und)) (D.i (D.fld xo4 0)))) D.und)) (D.i (D.fld xo4 1)))))
 (Q [(D.bool false)])
 (L5_31 n  m0 x113 (D.int (IntKind.wrap .i64 ((D.i x114) + (1 : Int)))) xo4 xo7 xo36 xo86 Q))))))))
 (wpF Try.prog A n 19 [] fun r14 =>
 (Q [(rs r14 0)]))) := by kernel_rfl
theorem E5 (n : Nat) (d0 : D) (Q : List D → Prop) : wpF Try.prog A (n + 1) 5 [d0] Q =
 (wpF Try.prog A n 11 [d0] fun r1 =>
 (wpF Try.prog A n 20 [(rs r1 0)] fun r2 =>
 (True ∧ (wpF Try.prog A n 21 [(rs r2 1), (rs r2 0)] fun r3 =>
 (True ∧ (cond (iEq (D.i (D.fld (rs r2 0) 0)) (0 : Int))
 (wpF Try.prog A n 22 [(rs r2 0), (D.slc ([] : List D)), (D.int (3 : Int))] fun r4 =>
 (cond (!(D.b (rs r4 0)))
 (wpF Try.prog A n 19 [] fun r5 =>
 (Q [(rs r5 0)]))
 (Q [(D.bool false)])))
 ((0 ≤ (D.i (D.fld (rs r2 0) 0)) ∧ (D.i (D.fld (rs r2 0) 0)) ≤ (D.i (D.fld (rs r2 0) 0)) ∧ room (D.i (D.fld (rs r2 0) 0)) 24) ∧ (wpF Try.prog A n 23 [(rs r3 1), (D.int (8 : Int))] fun r6 =>
 (L5_9 n  n (rs r6 0) (rs r2 0) (rs r3 0) (D.slc ([] : List D)) (rs r6 1) (D.slc (List.replicate (Int.toNat (D.i (D.fld (rs r2 0) 0))) (D.slc ([] : List D)))) Q))))))))) := by kernel_rfl
attribute [irreducible] L5_9 L5_15 L5_23 L5_31
end Go.Ab

/- Contents of a cache: what a use, a copy, an empty cache come to. -/
namespace Go.Ab
open Go.Proofs
attribute [local irreducible] wpF

/-- Contents as lists of lines. -/
def LS (S : List (List Int)) : D := .agg [.slc (S.map lst)]
theorem LS_fld (S : List (List Int)) : D.fld (LS S) 0 = .slc (S.map lst) := rfl
theorem gd_lst {S : List (List Int)} {i : Nat} (h : i < S.length) : (S.map lst).getD i .und = lst (S.getD i []) := by
  simp [List.getD_eq_getElem?_getD, h]
theorem gd_int {l : List Int} {i : Nat} (h : i < l.length) : (l.map D.int).getD i .und = .int (l.getD i 0) := by
  simp [List.getD_eq_getElem?_getD, h]
theorem gd_set {S : List (List Int)} {i : Nat} {y : List Int} (h : i < S.length) : (S.set i y).getD i [] = y := by
  simp [List.getD_eq_getElem?_getD, h]
theorem ls_set {S : List (List Int)} {i j : Nat} {y : List Int} {v : Int} : D.agg [D.slc (List.set ((S.set i y).map lst) i (D.slc (List.set (y.map .int) j (.int v))))] = LS (S.set i (y.set j v)) := by
  unfold LS
  have : D.slc (List.set (y.map .int) j (.int v)) = lst (y.set j v) := by rw [lst, List.map_set]
  rw [this, ← List.map_set, List.set_set]

/-- Elements move up by one, up to a place. -/
def shf : List Int → Nat → List Int
  | y, 0 => y
  | y, k + 1 => shf (y.set (k + 1) (y.getD k 0)) k
theorem shf_eq (v : Int) : ∀ (k : Nat) (y : List Int), k < y.length → (shf y k).set 0 v = v :: y.eraseIdx k
  | 0, y, h => by
    cases y with
    | nil => simp at h
    | cons a y => rfl
  | k + 1, y, h => by
    rw [shf, shf_eq v k _ (by rw [List.length_set]; omega)]
    congr 1
    apply List.ext_getElem?
    intro j
    simp only [List.getElem?_eraseIdx, List.getElem?_set]
    by_cases h1 : j < k
    · rw [if_pos h1, if_neg (by omega), if_pos (by omega)]
    · rw [if_neg h1]
      by_cases h2 : j = k
      · subst h2
        rw [if_pos rfl, if_pos h, if_pos (by omega), List.getD_eq_getElem?_getD, List.getElem?_eq_getElem (by omega)]
        rfl
      · rw [if_neg (by omega), if_neg (by omega)]

section
variable {n : Nat} {Q : List D → Prop}

theorem shift_wp {S : List (List Int)} {i : Nat} (hi : i < S.length) {q : Int} {hit : D} : ∀ (k m0 : Nat) (y : List Int), k < m0 → k < y.length → y.length ≤ 100 → Q [hit, LS (S.set i ((shf y k).set 0 q))] → L25_13 n m0 (.int q) i hit (.int (k : Int)) (LS (S.set i y)) Q := by
  intro k
  induction k with
  | zero =>
    intro m0 y h1 h2 h3 h
    obtain ⟨m0, rfl⟩ : ∃ m, m0 = m + 1 := ⟨m0 - 1, by omega⟩
    rw [L25_13_eq]
    simp only [i_int, LS_fld, xs_slc]
    rw [gd_lst (by rw [List.length_set]; exact hi), gd_set hi]
    refine cLt (fun c => by omega) fun _ => ⟨⟨by omega, by rw [len_lst]; omega⟩, trivial, ?_⟩
    rw [xs_lst, show Int.toNat 0 = 0 from rfl, ls_set]
    exact h
  | succ k ih =>
    intro m0 y h1 h2 h3 h
    obtain ⟨m0, rfl⟩ : ∃ m, m0 = m + 1 := ⟨m0 - 1, by omega⟩
    rw [L25_13_eq]
    simp only [i_int, LS_fld, xs_slc]
    rw [gd_lst (by rw [List.length_set]; exact hi), gd_set hi]
    rw [wrap_id (show -9223372036854775808 ≤ ((k + 1 : Nat) : Int) - 1 by omega) (by omega), show ((k + 1 : Nat) : Int) - 1 = (k : Int) by omega]
    refine cLt (fun c => ⟨⟨by omega, by rw [len_lst]; omega⟩, ⟨by omega, by rw [len_lst]; omega⟩, trivial, ?_⟩) fun c => absurd (by omega) c
    simp only [toNat_nat]
    rw [xs_lst, gd_int (by omega), ls_set]
    exact ih m0 _ (by omega) (by rw [List.length_set]; omega) (by rw [List.length_set]; exact h3) h

theorem find_wp {S : List (List Int)} {i : Nat} (hi : i < S.length) {x : List Int} (hx : S.getD i [] = x) (hl : x.length ≤ 100) (hn : 200 ≤ n) {q : Int}
    (h : ∀ at' hit, at' < x.length → (hit = true → x.getD at' 0 = q) → (hit = false → q ∉ x ∧ at' = x.length - 1) → Q [.bool hit, LS (S.set i (q :: x.eraseIdx at'))]) :
    ∀ (m0 j at' : Nat) (hit : Bool), x.length - j < m0 → j ≤ x.length → at' < x.length → (hit = true → x.getD at' 0 = q) → (hit = false → at' = x.length - 1 ∧ ∀ t, t < j → x.getD t 0 ≠ q) →
      L25_8 n m0 (.int q) i (.int (at' : Int)) (.bool hit) (.int (j : Int)) (LS S) Q := by
  intro m0
  induction m0 with
  | zero => intro j at' hit h1; omega
  | succ m0 ih =>
    intro j at' hit h1 h2 h3 h4 h5
    rw [L25_8_eq]
    simp only [i_int, LS_fld, xs_slc]
    rw [gd_lst hi, hx, len_lst]
    refine cLt (fun c => ⟨⟨by omega, by omega⟩, ?_⟩) fun c => ?_
    · simp only [toNat_nat]
      rw [xs_lst, gd_int (by omega), i_int, wrap_id (show -9223372036854775808 ≤ (j : Int) + 1 by omega) (by omega), show (j : Int) + 1 = ((j + 1 : Nat) : Int) by omega]
      refine cEq (fun e => ?_) fun e => ?_
      · exact ih (j + 1) j true (by omega) (by omega) (by omega) (fun _ => e) (fun h => by cases h)
      · refine ih (j + 1) at' hit (by omega) (by omega) h3 h4 fun hh => ⟨(h5 hh).1, fun t ht => ?_⟩
        by_cases e2 : t = j
        · subst e2; exact e
        · exact (h5 hh).2 t (by omega)
    · have hj : j = x.length := by omega
      subst hj
      have e : LS S = LS (S.set i x) := by
        congr 1
        apply List.ext_getElem?
        intro t
        rw [List.getElem?_set]
        by_cases ht : i = t
        · subst ht
          rw [if_pos rfl, if_pos hi, ← hx, List.getD_eq_getElem?_getD, List.getElem?_eq_getElem hi]
          rfl
        · rw [if_neg ht]
      rw [e]
      refine shift_wp hi at' n x (by omega) h3 hl ?_
      rw [shf_eq q at' x h3]
      refine h at' hit h3 h4 fun hh => ⟨fun hm => ?_, (h5 hh).1⟩
      obtain ⟨t, ht, e1⟩ := List.mem_iff_getElem.1 hm
      refine (h5 hh).2 t ht ?_
      rw [List.getD_eq_getElem?_getD, List.getElem?_eq_getElem ht, Option.getD_some, e1]

theorem use_wp {s b q a : Nat} {w : Int} {S : List (List Int)} {x : List Int} (hn : 1000 ≤ n) (hs : 0 < s) (hs4 : s ≤ 4) (hb : 1 ≤ b) (hS : S.length = s) (hq : a / b = q) (ha : a ≤ 1000000) (hx : S.getD (q % s) [] = x) (hx1 : 1 ≤ x.length) (hx2 : x.length ≤ 100)
    (h : ∀ at' hit, at' < x.length → (hit = true → x.getD at' 0 = (q : Int)) → (hit = false → (q : Int) ∉ x ∧ at' = x.length - 1) → Q [.bool hit, LS (S.set (q % s) ((q : Int) :: x.eraseIdx at'))]) :
    wpF Try.prog A n 25 [cch s w b, LS S, .int (a : Int)] Q := by
  obtain ⟨m, rfl⟩ : ∃ m, n = m + 1 := ⟨n - 1, by omega⟩
  rw [E25]
  have hqa : a / b ≤ a := Nat.div_le_self _ _
  have e : Int.tdiv (a : Int) (b : Int) = ((a / b : Nat) : Int) := rfl
  rw [hq] at hqa e
  have hlt : q % s < S.length := by rw [hS]; exact Nat.mod_lt _ hs
  simp only [cch, fld0, fldS, i_int, LS_fld]
  rw [iEq_not.mpr (by omega), cond_false, e, wrap_id (by omega) (by omega)]
  have e2 : Int.tmod (q : Int) (s : Int) = ((q % s : Nat) : Int) := rfl
  rw [e2]
  simp only [toNat_nat, xs_slc]
  rw [gd_lst hlt, hx, len_lst, len_slc, List.length_map]
  rw [wrap_id (show -9223372036854775808 ≤ (x.length : Int) - 1 by omega) (by omega), show (x.length : Int) - 1 = ((x.length - 1 : Nat) : Int) by omega]
  refine ⟨by omega, by omega, ⟨by omega, by omega⟩, ?_⟩
  exact find_wp hlt hx hx2 (by omega) h m 0 (x.length - 1) false (by omega) (by omega) (by omega) (fun h => by cases h) fun _ => ⟨rfl, fun t ht => by omega⟩

theorem copy_wp {S : List (List Int)} (hS : S.length ≤ 100) (hx : ∀ x ∈ S, x.length ≤ 100) (hn : 1000 ≤ n) (h : Q [LS S]) : wpF Try.prog A n 24 [LS S] Q := by
  obtain ⟨m, rfl⟩ : ∃ m, n = m + 1 := ⟨n - 1, by omega⟩
  rw [E24]
  have key : ∀ (m0 k : Nat) (z : D), S.length - k < m0 → k ≤ S.length → L24_3 m m0 (.int (k : Int)) (LS S) z (LS (S.take k)) Q := by
    intro m0
    induction m0 with
    | zero => intro k z h; omega
    | succ m0 ih =>
      intro k z h1 h2
      rw [L24_3_eq]
      simp only [i_int, LS_fld, len_slc, List.length_map, xs_slc]
      refine cLt (fun c => ⟨⟨by omega, by omega⟩, ?_⟩) fun c => ⟨trivial, ?_⟩
      · have hk : k < S.length := by omega
        have e : D.el (.slc (S.map lst)) (k : Int) = lst (S.getD k []) := by
          show (S.map lst).getD k .und = _
          exact gd_lst hk
        rw [e, xs_lst]
        have hl := hx (S.getD k []) (by rw [List.getD_eq_getElem?_getD, List.getElem?_eq_getElem hk]; exact List.getElem_mem hk)
        refine ⟨?_, ?_, trivial, ?_⟩
        · unfold room
          simp only [List.length_nil, List.length_map]
          omega
        · unfold room
          simp only [List.length_singleton, List.length_take]
          omega
        · rw [wrap_id (by omega) (by omega), show (k : Int) + 1 = ((k + 1 : Nat) : Int) by omega]
          have e3 : D.agg [D.slc ((S.take k).map lst ++ [D.slc ([] ++ (S.getD k []).map .int)])] = LS (S.take (k + 1)) := by
            unfold LS
            rw [List.take_add_one, List.map_append, List.getElem?_eq_getElem hk, List.getD_eq_getElem?_getD, List.getElem?_eq_getElem hk]
            rfl
          rw [e3]
          exact ih (k + 1) _ (by omega) (by omega)
      · have e : S.take k = S := List.take_of_length_le (by omega)
        rw [e]
        exact h
  exact key m 0 _ (by omega) (by omega)

theorem empty_wp {s w b : Nat} (hk : Okc s w b) (hn : 1000 ≤ n) (h : Q [LS (List.replicate s (List.replicate w (-1)))]) : wpF Try.prog A n 160 [cch s w b] Q := by
  obtain ⟨m, rfl⟩ : ∃ m, n = m + 1 := ⟨n - 1, by omega⟩
  rw [E160]
  have hs4 : s ≤ 4 := by have := hk.2.1; omega
  have hw3 : w ≤ 3 := by have := hk.2.2.2.1; omega
  have f0 : D.fld (cch s w b) 0 = .int s := rfl
  have f1 : D.fld (cch s w b) 1 = .int w := rfl
  have key : ∀ (m0 k : Nat) (z : D), s - k < m0 → k ≤ s → L160_3 m m0 (.int (k : Int)) (cch s w b) z (LS (List.replicate k (List.replicate w (-1)))) Q := by
    intro m0
    induction m0 with
    | zero => intro k z h; omega
    | succ m0 ih =>
      intro k z h1 h2
      rw [L160_3_eq, f0]
      simp only [i_int]
      refine cLt (fun c => ?_) fun c => ⟨trivial, ?_⟩
      · refine rcchk_wp (by omega) hk ?_
        rw [rs0, i_int, show iEq 0 0 = true from rfl, cond_true]
        have inner : ∀ (m1 j : Nat), w - j < m1 → j ≤ w → L160_7 m m0 m1 (.int (k : Int)) (.int (j : Int)) (cch s w b) z (LS (List.replicate k (List.replicate w (-1)))) (lst (List.replicate j (-1))) Q := by
          intro m1
          induction m1 with
          | zero => intro j h; omega
          | succ m1 ih1 =>
            intro j g1 g2
            rw [L160_7_eq, f1]
            simp only [i_int, LS_fld, xs_slc]
            refine cLt (fun c1 => ⟨?_, ?_⟩) fun c1 => ?_
            · unfold room
              simp only [xs_lst, List.length_map, List.length_replicate, List.length_singleton]
              omega
            · rw [wrap_id (by omega) (by omega), show (j : Int) + 1 = ((j + 1 : Nat) : Int) by omega]
              have e : D.slc (D.xs (lst (List.replicate j (-1))) ++ [D.int (-1)]) = lst (List.replicate (j + 1) (-1)) := by
                rw [xs_lst, lst, List.replicate_succ', List.map_append]
                rfl
              rw [e]
              exact ih1 (j + 1) (by omega) (by omega)
            · have ej : j = w := by omega
              subst ej
              refine ⟨?_, trivial, ?_⟩
              · unfold room
                simp only [List.length_map, List.length_replicate, List.length_singleton]
                omega
              · rw [wrap_id (by omega) (by omega), show (k : Int) + 1 = ((k + 1 : Nat) : Int) by omega]
                have e : D.agg [D.slc ((List.replicate k (List.replicate j (-1))).map lst ++ [lst (List.replicate j (-1))])] = LS (List.replicate (k + 1) (List.replicate j (-1))) := by
                  unfold LS
                  rw [List.replicate_succ', List.map_append]
                  rfl
                rw [e]
                exact ih (k + 1) _ (by omega) (by omega)
        exact inner m 0 (by omega) (by omega)
      · have ek : k = s := by omega
        subst ek
        exact h
  exact key m 0 _ (by omega) (by omega)

/-- Right contents: as many lines as ways, and no line twice. -/
def Rt (x : List Int) : Prop := x.Pairwise fun a b => 0 ≤ a → a ≠ b
theorem Rt.get {x : List Int} (h : Rt x) {i j : Nat} (hij : i ≠ j) (hi : i < x.length) (hj : j < x.length) (h0 : 0 ≤ x.getD i 0) : x.getD i 0 ≠ x.getD j 0 := by
  have gd : ∀ t (ht : t < x.length), x.getD t 0 = x[t] := fun t ht => by rw [List.getD_eq_getElem?_getD, List.getElem?_eq_getElem ht]; rfl
  rw [gd i hi, gd j hj] at *
  intro e
  rcases Nat.lt_or_gt_of_ne hij with h1 | h1
  · exact (List.pairwise_iff_getElem.1 h) i j hi hj h1 h0 e
  · exact (List.pairwise_iff_getElem.1 h) j i hj hi h1 (e ▸ h0) e.symm
theorem gd_erase {x : List Int} {k j : Nat} : (x.eraseIdx k).getD j 0 = if j < k then x.getD j 0 else x.getD (j + 1) 0 := by
  simp only [List.getD_eq_getElem?_getD, List.getElem?_eraseIdx]
  split <;> rfl
theorem mem_gdI {l : List Int} {x : Int} : x ∈ l ↔ ∃ k, k < l.length ∧ l.getD k 0 = x := by
  constructor
  · intro h
    obtain ⟨k, hk, e⟩ := List.mem_iff_getElem.1 h
    exact ⟨k, hk, by rw [List.getD_eq_getElem?_getD, List.getElem?_eq_getElem hk]; exact e⟩
  · rintro ⟨k, hk, rfl⟩
    rw [List.getD_eq_getElem?_getD, List.getElem?_eq_getElem hk]
    exact List.getElem_mem hk
theorem Rt.use {x : List Int} (h : Rt x) {q : Int} (hq : 0 ≤ q) {at' : Nat} {hit : Bool} (hat : at' < x.length) (h1 : hit = true → x.getD at' 0 = q) (h2 : hit = false → q ∉ x ∧ at' = x.length - 1) : Rt (q :: x.eraseIdx at') := by
  refine List.pairwise_cons.2 ⟨fun y hy _ e => ?_, List.Pairwise.sublist (List.eraseIdx_sublist x at') h⟩
  subst e
  cases hit with
  | false => exact (h2 rfl).1 ((List.eraseIdx_sublist x at').subset hy)
  | true =>
    obtain ⟨j, hj, e⟩ := mem_gdI.1 hy
    rw [List.length_eraseIdx, if_pos hat] at hj
    rw [gd_erase] at e
    split at e
    · exact h.get (i := at') (j := j) (by omega) hat (by omega) (by rw [h1 rfl]; exact hq) ((h1 rfl).trans e.symm)
    · exact h.get (i := at') (j := j + 1) (by omega) hat (by omega) (by rw [h1 rfl]; exact hq) ((h1 rfl).trans e.symm)
structure Cts (s w : Nat) (S : List (List Int)) : Prop where
  len : S.length = s
  row : ∀ i, i < s → (S.getD i []).length = w ∧ Rt (S.getD i [])
theorem Cts.use {s w : Nat} {S : List (List Int)} (h : Cts s w S) (hs : 0 < s) {q : Nat} {at' : Nat} {hit : Bool} (hat : at' < (S.getD (q % s) []).length) (h1 : hit = true → (S.getD (q % s) []).getD at' 0 = (q : Int))
    (h2 : hit = false → (q : Int) ∉ S.getD (q % s) [] ∧ at' = (S.getD (q % s) []).length - 1) : Cts s w (S.set (q % s) ((q : Int) :: (S.getD (q % s) []).eraseIdx at')) := by
  have hlt : q % s < s := Nat.mod_lt _ hs
  refine ⟨by rw [List.length_set, h.len], fun i hi => ?_⟩
  by_cases e : i = q % s
  · subst e
    rw [gd_set (by rw [h.len]; exact hlt)]
    have hr := h.row _ hlt
    refine ⟨?_, hr.2.use (by omega) hat h1 h2⟩
    rw [List.length_cons, List.length_eraseIdx, if_pos hat]
    omega
  · have : (S.set (q % s) ((q : Int) :: (S.getD (q % s) []).eraseIdx at')).getD i [] = S.getD i [] := by
      simp [List.getD_eq_getElem?_getD, List.getElem?_set, Ne.symm e]
    rw [this]
    exact h.row i hi

theorem contents_wp {d : D} {s w b : Nat} (hk : Okc s w b) (hd : Dk d) (hn : 3000 ≤ n) (h : ∀ S d', Dk d' → Cts s w S → Q [LS S, d']) : wpF Try.prog A n 21 [d, cch s w b] Q := by
  obtain ⟨m, rfl⟩ : ∃ m, n = m + 3 := ⟨n - 3, by omega⟩
  rw [E21, E51, E92]
  have hs4 : s ≤ 4 := by have := hk.2.1; omega
  have hw1 : 1 ≤ w := by have := hk.2.2.1; omega
  have hw3 : w ≤ 3 := by have := hk.2.2.2.1; omega
  have hb1 : 1 ≤ b := by have := hk.2.2.2.2.1; omega
  refine empty_wp hk (by omega) ⟨trivial, ?_⟩
  refine next_wp (by omega) hd (by omega) (by omega) fun v d1 v1 v2 hd1 => ?_
  simp only [rs0, rsS]
  have f0 : D.fld (cch s w b) 0 = .int s := rfl
  have key : ∀ (m0 k : Nat) (S : List (List Int)) (d : D) (z : D), k < m0 → k ≤ 12 → Dk d → Cts s w S → L92_3 m m0 (.int (k : Int)) d (cch s w b) z (LS S) (fun r => True ∧ (fun r => True ∧ Q [rs r 0, rs r 1]) [rs r 0, rs r 1]) := by
    intro m0
    induction m0 with
    | zero => intro k S d z h; omega
    | succ m0 ih =>
      intro k S d z h1 h2 hd hS
      rw [L92_3_eq, f0]
      simp only [i_int]
      have fin : True ∧ (True ∧ (fun r => True ∧ Q [rs r 0, rs r 1]) [rs [LS S, d] 0, rs [LS S, d] 1]) := ⟨trivial, trivial, trivial, h S d hd hS⟩
      refine cLt (fun c => cLt (fun c2 => ?_) fun _ => fin) fun _ => fin
      refine next_wp (by omega) hd (by omega) (by omega) fun v d2 v1 v2 hd2 => ?_
      simp only [rs0, rsS]
      obtain ⟨a, rfl⟩ : ∃ a : Nat, v = a := ⟨v.toNat, by omega⟩
      have hs0 : 0 < s := by omega
      have hlt : a / b % s < s := Nat.mod_lt _ hs0
      have hr := hS.row _ hlt
      refine use_wp (x := S.getD (a / b % s) []) (by omega) hs0 hs4 hb1 hS.len rfl (by omega) rfl (by omega) (by omega) fun at' hit g1 g2 g3 => ?_
      simp only [rs0, rsS]
      rw [wrap_id (by omega) (by omega), show (k : Int) - 1 = ((k - 1 : Nat) : Int) by omega]
      exact ih (k - 1) _ d2 z (by omega) (by omega) hd2 (hS.use hs0 g1 g2 g3)
  obtain ⟨k, rfl⟩ : ∃ k : Nat, v = k := ⟨v.toNat, by omega⟩
  refine key m k _ d1 _ (by omega) (by omega) hd1 ⟨by simp, fun i hi => ?_⟩
  have : (List.replicate s (List.replicate w (-1 : Int))).getD i [] = List.replicate w (-1) := by simp [List.getD_eq_getElem?_getD, hi]
  rw [this]
  refine ⟨by simp, ?_⟩
  refine List.pairwise_replicate.2 (.inr fun h => by omega)

end
end Go.Ab
