/- Equations and plain laws of the functions that the statement reaches, part 4. Conditions: those in each theorem. -/
import Derived.Test.YtpkjnlmniacnaaaProg
import Derived.Test.YtpkjnlmniacnaaaPart2
import Derived.KernelRfl
import Derived.Test.YtpkjnlmniacnaaaPart3
set_option linter.unusedVariables false
set_option linter.unusedSimpArgs false
/- Equations of functions: each rule reduces to a plain formula, by the kernel. -/
set_option linter.unusedVariables false
namespace Go.Ab
open Go.Proofs
/- timebound/timeboundmake.Processor -/
theorem E12 (n : Nat) (d0 : D) (Q : List D → Prop) : wpF Try.prog A (n + 1) 12 [d0] Q =
 (wpF Try.prog A n 43 [d0] fun r1 =>
 (wpF Try.prog A n 43 [(rs r1 1)] fun r2 =>
 (wpF Try.prog A n 23 [(rs r2 1), (D.int (12 : Int))] fun r3 =>
 (wpF Try.prog A n 23 [(rs r3 1), (D.int (4 : Int))] fun r4 =>
 (wpF Try.prog A n 23 [(rs r4 1), (D.int (4 : Int))] fun r5 =>
 (wpF Try.prog A n 23 [(rs r5 1), (D.int (6 : Int))] fun r6 =>
 (wpF Try.prog A n 23 [(rs r6 1), (D.int (5 : Int))] fun r7 =>
 (wpF Try.prog A n 23 [(rs r7 1), (D.int (5 : Int))] fun r8 =>
 (wpF Try.prog A n 23 [(rs r8 1), (D.int (3 : Int))] fun r9 =>
 (wpF Try.prog A n 23 [(rs r9 1), (D.int (4 : Int))] fun r10 =>
 (wpF Try.prog A n 23 [(rs r10 1), (D.int (9 : Int))] fun r11 =>
 (True ∧ (wpF Try.prog A n 23 [(rs r11 1), (D.int (3 : Int))] fun r12 =>
 (cond (iEq (D.i (rs r12 0)) (2 : Int))
 (wpF Try.prog A n 23 [(rs r12 1), (D.int (100 : Int))] fun r13 =>
 (wpF Try.prog A n 23 [(rs r13 1), (D.int (40 : Int))] fun r14 =>
 (True ∧ (wpF Try.prog A n 23 [(rs r14 1), (D.int (3 : Int))] fun r15 =>
 (cond (iEq (D.i (rs r15 0)) (2 : Int))
 (wpF Try.prog A n 23 [(rs r15 1), (D.int (30 : Int))] fun r16 =>
 (wpF Try.prog A n 23 [(rs r16 1), (D.int (20 : Int))] fun r17 =>
 (True ∧ (True ∧ (Q [(D.agg [(rs r1 0), (rs r2 0), (rs r3 0), (rs r4 0), (D.int (IntKind.wrap .i64 ((1 : Int) + (D.i (rs r5 0))))), (rs r6 0), (rs r7 0), (rs r8 0), (rs r9 0), (rs r10 0), (rs r11 0), (D.slc [(D.agg [(rs r13 0), (D.int (IntKind.wrap .i64 ((D.i (rs r13 0)) + (D.i (rs r14 0)))))])]), (D.slc [(D.agg [(rs r16 0), (D.int (IntKind.wrap .i64 ((D.i (rs r16 0)) + (D.i (rs r17 0)))))])])]), (rs r17 1)])))))
 (True ∧ (Q [(D.agg [(rs r1 0), (rs r2 0), (rs r3 0), (rs r4 0), (D.int (IntKind.wrap .i64 ((1 : Int) + (D.i (rs r5 0))))), (rs r6 0), (rs r7 0), (rs r8 0), (rs r9 0), (rs r10 0), (rs r11 0), (D.slc [(D.agg [(rs r13 0), (D.int (IntKind.wrap .i64 ((D.i (rs r13 0)) + (D.i (rs r14 0)))))])]), (D.slc ([] : List D))]), (rs r15 1)])))))))
 (wpF Try.prog A n 23 [(rs r12 1), (D.int (3 : Int))] fun r18 =>
 (cond (iEq (D.i (rs r18 0)) (2 : Int))
 (wpF Try.prog A n 23 [(rs r18 1), (D.int (30 : Int))] fun r19 =>
 (wpF Try.prog A n 23 [(rs r19 1), (D.int (20 : Int))] fun r20 =>
 (True ∧ (True ∧ (Q [(D.agg [(rs r1 0), (rs r2 0), (rs r3 0), (rs r4 0), (D.int (IntKind.wrap .i64 ((1 : Int) + (D.i (rs r5 0))))), (rs r6 0), (rs r7 0), (rs r8 0), (rs r9 0), (rs r10 0), (rs r11 0), (D.slc ([] : List D)), (D.slc [(D.agg [(rs r19 0), (D.int (IntKind.wrap .i64 ((D.i (rs r19 0)) + (D.i (rs r20 0)))))])])]), (rs r20 1)])))))
 (True ∧ (Q [(D.agg [(rs r1 0), (rs r2 0), (rs r3 0), (rs r4 0), (D.int (IntKind.wrap .i64 ((1 : Int) + (D.i (rs r5 0))))), (rs r6 0), (rs r7 0), (rs r8 0), (rs r9 0), (rs r10 0), (rs r11 0), (D.slc ([] : List D)), (D.slc ([] : List D))]), (rs r18 1)])))))))))))))))))) := by kernel_rfl

/- slices.IndexFunc[[]timebound/api.Span,timebound/api.Span] -/
def L159_2 (n m0 : Nat) (x0 : D) (x1 : D) (x7 : D) (x8 : D) (Q : List D → Prop) : Prop :=
  loopK (wpC Try.prog A (hnd Try.prog A n) 159 n (cA (cA (cB (cA (cB (bodyOf Try.f159))))))) (nmK Try.prog (A.loop 159 2)) m0 { sl := [(0, .imm 48 x0), (1, .imm 165 x1), (7, .imm 3 x7), (8, .imm 3 x8)], ob := [] } (kBlock 0 (kSeq (wpC Try.prog A (hnd Try.prog A n) 159 n (cB (cB (bodyOf Try.f159)))) (kEnd Try.prog Try.f159 (A.sig 159) Q)))
theorem L159_2_eq (n m0 : Nat) (x0 : D) (x1 : D) (x7 : D) (x8 : D) (Q : List D → Prop) : L159_2 n (m0 + 1) x0 x1 x7 x8 Q =
 (cond (iLt (D.i x8) (D.i x7))
 ((0 ≤ (D.i x8) ∧ (D.i x8) < (D.len x0)) ∧ (dynH A (wpF Try.prog A n) x1 [.imm 104] [.val 4 .imm] [(D.el x0 (D.i x8))] fun r1 =>
 (cond (D.b (rs r1 0))
 (Q [x8])
 (L159_2 n  m0 x0 x1 x7 (D.int (IntKind.wrap .i64 ((D.i x8) + (1 : Int)))) Q))))
 (Q [(D.int (-1 : Int))])) := by kernel_rfl
theorem E159 (n : Nat) (d0 d1 : D) (Q : List D → Prop) : wpF Try.prog A (n + 1) 159 [d0, d1] Q =
 (L159_2 n  n d0 d1 (D.int (D.len d0)) (D.int (0 : Int)) Q) := by kernel_rfl
attribute [irreducible] L159_2

/- slices.ContainsFunc[[]timebound/api.Span,timebound/api.Span] -/
theorem E90 (n : Nat) (d0 d1 : D) (Q : List D → Prop) : wpF Try.prog A (n + 1) 90 [d0, d1] Q =
 (wpF Try.prog A n 159 [d0, d1] fun r1 =>
 (Q [(D.bool (iLe (0 : Int) (D.i (rs r1 0))))])) := by kernel_rfl

/- math/bits.Len64 -/
theorem E158 (n : Nat) (d0 : D) (Q : List D → Prop) : wpF Try.prog A (n + 1) 158 [d0] Q =
 (cond (iLe (4294967296 : Int) (D.i d0))
 ((0 : Int) ≤ (32 : Int) ∧ (cond (iLe (65536 : Int) (Int.fdiv (D.i d0) (2 ^ (min (Int.toNat (32 : Int)) 64))))
 ((0 : Int) ≤ (16 : Int) ∧ (cond (iLe (256 : Int) (Int.fdiv (Int.fdiv (D.i d0) (2 ^ (min (Int.toNat (32 : Int)) 64))) (2 ^ (min (Int.toNat (16 : Int)) 64))))
 ((0 : Int) ≤ (8 : Int) ∧ ((0 ≤ (IntKind.wrap .u8 (Int.fdiv (Int.fdiv (Int.fdiv (D.i d0) (2 ^ (min (Int.toNat (32 : Int)) 64))) (2 ^ (min (Int.toNat (16 : Int)) 64))) (2 ^ (min (Int.toNat (8 : Int)) 64)))) ∧ (IntKind.wrap .u8 (Int.fdiv (Int.fdiv (Int.fdiv (D.i d0) (2 ^ (min (Int.toNat (32 : Int)) 64))) (2 ^ (min (Int.toNat (16 : Int)) 64))) (2 ^ (min (Int.toNat (8 : Int)) 64)))) < (((D.s (D.str (ByteArray.mk #[0, 1, 2, 2, 3, 3, 3, 3, 4, 4, 4, 4, 4, 4, 4, 4, 5, 5, 5, 5, 5, 5, 5, 5, 5, 5, 5, 5, 5, 5, 5, 5, 6, 6, 6, 6, 6, 6, 6, 6, 6, 6, 6, 6, 6, 6, 6, 6, 6, 6, 6, 6, 6, 6, 6, 6, 6, 6, 6, 6, 6, 6, 6, 6, 7, 7, 7, 7, 7, 7, 7, 7, 7, 7, 7, 7, 7, 7, 7, 7, 7, 7, 7, 7, 7, 7, 7, 7, 7, 7, 7, 7, 7, 7, 7, 7, 7, 7, 7, 7, 7, 7, 7, 7, 7, 7, 7, 7, 7, 7, 7, 7, 7, 7, 7, 7, 7, 7, 7, 7, 7, 7, 7, 7, 7, 7, 7, 7, 8, 8, 8, 8, 8, 8, 8, 8, 8, 8, 8, 8, 8, 8, 8, 8, 8, 8, 8, 8, 8, 8, 8, 8, 8, 8, 8, 8, 8, 8, 8, 8, 8, 8, 8, 8, 8, 8, 8, 8, 8, 8, 8, 8, 8, 8, 8, 8, 8, 8, 8, 8, 8, 8, 8, 8, 8, 8, 8, 8, 8, 8, 8, 8, 8, 8, 8, 8, 8, 8, 8, 8, 8, 8, 8, 8, 8, 8, 8, 8, 8, 8, 8, 8, 8, 8, 8, 8, 8, 8, 8, 8, 8, 8, 8, 8, 8, 8, 8, 8, 8, 8, 8, 8, 8, 8, 8, 8, 8, 8, 8, 8, 8, 8, 8, 8, 8, 8, 8, 8, 8, 8, 8, 8, 8, 8, 8, 8]))).size : Int))) ∧ (Q [(D.int (IntKind.wrap .i64 ((IntKind.wrap .i64 ((IntKind.wrap .i64 ((32 : Int) + (16 : Int))) + (8 : Int))) + (IntKind.wrap .i64 ((((D.s (D.str (ByteArray.mk #[0, 1, 2, 2, 3, 3, 3, 3, 4, 4, 4, 4, 4, 4, 4, 4, 5, 5, 5, 5, 5, 5, 5, 5, 5, 5, 5, 5, 5, 5, 5, 5, 6, 6, 6, 6, 6, 6, 6, 6, 6, 6, 6, 6, 6, 6, 6, 6, 6, 6, 6, 6, 6, 6, 6, 6, 6, 6, 6, 6, 6, 6, 6, 6, 7, 7, 7, 7, 7, 7, 7, 7, 7, 7, 7, 7, 7, 7, 7, 7, 7, 7, 7, 7, 7, 7, 7, 7, 7, 7, 7, 7, 7, 7, 7, 7, 7, 7, 7, 7, 7, 7, 7, 7, 7, 7, 7, 7, 7, 7, 7, 7, 7, 7, 7, 7, 7, 7, 7, 7, 7, 7, 7, 7, 7, 7, 7, 7, 8, 8, 8, 8, 8, 8, 8, 8, 8, 8, 8, 8, 8, 8, 8, 8, 8, 8, 8, 8, 8, 8, 8, 8, 8, 8, 8, 8, 8, 8, 8, 8, 8, 8, 8, 8, 8, 8, 8, 8, 8, 8, 8, 8, 8, 8, 8, 8, 8, 8, 8, 8, 8, 8, 8, 8, 8, 8, 8, 8, 8, 8, 8, 8, 8, 8, 8, 8, 8, 8, 8, 8, 8, 8, 8, 8, 8, 8, 8, 8, 8, 8, 8, 8, 8, 8, 8, 8, 8, 8, 8, 8, 8, 8, 8, 8, 8, 8, 8, 8, 8, 8, 8, 8, 8, 8, 8, 8, 8, 8, 8, 8, 8, 8, 8, 8, 8, 8, 8, 8, 8, 8, 8, 8, 8, 8, 8, 8]))).data.getD (Int.toNat (IntKind.wrap .u8 (Int.fdiv (Int.fdiv (Int.fdiv (D.i d0) (2 ^ (min (Int.toNat (32 : Int)) 64))) (2 ^ (min (Int.toNat (16 : Int)) 64))) (2 ^ (min (Int.toNat (8 : Int)) 64))))) 0).toNat : Int))))))])))
 ((0 ≤ (IntKind.wrap .u8 (Int.fdiv (Int.fdiv (D.i d0) (2 ^ (min (Int.toNat (32 : Int)) 64))) (2 ^ (min (Int.toNat (16 : Int)) 64)))) ∧ (IntKind.wrap .u8 (Int.fdiv (Int.fdiv (D.i d0) (2 ^ (min (Int.toNat (32 : Int)) 64))) (2 ^ (min (Int.toNat (16 : Int)) 64)))) < (((D.s (D.str (ByteArray.mk #[0, 1, 2, 2, 3, 3, 3, 3, 4, 4, 4, 4, 4, 4, 4, 4, 5, 5, 5, 5, 5, 5, 5, 5, 5, 5, 5, 5, 5, 5, 5, 5, 6, 6, 6, 6, 6, 6, 6, 6, 6, 6, 6, 6, 6, 6, 6, 6, 6, 6, 6, 6, 6, 6, 6, 6, 6, 6, 6, 6, 6, 6, 6, 6, 7, 7, 7, 7, 7, 7, 7, 7, 7, 7, 7, 7, 7, 7, 7, 7, 7, 7, 7, 7, 7, 7, 7, 7, 7, 7, 7, 7, 7, 7, 7, 7, 7, 7, 7, 7, 7, 7, 7, 7, 7, 7, 7, 7, 7, 7, 7, 7, 7, 7, 7, 7, 7, 7, 7, 7, 7, 7, 7, 7, 7, 7, 7, 7, 8, 8, 8, 8, 8, 8, 8, 8, 8, 8, 8, 8, 8, 8, 8, 8, 8, 8, 8, 8, 8, 8, 8, 8, 8, 8, 8, 8, 8, 8, 8, 8, 8, 8, 8, 8, 8, 8, 8, 8, 8, 8, 8, 8, 8, 8, 8, 8, 8, 8, 8, 8, 8, 8, 8, 8, 8, 8, 8, 8, 8, 8, 8, 8, 8, 8, 8, 8, 8, 8, 8, 8, 8, 8, 8, 8, 8, 8, 8, 8, 8, 8, 8, 8, 8, 8, 8, 8, 8, 8, 8, 8, 8, 8, 8, 8, 8, 8, 8, 8, 8, 8, 8, 8, 8, 8, 8, 8, 8, 8, 8, 8, 8, 8, 8, 8, 8, 8, 8, 8, 8, 8, 8, 8, 8, 8, 8, 8]))).size : Int))) ∧ (Q [(D.int (IntKind.wrap .i64 ((IntKind.wrap .i64 ((32 : Int) + (16 : Int))) + (IntKind.wrap .i64 ((((D.s (D.str (ByteArray.mk #[0, 1, 2, 2, 3, 3, 3, 3, 4, 4, 4, 4, 4, 4, 4, 4, 5, 5, 5, 5, 5, 5, 5, 5, 5, 5, 5, 5, 5, 5, 5, 5, 6, 6, 6, 6, 6, 6, 6, 6, 6, 6, 6, 6, 6, 6, 6, 6, 6, 6, 6, 6, 6, 6, 6, 6, 6, 6, 6, 6, 6, 6, 6, 6, 7, 7, 7, 7, 7, 7, 7, 7, 7, 7, 7, 7, 7, 7, 7, 7, 7, 7, 7, 7, 7, 7, 7, 7, 7, 7, 7, 7, 7, 7, 7, 7, 7, 7, 7, 7, 7, 7, 7, 7, 7, 7, 7, 7, 7, 7, 7, 7, 7, 7, 7, 7, 7, 7, 7, 7, 7, 7, 7, 7, 7, 7, 7, 7, 8, 8, 8, 8, 8, 8, 8, 8, 8, 8, 8, 8, 8, 8, 8, 8, 8, 8, 8, 8, 8, 8, 8, 8, 8, 8, 8, 8, 8, 8, 8, 8, 8, 8, 8, 8, 8, 8, 8, 8, 8, 8, 8, 8, 8, 8, 8, 8, 8, 8, 8, 8, 8, 8, 8, 8, 8, 8, 8, 8, 8, 8, 8, 8, 8, 8, 8, 8, 8, 8, 8, 8, 8, 8, 8, 8, 8, 8, 8, 8, 8, 8, 8, 8, 8, 8, 8, 8, 8, 8, 8, 8, 8, 8, 8, 8, 8, 8, 8, 8, 8, 8, 8, 8, 8, 8, 8, 8, 8, 8, 8, 8, 8, 8, 8, 8, 8, 8, 8, 8, 8, 8, 8, 8, 8, 8, 8, 8]))).data.getD (Int.toNat (IntKind.wrap .u8 (Int.fdiv (Int.fdiv (D.i d0) (2 ^ (min (Int.toNat (32 : Int)) 64))) (2 ^ (min (Int.toNat (16 : Int)) 64))))) 0).toNat : Int))))))]))))
 (cond (iLe (256 : Int) (Int.fdiv (D.i d0) (2 ^ (min (Int.toNat (32 : Int)) 64))))
 ((0 : Int) ≤ (8 : Int) ∧ ((0 ≤ (IntKind.wrap .u8 (Int.fdiv (Int.fdiv (D.i d0) (2 ^ (min (Int.toNat (32 : Int)) 64))) (2 ^ (min (Int.toNat (8 : Int)) 64)))) ∧ (IntKind.wrap .u8 (Int.fdiv (Int.fdiv (D.i d0) (2 ^ (min (Int.toNat (32 : Int)) 64))) (2 ^ (min (Int.toNat (8 : Int)) 64)))) < (((D.s (D.str (ByteArray.mk #[0, 1, 2, 2, 3, 3, 3, 3, 4, 4, 4, 4, 4, 4, 4, 4, 5, 5, 5, 5, 5, 5, 5, 5, 5, 5, 5, 5, 5, 5, 5, 5, 6, 6, 6, 6, 6, 6, 6, 6, 6, 6, 6, 6, 6, 6, 6, 6, 6, 6, 6, 6, 6, 6, 6, 6, 6, 6, 6, 6, 6, 6, 6, 6, 7, 7, 7, 7, 7, 7, 7, 7, 7, 7, 7, 7, 7, 7, 7, 7, 7, 7, 7, 7, 7, 7, 7, 7, 7, 7, 7, 7, 7, 7, 7, 7, 7, 7, 7, 7, 7, 7, 7, 7, 7, 7, 7, 7, 7, 7, 7, 7, 7, 7, 7, 7, 7, 7, 7, 7, 7, 7, 7, 7, 7, 7, 7, 7, 8, 8, 8, 8, 8, 8, 8, 8, 8, 8, 8, 8, 8, 8, 8, 8, 8, 8, 8, 8, 8, 8, 8, 8, 8, 8, 8, 8, 8, 8, 8, 8, 8, 8, 8, 8, 8, 8, 8, 8, 8, 8, 8, 8, 8, 8, 8, 8, 8, 8, 8, 8, 8, 8, 8, 8, 8, 8, 8, 8, 8, 8, 8, 8, 8, 8, 8, 8, 8, 8, 8, 8, 8, 8, 8, 8, 8, 8, 8, 8, 8, 8, 8, 8, 8, 8, 8, 8, 8, 8, 8, 8, 8, 8, 8, 8, 8, 8, 8, 8, 8, 8, 8, 8, 8, 8, 8, 8, 8, 8, 8, 8, 8, 8, 8, 8, 8, 8, 8, 8, 8, 8, 8, 8, 8, 8, 8, 8]))).size : Int))) ∧ (Q [(D.int (IntKind.wrap .i64 ((IntKind.wrap .i64 ((32 : Int) + (8 : Int))) + (IntKind.wrap .i64 ((((D.s (D.str (ByteArray.mk #[0, 1, 2, 2, 3, 3, 3, 3, 4, 4, 4, 4, 4, 4, 4, 4, 5, 5, 5, 5, 5, 5, 5, 5, 5, 5, 5, 5, 5, 5, 5, 5, 6, 6, 6, 6, 6, 6, 6, 6, 6, 6, 6, 6, 6, 6, 6, 6, 6, 6, 6, 6, 6, 6, 6, 6, 6, 6, 6, 6, 6, 6, 6, 6, 7, 7, 7, 7, 7, 7, 7, 7, 7, 7, 7, 7, 7, 7, 7, 7, 7, 7, 7, 7, 7, 7, 7, 7, 7, 7, 7, 7, 7, 7, 7, 7, 7, 7, 7, 7, 7, 7, 7, 7, 7, 7, 7, 7, 7, 7, 7, 7, 7, 7, 7, 7, 7, 7, 7, 7, 7, 7, 7, 7, 7, 7, 7, 7, 8, 8, 8, 8, 8, 8, 8, 8, 8, 8, 8, 8, 8, 8, 8, 8, 8, 8, 8, 8, 8, 8, 8, 8, 8, 8, 8, 8, 8, 8, 8, 8, 8, 8, 8, 8, 8, 8, 8, 8, 8, 8, 8, 8, 8, 8, 8, 8, 8, 8, 8, 8, 8, 8, 8, 8, 8, 8, 8, 8, 8, 8, 8, 8, 8, 8, 8, 8, 8, 8, 8, 8, 8, 8, 8, 8, 8, 8, 8, 8, 8, 8, 8, 8, 8, 8, 8, 8, 8, 8, 8, 8, 8, 8, 8, 8, 8, 8, 8, 8, 8, 8, 8, 8, 8, 8, 8, 8, 8, 8, 8, 8, 8, 8, 8, 8, 8, 8, 8, 8, 8, 8, 8, 8, 8, 8, 8, 8]))).data.getD (Int.toNat (IntKind.wrap .u8 (Int.fdiv (Int.fdiv (D.i d0) (2 ^ (min (Int.toNat (32 : Int)) 64))) (2 ^ (min (Int.toNat (8 : Int)) 64))))) 0).toNat : Int))))))])))
 ((0 ≤ (IntKind.wrap .u8 (Int.fdiv (D.i d0) (2 ^ (min (Int.toNat (32 : Int)) 64)))) ∧ (IntKind.wrap .u8 (Int.fdiv (D.i d0) (2 ^ (min (Int.toNat (32 : Int)) 64)))) < (((D.s (D.str (ByteArray.mk #[0, 1, 2, 2, 3, 3, 3, 3, 4, 4, 4, 4, 4, 4, 4, 4, 5, 5, 5, 5, 5, 5, 5, 5, 5, 5, 5, 5, 5, 5, 5, 5, 6, 6, 6, 6, 6, 6, 6, 6, 6, 6, 6, 6, 6, 6, 6, 6, 6, 6, 6, 6, 6, 6, 6, 6, 6, 6, 6, 6, 6, 6, 6, 6, 7, 7, 7, 7, 7, 7, 7, 7, 7, 7, 7, 7, 7, 7, 7, 7, 7, 7, 7, 7, 7, 7, 7, 7, 7, 7, 7, 7, 7, 7, 7, 7, 7, 7, 7, 7, 7, 7, 7, 7, 7, 7, 7, 7, 7, 7, 7, 7, 7, 7, 7, 7, 7, 7, 7, 7, 7, 7, 7, 7, 7, 7, 7, 7, 8, 8, 8, 8, 8, 8, 8, 8, 8, 8, 8, 8, 8, 8, 8, 8, 8, 8, 8, 8, 8, 8, 8, 8, 8, 8, 8, 8, 8, 8, 8, 8, 8, 8, 8, 8, 8, 8, 8, 8, 8, 8, 8, 8, 8, 8, 8, 8, 8, 8, 8, 8, 8, 8, 8, 8, 8, 8, 8, 8, 8, 8, 8, 8, 8, 8, 8, 8, 8, 8, 8, 8, 8, 8, 8, 8, 8, 8, 8, 8, 8, 8, 8, 8, 8, 8, 8, 8, 8, 8, 8, 8, 8, 8, 8, 8, 8, 8, 8, 8, 8, 8, 8, 8, 8, 8, 8, 8, 8, 8, 8, 8, 8, 8, 8, 8, 8, 8, 8, 8, 8, 8, 8, 8, 8, 8, 8, 8]))).size : Int))) ∧ (Q [(D.int (IntKind.wrap .i64 ((32 : Int) + (IntKind.wrap .i64 ((((D.s (D.str (ByteArray.mk #[0, 1, 2, 2, 3, 3, 3, 3, 4, 4, 4, 4, 4, 4, 4, 4, 5, 5, 5, 5, 5, 5, 5, 5, 5, 5, 5, 5, 5, 5, 5, 5, 6, 6, 6, 6, 6, 6, 6, 6, 6, 6, 6, 6, 6, 6, 6, 6, 6, 6, 6, 6, 6, 6, 6, 6, 6, 6, 6, 6, 6, 6, 6, 6, 7, 7, 7, 7, 7, 7, 7, 7, 7, 7, 7, 7, 7, 7, 7, 7, 7, 7, 7, 7, 7, 7, 7, 7, 7, 7, 7, 7, 7, 7, 7, 7, 7, 7, 7, 7, 7, 7, 7, 7, 7, 7, 7, 7, 7, 7, 7, 7, 7, 7, 7, 7, 7, 7, 7, 7, 7, 7, 7, 7, 7, 7, 7, 7, 8, 8, 8, 8, 8, 8, 8, 8, 8, 8, 8, 8, 8, 8, 8, 8, 8, 8, 8, 8, 8, 8, 8, 8, 8, 8, 8, 8, 8, 8, 8, 8, 8, 8, 8, 8, 8, 8, 8, 8, 8, 8, 8, 8, 8, 8, 8, 8, 8, 8, 8, 8, 8, 8, 8, 8, 8, 8, 8, 8, 8, 8, 8, 8, 8, 8, 8, 8, 8, 8, 8, 8, 8, 8, 8, 8, 8, 8, 8, 8, 8, 8, 8, 8, 8, 8, 8, 8, 8, 8, 8, 8, 8, 8, 8, 8, 8, 8, 8, 8, 8, 8, 8, 8, 8, 8, 8, 8, 8, 8, 8, 8, 8, 8, 8, 8, 8, 8, 8, 8, 8, 8, 8, 8, 8, 8, 8, 8]))).data.getD (Int.toNat (IntKind.wrap .u8 (Int.fdiv (D.i d0) (2 ^ (min (Int.toNat (32 : Int)) 64))))) 0).toNat : Int))))))])))))
 (cond (iLe (65536 : Int) (D.i d0))
 ((0 : Int) ≤ (16 : Int) ∧ (cond (iLe (256 : Int) (Int.fdiv (D.i d0) (2 ^ (min (Int.toNat (16 : Int)) 64))))
 ((0 : Int) ≤ (8 : Int) ∧ ((0 ≤ (IntKind.wrap .u8 (Int.fdiv (Int.fdiv (D.i d0) (2 ^ (min (Int.toNat (16 : Int)) 64))) (2 ^ (min (Int.toNat (8 : Int)) 64)))) ∧ (IntKind.wrap .u8 (Int.fdiv (Int.fdiv (D.i d0) (2 ^ (min (Int.toNat (16 : Int)) 64))) (2 ^ (min (Int.toNat (8 : Int)) 64)))) < (((D.s (D.str (ByteArray.mk #[0, 1, 2, 2, 3, 3, 3, 3, 4, 4, 4, 4, 4, 4, 4, 4, 5, 5, 5, 5, 5, 5, 5, 5, 5, 5, 5, 5, 5, 5, 5, 5, 6, 6, 6, 6, 6, 6, 6, 6, 6, 6, 6, 6, 6, 6, 6, 6, 6, 6, 6, 6, 6, 6, 6, 6, 6, 6, 6, 6, 6, 6, 6, 6, 7, 7, 7, 7, 7, 7, 7, 7, 7, 7, 7, 7, 7, 7, 7, 7, 7, 7, 7, 7, 7, 7, 7, 7, 7, 7, 7, 7, 7, 7, 7, 7, 7, 7, 7, 7, 7, 7, 7, 7, 7, 7, 7, 7, 7, 7, 7, 7, 7, 7, 7, 7, 7, 7, 7, 7, 7, 7, 7, 7, 7, 7, 7, 7, 8, 8, 8, 8, 8, 8, 8, 8, 8, 8, 8, 8, 8, 8, 8, 8, 8, 8, 8, 8, 8, 8, 8, 8, 8, 8, 8, 8, 8, 8, 8, 8, 8, 8, 8, 8, 8, 8, 8, 8, 8, 8, 8, 8, 8, 8, 8, 8, 8, 8, 8, 8, 8, 8, 8, 8, 8, 8, 8, 8, 8, 8, 8, 8, 8, 8, 8, 8, 8, 8, 8, 8, 8, 8, 8, 8, 8, 8, 8, 8, 8, 8, 8, 8, 8, 8, 8, 8, 8, 8, 8, 8, 8, 8, 8, 8, 8, 8, 8, 8, 8, 8, 8, 8, 8, 8, 8, 8, 8, 8, 8, 8, 8, 8, 8, 8, 8, 8, 8, 8, 8, 8, 8, 8, 8, 8, 8, 8]))).size : Int))) ∧ (Q [(D.int (IntKind.wrap .i64 ((IntKind.wrap .i64 ((IntKind.wrap .i64 ((0 : Int) + (16 : Int))) + (8 : Int))) + (IntKind.wrap .i64 ((((D.s (D.str (ByteArray.mk #[0, 1, 2, 2, 3, 3, 3, 3, 4, 4, 4, 4, 4, 4, 4, 4, 5, 5, 5, 5, 5, 5, 5, 5, 5, 5, 5, 5, 5, 5, 5, 5, 6, 6, 6, 6, 6, 6, 6, 6, 6, 6, 6, 6, 6, 6, 6, 6, 6, 6, 6, 6, 6, 6, 6, 6, 6, 6, 6, 6, 6, 6, 6, 6, 7, 7, 7, 7, 7, 7, 7, 7, 7, 7, 7, 7, 7, 7, 7, 7, 7, 7, 7, 7, 7, 7, 7, 7, 7, 7, 7, 7, 7, 7, 7, 7, 7, 7, 7, 7, 7, 7, 7, 7, 7, 7, 7, 7, 7, 7, 7, 7, 7, 7, 7, 7, 7, 7, 7, 7, 7, 7, 7, 7, 7, 7, 7, 7, 8, 8, 8, 8, 8, 8, 8, 8, 8, 8, 8, 8, 8, 8, 8, 8, 8, 8, 8, 8, 8, 8, 8, 8, 8, 8, 8, 8, 8, 8, 8, 8, 8, 8, 8, 8, 8, 8, 8, 8, 8, 8, 8, 8, 8, 8, 8, 8, 8, 8, 8, 8, 8, 8, 8, 8, 8, 8, 8, 8, 8, 8, 8, 8, 8, 8, 8, 8, 8, 8, 8, 8, 8, 8, 8, 8, 8, 8, 8, 8, 8, 8, 8, 8, 8, 8, 8, 8, 8, 8, 8, 8, 8, 8, 8, 8, 8, 8, 8, 8, 8, 8, 8, 8, 8, 8, 8, 8, 8, 8, 8, 8, 8, 8, 8, 8, 8, 8, 8, 8, 8, 8, 8, 8, 8, 8, 8, 8]))).data.getD (Int.toNat (IntKind.wrap .u8 (Int.fdiv (Int.fdiv (D.i d0) (2 ^ (min (Int.toNat (16 : Int)) 64))) (2 ^ (min (Int.toNat (8 : Int)) 64))))) 0).toNat : Int))))))])))
 ((0 ≤ (IntKind.wrap .u8 (Int.fdiv (D.i d0) (2 ^ (min (Int.toNat (16 : Int)) 64)))) ∧ (IntKind.wrap .u8 (Int.fdiv (D.i d0) (2 ^ (min (Int.toNat (16 : Int)) 64)))) < (((D.s (D.str (ByteArray.mk #[0, 1, 2, 2, 3, 3, 3, 3, 4, 4, 4, 4, 4, 4, 4, 4, 5, 5, 5, 5, 5, 5, 5, 5, 5, 5, 5, 5, 5, 5, 5, 5, 6, 6, 6, 6, 6, 6, 6, 6, 6, 6, 6, 6, 6, 6, 6, 6, 6, 6, 6, 6, 6, 6, 6, 6, 6, 6, 6, 6, 6, 6, 6, 6, 7, 7, 7, 7, 7, 7, 7, 7, 7, 7, 7, 7, 7, 7, 7, 7, 7, 7, 7, 7, 7, 7, 7, 7, 7, 7, 7, 7, 7, 7, 7, 7, 7, 7, 7, 7, 7, 7, 7, 7, 7, 7, 7, 7, 7, 7, 7, 7, 7, 7, 7, 7, 7, 7, 7, 7, 7, 7, 7, 7, 7, 7, 7, 7, 8, 8, 8, 8, 8, 8, 8, 8, 8, 8, 8, 8, 8, 8, 8, 8, 8, 8, 8, 8, 8, 8, 8, 8, 8, 8, 8, 8, 8, 8, 8, 8, 8, 8, 8, 8, 8, 8, 8, 8, 8, 8, 8, 8, 8, 8, 8, 8, 8, 8, 8, 8, 8, 8, 8, 8, 8, 8, 8, 8, 8, 8, 8, 8, 8, 8, 8, 8, 8, 8, 8, 8, 8, 8, 8, 8, 8, 8, 8, 8, 8, 8, 8, 8, 8, 8, 8, 8, 8, 8, 8, 8, 8, 8, 8, 8, 8, 8, 8, 8, 8, 8, 8, 8, 8, 8, 8, 8, 8, 8, 8, 8, 8, 8, 8, 8, 8, 8, 8, 8, 8, 8, 8, 8, 8, 8, 8, 8]))).size : Int))) ∧ (Q [(D.int (IntKind.wrap .i64 ((IntKind.wrap .i64 ((0 : Int) + (16 : Int))) + (IntKind.wrap .i64 ((((D.s (D.str (ByteArray.mk #[0, 1, 2, 2, 3, 3, 3, 3, 4, 4, 4, 4, 4, 4, 4, 4, 5, 5, 5, 5, 5, 5, 5, 5, 5, 5, 5, 5, 5, 5, 5, 5, 6, 6, 6, 6, 6, 6, 6, 6, 6, 6, 6, 6, 6, 6, 6, 6, 6, 6, 6, 6, 6, 6, 6, 6, 6, 6, 6, 6, 6, 6, 6, 6, 7, 7, 7, 7, 7, 7, 7, 7, 7, 7, 7, 7, 7, 7, 7, 7, 7, 7, 7, 7, 7, 7, 7, 7, 7, 7, 7, 7, 7, 7, 7, 7, 7, 7, 7, 7, 7, 7, 7, 7, 7, 7, 7, 7, 7, 7, 7, 7, 7, 7, 7, 7, 7, 7, 7, 7, 7, 7, 7, 7, 7, 7, 7, 7, 8, 8, 8, 8, 8, 8, 8, 8, 8, 8, 8, 8, 8, 8, 8, 8, 8, 8, 8, 8, 8, 8, 8, 8, 8, 8, 8, 8, 8, 8, 8, 8, 8, 8, 8, 8, 8, 8, 8, 8, 8, 8, 8, 8, 8, 8, 8, 8, 8, 8, 8, 8, 8, 8, 8, 8, 8, 8, 8, 8, 8, 8, 8, 8, 8, 8, 8, 8, 8, 8, 8, 8, 8, 8, 8, 8, 8, 8, 8, 8, 8, 8, 8, 8, 8, 8, 8, 8, 8, 8, 8, 8, 8, 8, 8, 8, 8, 8, 8, 8, 8, 8, 8, 8, 8, 8, 8, 8, 8, 8, 8, 8, 8, 8, 8, 8, 8, 8, 8, 8, 8, 8, 8, 8, 8, 8, 8, 8]))).data.getD (Int.toNat (IntKind.wrap .u8 (Int.fdiv (D.i d0) (2 ^ (min (Int.toNat (16 : Int)) 64))))) 0).toNat : Int))))))]))))
 (cond (iLe (256 : Int) (D.i d0))
 ((0 : Int) ≤ (8 : Int) ∧ ((0 ≤ (IntKind.wrap .u8 (Int.fdiv (D.i d0) (2 ^ (min (Int.toNat (8 : Int)) 64)))) ∧ (IntKind.wrap .u8 (Int.fdiv (D.i d0) (2 ^ (min (Int.toNat (8 : Int)) 64)))) < (((D.s (D.str (ByteArray.mk #[0, 1, 2, 2, 3, 3, 3, 3, 4, 4, 4, 4, 4, 4, 4, 4, 5, 5, 5, 5, 5, 5, 5, 5, 5, 5, 5, 5, 5, 5, 5, 5, 6, 6, 6, 6, 6, 6, 6, 6, 6, 6, 6, 6, 6, 6, 6, 6, 6, 6, 6, 6, 6, 6, 6, 6, 6, 6, 6, 6, 6, 6, 6, 6, 7, 7, 7, 7, 7, 7, 7, 7, 7, 7, 7, 7, 7, 7, 7, 7, 7, 7, 7, 7, 7, 7, 7, 7, 7, 7, 7, 7, 7, 7, 7, 7, 7, 7, 7, 7, 7, 7, 7, 7, 7, 7, 7, 7, 7, 7, 7, 7, 7, 7, 7, 7, 7, 7, 7, 7, 7, 7, 7, 7, 7, 7, 7, 7, 8, 8, 8, 8, 8, 8, 8, 8, 8, 8, 8, 8, 8, 8, 8, 8, 8, 8, 8, 8, 8, 8, 8, 8, 8, 8, 8, 8, 8, 8, 8, 8, 8, 8, 8, 8, 8, 8, 8, 8, 8, 8, 8, 8, 8, 8, 8, 8, 8, 8, 8, 8, 8, 8, 8, 8, 8, 8, 8, 8, 8, 8, 8, 8, 8, 8, 8, 8, 8, 8, 8, 8, 8, 8, 8, 8, 8, 8, 8, 8, 8, 8, 8, 8, 8, 8, 8, 8, 8, 8, 8, 8, 8, 8, 8, 8, 8, 8, 8, 8, 8, 8, 8, 8, 8, 8, 8, 8, 8, 8, 8, 8, 8, 8, 8, 8, 8, 8, 8, 8, 8, 8, 8, 8, 8, 8, 8, 8]))).size : Int))) ∧ (Q [(D.int (IntKind.wrap .i64 ((IntKind.wrap .i64 ((0 : Int) + (8 : Int))) + (IntKind.wrap .i64 ((((D.s (D.str (ByteArray.mk #[0, 1, 2, 2, 3, 3, 3, 3, 4, 4, 4, 4, 4, 4, 4, 4, 5, 5, 5, 5, 5, 5, 5, 5, 5, 5, 5, 5, 5, 5, 5, 5, 6, 6, 6, 6, 6, 6, 6, 6, 6, 6, 6, 6, 6, 6, 6, 6, 6, 6, 6, 6, 6, 6, 6, 6, 6, 6, 6, 6, 6, 6, 6, 6, 7, 7, 7, 7, 7, 7, 7, 7, 7, 7, 7, 7, 7, 7, 7, 7, 7, 7, 7, 7, 7, 7, 7, 7, 7, 7, 7, 7, 7, 7, 7, 7, 7, 7, 7, 7, 7, 7, 7, 7, 7, 7, 7, 7, 7, 7, 7, 7, 7, 7, 7, 7, 7, 7, 7, 7, 7, 7, 7, 7, 7, 7, 7, 7, 8, 8, 8, 8, 8, 8, 8, 8, 8, 8, 8, 8, 8, 8, 8, 8, 8, 8, 8, 8, 8, 8, 8, 8, 8, 8, 8, 8, 8, 8, 8, 8, 8, 8, 8, 8, 8, 8, 8, 8, 8, 8, 8, 8, 8, 8, 8, 8, 8, 8, 8, 8, 8, 8, 8, 8, 8, 8, 8, 8, 8, 8, 8, 8, 8, 8, 8, 8, 8, 8, 8, 8, 8, 8, 8, 8, 8, 8, 8, 8, 8, 8, 8, 8, 8, 8, 8, 8, 8, 8, 8, 8, 8, 8, 8, 8, 8, 8, 8, 8, 8, 8, 8, 8, 8, 8, 8, 8, 8, 8, 8, 8, 8, 8, 8, 8, 8, 8, 8, 8, 8, 8, 8, 8, 8, 8, 8, 8]))).data.getD (Int.toNat (IntKind.wrap .u8 (Int.fdiv (D.i d0) (2 ^ (min (Int.toNat (8 : Int)) 64))))) 0).toNat : Int))))))])))
 ((0 ≤ (IntKind.wrap .u8 (D.i d0)) ∧ (IntKind.wrap .u8 (D.i d0)) < (((D.s (D.str (ByteArray.mk #[0, 1, 2, 2, 3, 3, 3, 3, 4, 4, 4, 4, 4, 4, 4, 4, 5, 5, 5, 5, 5, 5, 5, 5, 5, 5, 5, 5, 5, 5, 5, 5, 6, 6, 6, 6, 6, 6, 6, 6, 6, 6, 6, 6, 6, 6, 6, 6, 6, 6, 6, 6, 6, 6, 6, 6, 6, 6, 6, 6, 6, 6, 6, 6, 7, 7, 7, 7, 7, 7, 7, 7, 7, 7, 7, 7, 7, 7, 7, 7, 7, 7, 7, 7, 7, 7, 7, 7, 7, 7, 7, 7, 7, 7, 7, 7, 7, 7, 7, 7, 7, 7, 7, 7, 7, 7, 7, 7, 7, 7, 7, 7, 7, 7, 7, 7, 7, 7, 7, 7, 7, 7, 7, 7, 7, 7, 7, 7, 8, 8, 8, 8, 8, 8, 8, 8, 8, 8, 8, 8, 8, 8, 8, 8, 8, 8, 8, 8, 8, 8, 8, 8, 8, 8, 8, 8, 8, 8, 8, 8, 8, 8, 8, 8, 8, 8, 8, 8, 8, 8, 8, 8, 8, 8, 8, 8, 8, 8, 8, 8, 8, 8, 8, 8, 8, 8, 8, 8, 8, 8, 8, 8, 8, 8, 8, 8, 8, 8, 8, 8, 8, 8, 8, 8, 8, 8, 8, 8, 8, 8, 8, 8, 8, 8, 8, 8, 8, 8, 8, 8, 8, 8, 8, 8, 8, 8, 8, 8, 8, 8, 8, 8, 8, 8, 8, 8, 8, 8, 8, 8, 8, 8, 8, 8, 8, 8, 8, 8, 8, 8, 8, 8, 8, 8, 8, 8]))).size : Int))) ∧ (Q [(D.int (IntKind.wrap .i64 ((0 : Int) + (IntKind.wrap .i64 ((((D.s (D.str (ByteArray.mk #[0, 1, 2, 2, 3, 3, 3, 3, 4, 4, 4, 4, 4, 4, 4, 4, 5, 5, 5, 5, 5, 5, 5, 5, 5, 5, 5, 5, 5, 5, 5, 5, 6, 6, 6, 6, 6, 6, 6, 6, 6, 6, 6, 6, 6, 6, 6, 6, 6, 6, 6, 6, 6, 6, 6, 6, 6, 6, 6, 6, 6, 6, 6, 6, 7, 7, 7, 7, 7, 7, 7, 7, 7, 7, 7, 7, 7, 7, 7, 7, 7, 7, 7, 7, 7, 7, 7, 7, 7, 7, 7, 7, 7, 7, 7, 7, 7, 7, 7, 7, 7, 7, 7, 7, 7, 7, 7, 7, 7, 7, 7, 7, 7, 7, 7, 7, 7, 7, 7, 7, 7, 7, 7, 7, 7, 7, 7, 7, 8, 8, 8, 8, 8, 8, 8, 8, 8, 8, 8, 8, 8, 8, 8, 8, 8, 8, 8, 8, 8, 8, 8, 8, 8, 8, 8, 8, 8, 8, 8, 8, 8, 8, 8, 8, 8, 8, 8, 8, 8, 8, 8, 8, 8, 8, 8, 8, 8, 8, 8, 8, 8, 8, 8, 8, 8, 8, 8, 8, 8, 8, 8, 8, 8, 8, 8, 8, 8, 8, 8, 8, 8, 8, 8, 8, 8, 8, 8, 8, 8, 8, 8, 8, 8, 8, 8, 8, 8, 8, 8, 8, 8, 8, 8, 8, 8, 8, 8, 8, 8, 8, 8, 8, 8, 8, 8, 8, 8, 8, 8, 8, 8, 8, 8, 8, 8, 8, 8, 8, 8, 8, 8, 8, 8, 8, 8, 8]))).data.getD (Int.toNat (IntKind.wrap .u8 (D.i d0))) 0).toNat : Int))))))]))))) := by kernel_rfl

/- math/bits.Len -/
theorem E88 (n : Nat) (d0 : D) (Q : List D → Prop) : wpF Try.prog A (n + 1) 88 [d0] Q =
 (wpF Try.prog A n 158 [d0] fun r1 =>
 (Q [(rs r1 0)])) := by kernel_rfl

/- cmp.isNaN[int] -/
theorem E197 (n : Nat) (d0 : D) (Q : List D → Prop) : wpF Try.prog A (n + 1) 197 [d0] Q =
 (Q [(D.bool (!(iEq (D.i d0) (D.i d0))))]) := by kernel_rfl

/- timebound/timeboundref22.Check -/
theorem E89 (n : Nat) (d0 : D) (Q : List D → Prop) : wpF Try.prog A (n + 1) 89 [d0] Q =
 (cond (iLt (D.i (D.fld d0 0)) (0 : Int))
 (Q [(D.int (3 : Int))])
 (cond (iLt (8 : Int) (D.i (D.fld d0 0)))
 (Q [(D.int (3 : Int))])
 (cond (iLt (D.i (D.fld d0 1)) (1 : Int))
 (Q [(D.int (3 : Int))])
 (cond (iLt (4 : Int) (D.i (D.fld d0 1)))
 (Q [(D.int (3 : Int))])
 (cond (iLt (D.i (D.fld d0 2)) (1 : Int))
 (Q [(D.int (3 : Int))])
 (cond (iLt (8 : Int) (D.i (D.fld d0 2)))
 (Q [(D.int (3 : Int))])
 (Q [(D.int (0 : Int))]))))))) := by kernel_rfl

/- timebound/timeboundref23.Scratch -/
def L50_2 (n m0 : Nat) (x0 : D) (x1 : D) (x5 : D) (Q : List D → Prop) : Prop :=
  loopK (wpC Try.prog A (hnd Try.prog A n) 50 n (cA (cA (cB (cA (cB (bodyOf Try.f50))))))) (nmK Try.prog (A.loop 50 2)) m0 { sl := [(0, .imm 48 x0), (1, .imm 3 x1), (5, .imm 3 x5)], ob := [] } (kBlock 0 (kSeq (wpC Try.prog A (hnd Try.prog A n) 50 n (cB (cB (bodyOf Try.f50)))) (kEnd Try.prog Try.f50 (A.sig 50) Q)))
theorem L50_2_eq (n m0 : Nat) (x0 : D) (x1 : D) (x5 : D) (Q : List D → Prop) : L50_2 n (m0 + 1) x0 x1 x5 Q =
 (cond (iLt (D.i x5) (D.len x0))
 ((0 ≤ (D.i x5) ∧ (D.i x5) < (D.len x0)) ∧ (cond (iLe (D.i (D.fld (D.el x0 (D.i x5)) 0)) (D.i x1))
 ((0 ≤ (D.i x5) ∧ (D.i x5) < (D.len x0)) ∧ (cond (iLt (D.i x1) (D.i (D.fld (D.el x0 (D.i x5)) 1)))
 (Q [(D.bool true)])
 (L50_2 n  m0 x0 x1 (D.int (IntKind.wrap .i64 ((D.i x5) + (1 : Int)))) Q)))
 (L50_2 n  m0 x0 x1 (D.int (IntKind.wrap .i64 ((D.i x5) + (1 : Int)))) Q)))
 (Q [(D.bool false)])) := by kernel_rfl
theorem E50 (n : Nat) (d0 d1 : D) (Q : List D → Prop) : wpF Try.prog A (n + 1) 50 [d0, d1] Q =
 (L50_2 n  n d0 d1 (D.int (0 : Int)) Q) := by kernel_rfl
attribute [irreducible] L50_2

/- timebound/timeboundmake2.Items -/
def L26_4 (n m0 : Nat) (x5 : D) (xo0 : D) (xo3 : D) (xo4 : D) (Q : List D → Prop) : Prop :=
  loopK (wpC Try.prog A (hnd Try.prog A n) 26 n (cA (cA (cB (cA (cB (cB (cB (bodyOf Try.f26))))))))) (nmK Try.prog (A.loop 26 4)) m0 { sl := [(0, .ptr 0 [] 102), (3, .val 3 [] 69), (4, .ptr 4 [] 111), (5, .imm 3 x5)], ob := [(0, some ⟨true, 102, .imm, xo0⟩), (3, some ⟨false, 69, (.slc .imm none), xo3⟩), (4, some ⟨true, 111, .imm, xo4⟩)] } (kBlock 0 (kSeq (wpC Try.prog A (hnd Try.prog A n) 26 n (cB (cB (cB (cB (bodyOf Try.f26)))))) (kEnd Try.prog Try.f26 (A.sig 26) Q)))
theorem L26_4_eq (n m0 : Nat) (x5 : D) (xo0 : D) (xo3 : D) (xo4 : D) (Q : List D → Prop) : L26_4 n (m0 + 1) x5 xo0 xo3 xo4 Q =
 (cond (iLt (0 : Int) (D.i x5))
 (wpF Try.prog A n 23 [xo0, (D.int (2 : Int))] fun r2 =>
 (wpF Try.prog A n 23 [(rs r2 1), (D.int (9 : Int))] fun r3 =>
 ((0 ≤ (D.i (rs r2 0)) ∧ (D.i (rs r2 0)) < (2 : Int)) ∧ (wpF Try.prog A n 23 [(rs r3 1), (D.int (4 : Int))] fun r4 =>
 ((0 ≤ (D.i (rs r2 0)) ∧ (D.i (rs r2 0)) < (2 : Int)) ∧ (True ∧ ((0 ≤ (D.i (rs r2 0)) ∧ (D.i (rs r2 0)) < (2 : Int)) ∧ ((0 ≤ (D.i (rs r2 0)) ∧ (D.i (rs r2 0)) < (2 : Int)) ∧ (wpF Try.prog A n 23 [(rs r4 1), (D.int (12 : Int))] fun r5 =>
 (room (((List.length (D.xs xo3) : Nat) : Int) + ((List.length [(D.agg [(D.bool (iEq (D.i (rs r2 0)) (0 : Int))), (D.agg [(List.getD (D.fs (D.agg (List.set (D.fs xo4) (Int.toNat (D.i (rs r2 0))) (D.int (IntKind.wrap .i64 ((D.i (List.getD (D.fs xo4) (Int.toNat (D.i (rs r2 0))) D.und)) + (D.i (rs r4 0)))))))) (Int.toNat (D.i (rs r2 0))) D.und), (D.int (IntKind.wrap .i64 ((D.i (List.getD (D.fs (D.agg (List.set (D.fs xo4) (Int.toNat (D.i (rs r2 0))) (D.int (IntKind.wrap .i64 ((D.i (List.getD (D.fs xo4) (Int.toNat (D.i (rs r2 0))) D.und)) + (D.i (rs r4 0)))))))) (Int.toNat (D.i (rs r2 0))) D.und)) + (IntKind.wrap .i64 ((1 : Int) + (D.i (rs r3 0)))))))]), (D.int (IntKind.wrap .i64 ((1 : Int) + (D.i (rs r3 0))))), (rs r5 0)])] : Nat) : Int)) 40 ∧ ((0 ≤ (D.i (rs r2 0)) ∧ (D.i (rs r2 0)) < (2 : Int)) ∧ ((0 ≤ (D.i (rs r2 0)) ∧ (D.i (rs r2 0)) < (2 : Int)) ∧ (True ∧ (L26_4 n  m0 (D.int (IntKind.wrap .i64 ((D.i x5) - (1 : Int)))) (rs r5 1) (D.slc ((D.xs xo3) ++ [(D.agg [(D.bool (iEq (D.i (rs r2 0)) (0 : Int))), (D.agg [(List.getD (D.fs (D.agg (List.set (D.fs xo4) (Int.toNat (D.i (rs r2 0))) (D.int (IntKind.wrap .i64 ((D.i (List.getD (D.fs xo4) (Int.toNat (D.i (rs r2 0))) D.und)) + (D.i (rs r4 0)))))))) (Int.toNat (D.i (rs r2 0))) D.und), (D.int (IntKind.wrap .i64 ((D.i (List.getD (D.fs (D.agg (List.set (D.fs xo4) (Int.toNat (D.i (rs r2 0))) (D.int (IntKind.wrap .i64 ((D.i (List.getD (D.fs xo4) (Int.toNat (D.i (rs r2 0))) D.und)) + (D.i (rs r4 0)))))))) (Int.toNat (D.i (rs r2 0))) D.und)) + (IntKind.wrap .i64 ((1 : Int) + (D.i (rs r3 0)))))))]), (D.int (IntKind.wrap .i64 ((1 : Int) + (D.i (rs r3 0))))), (rs r5 0)])])) (D.agg (List.set (D.fs (D.agg (List.set (D.fs xo4) (Int.toNat (D.i (rs r2 0))) (D.int (IntKind.wrap .i64 ((D.i (List.getD (D.fs xo4) (Int.toNat (D.i (rs r2 0))) D.und)) + (D.i (rs r4 0)))))))) (Int.toNat (D.i (rs r2 0))) (D.int (IntKind.wrap .i64 ((D.i (List.getD (D.fs (D.agg (List.set (D.fs xo4) (Int.toNat (D.i (rs r2 0))) (D.int (IntKind.wrap .i64 ((D.i (List.getD (D.fs xo4) (Int.toNat (D.i (rs r2 0))) D.und)) + (D.i (rs r4 0)))))))) (Int.toNat (D.i (rs r2 0))) D.und)) + (IntKind.wrap .i64 ((1 : Int) + (D.i (rs r3 0))))))))) Q))))))))))))))
 (Q [xo3, xo0])) := by kernel_rfl
theorem E26 (n : Nat) (d0 : D) (Q : List D → Prop) : wpF Try.prog A (n + 1) 26 [d0] Q =
 (True ∧ (wpF Try.prog A n 23 [d0, (D.int (11 : Int))] fun r1 =>
 (L26_4 n  n (rs r1 0) (rs r1 1) (D.slc ([] : List D)) (D.agg [(D.int (0 : Int)), (D.int (0 : Int))]) Q))) := by kernel_rfl
attribute [irreducible] L26_4

/- timebound/timing.between -/
theorem E93 (n : Nat) (d0 d1 d2 : D) (Q : List D → Prop) : wpF Try.prog A (n + 1) 93 [d0, d1, d2] Q =
 (cond (iLe (D.i d1) (D.i d0))
 (Q [(D.bool (iLe (D.i d0) (D.i d2)))])
 (Q [(D.bool false)])) := by kernel_rfl

/- timebound/timing.placed$1 -/
theorem E161 (n : Nat) (d0 d1 : D) (Q : List D → Prop) : wpF Try.prog A (n + 1) 161 [d0, d1] Q =
 (cond (iLt (D.i (D.fld d0 0)) (0 : Int))
 (Q [(D.bool true)])
 (cond (iLt (D.i (D.fld d0 1)) (D.i (D.fld d0 0)))
 (Q [(D.bool true)])
 (Q [(D.bool (iLt (D.i d1) (D.i (D.fld d0 1))))]))) := by kernel_rfl

/- timebound/timing.placed -/
theorem E94 (n : Nat) (d0 d1 : D) (Q : List D → Prop) : wpF Try.prog A (n + 1) 94 [d0, d1] Q =
 (cond (iLe (D.len d0) (16 : Int))
 (wpF Try.prog A n 90 [d0, (D.fn 161 [(D.ptr d1)])] fun r1 =>
 (Q [(D.bool (!(D.b (rs r1 0))))]))
 (Q [(D.bool false)])) := by kernel_rfl

/- timebound/timing.Check -/
def L53_8 (n m0 : Nat) (x32 : D) (x33 : D) (xo1 : D) (xo31 : D) (Q : List D → Prop) : Prop :=
  loopK (wpC Try.prog A (hnd Try.prog A n) 53 n (cA (cA (cB (cA (cB (cB (cB (bodyOf Try.f53))))))))) (nmK Try.prog (A.loop 53 8)) m0 { sl := [(1, .ptr 1 [] 50), (31, .val 31 [] 29), (32, .imm 3 x32), (33, .imm 3 x33)], ob := [(1, some ⟨true, 50, .imm, xo1⟩), (31, some ⟨false, 29, (.slc .imm none), xo31⟩)] } (kBlock 0 (kSeq (wpC Try.prog A (hnd Try.prog A n) 53 n (cB (cB (cB (cB (bodyOf Try.f53)))))) (kEnd Try.prog Try.f53 (A.sig 53) Q)))
theorem L53_8_eq (n m0 : Nat) (x32 : D) (x33 : D) (xo1 : D) (xo31 : D) (Q : List D → Prop) : L53_8 n (m0 + 1) x32 x33 xo1 xo31 Q =
 (cond (iLt (D.i x33) (D.i x32))
 ((0 ≤ (D.i x33) ∧ (D.i x33) < (D.len xo31)) ∧ (wpF Try.prog A n 93 [(List.getD (D.xs xo31) (Int.toNat (D.i x33)) D.und), (D.int (0 : Int)), (D.int (100 : Int))] fun r3 =>
 (cond (!(D.b (rs r3 0)))
 (Q [(D.int (3 : Int))])
 (L53_8 n  m0 x32 (D.int (IntKind.wrap .i64 ((D.i x33) + (1 : Int)))) xo1 xo31 Q))))
 (wpF Try.prog A n 93 [(D.fld xo1 3), (D.int (0 : Int)), (D.int (8 : Int))] fun r4 =>
 (cond (!(D.b (rs r4 0)))
 (Q [(D.int (3 : Int))])
 (wpF Try.prog A n 93 [(D.fld xo1 4), (D.int (1 : Int)), (D.int (16 : Int))] fun r5 =>
 (cond (!(D.b (rs r5 0)))
 (Q [(D.int (3 : Int))])
 (wpF Try.prog A n 93 [(D.fld xo1 6), (D.int (0 : Int)), (D.int (16 : Int))] fun r6 =>
 (cond (!(D.b (rs r6 0)))
 (Q [(D.int (3 : Int))])
 (wpF Try.prog A n 94 [(D.fld xo1 11), (D.int (1024 : Int))] fun r7 =>
 (cond (!(D.b (rs r7 0)))
 (Q [(D.int (3 : Int))])
 (wpF Try.prog A n 94 [(D.fld xo1 12), (D.int (1024 : Int))] fun r8 =>
 (cond (!(D.b (rs r8 0)))
 (Q [(D.int (3 : Int))])
 (Q [(D.int (0 : Int))])))))))))))) := by kernel_rfl
theorem E53 (n : Nat) (d0 : D) (Q : List D → Prop) : wpF Try.prog A (n + 1) 53 [d0] Q =
 (wpF Try.prog A n 86 [(D.fld d0 0)] fun r1 =>
 (cond (!(iEq (D.i (rs r1 0)) (0 : Int)))
 (Q [(rs r1 0)])
 (wpF Try.prog A n 86 [(D.fld d0 1)] fun r2 =>
 (cond (!(iEq (D.i (rs r2 0)) (0 : Int)))
 (Q [(rs r2 0)])
 (L53_8 n  n (D.int (D.len (D.slc [(D.fld d0 2), (D.fld d0 5), (D.fld d0 7), (D.fld d0 8), (D.fld d0 9), (D.fld d0 10)]))) (D.int (0 : Int)) d0 (D.slc [(D.fld d0 2), (D.fld d0 5), (D.fld d0 7), (D.fld d0 8), (D.fld d0 9), (D.fld d0 10)]) Q))))) := by kernel_rfl
attribute [irreducible] L53_8

/- timebound/scratch.good -/
theorem E95 (n : Nat) (d0 : D) (Q : List D → Prop) : wpF Try.prog A (n + 1) 95 [d0] Q =
 (cond (D.b (D.fld d0 0))
 (cond (iLe (0 : Int) (D.i (D.fld (D.fld d0 1) 0)))
 (cond (iLt (D.i (D.fld (D.fld d0 1) 0)) (D.i (D.fld (D.fld d0 1) 1)))
 (cond (iLe (D.i (D.fld (D.fld d0 1) 1)) (1024 : Int))
 (cond (iEq (D.i (D.fld d0 2)) (IntKind.wrap .i64 ((D.i (D.fld (D.fld d0 1) 1)) - (D.i (D.fld (D.fld d0 1) 0)))))
 (cond (iLe (0 : Int) (D.i (D.fld d0 3)))
 (Q [(D.bool (iLe (D.i (D.fld d0 3)) (1099511627776 : Int)))])
 (Q [(D.bool false)]))
 (Q [(D.bool false)]))
 (Q [(D.bool false)]))
 (Q [(D.bool false)]))
 (Q [(D.bool false)]))
 (cond (iLe (0 : Int) (D.i (D.fld (D.fld d0 1) 0)))
 (cond (iLt (D.i (D.fld (D.fld d0 1) 0)) (D.i (D.fld (D.fld d0 1) 1)))
 (cond (iLe (D.i (D.fld (D.fld d0 1) 1)) (1024 : Int))
 (cond (iEq (D.i (D.fld d0 2)) (IntKind.wrap .i64 ((D.i (D.fld (D.fld d0 1) 1)) - (D.i (D.fld (D.fld d0 1) 0)))))
 (cond (iLe (0 : Int) (D.i (D.fld d0 3)))
 (Q [(D.bool (iLe (D.i (D.fld d0 3)) (1099511627776 : Int)))])
 (Q [(D.bool false)]))
 (Q [(D.bool false)]))
 (Q [(D.bool false)]))
 (Q [(D.bool false)]))
 (Q [(D.bool false)]))) := by kernel_rfl

/- slices.IndexFunc[[]timebound/api.Item,timebound/api.Item] -/
def L162_2 (n m0 : Nat) (x0 : D) (x1 : D) (x7 : D) (x8 : D) (Q : List D → Prop) : Prop :=
  loopK (wpC Try.prog A (hnd Try.prog A n) 162 n (cA (cA (cB (cA (cB (bodyOf Try.f162))))))) (nmK Try.prog (A.loop 162 2)) m0 { sl := [(0, .imm 69 x0), (1, .imm 167 x1), (7, .imm 3 x7), (8, .imm 3 x8)], ob := [] } (kBlock 0 (kSeq (wpC Try.prog A (hnd Try.prog A n) 162 n (cB (cB (bodyOf Try.f162)))) (kEnd Try.prog Try.f162 (A.sig 162) Q)))
theorem L162_2_eq (n m0 : Nat) (x0 : D) (x1 : D) (x7 : D) (x8 : D) (Q : List D → Prop) : L162_2 n (m0 + 1) x0 x1 x7 x8 Q =
 (cond (iLt (D.i x8) (D.i x7))
 ((0 ≤ (D.i x8) ∧ (D.i x8) < (D.len x0)) ∧ (dynH A (wpF Try.prog A n) x1 [.imm 113] [.val 4 .imm] [(D.el x0 (D.i x8))] fun r1 =>
 (cond (D.b (rs r1 0))
 (Q [x8])
 (L162_2 n  m0 x0 x1 x7 (D.int (IntKind.wrap .i64 ((D.i x8) + (1 : Int)))) Q))))
 (Q [(D.int (-1 : Int))])) := by kernel_rfl
theorem E162 (n : Nat) (d0 d1 : D) (Q : List D → Prop) : wpF Try.prog A (n + 1) 162 [d0, d1] Q =
 (L162_2 n  n d0 d1 (D.int (D.len d0)) (D.int (0 : Int)) Q) := by kernel_rfl
attribute [irreducible] L162_2

/- slices.ContainsFunc[[]timebound/api.Item,timebound/api.Item] -/
theorem E96 (n : Nat) (d0 d1 : D) (Q : List D → Prop) : wpF Try.prog A (n + 1) 96 [d0, d1] Q =
 (wpF Try.prog A n 162 [d0, d1] fun r1 =>
 (Q [(D.bool (iLe (0 : Int) (D.i (rs r1 0))))])) := by kernel_rfl

/- timebound/scratch.Valid$1 -/
theorem E97 (n : Nat) (d0 d1 : D) (Q : List D → Prop) : wpF Try.prog A (n + 1) 97 [d0, d1] Q =
 (cond (bEq (D.b (D.fld d1 0)) (D.b (D.fld d0 0)))
 (cond (iLt (D.i (D.fld (D.fld d1 1) 0)) (D.i (D.fld (D.fld d0 1) 1)))
 (Q [(D.bool (iLt (D.i (D.fld (D.fld d0 1) 0)) (D.i (D.fld (D.fld d1 1) 1))))])
 (Q [(D.bool false)]))
 (Q [(D.bool false)])) := by kernel_rfl

/- timebound/scratch.Valid -/
def L54_2 (n m0 : Nat) (x0 : D) (x5 : D) (x6 : D) (x7 : D) (Q : List D → Prop) : Prop :=
  loopK (wpC Try.prog A (hnd Try.prog A n) 54 n (cA (cA (cB (cA (cB (bodyOf Try.f54))))))) (nmK Try.prog (A.loop 54 2)) m0 { sl := [(0, .imm 69 x0), (5, .imm 69 x5), (6, .imm 3 x6), (7, .imm 3 x7)], ob := [] } (kBlock 0 (kSeq (wpC Try.prog A (hnd Try.prog A n) 54 n (cB (cB (bodyOf Try.f54)))) (kEnd Try.prog Try.f54 (A.sig 54) Q)))
theorem L54_2_eq (n m0 : Nat) (x0 : D) (x5 : D) (x6 : D) (x7 : D) (Q : List D → Prop) : L54_2 n (m0 + 1) x0 x5 x6 x7 Q =
 (cond (iLt (D.i x7) (D.i x6))
 ((0 ≤ (D.i x7) ∧ (D.i x7) < (D.len x5)) ∧ (True ∧ (wpF Try.prog A n 95 [(D.el x5 (D.i x7))] fun r1 =>
 (cond (!(D.b (rs r1 0)))
 (Q [(D.bool false)])
 ((0 ≤ (0 : Int) ∧ (0 : Int) ≤ (D.i x7) ∧ (D.i x7) ≤ (D.len x0)) ∧ (wpF Try.prog A n 96 [(D.slc (List.drop (Int.toNat (0 : Int)) (List.take (Int.toNat (D.i x7)) (D.xs x0)))), (D.fn 97 [(D.ptr (D.el x5 (D.i x7)))])] fun r2 =>
 (cond (D.b (rs r2 0))
 (Q [(D.bool false)])
 (L54_2 n  m0 x0 x5 x6 (D.int (IntKind.wrap .i64 ((D.i x7) + (1 : Int)))) Q))))))))
 (Q [(D.bool (iLe (D.len x0) (10 : Int)))])) := by kernel_rfl
theorem E54 (n : Nat) (d0 : D) (Q : List D → Prop) : wpF Try.prog A (n + 1) 54 [d0] Q =
 (L54_2 n  n d0 d0 (D.int (D.len d0)) (D.int (0 : Int)) Q) := by kernel_rfl
attribute [irreducible] L54_2

/- timebound/scratch.choice -/
def L55_2 (n m0 : Nat) (x0 : D) (x1 : D) (x7 : D) (x8 : D) (x9 : D) (Q : List D → Prop) : Prop :=
  loopK (wpC Try.prog A (hnd Try.prog A n) 55 n (cA (cA (cB (cA (cB (bodyOf Try.f55))))))) (nmK Try.prog (A.loop 55 2)) m0 { sl := [(0, .imm 3 x0), (1, .imm 29 x1), (7, .imm 29 x7), (8, .imm 3 x8), (9, .imm 3 x9)], ob := [] } (kBlock 0 (kSeq (wpC Try.prog A (hnd Try.prog A n) 55 n (cB (cB (bodyOf Try.f55)))) (kEnd Try.prog Try.f55 (A.sig 55) Q)))
theorem L55_2_eq (n m0 : Nat) (x0 : D) (x1 : D) (x7 : D) (x8 : D) (x9 : D) (Q : List D → Prop) : L55_2 n (m0 + 1) x0 x1 x7 x8 x9 Q =
 (cond (iLt (D.i x9) (D.i x8))
 ((0 ≤ (D.i x9) ∧ (D.i x9) < (D.len x7)) ∧ (cond (iLt (D.i (D.el x7 (D.i x9))) (0 : Int))
 (Q [(D.bool false)])
 (cond (iLe (D.i x0) (D.i (D.el x7 (D.i x9))))
 (Q [(D.bool false)])
 (cond (iLt (0 : Int) (D.i x9))
 ((0 ≤ (IntKind.wrap .i64 ((D.i x9) - (1 : Int))) ∧ (IntKind.wrap .i64 ((D.i x9) - (1 : Int))) < (D.len x1)) ∧ (cond (iLe (D.i (D.el x7 (D.i x9))) (D.i (D.el x1 (IntKind.wrap .i64 ((D.i x9) - (1 : Int))))))
 (Q [(D.bool false)])
 (L55_2 n  m0 x0 x1 x7 x8 (D.int (IntKind.wrap .i64 ((D.i x9) + (1 : Int)))) Q)))
 (L55_2 n  m0 x0 x1 x7 x8 (D.int (IntKind.wrap .i64 ((D.i x9) + (1 : Int)))) Q)))))
 (Q [(D.bool true)])) := by kernel_rfl
theorem E55 (n : Nat) (d0 d1 : D) (Q : List D → Prop) : wpF Try.prog A (n + 1) 55 [d0, d1] Q =
 (L55_2 n  n d0 d1 d1 (D.int (D.len d1)) (D.int (0 : Int)) Q) := by kernel_rfl
attribute [irreducible] L55_2

/- slices.Clone[[]timebound/api.Span,timebound/api.Span] -/
theorem E56 (n : Nat) (d0 : D) (Q : List D → Prop) : wpF Try.prog A (n + 1) 56 [d0] Q =
 (∀ b1 : Bool, (b1 = true → (D.len d0) = 0) → (cond b1
 (Q [(D.slc ([] : List D))])
 (room (((List.length ([] : List D) : Nat) : Int) + ((List.length (D.xs d0) : Nat) : Int)) 16 ∧ (Q [(D.slc (([] : List D) ++ (D.xs d0)))])))) := by kernel_rfl

/- timebound/scratch.Place -/
def L27_7 (n m0 : Nat) (x1 : D) (x33 : D) (x34 : D) (x35 : D) (xo3 : D) (xo6 : D) (Q : List D → Prop) : Prop :=
  loopK (wpC Try.prog A (hnd Try.prog A n) 27 n (cA (cA (cB (cA (cB (cB (cB (cB (bodyOf Try.f27)))))))))) (nmK Try.prog (A.loop 27 7)) m0 { sl := [(1, .imm 69 x1), (3, .ptr 3 [] 50), (6, .ptr 6 [] 50), (33, .imm 29 x33), (34, .imm 3 x34), (35, .imm 3 x35)], ob := [(3, some ⟨true, 50, (.agg [(11, (.slc .imm none)), (12, (.slc .imm none))]), xo3⟩), (6, some ⟨true, 50, (.agg [(11, (.slc .imm none)), (12, (.slc .imm none))]), xo6⟩)] } (kBlock 0 (kSeq (wpC Try.prog A (hnd Try.prog A n) 27 n (cB (cB (cB (cB (cB (bodyOf Try.f27))))))) (kEnd Try.prog Try.f27 (A.sig 27) Q)))
theorem L27_7_eq (n m0 : Nat) (x1 : D) (x33 : D) (x34 : D) (x35 : D) (xo3 : D) (xo6 : D) (Q : List D → Prop) : L27_7 n (m0 + 1) x1 x33 x34 x35 xo3 xo6 Q =
 (cond (iLt (D.i x35) (D.i x34))
 ((0 ≤ (D.i x35) ∧ (D.i x35) < (D.len x33)) ∧ ((0 ≤ (D.i (D.el x33 (D.i x35))) ∧ (D.i (D.el x33 (D.i x35))) < (D.len x1)) ∧ (cond (D.b (D.fld (D.el x1 (D.i (D.el x33 (D.i x35)))) 0))
 ((0 ≤ (D.i (D.el x33 (D.i x35))) ∧ (D.i (D.el x33 (D.i x35))) < (D.len x1)) ∧ (room (((List.length (D.xs (D.fld xo3 11)) : Nat) : Int) + ((List.length [(D.fld (D.el x1 (D.i (D.el x33 (D.i x35)))) 1)] : Nat) : Int)) 16 ∧ (True ∧ (L27_7 n  m0 x1 x33 x34 (D.int (IntKind.wrap .i64 ((D.i x35) + (1 : Int)))) (D.agg [(D.fld xo3 0), (D.fld xo3 1), (D.fld xo3 2), (D.fld xo3 3), (D.fld xo3 4), (D.fld xo3 5), (D.fld xo3 6), (D.fld xo3 7), (D.fld xo3 8), (D.fld xo3 9), (D.fld xo3 10), (D.slc ((D.xs (D.fld xo3 11)) ++ [(D.fld (D.el x1 (D.i (D.el x33 (D.i x35)))) 1)])), (D.fld xo3 12)]) xo6 Q))))
 ((0 ≤ (D.i (D.el x33 (D.i x35))) ∧ (D.i (D.el x33 (D.i x35))) < (D.len x1)) ∧ (room (((List.length (D.xs (D.fld xo3 12)) : Nat) : Int) + ((List.length [(D.fld (D.el x1 (D.i (D.el x33 (D.i x35)))) 1)] : Nat) : Int)) 16 ∧ (True ∧ (L27_7 n  m0 x1 x33 x34 (D.int (IntKind.wrap .i64 ((D.i x35) + (1 : Int)))) (D.agg [(D.fld xo3 0), (D.fld xo3 1), (D.fld xo3 2), (D.fld xo3 3), (D.fld xo3 4), (D.fld xo3 5), (D.fld xo3 6), (D.fld xo3 7), (D.fld xo3 8), (D.fld xo3 9), (D.fld xo3 10), (D.fld xo3 11), (D.slc ((D.xs (D.fld xo3 12)) ++ [(D.fld (D.el x1 (D.i (D.el x33 (D.i x35)))) 1)]))]) xo6 Q)))))))
 (wpF Try.prog A n 53 [xo3] fun r6 =>
 (cond (!(iEq (D.i (rs r6 0)) (0 : Int)))
 (True ∧ (Q [(D.agg [(D.agg [(D.int (0 : Int)), (D.int (0 : Int)), (D.int (0 : Int))]), (D.agg [(D.int (0 : Int)), (D.int (0 : Int)), (D.int (0 : Int))]), (D.int (0 : Int)), (D.int (0 : Int)), (D.int (0 : Int)), (D.int (0 : Int)), (D.int (0 : Int)), (D.int (0 : Int)), (D.int (0 : Int)), (D.int (0 : Int)), (D.int (0 : Int)), (D.slc ([] : List D)), (D.slc ([] : List D))]), (D.int (4 : Int))]))
 (True ∧ (Q [xo3, (D.int (0 : Int))]))))) := by kernel_rfl
theorem E27 (n : Nat) (d0 d1 d2 : D) (Q : List D → Prop) : wpF Try.prog A (n + 1) 27 [d0, d1, d2] Q =
 (wpF Try.prog A n 53 [d0] fun r1 =>
 (cond (!(iEq (D.i (rs r1 0)) (0 : Int)))
 (True ∧ (Q [(D.agg [(D.agg [(D.int (0 : Int)), (D.int (0 : Int)), (D.int (0 : Int))]), (D.agg [(D.int (0 : Int)), (D.int (0 : Int)), (D.int (0 : Int))]), (D.int (0 : Int)), (D.int (0 : Int)), (D.int (0 : Int)), (D.int (0 : Int)), (D.int (0 : Int)), (D.int (0 : Int)), (D.int (0 : Int)), (D.int (0 : Int)), (D.int (0 : Int)), (D.slc ([] : List D)), (D.slc ([] : List D))]), (D.int (32 : Int))]))
 (wpF Try.prog A n 54 [d1] fun r2 =>
 (cond (!(D.b (rs r2 0)))
 (True ∧ (Q [(D.agg [(D.agg [(D.int (0 : Int)), (D.int (0 : Int)), (D.int (0 : Int))]), (D.agg [(D.int (0 : Int)), (D.int (0 : Int)), (D.int (0 : Int))]), (D.int (0 : Int)), (D.int (0 : Int)), (D.int (0 : Int)), (D.int (0 : Int)), (D.int (0 : Int)), (D.int (0 : Int)), (D.int (0 : Int)), (D.int (0 : Int)), (D.int (0 : Int)), (D.slc ([] : List D)), (D.slc ([] : List D))]), (D.int (43 : Int))]))
 (wpF Try.prog A n 55 [(D.int (D.len d1)), d2] fun r3 =>
 (cond (!(D.b (rs r3 0)))
 (True ∧ (Q [(D.agg [(D.agg [(D.int (0 : Int)), (D.int (0 : Int)), (D.int (0 : Int))]), (D.agg [(D.int (0 : Int)), (D.int (0 : Int)), (D.int (0 : Int))]), (D.int (0 : Int)), (D.int (0 : Int)), (D.int (0 : Int)), (D.int (0 : Int)), (D.int (0 : Int)), (D.int (0 : Int)), (D.int (0 : Int)), (D.int (0 : Int)), (D.int (0 : Int)), (D.slc ([] : List D)), (D.slc ([] : List D))]), (D.int (43 : Int))]))
 (wpF Try.prog A n 56 [(D.fld d0 11)] fun r4 =>
 (wpF Try.prog A n 56 [(D.fld d0 12)] fun r5 =>
 (True ∧ (True ∧ (L27_7 n  n d1 d2 (D.int (D.len d2)) (D.int (0 : Int)) (D.agg [(D.fld d0 0), (D.fld d0 1), (D.fld d0 2), (D.fld d0 3), (D.fld d0 4), (D.fld d0 5), (D.fld d0 6), (D.fld d0 7), (D.fld d0 8), (D.fld d0 9), (D.fld d0 10), (rs r4 0), (rs r5 0)]) (D.agg [(D.agg [(D.int (0 : Int)), (D.int (0 : Int)), (D.int (0 : Int))]), (D.agg [(D.int (0 : Int)), (D.int (0 : Int)), (D.int (0 : Int))]), (D.int (0 : Int)), (D.int (0 : Int)), (D.int (0 : Int)), (D.int (0 : Int)), (D.int (0 : Int)), (D.int (0 : Int)), (D.int (0 : Int)), (D.int (0 : Int)), (D.int (0 : Int)), (D.slc ([] : List D)), (D.slc ([] : List D))]) Q))))))))))) := by kernel_rfl
attribute [irreducible] L27_7

/- timebound/timeboundref23.cost -/
theorem E98 (n : Nat) (d0 : D) (Q : List D → Prop) : wpF Try.prog A (n + 1) 98 [d0] Q =
 (cond (iLe (0 : Int) (D.i d0))
 (Q [(D.bool (iLe (D.i d0) (100 : Int)))])
 (Q [(D.bool false)])) := by kernel_rfl

/- timebound/timeboundref23.spans -/
def L99_4 (n m0 : Nat) (x0 : D) (x1 : D) (x5 : D) (Q : List D → Prop) : Prop :=
  loopK (wpC Try.prog A (hnd Try.prog A n) 99 n (cA (cA (cB (cA (cB (cB (bodyOf Try.f99)))))))) (nmK Try.prog (A.loop 99 4)) m0 { sl := [(0, .imm 48 x0), (1, .imm 3 x1), (5, .imm 3 x5)], ob := [] } (kBlock 0 (kSeq (wpC Try.prog A (hnd Try.prog A n) 99 n (cB (cB (cB (bodyOf Try.f99))))) (kEnd Try.prog Try.f99 (A.sig 99) Q)))
theorem L99_4_eq (n m0 : Nat) (x0 : D) (x1 : D) (x5 : D) (Q : List D → Prop) : L99_4 n (m0 + 1) x0 x1 x5 Q =
 (cond (iLt (D.i x5) (D.len x0))
 ((0 ≤ (D.i x5) ∧ (D.i x5) < (D.len x0)) ∧ (cond (iLt (D.i (D.fld (D.el x0 (D.i x5)) 0)) (0 : Int))
 (Q [(D.bool false)])
 ((0 ≤ (D.i x5) ∧ (D.i x5) < (D.len x0)) ∧ ((0 ≤ (D.i x5) ∧ (D.i x5) < (D.len x0)) ∧ (cond (iLt (D.i (D.fld (D.el x0 (D.i x5)) 1)) (D.i (D.fld (D.el x0 (D.i x5)) 0)))
 (Q [(D.bool false)])
 ((0 ≤ (D.i x5) ∧ (D.i x5) < (D.len x0)) ∧ (cond (iLt (D.i x1) (D.i (D.fld (D.el x0 (D.i x5)) 1)))
 (Q [(D.bool false)])
 (L99_4 n  m0 x0 x1 (D.int (IntKind.wrap .i64 ((D.i x5) + (1 : Int)))) Q))))))))
 (Q [(D.bool true)])) := by kernel_rfl
theorem E99 (n : Nat) (d0 d1 : D) (Q : List D → Prop) : wpF Try.prog A (n + 1) 99 [d0, d1] Q =
 (cond (iLt (16 : Int) (D.len d0))
 (Q [(D.bool false)])
 (L99_4 n  n d0 d1 (D.int (0 : Int)) Q)) := by kernel_rfl
attribute [irreducible] L99_4

/- timebound/timeboundref23.Check -/
theorem E57 (n : Nat) (d0 : D) (Q : List D → Prop) : wpF Try.prog A (n + 1) 57 [d0] Q =
 (wpF Try.prog A n 89 [(D.fld d0 0)] fun r1 =>
 (cond (!(iEq (D.i (rs r1 0)) (0 : Int)))
 (Q [(rs r1 0)])
 (wpF Try.prog A n 89 [(D.fld d0 1)] fun r2 =>
 (cond (!(iEq (D.i (rs r2 0)) (0 : Int)))
 (Q [(rs r2 0)])
 (wpF Try.prog A n 98 [(D.fld d0 2)] fun r3 =>
 (cond (!(D.b (rs r3 0)))
 (Q [(D.int (3 : Int))])
 (wpF Try.prog A n 98 [(D.fld d0 5)] fun r4 =>
 (cond (!(D.b (rs r4 0)))
 (Q [(D.int (3 : Int))])
 (wpF Try.prog A n 98 [(D.fld d0 7)] fun r5 =>
 (cond (!(D.b (rs r5 0)))
 (Q [(D.int (3 : Int))])
 (wpF Try.prog A n 98 [(D.fld d0 8)] fun r6 =>
 (cond (!(D.b (rs r6 0)))
 (Q [(D.int (3 : Int))])
 (wpF Try.prog A n 98 [(D.fld d0 9)] fun r7 =>
 (cond (!(D.b (rs r7 0)))
 (Q [(D.int (3 : Int))])
 (wpF Try.prog A n 98 [(D.fld d0 10)] fun r8 =>
 (cond (!(D.b (rs r8 0)))
 (Q [(D.int (3 : Int))])
 (cond (iLt (D.i (D.fld d0 3)) (0 : Int))
 (Q [(D.int (3 : Int))])
 (cond (iLt (8 : Int) (D.i (D.fld d0 3)))
 (Q [(D.int (3 : Int))])
 (cond (iLt (D.i (D.fld d0 4)) (1 : Int))
 (Q [(D.int (3 : Int))])
 (cond (iLt (16 : Int) (D.i (D.fld d0 4)))
 (Q [(D.int (3 : Int))])
 (cond (iLt (D.i (D.fld d0 6)) (0 : Int))
 (Q [(D.int (3 : Int))])
 (cond (iLt (16 : Int) (D.i (D.fld d0 6)))
 (Q [(D.int (3 : Int))])
 (wpF Try.prog A n 99 [(D.fld d0 11), (D.int (1024 : Int))] fun r9 =>
 (cond (!(D.b (rs r9 0)))
 (Q [(D.int (3 : Int))])
 (wpF Try.prog A n 99 [(D.fld d0 12), (D.int (1024 : Int))] fun r10 =>
 (cond (!(D.b (rs r10 0)))
 (Q [(D.int (3 : Int))])
 (Q [(D.int (0 : Int))]))))))))))))))))))))))))))) := by kernel_rfl

/- timebound/timeboundref36.Valid -/
def L100_2 (n m0 : Nat) (x0 : D) (x8 : D) (x9 : D) (x10 : D) (Q : List D → Prop) : Prop :=
  loopK (wpC Try.prog A (hnd Try.prog A n) 100 n (cA (cA (cB (cA (cB (bodyOf Try.f100))))))) (nmK Try.prog (A.loop 100 2)) m0 { sl := [(0, .imm 69 x0), (8, .imm 69 x8), (9, .imm 3 x9), (10, .imm 3 x10)], ob := [] } (kBlock 0 (kSeq (wpC Try.prog A (hnd Try.prog A n) 100 n (cB (cB (bodyOf Try.f100)))) (kEnd Try.prog Try.f100 (A.sig 100) Q)))
def L100_10 (n m0 m1 : Nat) (x0 : D) (x8 : D) (x9 : D) (x10 : D) (x61 : D) (x62 : D) (x63 : D) (xo4 : D) (Q : List D → Prop) : Prop :=
  loopK (wpC Try.prog A (hnd Try.prog A n) 100 n (cA (cA (cB (cB (cB (cB (cB (cA (cA (cB (cB (cA (cA (cB (cA (cB (bodyOf Try.f100)))))))))))))))))) (nmK Try.prog (A.loop 100 10)) m1 { sl := [(0, .imm 69 x0), (4, .ptr 4 [] 113), (8, .imm 69 x8), (9, .imm 3 x9), (10, .imm 3 x10), (61, .imm 69 x61), (62, .imm 3 x62), (63, .imm 3 x63)], ob := [(4, some ⟨true, 113, .imm, xo4⟩)] } (kBlock 2 (kBlock 1 (kSeq (wpC Try.prog A (hnd Try.prog A n) 100 n (cB (cB (cB (cA (cA (cB (cA (cB (bodyOf Try.f100)))))))))) (kLoop (nmK Try.prog (A.loop 100 2)) (fun g => loopK (wpC Try.prog A (hnd Try.prog A n) 100 n (cA (cA (cB (cA (cB (bodyOf Try.f100))))))) (nmK Try.prog (A.loop 100 2)) m0 g (kBlock 0 (kSeq (wpC Try.prog A (hnd Try.prog A n) 100 n (cB (cB (bodyOf Try.f100)))) (kEnd Try.prog Try.f100 (A.sig 100) Q)))) (kBlock 0 (kSeq (wpC Try.prog A (hnd Try.prog A n) 100 n (cB (cB (bodyOf Try.f100)))) (kEnd Try.prog Try.f100 (A.sig 100) Q)))))))
theorem L100_2_eq (n m0 : Nat) (x0 : D) (x8 : D) (x9 : D) (x10 : D) (Q : List D → Prop) : L100_2 n (m0 + 1) x0 x8 x9 x10 Q =
 (cond (iLt (D.i x10) (D.i x9))
 ((0 ≤ (D.i x10) ∧ (D.i x10) < (D.len x8)) ∧ (True ∧ (cond (D.b (D.fld (D.el x8 (D.i x10)) 0))
 (cond (iLt (D.i (D.fld (D.fld (D.el x8 (D.i x10)) 1) 0)) (0 : Int))
 (Q [(D.bool false)])
 (cond (iLe (D.i (D.fld (D.fld (D.el x8 (D.i x10)) 1) 1)) (D.i (D.fld (D.fld (D.el x8 (D.i x10)) 1) 0)))
 (Q [(D.bool false)])
 (cond (iLt (1024 : Int) (D.i (D.fld (D.fld (D.el x8 (D.i x10)) 1) 1)))
 (Q [(D.bool false)])
 (cond (!(iEq (D.i (D.fld (D.el x8 (D.i x10)) 2)) (IntKind.wrap .i64 ((D.i (D.fld (D.fld (D.el x8 (D.i x10)) 1) 1)) - (D.i (D.fld (D.fld (D.el x8 (D.i x10)) 1) 0))))))
 (Q [(D.bool false)])
 (cond (iLt (D.i (D.fld (D.el x8 (D.i x10)) 3)) (0 : Int))
 (Q [(D.bool false)])
 (cond (iLt (1099511627776 : Int) (D.i (D.fld (D.el x8 (D.i x10)) 3)))
 (Q [(D.bool false)])
 ((0 ≤ (0 : Int) ∧ (0 : Int) ≤ (D.i x10) ∧ (D.i x10) ≤ (D.len x0)) ∧ (L100_10 n m0 n x0 x8 x9 x10 (D.slc (List.drop (Int.toNat (0 : Int)) (List.take (Int.toNat (D.i x10)) (D.xs x0)))) (D.int (D.len (D.slc (List.drop (Int.toNat (0 : Int)) (List.take (Int.toNat (D.i x10)) (D.xs x0)))))) (D.int (0 : Int)) (D.el x8 (D.i x10)) Q))))))))
 (cond (iLt (D.i (D.fld (D.fld (D.el x8 (D.i x10)) 1) 0)) (0 : Int))
 (Q [(D.bool false)])
 (cond (iLe (D.i (D.fld (D.fld (D.el x8 (D.i x10)) 1) 1)) (D.i (D.fld (D.fld (D.el x8 (D.i x10)) 1) 0)))
 (Q [(D.bool false)])
 (cond (iLt (1024 : Int) (D.i (D.fld (D.fld (D.el x8 (D.i x10)) 1) 1)))
 (Q [(D.bool false)])
 (cond (!(iEq (D.i (D.fld (D.el x8 (D.i x10)) 2)) (IntKind.wrap .i64 ((D.i (D.fld (D.fld (D.el x8 (D.i x10)) 1) 1)) - (D.i (D.fld (D.fld (D.el x8 (D.i x10)) 1) 0))))))
 (Q [(D.bool false)])
 (cond (iLt (D.i (D.fld (D.el x8 (D.i x10)) 3)) (0 : Int))
 (Q [(D.bool false)])
 (cond (iLt (1099511627776 : Int) (D.i (D.fld (D.el x8 (D.i x10)) 3)))
 (Q [(D.bool false)])
 ((0 ≤ (0 : Int) ∧ (0 : Int) ≤ (D.i x10) ∧ (D.i x10) ≤ (D.len x0)) ∧ (L100_10 n m0 n x0 x8 x9 x10 (D.slc (List.drop (Int.toNat (0 : Int)) (List.take (Int.toNat (D.i x10)) (D.xs x0)))) (D.int (D.len (D.slc (List.drop (Int.toNat (0 : Int)) (List.take (Int.toNat (D.i x10)) (D.xs x0)))))) (D.int (0 : Int)) (D.el x8 (D.i x10)) Q)))))))))))
 (Q [(D.bool (iLe (D.len x0) (10 : Int)))])) := by kernel_rfl
theorem L100_10_eq (n m0 m1 : Nat) (x0 : D) (x8 : D) (x9 : D) (x10 : D) (x61 : D) (x62 : D) (x63 : D) (xo4 : D) (Q : List D → Prop) : L100_10 n m0 (m1 + 1) x0 x8 x9 x10 x61 x62 x63 xo4 Q =
 (cond (iLt (D.i x63) (D.i x62))
 ((0 ≤ (D.i x63) ∧ (D.i x63) < (D.len x61)) ∧ (True ∧ (cond (bEq (D.b (D.fld xo4 0)) (D.b (D.fld (D.el x61 (D.i x63)) 0)))
 (cond (iLt (D.i (D.fld (D.fld xo4 1) 0)) (D.i (D.fld (D.fld (D.el x61 (D.i x63)) 1) 1)))
 (cond (iLt (D.i (D.fld (D.fld (D.el x61 (D.i x63)) 1) 0)) (D.i (D.fld (D.fld xo4 1) 1)))
 (Q [(D.bool false)])
 (L100_10 n m0 m1 x0 x8 x9 x10 x61 x62 (D.int (IntKind.wrap .i64 ((D.i x63) + (1 : Int)))) xo4 Q))
 (L100_10 n m0 m1 x0 x8 x9 x10 x61 x62 (D.int (IntKind.wrap .i64 ((D.i x63) + (1 : Int)))) xo4 Q))
 (L100_10 n m0 m1 x0 x8 x9 x10 x61 x62 (D.int (IntKind.wrap .i64 ((D.i x63) + (1 : Int)))) xo4 Q))))
 (L100_2 n  m0 x0 x8 x9 (D.int (IntKind.wrap .i64 ((D.i x10) + (1 : Int)))) Q)) := by kernel_rfl
theorem E100 (n : Nat) (d0 : D) (Q : List D → Prop) : wpF Try.prog A (n + 1) 100 [d0] Q =
 (L100_2 n  n d0 d0 (D.int (D.len d0)) (D.int (0 : Int)) Q) := by kernel_rfl
attribute [irreducible] L100_2 L100_10

/- timebound/timeboundref36.Value -/
def L58_5 (n m0 : Nat) (x0 : D) (x1 : D) (x7 : D) (x8 : D) (x14 : D) (x15 : D) (x16 : D) (Q : List D → Prop) : Prop :=
  loopK (wpC Try.prog A (hnd Try.prog A n) 58 n (cA (cA (cB (cA (cB (cB (cB (bodyOf Try.f58))))))))) (nmK Try.prog (A.loop 58 5)) m0 { sl := [(0, .imm 69 x0), (1, .imm 29 x1), (7, .imm 3 x7), (8, .imm 3 x8), (14, .imm 29 x14), (15, .imm 3 x15), (16, .imm 3 x16)], ob := [] } (kBlock 0 (kSeq (wpC Try.prog A (hnd Try.prog A n) 58 n (cB (cB (cB (cB (bodyOf Try.f58)))))) (kEnd Try.prog Try.f58 (A.sig 58) Q)))
theorem L58_5_eq (n m0 : Nat) (x0 : D) (x1 : D) (x7 : D) (x8 : D) (x14 : D) (x15 : D) (x16 : D) (Q : List D → Prop) : L58_5 n (m0 + 1) x0 x1 x7 x8 x14 x15 x16 Q =
 (cond (iLt (D.i x16) (D.i x15))
 ((0 ≤ (D.i x16) ∧ (D.i x16) < (D.len x14)) ∧ (cond (iLt (D.i (D.el x14 (D.i x16))) (0 : Int))
 (Q [(D.int (0 : Int)), (D.int (0 : Int)), (D.bool false)])
 (cond (iLe (D.len x0) (D.i (D.el x14 (D.i x16))))
 (Q [(D.int (0 : Int)), (D.int (0 : Int)), (D.bool false)])
 (cond (iLt (0 : Int) (D.i x16))
 ((0 ≤ (IntKind.wrap .i64 ((D.i x16) - (1 : Int))) ∧ (IntKind.wrap .i64 ((D.i x16) - (1 : Int))) < (D.len x1)) ∧ (cond (iLe (D.i (D.el x14 (D.i x16))) (D.i (D.el x1 (IntKind.wrap .i64 ((D.i x16) - (1 : Int))))))
 (Q [(D.int (0 : Int)), (D.int (0 : Int)), (D.bool false)])
 ((0 ≤ (D.i (D.el x14 (D.i x16))) ∧ (D.i (D.el x14 (D.i x16))) < (D.len x0)) ∧ ((0 ≤ (D.i (D.el x14 (D.i x16))) ∧ (D.i (D.el x14 (D.i x16))) < (D.len x0)) ∧ (L58_5 n  m0 x0 x1 (D.int (IntKind.wrap .i64 ((D.i x7) + (D.i (D.fld (D.el x0 (D.i (D.el x14 (D.i x16)))) 3))))) (D.int (IntKind.wrap .i64 ((D.i x8) + (D.i (D.fld (D.el x0 (D.i (D.el x14 (D.i x16)))) 2))))) x14 x15 (D.int (IntKind.wrap .i64 ((D.i x16) + (1 : Int)))) Q)))))
 ((0 ≤ (D.i (D.el x14 (D.i x16))) ∧ (D.i (D.el x14 (D.i x16))) < (D.len x0)) ∧ ((0 ≤ (D.i (D.el x14 (D.i x16))) ∧ (D.i (D.el x14 (D.i x16))) < (D.len x0)) ∧ (L58_5 n  m0 x0 x1 (D.int (IntKind.wrap .i64 ((D.i x7) + (D.i (D.fld (D.el x0 (D.i (D.el x14 (D.i x16)))) 3))))) (D.int (IntKind.wrap .i64 ((D.i x8) + (D.i (D.fld (D.el x0 (D.i (D.el x14 (D.i x16)))) 2))))) x14 x15 (D.int (IntKind.wrap .i64 ((D.i x16) + (1 : Int)))) Q)))))))
 (Q [x7, x8, (D.bool true)])) := by kernel_rfl
theorem E58 (n : Nat) (d0 d1 : D) (Q : List D → Prop) : wpF Try.prog A (n + 1) 58 [d0, d1] Q =
 (wpF Try.prog A n 100 [d0] fun r1 =>
 (cond (!(D.b (rs r1 0)))
 (Q [(D.int (0 : Int)), (D.int (0 : Int)), (D.bool false)])
 (L58_5 n  n d0 d1 (D.int (0 : Int)) (D.int (0 : Int)) d1 (D.int (D.len d1)) (D.int (0 : Int)) Q))) := by kernel_rfl
attribute [irreducible] L58_5

/- timebound/timeboundref36.Place -/
def L28_8 (n m0 : Nat) (x1 : D) (x35 : D) (x36 : D) (x37 : D) (xo3 : D) (xo6 : D) (Q : List D → Prop) : Prop :=
  loopK (wpC Try.prog A (hnd Try.prog A n) 28 n (cA (cA (cB (cA (cB (cB (cB (cB (bodyOf Try.f28)))))))))) (nmK Try.prog (A.loop 28 8)) m0 { sl := [(1, .imm 69 x1), (3, .ptr 3 [] 50), (6, .ptr 6 [] 50), (35, .imm 29 x35), (36, .imm 3 x36), (37, .imm 3 x37)], ob := [(3, some ⟨true, 50, (.agg [(11, (.slc .imm none)), (12, (.slc .imm none))]), xo3⟩), (6, some ⟨true, 50, (.agg [(11, (.slc .imm none)), (12, (.slc .imm none))]), xo6⟩)] } (kBlock 0 (kSeq (wpC Try.prog A (hnd Try.prog A n) 28 n (cB (cB (cB (cB (cB (bodyOf Try.f28))))))) (kEnd Try.prog Try.f28 (A.sig 28) Q)))
theorem L28_8_eq (n m0 : Nat) (x1 : D) (x35 : D) (x36 : D) (x37 : D) (xo3 : D) (xo6 : D) (Q : List D → Prop) : L28_8 n (m0 + 1) x1 x35 x36 x37 xo3 xo6 Q =
 (cond (iLt (D.i x37) (D.i x36))
 ((0 ≤ (D.i x37) ∧ (D.i x37) < (D.len x35)) ∧ ((0 ≤ (D.i (D.el x35 (D.i x37))) ∧ (D.i (D.el x35 (D.i x37))) < (D.len x1)) ∧ (cond (D.b (D.fld (D.el x1 (D.i (D.el x35 (D.i x37)))) 0))
 ((0 ≤ (D.i (D.el x35 (D.i x37))) ∧ (D.i (D.el x35 (D.i x37))) < (D.len x1)) ∧ (room (((List.length (D.xs (D.fld xo3 11)) : Nat) : Int) + ((List.length [(D.fld (D.el x1 (D.i (D.el x35 (D.i x37)))) 1)] : Nat) : Int)) 16 ∧ (True ∧ (L28_8 n  m0 x1 x35 x36 (D.int (IntKind.wrap .i64 ((D.i x37) + (1 : Int)))) (D.agg [(D.fld xo3 0), (D.fld xo3 1), (D.fld xo3 2), (D.fld xo3 3), (D.fld xo3 4), (D.fld xo3 5), (D.fld xo3 6), (D.fld xo3 7), (D.fld xo3 8), (D.fld xo3 9), (D.fld xo3 10), (D.slc ((D.xs (D.fld xo3 11)) ++ [(D.fld (D.el x1 (D.i (D.el x35 (D.i x37)))) 1)])), (D.fld xo3 12)]) xo6 Q))))
 ((0 ≤ (D.i (D.el x35 (D.i x37))) ∧ (D.i (D.el x35 (D.i x37))) < (D.len x1)) ∧ (room (((List.length (D.xs (D.fld xo3 12)) : Nat) : Int) + ((List.length [(D.fld (D.el x1 (D.i (D.el x35 (D.i x37)))) 1)] : Nat) : Int)) 16 ∧ (True ∧ (L28_8 n  m0 x1 x35 x36 (D.int (IntKind.wrap .i64 ((D.i x37) + (1 : Int)))) (D.agg [(D.fld xo3 0), (D.fld xo3 1), (D.fld xo3 2), (D.fld xo3 3), (D.fld xo3 4), (D.fld xo3 5), (D.fld xo3 6), (D.fld xo3 7), (D.fld xo3 8), (D.fld xo3 9), (D.fld xo3 10), (D.fld xo3 11), (D.slc ((D.xs (D.fld xo3 12)) ++ [(D.fld (D.el x1 (D.i (D.el x35 (D.i x37)))) 1)]))]) xo6 Q)))))))
 (wpF Try.prog A n 57 [xo3] fun r3 =>
 (cond (!(iEq (D.i (rs r3 0)) (0 : Int)))
 (True ∧ (Q [(D.agg [(D.agg [(D.int (0 : Int)), (D.int (0 : Int)), (D.int (0 : Int))]), (D.agg [(D.int (0 : Int)), (D.int (0 : Int)), (D.int (0 : Int))]), (D.int (0 : Int)), (D.int (0 : Int)), (D.int (0 : Int)), (D.int (0 : Int)), (D.int (0 : Int)), (D.int (0 : Int)), (D.int (0 : Int)), (D.int (0 : Int)), (D.int (0 : Int)), (D.slc ([] : List D)), (D.slc ([] : List D))]), (D.int (4 : Int))]))
 (True ∧ (Q [xo3, (D.int (0 : Int))]))))) := by kernel_rfl
theorem E28 (n : Nat) (d0 d1 d2 : D) (Q : List D → Prop) : wpF Try.prog A (n + 1) 28 [d0, d1, d2] Q =
 (wpF Try.prog A n 57 [d0] fun r1 =>
 (cond (!(iEq (D.i (rs r1 0)) (0 : Int)))
 (True ∧ (Q [(D.agg [(D.agg [(D.int (0 : Int)), (D.int (0 : Int)), (D.int (0 : Int))]), (D.agg [(D.int (0 : Int)), (D.int (0 : Int)), (D.int (0 : Int))]), (D.int (0 : Int)), (D.int (0 : Int)), (D.int (0 : Int)), (D.int (0 : Int)), (D.int (0 : Int)), (D.int (0 : Int)), (D.int (0 : Int)), (D.int (0 : Int)), (D.int (0 : Int)), (D.slc ([] : List D)), (D.slc ([] : List D))]), (D.int (32 : Int))]))
 (wpF Try.prog A n 58 [d1, d2] fun r2 =>
 (cond (!(D.b (rs r2 2)))
 (True ∧ (Q [(D.agg [(D.agg [(D.int (0 : Int)), (D.int (0 : Int)), (D.int (0 : Int))]), (D.agg [(D.int (0 : Int)), (D.int (0 : Int)), (D.int (0 : Int))]), (D.int (0 : Int)), (D.int (0 : Int)), (D.int (0 : Int)), (D.int (0 : Int)), (D.int (0 : Int)), (D.int (0 : Int)), (D.int (0 : Int)), (D.int (0 : Int)), (D.int (0 : Int)), (D.slc ([] : List D)), (D.slc ([] : List D))]), (D.int (43 : Int))]))
 (room ((List.length (D.xs (D.fld d0 11)) : Nat) : Int) 16 ∧ (room ((List.length (D.xs (D.fld d0 12)) : Nat) : Int) 16 ∧ (True ∧ (True ∧ (L28_8 n  n d1 d2 (D.int (D.len d2)) (D.int (0 : Int)) (D.agg [(D.fld d0 0), (D.fld d0 1), (D.fld d0 2), (D.fld d0 3), (D.fld d0 4), (D.fld d0 5), (D.fld d0 6), (D.fld d0 7), (D.fld d0 8), (D.fld d0 9), (D.fld d0 10), (D.slc (D.xs (D.fld d0 11))), (D.slc (D.xs (D.fld d0 12)))]) (D.agg [(D.agg [(D.int (0 : Int)), (D.int (0 : Int)), (D.int (0 : Int))]), (D.agg [(D.int (0 : Int)), (D.int (0 : Int)), (D.int (0 : Int))]), (D.int (0 : Int)), (D.int (0 : Int)), (D.int (0 : Int)), (D.int (0 : Int)), (D.int (0 : Int)), (D.int (0 : Int)), (D.int (0 : Int)), (D.int (0 : Int)), (D.int (0 : Int)), (D.slc ([] : List D)), (D.slc ([] : List D))]) Q))))))))) := by kernel_rfl
attribute [irreducible] L28_8

/- timebound/timeboundlaw36.same -/
def L29_4 (n m0 : Nat) (x102 : D) (x103 : D) (xo2 : D) (xo3 : D) (Q : List D → Prop) : Prop :=
  loopK (wpC Try.prog A (hnd Try.prog A n) 29 n (cA (cA (cB (cA (cB (cB (bodyOf Try.f29)))))))) (nmK Try.prog (A.loop 29 4)) m0 { sl := [(2, .ptr 2 [] 50), (3, .ptr 3 [] 50), (102, .imm 3 x102), (103, .imm 3 x103)], ob := [(2, some ⟨true, 50, .imm, xo2⟩), (3, some ⟨true, 50, .imm, xo3⟩)] } (kBlock 0 (kSeq (wpC Try.prog A (hnd Try.prog A n) 29 n (cB (cB (cB (bodyOf Try.f29))))) (kEnd Try.prog Try.f29 (A.sig 29) Q)))
def L29_10 (n m0 : Nat) (x120 : D) (x121 : D) (xo2 : D) (xo3 : D) (Q : List D → Prop) : Prop :=
  loopK (wpC Try.prog A (hnd Try.prog A n) 29 n (cA (cA (cB (cA (cB (cB (cB (bodyOf Try.f29))))))))) (nmK Try.prog (A.loop 29 10)) m0 { sl := [(2, .ptr 2 [] 50), (3, .ptr 3 [] 50), (120, .imm 3 x120), (121, .imm 3 x121)], ob := [(2, some ⟨true, 50, .imm, xo2⟩), (3, some ⟨true, 50, .imm, xo3⟩)] } (kBlock 2 (kSeq (wpC Try.prog A (hnd Try.prog A n) 29 n (cB (cB (cB (cB (bodyOf Try.f29)))))) (kEnd Try.prog Try.f29 (A.sig 29) Q)))
theorem L29_4_eq (n m0 : Nat) (x102 : D) (x103 : D) (xo2 : D) (xo3 : D) (Q : List D → Prop) : L29_4 n (m0 + 1) x102 x103 xo2 xo3 Q =
 (cond (iLt (D.i x103) (D.i x102))
 ((0 ≤ (D.i x103) ∧ (D.i x103) < (D.len (D.fld xo2 11))) ∧ ((0 ≤ (D.i x103) ∧ (D.i x103) < (D.len (D.fld xo3 11))) ∧ (cond (!(D.same 8 (D.el (D.fld xo2 11) (D.i x103)) (D.el (D.fld xo3 11) (D.i x103))))
 (Q [(D.bool false)])
 (L29_4 n  m0 x102 (D.int (IntKind.wrap .i64 ((D.i x103) + (1 : Int)))) xo2 xo3 Q))))
 (L29_10 n  n (D.int (D.len (D.fld xo2 12))) (D.int (0 : Int)) xo2 xo3 Q)) := by kernel_rfl
theorem L29_10_eq (n m0 : Nat) (x120 : D) (x121 : D) (xo2 : D) (xo3 : D) (Q : List D → Prop) : L29_10 n (m0 + 1) x120 x121 xo2 xo3 Q =
 (cond (iLt (D.i x121) (D.i x120))
 ((0 ≤ (D.i x121) ∧ (D.i x121) < (D.len (D.fld xo2 12))) ∧ ((0 ≤ (D.i x121) ∧ (D.i x121) < (D.len (D.fld xo3 12))) ∧ (cond (!(D.same 8 (D.el (D.fld xo2 12) (D.i x121)) (D.el (D.fld xo3 12) (D.i x121))))
 (Q [(D.bool false)])
 (L29_10 n  m0 x120 (D.int (IntKind.wrap .i64 ((D.i x121) + (1 : Int)))) xo2 xo3 Q))))
 (Q [(D.bool true)])) := by kernel_rfl
theorem E29 (n : Nat) (d0 d1 : D) (Q : List D → Prop) : wpF Try.prog A (n + 1) 29 [d0, d1] Q =
 (cond (!(iEq (D.len (D.fld d0 11)) (D.len (D.fld d1 11))))
 (Q [(D.bool false)])
 (cond (!(iEq (D.len (D.fld d0 12)) (D.len (D.fld d1 12))))
 (Q [(D.bool false)])
 (cond (!(D.same 8 (D.fld d0 0) (D.fld d1 0)))
 (Q [(D.bool false)])
 (cond (!(D.same 8 (D.fld d0 1) (D.fld d1 1)))
 (Q [(D.bool false)])
 (cond (!(iEq (D.i (D.fld d0 2)) (D.i (D.fld d1 2))))
 (Q [(D.bool false)])
 (cond (!(iEq (D.i (D.fld d0 3)) (D.i (D.fld d1 3))))
 (Q [(D.bool false)])
 (cond (!(iEq (D.i (D.fld d0 4)) (D.i (D.fld d1 4))))
 (Q [(D.bool false)])
 (cond (!(iEq (D.i (D.fld d0 5)) (D.i (D.fld d1 5))))
 (Q [(D.bool false)])
 (cond (!(iEq (D.i (D.fld d0 6)) (D.i (D.fld d1 6))))
 (Q [(D.bool false)])
 (cond (!(iEq (D.i (D.fld d0 7)) (D.i (D.fld d1 7))))
 (Q [(D.bool false)])
 (cond (!(iEq (D.i (D.fld d0 8)) (D.i (D.fld d1 8))))
 (Q [(D.bool false)])
 (cond (!(iEq (D.i (D.fld d0 9)) (D.i (D.fld d1 9))))
 (Q [(D.bool false)])
 (cond (!(iEq (D.i (D.fld d0 10)) (D.i (D.fld d1 10))))
 (Q [(D.bool false)])
 (L29_4 n  n (D.int (D.len (D.fld d0 11))) (D.int (0 : Int)) d0 d1 Q)))))))))))))) := by kernel_rfl
attribute [irreducible] L29_4 L29_10

/- slices.insertionSortCmpFunc[timebound/api.Span] -/
def L198_1 (n m0 : Nat) (x1 : D) (x2 : D) (x3 : D) (x8 : D) (xo0 : D) (Q : List D → Prop) : Prop :=
  loopK (wpC Try.prog A (hnd Try.prog A n) 198 n (cA (cA (cB (bodyOf Try.f198))))) (nmK Try.prog (A.loop 198 1)) m0 { sl := [(0, .val 0 [] 48), (1, .imm 3 x1), (2, .imm 3 x2), (3, .imm 170 x3), (8, .imm 3 x8)], ob := [(0, some ⟨false, 48, (.slc .imm none), xo0⟩)] } (kBlock 0 (kEnd Try.prog Try.f198 (A.sig 198) Q))
def L198_4 (n m0 m1 : Nat) (x1 : D) (x2 : D) (x3 : D) (x8 : D) (x9 : D) (xo0 : D) (Q : List D → Prop) : Prop :=
  loopK (wpC Try.prog A (hnd Try.prog A n) 198 n (cA (cA (cB (cA (cA (cB (cA (cA (cB (bodyOf Try.f198))))))))))) (nmK Try.prog (A.loop 198 4)) m1 { sl := [(0, .val 0 [] 48), (1, .imm 3 x1), (2, .imm 3 x2), (3, .imm 170 x3), (8, .imm 3 x8), (9, .imm 3 x9)], ob := [(0, some ⟨false, 48, (.slc .imm none), xo0⟩)] } (kBlock 2 (kBlock 1 (kSeq (wpC Try.prog A (hnd Try.prog A n) 198 n (cB (cB (cA (cA (cB (bodyOf Try.f198))))))) (kLoop (nmK Try.prog (A.loop 198 1)) (fun g => loopK (wpC Try.prog A (hnd Try.prog A n) 198 n (cA (cA (cB (bodyOf Try.f198))))) (nmK Try.prog (A.loop 198 1)) m0 g (kBlock 0 (kEnd Try.prog Try.f198 (A.sig 198) Q))) (kBlock 0 (kEnd Try.prog Try.f198 (A.sig 198) Q))))))
theorem L198_1_eq (n m0 : Nat) (x1 : D) (x2 : D) (x3 : D) (x8 : D) (xo0 : D) (Q : List D → Prop) : L198_1 n (m0 + 1) x1 x2 x3 x8 xo0 Q =
 (cond (iLt (D.i x8) (D.i x2))
 (L198_4 n m0 n x1 x2 x3 x8 x8 xo0 Q)
 (Q [xo0])) := by kernel_rfl
theorem L198_4_eq (n m0 m1 : Nat) (x1 : D) (x2 : D) (x3 : D) (x8 : D) (x9 : D) (xo0 : D) (Q : List D → Prop) : L198_4 n m0 (m1 + 1) x1 x2 x3 x8 x9 xo0 Q =
 (cond (iLt (D.i x1) (D.i x9))
 ((0 ≤ (D.i x9) ∧ (D.i x9) < (D.len xo0)) ∧ ((0 ≤ (IntKind.wrap .i64 ((D.i x9) - (1 : Int))) ∧ (IntKind.wrap .i64 ((D.i x9) - (1 : Int))) < (D.len xo0)) ∧ (dynH A (wpF Try.prog A n) x3 [.imm 104, .imm 104] [.val 3 .imm] [(List.getD (D.xs xo0) (Int.toNat (D.i x9)) D.und), (List.getD (D.xs xo0) (Int.toNat (IntKind.wrap .i64 ((D.i x9) - (1 : Int)))) D.und)] fun r1 =>
 (cond (iLt (D.i (rs r1 0)) (0 : Int))
 ((0 ≤ (IntKind.wrap .i64 ((D.i x9) - (1 : Int))) ∧ (IntKind.wrap .i64 ((D.i x9) - (1 : Int))) < (D.len xo0)) ∧ ((0 ≤ (D.i x9) ∧ (D.i x9) < (D.len xo0)) ∧ ((0 ≤ (D.i x9) ∧ (D.i x9) < (D.len xo0)) ∧ (True ∧ ((0 ≤ (IntKind.wrap .i64 ((D.i x9) - (1 : Int))) ∧ (IntKind.wrap .i64 ((D.i x9) - (1 : Int))) < (D.len (D.slc (List.set (D.xs xo0) (Int.toNat (D.i x9)) (List.getD (D.xs xo0) (Int.toNat (IntKind.wrap .i64 ((D.i x9) - (1 : Int)))) D.und))))) ∧ (True ∧ (L198_4 n m0 m1 x1 x2 x3 x8 (D.int (IntKind.wrap .i64 ((D.i x9) - (1 : Int)))) (D.slc (List.set (List.set (D.xs xo0) (Int.toNat (D.i x9)) (List.getD (D.xs xo0) (Int.toNat (IntKind.wrap .i64 ((D.i x9) - (1 : Int)))) D.und)) (Int.toNat (IntKind.wrap .i64 ((D.i x9) - (1 : Int)))) (List.getD (D.xs xo0) (Int.toNat (D.i x9)) D.und))) Q)))))))
 (L198_1 n  m0 x1 x2 x3 (D.int (IntKind.wrap .i64 ((D.i x8) + (1 : Int)))) xo0 Q)))))
 (L198_1 n  m0 x1 x2 x3 (D.int (IntKind.wrap .i64 ((D.i x8) + (1 : Int)))) xo0 Q)) := by kernel_rfl
theorem E198 (n : Nat) (d0 d1 d2 d3 : D) (Q : List D → Prop) : wpF Try.prog A (n + 1) 198 [d0, d1, d2, d3] Q =
 (L198_1 n  n d1 d2 d3 (D.int (IntKind.wrap .i64 ((D.i d1) + (1 : Int)))) d0 Q) := by kernel_rfl
attribute [irreducible] L198_1 L198_4

/- slices.order2CmpFunc[timebound/api.Span] -/
theorem E227 (n : Nat) (d0 d1 d2 d3 d4 : D) (Q : List D → Prop) : wpF Try.prog A (n + 1) 227 [d0, d1, d2, d3, d4] Q =
 ((0 ≤ (D.i d2) ∧ (D.i d2) < (D.len d0)) ∧ ((0 ≤ (D.i d1) ∧ (D.i d1) < (D.len d0)) ∧ (dynH A (wpF Try.prog A n) d4 [.imm 104, .imm 104] [.val 3 .imm] [(D.el d0 (D.i d2)), (D.el d0 (D.i d1))] fun r1 =>
 (cond (iLt (D.i (rs r1 0)) (0 : Int))
 (True ∧ (Q [d2, d1, (D.int (IntKind.wrap .i64 ((D.i d3) + (1 : Int))))]))
 (Q [d1, d2, d3]))))) := by kernel_rfl

/- slices.medianCmpFunc[timebound/api.Span] -/
theorem E218 (n : Nat) (d0 d1 d2 d3 d4 d5 : D) (Q : List D → Prop) : wpF Try.prog A (n + 1) 218 [d0, d1, d2, d3, d4, d5] Q =
 (wpF Try.prog A n 227 [d0, d1, d2, d4, d5] fun r1 =>
 (wpF Try.prog A n 227 [d0, (rs r1 1), d3, (rs r1 2), d5] fun r2 =>
 (wpF Try.prog A n 227 [d0, (rs r1 0), (rs r2 0), (rs r2 2), d5] fun r3 =>
 (Q [(rs r3 1), (rs r3 2)])))) := by kernel_rfl

/- slices.medianAdjacentCmpFunc[timebound/api.Span] -/
theorem E217 (n : Nat) (d0 d1 d2 d3 : D) (Q : List D → Prop) : wpF Try.prog A (n + 1) 217 [d0, d1, d2, d3] Q =
 (wpF Try.prog A n 218 [d0, (D.int (IntKind.wrap .i64 ((D.i d1) - (1 : Int)))), d1, (D.int (IntKind.wrap .i64 ((D.i d1) + (1 : Int)))), d2, d3] fun r1 =>
 (Q [(rs r1 0), (rs r1 1)])) := by kernel_rfl

/- slices.choosePivotCmpFunc[timebound/api.Span] -/
theorem E201 (n : Nat) (d0 d1 d2 d3 : D) (Q : List D → Prop) : wpF Try.prog A (n + 1) 201 [d0, d1, d2, d3] Q =
 ((4 : Int) ≠ (0 : Int) ∧ ((4 : Int) ≠ (0 : Int) ∧ ((4 : Int) ≠ (0 : Int) ∧ (cond (iLe (8 : Int) (IntKind.wrap .i64 ((D.i d2) - (D.i d1))))
 (cond (iLe (50 : Int) (IntKind.wrap .i64 ((D.i d2) - (D.i d1))))
 (wpF Try.prog A n 217 [d0, (D.int (IntKind.wrap .i64 ((D.i d1) + (IntKind.wrap .i64 ((IntKind.wrap .i64 (Int.tdiv (IntKind.wrap .i64 ((D.i d2) - (D.i d1))) (4 : Int))) * (1 : Int)))))), (D.int (0 : Int)), d3] fun r1 =>
 (wpF Try.prog A n 217 [d0, (D.int (IntKind.wrap .i64 ((D.i d1) + (IntKind.wrap .i64 ((IntKind.wrap .i64 (Int.tdiv (IntKind.wrap .i64 ((D.i d2) - (D.i d1))) (4 : Int))) * (2 : Int)))))), (rs r1 1), d3] fun r2 =>
 (wpF Try.prog A n 217 [d0, (D.int (IntKind.wrap .i64 ((D.i d1) + (IntKind.wrap .i64 ((IntKind.wrap .i64 (Int.tdiv (IntKind.wrap .i64 ((D.i d2) - (D.i d1))) (4 : Int))) * (3 : Int)))))), (rs r2 1), d3] fun r3 =>
 (wpF Try.prog A n 218 [d0, (rs r1 0), (rs r2 0), (rs r3 0), (rs r3 1), d3] fun r4 =>
 (cond (iEq (D.i (rs r4 1)) (0 : Int))
 (Q [(rs r4 0), (D.int (1 : Int))])
 (cond (iEq (D.i (rs r4 1)) (12 : Int))
 (Q [(rs r4 0), (D.int (2 : Int))])
 (Q [(rs r4 0), (D.int (0 : Int))])))))))
 (wpF Try.prog A n 218 [d0, (D.int (IntKind.wrap .i64 ((D.i d1) + (IntKind.wrap .i64 ((IntKind.wrap .i64 (Int.tdiv (IntKind.wrap .i64 ((D.i d2) - (D.i d1))) (4 : Int))) * (1 : Int)))))), (D.int (IntKind.wrap .i64 ((D.i d1) + (IntKind.wrap .i64 ((IntKind.wrap .i64 (Int.tdiv (IntKind.wrap .i64 ((D.i d2) - (D.i d1))) (4 : Int))) * (2 : Int)))))), (D.int (IntKind.wrap .i64 ((D.i d1) + (IntKind.wrap .i64 ((IntKind.wrap .i64 (Int.tdiv (IntKind.wrap .i64 ((D.i d2) - (D.i d1))) (4 : Int))) * (3 : Int)))))), (D.int (0 : Int)), d3] fun r5 =>
 (cond (iEq (D.i (rs r5 1)) (0 : Int))
 (Q [(rs r5 0), (D.int (1 : Int))])
 (cond (iEq (D.i (rs r5 1)) (12 : Int))
 (Q [(rs r5 0), (D.int (2 : Int))])
 (Q [(rs r5 0), (D.int (0 : Int))])))))
 (cond (iEq (0 : Int) (0 : Int))
 (Q [(D.int (IntKind.wrap .i64 ((D.i d1) + (IntKind.wrap .i64 ((IntKind.wrap .i64 (Int.tdiv (IntKind.wrap .i64 ((D.i d2) - (D.i d1))) (4 : Int))) * (2 : Int)))))), (D.int (1 : Int))])
 (cond (iEq (0 : Int) (12 : Int))
 (Q [(D.int (IntKind.wrap .i64 ((D.i d1) + (IntKind.wrap .i64 ((IntKind.wrap .i64 (Int.tdiv (IntKind.wrap .i64 ((D.i d2) - (D.i d1))) (4 : Int))) * (2 : Int)))))), (D.int (2 : Int))])
 (Q [(D.int (IntKind.wrap .i64 ((D.i d1) + (IntKind.wrap .i64 ((IntKind.wrap .i64 (Int.tdiv (IntKind.wrap .i64 ((D.i d2) - (D.i d1))) (4 : Int))) * (2 : Int)))))), (D.int (0 : Int))]))))))) := by kernel_rfl

/- slices.partialInsertionSortCmpFunc[timebound/api.Span] -/
def L203_3 (n m0 : Nat) (x1 : D) (x2 : D) (x3 : D) (x9 : D) (x10 : D) (xo0 : D) (Q : List D → Prop) : Prop :=
  loopK (wpC Try.prog A (hnd Try.prog A n) 203 n (cA (cA (cB (cA (cB (cB (bodyOf Try.f203)))))))) (nmK Try.prog (A.loop 203 3)) m0 { sl := [(0, .val 0 [] 48), (1, .imm 3 x1), (2, .imm 3 x2), (3, .imm 170 x3), (9, .imm 3 x9), (10, .imm 3 x10)], ob := [(0, some ⟨false, 48, (.slc .imm none), xo0⟩)] } (kBlock 0 (kSeq (wpC Try.prog A (hnd Try.prog A n) 203 n (cB (cB (cB (bodyOf Try.f203))))) (kEnd Try.prog Try.f203 (A.sig 203) Q)))
def L203_5 (n m0 m1 : Nat) (x1 : D) (x2 : D) (x3 : D) (x9 : D) (x10 : D) (xo0 : D) (Q : List D → Prop) : Prop :=
  loopK (wpC Try.prog A (hnd Try.prog A n) 203 n (cA (cA (cA (cA (cA (cB (cA (cA (cB (cA (cB (cB (bodyOf Try.f203)))))))))))))) (nmK Try.prog (A.loop 203 5)) m1 { sl := [(0, .val 0 [] 48), (1, .imm 3 x1), (2, .imm 3 x2), (3, .imm 170 x3), (9, .imm 3 x9), (10, .imm 3 x10)], ob := [(0, some ⟨false, 48, (.slc .imm none), xo0⟩)] } (kBlock 2 (kSeq (wpC Try.prog A (hnd Try.prog A n) 203 n (cB (cA (cA (cB (cA (cA (cB (cA (cB (cB (bodyOf Try.f203)))))))))))) (kBlock 1 (kSeq (wpC Try.prog A (hnd Try.prog A n) 203 n (cB (cB (cA (cA (cB (cA (cB (cB (bodyOf Try.f203)))))))))) (kLoop (nmK Try.prog (A.loop 203 3)) (fun g => loopK (wpC Try.prog A (hnd Try.prog A n) 203 n (cA (cA (cB (cA (cB (cB (bodyOf Try.f203)))))))) (nmK Try.prog (A.loop 203 3)) m0 g (kBlock 0 (kSeq (wpC Try.prog A (hnd Try.prog A n) 203 n (cB (cB (cB (bodyOf Try.f203))))) (kEnd Try.prog Try.f203 (A.sig 203) Q)))) (kBlock 0 (kSeq (wpC Try.prog A (hnd Try.prog A n) 203 n (cB (cB (cB (bodyOf Try.f203))))) (kEnd Try.prog Try.f203 (A.sig 203) Q))))))))
def L203_14 (n m0 m1 : Nat) (x1 : D) (x2 : D) (x3 : D) (x9 : D) (x10 : D) (x11 : D) (xo0 : D) (Q : List D → Prop) : Prop :=
  loopK (wpC Try.prog A (hnd Try.prog A n) 203 n (cA (cA (cB (cA (cB (cA (cB (cB (cB (cB (cA (cA (cB (cA (cA (cB (cA (cB (cB (bodyOf Try.f203))))))))))))))))))))) (nmK Try.prog (A.loop 203 14)) m1 { sl := [(0, .val 0 [] 48), (1, .imm 3 x1), (2, .imm 3 x2), (3, .imm 170 x3), (9, .imm 3 x9), (10, .imm 3 x10), (11, .imm 3 x11)], ob := [(0, some ⟨false, 48, (.slc .imm none), xo0⟩)] } (kBlock 4 (kSeq (wpC Try.prog A (hnd Try.prog A n) 203 n (cB (cB (cB (cB (cB (cA (cA (cB (cA (cA (cB (cA (cB (cB (bodyOf Try.f203)))))))))))))))) (kBlock 1 (kSeq (wpC Try.prog A (hnd Try.prog A n) 203 n (cB (cB (cA (cA (cB (cA (cB (cB (bodyOf Try.f203)))))))))) (kLoop (nmK Try.prog (A.loop 203 3)) (fun g => loopK (wpC Try.prog A (hnd Try.prog A n) 203 n (cA (cA (cB (cA (cB (cB (bodyOf Try.f203)))))))) (nmK Try.prog (A.loop 203 3)) m0 g (kBlock 0 (kSeq (wpC Try.prog A (hnd Try.prog A n) 203 n (cB (cB (cB (bodyOf Try.f203))))) (kEnd Try.prog Try.f203 (A.sig 203) Q)))) (kBlock 0 (kSeq (wpC Try.prog A (hnd Try.prog A n) 203 n (cB (cB (cB (bodyOf Try.f203))))) (kEnd Try.prog Try.f203 (A.sig 203) Q))))))))
def L203_20 (n m0 m1 : Nat) (x1 : D) (x2 : D) (x3 : D) (x9 : D) (x10 : D) (x12 : D) (xo0 : D) (Q : List D → Prop) : Prop :=
  loopK (wpC Try.prog A (hnd Try.prog A n) 203 n (cA (cA (cB (cA (cB (cB (cB (cB (cB (cB (cA (cA (cB (cA (cA (cB (cA (cB (cB (bodyOf Try.f203))))))))))))))))))))) (nmK Try.prog (A.loop 203 20)) m1 { sl := [(0, .val 0 [] 48), (1, .imm 3 x1), (2, .imm 3 x2), (3, .imm 170 x3), (9, .imm 3 x9), (10, .imm 3 x10), (12, .imm 3 x12)], ob := [(0, some ⟨false, 48, (.slc .imm none), xo0⟩)] } (kBlock 6 (kBlock 1 (kSeq (wpC Try.prog A (hnd Try.prog A n) 203 n (cB (cB (cA (cA (cB (cA (cB (cB (bodyOf Try.f203)))))))))) (kLoop (nmK Try.prog (A.loop 203 3)) (fun g => loopK (wpC Try.prog A (hnd Try.prog A n) 203 n (cA (cA (cB (cA (cB (cB (bodyOf Try.f203)))))))) (nmK Try.prog (A.loop 203 3)) m0 g (kBlock 0 (kSeq (wpC Try.prog A (hnd Try.prog A n) 203 n (cB (cB (cB (bodyOf Try.f203))))) (kEnd Try.prog Try.f203 (A.sig 203) Q)))) (kBlock 0 (kSeq (wpC Try.prog A (hnd Try.prog A n) 203 n (cB (cB (cB (bodyOf Try.f203))))) (kEnd Try.prog Try.f203 (A.sig 203) Q)))))))
theorem L203_3_eq (n m0 : Nat) (x1 : D) (x2 : D) (x3 : D) (x9 : D) (x10 : D) (xo0 : D) (Q : List D → Prop) : L203_3 n (m0 + 1) x1 x2 x3 x9 x10 xo0 Q =
 (cond (iLt (D.i x10) (5 : Int))
 (L203_5 n m0 n x1 x2 x3 x9 x10 xo0 Q)
 (Q [(D.bool false), xo0])) := by kernel_rfl
theorem L203_5_eq (n m0 m1 : Nat) (x1 : D) (x2 : D) (x3 : D) (x9 : D) (x10 : D) (xo0 : D) (Q : List D → Prop) : L203_5 n m0 (m1 + 1) x1 x2 x3 x9 x10 xo0 Q =
 (cond (iLt (D.i x9) (D.i x2))
 ((0 ≤ (D.i x9) ∧ (D.i x9) < (D.len xo0)) ∧ ((0 ≤ (IntKind.wrap .i64 ((D.i x9) - (1 : Int))) ∧ (IntKind.wrap .i64 ((D.i x9) - (1 : Int))) < (D.len xo0)) ∧ (dynH A (wpF Try.prog A n) x3 [.imm 104, .imm 104] [.val 3 .imm] [(List.getD (D.xs xo0) (Int.toNat (D.i x9)) D.und), (List.getD (D.xs xo0) (Int.toNat (IntKind.wrap .i64 ((D.i x9) - (1 : Int)))) D.und)] fun r1 =>
 (cond (!(iLt (D.i (rs r1 0)) (0 : Int)))
 (L203_5 n m0 m1 x1 x2 x3 (D.int (IntKind.wrap .i64 ((D.i x9) + (1 : Int)))) x10 xo0 Q)
 (cond (iEq (D.i x9) (D.i x2))
 (Q [(D.bool true), xo0])
 (cond (iLt (IntKind.wrap .i64 ((D.i x2) - (D.i x1))) (50 : Int))
 (Q [(D.bool false), xo0])
 ((0 ≤ (IntKind.wrap .i64 ((D.i x9) - (1 : Int))) ∧ (IntKind.wrap .i64 ((D.i x9) - (1 : Int))) < (D.len xo0)) ∧ ((0 ≤ (D.i x9) ∧ (D.i x9) < (D.len xo0)) ∧ ((0 ≤ (D.i x9) ∧ (D.i x9) < (D.len xo0)) ∧ (True ∧ ((0 ≤ (IntKind.wrap .i64 ((D.i x9) - (1 : Int))) ∧ (IntKind.wrap .i64 ((D.i x9) - (1 : Int))) < (D.len (D.slc (List.set (D.xs xo0) (Int.toNat (D.i x9)) (List.getD (D.xs xo0) (Int.toNat (IntKind.wrap .i64 ((D.i x9) - (1 : Int)))) D.und))))) ∧ (True ∧ (cond (iLe (2 : Int) (IntKind.wrap .i64 ((D.i x9) - (D.i x1))))
 (L203_14 n m0 n x1 x2 x3 x9 x10 (D.int (IntKind.wrap .i64 ((D.i x9) - (1 : Int)))) (D.slc (List.set (List.set (D.xs xo0) (Int.toNat (D.i x9)) (List.getD (D.xs xo0) (Int.toNat (IntKind.wrap .i64 ((D.i x9) - (1 : Int)))) D.und)) (Int.toNat (IntKind.wrap .i64 ((D.i x9) - (1 : Int)))) (List.getD (D.xs xo0) (Int.toNat (D.i x9)) D.und))) Q)
 (cond (iLe (2 : Int) (IntKind.wrap .i64 ((D.i x2) - (D.i x9))))
 (L203_20 n m0 n x1 x2 x3 x9 x10 (D.int (IntKind.wrap .i64 ((D.i x9) + (1 : Int)))) (D.slc (List.set (List.set (D.xs xo0) (Int.toNat (D.i x9)) (List.getD (D.xs xo0) (Int.toNat (IntKind.wrap .i64 ((D.i x9) - (1 : Int)))) D.und)) (Int.toNat (IntKind.wrap .i64 ((D.i x9) - (1 : Int)))) (List.getD (D.xs xo0) (Int.toNat (D.i x9)) D.und))) Q)
 (L203_3 n  m0 x1 x2 x3 x9 (D.int (IntKind.wrap .i64 ((D.i x10) + (1 : Int)))) (D.slc (List.set (List.set (D.xs xo0) (Int.toNat (D.i x9)) (List.getD (D.xs xo0) (Int.toNat (IntKind.wrap .i64 ((D.i x9) - (1 : Int)))) D.und)) (Int.toNat (IntKind.wrap .i64 ((D.i x9) - (1 : Int)))) (List.getD (D.xs xo0) (Int.toNat (D.i x9)) D.und))) Q)))))))))))))))
 (cond (iEq (D.i x9) (D.i x2))
 (Q [(D.bool true), xo0])
 (cond (iLt (IntKind.wrap .i64 ((D.i x2) - (D.i x1))) (50 : Int))
 (Q [(D.bool false), xo0])
 ((0 ≤ (IntKind.wrap .i64 ((D.i x9) - (1 : Int))) ∧ (IntKind.wrap .i64 ((D.i x9) - (1 : Int))) < (D.len xo0)) ∧ ((0 ≤ (D.i x9) ∧ (D.i x9) < (D.len xo0)) ∧ ((0 ≤ (D.i x9) ∧ (D.i x9) < (D.len xo0)) ∧ (True ∧ ((0 ≤ (IntKind.wrap .i64 ((D.i x9) - (1 : Int))) ∧ (IntKind.wrap .i64 ((D.i x9) - (1 : Int))) < (D.len (D.slc (List.set (D.xs xo0) (Int.toNat (D.i x9)) (List.getD (D.xs xo0) (Int.toNat (IntKind.wrap .i64 ((D.i x9) - (1 : Int)))) D.und))))) ∧ (True ∧ (cond (iLe (2 : Int) (IntKind.wrap .i64 ((D.i x9) - (D.i x1))))
 (L203_14 n m0 n x1 x2 x3 x9 x10 (D.int (IntKind.wrap .i64 ((D.i x9) - (1 : Int)))) (D.slc (List.set (List.set (D.xs xo0) (Int.toNat (D.i x9)) (List.getD (D.xs xo0) (Int.toNat (IntKind.wrap .i64 ((D.i x9) - (1 : Int)))) D.und)) (Int.toNat (IntKind.wrap .i64 ((D.i x9) - (1 : Int)))) (List.getD (D.xs xo0) (Int.toNat (D.i x9)) D.und))) Q)
 (cond (iLe (2 : Int) (IntKind.wrap .i64 ((D.i x2) - (D.i x9))))
 (L203_20 n m0 n x1 x2 x3 x9 x10 (D.int (IntKind.wrap .i64 ((D.i x9) + (1 : Int)))) (D.slc (List.set (List.set (D.xs xo0) (Int.toNat (D.i x9)) (List.getD (D.xs xo0) (Int.toNat (IntKind.wrap .i64 ((D.i x9) - (1 : Int)))) D.und)) (Int.toNat (IntKind.wrap .i64 ((D.i x9) - (1 : Int)))) (List.getD (D.xs xo0) (Int.toNat (D.i x9)) D.und))) Q)
 (L203_3 n  m0 x1 x2 x3 x9 (D.int (IntKind.wrap .i64 ((D.i x10) + (1 : Int)))) (D.slc (List.set (List.set (D.xs xo0) (Int.toNat (D.i x9)) (List.getD (D.xs xo0) (Int.toNat (IntKind.wrap .i64 ((D.i x9) - (1 : Int)))) D.und)) (Int.toNat (IntKind.wrap .i64 ((D.i x9) - (1 : Int)))) (List.getD (D.xs xo0) (Int.toNat (D.i x9)) D.und))) Q)))))))))))) := by kernel_rfl
theorem L203_14_eq (n m0 m1 : Nat) (x1 : D) (x2 : D) (x3 : D) (x9 : D) (x10 : D) (x11 : D) (xo0 : D) (Q : List D → Prop) : L203_14 n m0 (m1 + 1) x1 x2 x3 x9 x10 x11 xo0 Q =
 (cond (iLe (1 : Int) (D.i x11))
 ((0 ≤ (D.i x11) ∧ (D.i x11) < (D.len xo0)) ∧ ((0 ≤ (IntKind.wrap .i64 ((D.i x11) - (1 : Int))) ∧ (IntKind.wrap .i64 ((D.i x11) - (1 : Int))) < (D.len xo0)) ∧ (dynH A (wpF Try.prog A n) x3 [.imm 104, .imm 104] [.val 3 .imm] [(List.getD (D.xs xo0) (Int.toNat (D.i x11)) D.und), (List.getD (D.xs xo0) (Int.toNat (IntKind.wrap .i64 ((D.i x11) - (1 : Int)))) D.und)] fun r2 =>
 (cond (!(iLt (D.i (rs r2 0)) (0 : Int)))
 (cond (iLe (2 : Int) (IntKind.wrap .i64 ((D.i x2) - (D.i x9))))
 (L203_20 n m0 n x1 x2 x3 x9 x10 (D.int (IntKind.wrap .i64 ((D.i x9) + (1 : Int)))) xo0 Q)
 (L203_3 n  m0 x1 x2 x3 x9 (D.int (IntKind.wrap .i64 ((D.i x10) + (1 : Int)))) xo0 Q))
 ((0 ≤ (IntKind.wrap .i64 ((D.i x11) - (1 : Int))) ∧ (IntKind.wrap .i64 ((D.i x11) - (1 : Int))) < (D.len xo0)) ∧ ((0 ≤ (D.i x11) ∧ (D.i x11) < (D.len xo0)) ∧ ((0 ≤ (D.i x11) ∧ (D.i x11) < (D.len xo0)) ∧ (True ∧ ((0 ≤ (IntKind.wrap .i64 ((D.i x11) - (1 : Int))) ∧ (IntKind.wrap .i64 ((D.i x11) - (1 : Int))) < (D.len (D.slc (List.set (D.xs xo0) (Int.toNat (D.i x11)) (List.getD (D.xs xo0) (Int.toNat (IntKind.wrap .i64 ((D.i x11) - (1 : Int)))) D.und))))) ∧ (True ∧ (L203_14 n m0 m1 x1 x2 x3 x9 x10 (D.int (IntKind.wrap .i64 ((D.i x11) - (1 : Int)))) (D.slc (List.set (List.set (D.xs xo0) (Int.toNat (D.i x11)) (List.getD (D.xs xo0) (Int.toNat (IntKind.wrap .i64 ((D.i x11) - (1 : Int)))) D.und)) (Int.toNat (IntKind.wrap .i64 ((D.i x11) - (1 : Int)))) (List.getD (D.xs xo0) (Int.toNat (D.i x11)) D.und))) Q)))))))))))
 (cond (iLe (2 : Int) (IntKind.wrap .i64 ((D.i x2) - (D.i x9))))
 (L203_20 n m0 n x1 x2 x3 x9 x10 (D.int (IntKind.wrap .i64 ((D.i x9) + (1 : Int)))) xo0 Q)
 (L203_3 n  m0 x1 x2 x3 x9 (D.int (IntKind.wrap .i64 ((D.i x10) + (1 : Int)))) xo0 Q))) := by kernel_rfl
theorem L203_20_eq (n m0 m1 : Nat) (x1 : D) (x2 : D) (x3 : D) (x9 : D) (x10 : D) (x12 : D) (xo0 : D) (Q : List D → Prop) : L203_20 n m0 (m1 + 1) x1 x2 x3 x9 x10 x12 xo0 Q =
 (cond (iLt (D.i x12) (D.i x2))
 ((0 ≤ (D.i x12) ∧ (D.i x12) < (D.len xo0)) ∧ ((0 ≤ (IntKind.wrap .i64 ((D.i x12) - (1 : Int))) ∧ (IntKind.wrap .i64 ((D.i x12) - (1 : Int))) < (D.len xo0)) ∧ (dynH A (wpF Try.prog A n) x3 [.imm 104, .imm 104] [.val 3 .imm] [(List.getD (D.xs xo0) (Int.toNat (D.i x12)) D.und), (List.getD (D.xs xo0) (Int.toNat (IntKind.wrap .i64 ((D.i x12) - (1 : Int)))) D.und)] fun r3 =>
 (cond (!(iLt (D.i (rs r3 0)) (0 : Int)))
 (L203_3 n  m0 x1 x2 x3 x9 (D.int (IntKind.wrap .i64 ((D.i x10) + (1 : Int)))) xo0 Q)
 ((0 ≤ (IntKind.wrap .i64 ((D.i x12) - (1 : Int))) ∧ (IntKind.wrap .i64 ((D.i x12) - (1 : Int))) < (D.len xo0)) ∧ ((0 ≤ (D.i x12) ∧ (D.i x12) < (D.len xo0)) ∧ ((0 ≤ (D.i x12) ∧ (D.i x12) < (D.len xo0)) ∧ (True ∧ ((0 ≤ (IntKind.wrap .i64 ((D.i x12) - (1 : Int))) ∧ (IntKind.wrap .i64 ((D.i x12) - (1 : Int))) < (D.len (D.slc (List.set (D.xs xo0) (Int.toNat (D.i x12)) (List.getD (D.xs xo0) (Int.toNat (IntKind.wrap .i64 ((D.i x12) - (1 : Int)))) D.und))))) ∧ (True ∧ (L203_20 n m0 m1 x1 x2 x3 x9 x10 (D.int (IntKind.wrap .i64 ((D.i x12) + (1 : Int)))) (D.slc (List.set (List.set (D.xs xo0) (Int.toNat (D.i x12)) (List.getD (D.xs xo0) (Int.toNat (IntKind.wrap .i64 ((D.i x12) - (1 : Int)))) D.und)) (Int.toNat (IntKind.wrap .i64 ((D.i x12) - (1 : Int)))) (List.getD (D.xs xo0) (Int.toNat (D.i x12)) D.und))) Q)))))))))))
 (L203_3 n  m0 x1 x2 x3 x9 (D.int (IntKind.wrap .i64 ((D.i x10) + (1 : Int)))) xo0 Q)) := by kernel_rfl
theorem E203 (n : Nat) (d0 d1 d2 d3 : D) (Q : List D → Prop) : wpF Try.prog A (n + 1) 203 [d0, d1, d2, d3] Q =
 (L203_3 n  n d1 d2 d3 (D.int (IntKind.wrap .i64 ((D.i d1) + (1 : Int)))) (D.int (0 : Int)) d0 Q) := by kernel_rfl
attribute [irreducible] L203_3 L203_5 L203_14 L203_20

/- slices.pdqsortCmpFunc[timebound/api.Span] -/
def L163_2 (n m0 : Nat) (x1 : D) (x2 : D) (x3 : D) (x4 : D) (x10 : D) (x11 : D) (xo0 : D) (Q : List D → Prop) : Prop :=
  loopK (wpC Try.prog A (hnd Try.prog A n) 163 n (cA (cA (cB (cB (bodyOf Try.f163)))))) (nmK Try.prog (A.loop 163 2)) m0 { sl := [(0, .val 0 [] 48), (1, .imm 3 x1), (2, .imm 3 x2), (3, .imm 3 x3), (4, .imm 170 x4), (10, .imm 4 x10), (11, .imm 4 x11)], ob := [(0, some ⟨false, 48, (.slc .imm none), xo0⟩)] } (kBlock 0 (kEnd Try.prog Try.f163 (A.sig 163) Q))
theorem L163_2_eq (n m0 : Nat) (x1 : D) (x2 : D) (x3 : D) (x4 : D) (x10 : D) (x11 : D) (xo0 : D) (Q : List D → Prop) : L163_2 n (m0 + 1) x1 x2 x3 x4 x10 x11 xo0 Q =
 (cond (iLe (IntKind.wrap .i64 ((D.i x2) - (D.i x1))) (12 : Int))
 (wpF Try.prog A n 198 [xo0, x1, x2, x4] fun r1 =>
 (Q [(rs r1 0)]))
 (cond (iEq (D.i x3) (0 : Int))
 (wpF Try.prog A n 199 [xo0, x1, x2, x4] fun r2 =>
 (Q [(rs r2 0)]))
 (cond (!(D.b x10))
 (wpF Try.prog A n 200 [xo0, x1, x2, x4] fun r3 =>
 (wpF Try.prog A n 201 [(rs r3 0), x1, x2, x4] fun r4 =>
 (cond (iEq (D.i (rs r4 1)) (2 : Int))
 (wpF Try.prog A n 202 [(rs r3 0), x1, x2, x4] fun r5 =>
 (cond (D.b x10)
 (cond (D.b x11)
 (cond (iEq (1 : Int) (1 : Int))
 (wpF Try.prog A n 203 [(rs r5 0), x1, x2, x4] fun r6 =>
 (cond (D.b (rs r6 0))
 (Q [(rs r6 1)])
 (cond (iLt (0 : Int) (D.i x1))
 ((0 ≤ (IntKind.wrap .i64 ((D.i x1) - (1 : Int))) ∧ (IntKind.wrap .i64 ((D.i x1) - (1 : Int))) < (D.len (rs r6 1))) ∧ ((0 ≤ (IntKind.wrap .i64 ((IntKind.wrap .i64 ((D.i x2) - (1 : Int))) - (IntKind.wrap .i64 ((D.i (rs r4 0)) - (D.i x1))))) ∧ (IntKind.wrap .i64 ((IntKind.wrap .i64 ((D.i x2) - (1 : Int))) - (IntKind.wrap .i64 ((D.i (rs r4 0)) - (D.i x1))))) < (D.len (rs r6 1))) ∧ (dynH A (wpF Try.prog A n) x4 [.imm 104, .imm 104] [.val 3 .imm] [(List.getD (D.xs (rs r6 1)) (Int.toNat (IntKind.wrap .i64 ((D.i x1) - (1 : Int)))) D.und), (List.getD (D.xs (rs r6 1)) (Int.toNat (IntKind.wrap .i64 ((IntKind.wrap .i64 ((D.i x2) - (1 : Int))) - (IntKind.wrap .i64 ((D.i (rs r4 0)) - (D.i x1)))))) D.und)] fun r7 =>
 (cond (!(iLt (D.i (rs r7 0)) (0 : Int)))
 (wpF Try.prog A n 204 [(rs r6 1), x1, x2, (D.int (IntKind.wrap .i64 ((IntKind.wrap .i64 ((D.i x2) - (1 : Int))) - (IntKind.wrap .i64 ((D.i (rs r4 0)) - (D.i x1)))))), x4] fun r8 =>
 (L163_2 n  m0 (rs r8 0) x2 (D.int (IntKind.wrap .i64 ((D.i x3) - (1 : Int)))) x4 x10 x11 (rs r8 1) Q))
 (wpF Try.prog A n 205 [(rs r6 1), x1, x2, (D.int (IntKind.wrap .i64 ((IntKind.wrap .i64 ((D.i x2) - (1 : Int))) - (IntKind.wrap .i64 ((D.i (rs r4 0)) - (D.i x1)))))), x4] fun r9 =>
 ((8 : Int) ≠ (0 : Int) ∧ (cond (iLt (IntKind.wrap .i64 ((D.i (rs r9 0)) - (D.i x1))) (IntKind.wrap .i64 ((D.i x2) - (D.i (rs r9 0)))))
 (wpF Try.prog A n 163 [(rs r9 2), x1, (rs r9 0), (D.int (IntKind.wrap .i64 ((D.i x3) - (1 : Int)))), x4] fun r10 =>
 (L163_2 n  m0 (D.int (IntKind.wrap .i64 ((D.i (rs r9 0)) + (1 : Int)))) x2 (D.int (IntKind.wrap .i64 ((D.i x3) - (1 : Int)))) x4 (D.bool (iLe (IntKind.wrap .i64 (Int.tdiv (IntKind.wrap .i64 ((D.i x2) - (D.i x1))) (8 : Int))) (IntKind.wrap .i64 ((D.i (rs r9 0)) - (D.i x1))))) (rs r9 1) (rs r10 0) Q))
 (wpF Try.prog A n 163 [(rs r9 2), (D.int (IntKind.wrap .i64 ((D.i (rs r9 0)) + (1 : Int)))), x2, (D.int (IntKind.wrap .i64 ((D.i x3) - (1 : Int)))), x4] fun r11 =>
 (L163_2 n  m0 x1 (rs r9 0) (D.int (IntKind.wrap .i64 ((D.i x3) - (1 : Int)))) x4 (D.bool (iLe (IntKind.wrap .i64 (Int.tdiv (IntKind.wrap .i64 ((D.i x2) - (D.i x1))) (8 : Int))) (IntKind.wrap .i64 ((D.i x2) - (D.i (rs r9 0)))))) (rs r9 1) (rs r11 0) Q)))))))))
 (wpF Try.prog A n 205 [(rs r6 1), x1, x2, (D.int (IntKind.wrap .i64 ((IntKind.wrap .i64 ((D.i x2) - (1 : Int))) - (IntKind.wrap .i64 ((D.i (rs r4 0)) - (D.i x1)))))), x4] fun r12 =>
 ((8 : Int) ≠ (0 : Int) ∧ (cond (iLt (IntKind.wrap .i64 ((D.i (rs r12 0)) - (D.i x1))) (IntKind.wrap .i64 ((D.i x2) - (D.i (rs r12 0)))))
 (wpF Try.prog A n 163 [(rs r12 2), x1, (rs r12 0), (D.int (IntKind.wrap .i64 ((D.i x3) - (1 : Int)))), x4] fun r13 =>
 (L163_2 n  m0 (D.int (IntKind.wrap .i64 ((D.i (rs r12 0)) + (1 : Int)))) x2 (D.int (IntKind.wrap .i64 ((D.i x3) - (1 : Int)))) x4 (D.bool (iLe (IntKind.wrap .i64 (Int.tdiv (IntKind.wrap .i64 ((D.i x2) - (D.i x1))) (8 : Int))) (IntKind.wrap .i64 ((D.i (rs r12 0)) - (D.i x1))))) (rs r12 1) (rs r13 0) Q))
 (wpF Try.prog A n 163 [(rs r12 2), (D.int (IntKind.wrap .i64 ((D.i (rs r12 0)) + (1 : Int)))), x2, (D.int (IntKind.wrap .i64 ((D.i x3) - (1 : Int)))), x4] fun r14 =>
 (L163_2 n  m0 x1 (rs r12 0) (D.int (IntKind.wrap .i64 ((D.i x3) - (1 : Int)))) x4 (D.bool (iLe (IntKind.wrap .i64 (Int.tdiv (IntKind.wrap .i64 ((D.i x2) - (D.i x1))) (8 : Int))) (IntKind.wrap .i64 ((D.i x2) - (D.i (rs r12 0)))))) (rs r12 1) (rs r14 0) Q))))))))
 (cond (iLt (0 : Int) (D.i x1))
 ((0 ≤ (IntKind.wrap .i64 ((D.i x1) - (1 : Int))) ∧ (IntKind.wrap .i64 ((D.i x1) - (1 : Int))) < (D.len (rs r5 0))) ∧ ((0 ≤ (IntKind.wrap .i64 ((IntKind.wrap .i64 ((D.i x2) - (1 : Int))) - (IntKind.wrap .i64 ((D.i (rs r4 0)) - (D.i x1))))) ∧ (IntKind.wrap .i64 ((IntKind.wrap .i64 ((D.i x2) - (1 : Int))) - (IntKind.wrap .i64 ((D.i (rs r4 0)) - (D.i x1))))) < (D.len (rs r5 0))) ∧ (dynH A (wpF Try.prog A n) x4 [.imm 104, .imm 104] [.val 3 .imm] [(List.getD (D.xs (rs r5 0)) (Int.toNat (IntKind.wrap .i64 ((D.i x1) - (1 : Int)))) D.und), (List.getD (D.xs (rs r5 0)) (Int.toNat (IntKind.wrap .i64 ((IntKind.wrap .i64 ((D.i x2) - (1 : Int))) - (IntKind.wrap .i64 ((D.i (rs r4 0)) - (D.i x1)))))) D.und)] fun r15 =>
 (cond (!(iLt (D.i (rs r15 0)) (0 : Int)))
 (wpF Try.prog A n 204 [(rs r5 0), x1, x2, (D.int (IntKind.wrap .i64 ((IntKind.wrap .i64 ((D.i x2) - (1 : Int))) - (IntKind.wrap .i64 ((D.i (rs r4 0)) - (D.i x1)))))), x4] fun r16 =>
 (L163_2 n  m0 (rs r16 0) x2 (D.int (IntKind.wrap .i64 ((D.i x3) - (1 : Int)))) x4 x10 x11 (rs r16 1) Q))
 (wpF Try.prog A n 205 [(rs r5 0), x1, x2, (D.int (IntKind.wrap .i64 ((IntKind.wrap .i64 ((D.i x2) - (1 : Int))) - (IntKind.wrap .i64 ((D.i (rs r4 0)) - (D.i x1)))))), x4] fun r17 =>
 ((8 : Int) ≠ (0 : Int) ∧ (cond (iLt (IntKind.wrap .i64 ((D.i (rs r17 0)) - (D.i x1))) (IntKind.wrap .i64 ((D.i x2) - (D.i (rs r17 0)))))
 (wpF Try.prog A n 163 [(rs r17 2), x1, (rs r17 0), (D.int (IntKind.wrap .i64 ((D.i x3) - (1 : Int)))), x4] fun r18 =>
 (L163_2 n  m0 (D.int (IntKind.wrap .i64 ((D.i (rs r17 0)) + (1 : Int)))) x2 (D.int (IntKind.wrap .i64 ((D.i x3) - (1 : Int)))) x4 (D.bool (iLe (IntKind.wrap .i64 (Int.tdiv (IntKind.wrap .i64 ((D.i x2) - (D.i x1))) (8 : Int))) (IntKind.wrap .i64 ((D.i (rs r17 0)) - (D.i x1))))) (rs r17 1) (rs r18 0) Q))
 (wpF Try.prog A n 163 [(rs r17 2), (D.int (IntKind.wrap .i64 ((D.i (rs r17 0)) + (1 : Int)))), x2, (D.int (IntKind.wrap .i64 ((D.i x3) - (1 : Int)))), x4] fun r19 =>
 (L163_2 n  m0 x1 (rs r17 0) (D.int (IntKind.wrap .i64 ((D.i x3) - (1 : Int)))) x4 (D.bool (iLe (IntKind.wrap .i64 (Int.tdiv (IntKind.wrap .i64 ((D.i x2) - (D.i x1))) (8 : Int))) (IntKind.wrap .i64 ((D.i x2) - (D.i (rs r17 0)))))) (rs r17 1) (rs r19 0) Q)))))))))
 (wpF Try.prog A n 205 [(rs r5 0), x1, x2, (D.int (IntKind.wrap .i64 ((IntKind.wrap .i64 ((D.i x2) - (1 : Int))) - (IntKind.wrap .i64 ((D.i (rs r4 0)) - (D.i x1)))))), x4] fun r20 =>
 ((8 : Int) ≠ (0 : Int) ∧ (cond (iLt (IntKind.wrap .i64 ((D.i (rs r20 0)) - (D.i x1))) (IntKind.wrap .i64 ((D.i x2) - (D.i (rs r20 0)))))
 (wpF Try.prog A n 163 [(rs r20 2), x1, (rs r20 0), (D.int (IntKind.wrap .i64 ((D.i x3) - (1 : Int)))), x4] fun r21 =>
 (L163_2 n  m0 (D.int (IntKind.wrap .i64 ((D.i (rs r20 0)) + (1 : Int)))) x2 (D.int (IntKind.wrap .i64 ((D.i x3) - (1 : Int)))) x4 (D.bool (iLe (IntKind.wrap .i64 (Int.tdiv (IntKind.wrap .i64 ((D.i x2) - (D.i x1))) (8 : Int))) (IntKind.wrap .i64 ((D.i (rs r20 0)) - (D.i x1))))) (rs r20 1) (rs r21 0) Q))
 (wpF Try.prog A n 163 [(rs r20 2), (D.int (IntKind.wrap .i64 ((D.i (rs r20 0)) + (1 : Int)))), x2, (D.int (IntKind.wrap .i64 ((D.i x3) - (1 : Int)))), x4] fun r22 =>
 (L163_2 n  m0 x1 (rs r20 0) (D.int (IntKind.wrap .i64 ((D.i x3) - (1 : Int)))) x4 (D.bool (iLe (IntKind.wrap .i64 (Int.tdiv (IntKind.wrap .i64 ((D.i x2) - (D.i x1))) (8 : Int))) (IntKind.wrap .i64 ((D.i x2) - (D.i (rs r20 0)))))) (rs r20 1) (rs r22 0) Q)))))))
 (cond (iLt (0 : Int) (D.i x1))
 ((0 ≤ (IntKind.wrap .i64 ((D.i x1) - (1 : Int))) ∧ (IntKind.wrap .i64 ((D.i x1) - (1 : Int))) < (D.len (rs r5 0))) ∧ ((0 ≤ (IntKind.wrap .i64 ((IntKind.wrap .i64 ((D.i x2) - (1 : Int))) - (IntKind.wrap .i64 ((D.i (rs r4 0)) - (D.i x1))))) ∧ (IntKind.wrap .i64 ((IntKind.wrap .i64 ((D.i x2) - (1 : Int))) - (IntKind.wrap .i64 ((D.i (rs r4 0)) - (D.i x1))))) < (D.len (rs r5 0))) ∧ (dynH A (wpF Try.prog A n) x4 [.imm 104, .imm 104] [.val 3 .imm] [(List.getD (D.xs (rs r5 0)) (Int.toNat (IntKind.wrap .i64 ((D.i x1) - (1 : Int)))) D.und), (List.getD (D.xs (rs r5 0)) (Int.toNat (IntKind.wrap .i64 ((IntKind.wrap .i64 ((D.i x2) - (1 : Int))) - (IntKind.wrap .i64 ((D.i (rs r4 0)) - (D.i x1)))))) D.und)] fun r23 =>
 (cond (!(iLt (D.i (rs r23 0)) (0 : Int)))
 (wpF Try.prog A n 204 [(rs r5 0), x1, x2, (D.int (IntKind.wrap .i64 ((IntKind.wrap .i64 ((D.i x2) - (1 : Int))) - (IntKind.wrap .i64 ((D.i (rs r4 0)) - (D.i x1)))))), x4] fun r24 =>
 (L163_2 n  m0 (rs r24 0) x2 (D.int (IntKind.wrap .i64 ((D.i x3) - (1 : Int)))) x4 x10 x11 (rs r24 1) Q))
 (wpF Try.prog A n 205 [(rs r5 0), x1, x2, (D.int (IntKind.wrap .i64 ((IntKind.wrap .i64 ((D.i x2) - (1 : Int))) - (IntKind.wrap .i64 ((D.i (rs r4 0)) - (D.i x1)))))), x4] fun r25 =>
 ((8 : Int) ≠ (0 : Int) ∧ (cond (iLt (IntKind.wrap .i64 ((D.i (rs r25 0)) - (D.i x1))) (IntKind.wrap .i64 ((D.i x2) - (D.i (rs r25 0)))))
 (wpF Try.prog A n 163 [(rs r25 2), x1, (rs r25 0), (D.int (IntKind.wrap .i64 ((D.i x3) - (1 : Int)))), x4] fun r26 =>
 (L163_2 n  m0 (D.int (IntKind.wrap .i64 ((D.i (rs r25 0)) + (1 : Int)))) x2 (D.int (IntKind.wrap .i64 ((D.i x3) - (1 : Int)))) x4 (D.bool (iLe (IntKind.wrap .i64 (Int.tdiv (IntKind.wrap .i64 ((D.i x2) - (D.i x1))) (8 : Int))) (IntKind.wrap .i64 ((D.i (rs r25 0)) - (D.i x1))))) (rs r25 1) (rs r26 0) Q))
 (wpF Try.prog A n 163 [(rs r25 2), (D.int (IntKind.wrap .i64 ((D.i (rs r25 0)) + (1 : Int)))), x2, (D.int (IntKind.wrap .i64 ((D.i x3) - (1 : Int)))), x4] fun r27 =>
 (L163_2 n  m0 x1 (rs r25 0) (D.int (IntKind.wrap .i64 ((D.i x3) - (1 : Int)))) x4 (D.bool (iLe (IntKind.wrap .i64 (Int.tdiv (IntKind.wrap .i64 ((D.i x2) - (D.i x1))) (8 : Int))) (IntKind.wrap .i64 ((D.i x2) - (D.i (rs r25 0)))))) (rs r25 1) (rs r27 0) Q)))))))))
 (wpF Try.prog A n 205 [(rs r5 0), x1, x2, (D.int (IntKind.wrap .i64 ((IntKind.wrap .i64 ((D.i x2) - (1 : Int))) - (IntKind.wrap .i64 ((D.i (rs r4 0)) - (D.i x1)))))), x4] fun r28 =>
 ((8 : Int) ≠ (0 : Int) ∧ (cond (iLt (IntKind.wrap .i64 ((D.i (rs r28 0)) - (D.i x1))) (IntKind.wrap .i64 ((D.i x2) - (D.i (rs r28 0)))))
 (wpF Try.prog A n 163 [(rs r28 2), x1, (rs r28 0), (D.int (IntKind.wrap .i64 ((D.i x3) - (1 : Int)))), x4] fun r29 =>
 (L163_2 n  m0 (D.int (IntKind.wrap .i64 ((D.i (rs r28 0)) + (1 : Int)))) x2 (D.int (IntKind.wrap .i64 ((D.i x3) - (1 : Int)))) x4 (D.bool (iLe (IntKind.wrap .i64 (Int.tdiv (IntKind.wrap .i64 ((D.i x2) - (D.i x1))) (8 : Int))) (IntKind.wrap .i64 ((D.i (rs r28 0)) - (D.i x1))))) (rs r28 1) (rs r29 0) Q))
 (wpF Try.prog A n 163 [(rs r28 2), (D.int (IntKind.wrap .i64 ((D.i (rs r28 0)) + (1 : Int)))), x2, (D.int (IntKind.wrap .i64 ((D.i x3) - (1 : Int)))), x4] fun r30 =>
 (L163_2 n  m0 x1 (rs r28 0) (D.int (IntKind.wrap .i64 ((D.i x3) - (1 : Int)))) x4 (D.bool (iLe (IntKind.wrap .i64 (Int.tdiv (IntKind.wrap .i64 ((D.i x2) - (D.i x1))) (8 : Int))) (IntKind.wrap .i64 ((D.i x2) - (D.i (rs r28 0)))))) (rs r28 1) (rs r30 0) Q)))))))
 (cond (iLt (0 : Int) (D.i x1))
 ((0 ≤ (IntKind.wrap .i64 ((D.i x1) - (1 : Int))) ∧ (IntKind.wrap .i64 ((D.i x1) - (1 : Int))) < (D.len (rs r5 0))) ∧ ((0 ≤ (IntKind.wrap .i64 ((IntKind.wrap .i64 ((D.i x2) - (1 : Int))) - (IntKind.wrap .i64 ((D.i (rs r4 0)) - (D.i x1))))) ∧ (IntKind.wrap .i64 ((IntKind.wrap .i64 ((D.i x2) - (1 : Int))) - (IntKind.wrap .i64 ((D.i (rs r4 0)) - (D.i x1))))) < (D.len (rs r5 0))) ∧ (dynH A (wpF Try.prog A n) x4 [.imm 104, .imm 104] [.val 3 .imm] [(List.getD (D.xs (rs r5 0)) (Int.toNat (IntKind.wrap .i64 ((D.i x1) - (1 : Int)))) D.und), (List.getD (D.xs (rs r5 0)) (Int.toNat (IntKind.wrap .i64 ((IntKind.wrap .i64 ((D.i x2) - (1 : Int))) - (IntKind.wrap .i64 ((D.i (rs r4 0)) - (D.i x1)))))) D.und)] fun r31 =>
 (cond (!(iLt (D.i (rs r31 0)) (0 : Int)))
 (wpF Try.prog A n 204 [(rs r5 0), x1, x2, (D.int (IntKind.wrap .i64 ((IntKind.wrap .i64 ((D.i x2) - (1 : Int))) - (IntKind.wrap .i64 ((D.i (rs r4 0)) - (D.i x1)))))), x4] fun r32 =>
 (L163_2 n  m0 (rs r32 0) x2 (D.int (IntKind.wrap .i64 ((D.i x3) - (1 : Int)))) x4 x10 x11 (rs r32 1) Q))
 (wpF Try.prog A n 205 [(rs r5 0), x1, x2, (D.int (IntKind.wrap .i64 ((IntKind.wrap .i64 ((D.i x2) - (1 : Int))) - (IntKind.wrap .i64 ((D.i (rs r4 0)) - (D.i x1)))))), x4] fun r33 =>
 ((8 : Int) ≠ (0 : Int) ∧ (cond (iLt (IntKind.wrap .i64 ((D.i (rs r33 0)) - (D.i x1))) (IntKind.wrap .i64 ((D.i x2) - (D.i (rs r33 0)))))
 (wpF Try.prog A n 163 [(rs r33 2), x1, (rs r33 0), (D.int (IntKind.wrap .i64 ((D.i x3) - (1 : Int)))), x4] fun r34 =>
 (L163_2 n  m0 (D.int (IntKind.wrap .i64 ((D.i (rs r33 0)) + (1 : Int)))) x2 (D.int (IntKind.wrap .i64 ((D.i x3) - (1 : Int)))) x4 (D.bool (iLe (IntKind.wrap .i64 (Int.tdiv (IntKind.wrap .i64 ((D.i x2) - (D.i x1))) (8 : Int))) (IntKind.wrap .i64 ((D.i (rs r33 0)) - (D.i x1))))) (rs r33 1) (rs r34 0) Q))
 (wpF Try.prog A n 163 [(rs r33 2), (D.int (IntKind.wrap .i64 ((D.i (rs r33 0)) + (1 : Int)))), x2, (D.int (IntKind.wrap .i64 ((D.i x3) - (1 : Int)))), x4] fun r35 =>
 (L163_2 n  m0 x1 (rs r33 0) (D.int (IntKind.wrap .i64 ((D.i x3) - (1 : Int)))) x4 (D.bool (iLe (IntKind.wrap .i64 (Int.tdiv (IntKind.wrap .i64 ((D.i x2) - (D.i x1))) (8 : Int))) (IntKind.wrap .i64 ((D.i x2) - (D.i (rs r33 0)))))) (rs r33 1) (rs r35 0) Q)))))))))
 (wpF Try.prog A n 205 [(rs r5 0), x1, x2, (D.int (IntKind.wrap .i64 ((IntKind.wrap .i64 ((D.i x2) - (1 : Int))) - (IntKind.wrap .i64 ((D.i (rs r4 0)) - (D.i x1)))))), x4] fun r36 =>
 ((8 : Int) ≠ (0 : Int) ∧ (cond (iLt (IntKind.wrap .i64 ((D.i (rs r36 0)) - (D.i x1))) (IntKind.wrap .i64 ((D.i x2) - (D.i (rs r36 0)))))
 (wpF Try.prog A n 163 [(rs r36 2), x1, (rs r36 0), (D.int (IntKind.wrap .i64 ((D.i x3) - (1 : Int)))), x4] fun r37 =>
 (L163_2 n  m0 (D.int (IntKind.wrap .i64 ((D.i (rs r36 0)) + (1 : Int)))) x2 (D.int (IntKind.wrap .i64 ((D.i x3) - (1 : Int)))) x4 (D.bool (iLe (IntKind.wrap .i64 (Int.tdiv (IntKind.wrap .i64 ((D.i x2) - (D.i x1))) (8 : Int))) (IntKind.wrap .i64 ((D.i (rs r36 0)) - (D.i x1))))) (rs r36 1) (rs r37 0) Q))
 (wpF Try.prog A n 163 [(rs r36 2), (D.int (IntKind.wrap .i64 ((D.i (rs r36 0)) + (1 : Int)))), x2, (D.int (IntKind.wrap .i64 ((D.i x3) - (1 : Int)))), x4] fun r38 =>
 (L163_2 n  m0 x1 (rs r36 0) (D.int (IntKind.wrap .i64 ((D.i x3) - (1 : Int)))) x4 (D.bool (iLe (IntKind.wrap .i64 (Int.tdiv (IntKind.wrap .i64 ((D.i x2) - (D.i x1))) (8 : Int))) (IntKind.wrap .i64 ((D.i x2) - (D.i (rs r36 0)))))) (rs r36 1) (rs r38 0) Q))))))))
 (cond (D.b x10)
 (cond (D.b x11)
 (cond (iEq (D.i (rs r4 1)) (1 : Int))
 (wpF Try.prog A n 203 [(rs r3 0), x1, x2, x4] fun r39 =>
 (cond (D.b (rs r39 0))
 (Q [(rs r39 1)])
 (cond (iLt (0 : Int) (D.i x1))
 ((0 ≤ (IntKind.wrap .i64 ((D.i x1) - (1 : Int))) ∧ (IntKind.wrap .i64 ((D.i x1) - (1 : Int))) < (D.len (rs r39 1))) ∧ ((0 ≤ (D.i (rs r4 0)) ∧ (D.i (rs r4 0)) < (D.len (rs r39 1))) ∧ (dynH A (wpF Try.prog A n) x4 [.imm 104, .imm 104] [.val 3 .imm] [(List.getD (D.xs (rs r39 1)) (Int.toNat (IntKind.wrap .i64 ((D.i x1) - (1 : Int)))) D.und), (List.getD (D.xs (rs r39 1)) (Int.toNat (D.i (rs r4 0))) D.und)] fun r40 =>
 (cond (!(iLt (D.i (rs r40 0)) (0 : Int)))
 (wpF Try.prog A n 204 [(rs r39 1), x1, x2, (rs r4 0), x4] fun r41 =>
 (L163_2 n  m0 (rs r41 0) x2 (D.int (IntKind.wrap .i64 ((D.i x3) - (1 : Int)))) x4 x10 x11 (rs r41 1) Q))
 (wpF Try.prog A n 205 [(rs r39 1), x1, x2, (rs r4 0), x4] fun r42 =>
 ((8 : Int) ≠ (0 : Int) ∧ (cond (iLt (IntKind.wrap .i64 ((D.i (rs r42 0)) - (D.i x1))) (IntKind.wrap .i64 ((D.i x2) - (D.i (rs r42 0)))))
 (wpF Try.prog A n 163 [(rs r42 2), x1, (rs r42 0), (D.int (IntKind.wrap .i64 ((D.i x3) - (1 : Int)))), x4] fun r43 =>
 (L163_2 n  m0 (D.int (IntKind.wrap .i64 ((D.i (rs r42 0)) + (1 : Int)))) x2 (D.int (IntKind.wrap .i64 ((D.i x3) - (1 : Int)))) x4 (D.bool (iLe (IntKind.wrap .i64 (Int.tdiv (IntKind.wrap .i64 ((D.i x2) - (D.i x1))) (8 : Int))) (IntKind.wrap .i64 ((D.i (rs r42 0)) - (D.i x1))))) (rs r42 1) (rs r43 0) Q))
 (wpF Try.prog A n 163 [(rs r42 2), (D.int (IntKind.wrap .i64 ((D.i (rs r42 0)) + (1 : Int)))), x2, (D.int (IntKind.wrap .i64 ((D.i x3) - (1 : Int)))), x4] fun r44 =>
 (L163_2 n  m0 x1 (rs r42 0) (D.int (IntKind.wrap .i64 ((D.i x3) - (1 : Int)))) x4 (D.bool (iLe (IntKind.wrap .i64 (Int.tdiv (IntKind.wrap .i64 ((D.i x2) - (D.i x1))) (8 : Int))) (IntKind.wrap .i64 ((D.i x2) - (D.i (rs r42 0)))))) (rs r42 1) (rs r44 0) Q)))))))))
 (wpF Try.prog A n 205 [(rs r39 1), x1, x2, (rs r4 0), x4] fun r45 =>
 ((8 : Int) ≠ (0 : Int) ∧ (cond (iLt (IntKind.wrap .i64 ((D.i (rs r45 0)) - (D.i x1))) (IntKind.wrap .i64 ((D.i x2) - (D.i (rs r45 0)))))
 (wpF Try.prog A n 163 [(rs r45 2), x1, (rs r45 0), (D.int (IntKind.wrap .i64 ((D.i x3) - (1 : Int)))), x4] fun r46 =>
 (L163_2 n  m0 (D.int (IntKind.wrap .i64 ((D.i (rs r45 0)) + (1 : Int)))) x2 (D.int (IntKind.wrap .i64 ((D.i x3) - (1 : Int)))) x4 (D.bool (iLe (IntKind.wrap .i64 (Int.tdiv (IntKind.wrap .i64 ((D.i x2) - (D.i x1))) (8 : Int))) (IntKind.wrap .i64 ((D.i (rs r45 0)) - (D.i x1))))) (rs r45 1) (rs r46 0) Q))
 (wpF Try.prog A n 163 [(rs r45 2), (D.int (IntKind.wrap .i64 ((D.i (rs r45 0)) + (1 : Int)))), x2, (D.int (IntKind.wrap .i64 ((D.i x3) - (1 : Int)))), x4] fun r47 =>
 (L163_2 n  m0 x1 (rs r45 0) (D.int (IntKind.wrap .i64 ((D.i x3) - (1 : Int)))) x4 (D.bool (iLe (IntKind.wrap .i64 (Int.tdiv (IntKind.wrap .i64 ((D.i x2) - (D.i x1))) (8 : Int))) (IntKind.wrap .i64 ((D.i x2) - (D.i (rs r45 0)))))) (rs r45 1) (rs r47 0) Q))))))))
 (cond (iLt (0 : Int) (D.i x1))
 ((0 ≤ (IntKind.wrap .i64 ((D.i x1) - (1 : Int))) ∧ (IntKind.wrap .i64 ((D.i x1) - (1 : Int))) < (D.len (rs r3 0))) ∧ ((0 ≤ (D.i (rs r4 0)) ∧ (D.i (rs r4 0)) < (D.len (rs r3 0))) ∧ (dynH A (wpF Try.prog A n) x4 [.imm 104, .imm 104] [.val 3 .imm] [(List.getD (D.xs (rs r3 0)) (Int.toNat (IntKind.wrap .i64 ((D.i x1) - (1 : Int)))) D.und), (List.getD (D.xs (rs r3 0)) (Int.toNat (D.i (rs r4 0))) D.und)] fun r48 =>
 (cond (!(iLt (D.i (rs r48 0)) (0 : Int)))
 (wpF Try.prog A n 204 [(rs r3 0), x1, x2, (rs r4 0), x4] fun r49 =>
 (L163_2 n  m0 (rs r49 0) x2 (D.int (IntKind.wrap .i64 ((D.i x3) - (1 : Int)))) x4 x10 x11 (rs r49 1) Q))
 (wpF Try.prog A n 205 [(rs r3 0), x1, x2, (rs r4 0), x4] fun r50 =>
 ((8 : Int) ≠ (0 : Int) ∧ (cond (iLt (IntKind.wrap .i64 ((D.i (rs r50 0)) - (D.i x1))) (IntKind.wrap .i64 ((D.i x2) - (D.i (rs r50 0)))))
 (wpF Try.prog A n 163 [(rs r50 2), x1, (rs r50 0), (D.int (IntKind.wrap .i64 ((D.i x3) - (1 : Int)))), x4] fun r51 =>
 (L163_2 n  m0 (D.int (IntKind.wrap .i64 ((D.i (rs r50 0)) + (1 : Int)))) x2 (D.int (IntKind.wrap .i64 ((D.i x3) - (1 : Int)))) x4 (D.bool (iLe (IntKind.wrap .i64 (Int.tdiv (IntKind.wrap .i64 ((D.i x2) - (D.i x1))) (8 : Int))) (IntKind.wrap .i64 ((D.i (rs r50 0)) - (D.i x1))))) (rs r50 1) (rs r51 0) Q))
 (wpF Try.prog A n 163 [(rs r50 2), (D.int (IntKind.wrap .i64 ((D.i (rs r50 0)) + (1 : Int)))), x2, (D.int (IntKind.wrap .i64 ((D.i x3) - (1 : Int)))), x4] fun r52 =>
 (L163_2 n  m0 x1 (rs r50 0) (D.int (IntKind.wrap .i64 ((D.i x3) - (1 : Int)))) x4 (D.bool (iLe (IntKind.wrap .i64 (Int.tdiv (IntKind.wrap .i64 ((D.i x2) - (D.i x1))) (8 : Int))) (IntKind.wrap .i64 ((D.i x2) - (D.i (rs r50 0)))))) (rs r50 1) (rs r52 0) Q)))))))))
 (wpF Try.prog A n 205 [(rs r3 0), x1, x2, (rs r4 0), x4] fun r53 =>
 ((8 : Int) ≠ (0 : Int) ∧ (cond (iLt (IntKind.wrap .i64 ((D.i (rs r53 0)) - (D.i x1))) (IntKind.wrap .i64 ((D.i x2) - (D.i (rs r53 0)))))
 (wpF Try.prog A n 163 [(rs r53 2), x1, (rs r53 0), (D.int (IntKind.wrap .i64 ((D.i x3) - (1 : Int)))), x4] fun r54 =>
 (L163_2 n  m0 (D.int (IntKind.wrap .i64 ((D.i (rs r53 0)) + (1 : Int)))) x2 (D.int (IntKind.wrap .i64 ((D.i x3) - (1 : Int)))) x4 (D.bool (iLe (IntKind.wrap .i64 (Int.tdiv (IntKind.wrap .i64 ((D.i x2) - (D.i x1))) (8 : Int))) (IntKind.wrap .i64 ((D.i (rs r53 0)) - (D.i x1))))) (rs r53 1) (rs r54 0) Q))
 (wpF Try.prog A n 163 [(rs r53 2), (D.int (IntKind.wrap .i64 ((D.i (rs r53 0)) + (1 : Int)))), x2, (D.int (IntKind.wrap .i64 ((D.i x3) - (1 : Int)))), x4] fun r55 =>
 (L163_2 n  m0 x1 (rs r53 0) (D.int (IntKind.wrap .i64 ((D.i x3) - (1 : Int)))) x4 (D.bool (iLe (IntKind.wrap .i64 (Int.tdiv (IntKind.wrap .i64 ((D.i x2) - (D.i x1))) (8 : Int))) (IntKind.wrap .i64 ((D.i x2) - (D.i (rs r53 0)))))) (rs r53 1) (rs r55 0) Q)))))))
 (cond (iLt (0 : Int) (D.i x1))
 ((0 ≤ (IntKind.wrap .i64 ((D.i x1) - (1 : Int))) ∧ (IntKind.wrap .i64 ((D.i x1) - (1 : Int))) < (D.len (rs r3 0))) ∧ ((0 ≤ (D.i (rs r4 0)) ∧ (D.i (rs r4 0)) < (D.len (rs r3 0))) ∧ (dynH A (wpF Try.prog A n) x4 [.imm 104, .imm 104] [.val 3 .imm] [(List.getD (D.xs (rs r3 0)) (Int.toNat (IntKind.wrap .i64 ((D.i x1) - (1 : Int)))) D.und), (List.getD (D.xs (rs r3 0)) (Int.toNat (D.i (rs r4 0))) D.und)] fun r56 =>
 (cond (!(iLt (D.i (rs r56 0)) (0 : Int)))
 (wpF Try.prog A n 204 [(rs r3 0), x1, x2, (rs r4 0), x4] fun r57 =>
 (L163_2 n  m0 (rs r57 0) x2 (D.int (IntKind.wrap .i64 ((D.i x3) - (1 : Int)))) x4 x10 x11 (rs r57 1) Q))
 (wpF Try.prog A n 205 [(rs r3 0), x1, x2, (rs r4 0), x4] fun r58 =>
 ((8 : Int) ≠ (0 : Int) ∧ (cond (iLt (IntKind.wrap .i64 ((D.i (rs r58 0)) - (D.i x1))) (IntKind.wrap .i64 ((D.i x2) - (D.i (rs r58 0)))))
 (wpF Try.prog A n 163 [(rs r58 2), x1, (rs r58 0), (D.int (IntKind.wrap .i64 ((D.i x3) - (1 : Int)))), x4] fun r59 =>
 (L163_2 n  m0 (D.int (IntKind.wrap .i64 ((D.i (rs r58 0)) + (1 : Int)))) x2 (D.int (IntKind.wrap .i64 ((D.i x3) - (1 : Int)))) x4 (D.bool (iLe (IntKind.wrap .i64 (Int.tdiv (IntKind.wrap .i64 ((D.i x2) - (D.i x1))) (8 : Int))) (IntKind.wrap .i64 ((D.i (rs r58 0)) - (D.i x1))))) (rs r58 1) (rs r59 0) Q))
 (wpF Try.prog A n 163 [(rs r58 2), (D.int (IntKind.wrap .i64 ((D.i (rs r58 0)) + (1 : Int)))), x2, (D.int (IntKind.wrap .i64 ((D.i x3) - (1 : Int)))), x4] fun r60 =>
 (L163_2 n  m0 x1 (rs r58 0) (D.int (IntKind.wrap .i64 ((D.i x3) - (1 : Int)))) x4 (D.bool (iLe (IntKind.wrap .i64 (Int.tdiv (IntKind.wrap .i64 ((D.i x2) - (D.i x1))) (8 : Int))) (IntKind.wrap .i64 ((D.i x2) - (D.i (rs r58 0)))))) (rs r58 1) (rs r60 0) Q)))))))))
 (wpF Try.prog A n 205 [(rs r3 0), x1, x2, (rs r4 0), x4] fun r61 =>
 ((8 : Int) ≠ (0 : Int) ∧ (cond (iLt (IntKind.wrap .i64 ((D.i (rs r61 0)) - (D.i x1))) (IntKind.wrap .i64 ((D.i x2) - (D.i (rs r61 0)))))
 (wpF Try.prog A n 163 [(rs r61 2), x1, (rs r61 0), (D.int (IntKind.wrap .i64 ((D.i x3) - (1 : Int)))), x4] fun r62 =>
 (L163_2 n  m0 (D.int (IntKind.wrap .i64 ((D.i (rs r61 0)) + (1 : Int)))) x2 (D.int (IntKind.wrap .i64 ((D.i x3) - (1 : Int)))) x4 (D.bool (iLe (IntKind.wrap .i64 (Int.tdiv (IntKind.wrap .i64 ((D.i x2) - (D.i x1))) (8 : Int))) (IntKind.wrap .i64 ((D.i (rs r61 0)) - (D.i x1))))) (rs r61 1) (rs r62 0) Q))
 (wpF Try.prog A n 163 [(rs r61 2), (D.int (IntKind.wrap .i64 ((D.i (rs r61 0)) + (1 : Int)))), x2, (D.int (IntKind.wrap .i64 ((D.i x3) - (1 : Int)))), x4] fun r63 =>
 (L163_2 n  m0 x1 (rs r61 0) (D.int (IntKind.wrap .i64 ((D.i x3) - (1 : Int)))) x4 (D.bool (iLe (IntKind.wrap .i64 (Int.tdiv (IntKind.wrap .i64 ((D.i x2) - (D.i x1))) (8 : Int))) (IntKind.wrap .i64 ((D.i x2) - (D.i (rs r61 0)))))) (rs r61 1) (rs r63 0) Q)))))))
 (cond (iLt (0 : Int) (D.i x1))
 ((0 ≤ (IntKind.wrap .i64 ((D.i x1) - (1 : Int))) ∧ (IntKind.wrap .i64 ((D.i x1) - (1 : Int))) < (D.len (rs r3 0))) ∧ ((0 ≤ (D.i (rs r4 0)) ∧ (D.i (rs r4 0)) < (D.len (rs r3 0))) ∧ (dynH A (wpF Try.prog A n) x4 [.imm 104, .imm 104] [.val 3 .imm] [(List.getD (D.xs (rs r3 0)) (Int.toNat (IntKind.wrap .i64 ((D.i x1) - (1 : Int)))) D.und), (List.getD (D.xs (rs r3 0)) (Int.toNat (D.i (rs r4 0))) D.und)] fun r64 =>
 (cond (!(iLt (D.i (rs r64 0)) (0 : Int)))
 (wpF Try.prog A n 204 [(rs r3 0), x1, x2, (rs r4 0), x4] fun r65 =>
 (L163_2 n  m0 (rs r65 0) x2 (D.int (IntKind.wrap .i64 ((D.i x3) - (1 : Int)))) x4 x10 x11 (rs r65 1) Q))
 (wpF Try.prog A n 205 [(rs r3 0), x1, x2, (rs r4 0), x4] fun r66 =>
 ((8 : Int) ≠ (0 : Int) ∧ (cond (iLt (IntKind.wrap .i64 ((D.i (rs r66 0)) - (D.i x1))) (IntKind.wrap .i64 ((D.i x2) - (D.i (rs r66 0)))))
 (wpF Try.prog A n 163 [(rs r66 2), x1, (rs r66 0), (D.int (IntKind.wrap .i64 ((D.i x3) - (1 : Int)))), x4] fun r67 =>
 (L163_2 n  m0 (D.int (IntKind.wrap .i64 ((D.i (rs r66 0)) + (1 : Int)))) x2 (D.int (IntKind.wrap .i64 ((D.i x3) - (1 : Int)))) x4 (D.bool (iLe (IntKind.wrap .i64 (Int.tdiv (IntKind.wrap .i64 ((D.i x2) - (D.i x1))) (8 : Int))) (IntKind.wrap .i64 ((D.i (rs r66 0)) - (D.i x1))))) (rs r66 1) (rs r67 0) Q))
 (wpF Try.prog A n 163 [(rs r66 2), (D.int (IntKind.wrap .i64 ((D.i (rs r66 0)) + (1 : Int)))), x2, (D.int (IntKind.wrap .i64 ((D.i x3) - (1 : Int)))), x4] fun r68 =>
 (L163_2 n  m0 x1 (rs r66 0) (D.int (IntKind.wrap .i64 ((D.i x3) - (1 : Int)))) x4 (D.bool (iLe (IntKind.wrap .i64 (Int.tdiv (IntKind.wrap .i64 ((D.i x2) - (D.i x1))) (8 : Int))) (IntKind.wrap .i64 ((D.i x2) - (D.i (rs r66 0)))))) (rs r66 1) (rs r68 0) Q)))))))))
 (wpF Try.prog A n 205 [(rs r3 0), x1, x2, (rs r4 0), x4] fun r69 =>
 ((8 : Int) ≠ (0 : Int) ∧ (cond (iLt (IntKind.wrap .i64 ((D.i (rs r69 0)) - (D.i x1))) (IntKind.wrap .i64 ((D.i x2) - (D.i (rs r69 0)))))
 (wpF Try.prog A n 163 [(rs r69 2), x1, (rs r69 0), (D.int (IntKind.wrap .i64 ((D.i x3) - (1 : Int)))), x4] fun r70 =>
 (L163_2 n  m0 (D.int (IntKind.wrap .i64 ((D.i (rs r69 0)) + (1 : Int)))) x2 (D.int (IntKind.wrap .i64 ((D.i x3) - (1 : Int)))) x4 (D.bool (iLe (IntKind.wrap .i64 (Int.tdiv (IntKind.wrap .i64 ((D.i x2) - (D.i x1))) (8 : Int))) (IntKind.wrap .i64 ((D.i (rs r69 0)) - (D.i x1))))) (rs r69 1) (rs r70 0) Q))
 (wpF Try.prog A n 163 [(rs r69 2), (D.int (IntKind.wrap .i64 ((D.i (rs r69 0)) + (1 : Int)))), x2, (D.int (IntKind.wrap .i64 ((D.i x3) - (1 : Int)))), x4] fun r71 =>
 (L163_2 n  m0 x1 (rs r69 0) (D.int (IntKind.wrap .i64 ((D.i x3) - (1 : Int)))) x4 (D.bool (iLe (IntKind.wrap .i64 (Int.tdiv (IntKind.wrap .i64 ((D.i x2) - (D.i x1))) (8 : Int))) (IntKind.wrap .i64 ((D.i x2) - (D.i (rs r69 0)))))) (rs r69 1) (rs r71 0) Q))))))))))
 (wpF Try.prog A n 201 [xo0, x1, x2, x4] fun r72 =>
 (cond (iEq (D.i (rs r72 1)) (2 : Int))
 (wpF Try.prog A n 202 [xo0, x1, x2, x4] fun r73 =>
 (cond (D.b x10)
 (cond (D.b x11)
 (cond (iEq (1 : Int) (1 : Int))
 (wpF Try.prog A n 203 [(rs r73 0), x1, x2, x4] fun r74 =>
 (cond (D.b (rs r74 0))
 (Q [(rs r74 1)])
 (cond (iLt (0 : Int) (D.i x1))
 ((0 ≤ (IntKind.wrap .i64 ((D.i x1) - (1 : Int))) ∧ (IntKind.wrap .i64 ((D.i x1) - (1 : Int))) < (D.len (rs r74 1))) ∧ ((0 ≤ (IntKind.wrap .i64 ((IntKind.wrap .i64 ((D.i x2) - (1 : Int))) - (IntKind.wrap .i64 ((D.i (rs r72 0)) - (D.i x1))))) ∧ (IntKind.wrap .i64 ((IntKind.wrap .i64 ((D.i x2) - (1 : Int))) - (IntKind.wrap .i64 ((D.i (rs r72 0)) - (D.i x1))))) < (D.len (rs r74 1))) ∧ (dynH A (wpF Try.prog A n) x4 [.imm 104, .imm 104] [.val 3 .imm] [(List.getD (D.xs (rs r74 1)) (Int.toNat (IntKind.wrap .i64 ((D.i x1) - (1 : Int)))) D.und), (List.getD (D.xs (rs r74 1)) (Int.toNat (IntKind.wrap .i64 ((IntKind.wrap .i64 ((D.i x2) - (1 : Int))) - (IntKind.wrap .i64 ((D.i (rs r72 0)) - (D.i x1)))))) D.und)] fun r75 =>
 (cond (!(iLt (D.i (rs r75 0)) (0 : Int)))
 (wpF Try.prog A n 204 [(rs r74 1), x1, x2, (D.int (IntKind.wrap .i64 ((IntKind.wrap .i64 ((D.i x2) - (1 : Int))) - (IntKind.wrap .i64 ((D.i (rs r72 0)) - (D.i x1)))))), x4] fun r76 =>
 (L163_2 n  m0 (rs r76 0) x2 x3 x4 x10 x11 (rs r76 1) Q))
 (wpF Try.prog A n 205 [(rs r74 1), x1, x2, (D.int (IntKind.wrap .i64 ((IntKind.wrap .i64 ((D.i x2) - (1 : Int))) - (IntKind.wrap .i64 ((D.i (rs r72 0)) - (D.i x1)))))), x4] fun r77 =>
 ((8 : Int) ≠ (0 : Int) ∧ (cond (iLt (IntKind.wrap .i64 ((D.i (rs r77 0)) - (D.i x1))) (IntKind.wrap .i64 ((D.i x2) - (D.i (rs r77 0)))))
 (wpF Try.prog A n 163 [(rs r77 2), x1, (rs r77 0), x3, x4] fun r78 =>
 (L163_2 n  m0 (D.int (IntKind.wrap .i64 ((D.i (rs r77 0)) + (1 : Int)))) x2 x3 x4 (D.bool (iLe (IntKind.wrap .i64 (Int.tdiv (IntKind.wrap .i64 ((D.i x2) - (D.i x1))) (8 : Int))) (IntKind.wrap .i64 ((D.i (rs r77 0)) - (D.i x1))))) (rs r77 1) (rs r78 0) Q))
 (wpF Try.prog A n 163 [(rs r77 2), (D.int (IntKind.wrap .i64 ((D.i (rs r77 0)) + (1 : Int)))), x2, x3, x4] fun r79 =>
 (L163_2 n  m0 x1 (rs r77 0) x3 x4 (D.bool (iLe (IntKind.wrap .i64 (Int.tdiv (IntKind.wrap .i64 ((D.i x2) - (D.i x1))) (8 : Int))) (IntKind.wrap .i64 ((D.i x2) - (D.i (rs r77 0)))))) (rs r77 1) (rs r79 0) Q)))))))))
 (wpF Try.prog A n 205 [(rs r74 1), x1, x2, (D.int (IntKind.wrap .i64 ((IntKind.wrap .i64 ((D.i x2) - (1 : Int))) - (IntKind.wrap .i64 ((D.i (rs r72 0)) - (D.i x1)))))), x4] fun r80 =>
 ((8 : Int) ≠ (0 : Int) ∧ (cond (iLt (IntKind.wrap .i64 ((D.i (rs r80 0)) - (D.i x1))) (IntKind.wrap .i64 ((D.i x2) - (D.i (rs r80 0)))))
 (wpF Try.prog A n 163 [(rs r80 2), x1, (rs r80 0), x3, x4] fun r81 =>
 (L163_2 n  m0 (D.int (IntKind.wrap .i64 ((D.i (rs r80 0)) + (1 : Int)))) x2 x3 x4 (D.bool (iLe (IntKind.wrap .i64 (Int.tdiv (IntKind.wrap .i64 ((D.i x2) - (D.i x1))) (8 : Int))) (IntKind.wrap .i64 ((D.i (rs r80 0)) - (D.i x1))))) (rs r80 1) (rs r81 0) Q))
 (wpF Try.prog A n 163 [(rs r80 2), (D.int (IntKind.wrap .i64 ((D.i (rs r80 0)) + (1 : Int)))), x2, x3, x4] fun r82 =>
 (L163_2 n  m0 x1 (rs r80 0) x3 x4 (D.bool (iLe (IntKind.wrap .i64 (Int.tdiv (IntKind.wrap .i64 ((D.i x2) - (D.i x1))) (8 : Int))) (IntKind.wrap .i64 ((D.i x2) - (D.i (rs r80 0)))))) (rs r80 1) (rs r82 0) Q))))))))
 (cond (iLt (0 : Int) (D.i x1))
 ((0 ≤ (IntKind.wrap .i64 ((D.i x1) - (1 : Int))) ∧ (IntKind.wrap .i64 ((D.i x1) - (1 : Int))) < (D.len (rs r73 0))) ∧ ((0 ≤ (IntKind.wrap .i64 ((IntKind.wrap .i64 ((D.i x2) - (1 : Int))) - (IntKind.wrap .i64 ((D.i (rs r72 0)) - (D.i x1))))) ∧ (IntKind.wrap .i64 ((IntKind.wrap .i64 ((D.i x2) - (1 : Int))) - (IntKind.wrap .i64 ((D.i (rs r72 0)) - (D.i x1))))) < (D.len (rs r73 0))) ∧ (dynH A (wpF Try.prog A n) x4 [.imm 104, .imm 104] [.val 3 .imm] [(List.getD (D.xs (rs r73 0)) (Int.toNat (IntKind.wrap .i64 ((D.i x1) - (1 : Int)))) D.und), (List.getD (D.xs (rs r73 0)) (Int.toNat (IntKind.wrap .i64 ((IntKind.wrap .i64 ((D.i x2) - (1 : Int))) - (IntKind.wrap .i64 ((D.i (rs r72 0)) - (D.i x1)))))) D.und)] fun r83 =>
 (cond (!(iLt (D.i (rs r83 0)) (0 : Int)))
 (wpF Try.prog A n 204 [(rs r73 0), x1, x2, (D.int (IntKind.wrap .i64 ((IntKind.wrap .i64 ((D.i x2) - (1 : Int))) - (IntKind.wrap .i64 ((D.i (rs r72 0)) - (D.i x1)))))), x4] fun r84 =>
 (L163_2 n  m0 (rs r84 0) x2 x3 x4 x10 x11 (rs r84 1) Q))
 (wpF Try.prog A n 205 [(rs r73 0), x1, x2, (D.int (IntKind.wrap .i64 ((IntKind.wrap .i64 ((D.i x2) - (1 : Int))) - (IntKind.wrap .i64 ((D.i (rs r72 0)) - (D.i x1)))))), x4] fun r85 =>
 ((8 : Int) ≠ (0 : Int) ∧ (cond (iLt (IntKind.wrap .i64 ((D.i (rs r85 0)) - (D.i x1))) (IntKind.wrap .i64 ((D.i x2) - (D.i (rs r85 0)))))
 (wpF Try.prog A n 163 [(rs r85 2), x1, (rs r85 0), x3, x4] fun r86 =>
 (L163_2 n  m0 (D.int (IntKind.wrap .i64 ((D.i (rs r85 0)) + (1 : Int)))) x2 x3 x4 (D.bool (iLe (IntKind.wrap .i64 (Int.tdiv (IntKind.wrap .i64 ((D.i x2) - (D.i x1))) (8 : Int))) (IntKind.wrap .i64 ((D.i (rs r85 0)) - (D.i x1))))) (rs r85 1) (rs r86 0) Q))
 (wpF Try.prog A n 163 [(rs r85 2), (D.int (IntKind.wrap .i64 ((D.i (rs r85 0)) + (1 : Int)))), x2, x3, x4] fun r87 =>
 (L163_2 n  m0 x1 (rs r85 0) x3 x4 (D.bool (iLe (IntKind.wrap .i64 (Int.tdiv (IntKind.wrap .i64 ((D.i x2) - (D.i x1))) (8 : Int))) (IntKind.wrap .i64 ((D.i x2) - (D.i (rs r85 0)))))) (rs r85 1) (rs r87 0) Q)))))))))
 (wpF Try.prog A n 205 [(rs r73 0), x1, x2, (D.int (IntKind.wrap .i64 ((IntKind.wrap .i64 ((D.i x2) - (1 : Int))) - (IntKind.wrap .i64 ((D.i (rs r72 0)) - (D.i x1)))))), x4] fun r88 =>
 ((8 : Int) ≠ (0 : Int) ∧ (cond (iLt (IntKind.wrap .i64 ((D.i (rs r88 0)) - (D.i x1))) (IntKind.wrap .i64 ((D.i x2) - (D.i (rs r88 0)))))
 (wpF Try.prog A n 163 [(rs r88 2), x1, (rs r88 0), x3, x4] fun r89 =>
 (L163_2 n  m0 (D.int (IntKind.wrap .i64 ((D.i (rs r88 0)) + (1 : Int)))) x2 x3 x4 (D.bool (iLe (IntKind.wrap .i64 (Int.tdiv (IntKind.wrap .i64 ((D.i x2) - (D.i x1))) (8 : Int))) (IntKind.wrap .i64 ((D.i (rs r88 0)) - (D.i x1))))) (rs r88 1) (rs r89 0) Q))
 (wpF Try.prog A n 163 [(rs r88 2), (D.int (IntKind.wrap .i64 ((D.i (rs r88 0)) + (1 : Int)))), x2, x3, x4] fun r90 =>
 (L163_2 n  m0 x1 (rs r88 0) x3 x4 (D.bool (iLe (IntKind.wrap .i64 (Int.tdiv (IntKind.wrap .i64 ((D.i x2) - (D.i x1))) (8 : Int))) (IntKind.wrap .i64 ((D.i x2) - (D.i (rs r88 0)))))) (rs r88 1) (rs r90 0) Q)))))))
 (cond (iLt (0 : Int) (D.i x1))
 ((0 ≤ (IntKind.wrap .i64 ((D.i x1) - (1 : Int))) ∧ (IntKind.wrap .i64 ((D.i x1) - (1 : Int))) < (D.len (rs r73 0))) ∧ ((0 ≤ (IntKind.wrap .i64 ((IntKind.wrap .i64 ((D.i x2) - (1 : Int))) - (IntKind.wrap .i64 ((D.i (rs r72 0)) - (D.i x1))))) ∧ (IntKind.wrap .i64 ((IntKind.wrap .i64 ((D.i x2) - (1 : Int))) - (IntKind.wrap .i64 ((D.i (rs r72 0)) - (D.i x1))))) < (D.len (rs r73 0))) ∧ (dynH A (wpF Try.prog A n) x4 [.imm 104, .imm 104] [.val 3 .imm] [(List.getD (D.xs (rs r73 0)) (Int.toNat (IntKind.wrap .i64 ((D.i x1) - (1 : Int)))) D.und), (List.getD (D.xs (rs r73 0)) (Int.toNat (IntKind.wrap .i64 ((IntKind.wrap .i64 ((D.i x2) - (1 : Int))) - (IntKind.wrap .i64 ((D.i (rs r72 0)) - (D.i x1)))))) D.und)] fun r91 =>
 (cond (!(iLt (D.i (rs r91 0)) (0 : Int)))
 (wpF Try.prog A n 204 [(rs r73 0), x1, x2, (D.int (IntKind.wrap .i64 ((IntKind.wrap .i64 ((D.i x2) - (1 : Int))) - (IntKind.wrap .i64 ((D.i (rs r72 0)) - (D.i x1)))))), x4] fun r92 =>
 (L163_2 n  m0 (rs r92 0) x2 x3 x4 x10 x11 (rs r92 1) Q))
 (wpF Try.prog A n 205 [(rs r73 0), x1, x2, (D.int (IntKind.wrap .i64 ((IntKind.wrap .i64 ((D.i x2) - (1 : Int))) - (IntKind.wrap .i64 ((D.i (rs r72 0)) - (D.i x1)))))), x4] fun r93 =>
 ((8 : Int) ≠ (0 : Int) ∧ (cond (iLt (IntKind.wrap .i64 ((D.i (rs r93 0)) - (D.i x1))) (IntKind.wrap .i64 ((D.i x2) - (D.i (rs r93 0)))))
 (wpF Try.prog A n 163 [(rs r93 2), x1, (rs r93 0), x3, x4] fun r94 =>
 (L163_2 n  m0 (D.int (IntKind.wrap .i64 ((D.i (rs r93 0)) + (1 : Int)))) x2 x3 x4 (D.bool (iLe (IntKind.wrap .i64 (Int.tdiv (IntKind.wrap .i64 ((D.i x2) - (D.i x1))) (8 : Int))) (IntKind.wrap .i64 ((D.i (rs r93 0)) - (D.i x1))))) (rs r93 1) (rs r94 0) Q))
 (wpF Try.prog A n 163 [(rs r93 2), (D.int (IntKind.wrap .i64 ((D.i (rs r93 0)) + (1 : Int)))), x2, x3, x4] fun r95 =>
 (L163_2 n  m0 x1 (rs r93 0) x3 x4 (D.bool (iLe (IntKind.wrap .i64 (Int.tdiv (IntKind.wrap .i64 ((D.i x2) - (D.i x1))) (8 : Int))) (IntKind.wrap .i64 ((D.i x2) - (D.i (rs r93 0)))))) (rs r93 1) (rs r95 0) Q)))))))))
 (wpF Try.prog A n 205 [(rs r73 0), x1, x2, (D.int (IntKind.wrap .i64 ((IntKind.wrap .i64 ((D.i x2) - (1 : Int))) - (IntKind.wrap .i64 ((D.i (rs r72 0)) - (D.i x1)))))), x4] fun r96 =>
 ((8 : Int) ≠ (0 : Int) ∧ (cond (iLt (IntKind.wrap .i64 ((D.i (rs r96 0)) - (D.i x1))) (IntKind.wrap .i64 ((D.i x2) - (D.i (rs r96 0)))))
 (wpF Try.prog A n 163 [(rs r96 2), x1, (rs r96 0), x3, x4] fun r97 =>
 (L163_2 n  m0 (D.int (IntKind.wrap .i64 ((D.i (rs r96 0)) + (1 : Int)))) x2 x3 x4 (D.bool (iLe (IntKind.wrap .i64 (Int.tdiv (IntKind.wrap .i64 ((D.i x2) - (D.i x1))) (8 : Int))) (IntKind.wrap .i64 ((D.i (rs r96 0)) - (D.i x1))))) (rs r96 1) (rs r97 0) Q))
 (wpF Try.prog A n 163 [(rs r96 2), (D.int (IntKind.wrap .i64 ((D.i (rs r96 0)) + (1 : Int)))), x2, x3, x4] fun r98 =>
 (L163_2 n  m0 x1 (rs r96 0) x3 x4 (D.bool (iLe (IntKind.wrap .i64 (Int.tdiv (IntKind.wrap .i64 ((D.i x2) - (D.i x1))) (8 : Int))) (IntKind.wrap .i64 ((D.i x2) - (D.i (rs r96 0)))))) (rs r96 1) (rs r98 0) Q)))))))
 (cond (iLt (0 : Int) (D.i x1))
 ((0 ≤ (IntKind.wrap .i64 ((D.i x1) - (1 : Int))) ∧ (IntKind.wrap .i64 ((D.i x1) - (1 : Int))) < (D.len (rs r73 0))) ∧ ((0 ≤ (IntKind.wrap .i64 ((IntKind.wrap .i64 ((D.i x2) - (1 : Int))) - (IntKind.wrap .i64 ((D.i (rs r72 0)) - (D.i x1))))) ∧ (IntKind.wrap .i64 ((IntKind.wrap .i64 ((D.i x2) - (1 : Int))) - (IntKind.wrap .i64 ((D.i (rs r72 0)) - (D.i x1))))) < (D.len (rs r73 0))) ∧ (dynH A (wpF Try.prog A n) x4 [.imm 104, .imm 104] [.val 3 .imm] [(List.getD (D.xs (rs r73 0)) (Int.toNat (IntKind.wrap .i64 ((D.i x1) - (1 : Int)))) D.und), (List.getD (D.xs (rs r73 0)) (Int.toNat (IntKind.wrap .i64 ((IntKind.wrap .i64 ((D.i x2) - (1 : Int))) - (IntKind.wrap .i64 ((D.i (rs r72 0)) - (D.i x1)))))) D.und)] fun r99 =>
 (cond (!(iLt (D.i (rs r99 0)) (0 : Int)))
 (wpF Try.prog A n 204 [(rs r73 0), x1, x2, (D.int (IntKind.wrap .i64 ((IntKind.wrap .i64 ((D.i x2) - (1 : Int))) - (IntKind.wrap .i64 ((D.i (rs r72 0)) - (D.i x1)))))), x4] fun r100 =>
 (L163_2 n  m0 (rs r100 0) x2 x3 x4 x10 x11 (rs r100 1) Q))
 (wpF Try.prog A n 205 [(rs r73 0), x1, x2, (D.int (IntKind.wrap .i64 ((IntKind.wrap .i64 ((D.i x2) - (1 : Int))) - (IntKind.wrap .i64 ((D.i (rs r72 0)) - (D.i x1)))))), x4] fun r101 =>
 ((8 : Int) ≠ (0 : Int) ∧ (cond (iLt (IntKind.wrap .i64 ((D.i (rs r101 0)) - (D.i x1))) (IntKind.wrap .i64 ((D.i x2) - (D.i (rs r101 0)))))
 (wpF Try.prog A n 163 [(rs r101 2), x1, (rs r101 0), x3, x4] fun r102 =>
 (L163_2 n  m0 (D.int (IntKind.wrap .i64 ((D.i (rs r101 0)) + (1 : Int)))) x2 x3 x4 (D.bool (iLe (IntKind.wrap .i64 (Int.tdiv (IntKind.wrap .i64 ((D.i x2) - (D.i x1))) (8 : Int))) (IntKind.wrap .i64 ((D.i (rs r101 0)) - (D.i x1))))) (rs r101 1) (rs r102 0) Q))
 (wpF Try.prog A n 163 [(rs r101 2), (D.int (IntKind.wrap .i64 ((D.i (rs r101 0)) + (1 : Int)))), x2, x3, x4] fun r103 =>
 (L163_2 n  m0 x1 (rs r101 0) x3 x4 (D.bool (iLe (IntKind.wrap .i64 (Int.tdiv (IntKind.wrap .i64 ((D.i x2) - (D.i x1))) (8 : Int))) (IntKind.wrap .i64 ((D.i x2) - (D.i (rs r101 0)))))) (rs r101 1) (rs r103 0) Q)))))))))
 (wpF Try.prog A n 205 [(rs r73 0), x1, x2, (D.int (IntKind.wrap .i64 ((IntKind.wrap .i64 ((D.i x2) - (1 : Int))) - (IntKind.wrap .i64 ((D.i (rs r72 0)) - (D.i x1)))))), x4] fun r104 =>
 ((8 : Int) ≠ (0 : Int) ∧ (cond (iLt (IntKind.wrap .i64 ((D.i (rs r104 0)) - (D.i x1))) (IntKind.wrap .i64 ((D.i x2) - (D.i (rs r104 0)))))
 (wpF Try.prog A n 163 [(rs r104 2), x1, (rs r104 0), x3, x4] fun r105 =>
 (L163_2 n  m0 (D.int (IntKind.wrap .i64 ((D.i (rs r104 0)) + (1 : Int)))) x2 x3 x4 (D.bool (iLe (IntKind.wrap .i64 (Int.tdiv (IntKind.wrap .i64 ((D.i x2) - (D.i x1))) (8 : Int))) (IntKind.wrap .i64 ((D.i (rs r104 0)) - (D.i x1))))) (rs r104 1) (rs r105 0) Q))
 (wpF Try.prog A n 163 [(rs r104 2), (D.int (IntKind.wrap .i64 ((D.i (rs r104 0)) + (1 : Int)))), x2, x3, x4] fun r106 =>
 (L163_2 n  m0 x1 (rs r104 0) x3 x4 (D.bool (iLe (IntKind.wrap .i64 (Int.tdiv (IntKind.wrap .i64 ((D.i x2) - (D.i x1))) (8 : Int))) (IntKind.wrap .i64 ((D.i x2) - (D.i (rs r104 0)))))) (rs r104 1) (rs r106 0) Q))))))))
 (cond (D.b x10)
 (cond (D.b x11)
 (cond (iEq (D.i (rs r72 1)) (1 : Int))
 (wpF Try.prog A n 203 [xo0, x1, x2, x4] fun r107 =>
 (cond (D.b (rs r107 0))
 (Q [(rs r107 1)])
 (cond (iLt (0 : Int) (D.i x1))
 ((0 ≤ (IntKind.wrap .i64 ((D.i x1) - (1 : Int))) ∧ (IntKind.wrap .i64 ((D.i x1) - (1 : Int))) < (D.len (rs r107 1))) ∧ ((0 ≤ (D.i (rs r72 0)) ∧ (D.i (rs r72 0)) < (D.len (rs r107 1))) ∧ (dynH A (wpF Try.prog A n) x4 [.imm 104, .imm 104] [.val 3 .imm] [(List.getD (D.xs (rs r107 1)) (Int.toNat (IntKind.wrap .i64 ((D.i x1) - (1 : Int)))) D.und), (List.getD (D.xs (rs r107 1)) (Int.toNat (D.i (rs r72 0))) D.und)] fun r108 =>
 (cond (!(iLt (D.i (rs r108 0)) (0 : Int)))
 (wpF Try.prog A n 204 [(rs r107 1), x1, x2, (rs r72 0), x4] fun r109 =>
 (L163_2 n  m0 (rs r109 0) x2 x3 x4 x10 x11 (rs r109 1) Q))
 (wpF Try.prog A n 205 [(rs r107 1), x1, x2, (rs r72 0), x4] fun r110 =>
 ((8 : Int) ≠ (0 : Int) ∧ (cond (iLt (IntKind.wrap .i64 ((D.i (rs r110 0)) - (D.i x1))) (IntKind.wrap .i64 ((D.i x2) - (D.i (rs r110 0)))))
 (wpF Try.prog A n 163 [(rs r110 2), x1, (rs r110 0), x3, x4] fun r111 =>
 (L163_2 n  m0 (D.int (IntKind.wrap .i64 ((D.i (rs r110 0)) + (1 : Int)))) x2 x3 x4 (D.bool (iLe (IntKind.wrap .i64 (Int.tdiv (IntKind.wrap .i64 ((D.i x2) - (D.i x1))) (8 : Int))) (IntKind.wrap .i64 ((D.i (rs r110 0)) - (D.i x1))))) (rs r110 1) (rs r111 0) Q))
 (wpF Try.prog A n 163 [(rs r110 2), (D.int (IntKind.wrap .i64 ((D.i (rs r110 0)) + (1 : Int)))), x2, x3, x4] fun r112 =>
 (L163_2 n  m0 x1 (rs r110 0) x3 x4 (D.bool (iLe (IntKind.wrap .i64 (Int.tdiv (IntKind.wrap .i64 ((D.i x2) - (D.i x1))) (8 : Int))) (IntKind.wrap .i64 ((D.i x2) - (D.i (rs r110 0)))))) (rs r110 1) (rs r112 0) Q)))))))))
 (wpF Try.prog A n 205 [(rs r107 1), x1, x2, (rs r72 0), x4] fun r113 =>
 ((8 : Int) ≠ (0 : Int) ∧ (cond (iLt (IntKind.wrap .i64 ((D.i (rs r113 0)) - (D.i x1))) (IntKind.wrap .i64 ((D.i x2) - (D.i (rs r113 0)))))
 (wpF Try.prog A n 163 [(rs r113 2), x1, (rs r113 0), x3, x4] fun r114 =>
 (L163_2 n  m0 (D.int (IntKind.wrap .i64 ((D.i (rs r113 0)) + (1 : Int)))) x2 x3 x4 (D.bool (iLe (IntKind.wrap .i64 (Int.tdiv (IntKind.wrap .i64 ((D.i x2) - (D.i x1))) (8 : Int))) (IntKind.wrap .i64 ((D.i (rs r113 0)) - (D.i x1))))) (rs r113 1) (rs r114 0) Q))
 (wpF Try.prog A n 163 [(rs r113 2), (D.int (IntKind.wrap .i64 ((D.i (rs r113 0)) + (1 : Int)))), x2, x3, x4] fun r115 =>
 (L163_2 n  m0 x1 (rs r113 0) x3 x4 (D.bool (iLe (IntKind.wrap .i64 (Int.tdiv (IntKind.wrap .i64 ((D.i x2) - (D.i x1))) (8 : Int))) (IntKind.wrap .i64 ((D.i x2) - (D.i (rs r113 0)))))) (rs r113 1) (rs r115 0) Q))))))))
 (cond (iLt (0 : Int) (D.i x1))
 ((0 ≤ (IntKind.wrap .i64 ((D.i x1) - (1 : Int))) ∧ (IntKind.wrap .i64 ((D.i x1) - (1 : Int))) < (D.len xo0)) ∧ ((0 ≤ (D.i (rs r72 0)) ∧ (D.i (rs r72 0)) < (D.len xo0)) ∧ (dynH A (wpF Try.prog A n) x4 [.imm 104, .imm 104] [.val 3 .imm] [(List.getD (D.xs xo0) (Int.toNat (IntKind.wrap .i64 ((D.i x1) - (1 : Int)))) D.und), (List.getD (D.xs xo0) (Int.toNat (D.i (rs r72 0))) D.und)] fun r116 =>
 (cond (!(iLt (D.i (rs r116 0)) (0 : Int)))
 (wpF Try.prog A n 204 [xo0, x1, x2, (rs r72 0), x4] fun r117 =>
 (L163_2 n  m0 (rs r117 0) x2 x3 x4 x10 x11 (rs r117 1) Q))
 (wpF Try.prog A n 205 [xo0, x1, x2, (rs r72 0), x4] fun r118 =>
 ((8 : Int) ≠ (0 : Int) ∧ (cond (iLt (IntKind.wrap .i64 ((D.i (rs r118 0)) - (D.i x1))) (IntKind.wrap .i64 ((D.i x2) - (D.i (rs r118 0)))))
 (wpF Try.prog A n 163 [(rs r118 2), x1, (rs r118 0), x3, x4] fun r119 =>
 (L163_2 n  m0 (D.int (IntKind.wrap .i64 ((D.i (rs r118 0)) + (1 : Int)))) x2 x3 x4 (D.bool (iLe (IntKind.wrap .i64 (Int.tdiv (IntKind.wrap .i64 ((D.i x2) - (D.i x1))) (8 : Int))) (IntKind.wrap .i64 ((D.i (rs r118 0)) - (D.i x1))))) (rs r118 1) (rs r119 0) Q))
 (wpF Try.prog A n 163 [(rs r118 2), (D.int (IntKind.wrap .i64 ((D.i (rs r118 0)) + (1 : Int)))), x2, x3, x4] fun r120 =>
 (L163_2 n  m0 x1 (rs r118 0) x3 x4 (D.bool (iLe (IntKind.wrap .i64 (Int.tdiv (IntKind.wrap .i64 ((D.i x2) - (D.i x1))) (8 : Int))) (IntKind.wrap .i64 ((D.i x2) - (D.i (rs r118 0)))))) (rs r118 1) (rs r120 0) Q)))))))))
 (wpF Try.prog A n 205 [xo0, x1, x2, (rs r72 0), x4] fun r121 =>
 ((8 : Int) ≠ (0 : Int) ∧ (cond (iLt (IntKind.wrap .i64 ((D.i (rs r121 0)) - (D.i x1))) (IntKind.wrap .i64 ((D.i x2) - (D.i (rs r121 0)))))
 (wpF Try.prog A n 163 [(rs r121 2), x1, (rs r121 0), x3, x4] fun r122 =>
 (L163_2 n  m0 (D.int (IntKind.wrap .i64 ((D.i (rs r121 0)) + (1 : Int)))) x2 x3 x4 (D.bool (iLe (IntKind.wrap .i64 (Int.tdiv (IntKind.wrap .i64 ((D.i x2) - (D.i x1))) (8 : Int))) (IntKind.wrap .i64 ((D.i (rs r121 0)) - (D.i x1))))) (rs r121 1) (rs r122 0) Q))
 (wpF Try.prog A n 163 [(rs r121 2), (D.int (IntKind.wrap .i64 ((D.i (rs r121 0)) + (1 : Int)))), x2, x3, x4] fun r123 =>
 (L163_2 n  m0 x1 (rs r121 0) x3 x4 (D.bool (iLe (IntKind.wrap .i64 (Int.tdiv (IntKind.wrap .i64 ((D.i x2) - (D.i x1))) (8 : Int))) (IntKind.wrap .i64 ((D.i x2) - (D.i (rs r121 0)))))) (rs r121 1) (rs r123 0) Q)))))))
 (cond (iLt (0 : Int) (D.i x1))
 ((0 ≤ (IntKind.wrap .i64 ((D.i x1) - (1 : Int))) ∧ (IntKind.wrap .i64 ((D.i x1) - (1 : Int))) < (D.len xo0)) ∧ ((0 ≤ (D.i (rs r72 0)) ∧ (D.i (rs r72 0)) < (D.len xo0)) ∧ (dynH A (wpF Try.prog A n) x4 [.imm 104, .imm 104] [.val 3 .imm] [(List.getD (D.xs xo0) (Int.toNat (IntKind.wrap .i64 ((D.i x1) - (1 : Int)))) D.und), (List.getD (D.xs xo0) (Int.toNat (D.i (rs r72 0))) D.und)] fun r124 =>
 (cond (!(iLt (D.i (rs r124 0)) (0 : Int)))
 (wpF Try.prog A n 204 [xo0, x1, x2, (rs r72 0), x4] fun r125 =>
 (L163_2 n  m0 (rs r125 0) x2 x3 x4 x10 x11 (rs r125 1) Q))
 (wpF Try.prog A n 205 [xo0, x1, x2, (rs r72 0), x4] fun r126 =>
 ((8 : Int) ≠ (0 : Int) ∧ (cond (iLt (IntKind.wrap .i64 ((D.i (rs r126 0)) - (D.i x1))) (IntKind.wrap .i64 ((D.i x2) - (D.i (rs r126 0)))))
 (wpF Try.prog A n 163 [(rs r126 2), x1, (rs r126 0), x3, x4] fun r127 =>
 (L163_2 n  m0 (D.int (IntKind.wrap .i64 ((D.i (rs r126 0)) + (1 : Int)))) x2 x3 x4 (D.bool (iLe (IntKind.wrap .i64 (Int.tdiv (IntKind.wrap .i64 ((D.i x2) - (D.i x1))) (8 : Int))) (IntKind.wrap .i64 ((D.i (rs r126 0)) - (D.i x1))))) (rs r126 1) (rs r127 0) Q))
 (wpF Try.prog A n 163 [(rs r126 2), (D.int (IntKind.wrap .i64 ((D.i (rs r126 0)) + (1 : Int)))), x2, x3, x4] fun r128 =>
 (L163_2 n  m0 x1 (rs r126 0) x3 x4 (D.bool (iLe (IntKind.wrap .i64 (Int.tdiv (IntKind.wrap .i64 ((D.i x2) - (D.i x1))) (8 : Int))) (IntKind.wrap .i64 ((D.i x2) - (D.i (rs r126 0)))))) (rs r126 1) (rs r128 0) Q)))))))))
 (wpF Try.prog A n 205 [xo0, x1, x2, (rs r72 0), x4] fun r129 =>
 ((8 : Int) ≠ (0 : Int) ∧ (cond (iLt (IntKind.wrap .i64 ((D.i (rs r129 0)) - (D.i x1))) (IntKind.wrap .i64 ((D.i x2) - (D.i (rs r129 0)))))
 (wpF Try.prog A n 163 [(rs r129 2), x1, (rs r129 0), x3, x4] fun r130 =>
 (L163_2 n  m0 (D.int (IntKind.wrap .i64 ((D.i (rs r129 0)) + (1 : Int)))) x2 x3 x4 (D.bool (iLe (IntKind.wrap .i64 (Int.tdiv (IntKind.wrap .i64 ((D.i x2) - (D.i x1))) (8 : Int))) (IntKind.wrap .i64 ((D.i (rs r129 0)) - (D.i x1))))) (rs r129 1) (rs r130 0) Q))
 (wpF Try.prog A n 163 [(rs r129 2), (D.int (IntKind.wrap .i64 ((D.i (rs r129 0)) + (1 : Int)))), x2, x3, x4] fun r131 =>
 (L163_2 n  m0 x1 (rs r129 0) x3 x4 (D.bool (iLe (IntKind.wrap .i64 (Int.tdiv (IntKind.wrap .i64 ((D.i x2) - (D.i x1))) (8 : Int))) (IntKind.wrap .i64 ((D.i x2) - (D.i (rs r129 0)))))) (rs r129 1) (rs r131 0) Q)))))))
 (cond (iLt (0 : Int) (D.i x1))
 ((0 ≤ (IntKind.wrap .i64 ((D.i x1) - (1 : Int))) ∧ (IntKind.wrap .i64 ((D.i x1) - (1 : Int))) < (D.len xo0)) ∧ ((0 ≤ (D.i (rs r72 0)) ∧ (D.i (rs r72 0)) < (D.len xo0)) ∧ (dynH A (wpF Try.prog A n) x4 [.imm 104, .imm 104] [.val 3 .imm] [(List.getD (D.xs xo0) (Int.toNat (IntKind.wrap .i64 ((D.i x1) - (1 : Int)))) D.und), (List.getD (D.xs xo0) (Int.toNat (D.i (rs r72 0))) D.und)] fun r132 =>
 (cond (!(iLt (D.i (rs r132 0)) (0 : Int)))
 (wpF Try.prog A n 204 [xo0, x1, x2, (rs r72 0), x4] fun r133 =>
 (L163_2 n  m0 (rs r133 0) x2 x3 x4 x10 x11 (rs r133 1) Q))
 (wpF Try.prog A n 205 [xo0, x1, x2, (rs r72 0), x4] fun r134 =>
 ((8 : Int) ≠ (0 : Int) ∧ (cond (iLt (IntKind.wrap .i64 ((D.i (rs r134 0)) - (D.i x1))) (IntKind.wrap .i64 ((D.i x2) - (D.i (rs r134 0)))))
 (wpF Try.prog A n 163 [(rs r134 2), x1, (rs r134 0), x3, x4] fun r135 =>
 (L163_2 n  m0 (D.int (IntKind.wrap .i64 ((D.i (rs r134 0)) + (1 : Int)))) x2 x3 x4 (D.bool (iLe (IntKind.wrap .i64 (Int.tdiv (IntKind.wrap .i64 ((D.i x2) - (D.i x1))) (8 : Int))) (IntKind.wrap .i64 ((D.i (rs r134 0)) - (D.i x1))))) (rs r134 1) (rs r135 0) Q))
 (wpF Try.prog A n 163 [(rs r134 2), (D.int (IntKind.wrap .i64 ((D.i (rs r134 0)) + (1 : Int)))), x2, x3, x4] fun r136 =>
 (L163_2 n  m0 x1 (rs r134 0) x3 x4 (D.bool (iLe (IntKind.wrap .i64 (Int.tdiv (IntKind.wrap .i64 ((D.i x2) - (D.i x1))) (8 : Int))) (IntKind.wrap .i64 ((D.i x2) - (D.i (rs r134 0)))))) (rs r134 1) (rs r136 0) Q)))))))))
 (wpF Try.prog A n 205 [xo0, x1, x2, (rs r72 0), x4] fun r137 =>
 ((8 : Int) ≠ (0 : Int) ∧ (cond (iLt (IntKind.wrap .i64 ((D.i (rs r137 0)) - (D.i x1))) (IntKind.wrap .i64 ((D.i x2) - (D.i (rs r137 0)))))
 (wpF Try.prog A n 163 [(rs r137 2), x1, (rs r137 0), x3, x4] fun r138 =>
 (L163_2 n  m0 (D.int (IntKind.wrap .i64 ((D.i (rs r137 0)) + (1 : Int)))) x2 x3 x4 (D.bool (iLe (IntKind.wrap .i64 (Int.tdiv (IntKind.wrap .i64 ((D.i x2) - (D.i x1))) (8 : Int))) (IntKind.wrap .i64 ((D.i (rs r137 0)) - (D.i x1))))) (rs r137 1) (rs r138 0) Q))
 (wpF Try.prog A n 163 [(rs r137 2), (D.int (IntKind.wrap .i64 ((D.i (rs r137 0)) + (1 : Int)))), x2, x3, x4] fun r139 =>
 (L163_2 n  m0 x1 (rs r137 0) x3 x4 (D.bool (iLe (IntKind.wrap .i64 (Int.tdiv (IntKind.wrap .i64 ((D.i x2) - (D.i x1))) (8 : Int))) (IntKind.wrap .i64 ((D.i x2) - (D.i (rs r137 0)))))) (rs r137 1) (rs r139 0) Q)))))))))))) := by kernel_rfl
theorem E163 (n : Nat) (d0 d1 d2 d3 d4 : D) (Q : List D → Prop) : wpF Try.prog A (n + 1) 163 [d0, d1, d2, d3, d4] Q =
 (L163_2 n  n d1 d2 d3 d4 (D.bool true) (D.bool true) d0 Q) := by kernel_rfl
attribute [irreducible] L163_2

/- slices.SortFunc[[]timebound/api.Span,timebound/api.Span] -/
theorem E101 (n : Nat) (d0 d1 : D) (Q : List D → Prop) : wpF Try.prog A (n + 1) 101 [d0, d1] Q =
 (wpF Try.prog A n 88 [(D.int (IntKind.wrap .u64 (D.len d0)))] fun r1 =>
 (wpF Try.prog A n 163 [d0, (D.int (0 : Int)), (D.int (D.len d0)), (rs r1 0), d1] fun r2 =>
 (Q [(rs r2 0)]))) := by kernel_rfl

/- timebound/scratch.count$1 -/
theorem E102 (n : Nat) (d0 d1 : D) (Q : List D → Prop) : wpF Try.prog A (n + 1) 102 [d0, d1] Q =
 (Q [(D.int (IntKind.wrap .i64 ((D.i (D.fld d0 0)) - (D.i (D.fld d1 0)))))]) := by kernel_rfl

/- timebound/scratch.count -/
def L59_5 (n m0 : Nat) (x3 : D) (x4 : D) (x13 : D) (x14 : D) (xo9 : D) (Q : List D → Prop) : Prop :=
  loopK (wpC Try.prog A (hnd Try.prog A n) 59 n (cA (cA (cB (cA (cB (cB (cB (cB (bodyOf Try.f59)))))))))) (nmK Try.prog (A.loop 59 5)) m0 { sl := [(3, .imm 3 x3), (4, .imm 3 x4), (12, .val 9 [] 48), (13, .imm 3 x13), (14, .imm 3 x14)], ob := [(9, some ⟨false, 48, (.slc .imm none), xo9⟩)] } (kBlock 0 (kSeq (wpC Try.prog A (hnd Try.prog A n) 59 n (cB (cB (cB (cB (cB (bodyOf Try.f59))))))) (kEnd Try.prog Try.f59 (A.sig 59) Q)))
theorem L59_5_eq (n m0 : Nat) (x3 : D) (x4 : D) (x13 : D) (x14 : D) (xo9 : D) (Q : List D → Prop) : L59_5 n (m0 + 1) x3 x4 x13 x14 xo9 Q =
 (cond (iLt (D.i x14) (D.i x13))
 ((0 ≤ (D.i x14) ∧ (D.i x14) < (D.len xo9)) ∧ (True ∧ (cond (iLt (minmax true (D.i x4) (D.i (D.fld (List.getD (D.xs xo9) (Int.toNat (D.i x14)) D.und) 0))) (D.i (D.fld (List.getD (D.xs xo9) (Int.toNat (D.i x14)) D.und) 1)))
 (L59_5 n  m0 (D.int (IntKind.wrap .i64 ((IntKind.wrap .i64 ((D.i x3) + (D.i (D.fld (List.getD (D.xs xo9) (Int.toNat (D.i x14)) D.und) 1)))) - (minmax true (D.i x4) (D.i (D.fld (List.getD (D.xs xo9) (Int.toNat (D.i x14)) D.und) 0)))))) (D.fld (List.getD (D.xs xo9) (Int.toNat (D.i x14)) D.und) 1) x13 (D.int (IntKind.wrap .i64 ((D.i x14) + (1 : Int)))) xo9 Q)
 (L59_5 n  m0 x3 x4 x13 (D.int (IntKind.wrap .i64 ((D.i x14) + (1 : Int)))) xo9 Q))))
 (Q [x3])) := by kernel_rfl
theorem E59 (n : Nat) (d0 : D) (Q : List D → Prop) : wpF Try.prog A (n + 1) 59 [d0] Q =
 (wpF Try.prog A n 56 [d0] fun r1 =>
 (wpF Try.prog A n 101 [(rs r1 0), (D.fn 102 [])] fun r2 =>
 (L59_5 n  n (D.int (0 : Int)) (D.int (0 : Int)) (D.int (D.len (rs r2 0))) (D.int (0 : Int)) (rs r2 0) Q))) := by kernel_rfl
attribute [irreducible] L59_5

/- timebound/scratch.Words -/
theorem E30 (n : Nat) (d0 : D) (Q : List D → Prop) : wpF Try.prog A (n + 1) 30 [d0] Q =
 (wpF Try.prog A n 59 [(D.fld d0 11)] fun r1 =>
 (wpF Try.prog A n 59 [(D.fld d0 12)] fun r2 =>
 (Q [(D.int (IntKind.wrap .i64 ((D.i (rs r1 0)) + (D.i (rs r2 0)))))]))) := by kernel_rfl

/- timebound/timeboundref36.Words -/
def L31_3 (n m0 : Nat) (x3 : D) (x6 : D) (xo1 : D) (Q : List D → Prop) : Prop :=
  loopK (wpC Try.prog A (hnd Try.prog A n) 31 n (cA (cA (cB (cA (cB (cB (bodyOf Try.f31)))))))) (nmK Try.prog (A.loop 31 3)) m0 { sl := [(1, .ptr 1 [] 50), (3, .imm 3 x3), (6, .imm 3 x6)], ob := [(1, some ⟨true, 50, .imm, xo1⟩)] } (kBlock 0 (kSeq (wpC Try.prog A (hnd Try.prog A n) 31 n (cB (cB (cB (bodyOf Try.f31))))) (kEnd Try.prog Try.f31 (A.sig 31) Q)))
def L31_9 (n m0 : Nat) (x3 : D) (x16 : D) (xo1 : D) (Q : List D → Prop) : Prop :=
  loopK (wpC Try.prog A (hnd Try.prog A n) 31 n (cA (cA (cB (cA (cB (cB (cB (bodyOf Try.f31))))))))) (nmK Try.prog (A.loop 31 9)) m0 { sl := [(1, .ptr 1 [] 50), (3, .imm 3 x3), (16, .imm 3 x16)], ob := [(1, some ⟨true, 50, .imm, xo1⟩)] } (kBlock 2 (kSeq (wpC Try.prog A (hnd Try.prog A n) 31 n (cB (cB (cB (cB (bodyOf Try.f31)))))) (kEnd Try.prog Try.f31 (A.sig 31) Q)))
theorem L31_3_eq (n m0 : Nat) (x3 : D) (x6 : D) (xo1 : D) (Q : List D → Prop) : L31_3 n (m0 + 1) x3 x6 xo1 Q =
 (cond (iLt (D.i x6) (1024 : Int))
 (wpF Try.prog A n 50 [(D.fld xo1 11), x6] fun r1 =>
 (cond (D.b (rs r1 0))
 (L31_3 n  m0 (D.int (IntKind.wrap .i64 ((D.i x3) + (1 : Int)))) (D.int (IntKind.wrap .i64 ((D.i x6) + (1 : Int)))) xo1 Q)
 (L31_3 n  m0 x3 (D.int (IntKind.wrap .i64 ((D.i x6) + (1 : Int)))) xo1 Q)))
 (L31_9 n  n x3 (D.int (0 : Int)) xo1 Q)) := by kernel_rfl
theorem L31_9_eq (n m0 : Nat) (x3 : D) (x16 : D) (xo1 : D) (Q : List D → Prop) : L31_9 n (m0 + 1) x3 x16 xo1 Q =
 (cond (iLt (D.i x16) (1024 : Int))
 (wpF Try.prog A n 50 [(D.fld xo1 12), x16] fun r2 =>
 (cond (D.b (rs r2 0))
 (L31_9 n  m0 (D.int (IntKind.wrap .i64 ((D.i x3) + (1 : Int)))) (D.int (IntKind.wrap .i64 ((D.i x16) + (1 : Int)))) xo1 Q)
 (L31_9 n  m0 x3 (D.int (IntKind.wrap .i64 ((D.i x16) + (1 : Int)))) xo1 Q)))
 (Q [x3])) := by kernel_rfl
theorem E31 (n : Nat) (d0 : D) (Q : List D → Prop) : wpF Try.prog A (n + 1) 31 [d0] Q =
 (L31_3 n  n (D.int (0 : Int)) (D.int (0 : Int)) d0 Q) := by kernel_rfl
attribute [irreducible] L31_3 L31_9

/- timebound/timeboundlaw36.three -/
theorem E61 (n : Nat)  (Q : List D → Prop) : wpF Try.prog A (n + 1) 61 [] Q =
 (Q [(D.slc [(D.agg [(D.bool true), (D.agg [(D.int (0 : Int)), (D.int (3 : Int))]), (D.int (3 : Int)), (D.int (5 : Int))]), (D.agg [(D.bool true), (D.agg [(D.int (3 : Int)), (D.int (5 : Int))]), (D.int (2 : Int)), (D.int (3 : Int))]), (D.agg [(D.bool false), (D.agg [(D.int (0 : Int)), (D.int (2 : Int))]), (D.int (2 : Int)), (D.int (3 : Int))])])]) := by kernel_rfl

/- timebound/scratch.Value -/
def L103_5 (n m0 : Nat) (x0 : D) (x7 : D) (x8 : D) (x21 : D) (x22 : D) (x23 : D) (Q : List D → Prop) : Prop :=
  loopK (wpC Try.prog A (hnd Try.prog A n) 103 n (cA (cA (cB (cA (cB (cB (cB (bodyOf Try.f103))))))))) (nmK Try.prog (A.loop 103 5)) m0 { sl := [(0, .imm 69 x0), (7, .imm 3 x7), (8, .imm 3 x8), (21, .imm 29 x21), (22, .imm 3 x22), (23, .imm 3 x23)], ob := [] } (kBlock 0 (kSeq (wpC Try.prog A (hnd Try.prog A n) 103 n (cB (cB (cB (cB (bodyOf Try.f103)))))) (kEnd Try.prog Try.f103 (A.sig 103) Q)))
theorem L103_5_eq (n m0 : Nat) (x0 : D) (x7 : D) (x8 : D) (x21 : D) (x22 : D) (x23 : D) (Q : List D → Prop) : L103_5 n (m0 + 1) x0 x7 x8 x21 x22 x23 Q =
 (cond (iLt (D.i x23) (D.i x22))
 ((0 ≤ (D.i x23) ∧ (D.i x23) < (D.len x21)) ∧ ((0 ≤ (D.i (D.el x21 (D.i x23))) ∧ (D.i (D.el x21 (D.i x23))) < (D.len x0)) ∧ ((0 ≤ (D.i (D.el x21 (D.i x23))) ∧ (D.i (D.el x21 (D.i x23))) < (D.len x0)) ∧ (L103_5 n  m0 x0 (D.int (IntKind.wrap .i64 ((D.i x7) + (D.i (D.fld (D.el x0 (D.i (D.el x21 (D.i x23)))) 3))))) (D.int (IntKind.wrap .i64 ((D.i x8) + (D.i (D.fld (D.el x0 (D.i (D.el x21 (D.i x23)))) 2))))) x21 x22 (D.int (IntKind.wrap .i64 ((D.i x23) + (1 : Int)))) Q))))
 (Q [x7, x8, (D.bool true)])) := by kernel_rfl
theorem E103 (n : Nat) (d0 d1 : D) (Q : List D → Prop) : wpF Try.prog A (n + 1) 103 [d0, d1] Q =
 (wpF Try.prog A n 54 [d0] fun r1 =>
 (cond (!(D.b (rs r1 0)))
 (Q [(D.int (0 : Int)), (D.int (0 : Int)), (D.bool false)])
 (wpF Try.prog A n 55 [(D.int (D.len d0)), d1] fun r2 =>
 (cond (!(D.b (rs r2 0)))
 (Q [(D.int (0 : Int)), (D.int (0 : Int)), (D.bool false)])
 (L103_5 n  n d0 (D.int (0 : Int)) (D.int (0 : Int)) d1 (D.int (D.len d1)) (D.int (0 : Int)) Q))))) := by kernel_rfl
attribute [irreducible] L103_5

/- cmp.Compare[int] -/
theorem E164 (n : Nat) (d0 d1 : D) (Q : List D → Prop) : wpF Try.prog A (n + 1) 164 [d0, d1] Q =
 (wpF Try.prog A n 197 [d0] fun r1 =>
 (wpF Try.prog A n 197 [d1] fun r2 =>
 (cond (D.b (rs r1 0))
 (cond (D.b (rs r2 0))
 (Q [(D.int (0 : Int))])
 (Q [(D.int (-1 : Int))]))
 (cond (D.b (rs r2 0))
 (Q [(D.int (1 : Int))])
 (cond (iLt (D.i d0) (D.i d1))
 (Q [(D.int (-1 : Int))])
 (cond (iLt (D.i d1) (D.i d0))
 (Q [(D.int (1 : Int))])
 (Q [(D.int (0 : Int))]))))))) := by kernel_rfl

/- slices.Compare[[]int,int] -/
def L104_2 (n m0 : Nat) (x0 : D) (x1 : D) (x9 : D) (x10 : D) (x11 : D) (Q : List D → Prop) : Prop :=
  loopK (wpC Try.prog A (hnd Try.prog A n) 104 n (cA (cA (cB (cA (cB (bodyOf Try.f104))))))) (nmK Try.prog (A.loop 104 2)) m0 { sl := [(0, .imm 29 x0), (1, .imm 29 x1), (9, .imm 29 x9), (10, .imm 3 x10), (11, .imm 3 x11)], ob := [] } (kBlock 0 (kSeq (wpC Try.prog A (hnd Try.prog A n) 104 n (cB (cB (bodyOf Try.f104)))) (kEnd Try.prog Try.f104 (A.sig 104) Q)))
theorem L104_2_eq (n m0 : Nat) (x0 : D) (x1 : D) (x9 : D) (x10 : D) (x11 : D) (Q : List D → Prop) : L104_2 n (m0 + 1) x0 x1 x9 x10 x11 Q =
 (cond (iLt (D.i x11) (D.i x10))
 ((0 ≤ (D.i x11) ∧ (D.i x11) < (D.len x9)) ∧ (cond (iLe (D.len x1) (D.i x11))
 (Q [(D.int (1 : Int))])
 ((0 ≤ (D.i x11) ∧ (D.i x11) < (D.len x1)) ∧ (wpF Try.prog A n 164 [(D.el x9 (D.i x11)), (D.el x1 (D.i x11))] fun r1 =>
 (cond (!(iEq (D.i (rs r1 0)) (0 : Int)))
 (Q [(rs r1 0)])
 (L104_2 n  m0 x0 x1 x9 x10 (D.int (IntKind.wrap .i64 ((D.i x11) + (1 : Int)))) Q))))))
 (cond (iLt (D.len x0) (D.len x1))
 (Q [(D.int (-1 : Int))])
 (Q [(D.int (0 : Int))]))) := by kernel_rfl
theorem E104 (n : Nat) (d0 d1 : D) (Q : List D → Prop) : wpF Try.prog A (n + 1) 104 [d0, d1] Q =
 (L104_2 n  n d0 d1 d0 (D.int (D.len d0)) (D.int (0 : Int)) Q) := by kernel_rfl
attribute [irreducible] L104_2

/- timebound/scratch.Best -/
def L60_8 (n m0 : Nat) (x0 : D) (x1 : D) (x7 : D) (x8 : D) (x26 : D) (x27 : D) (xo6 : D) (Q : List D → Prop) : Prop :=
  loopK (wpC Try.prog A (hnd Try.prog A n) 60 n (cA (cA (cB (cA (cB (cB (cB (cB (cB (bodyOf Try.f60))))))))))) (nmK Try.prog (A.loop 60 8)) m0 { sl := [(0, .imm 69 x0), (1, .imm 3 x1), (6, .val 6 [] 29), (7, .imm 3 x7), (8, .imm 3 x8), (26, .imm 3 x26), (27, .imm 3 x27)], ob := [(6, some ⟨false, 29, (.slc .imm none), xo6⟩)] } (kBlock 0 (kSeq (wpC Try.prog A (hnd Try.prog A n) 60 n (cB (cB (cB (cB (cB (cB (bodyOf Try.f60)))))))) (kEnd Try.prog Try.f60 (A.sig 60) Q)))
def L60_12 (n m0 m1 : Nat) (x0 : D) (x1 : D) (x7 : D) (x8 : D) (x9 : D) (x26 : D) (x27 : D) (x31 : D) (x32 : D) (xo6 : D) (xo10 : D) (Q : List D → Prop) : Prop :=
  loopK (wpC Try.prog A (hnd Try.prog A n) 60 n (cA (cA (cB (cA (cB (cB (cA (cA (cB (cB (cA (cA (cB (cA (cB (cB (cB (cB (cB (bodyOf Try.f60))))))))))))))))))))) (nmK Try.prog (A.loop 60 12)) m1 { sl := [(0, .imm 69 x0), (1, .imm 3 x1), (6, .val 6 [] 29), (7, .imm 3 x7), (8, .imm 3 x8), (9, .imm 3 x9), (10, .val 10 [] 29), (26, .imm 3 x26), (27, .imm 3 x27), (31, .imm 3 x31), (32, .imm 3 x32)], ob := [(6, some ⟨false, 29, (.slc .imm none), xo6⟩), (10, some ⟨false, 29, (.slc .imm none), xo10⟩)] } (kBlock 2 (kSeq (wpC Try.prog A (hnd Try.prog A n) 60 n (cB (cB (cB (cA (cA (cB (cB (cA (cA (cB (cA (cB (cB (cB (cB (cB (bodyOf Try.f60)))))))))))))))))) (kBlock 1 (kSeq (wpC Try.prog A (hnd Try.prog A n) 60 n (cB (cB (cB (cA (cA (cB (cA (cB (cB (cB (cB (cB (bodyOf Try.f60)))))))))))))) (kLoop (nmK Try.prog (A.loop 60 8)) (fun g => loopK (wpC Try.prog A (hnd Try.prog A n) 60 n (cA (cA (cB (cA (cB (cB (cB (cB (cB (bodyOf Try.f60))))))))))) (nmK Try.prog (A.loop 60 8)) m0 g (kBlock 0 (kSeq (wpC Try.prog A (hnd Try.prog A n) 60 n (cB (cB (cB (cB (cB (cB (bodyOf Try.f60)))))))) (kEnd Try.prog Try.f60 (A.sig 60) Q)))) (kBlock 0 (kSeq (wpC Try.prog A (hnd Try.prog A n) 60 n (cB (cB (cB (cB (cB (cB (bodyOf Try.f60)))))))) (kEnd Try.prog Try.f60 (A.sig 60) Q))))))))
theorem L60_8_eq (n m0 : Nat) (x0 : D) (x1 : D) (x7 : D) (x8 : D) (x26 : D) (x27 : D) (xo6 : D) (Q : List D → Prop) : L60_8 n (m0 + 1) x0 x1 x7 x8 x26 x27 xo6 Q =
 (cond (iLt (D.i x27) (D.i x26))
 (L60_12 n m0 n x0 x1 x7 x8 x27 x26 x27 (D.int (D.len x0)) (D.int (0 : Int)) xo6 (D.slc ([] : List D)) Q)
 (Q [xo6, (D.int (0 : Int))])) := by kernel_rfl
theorem L60_12_eq (n m0 m1 : Nat) (x0 : D) (x1 : D) (x7 : D) (x8 : D) (x9 : D) (x26 : D) (x27 : D) (x31 : D) (x32 : D) (xo6 : D) (xo10 : D) (Q : List D → Prop) : L60_12 n m0 (m1 + 1) x0 x1 x7 x8 x9 x26 x27 x31 x32 xo6 xo10 Q =
 (cond (iLt (D.i x32) (D.i x31))
 ((0 : Int) ≤ (D.i x32) ∧ (cond (iEq (IntKind.wrap .i64 (((BitVec.ofInt 64 (Int.fdiv (D.i x9) (2 ^ (min (Int.toNat (D.i x32)) 64)))) &&& (BitVec.ofInt 64 (1 : Int))).toNat : Int)) (1 : Int))
 (room (((List.length (D.xs xo10) : Nat) : Int) + ((List.length [x32] : Nat) : Int)) 8 ∧ (L60_12 n m0 m1 x0 x1 x7 x8 x9 x26 x27 x31 (D.int (IntKind.wrap .i64 ((D.i x32) + (1 : Int)))) xo6 (D.slc ((D.xs xo10) ++ [x32])) Q))
 (L60_12 n m0 m1 x0 x1 x7 x8 x9 x26 x27 x31 (D.int (IntKind.wrap .i64 ((D.i x32) + (1 : Int)))) xo6 xo10 Q)))
 (wpF Try.prog A n 103 [x0, xo10] fun r2 =>
 (cond (iLt (D.i x1) (D.i (rs r2 1)))
 (L60_8 n  m0 x0 x1 x7 x8 x26 (D.int (IntKind.wrap .i64 ((D.i x27) + (1 : Int)))) xo6 Q)
 (cond (iLt (D.i x7) (D.i (rs r2 0)))
 (L60_8 n  m0 x0 x1 (rs r2 0) (rs r2 1) x26 (D.int (IntKind.wrap .i64 ((D.i x27) + (1 : Int)))) xo10 Q)
 (cond (iEq (D.i (rs r2 0)) (D.i x7))
 (cond (iLt (D.i (rs r2 1)) (D.i x8))
 (L60_8 n  m0 x0 x1 (rs r2 0) (rs r2 1) x26 (D.int (IntKind.wrap .i64 ((D.i x27) + (1 : Int)))) xo10 Q)
 (cond (iEq (D.i (rs r2 1)) (D.i x8))
 (wpF Try.prog A n 104 [xo10, xo6] fun r3 =>
 (cond (iLt (D.i (rs r3 0)) (0 : Int))
 (L60_8 n  m0 x0 x1 (rs r2 0) (rs r2 1) x26 (D.int (IntKind.wrap .i64 ((D.i x27) + (1 : Int)))) xo10 Q)
 (L60_8 n  m0 x0 x1 x7 x8 x26 (D.int (IntKind.wrap .i64 ((D.i x27) + (1 : Int)))) xo6 Q)))
 (L60_8 n  m0 x0 x1 x7 x8 x26 (D.int (IntKind.wrap .i64 ((D.i x27) + (1 : Int)))) xo6 Q)))
 (L60_8 n  m0 x0 x1 x7 x8 x26 (D.int (IntKind.wrap .i64 ((D.i x27) + (1 : Int)))) xo6 Q)))))) := by kernel_rfl
theorem E60 (n : Nat) (d0 d1 : D) (Q : List D → Prop) : wpF Try.prog A (n + 1) 60 [d0, d1] Q =
 (wpF Try.prog A n 54 [d0] fun r1 =>
 (cond (!(D.b (rs r1 0)))
 (Q [(D.slc ([] : List D)), (D.int (43 : Int))])
 (cond (iLt (D.i d1) (0 : Int))
 (Q [(D.slc ([] : List D)), (D.int (3 : Int))])
 (cond (iLt (256 : Int) (D.i d1))
 (Q [(D.slc ([] : List D)), (D.int (3 : Int))])
 ((0 : Int) ≤ (D.len d0) ∧ (L60_8 n  n d0 d1 (D.int (0 : Int)) (D.int (0 : Int)) (D.int (IntKind.wrap .i64 ((1 : Int) * 2 ^ (min (Int.toNat (D.len d0)) 64)))) (D.int (0 : Int)) (D.slc ([] : List D)) Q)))))) := by kernel_rfl
attribute [irreducible] L60_8 L60_12

/- timebound/timeboundlaw36.awake -/
theorem E32 (n : Nat)  (Q : List D → Prop) : wpF Try.prog A (n + 1) 32 [] Q =
 (wpF Try.prog A n 61 [] fun r1 =>
 (wpF Try.prog A n 60 [(rs r1 0), (D.int (4 : Int))] fun r2 =>
 (cond (iEq (D.i (rs r2 1)) (0 : Int))
 (cond (iEq (D.len (rs r2 0)) (2 : Int))
 ((0 ≤ (0 : Int) ∧ (0 : Int) < (D.len (rs r2 0))) ∧ (cond (iEq (D.i (List.getD (D.xs (rs r2 0)) (Int.toNat (0 : Int)) D.und)) (1 : Int))
 ((0 ≤ (1 : Int) ∧ (1 : Int) < (D.len (rs r2 0))) ∧ (Q [(D.bool (iEq (D.i (List.getD (D.xs (rs r2 0)) (Int.toNat (1 : Int)) D.und)) (2 : Int)))]))
 (Q [(D.bool false)])))
 (Q [(D.bool false)]))
 (Q [(D.bool false)])))) := by kernel_rfl

/- timebound/timeboundlaw36.ScratchPlaces -/
def L6_9 (n m0 : Nat) (x2 : D) (x37 : D) (x38 : D) (xo9 : D) (xo10 : D) (xo19 : D) (xo21 : D) (Q : List D → Prop) : Prop :=
  loopK (wpC Try.prog A (hnd Try.prog A n) 6 n (cA (cA (cB (cA (cB (cB (cB (cB (cB (cB (bodyOf Try.f6)))))))))))) (nmK Try.prog (A.loop 6 9)) m0 { sl := [(2, .imm 3 x2), (7, .ptr 19 [] 102), (8, .val 21 [] 69), (9, .ptr 9 [] 50), (10, .val 10 [] 29), (37, .imm 3 x37), (38, .imm 3 x38)], ob := [(9, some ⟨true, 50, (.agg [(11, (.slc .imm none))]), xo9⟩), (10, some ⟨false, 29, (.slc .imm none), xo10⟩), (19, some ⟨true, 102, .imm, xo19⟩), (21, some ⟨false, 69, (.slc .imm none), xo21⟩)] } (kBlock 0 (kSeq (wpC Try.prog A (hnd Try.prog A n) 6 n (cB (cB (cB (cB (cB (cB (cB (bodyOf Try.f6))))))))) (kEnd Try.prog Try.f6 (A.sig 6) Q)))
def L6_15 (n m0 : Nat) (x55 : D) (x56 : D) (xo9 : D) (xo21 : D) (xo54 : D) (Q : List D → Prop) : Prop :=
  loopK (wpC Try.prog A (hnd Try.prog A n) 6 n (cA (cA (cB (cA (cB (cB (cB (cB (cB (cB (cB (bodyOf Try.f6))))))))))))) (nmK Try.prog (A.loop 6 15)) m0 { sl := [(8, .val 21 [] 69), (9, .ptr 9 [] 50), (54, .val 54 [] 25), (55, .imm 3 x55), (56, .imm 3 x56)], ob := [(9, some ⟨true, 50, .imm, xo9⟩), (21, some ⟨false, 69, .imm, xo21⟩), (54, some ⟨false, 25, .imm, xo54⟩)] } (kBlock 2 (kSeq (wpC Try.prog A (hnd Try.prog A n) 6 n (cB (cB (cB (cB (cB (cB (cB (cB (bodyOf Try.f6)))))))))) (kEnd Try.prog Try.f6 (A.sig 6) Q)))
def L6_9v1 (n m0 : Nat) (x2 : D) (x37 : D) (x38 : D) (xo9 : D) (xo10 : D) (xo19 : D) (xo21 : D) (Q : List D → Prop) : Prop :=
  loopK (wpC Try.prog A (hnd Try.prog A n) 6 n (cA (cA (cB (cA (cB (cB (cB (cB (cB (cB (bodyOf Try.f6)))))))))))) (nmK Try.prog (A.loop 6 9)) m0 { sl := [(2, .imm 3 x2), (7, .ptr 19 [] 102), (8, .val 21 [] 69), (9, .ptr 9 [] 50), (10, .val 10 [] 29), (37, .imm 3 x37), (38, .imm 3 x38)], ob := [(9, some ⟨true, 50, .imm, xo9⟩), (10, some ⟨false, 29, (.slc .imm none), xo10⟩), (19, some ⟨true, 102, .imm, xo19⟩), (21, some ⟨false, 69, (.slc .imm none), xo21⟩)] } (kBlock 0 (kSeq (wpC Try.prog A (hnd Try.prog A n) 6 n (cB (cB (cB (cB (cB (cB (cB (bodyOf Try.f6))))))))) (kEnd Try.prog Try.f6 (A.sig 6) Q)))
theorem L6_9_eq (n m0 : Nat) (x2 : D) (x37 : D) (x38 : D) (xo9 : D) (xo10 : D) (xo19 : D) (xo21 : D) (Q : List D → Prop) : L6_9 n (m0 + 1) x2 x37 x38 xo9 xo10 xo19 xo21 Q =
 (cond (iLt (D.i x38) (D.i x37))
 (wpF Try.prog A n 23 [xo19, (D.int (2 : Int))] fun r7 =>
 (cond (iEq (D.i (rs r7 0)) (0 : Int))
 (room (((List.length (D.xs xo10) : Nat) : Int) + ((List.length [x38] : Nat) : Int)) 8 ∧ (L6_9 n  m0 x2 x37 (D.int (IntKind.wrap .i64 ((D.i x38) + (1 : Int)))) xo9 (D.slc ((D.xs xo10) ++ [x38])) (rs r7 1) xo21 Q))
 (L6_9 n  m0 x2 x37 (D.int (IntKind.wrap .i64 ((D.i x38) + (1 : Int)))) xo9 xo10 (rs r7 1) xo21 Q)))
 (wpF Try.prog A n 13 [x2, (D.int (12 : Int))] fun r8 =>
 (L6_15 n  n (D.int (D.len (D.slc [xo10, (D.slc [(D.int (IntKind.wrap .i64 ((D.i (rs r8 0)) - (1 : Int))))])]))) (D.int (0 : Int)) xo9 xo21 (D.slc [xo10, (D.slc [(D.int (IntKind.wrap .i64 ((D.i (rs r8 0)) - (1 : Int))))])]) Q))) := by kernel_rfl
theorem L6_15_eq (n m0 : Nat) (x55 : D) (x56 : D) (xo9 : D) (xo21 : D) (xo54 : D) (Q : List D → Prop) : L6_15 n (m0 + 1) x55 x56 xo9 xo21 xo54 Q =
 (cond (iLt (D.i x56) (D.i x55))
 ((0 ≤ (D.i x56) ∧ (D.i x56) < (D.len xo54)) ∧ (wpF Try.prog A n 27 [xo9, xo21, (D.el xo54 (D.i x56))] fun r9 =>
 (True ∧ (wpF Try.prog A n 28 [xo9, xo21, (D.el xo54 (D.i x56))] fun r10 =>
 (True ∧ (cond (!(iEq (D.i (rs r9 1)) (D.i (rs r10 1))))
 (Q [(D.bool false)])
 (wpF Try.prog A n 29 [(rs r9 0), (rs r10 0)] fun r11 =>
 (cond (!(D.b (rs r11 0)))
 (Q [(D.bool false)])
 (cond (iEq (D.i (rs r9 1)) (0 : Int))
 (wpF Try.prog A n 30 [(rs r9 0)] fun r12 =>
 (wpF Try.prog A n 31 [(rs r10 0)] fun r13 =>
 (cond (!(iEq (D.i (rs r12 0)) (D.i (rs r13 0))))
 (Q [(D.bool false)])
 (L6_15 n  m0 x55 (D.int (IntKind.wrap .i64 ((D.i x56) + (1 : Int)))) xo9 xo21 xo54 Q))))
 (L6_15 n  m0 x55 (D.int (IntKind.wrap .i64 ((D.i x56) + (1 : Int)))) xo9 xo21 xo54 Q))))))))))
 (wpF Try.prog A n 32 [] fun r14 =>
 (Q [(rs r14 0)]))) := by kernel_rfl
theorem L6_9v1_eq (n m0 : Nat) (x2 : D) (x37 : D) (x38 : D) (xo9 : D) (xo10 : D) (xo19 : D) (xo21 : D) (Q : List D → Prop) : L6_9v1 n (m0 + 1) x2 x37 x38 xo9 xo10 xo19 xo21 Q =
 (cond (iLt (D.i x38) (D.i x37))
 (wpF Try.prog A n 23 [xo19, (D.int (2 : Int))] fun r15 =>
 (cond (iEq (D.i (rs r15 0)) (0 : Int))
 (room (((List.length (D.xs xo10) : Nat) : Int) + ((List.length [x38] : Nat) : Int)) 8 ∧ (L6_9v1 n  m0 x2 x37 (D.int (IntKind.wrap .i64 ((D.i x38) + (1 : Int)))) xo9 (D.slc ((D.xs xo10) ++ [x38])) (rs r15 1) xo21 Q))
 (L6_9v1 n  m0 x2 x37 (D.int (IntKind.wrap .i64 ((D.i x38) + (1 : Int)))) xo9 xo10 (rs r15 1) xo21 Q)))
 (wpF Try.prog A n 13 [x2, (D.int (12 : Int))] fun r16 =>
 (L6_15 n  n (D.int (D.len (D.slc [xo10, (D.slc [(D.int (IntKind.wrap .i64 ((D.i (rs r16 0)) - (1 : Int))))])]))) (D.int (0 : Int)) xo9 xo21 (D.slc [xo10, (D.slc [(D.int (IntKind.wrap .i64 ((D.i (rs r16 0)) - (1 : Int))))])]) Q))) := by kernel_rfl
theorem E6 (n : Nat) (d0 d1 d2 : D) (Q : List D → Prop) : wpF Try.prog A (n + 1) 6 [d0, d1, d2] Q =
 (wpF Try.prog A n 11 [d0] fun r1 =>
 (wpF Try.prog A n 26 [(rs r1 0)] fun r2 =>
 (wpF Try.prog A n 12 [(rs r2 1)] fun r3 =>
 (True ∧ (wpF Try.prog A n 13 [d1, (D.int (7 : Int))] fun r4 =>
 (cond (iEq (D.i (rs r4 0)) (0 : Int))
 (True ∧ (wpF Try.prog A n 13 [d1, (D.int (7 : Int))] fun r5 =>
 (cond (iEq (D.i (rs r5 0)) (1 : Int))
 (wpF Try.prog A n 13 [d2, (D.int (3 : Int))] fun r6 =>
 ((0 ≤ (IntKind.wrap .i64 ((14 : Int) + (D.i (rs r6 0)))) ∧ (IntKind.wrap .i64 ((14 : Int) + (D.i (rs r6 0)))) ≤ (IntKind.wrap .i64 ((14 : Int) + (D.i (rs r6 0)))) ∧ room (IntKind.wrap .i64 ((14 : Int) + (D.i (rs r6 0)))) 16) ∧ (True ∧ (L6_9 n  n d2 (D.int (D.len (rs r2 0))) (D.int (0 : Int)) (D.agg [(D.fld (rs r3 0) 0), (D.fld (rs r3 0) 1), (D.int (-1 : Int)), (D.fld (rs r3 0) 3), (D.fld (rs r3 0) 4), (D.fld (rs r3 0) 5), (D.fld (rs r3 0) 6), (D.fld (rs r3 0) 7), (D.fld (rs r3 0) 8), (D.fld (rs r3 0) 9), (D.fld (rs r3 0) 10), (D.slc (List.replicate (Int.toNat (IntKind.wrap .i64 ((14 : Int) + (D.i (rs r6 0))))) (D.agg [(D.int (0 : Int)), (D.int (0 : Int))]))), (D.fld (rs r3 0) 12)]) (D.slc ([] : List D)) (rs r3 1) (rs r2 0) Q))))
 (L6_9v1 n  n d2 (D.int (D.len (rs r2 0))) (D.int (0 : Int)) (D.agg [(D.fld (rs r3 0) 0), (D.fld (rs r3 0) 1), (D.int (-1 : Int)), (D.fld (rs r3 0) 3), (D.fld (rs r3 0) 4), (D.fld (rs r3 0) 5), (D.fld (rs r3 0) 6), (D.fld (rs r3 0) 7), (D.fld (rs r3 0) 8), (D.fld (rs r3 0) 9), (D.fld (rs r3 0) 10), (D.fld (rs r3 0) 11), (D.fld (rs r3 0) 12)]) (D.slc ([] : List D)) (rs r3 1) (rs r2 0) Q))))
 (wpF Try.prog A n 13 [d1, (D.int (7 : Int))] fun r17 =>
 (cond (iEq (D.i (rs r17 0)) (1 : Int))
 (wpF Try.prog A n 13 [d2, (D.int (3 : Int))] fun r18 =>
 ((0 ≤ (IntKind.wrap .i64 ((14 : Int) + (D.i (rs r18 0)))) ∧ (IntKind.wrap .i64 ((14 : Int) + (D.i (rs r18 0)))) ≤ (IntKind.wrap .i64 ((14 : Int) + (D.i (rs r18 0)))) ∧ room (IntKind.wrap .i64 ((14 : Int) + (D.i (rs r18 0)))) 16) ∧ (True ∧ (L6_9 n  n d2 (D.int (D.len (rs r2 0))) (D.int (0 : Int)) (D.agg [(D.fld (rs r3 0) 0), (D.fld (rs r3 0) 1), (D.fld (rs r3 0) 2), (D.fld (rs r3 0) 3), (D.fld (rs r3 0) 4), (D.fld (rs r3 0) 5), (D.fld (rs r3 0) 6), (D.fld (rs r3 0) 7), (D.fld (rs r3 0) 8), (D.fld (rs r3 0) 9), (D.fld (rs r3 0) 10), (D.slc (List.replicate (Int.toNat (IntKind.wrap .i64 ((14 : Int) + (D.i (rs r18 0))))) (D.agg [(D.int (0 : Int)), (D.int (0 : Int))]))), (D.fld (rs r3 0) 12)]) (D.slc ([] : List D)) (rs r3 1) (rs r2 0) Q))))
 (L6_9v1 n  n d2 (D.int (D.len (rs r2 0))) (D.int (0 : Int)) (rs r3 0) (D.slc ([] : List D)) (rs r3 1) (rs r2 0) Q))))))))) := by kernel_rfl
attribute [irreducible] L6_9 L6_15 L6_9v1
end Go.Ab
