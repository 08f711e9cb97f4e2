/- Equations and plain laws of the functions that the statement reaches, part 4. Conditions: those in each theorem. -/
import Derived.Test.YtaeedloefcbjlaaGreatProg
import Derived.Test.YtaeedloefcbjlaaGreatPart2
import Derived.KernelRfl
import Derived.Test.YtaeedloefcbjlaaGreatPart3
import Derived.Test.YtaeedloefcbjlaaGreatAbsPart8
set_option linter.unusedVariables false
set_option linter.unusedSimpArgs false
/- Equations of functions: each rule reduces to a plain formula, by the kernel. -/
set_option linter.unusedVariables false
namespace Go.Ab
open Go.Proofs
/- slices.IndexFunc[[]int,int] -/
def L72_2 (n m0 : Nat) (x0 : D) (x1 : D) (x7 : D) (x8 : D) (Q : List D → Prop) : Prop :=
 loopK (wpC Tryz.prog A (hnd Tryz.prog A n) 72 n (cA (cA (cB (cA (cB (bodyOf Tryz.f72))))))) (nmK Tryz.prog (A.loop 72 2)) m0 { sl := [(0, .imm 31 x0), (1, .imm 113 x1), (7, .imm 3 x7), (8, .imm 3 x8)], ob := [] } (kBlock 0 (kSeq (wpC Tryz.prog A (hnd Tryz.prog A n) 72 n (cB (cB (bodyOf Tryz.f72)))) (kEnd Tryz.prog Tryz.f72 (A.sig 72) Q)))
theorem L72_2_eq (n m0 : Nat) (x0 : D) (x1 : D) (x7 : D) (x8 : D) (Q : List D → Prop) : L72_2 n (m0 + 1) x0 x1 x7 x8 Q =
 (cond (iLt (D.i x8) (D.i x7))
 ((0 ≤ (D.i x8) ∧ (D.i x8) < (D.len x0)) ∧ (dynH A (wpF Tryz.prog A n) x1 [.imm 3] [.val 4 .imm] [(D.el x0 (D.i x8))] fun r1 =>
 (cond (D.b (rs r1 0))
 (Q [x8])
 (L72_2 n  m0 x0 x1 x7 (D.int (IntKind.wrap .i64 ((D.i x8) + (1 : Int)))) Q))))
 (Q [(D.int (-1 : Int))])) := by kernel_rfl
theorem E72 (n : Nat) (d0 d1 : D) (Q : List D → Prop) : wpF Tryz.prog A (n + 1) 72 [d0, d1] Q =
 (L72_2 n  n d0 d1 (D.int (D.len d0)) (D.int (0 : Int)) Q) := by kernel_rfl
attribute [irreducible] L72_2

/- slices.ContainsFunc[[]int,int] -/
theorem E38 (n : Nat) (d0 d1 : D) (Q : List D → Prop) : wpF Tryz.prog A (n + 1) 38 [d0, d1] Q =
 (wpF Tryz.prog A n 72 [d0, d1] fun r1 =>
 (Q [(D.bool (iLe (0 : Int) (D.i (rs r1 0))))])) := by kernel_rfl

/- timebound/simplex.within -/
theorem E78 (n : Nat) (d0 d1 : D) (Q : List D → Prop) : wpF Tryz.prog A (n + 1) 78 [d0, d1] Q =
 (cond (iLe (IntKind.wrap .i64 ((0 : Int) - (D.i d1))) (D.i d0))
 (Q [(D.bool (iLe (D.i d0) (D.i d1)))])
 (Q [(D.bool false)])) := by kernel_rfl

/- timebound/simplex.Terms -/
def L77_2 (n m0 : Nat) (x0 : D) (x1 : D) (x2 : D) (x9 : D) (x10 : D) (x11 : D) (Q : List D → Prop) : Prop :=
 loopK (wpC Tryz.prog A (hnd Tryz.prog A n) 77 n (cA (cA (cB (cA (cB (bodyOf Tryz.f77))))))) (nmK Tryz.prog (A.loop 77 2)) m0 { sl := [(0, .imm 44 x0), (1, .imm 3 x1), (2, .imm 3 x2), (9, .imm 44 x9), (10, .imm 3 x10), (11, .imm 3 x11)], ob := [] } (kBlock 0 (kSeq (wpC Tryz.prog A (hnd Tryz.prog A n) 77 n (cB (cB (bodyOf Tryz.f77)))) (kEnd Tryz.prog Tryz.f77 (A.sig 77) Q)))
theorem L77_2_eq (n m0 : Nat) (x0 : D) (x1 : D) (x2 : D) (x9 : D) (x10 : D) (x11 : D) (Q : List D → Prop) : L77_2 n (m0 + 1) x0 x1 x2 x9 x10 x11 Q =
 (cond (iLt (D.i x11) (D.i x10))
 ((0 ≤ (D.i x11) ∧ (D.i x11) < (D.len x9)) ∧ (True ∧ (cond (iLt (D.i (D.fld (D.el x9 (D.i x11)) 0)) (0 : Int))
 (Q [(D.bool false)])
 (cond (iLe (D.i x1) (D.i (D.fld (D.el x9 (D.i x11)) 0)))
 (Q [(D.bool false)])
 (cond (iLt (0 : Int) (D.i x11))
 ((0 ≤ (IntKind.wrap .i64 ((D.i x11) - (1 : Int))) ∧ (IntKind.wrap .i64 ((D.i x11) - (1 : Int))) < (D.len x0)) ∧ (cond (iLe (D.i (D.fld (D.el x9 (D.i x11)) 0)) (D.i (D.fld (D.el x0 (IntKind.wrap .i64 ((D.i x11) - (1 : Int)))) 0)))
 (Q [(D.bool false)])
 (cond (iEq (D.i (D.fld (D.el x9 (D.i x11)) 1)) (0 : Int))
 (Q [(D.bool false)])
 (wpF Tryz.prog A n 78 [(D.fld (D.el x9 (D.i x11)) 1), x2] fun r1 =>
 (cond (!(D.b (rs r1 0)))
 (Q [(D.bool false)])
 (L77_2 n  m0 x0 x1 x2 x9 x10 (D.int (IntKind.wrap .i64 ((D.i x11) + (1 : Int)))) Q))))))
 (cond (iEq (D.i (D.fld (D.el x9 (D.i x11)) 1)) (0 : Int))
 (Q [(D.bool false)])
 (wpF Tryz.prog A n 78 [(D.fld (D.el x9 (D.i x11)) 1), x2] fun r2 =>
 (cond (!(D.b (rs r2 0)))
 (Q [(D.bool false)])
 (L77_2 n  m0 x0 x1 x2 x9 x10 (D.int (IntKind.wrap .i64 ((D.i x11) + (1 : Int)))) Q)))))))))
 (Q [(D.bool true)])) := by kernel_rfl
theorem E77 (n : Nat) (d0 d1 d2 : D) (Q : List D → Prop) : wpF Tryz.prog A (n + 1) 77 [d0, d1, d2] Q =
 (L77_2 n  n d0 d1 d2 d0 (D.int (D.len d0)) (D.int (0 : Int)) Q) := by kernel_rfl
attribute [irreducible] L77_2

/- timebound/simplex.limited$1 -/
theorem E80 (n : Nat) (d0 d1 d2 d3 : D) (Q : List D → Prop) : wpF Tryz.prog A (n + 1) 80 [d0, d1, d2, d3] Q =
 (wpF Tryz.prog A n 77 [(D.fld d0 0), (D.fld d1 0), d2] fun r1 =>
 (cond (!(D.b (rs r1 0)))
 (Q [(D.bool true)])
 (wpF Tryz.prog A n 78 [(D.fld d0 1), d3] fun r2 =>
 (Q [(D.bool (!(D.b (rs r2 0))))])))) := by kernel_rfl

/- slices.IndexFunc[[]timebound/api.Row,timebound/api.Row] -/
def L114_2 (n m0 : Nat) (x0 : D) (x1 : D) (x7 : D) (x8 : D) (Q : List D → Prop) : Prop :=
 loopK (wpC Tryz.prog A (hnd Tryz.prog A n) 114 n (cA (cA (cB (cA (cB (bodyOf Tryz.f114))))))) (nmK Tryz.prog (A.loop 114 2)) m0 { sl := [(0, .imm 43 x0), (1, .imm 150 x1), (7, .imm 3 x7), (8, .imm 3 x8)], ob := [] } (kBlock 0 (kSeq (wpC Tryz.prog A (hnd Tryz.prog A n) 114 n (cB (cB (bodyOf Tryz.f114)))) (kEnd Tryz.prog Tryz.f114 (A.sig 114) Q)))
theorem L114_2_eq (n m0 : Nat) (x0 : D) (x1 : D) (x7 : D) (x8 : D) (Q : List D → Prop) : L114_2 n (m0 + 1) x0 x1 x7 x8 Q =
 (cond (iLt (D.i x8) (D.i x7))
 ((0 ≤ (D.i x8) ∧ (D.i x8) < (D.len x0)) ∧ (dynH A (wpF Tryz.prog A n) x1 [.imm 71] [.val 4 .imm] [(D.el x0 (D.i x8))] fun r1 =>
 (cond (D.b (rs r1 0))
 (Q [x8])
 (L114_2 n  m0 x0 x1 x7 (D.int (IntKind.wrap .i64 ((D.i x8) + (1 : Int)))) Q))))
 (Q [(D.int (-1 : Int))])) := by kernel_rfl
theorem E114 (n : Nat) (d0 d1 : D) (Q : List D → Prop) : wpF Tryz.prog A (n + 1) 114 [d0, d1] Q =
 (L114_2 n  n d0 d1 (D.int (D.len d0)) (D.int (0 : Int)) Q) := by kernel_rfl
attribute [irreducible] L114_2

/- slices.ContainsFunc[[]timebound/api.Row,timebound/api.Row] -/
theorem E79 (n : Nat) (d0 d1 : D) (Q : List D → Prop) : wpF Tryz.prog A (n + 1) 79 [d0, d1] Q =
 (wpF Tryz.prog A n 114 [d0, d1] fun r1 =>
 (Q [(D.bool (iLe (0 : Int) (D.i (rs r1 0))))])) := by kernel_rfl

/- timebound/simplex.limited -/
theorem E45 (n : Nat) (d0 d1 d2 d3 d4 d5 d6 : D) (Q : List D → Prop) : wpF Tryz.prog A (n + 1) 45 [d0, d1, d2, d3, d4, d5, d6] Q =
 (cond (iLe (0 : Int) (D.i (D.fld d0 0)))
 (cond (iLe (D.i (D.fld d0 0)) (D.i d1))
 (cond (iLe (D.len (D.fld d0 1)) (D.i d2))
 (wpF Tryz.prog A n 77 [(D.fld d0 2), (D.fld d0 0), d4] fun r1 =>
 (cond (D.b (rs r1 0))
 (wpF Tryz.prog A n 78 [(D.fld d0 3), d5] fun r2 =>
 (cond (D.b (rs r2 0))
 (wpF Tryz.prog A n 79 [(D.fld d0 1), (D.fn 80 [(D.ptr d0), (D.ptr d3), (D.ptr d6)])] fun r3 =>
 (Q [(D.bool (!(D.b (rs r3 0))))]))
 (Q [(D.bool false)])))
 (Q [(D.bool false)])))
 (Q [(D.bool false)]))
 (Q [(D.bool false)]))
 (Q [(D.bool false)])) := by kernel_rfl

/- timebound/simplex.Valid -/
theorem E21 (n : Nat) (d0 : D) (Q : List D → Prop) : wpF Tryz.prog A (n + 1) 21 [d0] Q =
 (wpF Tryz.prog A n 45 [d0, (D.int (300 : Int)), (D.int (400 : Int)), (D.int (1048576 : Int)), (D.int (16777216 : Int)), (D.int (16777216 : Int)), (D.int (1048576 : Int))] fun r1 =>
 (Q [(rs r1 0)])) := by kernel_rfl

/- timebound/certificate.kindOf -/
theorem E91 (n : Nat) (d0 : D) (Q : List D → Prop) : wpF Tryz.prog A (n + 1) 91 [d0] Q =
 (cond (iEq (D.i (D.fld d0 0)) (-1 : Int))
 (Q [(D.ifc 166 d0)])
 (Q [(D.ifc 167 d0)])) := by kernel_rfl

/- slices.Index[[]bool,bool] -/
def L120_2 (n m0 : Nat) (x0 : D) (x1 : D) (x7 : D) (x8 : D) (Q : List D → Prop) : Prop :=
 loopK (wpC Tryz.prog A (hnd Tryz.prog A n) 120 n (cA (cA (cB (cA (cB (bodyOf Tryz.f120))))))) (nmK Tryz.prog (A.loop 120 2)) m0 { sl := [(0, .imm 61 x0), (1, .imm 4 x1), (7, .imm 3 x7), (8, .imm 3 x8)], ob := [] } (kBlock 0 (kSeq (wpC Tryz.prog A (hnd Tryz.prog A n) 120 n (cB (cB (bodyOf Tryz.f120)))) (kEnd Tryz.prog Tryz.f120 (A.sig 120) Q)))
theorem L120_2_eq (n m0 : Nat) (x0 : D) (x1 : D) (x7 : D) (x8 : D) (Q : List D → Prop) : L120_2 n (m0 + 1) x0 x1 x7 x8 Q =
 (cond (iLt (D.i x8) (D.i x7))
 ((0 ≤ (D.i x8) ∧ (D.i x8) < (D.len x0)) ∧ (cond (bEq (D.b x1) (D.b (D.el x0 (D.i x8))))
 (Q [x8])
 (L120_2 n  m0 x0 x1 x7 (D.int (IntKind.wrap .i64 ((D.i x8) + (1 : Int)))) Q)))
 (Q [(D.int (-1 : Int))])) := by kernel_rfl
theorem E120 (n : Nat) (d0 d1 : D) (Q : List D → Prop) : wpF Tryz.prog A (n + 1) 120 [d0, d1] Q =
 (L120_2 n  n d0 d1 (D.int (D.len d0)) (D.int (0 : Int)) Q) := by kernel_rfl
attribute [irreducible] L120_2

/- slices.Contains[[]bool,bool] -/
theorem E92 (n : Nat) (d0 d1 : D) (Q : List D → Prop) : wpF Tryz.prog A (n + 1) 92 [d0, d1] Q =
 (wpF Tryz.prog A n 120 [d0, d1] fun r1 =>
 (Q [(D.bool (iLe (0 : Int) (D.i (rs r1 0))))])) := by kernel_rfl

/- timebound/certificate.Valid -/
def L52_5 (n m0 : Nat) (x33 : D) (x34 : D) (x35 : D) (xo2 : D) (xo3 : D) (xo31 : D) (Q : List D → Prop) : Prop :=
 loopK (wpC Tryz.prog A (hnd Tryz.prog A n) 52 n (cA (cA (cB (cA (cB (cB (cB (bodyOf Tryz.f52))))))))) (nmK Tryz.prog (A.loop 52 5)) m0 { sl := [(2, .ptr 2 [] 46), (3, .ptr 3 [] 51), (5, .val 31 [] 61), (33, .imm 49 x33), (34, .imm 3 x34), (35, .imm 3 x35)], ob := [(2, some ⟨true, 46, .imm, xo2⟩), (3, some ⟨true, 51, .imm, xo3⟩), (31, some ⟨false, 61, (.slc .imm none), xo31⟩)] } (kBlock 0 (kSeq (wpC Tryz.prog A (hnd Tryz.prog A n) 52 n (cB (cB (cB (cB (bodyOf Tryz.f52)))))) (kEnd Tryz.prog Tryz.f52 (A.sig 52) Q)))
def L52_16 (n m0 m1 : Nat) (x33 : D) (x34 : D) (x35 : D) (x59 : D) (x60 : D) (xo2 : D) (xo3 : D) (xo31 : D) (xo58 : D) (Q : List D → Prop) : Prop :=
 loopK (wpC Tryz.prog A (hnd Tryz.prog A n) 52 n (cA (cA (cB (cB (cA (cB (cB (cB (cA (cB (cB (cB (cB (cA (cA (cB (cB (cA (cA (cB (cA (cB (cB (cB (bodyOf Tryz.f52)))))))))))))))))))))))))) (nmK Tryz.prog (A.loop 52 16)) m1 { sl := [(2, .ptr 2 [] 46), (3, .ptr 3 [] 51), (5, .val 31 [] 61), (33, .imm 49 x33), (34, .imm 3 x34), (35, .imm 3 x35), (58, .val 58 [] 31), (59, .imm 3 x59), (60, .imm 3 x60)], ob := [(2, some ⟨true, 46, .imm, xo2⟩), (3, some ⟨true, 51, .imm, xo3⟩), (31, some ⟨false, 61, (.slc .imm none), xo31⟩), (58, some ⟨false, 31, (.slc .imm none), xo58⟩)] } (kBlock 3 (kBlock 2 (kBlock 1 (kSeq (wpC Tryz.prog A (hnd Tryz.prog A n) 52 n (cB (cB (cB (cA (cA (cB (cA (cB (cB (cB (bodyOf Tryz.f52)))))))))))) (kLoop (nmK Tryz.prog (A.loop 52 5)) (fun g => loopK (wpC Tryz.prog A (hnd Tryz.prog A n) 52 n (cA (cA (cB (cA (cB (cB (cB (bodyOf Tryz.f52))))))))) (nmK Tryz.prog (A.loop 52 5)) m0 g (kBlock 0 (kSeq (wpC Tryz.prog A (hnd Tryz.prog A n) 52 n (cB (cB (cB (cB (bodyOf Tryz.f52)))))) (kEnd Tryz.prog Tryz.f52 (A.sig 52) Q)))) (kBlock 0 (kSeq (wpC Tryz.prog A (hnd Tryz.prog A n) 52 n (cB (cB (cB (cB (bodyOf Tryz.f52)))))) (kEnd Tryz.prog Tryz.f52 (A.sig 52) Q))))))))
theorem L52_5_eq (n m0 : Nat) (x33 : D) (x34 : D) (x35 : D) (xo2 : D) (xo3 : D) (xo31 : D) (Q : List D → Prop) : L52_5 n (m0 + 1) x33 x34 x35 xo2 xo3 xo31 Q =
 (cond (iLt (D.i x35) (D.i x34))
 ((0 ≤ (D.i x35) ∧ (D.i x35) < (D.len x33)) ∧ (True ∧ (wpF Tryz.prog A n 91 [(D.el x33 (D.i x35))] fun r2 =>
 (invH Tryz.prog A (wpF Tryz.prog A n) (rs r2 0) (mName Tryz.prog 166 0) [.imm 46, .imm 3] [.val 4 .imm] [xo2, x35] fun r3 =>
 (cond (!(D.b (rs r3 0)))
 (Q [(D.bool false)])
 (cond (D.isT (rs r2 0) 166)
 (True ∧ (L52_5 n  m0 x33 x34 (D.int (IntKind.wrap .i64 ((D.i x35) + (1 : Int)))) xo2 xo3 xo31 Q))
 (cond (D.isT (rs r2 0) 167)
 (True ∧ (L52_16 n m0 n x33 x34 x35 (D.int (D.len (D.slc [(D.fld (D.un (rs r2 0)) 0), (D.fld (D.un (rs r2 0)) 1)]))) (D.int (0 : Int)) xo2 xo3 xo31 (D.slc [(D.fld (D.un (rs r2 0)) 0), (D.fld (D.un (rs r2 0)) 1)]) Q))
 (L52_5 n  m0 x33 x34 (D.int (IntKind.wrap .i64 ((D.i x35) + (1 : Int)))) xo2 xo3 xo31 Q))))))))
 ((0 ≤ (1 : Int) ∧ (1 : Int) ≤ (D.len xo31) ∧ (D.len xo31) ≤ (D.len xo31)) ∧ (wpF Tryz.prog A n 92 [(D.slc (List.drop (Int.toNat (1 : Int)) (List.take (Int.toNat (D.len xo31)) (D.xs xo31)))), (D.bool false)] fun r4 =>
 (Q [(D.bool (!(D.b (rs r4 0))))])))) := by kernel_rfl
theorem L52_16_eq (n m0 m1 : Nat) (x33 : D) (x34 : D) (x35 : D) (x59 : D) (x60 : D) (xo2 : D) (xo3 : D) (xo31 : D) (xo58 : D) (Q : List D → Prop) : L52_16 n m0 (m1 + 1) x33 x34 x35 x59 x60 xo2 xo3 xo31 xo58 Q =
 (cond (iLt (D.i x60) (D.i x59))
 ((0 ≤ (D.i x60) ∧ (D.i x60) < (D.len xo58)) ∧ (cond (iLe (D.len (D.fld xo3 0)) (D.i (List.getD (D.xs xo58) (Int.toNat (D.i x60)) D.und)))
 (Q [(D.bool false)])
 ((0 ≤ (D.i (List.getD (D.xs xo58) (Int.toNat (D.i x60)) D.und)) ∧ (D.i (List.getD (D.xs xo58) (Int.toNat (D.i x60)) D.und)) < (D.len xo31)) ∧ (cond (D.b (List.getD (D.xs xo31) (Int.toNat (D.i (List.getD (D.xs xo58) (Int.toNat (D.i x60)) D.und))) D.und))
 (Q [(D.bool false)])
 ((0 ≤ (D.i (List.getD (D.xs xo58) (Int.toNat (D.i x60)) D.und)) ∧ (D.i (List.getD (D.xs xo58) (Int.toNat (D.i x60)) D.und)) < (D.len xo31)) ∧ (True ∧ (L52_16 n m0 m1 x33 x34 x35 x59 (D.int (IntKind.wrap .i64 ((D.i x60) + (1 : Int)))) xo2 xo3 (D.slc (List.set (D.xs xo31) (Int.toNat (D.i (List.getD (D.xs xo58) (Int.toNat (D.i x60)) D.und))) (D.bool true))) xo58 Q)))))))
 (L52_5 n  m0 x33 x34 (D.int (IntKind.wrap .i64 ((D.i x35) + (1 : Int)))) xo2 xo3 xo31 Q)) := by kernel_rfl
theorem E52 (n : Nat) (d0 d1 : D) (Q : List D → Prop) : wpF Tryz.prog A (n + 1) 52 [d0, d1] Q =
 (wpF Tryz.prog A n 21 [d0] fun r1 =>
 (cond (!(D.b (rs r1 0)))
 (Q [(D.bool false)])
 (cond (iLt (D.len (D.fld d1 0)) (1 : Int))
 (Q [(D.bool false)])
 (cond (iLt (1000 : Int) (D.len (D.fld d1 0)))
 (Q [(D.bool false)])
 ((0 ≤ (D.len (D.fld d1 0)) ∧ (D.len (D.fld d1 0)) ≤ (D.len (D.fld d1 0)) ∧ room (D.len (D.fld d1 0)) 1) ∧ (L52_5 n  n (D.fld d1 0) (D.int (D.len (D.fld d1 0))) (D.int (0 : Int)) d0 d1 (D.slc (List.replicate (Int.toNat (D.len (D.fld d1 0))) (D.bool false))) Q)))))) := by kernel_rfl
attribute [irreducible] L52_5 L52_16

/- timebound/certificate.leaf -/
theorem E56 (n : Nat) (d0 : D) (Q : List D → Prop) : wpF Tryz.prog A (n + 1) 56 [d0] Q =
 (wpF Tryz.prog A n 91 [d0] fun r1 =>
 (cond (D.isT (rs r1 0) 166)
 (True ∧ (Q [(D.bool true)]))
 (True ∧ (Q [(D.bool false)])))) := by kernel_rfl

/- timebound/certificate.split -/
def L93_4 (n m0 : Nat) (x17 : D) (x18 : D) (x19 : D) (xo2 : D) (xo3 : D) (Q : List D → Prop) : Prop :=
 loopK (wpC Tryz.prog A (hnd Tryz.prog A n) 93 n (cA (cA (cB (cA (cB (cB (cB (bodyOf Tryz.f93))))))))) (nmK Tryz.prog (A.loop 93 4)) m0 { sl := [(2, .ptr 2 [] 71), (3, .ptr 3 [] 71), (17, .imm 44 x17), (18, .imm 3 x18), (19, .imm 3 x19)], ob := [(2, some ⟨true, 71, .imm, xo2⟩), (3, some ⟨true, 71, (.agg [(0, (.slc .imm none))]), xo3⟩)] } (kBlock 0 (kSeq (wpC Tryz.prog A (hnd Tryz.prog A n) 93 n (cB (cB (cB (cB (bodyOf Tryz.f93)))))) (kEnd Tryz.prog Tryz.f93 (A.sig 93) Q)))
theorem L93_4_eq (n m0 : Nat) (x17 : D) (x18 : D) (x19 : D) (xo2 : D) (xo3 : D) (Q : List D → Prop) : L93_4 n (m0 + 1) x17 x18 x19 xo2 xo3 Q =
 (cond (iLt (D.i x19) (D.i x18))
 ((0 ≤ (D.i x19) ∧ (D.i x19) < (D.len x17)) ∧ (True ∧ (room (((List.length (D.xs (D.fld xo3 0)) : Nat) : Int) + ((List.length [(D.agg [(D.fld (D.el x17 (D.i x19)) 0), (D.int (IntKind.wrap .i64 ((0 : Int) - (D.i (D.fld (D.el x17 (D.i x19)) 1)))))])] : Nat) : Int)) 16 ∧ (True ∧ (L93_4 n  m0 x17 x18 (D.int (IntKind.wrap .i64 ((D.i x19) + (1 : Int)))) xo2 (D.agg [(D.slc ((D.xs (D.fld xo3 0)) ++ [(D.agg [(D.fld (D.el x17 (D.i x19)) 0), (D.int (IntKind.wrap .i64 ((0 : Int) - (D.i (D.fld (D.el x17 (D.i x19)) 1)))))])])), (D.fld xo3 1)]) Q)))))
 (True ∧ (True ∧ (Q [xo2, xo3])))) := by kernel_rfl
theorem E93 (n : Nat) (d0 : D) (Q : List D → Prop) : wpF Tryz.prog A (n + 1) 93 [d0] Q =
 (True ∧ (True ∧ (L93_4 n  n (D.fld d0 2) (D.int (D.len (D.fld d0 2))) (D.int (0 : Int)) (D.agg [(D.fld d0 2), (D.fld d0 3)]) (D.agg [(D.slc ([] : List D)), (D.int (IntKind.wrap .i64 ((IntKind.wrap .i64 ((0 : Int) - (D.i (D.fld d0 3)))) - (1 : Int))))]) Q))) := by kernel_rfl
attribute [irreducible] L93_4

/- slices.Clone[[]timebound/api.Row,timebound/api.Row] -/
theorem E94 (n : Nat) (d0 : D) (Q : List D → Prop) : wpF Tryz.prog A (n + 1) 94 [d0] Q =
 (∀ b1 : Bool, (b1 = true → (D.len d0) = 0) → (cond b1
 (Q [(D.slc ([] : List D))])
 (room (((List.length ([] : List D) : Nat) : Int) + ((List.length (D.xs d0) : Nat) : Int)) 32 ∧ (Q [(D.slc (([] : List D) ++ (D.xs d0)))])))) := by kernel_rfl

/- timebound/certificate.above -/
def L53_3 (n m0 : Nat) (x13 : D) (x14 : D) (x15 : D) (xo11 : D) (Q : List D → Prop) : Prop :=
 loopK (wpC Tryz.prog A (hnd Tryz.prog A n) 53 n (cA (cA (cB (cA (cB (cB (bodyOf Tryz.f53)))))))) (nmK Tryz.prog (A.loop 53 3)) m0 { sl := [(3, .val 11 [] 96), (13, .imm 49 x13), (14, .imm 3 x14), (15, .imm 3 x15)], ob := [(11, some ⟨false, 96, (.slc .imm none), xo11⟩)] } (kBlock 0 (kSeq (wpC Tryz.prog A (hnd Tryz.prog A n) 53 n (cB (cB (cB (bodyOf Tryz.f53))))) (kEnd Tryz.prog Tryz.f53 (A.sig 53) Q)))
theorem L53_3_eq (n m0 : Nat) (x13 : D) (x14 : D) (x15 : D) (xo11 : D) (Q : List D → Prop) : L53_3 n (m0 + 1) x13 x14 x15 xo11 Q =
 (cond (iLt (D.i x15) (D.i x14))
 ((0 ≤ (D.i x15) ∧ (D.i x15) < (D.len x13)) ∧ (True ∧ (wpF Tryz.prog A n 56 [(D.el x13 (D.i x15))] fun r1 =>
 (cond (D.b (rs r1 0))
 (L53_3 n  m0 x13 x14 (D.int (IntKind.wrap .i64 ((D.i x15) + (1 : Int)))) xo11 Q)
 (wpF Tryz.prog A n 93 [(D.el x13 (D.i x15))] fun r2 =>
 (True ∧ (True ∧ ((0 ≤ (D.i x15) ∧ (D.i x15) < (D.len xo11)) ∧ (wpF Tryz.prog A n 94 [(List.getD (D.xs xo11) (Int.toNat (D.i x15)) D.und)] fun r3 =>
 (room (((List.length (D.xs (rs r3 0)) : Nat) : Int) + ((List.length [(rs r2 0)] : Nat) : Int)) 32 ∧ ((0 ≤ (D.i x15) ∧ (D.i x15) < (D.len xo11)) ∧ (wpF Tryz.prog A n 94 [(List.getD (D.xs xo11) (Int.toNat (D.i x15)) D.und)] fun r4 =>
 (room (((List.length (D.xs (rs r4 0)) : Nat) : Int) + ((List.length [(rs r2 1)] : Nat) : Int)) 32 ∧ ((0 ≤ (D.i (D.fld (D.el x13 (D.i x15)) 0)) ∧ (D.i (D.fld (D.el x13 (D.i x15)) 0)) < (D.len xo11)) ∧ (True ∧ ((0 ≤ (D.i (D.fld (D.el x13 (D.i x15)) 1)) ∧ (D.i (D.fld (D.el x13 (D.i x15)) 1)) < (D.len (D.slc (List.set (D.xs xo11) (Int.toNat (D.i (D.fld (D.el x13 (D.i x15)) 0))) (D.slc ((D.xs (rs r3 0)) ++ [(rs r2 0)])))))) ∧ (True ∧ (L53_3 n  m0 x13 x14 (D.int (IntKind.wrap .i64 ((D.i x15) + (1 : Int)))) (D.slc (List.set (List.set (D.xs xo11) (Int.toNat (D.i (D.fld (D.el x13 (D.i x15)) 0))) (D.slc ((D.xs (rs r3 0)) ++ [(rs r2 0)]))) (Int.toNat (D.i (D.fld (D.el x13 (D.i x15)) 1))) (D.slc ((D.xs (rs r4 0)) ++ [(rs r2 1)])))) Q))))))))))))))))))
 (Q [xo11])) := by kernel_rfl
theorem E53 (n : Nat) (d0 : D) (Q : List D → Prop) : wpF Tryz.prog A (n + 1) 53 [d0] Q =
 ((0 ≤ (D.len (D.fld d0 0)) ∧ (D.len (D.fld d0 0)) ≤ (D.len (D.fld d0 0)) ∧ room (D.len (D.fld d0 0)) 24) ∧ (L53_3 n  n (D.fld d0 0) (D.int (D.len (D.fld d0 0))) (D.int (0 : Int)) (D.slc (List.replicate (Int.toNat (D.len (D.fld d0 0))) (D.slc ([] : List D)))) Q)) := by kernel_rfl
attribute [irreducible] L53_3

/- slices.IndexFunc[[][]timebound/api.Row,[]timebound/api.Row] -/
def L95_2 (n m0 : Nat) (x0 : D) (x1 : D) (x7 : D) (x8 : D) (Q : List D → Prop) : Prop :=
 loopK (wpC Tryz.prog A (hnd Tryz.prog A n) 95 n (cA (cA (cB (cA (cB (bodyOf Tryz.f95))))))) (nmK Tryz.prog (A.loop 95 2)) m0 { sl := [(0, .imm 96 x0), (1, .imm 126 x1), (7, .imm 3 x7), (8, .imm 3 x8)], ob := [] } (kBlock 0 (kSeq (wpC Tryz.prog A (hnd Tryz.prog A n) 95 n (cB (cB (bodyOf Tryz.f95)))) (kEnd Tryz.prog Tryz.f95 (A.sig 95) Q)))
theorem L95_2_eq (n m0 : Nat) (x0 : D) (x1 : D) (x7 : D) (x8 : D) (Q : List D → Prop) : L95_2 n (m0 + 1) x0 x1 x7 x8 Q =
 (cond (iLt (D.i x8) (D.i x7))
 ((0 ≤ (D.i x8) ∧ (D.i x8) < (D.len x0)) ∧ (dynH A (wpF Tryz.prog A n) x1 [.imm 43] [.val 4 .imm] [(D.el x0 (D.i x8))] fun r1 =>
 (cond (D.b (rs r1 0))
 (Q [x8])
 (L95_2 n  m0 x0 x1 x7 (D.int (IntKind.wrap .i64 ((D.i x8) + (1 : Int)))) Q))))
 (Q [(D.int (-1 : Int))])) := by kernel_rfl
theorem E95 (n : Nat) (d0 d1 : D) (Q : List D → Prop) : wpF Tryz.prog A (n + 1) 95 [d0, d1] Q =
 (L95_2 n  n d0 d1 (D.int (D.len d0)) (D.int (0 : Int)) Q) := by kernel_rfl
attribute [irreducible] L95_2

/- slices.ContainsFunc[[][]timebound/api.Row,[]timebound/api.Row] -/
theorem E54 (n : Nat) (d0 d1 : D) (Q : List D → Prop) : wpF Tryz.prog A (n + 1) 54 [d0, d1] Q =
 (wpF Tryz.prog A n 95 [d0, d1] fun r1 =>
 (Q [(D.bool (iLe (0 : Int) (D.i (rs r1 0))))])) := by kernel_rfl

/- timebound/certificate.Check$1 -/
theorem E55 (n : Nat) (d0 d1 : D) (Q : List D → Prop) : wpF Tryz.prog A (n + 1) 55 [d0, d1] Q =
 (Q [(D.bool (iLt (400 : Int) (IntKind.wrap .i64 ((D.len (D.fld d1 1)) + (D.len d0)))))]) := by kernel_rfl

/- timebound/certificate.sums -/
def L96_3 (n m0 : Nat) (x1 : D) (x10 : D) (x20 : D) (x21 : D) (x22 : D) (xo3 : D) (xo19 : D) (Q : List D → Prop) : Prop :=
 loopK (wpC Tryz.prog A (hnd Tryz.prog A n) 96 n (cA (cA (cB (cA (cB (cB (bodyOf Tryz.f96)))))))) (nmK Tryz.prog (A.loop 96 3)) m0 { sl := [(1, .imm 43 x1), (3, .ptr 3 [] 46), (9, .val 19 [] 31), (10, .imm 3 x10), (20, .imm 44 x20), (21, .imm 3 x21), (22, .imm 3 x22)], ob := [(3, some ⟨true, 46, .imm, xo3⟩), (19, some ⟨false, 31, (.slc .imm none), xo19⟩)] } (kBlock 0 (kSeq (wpC Tryz.prog A (hnd Tryz.prog A n) 96 n (cB (cB (cB (bodyOf Tryz.f96))))) (kEnd Tryz.prog Tryz.f96 (A.sig 96) Q)))
def L96_13 (n m0 m1 : Nat) (x1 : D) (x10 : D) (x20 : D) (x21 : D) (x22 : D) (x79 : D) (x80 : D) (x81 : D) (xo3 : D) (xo12 : D) (xo19 : D) (Q : List D → Prop) : Prop :=
 loopK (wpC Tryz.prog A (hnd Tryz.prog A n) 96 n (cA (cA (cB (cB (cB (cB (cB (cA (cA (cB (cB (cA (cA (cB (cA (cB (cB (bodyOf Tryz.f96))))))))))))))))))) (nmK Tryz.prog (A.loop 96 13)) m1 { sl := [(1, .imm 43 x1), (3, .ptr 3 [] 46), (9, .val 19 [] 31), (10, .imm 3 x10), (12, .ptr 12 [] 87), (20, .imm 44 x20), (21, .imm 3 x21), (22, .imm 3 x22), (79, .imm 44 x79), (80, .imm 3 x80), (81, .imm 3 x81)], ob := [(3, some ⟨true, 46, .imm, xo3⟩), (12, some ⟨true, 87, .imm, xo12⟩), (19, some ⟨false, 31, (.slc .imm none), xo19⟩)] } (kBlock 3 (kBlock 1 (kSeq (wpC Tryz.prog A (hnd Tryz.prog A n) 96 n (cB (cB (cB (cA (cA (cB (cA (cB (cB (bodyOf Tryz.f96))))))))))) (kLoop (nmK Tryz.prog (A.loop 96 3)) (fun g => loopK (wpC Tryz.prog A (hnd Tryz.prog A n) 96 n (cA (cA (cB (cA (cB (cB (bodyOf Tryz.f96)))))))) (nmK Tryz.prog (A.loop 96 3)) m0 g (kBlock 0 (kSeq (wpC Tryz.prog A (hnd Tryz.prog A n) 96 n (cB (cB (cB (bodyOf Tryz.f96))))) (kEnd Tryz.prog Tryz.f96 (A.sig 96) Q)))) (kBlock 0 (kSeq (wpC Tryz.prog A (hnd Tryz.prog A n) 96 n (cB (cB (cB (bodyOf Tryz.f96))))) (kEnd Tryz.prog Tryz.f96 (A.sig 96) Q)))))))
theorem L96_3_eq (n m0 : Nat) (x1 : D) (x10 : D) (x20 : D) (x21 : D) (x22 : D) (xo3 : D) (xo19 : D) (Q : List D → Prop) : L96_3 n (m0 + 1) x1 x10 x20 x21 x22 xo3 xo19 Q =
 (cond (iLt (D.i x22) (D.i x21))
 ((0 ≤ (D.i x22) ∧ (D.i x22) < (D.len x20)) ∧ (True ∧ (cond (iLe (0 : Int) (D.i (D.fld (D.el x20 (D.i x22)) 0)))
 (cond (iLt (D.i (D.fld (D.el x20 (D.i x22)) 0)) (D.len (D.fld xo3 1)))
 ((0 ≤ (D.i (D.fld (D.el x20 (D.i x22)) 0)) ∧ (D.i (D.fld (D.el x20 (D.i x22)) 0)) < (D.len (D.fld xo3 1))) ∧ (True ∧ (L96_13 n m0 n x1 (D.int (IntKind.wrap .i64 ((D.i x10) + (IntKind.wrap .i64 ((D.i (D.fld (D.el x20 (D.i x22)) 1)) * (D.i (D.fld (D.el (D.fld xo3 1) (D.i (D.fld (D.el x20 (D.i x22)) 0))) 1))))))) x20 x21 x22 (D.fld (D.el (D.fld xo3 1) (D.i (D.fld (D.el x20 (D.i x22)) 0))) 0) (D.int (D.len (D.fld (D.el (D.fld xo3 1) (D.i (D.fld (D.el x20 (D.i x22)) 0))) 0))) (D.int (0 : Int)) xo3 (D.el x20 (D.i x22)) xo19 Q)))
 (cond (iLe (D.len (D.fld xo3 1)) (D.i (D.fld (D.el x20 (D.i x22)) 0)))
 (cond (iLt (IntKind.wrap .i64 ((D.i (D.fld (D.el x20 (D.i x22)) 0)) - (D.len (D.fld xo3 1)))) (D.len x1))
 ((0 ≤ (IntKind.wrap .i64 ((D.i (D.fld (D.el x20 (D.i x22)) 0)) - (D.len (D.fld xo3 1)))) ∧ (IntKind.wrap .i64 ((D.i (D.fld (D.el x20 (D.i x22)) 0)) - (D.len (D.fld xo3 1)))) < (D.len x1)) ∧ (True ∧ (L96_13 n m0 n x1 (D.int (IntKind.wrap .i64 ((D.i x10) + (IntKind.wrap .i64 ((D.i (D.fld (D.el x20 (D.i x22)) 1)) * (D.i (D.fld (D.el x1 (IntKind.wrap .i64 ((D.i (D.fld (D.el x20 (D.i x22)) 0)) - (D.len (D.fld xo3 1))))) 1))))))) x20 x21 x22 (D.fld (D.el x1 (IntKind.wrap .i64 ((D.i (D.fld (D.el x20 (D.i x22)) 0)) - (D.len (D.fld xo3 1))))) 0) (D.int (D.len (D.fld (D.el x1 (IntKind.wrap .i64 ((D.i (D.fld (D.el x20 (D.i x22)) 0)) - (D.len (D.fld xo3 1))))) 0))) (D.int (0 : Int)) xo3 (D.el x20 (D.i x22)) xo19 Q)))
 (Q [(D.slc ([] : List D)), (D.int (0 : Int)), (D.bool false)]))
 (Q [(D.slc ([] : List D)), (D.int (0 : Int)), (D.bool false)])))
 (cond (iLe (D.len (D.fld xo3 1)) (D.i (D.fld (D.el x20 (D.i x22)) 0)))
 (cond (iLt (IntKind.wrap .i64 ((D.i (D.fld (D.el x20 (D.i x22)) 0)) - (D.len (D.fld xo3 1)))) (D.len x1))
 ((0 ≤ (IntKind.wrap .i64 ((D.i (D.fld (D.el x20 (D.i x22)) 0)) - (D.len (D.fld xo3 1)))) ∧ (IntKind.wrap .i64 ((D.i (D.fld (D.el x20 (D.i x22)) 0)) - (D.len (D.fld xo3 1)))) < (D.len x1)) ∧ (True ∧ (L96_13 n m0 n x1 (D.int (IntKind.wrap .i64 ((D.i x10) + (IntKind.wrap .i64 ((D.i (D.fld (D.el x20 (D.i x22)) 1)) * (D.i (D.fld (D.el x1 (IntKind.wrap .i64 ((D.i (D.fld (D.el x20 (D.i x22)) 0)) - (D.len (D.fld xo3 1))))) 1))))))) x20 x21 x22 (D.fld (D.el x1 (IntKind.wrap .i64 ((D.i (D.fld (D.el x20 (D.i x22)) 0)) - (D.len (D.fld xo3 1))))) 0) (D.int (D.len (D.fld (D.el x1 (IntKind.wrap .i64 ((D.i (D.fld (D.el x20 (D.i x22)) 0)) - (D.len (D.fld xo3 1))))) 0))) (D.int (0 : Int)) xo3 (D.el x20 (D.i x22)) xo19 Q)))
 (Q [(D.slc ([] : List D)), (D.int (0 : Int)), (D.bool false)]))
 (Q [(D.slc ([] : List D)), (D.int (0 : Int)), (D.bool false)])))))
 (Q [xo19, x10, (D.bool true)])) := by kernel_rfl
theorem L96_13_eq (n m0 m1 : Nat) (x1 : D) (x10 : D) (x20 : D) (x21 : D) (x22 : D) (x79 : D) (x80 : D) (x81 : D) (xo3 : D) (xo12 : D) (xo19 : D) (Q : List D → Prop) : L96_13 n m0 (m1 + 1) x1 x10 x20 x21 x22 x79 x80 x81 xo3 xo12 xo19 Q =
 (cond (iLt (D.i x81) (D.i x80))
 ((0 ≤ (D.i x81) ∧ (D.i x81) < (D.len x79)) ∧ (True ∧ (cond (iLt (D.i (D.fld (D.el x79 (D.i x81)) 0)) (0 : Int))
 (Q [(D.slc ([] : List D)), (D.int (0 : Int)), (D.bool false)])
 (cond (iLe (D.len xo19) (D.i (D.fld (D.el x79 (D.i x81)) 0)))
 (Q [(D.slc ([] : List D)), (D.int (0 : Int)), (D.bool false)])
 ((0 ≤ (D.i (D.fld (D.el x79 (D.i x81)) 0)) ∧ (D.i (D.fld (D.el x79 (D.i x81)) 0)) < (D.len xo19)) ∧ ((0 ≤ (D.i (D.fld (D.el x79 (D.i x81)) 0)) ∧ (D.i (D.fld (D.el x79 (D.i x81)) 0)) < (D.len xo19)) ∧ (True ∧ (L96_13 n m0 m1 x1 x10 x20 x21 x22 x79 x80 (D.int (IntKind.wrap .i64 ((D.i x81) + (1 : Int)))) xo3 xo12 (D.slc (List.set (D.xs xo19) (Int.toNat (D.i (D.fld (D.el x79 (D.i x81)) 0))) (D.int (IntKind.wrap .i64 ((D.i (List.getD (D.xs xo19) (Int.toNat (D.i (D.fld (D.el x79 (D.i x81)) 0))) D.und)) + (IntKind.wrap .i64 ((D.i (D.fld xo12 1)) * (D.i (D.fld (D.el x79 (D.i x81)) 1))))))))) Q))))))))
 (L96_3 n  m0 x1 x10 x20 x21 (D.int (IntKind.wrap .i64 ((D.i x22) + (1 : Int)))) xo3 xo19 Q)) := by kernel_rfl
theorem E96 (n : Nat) (d0 d1 d2 : D) (Q : List D → Prop) : wpF Tryz.prog A (n + 1) 96 [d0, d1, d2] Q =
 ((0 ≤ (minmax true (0 : Int) (D.i (D.fld d0 0))) ∧ (minmax true (0 : Int) (D.i (D.fld d0 0))) ≤ (minmax true (0 : Int) (D.i (D.fld d0 0))) ∧ room (minmax true (0 : Int) (D.i (D.fld d0 0))) 8) ∧ (L96_3 n  n d1 (D.int (0 : Int)) d2 (D.int (D.len d2)) (D.int (0 : Int)) d0 (D.slc (List.replicate (Int.toNat (minmax true (0 : Int) (D.i (D.fld d0 0)))) (D.int (0 : Int)))) Q)) := by kernel_rfl
attribute [irreducible] L96_3 L96_13

/- timebound/certificate.Leaf$1 -/
theorem E97 (n : Nat) (d0 : D) (Q : List D → Prop) : wpF Tryz.prog A (n + 1) 97 [d0] Q =
 (Q [(D.bool (iLt (D.i d0) (0 : Int)))]) := by kernel_rfl

/- timebound/certificate.floor -/
theorem E98 (n : Nat) (d0 d1 : D) (Q : List D → Prop) : wpF Tryz.prog A (n + 1) 98 [d0, d1] Q =
 ((D.i d1) ≠ (0 : Int) ∧ ((D.i d1) ≠ (0 : Int) ∧ (cond (iLt (Int.tmod (D.i d0) (D.i d1)) (0 : Int))
 (Q [(D.int (IntKind.wrap .i64 ((IntKind.wrap .i64 (Int.tdiv (D.i d0) (D.i d1))) - (1 : Int))))])
 (Q [(D.int (IntKind.wrap .i64 (Int.tdiv (D.i d0) (D.i d1))))])))) := by kernel_rfl

/- timebound/certificate.Leaf -/
def L57_5 (n m0 : Nat) (x10 : D) (x39 : D) (x40 : D) (x41 : D) (xo3 : D) (xo5 : D) (xo20 : D) (Q : List D → Prop) : Prop :=
 loopK (wpC Tryz.prog A (hnd Tryz.prog A n) 57 n (cA (cA (cB (cA (cB (cB (cB (bodyOf Tryz.f57))))))))) (nmK Tryz.prog (A.loop 57 5)) m0 { sl := [(3, .ptr 3 [] 46), (5, .ptr 5 [] 98), (9, .val 20 [] 31), (10, .imm 3 x10), (39, .imm 44 x39), (40, .imm 3 x40), (41, .imm 3 x41)], ob := [(3, some ⟨true, 46, .imm, xo3⟩), (5, some ⟨true, 98, .imm, xo5⟩), (20, some ⟨false, 31, (.slc .imm none), xo20⟩)] } (kBlock 0 (kSeq (wpC Tryz.prog A (hnd Tryz.prog A n) 57 n (cB (cB (cB (cB (bodyOf Tryz.f57)))))) (kEnd Tryz.prog Tryz.f57 (A.sig 57) Q)))
theorem L57_5_eq (n m0 : Nat) (x10 : D) (x39 : D) (x40 : D) (x41 : D) (xo3 : D) (xo5 : D) (xo20 : D) (Q : List D → Prop) : L57_5 n (m0 + 1) x10 x39 x40 x41 xo3 xo5 xo20 Q =
 (cond (iLt (D.i x41) (D.i x40))
 ((0 ≤ (D.i x41) ∧ (D.i x41) < (D.len x39)) ∧ (True ∧ ((0 ≤ (D.i (D.fld (D.el x39 (D.i x41)) 0)) ∧ (D.i (D.fld (D.el x39 (D.i x41)) 0)) < (D.len xo20)) ∧ ((0 ≤ (D.i (D.fld (D.el x39 (D.i x41)) 0)) ∧ (D.i (D.fld (D.el x39 (D.i x41)) 0)) < (D.len xo20)) ∧ (True ∧ (L57_5 n  m0 x10 x39 x40 (D.int (IntKind.wrap .i64 ((D.i x41) + (1 : Int)))) xo3 xo5 (D.slc (List.set (D.xs xo20) (Int.toNat (D.i (D.fld (D.el x39 (D.i x41)) 0))) (D.int (IntKind.wrap .i64 ((D.i (List.getD (D.xs xo20) (Int.toNat (D.i (D.fld (D.el x39 (D.i x41)) 0))) D.und)) - (IntKind.wrap .i64 ((D.i (D.fld xo5 5)) * (D.i (D.fld (D.el x39 (D.i x41)) 1))))))))) Q))))))
 (wpF Tryz.prog A n 38 [xo20, (D.fn 97 [])] fun r3 =>
 (cond (D.b (rs r3 0))
 (Q [(D.int (0 : Int)), (D.bool false), (D.bool false)])
 (cond (iLt (0 : Int) (D.i (D.fld xo5 5)))
 (wpF Tryz.prog A n 98 [x10, (D.fld xo5 5)] fun r4 =>
 (Q [(D.int (IntKind.wrap .i64 ((D.i (D.fld xo3 3)) + (D.i (rs r4 0))))), (D.bool true), (D.bool false)]))
 (cond (iLt (D.i x10) (0 : Int))
 (Q [(D.int (0 : Int)), (D.bool true), (D.bool true)])
 (Q [(D.int (0 : Int)), (D.bool false), (D.bool false)])))))) := by kernel_rfl
theorem E57 (n : Nat) (d0 d1 d2 : D) (Q : List D → Prop) : wpF Tryz.prog A (n + 1) 57 [d0, d1, d2] Q =
 (wpF Tryz.prog A n 96 [d0, d1, (D.fld d2 4)] fun r1 =>
 (cond (!(D.b (rs r1 2)))
 (Q [(D.int (0 : Int)), (D.bool false), (D.bool false)])
 (wpF Tryz.prog A n 77 [(D.fld d0 2), (D.fld d0 0), (D.int (16777216 : Int))] fun r2 =>
 (cond (!(D.b (rs r2 0)))
 (Q [(D.int (0 : Int)), (D.bool false), (D.bool false)])
 (cond (iLt (D.i (D.fld d2 5)) (0 : Int))
 (Q [(D.int (0 : Int)), (D.bool false), (D.bool false)])
 (L57_5 n  n (rs r1 1) (D.fld d0 2) (D.int (D.len (D.fld d0 2))) (D.int (0 : Int)) d0 d2 (rs r1 0) Q)))))) := by kernel_rfl
attribute [irreducible] L57_5

/- timebound/certificate.Check -/
def L28_9 (n m0 : Nat) (x24 : D) (x25 : D) (x26 : D) (xo2 : D) (xo3 : D) (xo19 : D) (Q : List D → Prop) : Prop :=
 loopK (wpC Tryz.prog A (hnd Tryz.prog A n) 28 n (cA (cA (cB (cA (cB (cB (cB (cB (cB (bodyOf Tryz.f28))))))))))) (nmK Tryz.prog (A.loop 28 9)) m0 { sl := [(2, .ptr 2 [] 46), (3, .ptr 3 [] 51), (5, .val 19 [] 96), (24, .imm 49 x24), (25, .imm 3 x25), (26, .imm 3 x26)], ob := [(2, some ⟨true, 46, .imm, xo2⟩), (3, some ⟨true, 51, .imm, xo3⟩), (19, some ⟨false, 96, (.slc .imm none), xo19⟩)] } (kBlock 0 (kSeq (wpC Tryz.prog A (hnd Tryz.prog A n) 28 n (cB (cB (cB (cB (cB (cB (bodyOf Tryz.f28)))))))) (kEnd Tryz.prog Tryz.f28 (A.sig 28) Q)))
theorem L28_9_eq (n m0 : Nat) (x24 : D) (x25 : D) (x26 : D) (xo2 : D) (xo3 : D) (xo19 : D) (Q : List D → Prop) : L28_9 n (m0 + 1) x24 x25 x26 xo2 xo3 xo19 Q =
 (cond (iLt (D.i x26) (D.i x25))
 ((0 ≤ (D.i x26) ∧ (D.i x26) < (D.len x24)) ∧ (True ∧ (wpF Tryz.prog A n 56 [(D.el x24 (D.i x26))] fun r5 =>
 (cond (!(D.b (rs r5 0)))
 (L28_9 n  m0 x24 x25 (D.int (IntKind.wrap .i64 ((D.i x26) + (1 : Int)))) xo2 xo3 xo19 Q)
 ((0 ≤ (D.i x26) ∧ (D.i x26) < (D.len xo19)) ∧ (wpF Tryz.prog A n 57 [xo2, (List.getD (D.xs xo19) (Int.toNat (D.i x26)) D.und), (D.el x24 (D.i x26))] fun r6 =>
 (cond (!(D.b (rs r6 1)))
 (Q [(D.int (37 : Int))])
 (cond (!(D.b (rs r6 2)))
 (cond (iLt (D.i (D.fld xo3 1)) (D.i (rs r6 0)))
 (Q [(D.int (37 : Int))])
 (L28_9 n  m0 x24 x25 (D.int (IntKind.wrap .i64 ((D.i x26) + (1 : Int)))) xo2 xo3 xo19 Q))
 (L28_9 n  m0 x24 x25 (D.int (IntKind.wrap .i64 ((D.i x26) + (1 : Int)))) xo2 xo3 xo19 Q)))))))))
 (Q [(D.int (0 : Int))])) := by kernel_rfl
theorem E28 (n : Nat) (d0 d1 : D) (Q : List D → Prop) : wpF Tryz.prog A (n + 1) 28 [d0, d1] Q =
 (wpF Tryz.prog A n 21 [d0] fun r1 =>
 (cond (!(D.b (rs r1 0)))
 (Q [(D.int (33 : Int))])
 (wpF Tryz.prog A n 52 [d0, d1] fun r2 =>
 (cond (!(D.b (rs r2 0)))
 (Q [(D.int (10 : Int))])
 (wpF Tryz.prog A n 53 [d1] fun r3 =>
 (wpF Tryz.prog A n 54 [(rs r3 0), (D.fn 55 [(D.ptr d0)])] fun r4 =>
 (cond (D.b (rs r4 0))
 (Q [(D.int (10 : Int))])
 (L28_9 n  n (D.fld d1 0) (D.int (D.len (D.fld d1 0))) (D.int (0 : Int)) d0 d1 (rs r3 0) Q)))))))) := by kernel_rfl
attribute [irreducible] L28_9

/- timebound/timeboundref32.terms -/
def L59_2 (n m0 : Nat) (x0 : D) (x1 : D) (x2 : D) (x9 : D) (x10 : D) (x11 : D) (Q : List D → Prop) : Prop :=
 loopK (wpC Tryz.prog A (hnd Tryz.prog A n) 59 n (cA (cA (cB (cA (cB (bodyOf Tryz.f59))))))) (nmK Tryz.prog (A.loop 59 2)) m0 { sl := [(0, .imm 44 x0), (1, .imm 3 x1), (2, .imm 3 x2), (9, .imm 44 x9), (10, .imm 3 x10), (11, .imm 3 x11)], ob := [] } (kBlock 0 (kSeq (wpC Tryz.prog A (hnd Tryz.prog A n) 59 n (cB (cB (bodyOf Tryz.f59)))) (kEnd Tryz.prog Tryz.f59 (A.sig 59) Q)))
theorem L59_2_eq (n m0 : Nat) (x0 : D) (x1 : D) (x2 : D) (x9 : D) (x10 : D) (x11 : D) (Q : List D → Prop) : L59_2 n (m0 + 1) x0 x1 x2 x9 x10 x11 Q =
 (cond (iLt (D.i x11) (D.i x10))
 ((0 ≤ (D.i x11) ∧ (D.i x11) < (D.len x9)) ∧ (True ∧ (cond (iLt (D.i (D.fld (D.el x9 (D.i x11)) 0)) (0 : Int))
 (Q [(D.bool false)])
 (cond (iLe (D.i x1) (D.i (D.fld (D.el x9 (D.i x11)) 0)))
 (Q [(D.bool false)])
 (cond (iEq (D.i (D.fld (D.el x9 (D.i x11)) 1)) (0 : Int))
 (Q [(D.bool false)])
 (cond (iLt (D.i (D.fld (D.el x9 (D.i x11)) 1)) (IntKind.wrap .i64 ((0 : Int) - (D.i x2))))
 (Q [(D.bool false)])
 (cond (iLt (D.i x2) (D.i (D.fld (D.el x9 (D.i x11)) 1)))
 (Q [(D.bool false)])
 (cond (iLt (0 : Int) (D.i x11))
 ((0 ≤ (IntKind.wrap .i64 ((D.i x11) - (1 : Int))) ∧ (IntKind.wrap .i64 ((D.i x11) - (1 : Int))) < (D.len x0)) ∧ (cond (iLe (D.i (D.fld (D.el x9 (D.i x11)) 0)) (D.i (D.fld (D.el x0 (IntKind.wrap .i64 ((D.i x11) - (1 : Int)))) 0)))
 (Q [(D.bool false)])
 (L59_2 n  m0 x0 x1 x2 x9 x10 (D.int (IntKind.wrap .i64 ((D.i x11) + (1 : Int)))) Q)))
 (L59_2 n  m0 x0 x1 x2 x9 x10 (D.int (IntKind.wrap .i64 ((D.i x11) + (1 : Int)))) Q)))))))))
 (Q [(D.bool true)])) := by kernel_rfl
theorem E59 (n : Nat) (d0 d1 d2 : D) (Q : List D → Prop) : wpF Tryz.prog A (n + 1) 59 [d0, d1, d2] Q =
 (L59_2 n  n d0 d1 d2 d0 (D.int (D.len d0)) (D.int (0 : Int)) Q) := by kernel_rfl
attribute [irreducible] L59_2

/- timebound/timeboundref32.Row -/
theorem E58 (n : Nat) (d0 d1 : D) (Q : List D → Prop) : wpF Tryz.prog A (n + 1) 58 [d0, d1] Q =
 (wpF Tryz.prog A n 59 [(D.fld d0 0), d1, (D.int (1048576 : Int))] fun r1 =>
 (cond (D.b (rs r1 0))
 (cond (iLe (-1048576 : Int) (D.i (D.fld d0 1)))
 (Q [(D.bool (iLe (D.i (D.fld d0 1)) (1048576 : Int)))])
 (Q [(D.bool false)]))
 (Q [(D.bool false)]))) := by kernel_rfl

/- timebound/timeboundref32.Valid -/
def L29_2 (n m0 : Nat) (x6 : D) (x7 : D) (x8 : D) (xo1 : D) (Q : List D → Prop) : Prop :=
 loopK (wpC Tryz.prog A (hnd Tryz.prog A n) 29 n (cA (cA (cB (cA (cB (bodyOf Tryz.f29))))))) (nmK Tryz.prog (A.loop 29 2)) m0 { sl := [(1, .ptr 1 [] 46), (6, .imm 43 x6), (7, .imm 3 x7), (8, .imm 3 x8)], ob := [(1, some ⟨true, 46, .imm, xo1⟩)] } (kBlock 0 (kSeq (wpC Tryz.prog A (hnd Tryz.prog A n) 29 n (cB (cB (bodyOf Tryz.f29)))) (kEnd Tryz.prog Tryz.f29 (A.sig 29) Q)))
theorem L29_2_eq (n m0 : Nat) (x6 : D) (x7 : D) (x8 : D) (xo1 : D) (Q : List D → Prop) : L29_2 n (m0 + 1) x6 x7 x8 xo1 Q =
 (cond (iLt (D.i x8) (D.i x7))
 ((0 ≤ (D.i x8) ∧ (D.i x8) < (D.len x6)) ∧ (True ∧ (wpF Tryz.prog A n 58 [(D.el x6 (D.i x8)), (D.fld xo1 0)] fun r1 =>
 (cond (!(D.b (rs r1 0)))
 (Q [(D.bool false)])
 (L29_2 n  m0 x6 x7 (D.int (IntKind.wrap .i64 ((D.i x8) + (1 : Int)))) xo1 Q)))))
 (cond (iLe (0 : Int) (D.i (D.fld xo1 0)))
 (cond (iLe (D.i (D.fld xo1 0)) (300 : Int))
 (cond (iLe (D.len (D.fld xo1 1)) (400 : Int))
 (wpF Tryz.prog A n 59 [(D.fld xo1 2), (D.fld xo1 0), (D.int (16777216 : Int))] fun r2 =>
 (cond (D.b (rs r2 0))
 (cond (iLe (-16777216 : Int) (D.i (D.fld xo1 3)))
 (Q [(D.bool (iLe (D.i (D.fld xo1 3)) (16777216 : Int)))])
 (Q [(D.bool false)]))
 (Q [(D.bool false)])))
 (Q [(D.bool false)]))
 (Q [(D.bool false)]))
 (Q [(D.bool false)]))) := by kernel_rfl
theorem E29 (n : Nat) (d0 : D) (Q : List D → Prop) : wpF Tryz.prog A (n + 1) 29 [d0] Q =
 (L29_2 n  n (D.fld d0 1) (D.int (D.len (D.fld d0 1))) (D.int (0 : Int)) d0 Q) := by kernel_rfl
attribute [irreducible] L29_2

/- timebound/timeboundref34.leaf -/
def L60_2 (n m0 : Nat) (x6 : D) (x7 : D) (x8 : D) (xo1 : D) (Q : List D → Prop) : Prop :=
 loopK (wpC Tryz.prog A (hnd Tryz.prog A n) 60 n (cA (cA (cB (cA (cB (bodyOf Tryz.f60))))))) (nmK Tryz.prog (A.loop 60 2)) m0 { sl := [(1, .ptr 1 [] 98), (6, .imm 44 x6), (7, .imm 3 x7), (8, .imm 3 x8)], ob := [(1, some ⟨true, 98, .imm, xo1⟩)] } (kBlock 0 (kSeq (wpC Tryz.prog A (hnd Tryz.prog A n) 60 n (cB (cB (bodyOf Tryz.f60)))) (kEnd Tryz.prog Tryz.f60 (A.sig 60) Q)))
theorem L60_2_eq (n m0 : Nat) (x6 : D) (x7 : D) (x8 : D) (xo1 : D) (Q : List D → Prop) : L60_2 n (m0 + 1) x6 x7 x8 xo1 Q =
 (cond (iLt (D.i x8) (D.i x7))
 ((0 ≤ (D.i x8) ∧ (D.i x8) < (D.len x6)) ∧ (True ∧ (cond (iLt (D.i (D.fld (D.el x6 (D.i x8)) 0)) (0 : Int))
 (Q [(D.bool false)])
 (cond (iLt (0 : Int) (D.i x8))
 ((0 ≤ (IntKind.wrap .i64 ((D.i x8) - (1 : Int))) ∧ (IntKind.wrap .i64 ((D.i x8) - (1 : Int))) < (D.len (D.fld xo1 4))) ∧ (cond (iLe (D.i (D.fld (D.el x6 (D.i x8)) 0)) (D.i (D.fld (D.el (D.fld xo1 4) (IntKind.wrap .i64 ((D.i x8) - (1 : Int)))) 0)))
 (Q [(D.bool false)])
 (cond (iLt (D.i (D.fld (D.el x6 (D.i x8)) 1)) (1 : Int))
 (Q [(D.bool false)])
 (cond (iLt (1073741824 : Int) (D.i (D.fld (D.el x6 (D.i x8)) 1)))
 (Q [(D.bool false)])
 (L60_2 n  m0 x6 x7 (D.int (IntKind.wrap .i64 ((D.i x8) + (1 : Int)))) xo1 Q)))))
 (cond (iLt (D.i (D.fld (D.el x6 (D.i x8)) 1)) (1 : Int))
 (Q [(D.bool false)])
 (cond (iLt (1073741824 : Int) (D.i (D.fld (D.el x6 (D.i x8)) 1)))
 (Q [(D.bool false)])
 (L60_2 n  m0 x6 x7 (D.int (IntKind.wrap .i64 ((D.i x8) + (1 : Int)))) xo1 Q)))))))
 (cond (iEq (D.i (D.fld xo1 0)) (-1 : Int))
 (cond (iEq (D.i (D.fld xo1 1)) (-1 : Int))
 (cond (iEq (D.len (D.fld xo1 2)) (0 : Int))
 (cond (iEq (D.i (D.fld xo1 3)) (0 : Int))
 (cond (iLe (0 : Int) (D.i (D.fld xo1 5)))
 (Q [(D.bool (iLe (D.i (D.fld xo1 5)) (1024 : Int)))])
 (Q [(D.bool false)]))
 (Q [(D.bool false)]))
 (Q [(D.bool false)]))
 (Q [(D.bool false)]))
 (Q [(D.bool false)]))) := by kernel_rfl
theorem E60 (n : Nat) (d0 : D) (Q : List D → Prop) : wpF Tryz.prog A (n + 1) 60 [d0] Q =
 (L60_2 n  n (D.fld d0 4) (D.int (D.len (D.fld d0 4))) (D.int (0 : Int)) d0 Q) := by kernel_rfl
attribute [irreducible] L60_2

/- timebound/timeboundref34.form -/
theorem E61 (n : Nat) (d0 d1 d2 : D) (Q : List D → Prop) : wpF Tryz.prog A (n + 1) 61 [d0, d1, d2] Q =
 (wpF Tryz.prog A n 58 [(D.agg [d1, (D.int (0 : Int))]), (D.fld d0 0)] fun r1 =>
 (cond (D.b (rs r1 0))
 (cond (iLe (-1048576 : Int) (D.i d2))
 (Q [(D.bool (iLe (D.i d2) (1048575 : Int)))])
 (Q [(D.bool false)]))
 (Q [(D.bool false)]))) := by kernel_rfl

/- timebound/timeboundref34.Valid -/
def L30_5 (n m0 : Nat) (x27 : D) (x28 : D) (x29 : D) (xo2 : D) (xo3 : D) (xo25 : D) (Q : List D → Prop) : Prop :=
 loopK (wpC Tryz.prog A (hnd Tryz.prog A n) 30 n (cA (cA (cB (cA (cB (cB (cB (bodyOf Tryz.f30))))))))) (nmK Tryz.prog (A.loop 30 5)) m0 { sl := [(2, .ptr 2 [] 46), (3, .ptr 3 [] 51), (5, .val 25 [] 61), (27, .imm 49 x27), (28, .imm 3 x28), (29, .imm 3 x29)], ob := [(2, some ⟨true, 46, .imm, xo2⟩), (3, some ⟨true, 51, .imm, xo3⟩), (25, some ⟨false, 61, (.slc .imm none), xo25⟩)] } (kBlock 0 (kSeq (wpC Tryz.prog A (hnd Tryz.prog A n) 30 n (cB (cB (cB (cB (bodyOf Tryz.f30)))))) (kEnd Tryz.prog Tryz.f30 (A.sig 30) Q)))
def L30_13 (n m0 m1 : Nat) (x6 : D) (x27 : D) (x28 : D) (x29 : D) (x70 : D) (x71 : D) (xo2 : D) (xo3 : D) (xo25 : D) (xo69 : D) (Q : List D → Prop) : Prop :=
 loopK (wpC Tryz.prog A (hnd Tryz.prog A n) 30 n (cA (cA (cB (cB (cB (cB (cA (cA (cB (cB (cA (cA (cB (cA (cB (cB (cB (bodyOf Tryz.f30))))))))))))))))))) (nmK Tryz.prog (A.loop 30 13)) m1 { sl := [(2, .ptr 2 [] 46), (3, .ptr 3 [] 51), (5, .val 25 [] 61), (6, .imm 3 x6), (27, .imm 49 x27), (28, .imm 3 x28), (29, .imm 3 x29), (69, .val 69 [] 31), (70, .imm 3 x70), (71, .imm 3 x71)], ob := [(2, some ⟨true, 46, .imm, xo2⟩), (3, some ⟨true, 51, .imm, xo3⟩), (25, some ⟨false, 61, (.slc .imm none), xo25⟩), (69, some ⟨false, 31, (.slc .imm none), xo69⟩)] } (kBlock 2 (kBlock 1 (kSeq (wpC Tryz.prog A (hnd Tryz.prog A n) 30 n (cB (cB (cB (cA (cA (cB (cA (cB (cB (cB (bodyOf Tryz.f30)))))))))))) (kLoop (nmK Tryz.prog (A.loop 30 5)) (fun g => loopK (wpC Tryz.prog A (hnd Tryz.prog A n) 30 n (cA (cA (cB (cA (cB (cB (cB (bodyOf Tryz.f30))))))))) (nmK Tryz.prog (A.loop 30 5)) m0 g (kBlock 0 (kSeq (wpC Tryz.prog A (hnd Tryz.prog A n) 30 n (cB (cB (cB (cB (bodyOf Tryz.f30)))))) (kEnd Tryz.prog Tryz.f30 (A.sig 30) Q)))) (kBlock 0 (kSeq (wpC Tryz.prog A (hnd Tryz.prog A n) 30 n (cB (cB (cB (cB (bodyOf Tryz.f30)))))) (kEnd Tryz.prog Tryz.f30 (A.sig 30) Q)))))))
def L30_21 (n m0 : Nat) (x97 : D) (x98 : D) (x99 : D) (Q : List D → Prop) : Prop :=
 loopK (wpC Tryz.prog A (hnd Tryz.prog A n) 30 n (cA (cA (cB (cA (cB (cB (cB (cB (bodyOf Tryz.f30)))))))))) (nmK Tryz.prog (A.loop 30 21)) m0 { sl := [(97, .imm 61 x97), (98, .imm 3 x98), (99, .imm 3 x99)], ob := [] } (kBlock 4 (kSeq (wpC Tryz.prog A (hnd Tryz.prog A n) 30 n (cB (cB (cB (cB (cB (bodyOf Tryz.f30))))))) (kEnd Tryz.prog Tryz.f30 (A.sig 30) Q)))
theorem L30_5_eq (n m0 : Nat) (x27 : D) (x28 : D) (x29 : D) (xo2 : D) (xo3 : D) (xo25 : D) (Q : List D → Prop) : L30_5 n (m0 + 1) x27 x28 x29 xo2 xo3 xo25 Q =
 (cond (iLt (D.i x29) (D.i x28))
 ((0 ≤ (D.i x29) ∧ (D.i x29) < (D.len x27)) ∧ (True ∧ (cond (iEq (D.i (D.fld (D.el x27 (D.i x29)) 0)) (-1 : Int))
 (wpF Tryz.prog A n 60 [(D.el x27 (D.i x29))] fun r1 =>
 (cond (!(D.b (rs r1 0)))
 (Q [(D.bool false)])
 (L30_5 n  m0 x27 x28 (D.int (IntKind.wrap .i64 ((D.i x29) + (1 : Int)))) xo2 xo3 xo25 Q)))
 (wpF Tryz.prog A n 61 [xo2, (D.fld (D.el x27 (D.i x29)) 2), (D.fld (D.el x27 (D.i x29)) 3)] fun r2 =>
 (cond (!(D.b (rs r2 0)))
 (Q [(D.bool false)])
 (cond (iLt (0 : Int) (D.len (D.fld (D.el x27 (D.i x29)) 4)))
 (Q [(D.bool false)])
 (cond (!(iEq (D.i (D.fld (D.el x27 (D.i x29)) 5)) (0 : Int)))
 (Q [(D.bool false)])
 (cond (iEq (D.i (D.fld (D.el x27 (D.i x29)) 0)) (D.i (D.fld (D.el x27 (D.i x29)) 1)))
 (Q [(D.bool false)])
 (L30_13 n m0 n x29 x27 x28 x29 (D.int (D.len (D.slc [(D.fld (D.el x27 (D.i x29)) 0), (D.fld (D.el x27 (D.i x29)) 1)]))) (D.int (0 : Int)) xo2 xo3 xo25 (D.slc [(D.fld (D.el x27 (D.i x29)) 0), (D.fld (D.el x27 (D.i x29)) 1)]) Q)))))))))
 ((0 ≤ (1 : Int) ∧ (1 : Int) ≤ (D.len xo25) ∧ (D.len xo25) ≤ (D.len xo25)) ∧ (L30_21 n  n (D.slc (List.drop (Int.toNat (1 : Int)) (List.take (Int.toNat (D.len xo25)) (D.xs xo25)))) (D.int (D.len (D.slc (List.drop (Int.toNat (1 : Int)) (List.take (Int.toNat (D.len xo25)) (D.xs xo25)))))) (D.int (0 : Int)) Q))) := by kernel_rfl
theorem L30_13_eq (n m0 m1 : Nat) (x6 : D) (x27 : D) (x28 : D) (x29 : D) (x70 : D) (x71 : D) (xo2 : D) (xo3 : D) (xo25 : D) (xo69 : D) (Q : List D → Prop) : L30_13 n m0 (m1 + 1) x6 x27 x28 x29 x70 x71 xo2 xo3 xo25 xo69 Q =
 (cond (iLt (D.i x71) (D.i x70))
 ((0 ≤ (D.i x71) ∧ (D.i x71) < (D.len xo69)) ∧ (cond (iLe (D.i (List.getD (D.xs xo69) (Int.toNat (D.i x71)) D.und)) (D.i x6))
 (Q [(D.bool false)])
 (cond (iLe (D.len (D.fld xo3 0)) (D.i (List.getD (D.xs xo69) (Int.toNat (D.i x71)) D.und)))
 (Q [(D.bool false)])
 ((0 ≤ (D.i (List.getD (D.xs xo69) (Int.toNat (D.i x71)) D.und)) ∧ (D.i (List.getD (D.xs xo69) (Int.toNat (D.i x71)) D.und)) < (D.len xo25)) ∧ (cond (D.b (List.getD (D.xs xo25) (Int.toNat (D.i (List.getD (D.xs xo69) (Int.toNat (D.i x71)) D.und))) D.und))
 (Q [(D.bool false)])
 ((0 ≤ (D.i (List.getD (D.xs xo69) (Int.toNat (D.i x71)) D.und)) ∧ (D.i (List.getD (D.xs xo69) (Int.toNat (D.i x71)) D.und)) < (D.len xo25)) ∧ (True ∧ (L30_13 n m0 m1 x6 x27 x28 x29 x70 (D.int (IntKind.wrap .i64 ((D.i x71) + (1 : Int)))) xo2 xo3 (D.slc (List.set (D.xs xo25) (Int.toNat (D.i (List.getD (D.xs xo69) (Int.toNat (D.i x71)) D.und))) (D.bool true))) xo69 Q))))))))
 (L30_5 n  m0 x27 x28 (D.int (IntKind.wrap .i64 ((D.i x29) + (1 : Int)))) xo2 xo3 xo25 Q)) := by kernel_rfl
theorem L30_21_eq (n m0 : Nat) (x97 : D) (x98 : D) (x99 : D) (Q : List D → Prop) : L30_21 n (m0 + 1) x97 x98 x99 Q =
 (cond (iLt (D.i x99) (D.i x98))
 ((0 ≤ (D.i x99) ∧ (D.i x99) < (D.len x97)) ∧ (cond (!(D.b (D.el x97 (D.i x99))))
 (Q [(D.bool false)])
 (L30_21 n  m0 x97 x98 (D.int (IntKind.wrap .i64 ((D.i x99) + (1 : Int)))) Q)))
 (Q [(D.bool true)])) := by kernel_rfl
theorem E30 (n : Nat) (d0 d1 : D) (Q : List D → Prop) : wpF Tryz.prog A (n + 1) 30 [d0, d1] Q =
 (cond (iLt (D.len (D.fld d1 0)) (1 : Int))
 (Q [(D.bool false)])
 (cond (iLt (1000 : Int) (D.len (D.fld d1 0)))
 (Q [(D.bool false)])
 ((0 ≤ (D.len (D.fld d1 0)) ∧ (D.len (D.fld d1 0)) ≤ (D.len (D.fld d1 0)) ∧ room (D.len (D.fld d1 0)) 1) ∧ (L30_5 n  n (D.fld d1 0) (D.int (D.len (D.fld d1 0))) (D.int (0 : Int)) d0 d1 (D.slc (List.replicate (Int.toNat (D.len (D.fld d1 0))) (D.bool false))) Q)))) := by kernel_rfl
attribute [irreducible] L30_5 L30_13 L30_21

/- timebound/timeboundref34.Sides -/
def L31_3 (n m0 : Nat) (x0 : D) (x1 : D) (x9 : D) (x10 : D) (x11 : D) (xo4 : D) (xo5 : D) (xo6 : D) (Q : List D → Prop) : Prop :=
 loopK (wpC Tryz.prog A (hnd Tryz.prog A n) 31 n (cA (cA (cB (cA (cB (cB (bodyOf Tryz.f31)))))))) (nmK Tryz.prog (A.loop 31 3)) m0 { sl := [(0, .imm 44 x0), (1, .imm 3 x1), (4, .ptr 4 [] 71), (5, .ptr 5 [] 71), (6, .val 6 [] 44), (9, .imm 44 x9), (10, .imm 3 x10), (11, .imm 3 x11)], ob := [(4, some ⟨true, 71, (.agg [(0, (.slc .imm none))]), xo4⟩), (5, some ⟨true, 71, (.agg [(0, (.slc .imm none))]), xo5⟩), (6, some ⟨false, 44, (.slc .imm none), xo6⟩)] } (kBlock 0 (kSeq (wpC Tryz.prog A (hnd Tryz.prog A n) 31 n (cB (cB (cB (bodyOf Tryz.f31))))) (kEnd Tryz.prog Tryz.f31 (A.sig 31) Q)))
theorem L31_3_eq (n m0 : Nat) (x0 : D) (x1 : D) (x9 : D) (x10 : D) (x11 : D) (xo4 : D) (xo5 : D) (xo6 : D) (Q : List D → Prop) : L31_3 n (m0 + 1) x0 x1 x9 x10 x11 xo4 xo5 xo6 Q =
 (cond (iLt (D.i x11) (D.i x10))
 ((0 ≤ (D.i x11) ∧ (D.i x11) < (D.len x9)) ∧ (True ∧ (room (((List.length (D.xs xo6) : Nat) : Int) + ((List.length [(D.agg [(D.fld (D.el x9 (D.i x11)) 0), (D.int (IntKind.wrap .i64 ((0 : Int) - (D.i (D.fld (D.el x9 (D.i x11)) 1)))))])] : Nat) : Int)) 16 ∧ (L31_3 n  m0 x0 x1 x9 x10 (D.int (IntKind.wrap .i64 ((D.i x11) + (1 : Int)))) xo4 xo5 (D.slc ((D.xs xo6) ++ [(D.agg [(D.fld (D.el x9 (D.i x11)) 0), (D.int (IntKind.wrap .i64 ((0 : Int) - (D.i (D.fld (D.el x9 (D.i x11)) 1)))))])])) Q))))
 (True ∧ (True ∧ (Q [(D.agg [x0, x1]), (D.agg [xo6, (D.int (IntKind.wrap .i64 ((IntKind.wrap .i64 ((0 : Int) - (D.i x1))) - (1 : Int))))])])))) := by kernel_rfl
theorem E31 (n : Nat) (d0 d1 : D) (Q : List D → Prop) : wpF Tryz.prog A (n + 1) 31 [d0, d1] Q =
 (L31_3 n  n d0 d1 d0 (D.int (D.len d0)) (D.int (0 : Int)) (D.agg [(D.slc ([] : List D)), (D.int (0 : Int))]) (D.agg [(D.slc ([] : List D)), (D.int (0 : Int))]) (D.slc ([] : List D)) Q) := by kernel_rfl
attribute [irreducible] L31_3

/- timebound/timeboundref32.Coef -/
def L62_2 (n m0 : Nat) (x1 : D) (x7 : D) (x8 : D) (x9 : D) (Q : List D → Prop) : Prop :=
 loopK (wpC Tryz.prog A (hnd Tryz.prog A n) 62 n (cA (cA (cB (cA (cB (bodyOf Tryz.f62))))))) (nmK Tryz.prog (A.loop 62 2)) m0 { sl := [(1, .imm 3 x1), (7, .imm 44 x7), (8, .imm 3 x8), (9, .imm 3 x9)], ob := [] } (kBlock 0 (kSeq (wpC Tryz.prog A (hnd Tryz.prog A n) 62 n (cB (cB (bodyOf Tryz.f62)))) (kEnd Tryz.prog Tryz.f62 (A.sig 62) Q)))
theorem L62_2_eq (n m0 : Nat) (x1 : D) (x7 : D) (x8 : D) (x9 : D) (Q : List D → Prop) : L62_2 n (m0 + 1) x1 x7 x8 x9 Q =
 (cond (iLt (D.i x9) (D.i x8))
 ((0 ≤ (D.i x9) ∧ (D.i x9) < (D.len x7)) ∧ (True ∧ (cond (iEq (D.i (D.fld (D.el x7 (D.i x9)) 0)) (D.i x1))
 (Q [(D.fld (D.el x7 (D.i x9)) 1)])
 (L62_2 n  m0 x1 x7 x8 (D.int (IntKind.wrap .i64 ((D.i x9) + (1 : Int)))) Q))))
 (Q [(D.int (0 : Int))])) := by kernel_rfl
theorem E62 (n : Nat) (d0 d1 : D) (Q : List D → Prop) : wpF Tryz.prog A (n + 1) 62 [d0, d1] Q =
 (L62_2 n  n d1 d0 (D.int (D.len d0)) (D.int (0 : Int)) Q) := by kernel_rfl
attribute [irreducible] L62_2

/- timebound/timeboundref34.Leaf -/
def L32_4 (n m0 : Nat) (x1 : D) (x10 : D) (x23 : D) (x24 : D) (x25 : D) (xo3 : D) (xo5 : D) (xo21 : D) (Q : List D → Prop) : Prop :=
 loopK (wpC Tryz.prog A (hnd Tryz.prog A n) 32 n (cA (cA (cB (cA (cB (cB (cB (bodyOf Tryz.f32))))))))) (nmK Tryz.prog (A.loop 32 4)) m0 { sl := [(1, .imm 43 x1), (3, .ptr 3 [] 46), (5, .ptr 5 [] 98), (9, .val 21 [] 31), (10, .imm 3 x10), (23, .imm 44 x23), (24, .imm 3 x24), (25, .imm 3 x25)], ob := [(3, some ⟨true, 46, .imm, xo3⟩), (5, some ⟨true, 98, .imm, xo5⟩), (21, some ⟨false, 31, (.slc .imm none), xo21⟩)] } (kBlock 0 (kSeq (wpC Tryz.prog A (hnd Tryz.prog A n) 32 n (cB (cB (cB (cB (bodyOf Tryz.f32)))))) (kEnd Tryz.prog Tryz.f32 (A.sig 32) Q)))
def L32_13 (n m0 m1 : Nat) (x1 : D) (x10 : D) (x23 : D) (x24 : D) (x25 : D) (x67 : D) (x68 : D) (x69 : D) (xo3 : D) (xo5 : D) (xo12 : D) (xo13 : D) (xo21 : D) (Q : List D → Prop) : Prop :=
 loopK (wpC Tryz.prog A (hnd Tryz.prog A n) 32 n (cA (cA (cB (cA (cB (cB (cB (cA (cA (cB (cB (cA (cA (cB (cA (cB (cB (cB (bodyOf Tryz.f32)))))))))))))))))))) (nmK Tryz.prog (A.loop 32 13)) m1 { sl := [(1, .imm 43 x1), (3, .ptr 3 [] 46), (5, .ptr 5 [] 98), (9, .val 21 [] 31), (10, .imm 3 x10), (12, .ptr 12 [] 87), (13, .ptr 13 [] 71), (23, .imm 44 x23), (24, .imm 3 x24), (25, .imm 3 x25), (67, .imm 44 x67), (68, .imm 3 x68), (69, .imm 3 x69)], ob := [(3, some ⟨true, 46, .imm, xo3⟩), (5, some ⟨true, 98, .imm, xo5⟩), (12, some ⟨true, 87, .imm, xo12⟩), (13, some ⟨true, 71, .imm, xo13⟩), (21, some ⟨false, 31, (.slc .imm none), xo21⟩)] } (kBlock 3 (kSeq (wpC Tryz.prog A (hnd Tryz.prog A n) 32 n (cB (cB (cB (cB (cA (cA (cB (cB (cA (cA (cB (cA (cB (cB (cB (bodyOf Tryz.f32))))))))))))))))) (kBlock 1 (kSeq (wpC Tryz.prog A (hnd Tryz.prog A n) 32 n (cB (cB (cB (cA (cA (cB (cA (cB (cB (cB (bodyOf Tryz.f32)))))))))))) (kLoop (nmK Tryz.prog (A.loop 32 4)) (fun g => loopK (wpC Tryz.prog A (hnd Tryz.prog A n) 32 n (cA (cA (cB (cA (cB (cB (cB (bodyOf Tryz.f32))))))))) (nmK Tryz.prog (A.loop 32 4)) m0 g (kBlock 0 (kSeq (wpC Tryz.prog A (hnd Tryz.prog A n) 32 n (cB (cB (cB (cB (bodyOf Tryz.f32)))))) (kEnd Tryz.prog Tryz.f32 (A.sig 32) Q)))) (kBlock 0 (kSeq (wpC Tryz.prog A (hnd Tryz.prog A n) 32 n (cB (cB (cB (cB (bodyOf Tryz.f32)))))) (kEnd Tryz.prog Tryz.f32 (A.sig 32) Q))))))))
def L32_20 (n m0 : Nat) (x10 : D) (x95 : D) (x96 : D) (xo3 : D) (xo5 : D) (xo21 : D) (Q : List D → Prop) : Prop :=
 loopK (wpC Tryz.prog A (hnd Tryz.prog A n) 32 n (cA (cA (cB (cA (cB (cB (cB (cB (bodyOf Tryz.f32)))))))))) (nmK Tryz.prog (A.loop 32 20)) m0 { sl := [(3, .ptr 3 [] 46), (5, .ptr 5 [] 98), (10, .imm 3 x10), (94, .val 21 [] 31), (95, .imm 3 x95), (96, .imm 3 x96)], ob := [(3, some ⟨true, 46, .imm, xo3⟩), (5, some ⟨true, 98, .imm, xo5⟩), (21, some ⟨false, 31, (.slc .imm none), xo21⟩)] } (kBlock 5 (kSeq (wpC Tryz.prog A (hnd Tryz.prog A n) 32 n (cB (cB (cB (cB (cB (bodyOf Tryz.f32))))))) (kEnd Tryz.prog Tryz.f32 (A.sig 32) Q)))
theorem L32_4_eq (n m0 : Nat) (x1 : D) (x10 : D) (x23 : D) (x24 : D) (x25 : D) (xo3 : D) (xo5 : D) (xo21 : D) (Q : List D → Prop) : L32_4 n (m0 + 1) x1 x10 x23 x24 x25 xo3 xo5 xo21 Q =
 (cond (iLt (D.i x25) (D.i x24))
 ((0 ≤ (D.i x25) ∧ (D.i x25) < (D.len x23)) ∧ (True ∧ (cond (iLt (D.i (D.fld (D.el x23 (D.i x25)) 0)) (0 : Int))
 (Q [(D.int (0 : Int)), (D.bool false), (D.bool false)])
 (cond (iLe (IntKind.wrap .i64 ((D.len (D.fld xo3 1)) + (D.len x1))) (D.i (D.fld (D.el x23 (D.i x25)) 0)))
 (Q [(D.int (0 : Int)), (D.bool false), (D.bool false)])
 (cond (iLt (D.i (D.fld (D.el x23 (D.i x25)) 0)) (D.len (D.fld xo3 1)))
 ((0 ≤ (D.i (D.fld (D.el x23 (D.i x25)) 0)) ∧ (D.i (D.fld (D.el x23 (D.i x25)) 0)) < (D.len (D.fld xo3 1))) ∧ (True ∧ (L32_13 n m0 n x1 x10 x23 x24 x25 (D.fld (D.el (D.fld xo3 1) (D.i (D.fld (D.el x23 (D.i x25)) 0))) 0) (D.int (D.len (D.fld (D.el (D.fld xo3 1) (D.i (D.fld (D.el x23 (D.i x25)) 0))) 0))) (D.int (0 : Int)) xo3 xo5 (D.el x23 (D.i x25)) (D.el (D.fld xo3 1) (D.i (D.fld (D.el x23 (D.i x25)) 0))) xo21 Q)))
 ((0 ≤ (IntKind.wrap .i64 ((D.i (D.fld (D.el x23 (D.i x25)) 0)) - (D.len (D.fld xo3 1)))) ∧ (IntKind.wrap .i64 ((D.i (D.fld (D.el x23 (D.i x25)) 0)) - (D.len (D.fld xo3 1)))) < (D.len x1)) ∧ (True ∧ (L32_13 n m0 n x1 x10 x23 x24 x25 (D.fld (D.el x1 (IntKind.wrap .i64 ((D.i (D.fld (D.el x23 (D.i x25)) 0)) - (D.len (D.fld xo3 1))))) 0) (D.int (D.len (D.fld (D.el x1 (IntKind.wrap .i64 ((D.i (D.fld (D.el x23 (D.i x25)) 0)) - (D.len (D.fld xo3 1))))) 0))) (D.int (0 : Int)) xo3 xo5 (D.el x23 (D.i x25)) (D.el x1 (IntKind.wrap .i64 ((D.i (D.fld (D.el x23 (D.i x25)) 0)) - (D.len (D.fld xo3 1))))) xo21 Q))))))))
 (L32_20 n  n x10 (D.int (D.len xo21)) (D.int (0 : Int)) xo3 xo5 xo21 Q)) := by kernel_rfl
theorem L32_13_eq (n m0 m1 : Nat) (x1 : D) (x10 : D) (x23 : D) (x24 : D) (x25 : D) (x67 : D) (x68 : D) (x69 : D) (xo3 : D) (xo5 : D) (xo12 : D) (xo13 : D) (xo21 : D) (Q : List D → Prop) : L32_13 n m0 (m1 + 1) x1 x10 x23 x24 x25 x67 x68 x69 xo3 xo5 xo12 xo13 xo21 Q =
 (cond (iLt (D.i x69) (D.i x68))
 ((0 ≤ (D.i x69) ∧ (D.i x69) < (D.len x67)) ∧ (True ∧ ((0 ≤ (D.i (D.fld (D.el x67 (D.i x69)) 0)) ∧ (D.i (D.fld (D.el x67 (D.i x69)) 0)) < (D.len xo21)) ∧ ((0 ≤ (D.i (D.fld (D.el x67 (D.i x69)) 0)) ∧ (D.i (D.fld (D.el x67 (D.i x69)) 0)) < (D.len xo21)) ∧ (True ∧ (L32_13 n m0 m1 x1 x10 x23 x24 x25 x67 x68 (D.int (IntKind.wrap .i64 ((D.i x69) + (1 : Int)))) xo3 xo5 xo12 xo13 (D.slc (List.set (D.xs xo21) (Int.toNat (D.i (D.fld (D.el x67 (D.i x69)) 0))) (D.int (IntKind.wrap .i64 ((D.i (List.getD (D.xs xo21) (Int.toNat (D.i (D.fld (D.el x67 (D.i x69)) 0))) D.und)) + (IntKind.wrap .i64 ((D.i (D.fld xo12 1)) * (D.i (D.fld (D.el x67 (D.i x69)) 1))))))))) Q))))))
 (L32_4 n  m0 x1 (D.int (IntKind.wrap .i64 ((D.i x10) + (IntKind.wrap .i64 ((D.i (D.fld xo12 1)) * (D.i (D.fld xo13 1))))))) x23 x24 (D.int (IntKind.wrap .i64 ((D.i x25) + (1 : Int)))) xo3 xo5 xo21 Q)) := by kernel_rfl
theorem L32_20_eq (n m0 : Nat) (x10 : D) (x95 : D) (x96 : D) (xo3 : D) (xo5 : D) (xo21 : D) (Q : List D → Prop) : L32_20 n (m0 + 1) x10 x95 x96 xo3 xo5 xo21 Q =
 (cond (iLt (D.i x96) (D.i x95))
 ((0 ≤ (D.i x96) ∧ (D.i x96) < (D.len xo21)) ∧ (wpF Tryz.prog A n 62 [(D.fld xo3 2), x96] fun r1 =>
 (cond (iLt (D.i (List.getD (D.xs xo21) (Int.toNat (D.i x96)) D.und)) (IntKind.wrap .i64 ((D.i (D.fld xo5 5)) * (D.i (rs r1 0)))))
 (Q [(D.int (0 : Int)), (D.bool false), (D.bool false)])
 (L32_20 n  m0 x10 x95 (D.int (IntKind.wrap .i64 ((D.i x96) + (1 : Int)))) xo3 xo5 xo21 Q))))
 (cond (iEq (D.i (D.fld xo5 5)) (0 : Int))
 (Q [(D.int (0 : Int)), (D.bool (iLt (D.i x10) (0 : Int))), (D.bool (iLt (D.i x10) (0 : Int)))])
 ((D.i (D.fld xo5 5)) ≠ (0 : Int) ∧ ((D.i (D.fld xo5 5)) ≠ (0 : Int) ∧ (cond (iLt (Int.tmod (D.i x10) (D.i (D.fld xo5 5))) (0 : Int))
 (Q [(D.int (IntKind.wrap .i64 ((D.i (D.fld xo3 3)) + (IntKind.wrap .i64 ((IntKind.wrap .i64 (Int.tdiv (D.i x10) (D.i (D.fld xo5 5)))) - (1 : Int)))))), (D.bool true), (D.bool false)])
 (Q [(D.int (IntKind.wrap .i64 ((D.i (D.fld xo3 3)) + (IntKind.wrap .i64 (Int.tdiv (D.i x10) (D.i (D.fld xo5 5))))))), (D.bool true), (D.bool false)])))))) := by kernel_rfl
theorem E32 (n : Nat) (d0 d1 d2 : D) (Q : List D → Prop) : wpF Tryz.prog A (n + 1) 32 [d0, d1, d2] Q =
 ((0 ≤ (D.i (D.fld d0 0)) ∧ (D.i (D.fld d0 0)) ≤ (D.i (D.fld d0 0)) ∧ room (D.i (D.fld d0 0)) 8) ∧ (L32_4 n  n d1 (D.int (0 : Int)) (D.fld d2 4) (D.int (D.len (D.fld d2 4))) (D.int (0 : Int)) d0 d2 (D.slc (List.replicate (Int.toNat (D.i (D.fld d0 0))) (D.int (0 : Int)))) Q)) := by kernel_rfl
attribute [irreducible] L32_4 L32_13 L32_20

/- timebound/timeboundref34.Check -/
def L9_7 (n m0 : Nat) (x27 : D) (x28 : D) (x29 : D) (xo2 : D) (xo3 : D) (xo25 : D) (Q : List D → Prop) : Prop :=
 loopK (wpC Tryz.prog A (hnd Tryz.prog A n) 9 n (cA (cA (cB (cA (cB (cB (cB (cB (bodyOf Tryz.f9)))))))))) (nmK Tryz.prog (A.loop 9 7)) m0 { sl := [(2, .ptr 2 [] 46), (3, .ptr 3 [] 51), (5, .val 25 [] 96), (27, .imm 49 x27), (28, .imm 3 x28), (29, .imm 3 x29)], ob := [(2, some ⟨true, 46, .imm, xo2⟩), (3, some ⟨true, 51, .imm, xo3⟩), (25, some ⟨false, 96, (.slc .imm none), xo25⟩)] } (kBlock 0 (kSeq (wpC Tryz.prog A (hnd Tryz.prog A n) 9 n (cB (cB (cB (cB (cB (bodyOf Tryz.f9))))))) (kEnd Tryz.prog Tryz.f9 (A.sig 9) Q)))
def L9_17 (n m0 : Nat) (x81 : D) (x82 : D) (x83 : D) (xo2 : D) (xo3 : D) (xo25 : D) (Q : List D → Prop) : Prop :=
 loopK (wpC Tryz.prog A (hnd Tryz.prog A n) 9 n (cA (cA (cB (cA (cB (cB (cB (cB (cB (bodyOf Tryz.f9))))))))))) (nmK Tryz.prog (A.loop 9 17)) m0 { sl := [(2, .ptr 2 [] 46), (3, .ptr 3 [] 51), (5, .val 25 [] 96), (81, .imm 49 x81), (82, .imm 3 x82), (83, .imm 3 x83)], ob := [(2, some ⟨true, 46, .imm, xo2⟩), (3, some ⟨true, 51, .imm, xo3⟩), (25, some ⟨false, 96, (.slc .imm none), xo25⟩)] } (kBlock 2 (kSeq (wpC Tryz.prog A (hnd Tryz.prog A n) 9 n (cB (cB (cB (cB (cB (cB (bodyOf Tryz.f9)))))))) (kEnd Tryz.prog Tryz.f9 (A.sig 9) Q)))
theorem L9_7_eq (n m0 : Nat) (x27 : D) (x28 : D) (x29 : D) (xo2 : D) (xo3 : D) (xo25 : D) (Q : List D → Prop) : L9_7 n (m0 + 1) x27 x28 x29 xo2 xo3 xo25 Q =
 (cond (iLt (D.i x29) (D.i x28))
 ((0 ≤ (D.i x29) ∧ (D.i x29) < (D.len x27)) ∧ (True ∧ ((0 ≤ (D.i x29) ∧ (D.i x29) < (D.len xo25)) ∧ (cond (iLt (400 : Int) (IntKind.wrap .i64 ((D.len (D.fld xo2 1)) + (D.len (List.getD (D.xs xo25) (Int.toNat (D.i x29)) D.und)))))
 (Q [(D.int (10 : Int))])
 (cond (!(iEq (D.i (D.fld (D.el x27 (D.i x29)) 0)) (-1 : Int)))
 (wpF Tryz.prog A n 31 [(D.fld (D.el x27 (D.i x29)) 2), (D.fld (D.el x27 (D.i x29)) 3)] fun r3 =>
 (True ∧ (True ∧ ((0 ≤ (D.i x29) ∧ (D.i x29) < (D.len xo25)) ∧ (room ((List.length (D.xs (List.getD (D.xs xo25) (Int.toNat (D.i x29)) D.und)) : Nat) : Int) 32 ∧ (room (((List.length (D.xs (List.getD (D.xs xo25) (Int.toNat (D.i x29)) D.und)) : Nat) : Int) + ((List.length [(rs r3 0)] : Nat) : Int)) 32 ∧ ((0 ≤ (D.i (D.fld (D.el x27 (D.i x29)) 0)) ∧ (D.i (D.fld (D.el x27 (D.i x29)) 0)) < (D.len xo25)) ∧ (True ∧ ((0 ≤ (D.i x29) ∧ (D.i x29) < (D.len (D.slc (List.set (D.xs xo25) (Int.toNat (D.i (D.fld (D.el x27 (D.i x29)) 0))) (D.slc ((D.xs (List.getD (D.xs xo25) (Int.toNat (D.i x29)) D.und)) ++ [(rs r3 0)])))))) ∧ (room ((List.length (D.xs (List.getD (D.xs (D.slc (List.set (D.xs xo25) (Int.toNat (D.i (D.fld (D.el x27 (D.i x29)) 0))) (D.slc ((D.xs (List.getD (D.xs xo25) (Int.toNat (D.i x29)) D.und)) ++ [(rs r3 0)]))))) (Int.toNat (D.i x29)) D.und)) : Nat) : Int) 32 ∧ (room (((List.length (D.xs (List.getD (D.xs (D.slc (List.set (D.xs xo25) (Int.toNat (D.i (D.fld (D.el x27 (D.i x29)) 0))) (D.slc ((D.xs (List.getD (D.xs xo25) (Int.toNat (D.i x29)) D.und)) ++ [(rs r3 0)]))))) (Int.toNat (D.i x29)) D.und)) : Nat) : Int) + ((List.length [(rs r3 1)] : Nat) : Int)) 32 ∧ ((0 ≤ (D.i (D.fld (D.el x27 (D.i x29)) 1)) ∧ (D.i (D.fld (D.el x27 (D.i x29)) 1)) < (D.len (D.slc (List.set (D.xs xo25) (Int.toNat (D.i (D.fld (D.el x27 (D.i x29)) 0))) (D.slc ((D.xs (List.getD (D.xs xo25) (Int.toNat (D.i x29)) D.und)) ++ [(rs r3 0)])))))) ∧ (True ∧ (L9_7 n  m0 x27 x28 (D.int (IntKind.wrap .i64 ((D.i x29) + (1 : Int)))) xo2 xo3 (D.slc (List.set (List.set (D.xs xo25) (Int.toNat (D.i (D.fld (D.el x27 (D.i x29)) 0))) (D.slc ((D.xs (List.getD (D.xs xo25) (Int.toNat (D.i x29)) D.und)) ++ [(rs r3 0)]))) (Int.toNat (D.i (D.fld (D.el x27 (D.i x29)) 1))) (D.slc ((D.xs (List.getD (D.xs (D.slc (List.set (D.xs xo25) (Int.toNat (D.i (D.fld (D.el x27 (D.i x29)) 0))) (D.slc ((D.xs (List.getD (D.xs xo25) (Int.toNat (D.i x29)) D.und)) ++ [(rs r3 0)]))))) (Int.toNat (D.i x29)) D.und)) ++ [(rs r3 1)])))) Q))))))))))))))
 (L9_7 n  m0 x27 x28 (D.int (IntKind.wrap .i64 ((D.i x29) + (1 : Int)))) xo2 xo3 xo25 Q))))))
 (L9_17 n  n (D.fld xo3 0) (D.int (D.len (D.fld xo3 0))) (D.int (0 : Int)) xo2 xo3 xo25 Q)) := by kernel_rfl
theorem L9_17_eq (n m0 : Nat) (x81 : D) (x82 : D) (x83 : D) (xo2 : D) (xo3 : D) (xo25 : D) (Q : List D → Prop) : L9_17 n (m0 + 1) x81 x82 x83 xo2 xo3 xo25 Q =
 (cond (iLt (D.i x83) (D.i x82))
 ((0 ≤ (D.i x83) ∧ (D.i x83) < (D.len x81)) ∧ (True ∧ (cond (!(iEq (D.i (D.fld (D.el x81 (D.i x83)) 0)) (-1 : Int)))
 (L9_17 n  m0 x81 x82 (D.int (IntKind.wrap .i64 ((D.i x83) + (1 : Int)))) xo2 xo3 xo25 Q)
 ((0 ≤ (D.i x83) ∧ (D.i x83) < (D.len xo25)) ∧ (wpF Tryz.prog A n 32 [xo2, (List.getD (D.xs xo25) (Int.toNat (D.i x83)) D.und), (D.el x81 (D.i x83))] fun r4 =>
 (cond (!(D.b (rs r4 1)))
 (Q [(D.int (37 : Int))])
 (cond (!(D.b (rs r4 2)))
 (cond (iLt (D.i (D.fld xo3 1)) (D.i (rs r4 0)))
 (Q [(D.int (37 : Int))])
 (L9_17 n  m0 x81 x82 (D.int (IntKind.wrap .i64 ((D.i x83) + (1 : Int)))) xo2 xo3 xo25 Q))
 (L9_17 n  m0 x81 x82 (D.int (IntKind.wrap .i64 ((D.i x83) + (1 : Int)))) xo2 xo3 xo25 Q))))))))
 (Q [(D.int (0 : Int))])) := by kernel_rfl
theorem E9 (n : Nat) (d0 d1 : D) (Q : List D → Prop) : wpF Tryz.prog A (n + 1) 9 [d0, d1] Q =
 (wpF Tryz.prog A n 29 [d0] fun r1 =>
 (cond (!(D.b (rs r1 0)))
 (Q [(D.int (33 : Int))])
 (wpF Tryz.prog A n 30 [d0, d1] fun r2 =>
 (cond (!(D.b (rs r2 0)))
 (Q [(D.int (10 : Int))])
 ((0 ≤ (D.len (D.fld d1 0)) ∧ (D.len (D.fld d1 0)) ≤ (D.len (D.fld d1 0)) ∧ room (D.len (D.fld d1 0)) 24) ∧ (L9_7 n  n (D.fld d1 0) (D.int (D.len (D.fld d1 0))) (D.int (0 : Int)) d0 d1 (D.slc (List.replicate (Int.toNat (D.len (D.fld d1 0))) (D.slc ([] : List D)))) Q)))))) := by kernel_rfl
attribute [irreducible] L9_7 L9_17

/- timebound/certificate.rows -/
def L165_2 (n m0 : Nat) (x0 : D) (x5 : D) (x6 : D) (x7 : D) (Q : List D → Prop) : Prop :=
 loopK (wpC Tryz.prog A (hnd Tryz.prog A n) 165 n (cA (cA (cB (cA (cB (bodyOf Tryz.f165))))))) (nmK Tryz.prog (A.loop 165 2)) m0 { sl := [(0, .imm 44 x0), (5, .imm 44 x5), (6, .imm 3 x6), (7, .imm 3 x7)], ob := [] } (kBlock 0 (kSeq (wpC Tryz.prog A (hnd Tryz.prog A n) 165 n (cB (cB (bodyOf Tryz.f165)))) (kEnd Tryz.prog Tryz.f165 (A.sig 165) Q)))
theorem L165_2_eq (n m0 : Nat) (x0 : D) (x5 : D) (x6 : D) (x7 : D) (Q : List D → Prop) : L165_2 n (m0 + 1) x0 x5 x6 x7 Q =
 (cond (iLt (D.i x7) (D.i x6))
 ((0 ≤ (D.i x7) ∧ (D.i x7) < (D.len x5)) ∧ (True ∧ (cond (iLt (D.i (D.fld (D.el x5 (D.i x7)) 0)) (0 : Int))
 (Q [(D.bool false)])
 (cond (iLt (0 : Int) (D.i x7))
 ((0 ≤ (IntKind.wrap .i64 ((D.i x7) - (1 : Int))) ∧ (IntKind.wrap .i64 ((D.i x7) - (1 : Int))) < (D.len x0)) ∧ (cond (iLe (D.i (D.fld (D.el x5 (D.i x7)) 0)) (D.i (D.fld (D.el x0 (IntKind.wrap .i64 ((D.i x7) - (1 : Int)))) 0)))
 (Q [(D.bool false)])
 (cond (iLt (D.i (D.fld (D.el x5 (D.i x7)) 1)) (1 : Int))
 (Q [(D.bool false)])
 (cond (iLt (1073741824 : Int) (D.i (D.fld (D.el x5 (D.i x7)) 1)))
 (Q [(D.bool false)])
 (L165_2 n  m0 x0 x5 x6 (D.int (IntKind.wrap .i64 ((D.i x7) + (1 : Int)))) Q)))))
 (cond (iLt (D.i (D.fld (D.el x5 (D.i x7)) 1)) (1 : Int))
 (Q [(D.bool false)])
 (cond (iLt (1073741824 : Int) (D.i (D.fld (D.el x5 (D.i x7)) 1)))
 (Q [(D.bool false)])
 (L165_2 n  m0 x0 x5 x6 (D.int (IntKind.wrap .i64 ((D.i x7) + (1 : Int)))) Q)))))))
 (Q [(D.bool true)])) := by kernel_rfl
theorem E165 (n : Nat) (d0 : D) (Q : List D → Prop) : wpF Tryz.prog A (n + 1) 165 [d0] Q =
 (L165_2 n  n d0 d0 (D.int (D.len d0)) (D.int (0 : Int)) Q) := by kernel_rfl
attribute [irreducible] L165_2

/- (timebound/certificate.leafCase).right -/
theorem E164 (n : Nat) (d0 d1 d2 : D) (Q : List D → Prop) : wpF Tryz.prog A (n + 1) 164 [d0, d1, d2] Q =
 (cond (iEq (D.i (D.fld d0 1)) (-1 : Int))
 (cond (iEq (D.len (D.fld d0 2)) (0 : Int))
 (cond (iEq (D.i (D.fld d0 3)) (0 : Int))
 (cond (iLe (0 : Int) (D.i (D.fld d0 5)))
 (cond (iLe (D.i (D.fld d0 5)) (1024 : Int))
 (wpF Tryz.prog A n 165 [(D.fld d0 4)] fun r1 =>
 (Q [(rs r1 0)]))
 (Q [(D.bool false)]))
 (Q [(D.bool false)]))
 (Q [(D.bool false)]))
 (Q [(D.bool false)]))
 (Q [(D.bool false)])) := by kernel_rfl

/- timebound/certificate.form -/
theorem E167 (n : Nat) (d0 d1 d2 : D) (Q : List D → Prop) : wpF Tryz.prog A (n + 1) 167 [d0, d1, d2] Q =
 (wpF Tryz.prog A n 77 [d1, (D.fld d0 0), (D.int (1048576 : Int))] fun r1 =>
 (cond (D.b (rs r1 0))
 (cond (iLe (-1048576 : Int) (D.i d2))
 (Q [(D.bool (iLt (D.i d2) (1048576 : Int)))])
 (Q [(D.bool false)]))
 (Q [(D.bool false)]))) := by kernel_rfl

/- (timebound/certificate.splitCase).right -/
theorem E166 (n : Nat) (d0 d1 d2 : D) (Q : List D → Prop) : wpF Tryz.prog A (n + 1) 166 [d0, d1, d2] Q =
 (wpF Tryz.prog A n 167 [d1, (D.fld d0 2), (D.fld d0 3)] fun r1 =>
 (cond (D.b (rs r1 0))
 (cond (iEq (D.len (D.fld d0 4)) (0 : Int))
 (cond (iEq (D.i (D.fld d0 5)) (0 : Int))
 (cond (iLt (D.i d2) (D.i (D.fld d0 0)))
 (Q [(D.bool (iLt (D.i d2) (D.i (D.fld d0 1))))])
 (Q [(D.bool false)]))
 (Q [(D.bool false)]))
 (Q [(D.bool false)]))
 (Q [(D.bool false)]))) := by kernel_rfl
end Go.Ab

/- Integer programs: which are valid: both answers are one. -/
namespace Go.Ab
open Go.Proofs
attribute [local irreducible] wpF

def wi34 (x a b : Int) : Bool := iLe a x && iLe x b
def tof (l : D) (k : Int) : Int := D.i (D.fld (D.el l k) 0)
def tco (l : D) (k : Int) : Int := D.i (D.fld (D.el l k) 1)
def badT (l : D) (cols most : Int) (k : Nat) : Bool := iLt (tof l k) 0 || (iLe cols (tof l k) || ((iLt 0 k && iLe (tof l k) (tof l ((k : Int) - 1))) || (iEq (tco l k) 0 || !wi34 (tco l k) (-most) most)))
def termsB (l : D) (cols most : Int) : Bool := !anyB (badT l cols most) (D.len l).toNat
def rowB (x : D) (cols : Int) : Bool := termsB (D.fld x 0) cols 1048576 && wi34 (D.i (D.fld x 1)) (-1048576) 1048576
def modB (m : D) : Bool := (iLe 0 (D.i (D.fld m 0)) && (iLe (D.i (D.fld m 0)) 300 && iLe (D.len (D.fld m 1)) 400)) && (termsB (D.fld m 2) (D.i (D.fld m 0)) 16777216 && (wi34 (D.i (D.fld m 3)) (-16777216) 16777216 && !anyB (fun k => !rowB (D.el (D.fld m 1) k) (D.i (D.fld m 0))) (D.len (D.fld m 1)).toNat))

/-- Lists that are not too long. -/
structure Mo (m : D) : Prop where
 rows : D.len (D.fld m 1) ≤ 1100000
 row : ∀ i : Nat, (i : Int) < D.len (D.fld m 1) → D.len (D.fld (D.el (D.fld m 1) i) 0) ≤ 1100000
 goal : D.len (D.fld m 2) ≤ 1100000

section
variable {n : Nat} {Q : List D → Prop}

theorem within34_wp (hn : 1 ≤ n) {x : D} {M : Int} (hM : 0 ≤ M ∧ M ≤ 4000000000) (h : Q [.bool (wi34 (D.i x) (-M) M)]) : wpF Tryz.prog A n 78 [x, .int M] Q := by
 obtain ⟨m, rfl⟩ : ∃ m, n = m + 1 := ⟨n - 1, by omega⟩
 rw [E78]
 simp only [i_int]
 rw [wrap_id (by omega) (by omega), show (0 : Int) - M = -M by omega]
 unfold wi34 at h
 exact cnd (fun c => by rw [c, Bool.true_and] at h; exact h) fun c => by rw [c, Bool.false_and] at h; exact h

theorem terms_wp {l c : D} {M : Int} (hl : D.len l ≤ 1100000) (hM : 0 ≤ M ∧ M ≤ 4000000000) (hn : 1100100 ≤ n) (h : Q [.bool (termsB l (D.i c) M)]) : wpF Tryz.prog A n 77 [l, c, .int M] Q := by
 obtain ⟨m, rfl⟩ : ∃ m, n = m + 1 := ⟨n - 1, by omega⟩
 rw [E77, lnN l]
 unfold termsB at h
 have hl0 := ln0 l
 refine all_loop (L := fun m0 k => L77_2 m m0 l c (.int M) l (.int ((D.len l).toNat : Nat)) k Q) (bad := badT l (D.i c) M) (N := (D.len l).toNat) (F := Q [.bool false]) (by omega) (fun m0 k hk hw hb hg => ?_) (fun hb => by rw [hb] at h; exact h) (fun hg m0 => ?_) m 0 (by omega) (by omega) (by omega)
 ·rw [L77_2_eq]
  simp only [i_int]
  rw [hw]
  refine cLt (fun _ => ⟨by omega, trivial, ?_⟩) fun c => by omega
  unfold badT tof tco at hb hg
  refine or_bad hb hg fun c1 hb hg => or_bad hb hg fun c2 hb hg => ?_
  have last : ((iEq (D.i (D.fld (D.el l (k : Int)) 1)) 0 || !wi34 (D.i (D.fld (D.el l (k : Int)) 1)) (-M) M) = true → Q [.bool false]) → ((iEq (D.i (D.fld (D.el l (k : Int)) 1)) 0 || !wi34 (D.i (D.fld (D.el l (k : Int)) 1)) (-M) M) = false → L77_2 m m0 l c (.int M) l (.int ((D.len l).toNat : Nat)) (.int ((k : Int) + 1)) Q) →
    cond (iEq (D.i (D.fld (D.el l (k : Int)) 1)) (0 : Int)) (Q [(D.bool false)]) (wpF Tryz.prog A m 78 [(D.fld (D.el l (k : Int)) 1), .int M] fun r1 => (cond (!(D.b (rs r1 0))) (Q [(D.bool false)]) (L77_2 m m0 l c (.int M) l (.int ((D.len l).toNat : Nat)) (.int ((k : Int) + 1)) Q))) := fun hb hg => by
   refine or_bad hb hg fun c3 hb hg => ?_
   refine within34_wp (by omega) hM ?_
   rw [rs0, b_bool]
   exact cnd (fun c => hb c) fun c => hg c
  refine cLt (fun c3 => ?_) fun c3 => ?_
  ·rw [iLt_iff.mpr c3, Bool.true_and] at hb hg
   rw [wrap_id (by omega) (by omega)]
   exact ⟨by omega, or_bad hb hg fun c4 hb hg => last hb hg⟩
  ·rw [iLt_not.mpr c3, Bool.false_and, Bool.false_or] at hb hg
   exact last hb hg
 ·rw [L77_2_eq]
  simp only [i_int]
  refine cLt (fun c => by omega) fun _ => ?_
  rw [hg] at h
  exact h

theorem terms'_wp {l c : D} {M : Int} (hl : D.len l ≤ 1100000) (hM : 0 ≤ M ∧ M ≤ 4000000000) (hn : 1100100 ≤ n) (h : Q [.bool (termsB l (D.i c) M)]) : wpF Tryz.prog A n 59 [l, c, .int M] Q := by
 obtain ⟨m, rfl⟩ : ∃ m, n = m + 1 := ⟨n - 1, by omega⟩
 rw [E59, lnN l]
 unfold termsB at h
 have hl0 := ln0 l
 refine all_loop (L := fun m0 k => L59_2 m m0 l c (.int M) l (.int ((D.len l).toNat : Nat)) k Q) (bad := badT l (D.i c) M) (N := (D.len l).toNat) (F := Q [.bool false]) (by omega) (fun m0 k hk hw hb hg => ?_) (fun hb => by rw [hb] at h; exact h) (fun hg m0 => ?_) m 0 (by omega) (by omega) (by omega)
 ·rw [L59_2_eq]
  simp only [i_int]
  rw [hw]
  refine cLt (fun _ => ⟨by omega, trivial, ?_⟩) fun c => by omega
  rw [wrap_id (show -9223372036854775808 ≤ (0 : Int) - M by omega) (by omega), show (0 : Int) - M = -M by omega]
  have e0 : badT l (D.i c) M k = (iLt (D.i (D.fld (D.el l (k : Int)) 0)) 0 || (iLe (D.i c) (D.i (D.fld (D.el l (k : Int)) 0)) || (iEq (D.i (D.fld (D.el l (k : Int)) 1)) 0 || (iLt (D.i (D.fld (D.el l (k : Int)) 1)) (-M) || (iLt M (D.i (D.fld (D.el l (k : Int)) 1)) || (iLt 0 (k : Int) && iLe (D.i (D.fld (D.el l (k : Int)) 0)) (D.i (D.fld (D.el l ((k : Int) - 1)) 0)))))))) := by
   have e1 : (!wi34 (tco l k) (-M) M) = (iLt (tco l k) (-M) || iLt M (tco l k)) := by
    unfold wi34 iLe iLt
    rw [Bool.not_and, ← decide_not, ← decide_not]
    congr 1 <;> exact decide_eq_decide.mpr (by omega)
   unfold badT
   rw [e1]
   unfold tof tco
   generalize iLt (D.i (D.fld (D.el l (k : Int)) 0)) 0 = a
   generalize iLe (D.i c) (D.i (D.fld (D.el l (k : Int)) 0)) = b
   generalize (iLt 0 (k : Int) && iLe (D.i (D.fld (D.el l (k : Int)) 0)) (D.i (D.fld (D.el l ((k : Int) - 1)) 0))) = e
   generalize iEq (D.i (D.fld (D.el l (k : Int)) 1)) 0 = f
   generalize iLt (D.i (D.fld (D.el l (k : Int)) 1)) (-M) = g
   generalize iLt M (D.i (D.fld (D.el l (k : Int)) 1)) = h
   cases a <;> cases b <;> cases e <;> cases f <;> cases g <;> cases h <;> rfl
  rw [e0] at hb hg
  refine or_bad hb hg fun c1 hb hg => or_bad hb hg fun c2 hb hg => or_bad hb hg fun c3 hb hg => or_bad hb hg fun c4 hb hg => or_bad hb hg fun c5 hb hg => ?_
  refine cLt (fun c6 => ?_) fun c6 => ?_
  ·rw [iLt_iff.mpr c6, Bool.true_and] at hb hg
   rw [wrap_id (by omega) (by omega)]
   exact ⟨by omega, cnd (fun c => hb c) fun c => hg c⟩
  ·rw [iLt_not.mpr c6, Bool.false_and] at hg
   exact hg rfl
 ·rw [L59_2_eq]
  simp only [i_int]
  refine cLt (fun c => by omega) fun _ => ?_
  rw [hg] at h
  exact h

theorem row'_wp {x c : D} (hl : D.len (D.fld x 0) ≤ 1100000) (hn : 1100200 ≤ n) (h : Q [.bool (rowB x (D.i c))]) : wpF Tryz.prog A n 58 [x, c] Q := by
 obtain ⟨m, rfl⟩ : ∃ m, n = m + 1 := ⟨n - 1, by omega⟩
 rw [E58]
 unfold rowB wi34 at h
 refine terms'_wp hl (by omega) (by omega) ?_
 rw [rs0, b_bool]
 refine cnd (fun c => ?_) fun c => by rw [c, Bool.false_and] at h; exact h
 rw [c, Bool.true_and] at h
 exact cnd (fun c => by rw [c, Bool.true_and] at h; exact h) fun c => by rw [c, Bool.false_and] at h; exact h

theorem model_wp {m : D} (hm : Mo m) (hn : 1100300 ≤ n) (h : Q [.bool (modB m)]) : wpF Tryz.prog A n 21 [m] Q := by
 obtain ⟨p, rfl⟩ : ∃ p, n = p + 2 := ⟨n - 2, by omega⟩
 rw [E21, E45]
 have hr := hm.rows
 have hr0 := ln0 (D.fld m 1)
 unfold modB at h
 simp only [rs0, i_int]
 refine cnd (fun c => ?_) fun c => by rw [c, Bool.false_and, Bool.false_and] at h; exact h
 rw [c, Bool.true_and] at h
 refine cnd (fun c => ?_) fun c => by rw [c, Bool.false_and, Bool.false_and] at h; exact h
 rw [c, Bool.true_and] at h
 refine cnd (fun c => ?_) fun c => by rw [c, Bool.false_and] at h; exact h
 rw [c, Bool.true_and] at h
 refine terms_wp hm.goal (by omega) (by omega) ?_
 rw [rs0, b_bool]
 refine cnd (fun c => ?_) fun c => by rw [c, Bool.false_and] at h; exact h
 rw [c, Bool.true_and] at h
 refine within34_wp (by omega) (by omega) ?_
 rw [rs0, b_bool]
 refine cnd (fun c => ?_) fun c => by rw [c, Bool.false_and] at h; exact h
 rw [c, Bool.true_and] at h
 obtain ⟨q, rfl⟩ : ∃ q, p = q + 2 := ⟨p - 2, by omega⟩
 rw [E79, E114]
 refine found_loop (Q := fun r => Q [.bool (!D.b (rs r 0))]) (x1 := .fn 80 [.ptr m, .ptr (.int 1048576), .ptr (.int 1048576)]) (N := (D.len (D.fld m 1)).toNat) (p := fun k => !rowB (D.el (D.fld m 1) k) (D.i (D.fld m 0))) (L := L114_2 q) (call := fun x1 e Q => dynH A (wpF Tryz.prog A q) x1 [.imm 71] [.val 4 .imm] [e] Q) (fun m0 x0 x1 x7 x8 Q => L114_2_eq q m0 x0 x1 x7 x8 Q) (lnN _) (by omega)
  (fun i hi Q hQ => ⟨⟨rfl, rfl, rfl, rfl⟩, ?_⟩) (by omega) h
 obtain ⟨u, rfl⟩ : ∃ u, q = u + 1 := ⟨q - 1, by omega⟩
 show wpF Tryz.prog A (u + 1) 80 [D.el (D.fld m 1) (i : Int), m, .int 1048576, .int 1048576] Q
 rw [E80]
 unfold rowB at hQ
 refine terms_wp (hm.row i (by omega)) (by omega) (by omega) ?_
 rw [rs0, b_bool]
 refine cNot (fun c => by rw [c, Bool.false_and] at hQ; exact hQ) fun c => ?_
 rw [c, Bool.true_and] at hQ
 refine within34_wp (by omega) (by omega) ?_
 rw [rs0, b_bool]
 exact hQ

theorem model'_wp {m : D} (hm : Mo m) (hn : 1100300 ≤ n) (h : Q [.bool (modB m)]) : wpF Tryz.prog A n 29 [m] Q := by
 obtain ⟨p, rfl⟩ : ∃ p, n = p + 1 := ⟨n - 1, by omega⟩
 rw [E29, lnN (D.fld m 1)]
 have hr := hm.rows
 have hr0 := ln0 (D.fld m 1)
 unfold modB at h
 refine all_loop (L := fun m0 k => L29_2 p m0 (D.fld m 1) (.int ((D.len (D.fld m 1)).toNat : Nat)) k m Q) (bad := fun k => !rowB (D.el (D.fld m 1) k) (D.i (D.fld m 0))) (N := (D.len (D.fld m 1)).toNat) (F := Q [.bool false]) (by omega) (fun m0 k hk hw hb hg => ?_) (fun hb => ?_) (fun hg m0 => ?_) p 0 (by omega) (by omega) (by omega)
 ·rw [L29_2_eq]
  simp only [i_int]
  rw [hw]
  refine cLt (fun _ => ⟨by omega, trivial, ?_⟩) fun c => by omega
  refine row'_wp (hm.row k (by omega)) (by omega) ?_
  rw [rs0, b_bool]
  exact cnd (fun c => hb c) fun c => hg c
 ·rw [hb, Bool.not_true, Bool.and_false, Bool.and_false, Bool.and_false] at h
  exact h
 ·rw [L29_2_eq]
  simp only [i_int]
  refine cLt (fun c => by omega) fun _ => ?_
  rw [hg, Bool.not_false, Bool.and_true] at h
  refine cnd (fun c => ?_) fun c => by rw [c, Bool.false_and, Bool.false_and] at h; exact h
  rw [c, Bool.true_and] at h
  refine cnd (fun c => ?_) fun c => by rw [c, Bool.false_and, Bool.false_and] at h; exact h
  rw [c, Bool.true_and] at h
  refine cnd (fun c => ?_) fun c => by rw [c, Bool.false_and] at h; exact h
  rw [c, Bool.true_and] at h
  refine terms'_wp hm.goal (by omega) (by omega) ?_
  rw [rs0, b_bool]
  refine cnd (fun c => ?_) fun c => by rw [c, Bool.false_and] at h; exact h
  rw [c, Bool.true_and] at h
  unfold wi34 at h
  exact cnd (fun c => by rw [c, Bool.true_and] at h; exact h) fun c => by rw [c, Bool.false_and] at h; exact h
end
end Go.Ab

/- Bounds: which are valid: both answers are one. -/
namespace Go.Ab
open Go.Proofs
attribute [local irreducible] wpF

def cL (c : D) : Int := D.i (D.fld c 0)
def cR (c : D) : Int := D.i (D.fld c 1)
def cAt (c : D) : Int := D.i (D.fld c 3)
def cDen (c : D) : Int := D.i (D.fld c 5)
def cs (b : D) : D := D.fld b 0
def cAs (b : D) (k : Int) : D := D.el (cs b) k
def badM (l : D) (k : Nat) : Bool := iLt (tof l k) 0 || ((iLt 0 k && iLe (tof l k) (tof l ((k : Int) - 1))) || (iLt (tco l k) 1 || iLt 1073741824 (tco l k)))
def mulB (l : D) : Bool := !anyB (badM l) (D.len l).toNat
def leafB (c : D) : Bool := iEq (cR c) (-1) && (iEq (D.len (D.fld c 2)) 0 && (iEq (cAt c) 0 && (iLe 0 (cDen c) && (iLe (cDen c) 1024 && mulB (D.fld c 4)))))
def formB (m l : D) (at_ : Int) : Bool := termsB l (D.i (D.fld m 0)) 1048576 && (iLe (-1048576) at_ && iLt at_ 1048576)
def splitB (m c : D) (i : Int) : Bool := formB m (D.fld c 2) (cAt c) && (iEq (D.len (D.fld c 4)) 0 && (iEq (cDen c) 0 && (iLt i (cL c) && iLt i (cR c))))
def nameS (N : Int) (nm : List Bool) (k : Int) : Option (List Bool) := cond (iLe N k) none (cond (nm.getD k.toNat false) none (some (nm.set k.toNat true)))
def vS (m b : D) (nm : List Bool) (i : Nat) : Option (List Bool) :=
 cond (iEq (cL (cAs b i)) (-1)) (cond (leafB (cAs b i)) (some nm) none)
  (cond (splitB m (cAs b i) i) ((nameS (D.len (cs b)) nm (cL (cAs b i))).bind fun nm => nameS (D.len (cs b)) nm (cR (cAs b i))) none)
def allN (nm : List Bool) : Bool := !anyB (fun k => !nm.getD (k + 1) false) (nm.length - 1)
def namesO (m b : D) : Option (List Bool) := iterO (vS m b) (List.replicate (D.len (cs b)).toNat false) (D.len (cs b)).toNat
def bndB (m b : D) : Bool := (iLe 1 (D.len (cs b)) && iLe (D.len (cs b)) 1000) && (match namesO m b with
 | none => false
 | some nm => allN nm)

/-- Lists that are not too long. -/
structure Bo (b : D) : Prop where
 cases : D.len (cs b) ≤ 1100000
 form : ∀ i : Nat, (i : Int) < D.len (cs b) → D.len (D.fld (cAs b i) 2) ≤ 1100000
 mul : ∀ i : Nat, (i : Int) < D.len (cs b) → D.len (D.fld (cAs b i) 4) ≤ 1100000

def bools (l : List Bool) : D := .slc (l.map .bool)

theorem nameS_len {N : Int} {nm nm' : List Bool} {k : Int} (h : nameS N nm k = some nm') : nm'.length = nm.length := by
 unfold nameS at h
 cases h1 : iLe N k with
 | true => rw [h1] at h; cases h
 | false =>
  rw [h1] at h
  simp only [cond_false] at h
  cases h2 : nm.getD k.toNat false with
  | true => rw [h2] at h; cases h
  | false =>
   rw [h2] at h
   simp only [cond_false, Option.some.injEq] at h
   rw [← h, List.length_set]
theorem vS_len {m b : D} {nm nm' : List Bool} {i : Nat} (h : vS m b nm i = some nm') : nm'.length = nm.length := by
 unfold vS at h
 cases h1 : iEq (cL (cAs b i)) (-1) with
 | true =>
  rw [h1] at h
  simp only [cond_true] at h
  cases h2 : leafB (cAs b i) with
  | true => rw [h2] at h; simp only [cond_true, Option.some.injEq] at h; rw [h]
  | false => rw [h2] at h; cases h
 | false =>
  rw [h1] at h
  simp only [cond_false] at h
  cases h2 : splitB m (cAs b i) i with
  | false => rw [h2] at h; cases h
  | true =>
   rw [h2] at h
   simp only [cond_true, Option.bind_eq_some_iff] at h
   obtain ⟨nm1, h3, h4⟩ := h
   rw [nameS_len h4, nameS_len h3]
theorem iter_len {m b : D} {N : Nat} : ∀ {k : Nat} {nm : List Bool}, iterO (vS m b) (List.replicate N false) k = some nm → nm.length = N := by
 intro k
 induction k with
 | zero => intro nm h; simp only [iterO, Option.some.injEq] at h; rw [← h]; simp
 | succ k ih =>
  intro nm h
  simp only [iterO, Option.bind_eq_some_iff] at h
  obtain ⟨nm1, h1, h2⟩ := h
  rw [vS_len h2, ih h1]

section
variable {n : Nat} {Q : List D → Prop}

theorem mul_wp {l : D} (hl : D.len l ≤ 1100000) (hn : 1100100 ≤ n) (h : Q [.bool (mulB l)]) : wpF Tryz.prog A n 165 [l] Q := by
 obtain ⟨m, rfl⟩ : ∃ m, n = m + 1 := ⟨n - 1, by omega⟩
 rw [E165, lnN l]
 unfold mulB at h
 have hl0 := ln0 l
 refine all_loop (L := fun m0 k => L165_2 m m0 l l (.int ((D.len l).toNat : Nat)) k Q) (bad := badM l) (N := (D.len l).toNat) (F := Q [.bool false]) (by omega) (fun m0 k hk hw hb hg => ?_) (fun hb => by rw [hb] at h; exact h) (fun hg m0 => ?_) m 0 (by omega) (by omega) (by omega)
 ·rw [L165_2_eq]
  simp only [i_int]
  rw [hw]
  refine cLt (fun _ => ⟨by omega, trivial, ?_⟩) fun c => by omega
  unfold badM tof tco at hb hg
  refine or_bad hb hg fun c1 hb hg => ?_
  refine cLt (fun c3 => ?_) fun c3 => ?_
  ·rw [iLt_iff.mpr c3, Bool.true_and] at hb hg
   rw [wrap_id (by omega) (by omega)]
   exact ⟨by omega, or_bad hb hg fun c4 hb hg => or_bad hb hg fun c5 hb hg => cnd (fun c => hb c) fun c => hg c⟩
  ·rw [iLt_not.mpr c3, Bool.false_and, Bool.false_or] at hb hg
   exact or_bad hb hg fun c5 hb hg => cnd (fun c => hb c) fun c => hg c
 ·rw [L165_2_eq]
  simp only [i_int]
  refine cLt (fun c => by omega) fun _ => ?_
  rw [hg] at h
  exact h

theorem leafR_wp {c m i : D} (hl : D.len (D.fld c 4) ≤ 1100000) (hn : 1100200 ≤ n) (h : Q [.bool (leafB c)]) : wpF Tryz.prog A n 164 [c, m, i] Q := by
 obtain ⟨p, rfl⟩ : ∃ p, n = p + 1 := ⟨n - 1, by omega⟩
 rw [E164]
 unfold leafB cR cAt cDen at h
 refine cnd (fun c => ?_) fun c => by rw [c, Bool.false_and] at h; exact h
 rw [c, Bool.true_and] at h
 refine cnd (fun c => ?_) fun c => by rw [c, Bool.false_and] at h; exact h
 rw [c, Bool.true_and] at h
 refine cnd (fun c => ?_) fun c => by rw [c, Bool.false_and] at h; exact h
 rw [c, Bool.true_and] at h
 refine cnd (fun c => ?_) fun c => by rw [c, Bool.false_and] at h; exact h
 rw [c, Bool.true_and] at h
 refine cnd (fun c => ?_) fun c => by rw [c, Bool.false_and] at h; exact h
 rw [c, Bool.true_and] at h
 refine mul_wp hl (by omega) ?_
 rw [rs0]
 exact h

theorem leaf'_wp {c : D} (hl : D.len (D.fld c 4) ≤ 1100000) (hn : 1100200 ≤ n) (h : Q [.bool (iEq (cL c) (-1) && leafB c)]) : wpF Tryz.prog A n 60 [c] Q := by
 obtain ⟨m, rfl⟩ : ∃ m, n = m + 1 := ⟨n - 1, by omega⟩
 rw [E60, lnN (D.fld c 4)]
 have hl0 := ln0 (D.fld c 4)
 unfold leafB mulB cL cR cAt cDen at h
 refine all_loop (L := fun m0 k => L60_2 m m0 (D.fld c 4) (.int ((D.len (D.fld c 4)).toNat : Nat)) k c Q) (bad := badM (D.fld c 4)) (N := (D.len (D.fld c 4)).toNat) (F := Q [.bool false]) (by omega) (fun m0 k hk hw hb hg => ?_) (fun hb => ?_) (fun hg m0 => ?_) m 0 (by omega) (by omega) (by omega)
 ·rw [L60_2_eq]
  simp only [i_int]
  rw [hw]
  refine cLt (fun _ => ⟨by omega, trivial, ?_⟩) fun c => by omega
  unfold badM tof tco at hb hg
  refine or_bad hb hg fun c1 hb hg => ?_
  refine cLt (fun c3 => ?_) fun c3 => ?_
  ·rw [iLt_iff.mpr c3, Bool.true_and] at hb hg
   rw [wrap_id (by omega) (by omega)]
   exact ⟨by omega, or_bad hb hg fun c4 hb hg => or_bad hb hg fun c5 hb hg => cnd (fun c => hb c) fun c => hg c⟩
  ·rw [iLt_not.mpr c3, Bool.false_and, Bool.false_or] at hb hg
   exact or_bad hb hg fun c5 hb hg => cnd (fun c => hb c) fun c => hg c
 ·rw [hb, Bool.not_true, Bool.and_false, Bool.and_false, Bool.and_false, Bool.and_false, Bool.and_false, Bool.and_false] at h
  exact h
 ·rw [L60_2_eq]
  simp only [i_int]
  refine cLt (fun c => by omega) fun _ => ?_
  rw [hg, Bool.not_false, Bool.and_true] at h
  refine cnd (fun c => ?_) fun c => by rw [c, Bool.false_and] at h; exact h
  rw [c, Bool.true_and] at h
  refine cnd (fun c => ?_) fun c => by rw [c, Bool.false_and] at h; exact h
  rw [c, Bool.true_and] at h
  refine cnd (fun c => ?_) fun c => by rw [c, Bool.false_and] at h; exact h
  rw [c, Bool.true_and] at h
  refine cnd (fun c => ?_) fun c => by rw [c, Bool.false_and] at h; exact h
  rw [c, Bool.true_and] at h
  exact cnd (fun c => by rw [c, Bool.true_and] at h; exact h) fun c => by rw [c, Bool.false_and] at h; exact h

theorem form_wp {m l a : D} (hl : D.len l ≤ 1100000) (hn : 1100200 ≤ n) (h : Q [.bool (formB m l (D.i a))]) : wpF Tryz.prog A n 167 [m, l, a] Q := by
 obtain ⟨p, rfl⟩ : ∃ p, n = p + 1 := ⟨n - 1, by omega⟩
 rw [E167]
 unfold formB at h
 refine terms_wp hl (by omega) (by omega) ?_
 rw [rs0, b_bool]
 refine cnd (fun c => ?_) fun c => by rw [c, Bool.false_and] at h; exact h
 rw [c, Bool.true_and] at h
 exact cnd (fun c => by rw [c, Bool.true_and] at h; exact h) fun c => by rw [c, Bool.false_and] at h; exact h
theorem form'_wp {m l a : D} (hl : D.len l ≤ 1100000) (hn : 1100300 ≤ n) (h : Q [.bool (formB m l (D.i a))]) : wpF Tryz.prog A n 61 [m, l, a] Q := by
 obtain ⟨p, rfl⟩ : ∃ p, n = p + 1 := ⟨n - 1, by omega⟩
 rw [E61]
 unfold formB at h
 refine row'_wp (x := .agg [l, .int 0]) hl (by omega) ?_
 rw [rs0, b_bool]
 have e : rowB (.agg [l, .int 0]) (D.i (D.fld m 0)) = termsB l (D.i (D.fld m 0)) 1048576 := by
  show (termsB l (D.i (D.fld m 0)) 1048576 && true) = _
  rw [Bool.and_true]
 rw [e]
 refine cnd (fun c => ?_) fun c => by rw [c, Bool.false_and] at h; exact h
 rw [c, Bool.true_and] at h
 refine cnd (fun c => ?_) fun c => by rw [c, Bool.false_and] at h; exact h
 rw [c, Bool.true_and] at h
 have e2 : iLe (D.i a) 1048575 = iLt (D.i a) 1048576 := decide_eq_decide.mpr (by omega)
 rw [e2]
 exact h

theorem splitR_wp {c m : D} {i : Int} (hl : D.len (D.fld c 2) ≤ 1100000) (hn : 1100300 ≤ n) (h : Q [.bool (splitB m c i)]) : wpF Tryz.prog A n 166 [c, m, .int i] Q := by
 obtain ⟨p, rfl⟩ : ∃ p, n = p + 1 := ⟨n - 1, by omega⟩
 rw [E166]
 unfold splitB cAt cDen cL cR at h
 refine form_wp hl (by omega) ?_
 rw [rs0, b_bool, i_int]
 refine cnd (fun c => ?_) fun c => by rw [c, Bool.false_and] at h; exact h
 rw [c, Bool.true_and] at h
 refine cnd (fun c => ?_) fun c => by rw [c, Bool.false_and] at h; exact h
 rw [c, Bool.true_and] at h
 refine cnd (fun c => ?_) fun c => by rw [c, Bool.false_and] at h; exact h
 rw [c, Bool.true_and] at h
 exact cnd (fun c => by rw [c, Bool.true_and] at h; exact h) fun c => by rw [c, Bool.false_and] at h; exact h

theorem leafQ_wp (hn : 2 ≤ n) {c : D} (h : Q [.bool (iEq (cL c) (-1))]) : wpF Tryz.prog A n 56 [c] Q := by
 obtain ⟨p, rfl⟩ : ∃ p, n = p + 2 := ⟨n - 2, by omega⟩
 rw [E56, E91]
 unfold cL at h
 refine cnd (fun c1 => ?_) fun c1 => ?_
 ·rw [c1] at h
  rw [rs0]
  exact ⟨trivial, h⟩
 ·rw [c1] at h
  rw [rs0]
  exact ⟨trivial, h⟩

theorem bools_get {l : List Bool} {k : Nat} (h : k < l.length) : D.b (List.getD (D.xs (bools l)) k D.und) = l.getD k false := by
 simp [bools, D.xs, List.getD, h, D.b]
theorem bools_set (l : List Bool) (k : Nat) (b : Bool) : D.slc (List.set (D.xs (bools l)) k (.bool b)) = bools (l.set k b) := by
 simp [bools, D.xs, List.map_set]
theorem bools_len (l : List Bool) : D.len (bools l) = l.length := by simp [bools, D.len, D.xs]
theorem bools_drop (l : List Bool) {N : Nat} (hN : l.length = N) : D.slc (List.drop (Int.toNat 1) (List.take (Int.toNat (N : Int)) (D.xs (bools l)))) = bools (l.drop 1) := by
 subst hN
 show D.slc (List.drop 1 (List.take l.length (l.map D.bool))) = D.slc ((l.drop 1).map D.bool)
 rw [List.take_of_length_le (by simp), List.map_drop]

theorem contains_wp {l : List Bool} (hl : l.length ≤ 1000) (hn : 2000 ≤ n) (h : Q [.bool (anyB (fun k => !l.getD k false) l.length)]) : wpF Tryz.prog A n 92 [bools l, .bool false] Q := by
 obtain ⟨p, rfl⟩ : ∃ p, n = p + 2 := ⟨n - 2, by omega⟩
 have e94 : wpF Tryz.prog A (p + 2) 92 [bools l, .bool false] Q = wpF Tryz.prog A (p + 1) 120 [bools l, .bool false] fun r1 => Q [(D.bool (iLe (0 : Int) (D.i (rs r1 0))))] := E92 _ _ _ _
 rw [e94, E120, bools_len]
 refine all_loop (L := fun m0 k => L120_2 p m0 (bools l) (.bool false) (.int l.length) k fun r1 => Q [(D.bool (iLe (0 : Int) (D.i (rs r1 0))))]) (bad := fun k => !l.getD k false) (N := l.length) (F := Q [.bool true]) (by omega) (fun m0 k hk hw hb hg => ?_) (fun hb => by rw [hb] at h; exact h) (fun hg m0 => ?_) p 0 (by omega) (by omega) (by omega)
 ·rw [L120_2_eq]
  simp only [i_int, b_bool]
  rw [hw, bools_len]
  refine cLt (fun _ => ⟨by omega, ?_⟩) fun c => by omega
  have e : D.b (D.el (bools l) (k : Int)) = l.getD k false := bools_get hk
  rw [e]
  have e2 : bEq false (l.getD k false) = !l.getD k false := by cases l.getD k false <;> rfl
  rw [e2]
  refine cnd (fun c => ?_) fun c => hg c
  rw [rs0, i_int, iLe_iff.mpr (by omega)]
  exact hb c
 ·rw [L120_2_eq]
  simp only [i_int]
  refine cLt (fun c => by omega) fun _ => ?_
  rw [hg] at h
  exact h
end
end Go.Ab

/- Bounds: valid ones, the rows above each case: both answers are one. -/
namespace Go.Ab
open Go.Proofs
attribute [local irreducible] wpF

section
variable {n : Nat} {Q : List D → Prop}

theorem right_leaf : methodOf Tryz.prog 166 (mName Tryz.prog 166 0) = some 164 := by kernel_rfl
theorem right_split : methodOf Tryz.prog 167 (mName Tryz.prog 166 0) = some 166 := by kernel_rfl
theorem right_leaf_ok : (PK.beqs (A.sig 164).ps (.imm 166 :: [.imm 46, .imm 3]) = true ∧ (A.sig 164).rs = [.val 4 .imm] ∧ plainT Tryz.prog 166 = true) := by
 refine ⟨by kernel_rfl, rfl, by kernel_rfl⟩
theorem right_split_ok : (PK.beqs (A.sig 166).ps (.imm 167 :: [.imm 46, .imm 3]) = true ∧ (A.sig 166).rs = [.val 4 .imm] ∧ plainT Tryz.prog 167 = true) := by
 refine ⟨by kernel_rfl, rfl, by kernel_rfl⟩

theorem inv_wp {P : Program} {A : Ann} {cal : Nat → List D → (List D → Prop) → Prop} {t f : Nat} {x : D} {nm : String} {ks : List PK} {rs : List RK} {ds : List D} {Q : List D → Prop} (h1 : methodOf P t nm = some f)
  (h2 : PK.beqs (A.sig f).ps (.imm t :: ks) = true ∧ (A.sig f).rs = rs ∧ plainT P t = true) (h3 : cal f (x :: ds) Q) : invH P A cal (.ifc t x) nm ks rs ds Q := by
 unfold invH
 simp only [h1]
 exact ⟨h2, h3⟩

attribute [local irreducible] invH methodOf
theorem inv_leaf {q : Nat} {c m i : D} {Q : List D → Prop} (h : wpF Tryz.prog A q 164 [c, m, i] Q) : invH Tryz.prog A (wpF Tryz.prog A q) (.ifc 166 c) (mName Tryz.prog 166 0) [.imm 46, .imm 3] [.val 4 .imm] [m, i] Q :=
 inv_wp (cal := wpF Tryz.prog A q) right_leaf right_leaf_ok h
theorem inv_split {q : Nat} {c m i : D} {Q : List D → Prop} (h : wpF Tryz.prog A q 166 [c, m, i] Q) : invH Tryz.prog A (wpF Tryz.prog A q) (.ifc 167 c) (mName Tryz.prog 166 0) [.imm 46, .imm 3] [.val 4 .imm] [m, i] Q :=
 inv_wp (cal := wpF Tryz.prog A q) right_split right_split_ok h

theorem vS_leaf {m b : D} {nm : List Bool} {i : Nat} (h : iEq (cL (cAs b i)) (-1) = true) : vS m b nm i = cond (leafB (cAs b i)) (some nm) none := by
 unfold vS; rw [h]; rfl
theorem vS_split {m b : D} {nm : List Bool} {i : Nat} (h : iEq (cL (cAs b i)) (-1) = false) : vS m b nm i = cond (splitB m (cAs b i) i) ((nameS (D.len (cs b)) nm (cL (cAs b i))).bind fun nm => nameS (D.len (cs b)) nm (cR (cAs b i))) none := by
 unfold vS; rw [h]; rfl

theorem split_gt {m c : D} {i : Int} (h : splitB m c i = true) : i < cL c ∧ i < cR c := by
 simp only [splitB, Bool.and_eq_true, iLt_iff] at h
 exact ⟨h.2.2.2.1, h.2.2.2.2⟩

theorem bound_wp {m b : D} (hm : Mo m) (hb : Bo b) (hn : 1100600 ≤ n) (h : Q [.bool (modB m && bndB m b)]) : wpF Tryz.prog A n 52 [m, b] Q := by
 obtain ⟨p, rfl⟩ : ∃ p, n = p + 1 := ⟨n - 1, by omega⟩
 rw [E52]
 refine model_wp hm (by omega) ?_
 rw [rs0, b_bool]
 refine cNot (fun c => by rw [c, Bool.false_and] at h; exact h) fun c => ?_
 rw [c, Bool.true_and] at h
 unfold bndB at h
 have hN := hb.cases
 have hN0 := ln0 (cs b)
 show cond (iLt (D.len (cs b)) 1) _ _
 refine cLt (fun c1 => by rw [iLe_not.mpr (by omega), Bool.false_and, Bool.false_and] at h; exact h) fun c1 => ?_
 show cond (iLt 1000 (D.len (cs b))) _ _
 refine cLt (fun c2 => by rw [iLe_iff.mpr (by omega), iLe_not.mpr (by omega), Bool.true_and, Bool.false_and] at h; exact h) fun c2 => ?_
 rw [iLe_iff.mpr (by omega), iLe_iff.mpr (by omega), Bool.true_and, Bool.true_and] at h
 obtain ⟨N, hNe⟩ : ∃ N : Nat, D.len (cs b) = N := ⟨(D.len (cs b)).toNat, by omega⟩
 have hN' : (D.len (cs b)).toNat = N := by omega
 show (0 ≤ D.len (cs b) ∧ D.len (cs b) ≤ D.len (cs b) ∧ room (D.len (cs b)) 1) ∧ L52_5 p p (cs b) (.int (D.len (cs b))) (.int 0) m b (.slc (List.replicate (Int.toNat (D.len (cs b))) (.bool false))) Q
 refine ⟨⟨by omega, by omega, by unfold room; omega⟩, ?_⟩
 unfold namesO at h
 rw [hN'] at h
 have e0 : D.slc (List.replicate (Int.toNat (D.len (cs b))) (D.bool false)) = bools (List.replicate N false) := by
  rw [hNe, toNat_nat]; simp [bools]
 rw [e0, hNe]
 refine opt_loop (L := fun m0 k nm => L52_5 p m0 (cs b) (.int (N : Int)) k m b (bools nm) Q) (step := vS m b) (s0 := List.replicate N false) (N := N) (F := Q [.bool false]) (by omega) (fun m0 k nm hk hnm hw hf hg => ?_) (fun hf => by rw [hf] at h; exact h) (fun nm hnm m0 => ?_) p 0 _ (by omega) (by omega) rfl
 ·rw [L52_5_eq]
  simp only [i_int]
  rw [hw]
  refine cLt (fun _ => ⟨by omega, trivial, ?_⟩) fun c => by omega
  obtain ⟨q, rfl⟩ : ∃ q, p = q + 1 := ⟨p - 1, by omega⟩
  rw [E91]
  have hlen := iter_len hnm
  have hc4 := hb.mul k (by omega)
  have hc2 := hb.form k (by omega)
  refine cnd (fun cl => ?_) fun cl => ?_
  ·rw [rs0]
   rw [vS_leaf cl] at hf hg
   refine inv_leaf (leafR_wp hc4 (by omega) ?_)
   rw [rs0, b_bool]
   refine cNot (fun c => hf (by show cond (leafB (D.el (cs b) (k : Int))) _ _ = none; rw [c]; rfl)) fun c => ?_
   rw [show ∀ x, D.isT (.ifc 166 x) 166 = true from fun _ => rfl, cond_true]
   exact ⟨trivial, hg _ (by show cond (leafB (D.el (cs b) (k : Int))) _ _ = _; rw [c]; rfl)⟩
  ·rw [rs0]
   rw [vS_split cl] at hf hg
   refine inv_split (splitR_wp hc2 (by omega) ?_)
   rw [rs0, b_bool]
   refine cNot (fun c => hf (by show cond (splitB m (D.el (cs b) (k : Int)) k) _ _ = none; rw [c]; rfl)) fun c => ?_
   rw [show ∀ x, D.isT (.ifc 167 x) 166 = false from fun _ => rfl, cond_false, show ∀ x, D.isT (.ifc 167 x) 167 = true from fun _ => rfl, cond_true]
   refine ⟨trivial, ?_⟩
   have hgt := split_gt c
   have hs : splitB m (cAs b k) k = true := c
   rw [hs, cond_true] at hf hg
   show L52_16 (q + 1) m0 (q + 1) (cs b) (.int (N : Int)) (.int (k : Int)) (.int 2) (.int 0) m b (bools nm) (.slc [D.fld (cAs b k) 0, D.fld (cAs b k) 1]) Q
   -- both names
   have one : ∀ (m1 : Nat) (nm : List Bool) (j : Nat) (z : D) (F : Prop), nm.length = N → j < 2 → [D.fld (cAs b k) 0, D.fld (cAs b k) 1].getD j .und = z → (k : Int) < D.i z → (nameS (D.len (cs b)) nm (D.i z) = none → Q [.bool false]) →
     (∀ nm', nameS (D.len (cs b)) nm (D.i z) = some nm' → L52_16 (q + 1) m0 m1 (cs b) (.int (N : Int)) (.int (k : Int)) (.int 2) (.int ((j : Int) + 1)) m b (bools nm') (.slc [D.fld (cAs b k) 0, D.fld (cAs b k) 1]) Q) →
     L52_16 (q + 1) m0 (m1 + 1) (cs b) (.int (N : Int)) (.int (k : Int)) (.int 2) (.int (j : Int)) m b (bools nm) (.slc [D.fld (cAs b k) 0, D.fld (cAs b k) 1]) Q := by
    intro m1 nm j z F hl hj hz hkz h1 h2
    rw [L52_16_eq]
    simp only [i_int, xs_slc, toNat_nat]
    rw [hz, wrap_id (by omega) (by omega)]
    unfold nameS at h1 h2
    refine cLt (fun _ => ⟨⟨by omega, by simp only [len_slc, List.length_cons, List.length_nil]; omega⟩, ?_⟩) fun c => by omega
    show cond (iLe (D.len (cs b)) (D.i z)) _ _
    refine cnd (fun c => h1 (by rw [c]; rfl)) fun c => ?_
    rw [c] at h1 h2
    simp only [cond_false] at h1 h2
    rw [iLe_not, hNe] at c
    rw [bools_len, hl, bools_get (by omega)]
    refine ⟨by omega, cnd (fun c => h1 (by rw [c]; rfl)) fun c => ⟨by omega, trivial, ?_⟩⟩
    rw [bools_set]
    exact h2 _ (by rw [c]; rfl)
   refine one q nm 0 (D.fld (cAs b k) 0) False hlen (by omega) rfl hgt.1 (fun e => hf ?_) fun nm' e => ?_
   ·show (nameS (D.len (cs b)) nm (D.i (D.fld (cAs b k) 0))).bind _ = none
    rw [e]; rfl
   ·have hl' : nm'.length = N := by rw [nameS_len e]; exact hlen
    obtain ⟨u, rfl⟩ : ∃ u, q = u + 2 := ⟨q - 2, by omega⟩
    refine one (u + 1) nm' 1 (D.fld (cAs b k) 1) False hl' (by omega) rfl hgt.2 (fun e2 => hf ?_) fun nm2 e2 => ?_
    ·show (nameS (D.len (cs b)) nm (D.i (D.fld (cAs b k) 0))).bind _ = none
     rw [e]
     exact e2
    ·rw [L52_16_eq]
     simp only [i_int]
     refine cLt (fun c => by omega) fun _ => ?_
     rw [hw]
     refine hg nm2 ?_
     show (nameS (D.len (cs b)) nm (D.i (D.fld (cAs b k) 0))).bind _ = some nm2
     rw [e]
     exact e2
 ·rw [L52_5_eq]
  simp only [i_int]
  refine cLt (fun c => by omega) fun _ => ?_
  have hl := iter_len hnm
  rw [bools_len, hl]
  refine ⟨⟨by omega, by omega, by omega⟩, ?_⟩
  rw [bools_drop nm hl]
  refine contains_wp (by simp; omega) (by omega) ?_
  rw [hnm] at h
  rw [rs0, b_bool]
  have e : anyB (fun k => !(nm.drop 1).getD k false) (nm.drop 1).length = anyB (fun k => !nm.getD (k + 1) false) (nm.length - 1) := by
   rw [List.length_drop]
   exact anyB_congr fun i hi => by simp [List.getD, Nat.add_comm]
  rw [e]
  exact h
end
end Go.Ab

/- Bounds: the document's validity; leaves counted; both sides of a split. -/
namespace Go.Ab
open Go.Proofs
attribute [local irreducible] wpF

section
variable {n : Nat} {Q : List D → Prop}

theorem bound'_wp {m b : D} (hm : Mo m) (hb : Bo b) (hn : 1100600 ≤ n) (h : Q [.bool (bndB m b)]) : wpF Tryz.prog A n 30 [m, b] Q := by
 obtain ⟨p, rfl⟩ : ∃ p, n = p + 1 := ⟨n - 1, by omega⟩
 rw [E30]
 unfold bndB at h
 have hN := hb.cases
 have hN0 := ln0 (cs b)
 show cond (iLt (D.len (cs b)) 1) _ _
 refine cLt (fun c1 => by rw [iLe_not.mpr (by omega), Bool.false_and, Bool.false_and] at h; exact h) fun c1 => ?_
 show cond (iLt 1000 (D.len (cs b))) _ _
 refine cLt (fun c2 => by rw [iLe_iff.mpr (by omega), iLe_not.mpr (by omega), Bool.true_and, Bool.false_and] at h; exact h) fun c2 => ?_
 rw [iLe_iff.mpr (by omega), iLe_iff.mpr (by omega), Bool.true_and, Bool.true_and] at h
 obtain ⟨N, hNe⟩ : ∃ N : Nat, D.len (cs b) = N := ⟨(D.len (cs b)).toNat, by omega⟩
 have hN' : (D.len (cs b)).toNat = N := by omega
 show (0 ≤ D.len (cs b) ∧ D.len (cs b) ≤ D.len (cs b) ∧ room (D.len (cs b)) 1) ∧ L30_5 p p (cs b) (.int (D.len (cs b))) (.int 0) m b (.slc (List.replicate (Int.toNat (D.len (cs b))) (.bool false))) Q
 refine ⟨⟨by omega, by omega, by unfold room; omega⟩, ?_⟩
 unfold namesO at h
 rw [hN'] at h
 have e0 : D.slc (List.replicate (Int.toNat (D.len (cs b))) (D.bool false)) = bools (List.replicate N false) := by
  rw [hNe, toNat_nat]; simp [bools]
 rw [e0, hNe]
 refine opt_loop (L := fun m0 k nm => L30_5 p m0 (cs b) (.int (N : Int)) k m b (bools nm) Q) (step := vS m b) (s0 := List.replicate N false) (N := N) (F := Q [.bool false]) (by omega) (fun m0 k nm hk hnm hw hf hg => ?_) (fun hf => by rw [hf] at h; exact h) (fun nm hnm m0 => ?_) p 0 _ (by omega) (by omega) rfl
 ·rw [L30_5_eq]
  simp only [i_int]
  rw [hw]
  refine cLt (fun _ => ⟨by omega, trivial, ?_⟩) fun c => by omega
  have hlen := iter_len hnm
  have hc4 := hb.mul k (by omega)
  have hc40 := ln0 (D.fld (cAs b k) 4)
  have hc2 := hb.form k (by omega)
  refine cnd (fun cl => ?_) fun cl => ?_
  ·rw [vS_leaf cl] at hf hg
   refine leaf'_wp hc4 (by omega) ?_
   rw [rs0, b_bool]
   have e : iEq (cL (D.el (cs b) (k : Int))) (-1) = true := cl
   rw [e, Bool.true_and]
   exact cNot (fun c => hf (by show cond (leafB (D.el (cs b) (k : Int))) _ _ = none; rw [c]; rfl)) fun c => hg _ (by show cond (leafB (D.el (cs b) (k : Int))) _ _ = _; rw [c]; rfl)
  ·rw [vS_split cl] at hf hg
   unfold splitB at hf hg
   refine form'_wp hc2 (by omega) ?_
   rw [rs0, b_bool]
   refine cNot (fun c => hf (by rw [show formB m (D.fld (cAs b k) 2) (cAt (cAs b k)) = false from c]; rfl)) fun c => ?_
   rw [show formB m (D.fld (cAs b k) 2) (cAt (cAs b k)) = true from c, Bool.true_and] at hf hg
   show cond (iLt 0 (D.len (D.fld (cAs b k) 4))) _ _
   refine cLt (fun c => hf (by rw [iEq_not.mpr (by omega)]; rfl)) fun c => ?_
   rw [iEq_iff.mpr (by omega), Bool.true_and] at hf hg
   refine cNe (fun c => hf (by rw [show iEq (cDen (cAs b k)) 0 = false from iEq_not.mpr c]; rfl)) fun c => ?_
   rw [show iEq (cDen (cAs b k)) 0 = true from iEq_iff.mpr c, Bool.true_and] at hf hg
   refine cEq (fun c => hf ?_) fun c => ?_
   ·have c : cL (cAs b k) = cR (cAs b k) := c
    rw [← c]
    cases h1 : iLt (k : Int) (cL (cAs b k)) with
    | false => rfl
    | true =>
     rw [iLt_iff] at h1
     simp only [Bool.and_self, cond_true]
     unfold nameS
     cases h2 : iLe (D.len (cs b)) (cL (cAs b k)) with
     | true => rfl
     | false =>
      rw [iLe_not, hNe] at h2
      simp only [cond_false]
      cases h3 : nm.getD (cL (cAs b k)).toNat false with
      | true => rfl
      | false =>
       simp only [cond_false, Option.bind_some]
       have : (nm.set (cL (cAs b k)).toNat true).getD (cL (cAs b k)).toNat false = true := by
        simp [List.getD, show (cL (cAs b k)).toNat < nm.length by omega]
       rw [this]
       rfl
   ·show L30_13 p m0 p (.int (k : Int)) (cs b) (.int (N : Int)) (.int (k : Int)) (.int 2) (.int 0) m b (bools nm) (.slc [D.fld (cAs b k) 0, D.fld (cAs b k) 1]) Q
    have one : ∀ (m1 : Nat) (nm : List Bool) (j : Nat) (z : D), nm.length = N → j < 2 → [D.fld (cAs b k) 0, D.fld (cAs b k) 1].getD j .und = z → (iLt (k : Int) (D.i z) = false → Q [.bool false]) → (iLt (k : Int) (D.i z) = true → nameS (D.len (cs b)) nm (D.i z) = none → Q [.bool false]) →
      (iLt (k : Int) (D.i z) = true → ∀ nm', nameS (D.len (cs b)) nm (D.i z) = some nm' → L30_13 p m0 m1 (.int (k : Int)) (cs b) (.int (N : Int)) (.int (k : Int)) (.int 2) (.int ((j : Int) + 1)) m b (bools nm') (.slc [D.fld (cAs b k) 0, D.fld (cAs b k) 1]) Q) →
      L30_13 p m0 (m1 + 1) (.int (k : Int)) (cs b) (.int (N : Int)) (.int (k : Int)) (.int 2) (.int (j : Int)) m b (bools nm) (.slc [D.fld (cAs b k) 0, D.fld (cAs b k) 1]) Q := by
     intro m1 nm j z hl hj hz h0 h1 h2
     rw [L30_13_eq]
     simp only [i_int, xs_slc, toNat_nat]
     rw [hz, wrap_id (by omega) (by omega)]
     unfold nameS at h1 h2
     refine cLt (fun _ => ⟨⟨by omega, by simp only [len_slc, List.length_cons, List.length_nil]; omega⟩, ?_⟩) fun c => by omega
     refine cLe (fun c => h0 (iLt_not.mpr (by omega))) fun c => ?_
     have hkz : iLt (k : Int) (D.i z) = true := iLt_iff.mpr (by omega)
     have h1 := h1 hkz
     have h2 := h2 hkz
     show cond (iLe (D.len (cs b)) (D.i z)) _ _
     refine cnd (fun c => h1 (by rw [c]; rfl)) fun c => ?_
     rw [c] at h1 h2
     simp only [cond_false] at h1 h2
     rw [iLe_not, hNe] at c
     rw [bools_len, hl, bools_get (by omega)]
     refine ⟨by omega, cnd (fun c => h1 (by rw [c]; rfl)) fun c => ⟨by omega, trivial, ?_⟩⟩
     rw [bools_set]
     exact h2 _ (by rw [c]; rfl)
    obtain ⟨u, rfl⟩ : ∃ u, p = u + 3 := ⟨p - 3, by omega⟩
    refine one (u + 2) nm 0 (D.fld (cAs b k) 0) hlen (by omega) rfl (fun e => hf ?_) (fun e1 e => ?_) fun e1 nm' e => ?_
    ·rw [show iLt (k : Int) (cL (cAs b k)) = false from e]; rfl
    ·refine hf ?_
     rw [show iLt (k : Int) (cL (cAs b k)) = true from e1, show nameS (D.len (cs b)) nm (cL (cAs b k)) = none from e]
     cases iLt (k : Int) (cR (cAs b k)) <;> rfl
    ·have hl' : nm'.length = N := by rw [nameS_len e]; exact hlen
     rw [show iLt (k : Int) (cL (cAs b k)) = true from e1, Bool.true_and, show nameS (D.len (cs b)) nm (cL (cAs b k)) = some nm' from e] at hf hg
     refine one (u + 1) nm' 1 (D.fld (cAs b k) 1) hl' (by omega) rfl (fun e2 => hf ?_) (fun e2 e3 => hf ?_) fun e2 nm2 e3 => ?_
     ·rw [show iLt (k : Int) (cR (cAs b k)) = false from e2]; rfl
     ·rw [show iLt (k : Int) (cR (cAs b k)) = true from e2]
      exact e3
     ·rw [L30_13_eq]
      simp only [i_int]
      refine cLt (fun c => by omega) fun _ => ?_
      rw [hw]
      refine hg nm2 ?_
      rw [show iLt (k : Int) (cR (cAs b k)) = true from e2]
      exact e3
 ·rw [L30_5_eq]
  simp only [i_int]
  refine cLt (fun c => by omega) fun _ => ?_
  have hl := iter_len hnm
  rw [bools_len, hl]
  refine ⟨⟨by omega, by omega, by omega⟩, ?_⟩
  rw [bools_drop nm hl, bools_len, List.length_drop, hl]
  rw [hnm] at h
  unfold allN at h
  simp only at h
  rw [hl] at h
  refine all_loop (L := fun m0 k => L30_21 p m0 (bools (nm.drop 1)) (.int ((N - 1 : Nat) : Int)) k Q) (bad := fun k => !nm.getD (k + 1) false) (N := N - 1) (F := Q [.bool false]) (by omega) (fun m1 k hk hw hb hg => ?_) (fun hb => by rw [hb] at h; exact h) (fun hg m1 => ?_) p 0 (by omega) (by omega) (by omega)
  ·rw [L30_21_eq]
   simp only [i_int]
   rw [hw, bools_len, List.length_drop]
   have e : D.b (D.el (bools (nm.drop 1)) (k : Int)) = nm.getD (k + 1) false := by
    have : D.b (D.el (bools (nm.drop 1)) (k : Int)) = (nm.drop 1).getD k false := bools_get (by rw [List.length_drop]; omega)
    rw [this]
    simp [List.getD, Nat.add_comm]
   rw [e]
   exact cLt (fun _ => ⟨by omega, cnd (fun c => hb c) fun c => hg c⟩) fun c => by omega
  ·rw [L30_21_eq]
   simp only [i_int]
   refine cLt (fun c => by omega) fun _ => ?_
   rw [hg] at h
   exact h

end
end Go.Ab

/- Bounds: both sides of a split, the rows above each case: both answers are one. -/
namespace Go.Ab
open Go.Proofs
attribute [local irreducible] wpF

def negE (l : D) (k : Nat) : D := .agg [D.fld (D.el l k) 0, .int (IntKind.wrap .i64 (0 - tco l k))]
def negS (l : D) (s : List D) (k : Nat) : List D := s ++ [negE l k]
def negL (l : D) (k : Nat) : List D := iter (negS l) [] k
def sideL (c : D) : D := .agg [D.fld c 2, D.fld c 3]
def sideR (c : D) : D := .agg [.slc (negL (D.fld c 2) (D.len (D.fld c 2)).toNat), .int (IntKind.wrap .i64 (IntKind.wrap .i64 (0 - cAt c) - 1))]
theorem neg_len (l : D) : ∀ k, (negL l k).length = k := by
 intro k
 induction k with
 | zero => rfl
 | succ k ih =>
  have e : negL l (k + 1) = negS l (negL l k) k := rfl
  rw [e, negS, List.length_append, ih]; rfl
theorem neg_get (l : D) : ∀ k j, j < k → (negL l k).getD j .und = negE l j := by
 intro k
 induction k with
 | zero => intro j h; omega
 | succ k ih =>
  intro j h
  have e : negL l (k + 1) = negS l (negL l k) k := rfl
  rw [e, negS]
  by_cases hj : j = k
  ·subst hj
   have := neg_len l j
   simp [List.getD, List.getElem?_append_right, this]
  ·have hl := neg_len l k
   have := ih j (by omega)
   simp only [List.getD] at this ⊢
   rw [List.getElem?_append_left (by omega)]
   exact this

/-- Rows above each case. -/
def aS (b : D) (A : List (List D)) (k : Nat) : List (List D) :=
 cond (iEq (cL (cAs b k)) (-1)) A ((A.set (cL (cAs b k)).toNat (A.getD k [] ++ [sideL (cAs b k)])).set (cR (cAs b k)).toNat (A.getD k [] ++ [sideR (cAs b k)]))
def abv (b : D) (k : Nat) : List (List D) := iter (aS b) (List.replicate (D.len (cs b)).toNat []) k
def rowsD (A : List (List D)) : D := .slc (A.map .slc)
theorem abv_len (b : D) : ∀ k, (abv b k).length = (D.len (cs b)).toNat := by
 intro k
 induction k with
 | zero => simp [abv, iter]
 | succ k ih =>
  have e : abv b (k + 1) = aS b (abv b k) k := rfl
  rw [e, aS]
  cases iEq (cL (cAs b k)) (-1)
  ·simp only [cond_false, List.length_set]; exact ih
  ·exact ih
theorem getD_set_ne' {α : Type} {l : List α} {i j : Nat} {x d : α} (h : i ≠ j) : (l.set i x).getD j d = l.getD j d := by
 simp [List.getD, List.getElem?_set, h]
theorem getD_set_eq' {α : Type} {l : List α} {i : Nat} {x d : α} (h : i < l.length) : (l.set i x).getD i d = x := by
 simp [List.getD, h]
theorem abv_short (b : D) : ∀ k j, ((abv b k).getD j []).length ≤ k := by
 intro k
 induction k with
 | zero =>
  intro j
  simp only [abv, iter, List.getD]
  rw [List.getElem?_replicate]
  split <;> simp
 | succ k ih =>
  intro j
  have e : abv b (k + 1) = aS b (abv b k) k := rfl
  rw [e, aS]
  cases iEq (cL (cAs b k)) (-1) with
  | true => have := ih j; simp only [cond_true]; omega
  | false =>
   simp only [cond_false]
   have hk := ih k
   have hj := ih j
   have key : ∀ (B : List (List D)) (i : Nat) (x : List D), x.length ≤ k + 1 → (B.getD j []).length ≤ k + 1 → ((B.set i x).getD j []).length ≤ k + 1 := fun B i x hx hB => by
    by_cases e : i = j
    ·subst e
     by_cases hi : i < B.length
     ·rw [getD_set_eq' hi]; exact hx
     ·rw [List.set_eq_of_length_le (by omega)]; exact hB
    ·rw [getD_set_ne' e]; exact hB
   exact key _ _ _ (by rw [List.length_append, List.length_singleton]; omega) (key _ _ _ (by rw [List.length_append, List.length_singleton]; omega) (by omega))

theorem iterO_some {S : Type} {step : S → Nat → Option S} {s t : S} {N : Nat} (h : iterO step s N = some t) : ∀ k, k < N → ∃ u v, iterO step s k = some u ∧ step u k = some v := by
 intro k hk
 cases h1 : iterO step s k with
 | none => rw [iterO_none h1 N (by omega)] at h; cases h
 | some u =>
  cases h2 : step u k with
  | some v => exact ⟨u, v, rfl, h2⟩
  | none =>
   have : iterO step s (k + 1) = none := by simp only [iterO]; rw [h1]; exact h2
   rw [iterO_none this N (by omega)] at h; cases h

/-- What a valid bound's case is. -/
theorem bnd_case {m b : D} (h : bndB m b = true) {k : Nat} (hk : (k : Int) < D.len (cs b)) :
  (iEq (cL (cAs b k)) (-1) = true ∧ leafB (cAs b k) = true) ∨ (iEq (cL (cAs b k)) (-1) = false ∧ splitB m (cAs b k) k = true ∧ cL (cAs b k) < D.len (cs b) ∧ cR (cAs b k) < D.len (cs b)) := by
 unfold bndB at h
 rw [Bool.and_eq_true] at h
 cases hn : namesO m b with
 | none => rw [hn] at h; cases h.2
 | some nm =>
  have hl := ln0 (cs b)
  obtain ⟨u, v, _, hs⟩ := iterO_some hn k (by omega)
  cases hc : iEq (cL (cAs b k)) (-1) with
  | true =>
   left
   rw [vS_leaf hc] at hs
   cases hb : leafB (cAs b k) with
   | true => exact ⟨rfl, rfl⟩
   | false => rw [hb] at hs; cases hs
  | false =>
   right
   rw [vS_split hc] at hs
   cases hb : splitB m (cAs b k) k with
   | false => rw [hb] at hs; cases hs
   | true =>
    rw [hb] at hs
    simp only [cond_true, Option.bind_eq_some_iff] at hs
    obtain ⟨nm1, h1, h2⟩ := hs
    have key : ∀ {nm nm' : List Bool} {z : Int}, nameS (D.len (cs b)) nm z = some nm' → z < D.len (cs b) := fun {nm nm' z} h => by
     unfold nameS at h
     cases hz : iLe (D.len (cs b)) z with
     | true => rw [hz] at h; cases h
     | false => rw [iLe_not] at hz; omega
    exact ⟨rfl, rfl, key h1, key h2⟩
theorem bnd_len {m b : D} (h : bndB m b = true) : 1 ≤ D.len (cs b) ∧ D.len (cs b) ≤ 1000 := by
 unfold bndB at h
 simp only [Bool.and_eq_true, iLe_iff] at h
 exact h.1

section
variable {n : Nat} {Q : List D → Prop}

theorem split_wp {c : D} (hl : D.len (D.fld c 2) ≤ 1100000) (hn : 1100100 ≤ n) (h : Q [sideL c, sideR c]) : wpF Tryz.prog A n 93 [c] Q := by
 obtain ⟨p, rfl⟩ : ∃ p, n = p + 1 := ⟨n - 1, by omega⟩
 rw [E93]
 have hl0 := ln0 (D.fld c 2)
 unfold sideR cAt at h
 obtain ⟨N, hN⟩ : ∃ N : Nat, D.len (D.fld c 2) = N := ⟨(D.len (D.fld c 2)).toNat, by omega⟩
 have hN' : (D.len (D.fld c 2)).toNat = N := by omega
 rw [hN'] at h
 rw [hN]
 refine ⟨trivial, trivial, ?_⟩
 refine fold_loop (L := fun m0 k s => L93_4 p m0 (D.fld c 2) (.int (N : Int)) k (sideL c) (.agg [.slc s, .int (IntKind.wrap .i64 (IntKind.wrap .i64 (0 - D.i (D.fld c 3)) - 1))]) Q) (step := negS (D.fld c 2)) (s0 := []) (N := N) (by omega) (fun m0 k hk hw hg => ?_) (fun m0 => ?_) p 0 (by omega) (by omega)
 ·rw [L93_4_eq]
  simp only [i_int, fld0, fldS, xs_slc]
  rw [hw]
  have hlen : (iter (negS (D.fld c 2)) [] k).length = k := neg_len _ k
  refine cLt (fun _ => ⟨by omega, trivial, ?_, trivial, ?_⟩) fun c => by omega
  ·unfold room; rw [hlen]; simp only [List.length_singleton]; omega
  ·exact hg
 ·rw [L93_4_eq]
  simp only [i_int]
  exact cLt (fun c => by omega) fun _ => ⟨trivial, trivial, h⟩

theorem sides_wp {c : D} (hl : D.len (D.fld c 2) ≤ 1100000) (hn : 1100100 ≤ n) (h : Q [sideL c, sideR c]) : wpF Tryz.prog A n 31 [D.fld c 2, D.fld c 3] Q := by
 obtain ⟨p, rfl⟩ : ∃ p, n = p + 1 := ⟨n - 1, by omega⟩
 rw [E31]
 have hl0 := ln0 (D.fld c 2)
 unfold sideR cAt at h
 obtain ⟨N, hN⟩ : ∃ N : Nat, D.len (D.fld c 2) = N := ⟨(D.len (D.fld c 2)).toNat, by omega⟩
 have hN' : (D.len (D.fld c 2)).toNat = N := by omega
 rw [hN'] at h
 rw [hN]
 refine fold_loop (L := fun m0 k s => L31_3 p m0 (D.fld c 2) (D.fld c 3) (D.fld c 2) (.int (N : Int)) k _ _ (.slc s) Q) (step := negS (D.fld c 2)) (s0 := []) (N := N) (by omega) (fun m0 k hk hw hg => ?_) (fun m0 => ?_) p 0 (by omega) (by omega)
 ·rw [L31_3_eq]
  simp only [i_int, xs_slc]
  rw [hw]
  have hlen : (iter (negS (D.fld c 2)) [] k).length = k := neg_len _ k
  refine cLt (fun _ => ⟨by omega, trivial, ?_, ?_⟩) fun c => by omega
  ·unfold room; rw [hlen]; simp only [List.length_singleton]; omega
  ·exact hg
 ·rw [L31_3_eq]
  simp only [i_int]
  exact cLt (fun c => by omega) fun _ => ⟨trivial, trivial, h⟩

theorem cloneR_wp (hn : 1 ≤ n) {l : List D} (hl : l.length ≤ 1000000) (h : Q [.slc l]) : wpF Tryz.prog A n 94 [.slc l] Q := by
 obtain ⟨m, rfl⟩ : ∃ m, n = m + 1 := ⟨n - 1, by omega⟩
 rw [E94]
 intro b hb
 refine cnd (fun c => ?_) fun c => ⟨?_, ?_⟩
 ·have h0 := hb c
  simp only [len_slc] at h0
  have : l = [] := List.length_eq_zero_iff.mp (by omega)
  subst this
  exact h
 ·unfold room
  simp only [xs_slc, List.length_nil]
  omega
 ·exact h

theorem rowsD_get {A : List (List D)} {k : Nat} (h : k < A.length) : List.getD (D.xs (rowsD A)) k D.und = .slc (A.getD k []) := by
 simp [rowsD, D.xs, List.getD, h]
theorem rowsD_set (A : List (List D)) (k : Nat) (x : List D) : D.slc (List.set (D.xs (rowsD A)) k (.slc x)) = rowsD (A.set k x) := by
 simp [rowsD, D.xs, List.map_set]
theorem rowsD_len (A : List (List D)) : D.len (rowsD A) = A.length := by simp [rowsD, D.len, D.xs]

theorem above_wp {m b : D} (hb : Bo b) (hv : bndB m b = true) (hn : 1100300 ≤ n) (h : Q [rowsD (abv b (D.len (cs b)).toNat)]) : wpF Tryz.prog A n 53 [b] Q := by
 obtain ⟨p, rfl⟩ : ∃ p, n = p + 1 := ⟨n - 1, by omega⟩
 rw [E53]
 have hN := bnd_len hv
 obtain ⟨N, hNe⟩ : ∃ N : Nat, D.len (cs b) = N := ⟨(D.len (cs b)).toNat, by omega⟩
 have hN' : (D.len (cs b)).toNat = N := by omega
 rw [hN'] at h
 show (0 ≤ D.len (cs b) ∧ D.len (cs b) ≤ D.len (cs b) ∧ room (D.len (cs b)) 24) ∧ L53_3 p p (cs b) (.int (D.len (cs b))) (.int 0) (.slc (List.replicate (Int.toNat (D.len (cs b))) (.slc []))) Q
 refine ⟨⟨by omega, by omega, by unfold room; omega⟩, ?_⟩
 have e0 : D.slc (List.replicate (Int.toNat (D.len (cs b))) (D.slc ([] : List D))) = rowsD (List.replicate (D.len (cs b)).toNat []) := by simp [rowsD]
 rw [e0, hNe, toNat_nat]
 unfold abv at h
 rw [hN'] at h
 refine fold_loop (L := fun m0 k s => L53_3 p m0 (cs b) (.int (N : Int)) k (rowsD s) Q) (step := aS b) (s0 := List.replicate N []) (N := N) (by omega) (fun m0 k hk hw hg => ?_) (fun m0 => ?_) p 0 (by omega) (by omega)
 ·rw [L53_3_eq]
  simp only [i_int]
  rw [hw]
  refine cLt (fun _ => ⟨by omega, trivial, leafQ_wp (by omega) ?_⟩) fun c => by omega
  have hs := abv_short b k k
  have hl := abv_len b k
  unfold abv at hs hl
  rw [hN'] at hs hl
  simp only [iter] at hg
  revert hg hs hl
  generalize iter (aS b) (List.replicate N []) k = A0
  intro hg hs hl
  unfold aS at hg
  rw [rs0, b_bool]
  refine cnd (fun c => by rw [show iEq (cL (cAs b k)) (-1) = true from c] at hg; exact hg) fun c => ?_
  rw [show iEq (cL (cAs b k)) (-1) = false from c, cond_false] at hg
  rcases bnd_case hv (show (k : Int) < D.len (cs b) by omega) with ⟨c2, _⟩ | ⟨_, c3, c4, c5⟩
  ·rw [show iEq (cL (cAs b k)) (-1) = false from c] at c2; cases c2
  ·have hgt := split_gt c3
   refine split_wp (hb.form k (by omega)) (by omega) ?_
   simp only [rs0, rsS, toNat_nat]
   rw [rowsD_len, hl, rowsD_get (by omega)]
   refine ⟨trivial, trivial, by omega, cloneR_wp (by omega) (by omega) ?_⟩
   simp only [rs0, xs_slc]
   refine ⟨by unfold room; simp only [List.length_singleton]; omega, by omega, cloneR_wp (by omega) (by omega) ?_⟩
   simp only [rs0, xs_slc]
   have g1 : D.i (D.fld (D.el (cs b) (k : Int)) 0) = cL (cAs b k) := rfl
   have g2 : D.i (D.fld (D.el (cs b) (k : Int)) 1) = cR (cAs b k) := rfl
   rw [g1, g2, rowsD_set, rowsD_len, List.length_set, hl]
   refine ⟨by unfold room; simp only [List.length_singleton]; omega, by omega, trivial, by omega, trivial, ?_⟩
   have e2 : ∀ (B : List (List D)) (i j : Nat) (x y : List D), D.slc (List.set (List.set (D.xs (rowsD B)) i (.slc x)) j (.slc y)) = rowsD ((B.set i x).set j y) := fun B i j x y => by
    simp [rowsD, D.xs, List.map_set]
   rw [e2]
   exact hg
 ·rw [L53_3_eq]
  simp only [i_int]
  exact cLt (fun c => by omega) fun _ => h
end
end Go.Ab

/- Leaves: what they prove, as plain sums. -/
namespace Go.Ab
open Go.Proofs
attribute [local irreducible] wpF

/-- A row that is right. -/
structure RowOk (cols : Int) (x : D) : Prop where
 terms : termsB (D.fld x 0) cols 1048576 = true
 lo : -1048576 ≤ D.i (D.fld x 1)
 hi : D.i (D.fld x 1) ≤ 1048576
 len : D.len (D.fld x 0) ≤ 1100000

def rowAt (m : D) (ab : List D) (k : Int) : D := cond (iLt k (D.len (D.fld m 1))) (D.el (D.fld m 1) k) (D.el (.slc ab) (k - D.len (D.fld m 1)))
def inRow (x : D) (c : Int) (s : List Int) (t : Nat) : List Int := s.set (tof (D.fld x 0) t).toNat (IntKind.wrap .i64 (s.getD (tof (D.fld x 0) t).toNat 0 + IntKind.wrap .i64 (c * tco (D.fld x 0) t)))
def rowS (x : D) (c : Int) (s : List Int) : List Int := iter (inRow x c) s (D.len (D.fld x 0)).toNat
def mulS (m : D) (ab : List D) (l : D) (S : List Int × Int) (k : Nat) : List Int × Int :=
 (rowS (rowAt m ab (tof l k)) (tco l k) S.1, IntKind.wrap .i64 (S.2 + IntKind.wrap .i64 (tco l k * D.i (D.fld (rowAt m ab (tof l k)) 1))))
def sumS34 (m : D) (ab : List D) (l : D) (k : Nat) : List Int × Int := iter (mulS m ab l) (List.replicate (D.i (D.fld m 0)).toNat 0, 0) k
def outB (m : D) (ab : List D) (l : D) : Bool := anyB (fun k => iLe (D.len (D.fld m 1) + ab.length) (tof l k)) (D.len l).toNat
def coefUp (l : D) (i : Int) (k : Nat) : Int := iter (fun c t => cond (iEq (tof l (t : Nat)) i) (tco l (t : Nat)) c) 0 k
def coefOf (l : D) (i : Int) : Int := coefUp l i (D.len l).toNat
def goalS (m : D) (den : Int) (s : List Int) (t : Nat) : List Int := s.set (tof (D.fld m 2) t).toNat (IntKind.wrap .i64 (s.getD (tof (D.fld m 2) t).toNat 0 - IntKind.wrap .i64 (den * tco (D.fld m 2) t)))
def flo (r den : Int) : Int := cond (iLt (Int.tmod r den) 0) (IntKind.wrap .i64 (IntKind.wrap .i64 (Int.tdiv r den) - 1)) (IntKind.wrap .i64 (Int.tdiv r den))
/-- Is a column short? -/
def shortB (m : D) (den : Int) (s : List Int) : Bool := anyB (fun i => iLt (s.getD i 0) (den * coefOf (D.fld m 2) i)) (D.i (D.fld m 0)).toNat
def leafV (m : D) (ab : List D) (c : D) : Int × (Bool × Bool) :=
 cond (outB m ab (D.fld c 4)) (0, false, false)
  (cond (shortB m (cDen c) (sumS34 m ab (D.fld c 4) (D.len (D.fld c 4)).toNat).1) (0, false, false)
   (cond (iLt 0 (cDen c)) (IntKind.wrap .i64 (D.i (D.fld m 3) + flo (sumS34 m ab (D.fld c 4) (D.len (D.fld c 4)).toNat).2 (cDen c)), true, false)
    (cond (iLt (sumS34 m ab (D.fld c 4) (D.len (D.fld c 4)).toNat).2 0) (0, true, true) (0, false, false))))

theorem badT_facts {l : D} {cols M : Int} {k : Nat} (h : badT l cols M k = false) : 0 ≤ tof l k ∧ tof l k < cols ∧ (0 < k → tof l ((k : Int) - 1) < tof l k) ∧ -M ≤ tco l k ∧ tco l k ≤ M ∧ tco l k ≠ 0 := by
 simp only [badT, wi34, Bool.or_eq_false_iff, iLt_not, iLe_not, iEq_not, Bool.and_eq_false_iff, Bool.not_eq_false', Bool.and_eq_true, iLe_iff] at h
 obtain ⟨h1, h2, h3, h4, h5⟩ := h
 exact ⟨by omega, by omega, fun hk => by omega, h5.1, h5.2, h4⟩
theorem terms_at {l : D} {cols M : Int} (h : termsB l cols M = true) {k : Nat} (hk : (k : Int) < D.len l) : badT l cols M k = false := by
 unfold termsB at h
 have hl := ln0 l
 exact anyB_all (by simpa using h) (by omega)
theorem terms_inc {l : D} {cols M : Int} (h : termsB l cols M = true) : ∀ {u t : Nat}, t < u → (u : Int) < D.len l → tof l t < tof l u := by
 intro u
 induction u with
 | zero => intro t h; omega
 | succ u ih =>
  intro t ht hu
  have h1 := (badT_facts (terms_at h hu)).2.2.1 (by omega)
  rw [show (((u + 1 : Nat) : Int) - 1) = (u : Int) by omega] at h1
  by_cases e : t = u
  ·subst e; exact h1
  ·have := ih (show t < u by omega) (by omega)
   omega
theorem badM_facts {l : D} {k : Nat} (h : badM l k = false) : 0 ≤ tof l k ∧ (0 < k → tof l ((k : Int) - 1) < tof l k) ∧ 1 ≤ tco l k ∧ tco l k ≤ 1073741824 := by
 simp only [badM, Bool.or_eq_false_iff, iLt_not, iLe_not, Bool.and_eq_false_iff] at h
 obtain ⟨h1, h2, h3, h4⟩ := h
 exact ⟨by omega, fun hk => by omega, by omega, by omega⟩
theorem mul_at {l : D} (h : mulB l = true) {k : Nat} (hk : (k : Int) < D.len l) : badM l k = false := by
 unfold mulB at h
 have hl := ln0 l
 exact anyB_all (by simpa using h) (by omega)
theorem mul_ge {l : D} (h : mulB l = true) : ∀ {k : Nat}, (k : Int) < D.len l → (k : Int) ≤ tof l k := by
 intro k
 induction k with
 | zero => intro hk; exact (badM_facts (mul_at h hk)).1
 | succ k ih =>
  intro hk
  have h1 := (badM_facts (mul_at h hk)).2.1 (by omega)
  rw [show (((k + 1 : Nat) : Int) - 1) = (k : Int) by omega] at h1
  have := ih (by omega)
  omega
theorem out_at {m : D} {ab : List D} {l : D} (h : outB m ab l = false) {k : Nat} (hk : (k : Int) < D.len l) : tof l k < D.len (D.fld m 1) + ab.length := by
 have hl := ln0 l
 have := anyB_all h (show k < (D.len l).toNat by omega)
 rw [iLe_not] at this
 omega

def Bd (s : List Int) (B : Int) : Prop := ∀ i : Nat, -B ≤ s.getD i 0 ∧ s.getD i 0 ≤ B
theorem mul_bd {a b : Int} (h1 : 1 ≤ a) (h2 : a ≤ 1073741824) (h3 : -1048576 ≤ b) (h4 : b ≤ 1048576) : -1125899906842624 ≤ a * b ∧ a * b ≤ 1125899906842624 := by
 have e1 : a * b ≤ a * 1048576 := Int.mul_le_mul_of_nonneg_left h4 (by omega)
 have e2 : a * (-1048576) ≤ a * b := Int.mul_le_mul_of_nonneg_left h3 (by omega)
 omega

theorem set_get {s : List Int} {i j : Nat} {x : Int} : (s.set i x).getD j 0 = if i = j ∧ i < s.length then x else s.getD j 0 := by
 by_cases h : i = j
 ·subst h
  by_cases hi : i < s.length
  ·rw [if_pos ⟨rfl, hi⟩]; simp [List.getD, hi]
  ·rw [if_neg (by omega), List.set_eq_of_length_le (by omega)]
 ·rw [if_neg (by omega)]
  simp [List.getD, List.getElem?_set, h]

theorem row_len (x : D) (c : Int) (s : List Int) : ∀ k, (iter (inRow x c) s k).length = s.length := by
 intro k
 induction k with
 | zero => rfl
 | succ k ih => simp only [iter, inRow, List.length_set]; exact ih

theorem row_bd {cols : Int} {x : D} (hx : RowOk cols x) {c : Int} (hc : 1 ≤ c) (hc2 : c ≤ 1073741824) {s : List Int} {B : Int} (hs : Bd s B) (hB : 0 ≤ B) (hB2 : B ≤ 4000000000000000000) : Bd (rowS x c s) (B + 1125899906842624) := by
 have hl0 := ln0 (D.fld x 0)
 have key : ∀ k : Nat, (k : Int) ≤ D.len (D.fld x 0) → (Bd (iter (inRow x c) s k) (B + 1125899906842624) ∧ ∀ j : Nat, k ≤ j → (j : Int) < D.len (D.fld x 0) → -B ≤ (iter (inRow x c) s k).getD (tof (D.fld x 0) j).toNat 0 ∧ (iter (inRow x c) s k).getD (tof (D.fld x 0) j).toNat 0 ≤ B) := by
  intro k
  induction k with
  | zero =>
   intro _
   exact ⟨fun i => by have := hs i; show _ ≤ s.getD i 0 ∧ s.getD i 0 ≤ _; exact ⟨by omega, by omega⟩, fun j _ _ => hs _⟩
  | succ k ih =>
   intro hk
   obtain ⟨i1, i2⟩ := ih (by omega)
   simp only [iter]
   generalize iter (inRow x c) s k = z at i1 i2
   have f := badT_facts (terms_at hx.terms (show (k : Int) < D.len (D.fld x 0) by omega))
   have hm := mul_bd hc hc2 f.2.2.2.1 f.2.2.2.2.1
   have ho := i2 k (Nat.le_refl _) (by omega)
   unfold inRow
   rw [wrap_id (show -9223372036854775808 ≤ c * tco (D.fld x 0) k by omega) (by omega), wrap_id (by omega) (by omega)]
   refine ⟨fun i => ?_, fun j hj hj2 => ?_⟩
   ·rw [set_get]
    split
    ·omega
    ·exact i1 i
   ·have hlt := terms_inc hx.terms (show k < j by omega) hj2
    rw [set_get, if_neg (by omega)]
    exact i2 j (by omega) hj2
 exact (key (D.len (D.fld x 0)).toNat (by omega)).1

theorem rowAt_ok {m : D} {ab : List D} {cols : Int} (hm : ∀ k : Nat, (k : Int) < D.len (D.fld m 1) → RowOk cols (D.el (D.fld m 1) k)) (ha : ∀ x ∈ ab, RowOk cols x) {k : Int} (h0 : 0 ≤ k) (h1 : k < D.len (D.fld m 1) + ab.length) : RowOk cols (rowAt m ab k) := by
 unfold rowAt
 cases hc : iLt k (D.len (D.fld m 1)) with
 | true =>
  rw [iLt_iff] at hc
  obtain ⟨j, rfl⟩ : ∃ j : Nat, k = j := ⟨k.toNat, by omega⟩
  exact hm j hc
 | false =>
  rw [iLt_not] at hc
  obtain ⟨j, hj⟩ : ∃ j : Nat, k - D.len (D.fld m 1) = j := ⟨(k - D.len (D.fld m 1)).toNat, by omega⟩
  rw [cond_false, hj]
  show RowOk cols (ab.getD j .und)
  exact ha _ (getD_mem (d := .und) (show j < ab.length by omega))

theorem sum_len (m : D) (ab : List D) (l : D) : ∀ k, (sumS34 m ab l k).1.length = (D.i (D.fld m 0)).toNat := by
 intro k
 induction k with
 | zero => simp [sumS34, iter]
 | succ k ih =>
  have e : sumS34 m ab l (k + 1) = mulS m ab l (sumS34 m ab l k) k := rfl
  rw [e]
  show (iter (inRow _ _) _ _).length = _
  rw [row_len]
  exact ih

theorem sum_bd {m : D} {ab : List D} {l : D} {cols : Int} (hm : ∀ k : Nat, (k : Int) < D.len (D.fld m 1) → RowOk cols (D.el (D.fld m 1) k)) (ha : ∀ x ∈ ab, RowOk cols x) (hl : mulB l = true) (ho : outB m ab l = false) (ht : D.len (D.fld m 1) + ab.length ≤ 400) :
  ∀ k : Nat, (k : Int) ≤ D.len l → Bd (sumS34 m ab l k).1 (k * 1125899906842624) := by
 intro k
 induction k with
 | zero =>
  intro _ i
  have : (sumS34 m ab l 0).1.getD i 0 = 0 := by
   simp only [sumS34, iter, List.getD, List.getElem?_replicate]
   split <;> rfl
  rw [this]
  simp
 | succ k ih =>
  intro hk
  have hk' : (k : Int) < D.len l := by omega
  have f := badM_facts (mul_at hl hk')
  have g := out_at ho hk'
  have hg := mul_ge hl hk'
  have e : sumS34 m ab l (k + 1) = mulS m ab l (sumS34 m ab l k) k := rfl
  rw [e]
  have hr := rowAt_ok hm ha f.1 g
  have := row_bd hr f.2.2.1 f.2.2.2 (ih (by omega)) (by omega) (by omega)
  intro i
  have h2 := this i
  have e2 : ((k + 1 : Nat) : Int) * 1125899906842624 = (k : Int) * 1125899906842624 + 1125899906842624 := by omega
  rw [e2]
  exact h2

theorem coef_none {l : D} {i : Int} : ∀ k : Nat, (∀ t : Nat, t < k → tof l t ≠ i) → coefUp l i k = 0 := by
 intro k
 induction k with
 | zero => intro _; rfl
 | succ k ih =>
  intro h
  have e : coefUp l i (k + 1) = cond (iEq (tof l (k : Nat)) i) (tco l (k : Nat)) (coefUp l i k) := rfl
  rw [e, iEq_not.mpr (h k (by omega)), cond_false]
  exact ih fun t ht => h t (by omega)
theorem coef_hit {l : D} {cols M : Int} (h : termsB l cols M = true) {t : Nat} : ∀ k : Nat, (k : Int) ≤ D.len l → t < k → coefUp l (tof l t) k = tco l t := by
 intro k
 induction k with
 | zero => intro _ ht; omega
 | succ k ih =>
  intro hk ht
  have e : coefUp l (tof l t) (k + 1) = cond (iEq (tof l (k : Nat)) (tof l t)) (tco l (k : Nat)) (coefUp l (tof l t) k) := rfl
  rw [e]
  by_cases htk : t = k
  ·subst htk
   rw [iEq_iff.mpr rfl]; rfl
  ·have := terms_inc h (show t < k by omega) (by omega)
   rw [iEq_not.mpr (by omega), cond_false]
   exact ih (by omega) (by omega)

theorem goal_len (m : D) (den : Int) (s : List Int) : ∀ k, (iter (goalS m den) s k).length = s.length := by
 intro k
 induction k with
 | zero => rfl
 | succ k ih => simp only [iter, goalS, List.length_set]; exact ih

/-- The goal is taken away. -/
theorem goal_get {m : D} {cols den : Int} (h : termsB (D.fld m 2) cols 16777216 = true) (hd : 0 ≤ den) (hd2 : den ≤ 1024) {s : List Int} (hs : (s.length : Int) = cols) (hb : Bd s 450359962737049600) :
  ∀ k : Nat, (k : Int) ≤ D.len (D.fld m 2) → ∀ i : Nat, (iter (goalS m den) s k).getD i 0 = s.getD i 0 - den * coefUp (D.fld m 2) i k ∧ -450359979916918784 ≤ (iter (goalS m den) s k).getD i 0 ∧ (iter (goalS m den) s k).getD i 0 ≤ 450359979916918784 := by
 intro k
 induction k with
 | zero =>
  intro _ i
  have := hb i
  refine ⟨?_, ?_, ?_⟩
  ·show s.getD i 0 = s.getD i 0 - den * 0
   omega
  ·show _ ≤ s.getD i 0
   omega
  ·show s.getD i 0 ≤ _
   omega
 | succ k ih =>
  intro hk i
  have ih := ih (by omega)
  have hl := goal_len m den s k
  simp only [iter]
  generalize iter (goalS m den) s k = z at ih hl
  have f := badT_facts (terms_at h (show (k : Int) < D.len (D.fld m 2) by omega))
  have p1 : den * tco (D.fld m 2) k ≤ den * 16777216 := Int.mul_le_mul_of_nonneg_left f.2.2.2.2.1 hd
  have p2 : den * (-16777216) ≤ den * tco (D.fld m 2) k := Int.mul_le_mul_of_nonneg_left f.2.2.2.1 hd
  have e : coefUp (D.fld m 2) i (k + 1) = cond (iEq (tof (D.fld m 2) (k : Nat)) i) (tco (D.fld m 2) (k : Nat)) (coefUp (D.fld m 2) i k) := rfl
  unfold goalS
  rw [e, set_get]
  have h0 := ih (tof (D.fld m 2) k).toNat
  have hz : coefUp (D.fld m 2) ((tof (D.fld m 2) k).toNat : Nat) k = 0 := coef_none k fun t ht => by
   have := terms_inc h ht (by omega)
   omega
  rw [hz, Int.mul_zero, Int.sub_zero] at h0
  have hb0 := hb (tof (D.fld m 2) k).toNat
  by_cases hi : (tof (D.fld m 2) k).toNat = i
  ·rw [if_pos ⟨hi, by omega⟩, iEq_iff.mpr (by omega), cond_true]
   rw [wrap_id (show -9223372036854775808 ≤ den * tco (D.fld m 2) k by omega) (by omega), wrap_id (by omega) (by omega), h0.1]
   subst hi
   exact ⟨rfl, by omega, by omega⟩
  ·rw [if_neg (by omega), iEq_not.mpr (by omega), cond_false]
   exact ih i

theorem modB_facts {m : D} (h : modB m = true) : (0 ≤ D.i (D.fld m 0) ∧ D.i (D.fld m 0) ≤ 300) ∧ D.len (D.fld m 1) ≤ 400 ∧ termsB (D.fld m 2) (D.i (D.fld m 0)) 16777216 = true ∧ (-16777216 ≤ D.i (D.fld m 3) ∧ D.i (D.fld m 3) ≤ 16777216) ∧ ∀ k : Nat, (k : Int) < D.len (D.fld m 1) → rowB (D.el (D.fld m 1) k) (D.i (D.fld m 0)) = true := by
 simp only [modB, wi34, Bool.and_eq_true, iLe_iff] at h
 obtain ⟨⟨h1, h2, h3⟩, h4, ⟨h5, h6⟩, h7⟩ := h
 refine ⟨⟨h1, h2⟩, h3, h4, ⟨h5, h6⟩, fun k hk => ?_⟩
 have hl := ln0 (D.fld m 1)
 have := anyB_all (p := fun k : Nat => !rowB (D.el (D.fld m 1) k) (D.i (D.fld m 0))) (by simpa using h7) (show k < (D.len (D.fld m 1)).toNat by omega)
 simpa using this
theorem row_ok {m : D} (hm : Mo m) (h : modB m = true) : ∀ k : Nat, (k : Int) < D.len (D.fld m 1) → RowOk (D.i (D.fld m 0)) (D.el (D.fld m 1) k) := by
 intro k hk
 have := (modB_facts h).2.2.2.2 k hk
 simp only [rowB, wi34, Bool.and_eq_true, iLe_iff] at this
 exact ⟨this.1, this.2.1, this.2.2, hm.row k hk⟩
end Go.Ab

/- Leaves: both answers are one. -/
namespace Go.Ab
open Go.Proofs
attribute [local irreducible] wpF

theorem lst_set34 (s : List Int) (j : Nat) (v : Int) : D.slc (List.set (D.xs (lst s)) j (.int v)) = lst (s.set j v) := by simp [lst, D.xs, List.map_set]
theorem lst_get34 {s : List Int} {j : Nat} (h : j < s.length) : D.i (List.getD (D.xs (lst s)) j D.und) = s.getD j 0 := by simp [lst, D.xs, List.getD, h, D.i]

/-- What a leaf is looked at with. -/
structure LC (m : D) (ab : List D) (c : D) : Prop where
 mo : Mo m
 mv : modB m = true
 abv : ∀ x ∈ ab, RowOk (D.i (D.fld m 0)) x
 tot : D.len (D.fld m 1) + ab.length ≤ 400
 mul : mulB (D.fld c 4) = true
 len : D.len (D.fld c 4) ≤ 1100000
 d0 : 0 ≤ cDen c
 d1 : cDen c ≤ 1024
 big : ∀ k : Nat, (k : Int) < D.len (D.fld c 4) → tof (D.fld c 4) k ≤ 9223372036854775807

section
variable {n : Nat} {Q : List D → Prop} {m c : D} {ab : List D}

theorem sums_wp (hC : LC m ab c) (hn : 1100200 ≤ n) (hbad : outB m ab (D.fld c 4) = true → Q [.slc [], .int 0, .bool false])
  (hgood : outB m ab (D.fld c 4) = false → Q [lst (sumS34 m ab (D.fld c 4) (D.len (D.fld c 4)).toNat).1, .int (sumS34 m ab (D.fld c 4) (D.len (D.fld c 4)).toNat).2, .bool true]) :
  wpF Tryz.prog A n 96 [m, .slc ab, D.fld c 4] Q := by
 obtain ⟨p, rfl⟩ : ∃ p, n = p + 1 := ⟨n - 1, by omega⟩
 rw [E96]
 have hM := modB_facts hC.mv
 have hmm : minmax true 0 (D.i (D.fld m 0)) = D.i (D.fld m 0) := by simp only [minmax, if_true]; split <;> omega
 rw [hmm]
 refine ⟨⟨by omega, by omega, by unfold room; omega⟩, ?_⟩
 have hl0 := ln0 (D.fld c 4)
 have hr0 := ln0 (D.fld m 1)
 have hr := row_ok hC.mo hC.mv
 obtain ⟨N, hN⟩ : ∃ N : Nat, D.len (D.fld c 4) = N := ⟨(D.len (D.fld c 4)).toNat, by omega⟩
 have hN' : (D.len (D.fld c 4)).toNat = N := by omega
 have hNl := hC.len
 rw [hN'] at hgood
 rw [hN]
 have e0 : D.slc (List.replicate (D.i (D.fld m 0)).toNat (D.int 0)) = lst (sumS34 m ab (D.fld c 4) 0).1 := by simp [sumS34, iter, lst]
 rw [e0]
 have tot := hC.tot
 -- the terms of one row
 have inner : ∀ (m0 k : Nat) (s : List Int) (r : Int) (x : D), s.length = (D.i (D.fld m 0)).toNat → RowOk (D.i (D.fld m 0)) x →
   L96_3 p m0 (.slc ab) (.int r) (D.fld c 4) (.int (N : Int)) (.int (IntKind.wrap .i64 ((k : Int) + 1))) m (lst (rowS x (tco (D.fld c 4) k) s)) Q →
   L96_13 p m0 p (.slc ab) (.int r) (D.fld c 4) (.int (N : Int)) (.int (k : Int)) (D.fld x 0) (.int (D.len (D.fld x 0))) (.int 0) m (D.el (D.fld c 4) (k : Int)) (lst s) Q := by
  intro m0 k s r x hs hx hnext
  have hx0 := ln0 (D.fld x 0)
  have hxl := hx.len
  obtain ⟨T, hT⟩ : ∃ T : Nat, D.len (D.fld x 0) = T := ⟨(D.len (D.fld x 0)).toNat, by omega⟩
  have hT' : (D.len (D.fld x 0)).toNat = T := by omega
  unfold rowS at hnext
  rw [hT'] at hnext
  rw [hT]
  refine fold_loop (L := fun m1 t z => L96_13 p m0 m1 (.slc ab) (.int r) (D.fld c 4) (.int (N : Int)) (.int (k : Int)) (D.fld x 0) (.int (T : Int)) t m (D.el (D.fld c 4) (k : Int)) (lst z) Q) (step := inRow x (tco (D.fld c 4) k)) (s0 := s) (N := T) (by omega) (fun m1 t ht hw hg => ?_) (fun m1 => ?_) p 0 (by omega) (by omega)
  ·rw [L96_13_eq]
   simp only [i_int]
   rw [hw]
   have f := badT_facts (terms_at hx.terms (show (t : Int) < D.len (D.fld x 0) by omega))
   have hzl := row_len x (tco (D.fld c 4) k) s t
   simp only [iter] at hg
   revert hg hzl
   generalize iter (inRow x (tco (D.fld c 4) k)) s t = z
   intro hg hzl
   unfold inRow tof tco at hg
   unfold tof tco at f
   refine cLt (fun _ => ⟨by omega, trivial, cLt (fun c => by omega) fun _ => ?_⟩) fun c => by omega
   rw [len_lst]
   refine cLe (fun c => by omega) fun _ => ⟨by omega, by omega, trivial, ?_⟩
   rw [lst_get34 (by omega), lst_set34]
   exact hg
  ·rw [L96_13_eq]
   simp only [i_int]
   exact cLt (fun c => by omega) fun _ => hnext
 have key : ∀ (m0 k : Nat), k ≤ N → N - k < m0 → (∀ t, t < k → iLe (D.len (D.fld m 1) + ab.length) (tof (D.fld c 4) (t : Nat)) = false) → L96_3 p m0 (.slc ab) (.int (sumS34 m ab (D.fld c 4) k).2) (D.fld c 4) (.int (N : Int)) (.int (k : Int)) m (lst (sumS34 m ab (D.fld c 4) k).1) Q := by
  intro m0
  induction m0 with
  | zero => intro k _ h; omega
  | succ m0 ih =>
   intro k h1 h2 h3
   rw [L96_3_eq]
   simp only [i_int]
   refine cLt (fun hk => ⟨by omega, trivial, ?_⟩) fun hk => ?_
   ·have f := badM_facts (mul_at hC.mul (show (k : Int) < D.len (D.fld c 4) by omega))
    have hof : D.i (D.fld (D.el (D.fld c 4) (k : Int)) 0) = tof (D.fld c 4) k := rfl
    rw [hof]
    refine cLe (fun _ => ?_) fun c => by omega
    have hlen := sum_len m ab (D.fld c 4) k
    have bad : D.len (D.fld m 1) + ab.length ≤ tof (D.fld c 4) k → Q [.slc [], .int 0, .bool false] := fun hb => hbad (anyB_true (i := k) (by omega) (iLe_iff.mpr hb))
    have good : tof (D.fld c 4) k < D.len (D.fld m 1) + ab.length → RowOk (D.i (D.fld m 0)) (rowAt m ab (tof (D.fld c 4) k)) ∧
      L96_3 p m0 (.slc ab) (.int (IntKind.wrap .i64 ((sumS34 m ab (D.fld c 4) k).2 + IntKind.wrap .i64 (tco (D.fld c 4) k * D.i (D.fld (rowAt m ab (tof (D.fld c 4) k)) 1))))) (D.fld c 4) (.int (N : Int)) (.int (IntKind.wrap .i64 ((k : Int) + 1))) m (lst (rowS (rowAt m ab (tof (D.fld c 4) k)) (tco (D.fld c 4) k) (sumS34 m ab (D.fld c 4) k).1)) Q := fun hb => by
     refine ⟨rowAt_ok hr hC.abv f.1 hb, ?_⟩
     rw [wrap_id (show -9223372036854775808 ≤ (k : Int) + 1 by omega) (by omega)]
     refine ih (k + 1) (by omega) (by omega) fun t ht => ?_
     by_cases e : t = k
     ·subst e; exact iLe_not.mpr (by omega)
     ·exact h3 t (by omega)
    refine cLt (fun hlt => ?_) fun hlt => ?_
    ·obtain ⟨g1, g2⟩ := good (by omega)
     have er : rowAt m ab (tof (D.fld c 4) k) = D.el (D.fld m 1) (tof (D.fld c 4) k) := by unfold rowAt; rw [iLt_iff.mpr hlt]; rfl
     rw [er] at g1 g2
     exact ⟨by omega, trivial, inner m0 k _ _ _ hlen g1 g2⟩
    ·refine cLe (fun _ => ?_) fun c => by omega
     have el : D.len (.slc ab) = ab.length := rfl
     rw [el]
     by_cases hin : tof (D.fld c 4) k < D.len (D.fld m 1) + ab.length
     ·rw [wrap_id (by omega) (by omega)]
      refine cLt (fun _ => ⟨by omega, trivial, ?_⟩) fun c => by omega
      obtain ⟨g1, g2⟩ := good hin
      have er : rowAt m ab (tof (D.fld c 4) k) = D.el (.slc ab) (tof (D.fld c 4) k - D.len (D.fld m 1)) := by unfold rowAt; rw [iLt_not.mpr hlt]; rfl
      rw [er] at g1 g2
      exact inner m0 k _ _ _ hlen g1 g2
     ·have hb := bad (by omega)
      have hbig := hC.big k (by omega)
      rw [wrap_id (by omega) (by omega)]
      exact cLt (fun c => by omega) fun _ => hb
   ·have e : k = N := by omega
    subst e
    exact hgood (anyB_false fun i hi => h3 i (by omega))
 exact key p 0 (by omega) (by omega) fun t ht => by omega
end
end Go.Ab

/- Leaves: both answers are one. -/
namespace Go.Ab
open Go.Proofs
attribute [local irreducible] wpF

theorem Bd.mono {s : List Int} {a b : Int} (h : Bd s a) (hab : a ≤ b) : Bd s b := fun i => by have := h i; exact ⟨by omega, by omega⟩

theorem mul_len {m : D} {ab : List D} {l : D} (h : mulB l = true) (ho : outB m ab l = false) (ht : D.len (D.fld m 1) + ab.length ≤ 400) : D.len l ≤ 400 := by
 have hl := ln0 l
 by_cases h0 : D.len l = 0
 ·omega
 ·obtain ⟨k, hk⟩ : ∃ k : Nat, D.len l = k + 1 := ⟨((D.len l) - 1).toNat, by omega⟩
  have h1 := mul_ge h (show (k : Int) < D.len l by omega)
  have h2 := out_at ho (show (k : Int) < D.len l by omega)
  omega

theorem sums_bd {m c : D} {ab : List D} (hC : LC m ab c) (ho : outB m ab (D.fld c 4) = false) : Bd (sumS34 m ab (D.fld c 4) (D.len (D.fld c 4)).toNat).1 450359962737049600 := by
 have hl := ln0 (D.fld c 4)
 have h4 := mul_len hC.mul ho hC.tot
 refine (sum_bd (row_ok hC.mo hC.mv) hC.abv hC.mul ho hC.tot (D.len (D.fld c 4)).toNat (by omega)).mono ?_
 omega

section
variable {n : Nat} {Q : List D → Prop} {m c : D} {ab : List D}

theorem coef_wp {l : D} {i : Int} {cols M : Int} (hl : termsB l cols M = true) (hn : 1100100 ≤ n) (hlen : D.len l ≤ 1100000) (h : ∀ v, D.i v = coefOf l i → Q [v]) : wpF Tryz.prog A n 62 [l, .int i] Q := by
 obtain ⟨p, rfl⟩ : ∃ p, n = p + 1 := ⟨n - 1, by omega⟩
 rw [E62]
 have hl0 := ln0 l
 obtain ⟨N, hN⟩ : ∃ N : Nat, D.len l = N := ⟨(D.len l).toNat, by omega⟩
 have hN' : (D.len l).toNat = N := by omega
 rw [hN]
 have key : ∀ (m0 k : Nat), k ≤ N → N - k < m0 → (∀ t, t < k → tof l (t : Nat) ≠ i) → L62_2 p m0 (.int i) l (.int (N : Int)) (.int (k : Int)) Q := by
  intro m0
  induction m0 with
  | zero => intro k _ h; omega
  | succ m0 ih =>
   intro k h1 h2 h3
   rw [L62_2_eq]
   simp only [i_int]
   refine cLt (fun hk => ⟨by omega, trivial, ?_⟩) fun hk => ?_
   ·refine cEq (fun he => ?_) fun he => ?_
    ·have he : tof l (k : Nat) = i := he
     refine h _ ?_
     show tco l k = _
     unfold coefOf
     rw [hN', ← he]
     exact (coef_hit hl N (by omega) (by omega)).symm
    ·rw [wrap_id (show -9223372036854775808 ≤ (k : Int) + 1 by omega) (by omega)]
     exact ih (k + 1) (by omega) (by omega) fun t ht => by
      by_cases e : t = k
      ·subst e; exact he
      ·exact h3 t (by omega)
   ·refine h _ ?_
    unfold coefOf
    rw [hN', coef_none N fun t ht => h3 t (by omega)]
    rfl
 exact key p 0 (by omega) (by omega) fun t ht => by omega

/-- The program's leaf. -/
theorem leafv_wp (hC : LC m ab c) (hn : 1100300 ≤ n) (h : Q [.int (leafV m ab c).1, .bool (leafV m ab c).2.1, .bool (leafV m ab c).2.2]) : wpF Tryz.prog A n 57 [m, .slc ab, c] Q := by
 obtain ⟨p, rfl⟩ : ∃ p, n = p + 1 := ⟨n - 1, by omega⟩
 rw [E57]
 refine sums_wp hC (by omega) (fun ho => ?_) fun ho => ?_
 ·rw [show rs [D.slc [], D.int 0, D.bool false] 2 = D.bool false from rfl, b_bool]
  unfold leafV at h
  rw [ho] at h
  exact h
 have hM := modB_facts hC.mv
 have hlen := sum_len m ab (D.fld c 4) (D.len (D.fld c 4)).toNat
 have hbd := sums_bd hC ho
 unfold leafV at h
 rw [ho, cond_false] at h
 revert h hlen hbd
 generalize sumS34 m ab (D.fld c 4) (D.len (D.fld c 4)).toNat = S
 obtain ⟨s, r⟩ := S
 intro h hlen hbd
 simp only at h hlen hbd ⊢
 rw [show rs [lst s, D.int r, D.bool true] 2 = D.bool true from rfl, b_bool, show rs [lst s, D.int r, D.bool true] 1 = D.int r from rfl, show rs [lst s, D.int r, D.bool true] 0 = lst s from rfl]
 show wpF Tryz.prog A p 77 [(D.fld m 2), (D.fld m 0), (D.int (16777216 : Int))] _
 refine terms_wp hC.mo.goal (by omega) (by omega) ?_
 rw [rs0, b_bool, hM.2.2.1]
 have d0 := hC.d0
 have d1 := hC.d1
 refine cLt (fun hc => by have : cDen c < 0 := hc; omega) fun _ => ?_
 have hg0 := ln0 (D.fld m 2)
 have hg := hC.mo.goal
 obtain ⟨N, hN⟩ : ∃ N : Nat, D.len (D.fld m 2) = N := ⟨(D.len (D.fld m 2)).toNat, by omega⟩
 have gg := goal_get hM.2.2.1 d0 d1 (s := s) (by omega) hbd
 rw [hN]
 refine fold_loop (L := fun m1 t z => L57_5 p m1 (.int r) (D.fld m 2) (.int (N : Int)) t m c (lst z) Q) (step := goalS m (cDen c)) (s0 := s) (N := N) (by omega) (fun m1 t ht hw hg => ?_) (fun m1 => ?_) p 0 (by omega) (by omega)
 ·rw [L57_5_eq]
  simp only [i_int]
  rw [hw]
  have f := badT_facts (terms_at hM.2.2.1 (show (t : Int) < D.len (D.fld m 2) by omega))
  have hzl := goal_len m (cDen c) s t
  simp only [iter] at hg
  revert hg hzl
  generalize iter (goalS m (cDen c)) s t = z
  intro hg hzl
  unfold goalS tof tco cDen at hg
  unfold tof tco at f
  refine cLt (fun _ => ⟨by omega, trivial, ?_⟩) fun c => by omega
  rw [len_lst]
  refine ⟨by omega, by omega, trivial, ?_⟩
  rw [lst_get34 (by omega), lst_set34]
  exact hg
 ·rw [L57_5_eq]
  simp only [i_int]
  refine cLt (fun c => by omega) fun _ => ?_
  have gN := gg N (by omega)
  have hzl := goal_len m (cDen c) s N
  revert gN hzl
  generalize iter (goalS m (cDen c)) s N = z
  intro gN hzl
  have hzl' : z.length = (D.i (D.fld m 0)).toNat := by omega
  have esh : anyB (fun i => iLt (z.getD i 0) 0) z.length = shortB m (cDen c) s := by
   unfold shortB
   rw [hzl']
   refine anyB_congr fun i hi => ?_
   have e : coefOf (D.fld m 2) i = coefUp (D.fld m 2) i N := by unfold coefOf; rw [hN, toNat_nat]
   have g := (gN i).1
   rw [← e] at g
   cases h1 : iLt (s.getD i 0) (cDen c * coefOf (D.fld m 2) i) with
   | true => rw [iLt_iff] at h1 ⊢; omega
   | false => rw [iLt_not] at h1 ⊢; omega
  obtain ⟨q, rfl⟩ : ∃ q, p = q + 3 := ⟨p - 3, by omega⟩
  have hz3 : z.length ≤ 300 := by omega
  have e126 : ∀ Q, wpF Tryz.prog A (q + 3) 38 [lst z, .fn 97 []] Q = wpF Tryz.prog A (q + 2) 72 [lst z, .fn 97 []] fun r1 => Q [(D.bool (iLe (0 : Int) (D.i (rs r1 0))))] := fun Q => E38 _ _ _ _
  rw [e126, E72]
  refine found_loop (m := q + 1) (Q := fun r1 => cond (D.b (rs r1 0)) (Q [.int 0, .bool false, .bool false]) (cond (iLt 0 (D.i (D.fld c 5))) (wpF Tryz.prog A (q + 3) 98 [.int r, D.fld c 5] fun r4 => Q [.int (IntKind.wrap .i64 (D.i (D.fld m 3) + D.i (rs r4 0))), .bool true, .bool false]) (cond (iLt r 0) (Q [.int 0, .bool true, .bool true]) (Q [.int 0, .bool false, .bool false])))) (x1 := .fn 97 []) (N := z.length) (p := fun i => iLt (z.getD i 0) 0) (L := L72_2 (q + 1)) (call := fun x1 e Q => dynH A (wpF Tryz.prog A (q + 1)) x1 [.imm 3] [.val 4 .imm] [e] Q) (fun m0 x0 x1 x7 x8 Q => L72_2_eq (q + 1) m0 x0 x1 x7 x8 Q) (len_lst z) (by omega)
   (fun i hi Q hQ => ⟨⟨rfl, rfl, rfl, rfl⟩, ?_⟩) (by omega) ?_
  ·show wpF Tryz.prog A (q + 1) 97 [D.el (lst z) (i : Int)] Q
   rw [E97]
   have e : D.el (lst z) (i : Int) = .int (z.getD i 0) := el_lst _ _ hi
   rw [e, i_int]
   exact hQ
  ·rw [rs0, b_bool, esh]
   refine cnd (fun c0 => by rw [c0] at h; exact h) fun c0 => ?_
   rw [c0, cond_false] at h
   refine cLt (fun c1 => ?_) fun c1 => ?_
   ·have c1 : 0 < cDen c := c1
    rw [iLt_iff.mpr c1, cond_true] at h
    have e128 : ∀ Q, wpF Tryz.prog A (q + 3) 98 [.int r, D.fld c 5] Q = _ := fun Q => E98 _ _ _ _
    rw [e128]
    have ne : cDen c ≠ 0 := by omega
    refine ⟨ne, ne, ?_⟩
    unfold flo at h
    refine cnd (fun c2 => ?_) fun c2 => ?_
    ·have c2 : iLt (Int.tmod r (cDen c)) 0 = true := c2
     rw [c2, cond_true] at h
     exact h
    ·have c2 : iLt (Int.tmod r (cDen c)) 0 = false := c2
     rw [c2, cond_false] at h
     exact h
   ·have c1 : ¬ 0 < cDen c := c1
    rw [iLt_not.mpr c1, cond_false] at h
    exact cLt (fun c2 => by rw [iLt_iff.mpr c2] at h; exact h) fun c2 => by rw [iLt_not.mpr c2] at h; exact h

theorem outB_true {m : D} {ab : List D} {l : D} {k : Nat} (hk : (k : Int) < D.len l) (h : D.len (D.fld m 1) + ab.length ≤ tof l k) : outB m ab l = true := by
 have hl := ln0 l
 exact anyB_true (i := k) (by omega) (iLe_iff.mpr h)

/-- The document's leaf. -/
theorem leafv'_wp (hC : LC m ab c) (hn : 1100300 ≤ n) (h : Q [.int (leafV m ab c).1, .bool (leafV m ab c).2.1, .bool (leafV m ab c).2.2]) : wpF Tryz.prog A n 32 [m, .slc ab, c] Q := by
 obtain ⟨p, rfl⟩ : ∃ p, n = p + 1 := ⟨n - 1, by omega⟩
 rw [E32]
 have hM := modB_facts hC.mv
 refine ⟨⟨by omega, by omega, by unfold room; omega⟩, ?_⟩
 have hl0 := ln0 (D.fld c 4)
 have hr0 := ln0 (D.fld m 1)
 have hr := row_ok hC.mo hC.mv
 obtain ⟨N, hN⟩ : ∃ N : Nat, D.len (D.fld c 4) = N := ⟨(D.len (D.fld c 4)).toNat, by omega⟩
 have hN' : (D.len (D.fld c 4)).toNat = N := by omega
 have hNl := hC.len
 have hbad : outB m ab (D.fld c 4) = true → Q [.int 0, .bool false, .bool false] := fun ho => by unfold leafV at h; rw [ho] at h; exact h
 rw [hN]
 have e0 : D.slc (List.replicate (D.i (D.fld m 0)).toNat (D.int 0)) = lst (sumS34 m ab (D.fld c 4) 0).1 := by simp [sumS34, iter, lst]
 rw [e0]
 have tot := hC.tot
 have el : D.len (.slc ab) = ab.length := rfl
 -- the terms of one row
 have inner : ∀ (m0 k : Nat) (s : List Int) (r : Int) (x : D), s.length = (D.i (D.fld m 0)).toNat → RowOk (D.i (D.fld m 0)) x →
   L32_4 p m0 (.slc ab) (.int (IntKind.wrap .i64 (r + IntKind.wrap .i64 (tco (D.fld c 4) k * D.i (D.fld x 1))))) (D.fld c 4) (.int (N : Int)) (.int (IntKind.wrap .i64 ((k : Int) + 1))) m c (lst (rowS x (tco (D.fld c 4) k) s)) Q →
   L32_13 p m0 p (.slc ab) (.int r) (D.fld c 4) (.int (N : Int)) (.int (k : Int)) (D.fld x 0) (.int (D.len (D.fld x 0))) (.int 0) m c (D.el (D.fld c 4) (k : Int)) x (lst s) Q := by
  intro m0 k s r x hs hx hnext
  have hx0 := ln0 (D.fld x 0)
  have hxl := hx.len
  obtain ⟨T, hT⟩ : ∃ T : Nat, D.len (D.fld x 0) = T := ⟨(D.len (D.fld x 0)).toNat, by omega⟩
  have hT' : (D.len (D.fld x 0)).toNat = T := by omega
  unfold rowS at hnext
  rw [hT'] at hnext
  rw [hT]
  refine fold_loop (L := fun m1 t z => L32_13 p m0 m1 (.slc ab) (.int r) (D.fld c 4) (.int (N : Int)) (.int (k : Int)) (D.fld x 0) (.int (T : Int)) t m c (D.el (D.fld c 4) (k : Int)) x (lst z) Q) (step := inRow x (tco (D.fld c 4) k)) (s0 := s) (N := T) (by omega) (fun m1 t ht hw hg => ?_) (fun m1 => ?_) p 0 (by omega) (by omega)
  ·rw [L32_13_eq]
   simp only [i_int]
   rw [hw]
   have f := badT_facts (terms_at hx.terms (show (t : Int) < D.len (D.fld x 0) by omega))
   have hzl := row_len x (tco (D.fld c 4) k) s t
   simp only [iter] at hg
   revert hg hzl
   generalize iter (inRow x (tco (D.fld c 4) k)) s t = z
   intro hg hzl
   unfold inRow tof tco at hg
   unfold tof tco at f
   refine cLt (fun _ => ⟨by omega, trivial, ?_⟩) fun c => by omega
   rw [len_lst]
   refine ⟨by omega, by omega, trivial, ?_⟩
   rw [lst_get34 (by omega), lst_set34]
   exact hg
  ·rw [L32_13_eq]
   simp only [i_int]
   exact cLt (fun c => by omega) fun _ => hnext
 -- the columns
 have cols : outB m ab (D.fld c 4) = false → L32_20 p p (.int (sumS34 m ab (D.fld c 4) N).2) (.int (D.len (lst (sumS34 m ab (D.fld c 4) N).1))) (.int 0) m c (lst (sumS34 m ab (D.fld c 4) N).1) Q := by
  intro ho
  have hlen := sum_len m ab (D.fld c 4) (D.len (D.fld c 4)).toNat
  have d0 := hC.d0
  have d1 := hC.d1
  unfold leafV at h
  rw [ho, cond_false] at h
  rw [hN'] at h hlen
  revert h hlen
  generalize sumS34 m ab (D.fld c 4) N = S
  obtain ⟨s, r⟩ := S
  intro h hlen
  simp only at h hlen ⊢
  have hg := hC.mo.goal
  have hg0 := ln0 (D.fld m 2)
  unfold shortB at h
  rw [← hlen] at h
  rw [len_lst]
  refine all_loop (L := fun m0 k => L32_20 p m0 (.int r) (.int (s.length : Int)) k m c (lst s) Q) (bad := fun i => iLt (s.getD i 0) (cDen c * coefOf (D.fld m 2) i)) (N := s.length) (F := Q [.int 0, .bool false, .bool false]) (by omega) (fun m0 k hk hw hb hg => ?_) (fun hb => by rw [hb] at h; exact h) (fun hg m0 => ?_) p 0 (by omega) (by omega) (by omega)
  ·rw [L32_20_eq]
   simp only [i_int]
   rw [hw, len_lst]
   refine cLt (fun _ => ⟨by omega, ?_⟩) fun c => by omega
   refine coef_wp hM.2.2.1 (by omega) (by omega) fun v hv => ?_
   rw [rs0, hv, lst_get34 (by omega), toNat_nat]
   have cb : -16777216 ≤ coefOf (D.fld m 2) k ∧ coefOf (D.fld m 2) k ≤ 16777216 := by
    by_cases hex : ∃ t : Nat, t < (D.len (D.fld m 2)).toNat ∧ tof (D.fld m 2) t = k
    ·obtain ⟨t, ht, he⟩ := hex
     unfold coefOf
     rw [← he, coef_hit hM.2.2.1 _ (by omega) ht]
     have f := badT_facts (terms_at hM.2.2.1 (show (t : Int) < D.len (D.fld m 2) by omega))
     omega
    ·unfold coefOf
     rw [coef_none _ fun t ht he => hex ⟨t, ht, he⟩]
     omega
   have p1 : cDen c * coefOf (D.fld m 2) k ≤ cDen c * 16777216 := Int.mul_le_mul_of_nonneg_left cb.2 d0
   have p2 : cDen c * (-16777216) ≤ cDen c * coefOf (D.fld m 2) k := Int.mul_le_mul_of_nonneg_left cb.1 d0
   have ew : IntKind.wrap .i64 (D.i (D.fld c 5) * coefOf (D.fld m 2) k) = cDen c * coefOf (D.fld m 2) k := wrap_id (by show _ ≤ cDen c * _; omega) (by show cDen c * _ ≤ _; omega)
   rw [ew]
   exact cnd (fun c => hb c) fun c => hg c
  ·rw [L32_20_eq]
   simp only [i_int]
   refine cLt (fun c => by omega) fun _ => ?_
   rw [hg, cond_false] at h
   refine cEq (fun c1 => ?_) fun c1 => ?_
   ·have c1 : cDen c = 0 := c1
    rw [iLt_not.mpr (by omega), cond_false] at h
    revert h
    cases iLt r 0 <;> exact id
   ·have c1 : cDen c ≠ 0 := c1
    rw [iLt_iff.mpr (by omega), cond_true] at h
    refine ⟨c1, c1, ?_⟩
    unfold flo at h
    refine cnd (fun c2 => ?_) fun c2 => ?_
    ·have c2 : iLt (Int.tmod r (cDen c)) 0 = true := c2
     rw [c2, cond_true] at h
     exact h
    ·have c2 : iLt (Int.tmod r (cDen c)) 0 = false := c2
     rw [c2, cond_false] at h
     exact h
 have key : ∀ (m0 k : Nat), k ≤ N → N - k < m0 → (∀ t, t < k → iLe (D.len (D.fld m 1) + ab.length) (tof (D.fld c 4) (t : Nat)) = false) → L32_4 p m0 (.slc ab) (.int (sumS34 m ab (D.fld c 4) k).2) (D.fld c 4) (.int (N : Int)) (.int (k : Int)) m c (lst (sumS34 m ab (D.fld c 4) k).1) Q := by
  intro m0
  induction m0 with
  | zero => intro k _ h; omega
  | succ m0 ih =>
   intro k h1 h2 h3
   rw [L32_4_eq]
   simp only [i_int]
   refine cLt (fun hk => ⟨by omega, trivial, ?_⟩) fun hk => ?_
   ·have f := badM_facts (mul_at hC.mul (show (k : Int) < D.len (D.fld c 4) by omega))
    have hof : D.i (D.fld (D.el (D.fld c 4) (k : Int)) 0) = tof (D.fld c 4) k := rfl
    rw [hof]
    refine cLt (fun _ => by omega) fun _ => ?_
    have hlen := sum_len m ab (D.fld c 4) k
    rw [el, wrap_id (show -9223372036854775808 ≤ D.len (D.fld m 1) + (ab.length : Int) by omega) (by omega)]
    refine cLe (fun hb => hbad (outB_true (by omega) hb)) fun hb => ?_
    have g1 : RowOk (D.i (D.fld m 0)) (rowAt m ab (tof (D.fld c 4) k)) := rowAt_ok hr hC.abv f.1 (by omega)
    have g2 : L32_4 p m0 (.slc ab) (.int (IntKind.wrap .i64 ((sumS34 m ab (D.fld c 4) k).2 + IntKind.wrap .i64 (tco (D.fld c 4) k * D.i (D.fld (rowAt m ab (tof (D.fld c 4) k)) 1))))) (D.fld c 4) (.int (N : Int)) (.int (IntKind.wrap .i64 ((k : Int) + 1))) m c (lst (rowS (rowAt m ab (tof (D.fld c 4) k)) (tco (D.fld c 4) k) (sumS34 m ab (D.fld c 4) k).1)) Q := by
     rw [wrap_id (show -9223372036854775808 ≤ (k : Int) + 1 by omega) (by omega)]
     refine ih (k + 1) (by omega) (by omega) fun t ht => ?_
     by_cases e : t = k
     ·subst e; exact iLe_not.mpr (by omega)
     ·exact h3 t (by omega)
    refine cLt (fun hlt => ?_) fun hlt => ?_
    ·have er : rowAt m ab (tof (D.fld c 4) k) = D.el (D.fld m 1) (tof (D.fld c 4) k) := by unfold rowAt; rw [iLt_iff.mpr hlt]; rfl
     rw [er] at g1 g2
     exact ⟨by omega, trivial, inner m0 k _ _ _ hlen g1 g2⟩
    ·have er : rowAt m ab (tof (D.fld c 4) k) = D.el (.slc ab) (tof (D.fld c 4) k - D.len (D.fld m 1)) := by unfold rowAt; rw [iLt_not.mpr hlt]; rfl
     rw [er] at g1 g2
     rw [wrap_id (by omega) (by omega)]
     exact ⟨by omega, trivial, inner m0 k _ _ _ hlen g1 g2⟩
   ·have e : k = N := by omega
    subst e
    exact cols (by
     unfold outB
     rw [hN']
     exact anyB_false fun i hi => h3 i (by omega))
 exact key p 0 (by omega) (by omega) fun t ht => by omega
end
end Go.Ab

/- Bounds: which are accepted: both answers are one. -/
namespace Go.Ab
open Go.Proofs
attribute [local irreducible] wpF

theorem badT_of {l : D} {cols M : Int} {k : Nat} (h1 : 0 ≤ tof l k) (h2 : tof l k < cols) (h3 : 0 < k → tof l ((k : Int) - 1) < tof l k) (h4 : -M ≤ tco l k) (h5 : tco l k ≤ M) (h6 : tco l k ≠ 0) : badT l cols M k = false := by
 simp only [badT, wi34, Bool.or_eq_false_iff, iLt_not, iLe_not, iEq_not, Bool.and_eq_false_iff, Bool.not_eq_false', Bool.and_eq_true, iLe_iff]
 refine ⟨by omega, by omega, ?_, h6, h4, h5⟩
 by_cases hk : 0 < k
 ·right; have := h3 hk; omega
 ·left; omega
theorem terms_of {l : D} {cols M : Int} (h : ∀ k : Nat, (k : Int) < D.len l → badT l cols M k = false) : termsB l cols M = true := by
 unfold termsB
 have hl := ln0 l
 rw [anyB_false fun i hi => h i (by omega)]
 rfl

theorem neg_el {l : D} {N k : Nat} (hk : k < N) : D.el (.slc (negL l N)) (k : Int) = negE l k := neg_get l N k hk
theorem neg_of {l : D} {N k : Nat} (hk : k < N) : tof (.slc (negL l N)) k = tof l k := by
 unfold tof; rw [neg_el hk]; rfl
theorem neg_co {l : D} {N k : Nat} (hk : k < N) : tco (.slc (negL l N)) k = IntKind.wrap .i64 (0 - tco l k) := by
 unfold tco; rw [neg_el hk]; rfl
theorem neg_terms {l : D} {cols M : Int} (hM : M ≤ 4000000000) (h : termsB l cols M = true) : termsB (.slc (negL l (D.len l).toNat)) cols M = true := by
 have hl := ln0 l
 refine terms_of fun k hk => ?_
 have e : D.len (.slc (negL l (D.len l).toNat)) = D.len l := by
  rw [len_slc, neg_len]; omega
 rw [e] at hk
 have f := badT_facts (terms_at h hk)
 have ec : tco (.slc (negL l (D.len l).toNat)) k = - tco l k := by
  rw [neg_co (by omega), wrap_id (by omega) (by omega)]; omega
 refine badT_of ?_ ?_ (fun h0 => ?_) ?_ ?_ ?_
 ·rw [neg_of (by omega)]; exact f.1
 ·rw [neg_of (by omega)]; exact f.2.1
 ·rw [neg_of (by omega), show ((k : Int) - 1) = ((k - 1 : Nat) : Int) by omega, neg_of (by omega), show ((k - 1 : Nat) : Int) = ((k : Int) - 1) by omega]
  exact f.2.2.1 h0
 ·rw [ec]; omega
 ·rw [ec]; omega
 ·rw [ec]; omega

theorem form_facts {m l : D} {a : Int} (h : formB m l a = true) : termsB l (D.i (D.fld m 0)) 1048576 = true ∧ -1048576 ≤ a ∧ a < 1048576 := by
 simp only [formB, Bool.and_eq_true, iLe_iff, iLt_iff] at h
 exact h
theorem split_facts {m c : D} {i : Int} (h : splitB m c i = true) : formB m (D.fld c 2) (cAt c) = true ∧ D.len (D.fld c 4) = 0 ∧ cDen c = 0 ∧ i < cL c ∧ i < cR c := by
 simp only [splitB, Bool.and_eq_true, iLt_iff, iEq_iff] at h
 exact h
theorem leaf_facts {c : D} (h : leafB c = true) : cR c = -1 ∧ D.len (D.fld c 2) = 0 ∧ cAt c = 0 ∧ 0 ≤ cDen c ∧ cDen c ≤ 1024 ∧ mulB (D.fld c 4) = true := by
 simp only [leafB, Bool.and_eq_true, iEq_iff, iLe_iff] at h
 exact h

theorem sideL_ok {m c : D} (h : formB m (D.fld c 2) (cAt c) = true) (hl : D.len (D.fld c 2) ≤ 1100000) : RowOk (D.i (D.fld m 0)) (sideL c) := by
 obtain ⟨h1, h2, h3⟩ := form_facts h
 refine ⟨h1, ?_, ?_, hl⟩
 ·show -1048576 ≤ cAt c
  omega
 ·show cAt c ≤ 1048576
  omega
theorem sideR_ok {m c : D} (h : formB m (D.fld c 2) (cAt c) = true) (hl : D.len (D.fld c 2) ≤ 1100000) : RowOk (D.i (D.fld m 0)) (sideR c) := by
 obtain ⟨h1, h2, h3⟩ := form_facts h
 have hl0 := ln0 (D.fld c 2)
 have e : D.i (D.fld (sideR c) 1) = - cAt c - 1 := by
  show IntKind.wrap .i64 (IntKind.wrap .i64 (0 - cAt c) - 1) = _
  rw [wrap_id (show -9223372036854775808 ≤ 0 - cAt c by omega) (by omega), wrap_id (by omega) (by omega)]
  omega
 refine ⟨neg_terms (by omega) h1, ?_, ?_, ?_⟩
 ·rw [e]; omega
 ·rw [e]; omega
 ·show D.len (.slc (negL (D.fld c 2) (D.len (D.fld c 2)).toNat)) ≤ _
  rw [len_slc, neg_len]; omega

theorem getD_set_mem {α : Type} {l : List α} {i j : Nat} {x d : α} {p : α → Prop} (h1 : p x) (h2 : p (l.getD j d)) : p ((l.set i x).getD j d) := by
 by_cases e : i = j
 ·subst e
  by_cases hi : i < l.length
  ·rw [getD_set_eq' hi]; exact h1
  ·rw [List.set_eq_of_length_le (by omega)]; exact h2
 ·rw [getD_set_ne' e]; exact h2

theorem abv_ok {m b : D} (hb : Bo b) (hv : bndB m b = true) : ∀ k : Nat, (k : Int) ≤ D.len (cs b) → ∀ j, ∀ x ∈ (abv b k).getD j [], RowOk (D.i (D.fld m 0)) x := by
 intro k
 induction k with
 | zero =>
  intro _ j x hx
  simp only [abv, iter, List.getD] at hx
  rw [List.getElem?_replicate] at hx
  split at hx <;> simp at hx
 | succ k ih =>
  intro hk j
  have ih := ih (by omega)
  have e : abv b (k + 1) = aS b (abv b k) k := rfl
  rw [e, aS]
  rcases bnd_case hv (show (k : Int) < D.len (cs b) by omega) with ⟨c, _⟩ | ⟨c, c3, c4, c5⟩
  ·rw [c]; exact ih j
  ·rw [c, cond_false]
   have f := split_facts c3
   have hf := hb.form k (by omega)
   have app : ∀ y, RowOk (D.i (D.fld m 0)) y → ∀ x ∈ (abv b k).getD k [] ++ [y], RowOk (D.i (D.fld m 0)) x := fun y hy x hx => by
    rcases List.mem_append.mp hx with h | h
    ·exact ih k x h
    ·rw [List.mem_singleton.mp h]; exact hy
   exact getD_set_mem (p := fun z => ∀ x ∈ z, RowOk (D.i (D.fld m 0)) x) (app _ (sideR_ok f.1 hf)) (getD_set_mem (p := fun z => ∀ x ∈ z, RowOk (D.i (D.fld m 0)) x) (app _ (sideL_ok f.1 hf)) (ih j))

theorem abv_stable {m b : D} (hv : bndB m b = true) {k : Nat} : ∀ j : Nat, (j : Int) ≤ D.len (cs b) → k ≤ j → (abv b j).getD k [] = (abv b k).getD k [] := by
 intro j
 induction j with
 | zero => intro _ h; have : k = 0 := by omega
           subst this; rfl
 | succ j ih =>
  intro hj hk
  by_cases e : k = j + 1
  ·subst e; rfl
  ·have ih := ih (by omega) (by omega)
   have e : abv b (j + 1) = aS b (abv b j) j := rfl
   rw [e, aS]
   rcases bnd_case hv (show (j : Int) < D.len (cs b) by omega) with ⟨c, _⟩ | ⟨c, c3, c4, c5⟩
   ·rw [c]; exact ih
   ·rw [c, cond_false]
    have f := split_facts c3
    rw [getD_set_ne' (by omega), getD_set_ne' (by omega)]
    exact ih

/-- A bound whose rows' indices are numbers of the machine. -/
structure Bx (b : D) : Prop where
 o : Bo b
 big : ∀ i : Nat, (i : Int) < D.len (cs b) → ∀ k : Nat, (k : Int) < D.len (D.fld (cAs b i) 4) → tof (D.fld (cAs b i) 4) k ≤ 9223372036854775807

def rowsOf (b : D) (k : Nat) : List D := (abv b (D.len (cs b)).toNat).getD k []
def longB (m b : D) (k : Nat) : Bool := iLt 400 (D.len (D.fld m 1) + (rowsOf b k).length)
def badV (b : D) (v : Int × (Bool × Bool)) : Bool := !v.2.1 || (!v.2.2 && iLt (D.i (D.fld b 1)) v.1)
def badC (m b : D) (k : Nat) : Bool := iEq (cL (cAs b k)) (-1) && badV b (leafV m (rowsOf b k) (cAs b k))
def chkV (m b : D) : Int := cond (modB m) (cond (bndB m b) (cond (anyB (longB m b) (D.len (cs b)).toNat) 10 (cond (anyB (badC m b) (D.len (cs b)).toNat) 37 0)) 10) 33

theorem lc_of {m b : D} (hm : Mo m) (hmv : modB m = true) (hb : Bx b) (hv : bndB m b = true) {k : Nat} (hk : (k : Int) < D.len (cs b)) (hl : longB m b k = false) (hc : iEq (cL (cAs b k)) (-1) = true) : LC m (rowsOf b k) (cAs b k) := by
 rcases bnd_case hv hk with ⟨_, c⟩ | ⟨c, _⟩
 ·have f := leaf_facts c
  unfold longB at hl
  rw [iLt_not] at hl
  have h0 := ln0 (cs b)
  exact ⟨hm, hmv, abv_ok hb.o hv _ (by omega) k, by omega, f.2.2.2.2.2, hb.o.mul k hk, f.2.2.2.1, f.2.2.2.2.1, hb.big k hk⟩
 ·rw [hc] at c; cases c

section
variable {n : Nat} {Q : List D → Prop}

theorem check_wp {m b : D} (hm : Mo m) (hb : Bx b) (hn : 1100700 ≤ n) (h : Q [.int (chkV m b)]) : wpF Tryz.prog A n 28 [m, b] Q := by
 obtain ⟨p, rfl⟩ : ∃ p, n = p + 1 := ⟨n - 1, by omega⟩
 rw [E28]
 unfold chkV at h
 refine model_wp hm (by omega) ?_
 rw [rs0, b_bool]
 refine cNot (fun c => by rw [c] at h; exact h) fun hmv => ?_
 rw [hmv, cond_true] at h
 refine bound_wp hm hb.o (by omega) ?_
 rw [rs0, b_bool, hmv, Bool.true_and]
 refine cNot (fun c => by rw [c] at h; exact h) fun hv => ?_
 rw [hv, cond_true] at h
 refine above_wp hb.o hv (by omega) ?_
 rw [rs0]
 have hN := bnd_len hv
 have hM := modB_facts hmv
 have hr0 := ln0 (D.fld m 1)
 obtain ⟨N, hNe⟩ : ∃ N : Nat, D.len (cs b) = N := ⟨(D.len (cs b)).toNat, by omega⟩
 have hN' : (D.len (cs b)).toNat = N := by omega
 have hl := abv_len b N
 rw [hN'] at h hl ⊢
 have eR : ∀ k, (abv b N).getD k [] = rowsOf b k := fun k => by unfold rowsOf; rw [hN']
 have short : ∀ k, (rowsOf b k).length ≤ N := fun k => by rw [← eR]; exact abv_short b N k
 obtain ⟨q, rfl⟩ : ∃ q, p = q + 3 := ⟨p - 3, by omega⟩
 have e98 : ∀ x Q, wpF Tryz.prog A (q + 3) 54 [x, .fn 55 [.ptr m]] Q = wpF Tryz.prog A (q + 2) 95 [x, .fn 55 [.ptr m]] fun r1 => Q [(D.bool (iLe (0 : Int) (D.i (rs r1 0))))] := fun x Q => E54 _ _ _ _
 rw [e98, E95]
 refine found_loop (m := q + 1) (Q := fun r4 => cond (D.b (rs r4 0)) (Q [.int 10]) (L28_9 (q + 3) (q + 3) (D.fld b 0) (.int (D.len (D.fld b 0))) (.int 0) m b (rowsD (abv b N)) Q)) (x1 := .fn 55 [.ptr m]) (N := N) (p := longB m b) (L := L95_2 (q + 1)) (call := fun x1 e Q => dynH A (wpF Tryz.prog A (q + 1)) x1 [.imm 43] [.val 4 .imm] [e] Q) (fun m0 x0 x1 x7 x8 Q => L95_2_eq (q + 1) m0 x0 x1 x7 x8 Q) (by rw [rowsD_len, hl]) (by omega)
  (fun i hi Q hQ => ⟨⟨rfl, rfl, rfl, rfl⟩, ?_⟩) (by omega) ?_
 ·show wpF Tryz.prog A (q + 1) 55 [D.el (rowsD (abv b N)) (i : Int), m] Q
  rw [E55]
  have e : D.el (rowsD (abv b N)) (i : Int) = .slc (rowsOf b i) := by rw [← eR]; exact rowsD_get (by omega)
  have hs := short i
  rw [e, len_slc, wrap_id (by omega) (by omega)]
  exact hQ
 ·rw [rs0, b_bool]
  refine cnd (fun c => by rw [c] at h; exact h) fun hlong => ?_
  rw [hlong, cond_false] at h
  show L28_9 (q + 3) (q + 3) (cs b) (.int (D.len (cs b))) (.int 0) m b (rowsD (abv b N)) Q
  rw [hNe]
  refine all_loop (L := fun m0 k => L28_9 (q + 3) m0 (cs b) (.int (N : Int)) k m b (rowsD (abv b N)) Q) (bad := badC m b) (N := N) (F := Q [.int 37]) (by omega) (fun m0 k hk hw hbad hg => ?_) (fun hb => by rw [hb] at h; exact h) (fun hg m0 => ?_) (q + 3) 0 (by omega) (by omega) (by omega)
  ·rw [L28_9_eq]
   simp only [i_int]
   rw [hw]
   refine cLt (fun _ => ⟨by omega, trivial, leafQ_wp (by omega) ?_⟩) fun c => by omega
   rw [rs0, b_bool]
   unfold badC at hbad hg
   refine cNot (fun c => ?_) fun c => ?_
   ·have c : iEq (cL (cAs b k)) (-1) = false := c
    exact hg (by rw [c]; rfl)
   ·have c : iEq (cL (cAs b k)) (-1) = true := c
    rw [c, Bool.true_and] at hbad hg
    rw [rowsD_len, hl, toNat_nat, rowsD_get (by omega), eR]
    refine ⟨by omega, ?_⟩
    refine leafv_wp (lc_of hm hmv hb hv (by omega) (anyB_all hlong hk) c) (by omega) ?_
    have e : D.el (cs b) (k : Int) = cAs b k := rfl
    rw [e]
    revert hbad hg
    unfold badV
    generalize leafV m (rowsOf b k) (cAs b k) = v
    intro hbad hg
    simp only [rs0, rsS, b_bool, i_int]
    refine cNot (fun c1 => hbad (by rw [c1]; rfl)) fun c1 => ?_
    rw [c1, Bool.not_true, Bool.false_or] at hbad hg
    refine cNot (fun c2 => ?_) fun c2 => hg (by rw [c2]; rfl)
    rw [c2, Bool.not_false, Bool.true_and] at hbad hg
    exact cnd (fun c3 => hbad c3) fun c3 => hg c3
  ·rw [L28_9_eq]
   simp only [i_int]
   refine cLt (fun c => by omega) fun _ => ?_
   rw [hg] at h
   exact h

theorem check'_wp {m b : D} (hm : Mo m) (hb : Bx b) (hn : 1100700 ≤ n) (h : Q [.int (chkV m b)]) : wpF Tryz.prog A n 9 [m, b] Q := by
 obtain ⟨p, rfl⟩ : ∃ p, n = p + 1 := ⟨n - 1, by omega⟩
 rw [E9]
 unfold chkV at h
 refine model'_wp hm (by omega) ?_
 rw [rs0, b_bool]
 refine cNot (fun c => by rw [c] at h; exact h) fun hmv => ?_
 rw [hmv, cond_true] at h
 refine bound'_wp hm hb.o (by omega) ?_
 rw [rs0, b_bool]
 refine cNot (fun c => by rw [c] at h; exact h) fun hv => ?_
 rw [hv, cond_true] at h
 have hN := bnd_len hv
 have hM := modB_facts hmv
 have hr0 := ln0 (D.fld m 1)
 obtain ⟨N, hNe⟩ : ∃ N : Nat, D.len (cs b) = N := ⟨(D.len (cs b)).toNat, by omega⟩
 have hN' : (D.len (cs b)).toNat = N := by omega
 rw [hN'] at h
 show (0 ≤ D.len (cs b) ∧ D.len (cs b) ≤ D.len (cs b) ∧ room (D.len (cs b)) 24) ∧ L9_7 p p (cs b) (.int (D.len (cs b))) (.int 0) m b (.slc (List.replicate (Int.toNat (D.len (cs b))) (.slc []))) Q
 refine ⟨⟨by omega, by omega, by unfold room; omega⟩, ?_⟩
 have e0 : D.slc (List.replicate (Int.toNat (D.len (cs b))) (D.slc ([] : List D))) = rowsD (abv b 0) := by simp [rowsD, abv, iter]
 have eR : ∀ k, (abv b N).getD k [] = rowsOf b k := fun k => by unfold rowsOf; rw [hN']
 have short : ∀ k, (rowsOf b k).length ≤ N := fun k => by rw [← eR]; exact abv_short b N k
 rw [e0, hNe]
 have tail : anyB (longB m b) N = false → L9_17 p p (cs b) (.int (D.len (cs b))) (.int 0) m b (rowsD (abv b N)) Q := by
  intro hlong
  have hl := abv_len b N
  rw [hN'] at hl
  rw [hlong, cond_false] at h
  rw [hNe]
  refine all_loop (L := fun m0 k => L9_17 p m0 (cs b) (.int (N : Int)) k m b (rowsD (abv b N)) Q) (bad := badC m b) (N := N) (F := Q [.int 37]) (by omega) (fun m0 k hk hw hbad hg => ?_) (fun hb => by rw [hb] at h; exact h) (fun hg m0 => ?_) p 0 (by omega) (by omega) (by omega)
  ·rw [L9_17_eq]
   simp only [i_int]
   rw [hw]
   refine cLt (fun _ => ⟨by omega, trivial, ?_⟩) fun c => by omega
   unfold badC at hbad hg
   refine cNot (fun c => ?_) fun c => ?_
   ·have c : iEq (cL (cAs b k)) (-1) = false := c
    exact hg (by rw [c]; rfl)
   ·have c : iEq (cL (cAs b k)) (-1) = true := c
    rw [c, Bool.true_and] at hbad hg
    rw [rowsD_len, hl, toNat_nat, rowsD_get (by omega), eR]
    refine ⟨by omega, ?_⟩
    refine leafv'_wp (lc_of hm hmv hb hv (by omega) (anyB_all hlong hk) c) (by omega) ?_
    have e : D.el (cs b) (k : Int) = cAs b k := rfl
    rw [e]
    revert hbad hg
    unfold badV
    generalize leafV m (rowsOf b k) (cAs b k) = v
    intro hbad hg
    simp only [rs0, rsS, b_bool, i_int]
    refine cNot (fun c1 => hbad (by rw [c1]; rfl)) fun c1 => ?_
    rw [c1, Bool.not_true, Bool.false_or] at hbad hg
    refine cNot (fun c2 => ?_) fun c2 => hg (by rw [c2]; rfl)
    rw [c2, Bool.not_false, Bool.true_and] at hbad hg
    exact cnd (fun c3 => hbad c3) fun c3 => hg c3
  ·rw [L9_17_eq]
   simp only [i_int]
   refine cLt (fun c => by omega) fun _ => ?_
   rw [hg] at h
   exact h
 have key : ∀ (m0 k : Nat), k ≤ N → N - k < m0 → (∀ t, t < k → longB m b t = false) → L9_7 p m0 (cs b) (.int (N : Int)) (.int (k : Int)) m b (rowsD (abv b k)) Q := by
  intro m0
  induction m0 with
  | zero => intro k _ h; omega
  | succ m0 ih =>
   intro k h1 h2 h3
   have hl := abv_len b k
   rw [hN'] at hl
   rw [L9_7_eq]
   simp only [i_int]
   refine cLt (fun hk => ⟨by omega, trivial, ?_⟩) fun hk => ?_
   ·have es : (abv b k).getD k [] = rowsOf b k := by rw [← eR]; exact (abv_stable hv N (by omega) (by omega)).symm
    have hs := short k
    have hw : IntKind.wrap .i64 ((k : Int) + 1) = ((k + 1 : Nat) : Int) := by rw [wrap_id (by omega) (by omega)]; omega
    rw [rowsD_len, hl, toNat_nat, rowsD_get (by omega), es, len_slc, wrap_id (show -9223372036854775808 ≤ D.len (D.fld m 1) + ((rowsOf b k).length : Int) by omega) (by omega), hw]
    refine ⟨by omega, ?_⟩
    refine cLt (fun hbig => ?_) fun hsm => ?_
    ·have : anyB (longB m b) N = true := anyB_true (i := k) (by omega) (iLt_iff.mpr hbig)
     rw [this] at h
     exact h
    have h3' : ∀ t, t < k + 1 → longB m b t = false := fun t ht => by
     by_cases e : t = k
     ·subst e; exact iLt_not.mpr hsm
     ·exact h3 t (by omega)
    have ihn := ih (k + 1) (by omega) (by omega) h3'
    have e : abv b (k + 1) = aS b (abv b k) k := rfl
    rw [e, aS] at ihn
    rcases bnd_case hv (show (k : Int) < D.len (cs b) by omega) with ⟨c, _⟩ | ⟨c, c3, c4, c5⟩
    ·rw [c, cond_true] at ihn
     have c : iEq (D.i (D.fld (D.el (cs b) (k : Int)) 0)) (-1) = true := c
     rw [c]
     exact ihn
    ·rw [c, cond_false, es] at ihn
     have c : iEq (D.i (D.fld (D.el (cs b) (k : Int)) 0)) (-1) = false := c
     rw [c]
     have hgt := split_gt c3
     refine sides_wp (hb.o.form k (by omega)) (by omega) ?_
     simp only [rs0, rsS, xs_slc]
     have g1 : D.i (D.fld (D.el (cs b) (k : Int)) 0) = cL (cAs b k) := rfl
     have g2 : D.i (D.fld (D.el (cs b) (k : Int)) 1) = cR (cAs b k) := rfl
     have e2 : D.slc (List.set (List.set (D.xs (rowsD (abv b k))) (cL (cAs b k)).toNat (D.slc (rowsOf b k ++ [sideL (cAs b k)]))) (cR (cAs b k)).toNat (D.slc (rowsOf b k ++ [sideR (cAs b k)]))) = rowsD (((abv b k).set (cL (cAs b k)).toNat (rowsOf b k ++ [sideL (cAs b k)])).set (cR (cAs b k)).toNat (rowsOf b k ++ [sideR (cAs b k)])) := by
      simp [rowsD, D.xs, List.map_set]
     have e3 : List.getD (List.set (D.xs (rowsD (abv b k))) (cL (cAs b k)).toNat (D.slc (rowsOf b k ++ [sideL (cAs b k)]))) k D.und = .slc (rowsOf b k) := by
      rw [getD_set_ne' (by omega), rowsD_get (by omega), es]
     have e4 : D.slc (List.set (D.xs (rowsD (abv b k))) (cL (cAs b k)).toNat (D.slc (rowsOf b k ++ [sideL (cAs b k)]))) = rowsD ((abv b k).set (cL (cAs b k)).toNat (rowsOf b k ++ [sideL (cAs b k)])) := rowsD_set _ _ _
     have e : D.el (cs b) (k : Int) = cAs b k := rfl
     rw [g1, g2, e, e3, e4, rowsD_len, List.length_set, hl, xs_slc]
     have eS : [sideL (cAs b k)].length = 1 := rfl
     have eS2 : [sideR (cAs b k)].length = 1 := rfl
     rw [eS, eS2]
     rw [e2]
     refine ⟨trivial, trivial, by omega, by unfold room; omega, by unfold room; omega, by omega, trivial, by omega, by unfold room; omega, by unfold room; omega, by omega, trivial, ihn⟩
   ·have e : k = N := by omega
    subst e
    exact tail (anyB_false fun i hi => h3 i hi)
 exact key p 0 (by omega) (by omega) fun t ht => by omega
end
end Go.Ab
