/- Equations and plain laws of the functions that the statement reaches, part 4. Conditions: those in each theorem. -/
import Derived.Test.YtdbahkmnhodhmaaProg
import Derived.Test.YtdbahkmnhodhmaaPart2
import Derived.KernelRfl
import Derived.Test.YtdbahkmnhodhmaaPart3
set_option linter.unusedVariables false
set_option linter.unusedSimpArgs false
/- Equations of functions: each rule reduces to a plain formula, by the kernel. -/
set_option linter.unusedVariables false
namespace Go.Ab
open Go.Proofs
/- timebound/timeboundlaw34.half -/
theorem E88 (n : Nat)  (Q : List D → Prop) : wpF Try.prog A (n + 1) 88 [] Q =
 (True ∧ (True ∧ (True ∧ (Q [(D.agg [(D.int (1 : Int)), (D.slc [(D.agg [(D.slc [(D.agg [(D.int (0 : Int)), (D.int (2 : Int))])]), (D.int (3 : Int))])]), (D.slc [(D.agg [(D.int (0 : Int)), (D.int (1 : Int))])]), (D.int (0 : Int))]), (D.agg [(D.slc [(D.agg [(D.int (-1 : Int)), (D.int (-1 : Int)), (D.slc ([] : List D)), (D.int (0 : Int)), (D.slc [(D.agg [(D.int (0 : Int)), (D.int (1 : Int))])]), (D.int (2 : Int))])]), (D.int (1 : Int))])])))) := by kernel_rfl

/- timebound/simplex.within -/
theorem E133 (n : Nat) (d0 d1 : D) (Q : List D → Prop) : wpF Try.prog A (n + 1) 133 [d0, d1] Q =
 (cond (iLe (IntKind.wrap .i64 ((0 : Int) - (D.i d1))) (D.i d0))
 (Q [(D.bool (iLe (D.i d0) (D.i d1)))])
 (Q [(D.bool false)])) := by kernel_rfl

/- timebound/simplex.Terms -/
def L125_2 (n m0 : Nat) (x0 : D) (x1 : D) (x2 : D) (x9 : D) (x10 : D) (x11 : D) (Q : List D → Prop) : Prop :=
  loopK (wpC Try.prog A (hnd Try.prog A n) 125 n (cA (cA (cB (cA (cB (bodyOf Try.f125))))))) (nmK (A.loop 125 2)) m0 { sl := [(0, .imm 80 x0), (1, .imm 3 x1), (2, .imm 3 x2), (9, .imm 80 x9), (10, .imm 3 x10), (11, .imm 3 x11)], ob := [] } (kBlock 0 (kSeq (wpC Try.prog A (hnd Try.prog A n) 125 n (cB (cB (bodyOf Try.f125)))) (kEnd Try.prog Try.f125 (A.sig 125) Q)))
theorem L125_2_eq (n m0 : Nat) (x0 : D) (x1 : D) (x2 : D) (x9 : D) (x10 : D) (x11 : D) (Q : List D → Prop) : L125_2 n (m0 + 1) x0 x1 x2 x9 x10 x11 Q =
 (cond (iLt (D.i x11) (D.i x10))
 ((0 ≤ (D.i x11) ∧ (D.i x11) < (D.len x9)) ∧ (True ∧ (cond (iLt (D.i (D.fld (D.el x9 (D.i x11)) 0)) (0 : Int))
 (Q [(D.bool false)])
 (cond (iLe (D.i x1) (D.i (D.fld (D.el x9 (D.i x11)) 0)))
 (Q [(D.bool false)])
 (cond (iLt (0 : Int) (D.i x11))
 ((0 ≤ (IntKind.wrap .i64 ((D.i x11) - (1 : Int))) ∧ (IntKind.wrap .i64 ((D.i x11) - (1 : Int))) < (D.len x0)) ∧ (cond (iLe (D.i (D.fld (D.el x9 (D.i x11)) 0)) (D.i (D.fld (D.el x0 (IntKind.wrap .i64 ((D.i x11) - (1 : Int)))) 0)))
 (Q [(D.bool false)])
 (cond (iEq (D.i (D.fld (D.el x9 (D.i x11)) 1)) (0 : Int))
 (Q [(D.bool false)])
 (wpF Try.prog A n 133 [(D.fld (D.el x9 (D.i x11)) 1), x2] fun r1 =>
 (cond (!(D.b (rs r1 0)))
 (Q [(D.bool false)])
 (L125_2 n  m0 x0 x1 x2 x9 x10 (D.int (IntKind.wrap .i64 ((D.i x11) + (1 : Int)))) Q))))))
 (cond (iEq (D.i (D.fld (D.el x9 (D.i x11)) 1)) (0 : Int))
 (Q [(D.bool false)])
 (wpF Try.prog A n 133 [(D.fld (D.el x9 (D.i x11)) 1), x2] fun r2 =>
 (cond (!(D.b (rs r2 0)))
 (Q [(D.bool false)])
 (L125_2 n  m0 x0 x1 x2 x9 x10 (D.int (IntKind.wrap .i64 ((D.i x11) + (1 : Int)))) Q)))))))))
 (Q [(D.bool true)])) := by kernel_rfl
theorem E125 (n : Nat) (d0 d1 d2 : D) (Q : List D → Prop) : wpF Try.prog A (n + 1) 125 [d0, d1, d2] Q =
 (L125_2 n  n d0 d1 d2 d0 (D.int (D.len d0)) (D.int (0 : Int)) Q) := by kernel_rfl
attribute [irreducible] L125_2

/- slices.IndexFunc[[]timebound/api.Row,timebound/api.Row] -/
def L138_2 (n m0 : Nat) (x0 : D) (x1 : D) (x7 : D) (x8 : D) (Q : List D → Prop) : Prop :=
  loopK (wpC Try.prog A (hnd Try.prog A n) 138 n (cA (cA (cB (cA (cB (bodyOf Try.f138))))))) (nmK (A.loop 138 2)) m0 { sl := [(0, .imm 79 x0), (1, .imm 180 x1), (7, .imm 3 x7), (8, .imm 3 x8)], ob := [] } (kBlock 0 (kSeq (wpC Try.prog A (hnd Try.prog A n) 138 n (cB (cB (bodyOf Try.f138)))) (kEnd Try.prog Try.f138 (A.sig 138) Q)))
theorem L138_2_eq (n m0 : Nat) (x0 : D) (x1 : D) (x7 : D) (x8 : D) (Q : List D → Prop) : L138_2 n (m0 + 1) x0 x1 x7 x8 Q =
 (cond (iLt (D.i x8) (D.i x7))
 ((0 ≤ (D.i x8) ∧ (D.i x8) < (D.len x0)) ∧ (dynH A (wpF Try.prog A n) x1 [.imm 100] [.val 4 .imm] [(D.el x0 (D.i x8))] fun r1 =>
 (cond (D.b (rs r1 0))
 (Q [x8])
 (L138_2 n  m0 x0 x1 x7 (D.int (IntKind.wrap .i64 ((D.i x8) + (1 : Int)))) Q))))
 (Q [(D.int (-1 : Int))])) := by kernel_rfl
theorem E138 (n : Nat) (d0 d1 : D) (Q : List D → Prop) : wpF Try.prog A (n + 1) 138 [d0, d1] Q =
 (L138_2 n  n d0 d1 (D.int (D.len d0)) (D.int (0 : Int)) Q) := by kernel_rfl
attribute [irreducible] L138_2

/- slices.ContainsFunc[[]timebound/api.Row,timebound/api.Row] -/
theorem E134 (n : Nat) (d0 d1 : D) (Q : List D → Prop) : wpF Try.prog A (n + 1) 134 [d0, d1] Q =
 (wpF Try.prog A n 138 [d0, d1] fun r1 =>
 (Q [(D.bool (iLe (0 : Int) (D.i (rs r1 0))))])) := by kernel_rfl

/- timebound/simplex.limited$1 -/
theorem E135 (n : Nat) (d0 d1 d2 d3 : D) (Q : List D → Prop) : wpF Try.prog A (n + 1) 135 [d0, d1, d2, d3] Q =
 (wpF Try.prog A n 125 [(D.fld d0 0), (D.fld d1 0), d2] fun r1 =>
 (cond (!(D.b (rs r1 0)))
 (Q [(D.bool true)])
 (wpF Try.prog A n 133 [(D.fld d0 1), d3] fun r2 =>
 (Q [(D.bool (!(D.b (rs r2 0))))])))) := by kernel_rfl

/- timebound/simplex.limited -/
theorem E118 (n : Nat) (d0 d1 d2 d3 d4 d5 d6 : D) (Q : List D → Prop) : wpF Try.prog A (n + 1) 118 [d0, d1, d2, d3, d4, d5, d6] Q =
 (cond (iLe (0 : Int) (D.i (D.fld d0 0)))
 (cond (iLe (D.i (D.fld d0 0)) (D.i d1))
 (cond (iLe (D.len (D.fld d0 1)) (D.i d2))
 (wpF Try.prog A n 125 [(D.fld d0 2), (D.fld d0 0), d4] fun r1 =>
 (cond (D.b (rs r1 0))
 (wpF Try.prog A n 133 [(D.fld d0 3), d5] fun r2 =>
 (cond (D.b (rs r2 0))
 (wpF Try.prog A n 134 [(D.fld d0 1), (D.fn 135 [(D.ptr d0), (D.ptr d3), (D.ptr d6)])] fun r3 =>
 (Q [(D.bool (!(D.b (rs r3 0))))]))
 (Q [(D.bool false)])))
 (Q [(D.bool false)])))
 (Q [(D.bool false)]))
 (Q [(D.bool false)]))
 (Q [(D.bool false)])) := by kernel_rfl

/- timebound/simplex.Valid -/
theorem E92 (n : Nat) (d0 : D) (Q : List D → Prop) : wpF Try.prog A (n + 1) 92 [d0] Q =
 (wpF Try.prog A n 118 [d0, (D.int (300 : Int)), (D.int (400 : Int)), (D.int (1048576 : Int)), (D.int (16777216 : Int)), (D.int (16777216 : Int)), (D.int (1048576 : Int))] fun r1 =>
 (Q [(rs r1 0)])) := by kernel_rfl

/- timebound/certificate.kindOf -/
theorem E93 (n : Nat) (d0 : D) (Q : List D → Prop) : wpF Try.prog A (n + 1) 93 [d0] Q =
 (cond (iEq (D.i (D.fld d0 0)) (-1 : Int))
 (Q [(D.ifc 146 d0)])
 (Q [(D.ifc 147 d0)])) := by kernel_rfl

/- slices.Index[[]bool,bool] -/
def L119_2 (n m0 : Nat) (x0 : D) (x1 : D) (x7 : D) (x8 : D) (Q : List D → Prop) : Prop :=
  loopK (wpC Try.prog A (hnd Try.prog A n) 119 n (cA (cA (cB (cA (cB (bodyOf Try.f119))))))) (nmK (A.loop 119 2)) m0 { sl := [(0, .imm 141 x0), (1, .imm 4 x1), (7, .imm 3 x7), (8, .imm 3 x8)], ob := [] } (kBlock 0 (kSeq (wpC Try.prog A (hnd Try.prog A n) 119 n (cB (cB (bodyOf Try.f119)))) (kEnd Try.prog Try.f119 (A.sig 119) Q)))
theorem L119_2_eq (n m0 : Nat) (x0 : D) (x1 : D) (x7 : D) (x8 : D) (Q : List D → Prop) : L119_2 n (m0 + 1) x0 x1 x7 x8 Q =
 (cond (iLt (D.i x8) (D.i x7))
 ((0 ≤ (D.i x8) ∧ (D.i x8) < (D.len x0)) ∧ (cond (bEq (D.b x1) (D.b (D.el x0 (D.i x8))))
 (Q [x8])
 (L119_2 n  m0 x0 x1 x7 (D.int (IntKind.wrap .i64 ((D.i x8) + (1 : Int)))) Q)))
 (Q [(D.int (-1 : Int))])) := by kernel_rfl
theorem E119 (n : Nat) (d0 d1 : D) (Q : List D → Prop) : wpF Try.prog A (n + 1) 119 [d0, d1] Q =
 (L119_2 n  n d0 d1 (D.int (D.len d0)) (D.int (0 : Int)) Q) := by kernel_rfl
attribute [irreducible] L119_2

/- slices.Contains[[]bool,bool] -/
theorem E94 (n : Nat) (d0 d1 : D) (Q : List D → Prop) : wpF Try.prog A (n + 1) 94 [d0, d1] Q =
 (wpF Try.prog A n 119 [d0, d1] fun r1 =>
 (Q [(D.bool (iLe (0 : Int) (D.i (rs r1 0))))])) := by kernel_rfl

/- timebound/certificate.Valid -/
def L51_5 (n m0 : Nat) (x33 : D) (x34 : D) (x35 : D) (xo2 : D) (xo3 : D) (xo31 : D) (Q : List D → Prop) : Prop :=
  loopK (wpC Try.prog A (hnd Try.prog A n) 51 n (cA (cA (cB (cA (cB (cB (cB (bodyOf Try.f51))))))))) (nmK (A.loop 51 5)) m0 { sl := [(2, .ptr 2 [] 82), (3, .ptr 3 [] 78), (5, .val 31 [] 141), (33, .imm 76 x33), (34, .imm 3 x34), (35, .imm 3 x35)], ob := [(2, some ⟨true, 82, .imm, xo2⟩), (3, some ⟨true, 78, .imm, xo3⟩), (31, some ⟨false, 141, (.slc .imm none), xo31⟩)] } (kBlock 0 (kSeq (wpC Try.prog A (hnd Try.prog A n) 51 n (cB (cB (cB (cB (bodyOf Try.f51)))))) (kEnd Try.prog Try.f51 (A.sig 51) Q)))
def L51_16 (n m0 m1 : Nat) (x33 : D) (x34 : D) (x35 : D) (x59 : D) (x60 : D) (xo2 : D) (xo3 : D) (xo31 : D) (xo58 : D) (Q : List D → Prop) : Prop :=
  loopK (wpC Try.prog A (hnd Try.prog A n) 51 n (cA (cA (cB (cB (cA (cB (cB (cB (cA (cB (cB (cB (cB (cA (cA (cB (cB (cA (cA (cB (cA (cB (cB (cB (bodyOf Try.f51)))))))))))))))))))))))))) (nmK (A.loop 51 16)) m1 { sl := [(2, .ptr 2 [] 82), (3, .ptr 3 [] 78), (5, .val 31 [] 141), (33, .imm 76 x33), (34, .imm 3 x34), (35, .imm 3 x35), (58, .val 58 [] 22), (59, .imm 3 x59), (60, .imm 3 x60)], ob := [(2, some ⟨true, 82, .imm, xo2⟩), (3, some ⟨true, 78, .imm, xo3⟩), (31, some ⟨false, 141, (.slc .imm none), xo31⟩), (58, some ⟨false, 22, (.slc .imm none), xo58⟩)] } (kBlock 3 (kBlock 2 (kBlock 1 (kSeq (wpC Try.prog A (hnd Try.prog A n) 51 n (cB (cB (cB (cA (cA (cB (cA (cB (cB (cB (bodyOf Try.f51)))))))))))) (kLoop (nmK (A.loop 51 5)) (fun g => loopK (wpC Try.prog A (hnd Try.prog A n) 51 n (cA (cA (cB (cA (cB (cB (cB (bodyOf Try.f51))))))))) (nmK (A.loop 51 5)) m0 g (kBlock 0 (kSeq (wpC Try.prog A (hnd Try.prog A n) 51 n (cB (cB (cB (cB (bodyOf Try.f51)))))) (kEnd Try.prog Try.f51 (A.sig 51) Q)))) (kBlock 0 (kSeq (wpC Try.prog A (hnd Try.prog A n) 51 n (cB (cB (cB (cB (bodyOf Try.f51)))))) (kEnd Try.prog Try.f51 (A.sig 51) Q))))))))
theorem L51_5_eq (n m0 : Nat) (x33 : D) (x34 : D) (x35 : D) (xo2 : D) (xo3 : D) (xo31 : D) (Q : List D → Prop) : L51_5 n (m0 + 1) x33 x34 x35 xo2 xo3 xo31 Q =
 (cond (iLt (D.i x35) (D.i x34))
 ((0 ≤ (D.i x35) ∧ (D.i x35) < (D.len x33)) ∧ (True ∧ (wpF Try.prog A n 93 [(D.el x33 (D.i x35))] fun r2 =>
 (invH Try.prog A (wpF Try.prog A n) (rs r2 0) (mName Try.prog 146 0) [.imm 82, .imm 3] [.val 4 .imm] [xo2, x35] fun r3 =>
 (cond (!(D.b (rs r3 0)))
 (Q [(D.bool false)])
 (cond (D.isT (rs r2 0) 146)
 (True ∧ (L51_5 n  m0 x33 x34 (D.int (IntKind.wrap .i64 ((D.i x35) + (1 : Int)))) xo2 xo3 xo31 Q))
 (cond (D.isT (rs r2 0) 147)
 (True ∧ (L51_16 n m0 n x33 x34 x35 (D.int (D.len (D.slc [(D.fld (D.un (rs r2 0)) 0), (D.fld (D.un (rs r2 0)) 1)]))) (D.int (0 : Int)) xo2 xo3 xo31 (D.slc [(D.fld (D.un (rs r2 0)) 0), (D.fld (D.un (rs r2 0)) 1)]) Q))
 (L51_5 n  m0 x33 x34 (D.int (IntKind.wrap .i64 ((D.i x35) + (1 : Int)))) xo2 xo3 xo31 Q))))))))
 ((0 ≤ (1 : Int) ∧ (1 : Int) ≤ (D.len xo31) ∧ (D.len xo31) ≤ (D.len xo31)) ∧ (wpF Try.prog A n 94 [(D.slc (List.drop (Int.toNat (1 : Int)) (List.take (Int.toNat (D.len xo31)) (D.xs xo31)))), (D.bool false)] fun r4 =>
 (Q [(D.bool (!(D.b (rs r4 0))))])))) := by kernel_rfl
theorem L51_16_eq (n m0 m1 : Nat) (x33 : D) (x34 : D) (x35 : D) (x59 : D) (x60 : D) (xo2 : D) (xo3 : D) (xo31 : D) (xo58 : D) (Q : List D → Prop) : L51_16 n m0 (m1 + 1) x33 x34 x35 x59 x60 xo2 xo3 xo31 xo58 Q =
 (cond (iLt (D.i x60) (D.i x59))
 ((0 ≤ (D.i x60) ∧ (D.i x60) < (D.len xo58)) ∧ (cond (iLe (D.len (D.fld xo3 0)) (D.i (List.getD (D.xs xo58) (Int.toNat (D.i x60)) D.und)))
 (Q [(D.bool false)])
 ((0 ≤ (D.i (List.getD (D.xs xo58) (Int.toNat (D.i x60)) D.und)) ∧ (D.i (List.getD (D.xs xo58) (Int.toNat (D.i x60)) D.und)) < (D.len xo31)) ∧ (cond (D.b (List.getD (D.xs xo31) (Int.toNat (D.i (List.getD (D.xs xo58) (Int.toNat (D.i x60)) D.und))) D.und))
 (Q [(D.bool false)])
 ((0 ≤ (D.i (List.getD (D.xs xo58) (Int.toNat (D.i x60)) D.und)) ∧ (D.i (List.getD (D.xs xo58) (Int.toNat (D.i x60)) D.und)) < (D.len xo31)) ∧ (True ∧ (L51_16 n m0 m1 x33 x34 x35 x59 (D.int (IntKind.wrap .i64 ((D.i x60) + (1 : Int)))) xo2 xo3 (D.slc (List.set (D.xs xo31) (Int.toNat (D.i (List.getD (D.xs xo58) (Int.toNat (D.i x60)) D.und))) (D.bool true))) xo58 Q)))))))
 (L51_5 n  m0 x33 x34 (D.int (IntKind.wrap .i64 ((D.i x35) + (1 : Int)))) xo2 xo3 xo31 Q)) := by kernel_rfl
theorem E51 (n : Nat) (d0 d1 : D) (Q : List D → Prop) : wpF Try.prog A (n + 1) 51 [d0, d1] Q =
 (wpF Try.prog A n 92 [d0] fun r1 =>
 (cond (!(D.b (rs r1 0)))
 (Q [(D.bool false)])
 (cond (iLt (D.len (D.fld d1 0)) (1 : Int))
 (Q [(D.bool false)])
 (cond (iLt (1000 : Int) (D.len (D.fld d1 0)))
 (Q [(D.bool false)])
 ((0 ≤ (D.len (D.fld d1 0)) ∧ (D.len (D.fld d1 0)) ≤ (D.len (D.fld d1 0)) ∧ room (D.len (D.fld d1 0)) 1) ∧ (L51_5 n  n (D.fld d1 0) (D.int (D.len (D.fld d1 0))) (D.int (0 : Int)) d0 d1 (D.slc (List.replicate (Int.toNat (D.len (D.fld d1 0))) (D.bool false))) Q)))))) := by kernel_rfl
attribute [irreducible] L51_5 L51_16

/- timebound/certificate.leaf -/
theorem E100 (n : Nat) (d0 : D) (Q : List D → Prop) : wpF Try.prog A (n + 1) 100 [d0] Q =
 (wpF Try.prog A n 93 [d0] fun r1 =>
 (cond (D.isT (rs r1 0) 146)
 (True ∧ (Q [(D.bool true)]))
 (True ∧ (Q [(D.bool false)])))) := by kernel_rfl

/- timebound/certificate.split -/
def L121_4 (n m0 : Nat) (x17 : D) (x18 : D) (x19 : D) (xo2 : D) (xo3 : D) (Q : List D → Prop) : Prop :=
  loopK (wpC Try.prog A (hnd Try.prog A n) 121 n (cA (cA (cB (cA (cB (cB (cB (bodyOf Try.f121))))))))) (nmK (A.loop 121 4)) m0 { sl := [(2, .ptr 2 [] 100), (3, .ptr 3 [] 100), (17, .imm 80 x17), (18, .imm 3 x18), (19, .imm 3 x19)], ob := [(2, some ⟨true, 100, .imm, xo2⟩), (3, some ⟨true, 100, (.agg [(0, (.slc .imm none))]), xo3⟩)] } (kBlock 0 (kSeq (wpC Try.prog A (hnd Try.prog A n) 121 n (cB (cB (cB (cB (bodyOf Try.f121)))))) (kEnd Try.prog Try.f121 (A.sig 121) Q)))
theorem L121_4_eq (n m0 : Nat) (x17 : D) (x18 : D) (x19 : D) (xo2 : D) (xo3 : D) (Q : List D → Prop) : L121_4 n (m0 + 1) x17 x18 x19 xo2 xo3 Q =
 (cond (iLt (D.i x19) (D.i x18))
 ((0 ≤ (D.i x19) ∧ (D.i x19) < (D.len x17)) ∧ (True ∧ (room (((List.length (D.xs (D.fld xo3 0)) : Nat) : Int) + ((List.length [(D.agg [(D.fld (D.el x17 (D.i x19)) 0), (D.int (IntKind.wrap .i64 ((0 : Int) - (D.i (D.fld (D.el x17 (D.i x19)) 1)))))])] : Nat) : Int)) 16 ∧ (True ∧ (L121_4 n  m0 x17 x18 (D.int (IntKind.wrap .i64 ((D.i x19) + (1 : Int)))) xo2 (D.agg [(D.slc ((D.xs (D.fld xo3 0)) ++ [(D.agg [(D.fld (D.el x17 (D.i x19)) 0), (D.int (IntKind.wrap .i64 ((0 : Int) - (D.i (D.fld (D.el x17 (D.i x19)) 1)))))])])), (D.fld xo3 1)]) Q)))))
 (True ∧ (True ∧ (Q [xo2, xo3])))) := by kernel_rfl
theorem E121 (n : Nat) (d0 : D) (Q : List D → Prop) : wpF Try.prog A (n + 1) 121 [d0] Q =
 (True ∧ (True ∧ (L121_4 n  n (D.fld d0 2) (D.int (D.len (D.fld d0 2))) (D.int (0 : Int)) (D.agg [(D.fld d0 2), (D.fld d0 3)]) (D.agg [(D.slc ([] : List D)), (D.int (IntKind.wrap .i64 ((IntKind.wrap .i64 ((0 : Int) - (D.i (D.fld d0 3)))) - (1 : Int))))]) Q))) := by kernel_rfl
attribute [irreducible] L121_4

/- slices.Clone[[]timebound/api.Row,timebound/api.Row] -/
theorem E122 (n : Nat) (d0 : D) (Q : List D → Prop) : wpF Try.prog A (n + 1) 122 [d0] Q =
 (∀ b1 : Bool, (b1 = true → (D.len d0) = 0) → (cond b1
 (Q [(D.slc ([] : List D))])
 (room (((List.length ([] : List D) : Nat) : Int) + ((List.length (D.xs d0) : Nat) : Int)) 32 ∧ (Q [(D.slc (([] : List D) ++ (D.xs d0)))])))) := by kernel_rfl

/- timebound/certificate.above -/
def L97_3 (n m0 : Nat) (x13 : D) (x14 : D) (x15 : D) (xo11 : D) (Q : List D → Prop) : Prop :=
  loopK (wpC Try.prog A (hnd Try.prog A n) 97 n (cA (cA (cB (cA (cB (cB (bodyOf Try.f97)))))))) (nmK (A.loop 97 3)) m0 { sl := [(3, .val 11 [] 151), (13, .imm 76 x13), (14, .imm 3 x14), (15, .imm 3 x15)], ob := [(11, some ⟨false, 151, (.slc .imm none), xo11⟩)] } (kBlock 0 (kSeq (wpC Try.prog A (hnd Try.prog A n) 97 n (cB (cB (cB (bodyOf Try.f97))))) (kEnd Try.prog Try.f97 (A.sig 97) Q)))
theorem L97_3_eq (n m0 : Nat) (x13 : D) (x14 : D) (x15 : D) (xo11 : D) (Q : List D → Prop) : L97_3 n (m0 + 1) x13 x14 x15 xo11 Q =
 (cond (iLt (D.i x15) (D.i x14))
 ((0 ≤ (D.i x15) ∧ (D.i x15) < (D.len x13)) ∧ (True ∧ (wpF Try.prog A n 100 [(D.el x13 (D.i x15))] fun r1 =>
 (cond (D.b (rs r1 0))
 (L97_3 n  m0 x13 x14 (D.int (IntKind.wrap .i64 ((D.i x15) + (1 : Int)))) xo11 Q)
 (wpF Try.prog A n 121 [(D.el x13 (D.i x15))] fun r2 =>
 (True ∧ (True ∧ ((0 ≤ (D.i x15) ∧ (D.i x15) < (D.len xo11)) ∧ (wpF Try.prog A n 122 [(List.getD (D.xs xo11) (Int.toNat (D.i x15)) D.und)] fun r3 =>
 (room (((List.length (D.xs (rs r3 0)) : Nat) : Int) + ((List.length [(rs r2 0)] : Nat) : Int)) 32 ∧ ((0 ≤ (D.i x15) ∧ (D.i x15) < (D.len xo11)) ∧ (wpF Try.prog A n 122 [(List.getD (D.xs xo11) (Int.toNat (D.i x15)) D.und)] fun r4 =>
 (room (((List.length (D.xs (rs r4 0)) : Nat) : Int) + ((List.length [(rs r2 1)] : Nat) : Int)) 32 ∧ ((0 ≤ (D.i (D.fld (D.el x13 (D.i x15)) 0)) ∧ (D.i (D.fld (D.el x13 (D.i x15)) 0)) < (D.len xo11)) ∧ (True ∧ ((0 ≤ (D.i (D.fld (D.el x13 (D.i x15)) 1)) ∧ (D.i (D.fld (D.el x13 (D.i x15)) 1)) < (D.len (D.slc (List.set (D.xs xo11) (Int.toNat (D.i (D.fld (D.el x13 (D.i x15)) 0))) (D.slc ((D.xs (rs r3 0)) ++ [(rs r2 0)])))))) ∧ (True ∧ (L97_3 n  m0 x13 x14 (D.int (IntKind.wrap .i64 ((D.i x15) + (1 : Int)))) (D.slc (List.set (List.set (D.xs xo11) (Int.toNat (D.i (D.fld (D.el x13 (D.i x15)) 0))) (D.slc ((D.xs (rs r3 0)) ++ [(rs r2 0)]))) (Int.toNat (D.i (D.fld (D.el x13 (D.i x15)) 1))) (D.slc ((D.xs (rs r4 0)) ++ [(rs r2 1)])))) Q))))))))))))))))))
 (Q [xo11])) := by kernel_rfl
theorem E97 (n : Nat) (d0 : D) (Q : List D → Prop) : wpF Try.prog A (n + 1) 97 [d0] Q =
 ((0 ≤ (D.len (D.fld d0 0)) ∧ (D.len (D.fld d0 0)) ≤ (D.len (D.fld d0 0)) ∧ room (D.len (D.fld d0 0)) 24) ∧ (L97_3 n  n (D.fld d0 0) (D.int (D.len (D.fld d0 0))) (D.int (0 : Int)) (D.slc (List.replicate (Int.toNat (D.len (D.fld d0 0))) (D.slc ([] : List D)))) Q)) := by kernel_rfl
attribute [irreducible] L97_3

/- slices.IndexFunc[[][]timebound/api.Row,[]timebound/api.Row] -/
def L123_2 (n m0 : Nat) (x0 : D) (x1 : D) (x7 : D) (x8 : D) (Q : List D → Prop) : Prop :=
  loopK (wpC Try.prog A (hnd Try.prog A n) 123 n (cA (cA (cB (cA (cB (bodyOf Try.f123))))))) (nmK (A.loop 123 2)) m0 { sl := [(0, .imm 151 x0), (1, .imm 154 x1), (7, .imm 3 x7), (8, .imm 3 x8)], ob := [] } (kBlock 0 (kSeq (wpC Try.prog A (hnd Try.prog A n) 123 n (cB (cB (bodyOf Try.f123)))) (kEnd Try.prog Try.f123 (A.sig 123) Q)))
theorem L123_2_eq (n m0 : Nat) (x0 : D) (x1 : D) (x7 : D) (x8 : D) (Q : List D → Prop) : L123_2 n (m0 + 1) x0 x1 x7 x8 Q =
 (cond (iLt (D.i x8) (D.i x7))
 ((0 ≤ (D.i x8) ∧ (D.i x8) < (D.len x0)) ∧ (dynH A (wpF Try.prog A n) x1 [.imm 79] [.val 4 .imm] [(D.el x0 (D.i x8))] fun r1 =>
 (cond (D.b (rs r1 0))
 (Q [x8])
 (L123_2 n  m0 x0 x1 x7 (D.int (IntKind.wrap .i64 ((D.i x8) + (1 : Int)))) Q))))
 (Q [(D.int (-1 : Int))])) := by kernel_rfl
theorem E123 (n : Nat) (d0 d1 : D) (Q : List D → Prop) : wpF Try.prog A (n + 1) 123 [d0, d1] Q =
 (L123_2 n  n d0 d1 (D.int (D.len d0)) (D.int (0 : Int)) Q) := by kernel_rfl
attribute [irreducible] L123_2

/- slices.ContainsFunc[[][]timebound/api.Row,[]timebound/api.Row] -/
theorem E98 (n : Nat) (d0 d1 : D) (Q : List D → Prop) : wpF Try.prog A (n + 1) 98 [d0, d1] Q =
 (wpF Try.prog A n 123 [d0, d1] fun r1 =>
 (Q [(D.bool (iLe (0 : Int) (D.i (rs r1 0))))])) := by kernel_rfl

/- timebound/certificate.Check$1 -/
theorem E99 (n : Nat) (d0 d1 : D) (Q : List D → Prop) : wpF Try.prog A (n + 1) 99 [d0, d1] Q =
 (Q [(D.bool (iLt (400 : Int) (IntKind.wrap .i64 ((D.len (D.fld d1 1)) + (D.len d0)))))]) := by kernel_rfl

/- timebound/certificate.sums -/
def L124_3 (n m0 : Nat) (x1 : D) (x10 : D) (x20 : D) (x21 : D) (x22 : D) (xo3 : D) (xo19 : D) (Q : List D → Prop) : Prop :=
  loopK (wpC Try.prog A (hnd Try.prog A n) 124 n (cA (cA (cB (cA (cB (cB (bodyOf Try.f124)))))))) (nmK (A.loop 124 3)) m0 { sl := [(1, .imm 79 x1), (3, .ptr 3 [] 82), (9, .val 19 [] 22), (10, .imm 3 x10), (20, .imm 80 x20), (21, .imm 3 x21), (22, .imm 3 x22)], ob := [(3, some ⟨true, 82, .imm, xo3⟩), (19, some ⟨false, 22, (.slc .imm none), xo19⟩)] } (kBlock 0 (kSeq (wpC Try.prog A (hnd Try.prog A n) 124 n (cB (cB (cB (bodyOf Try.f124))))) (kEnd Try.prog Try.f124 (A.sig 124) Q)))
def L124_13 (n m0 m1 : Nat) (x1 : D) (x10 : D) (x20 : D) (x21 : D) (x22 : D) (x79 : D) (x80 : D) (x81 : D) (xo3 : D) (xo12 : D) (xo19 : D) (Q : List D → Prop) : Prop :=
  loopK (wpC Try.prog A (hnd Try.prog A n) 124 n (cA (cA (cB (cB (cB (cB (cB (cA (cA (cB (cB (cA (cA (cB (cA (cB (cB (bodyOf Try.f124))))))))))))))))))) (nmK (A.loop 124 13)) m1 { sl := [(1, .imm 79 x1), (3, .ptr 3 [] 82), (9, .val 19 [] 22), (10, .imm 3 x10), (12, .ptr 12 [] 138), (20, .imm 80 x20), (21, .imm 3 x21), (22, .imm 3 x22), (79, .imm 80 x79), (80, .imm 3 x80), (81, .imm 3 x81)], ob := [(3, some ⟨true, 82, .imm, xo3⟩), (12, some ⟨true, 138, .imm, xo12⟩), (19, some ⟨false, 22, (.slc .imm none), xo19⟩)] } (kBlock 3 (kBlock 1 (kSeq (wpC Try.prog A (hnd Try.prog A n) 124 n (cB (cB (cB (cA (cA (cB (cA (cB (cB (bodyOf Try.f124))))))))))) (kLoop (nmK (A.loop 124 3)) (fun g => loopK (wpC Try.prog A (hnd Try.prog A n) 124 n (cA (cA (cB (cA (cB (cB (bodyOf Try.f124)))))))) (nmK (A.loop 124 3)) m0 g (kBlock 0 (kSeq (wpC Try.prog A (hnd Try.prog A n) 124 n (cB (cB (cB (bodyOf Try.f124))))) (kEnd Try.prog Try.f124 (A.sig 124) Q)))) (kBlock 0 (kSeq (wpC Try.prog A (hnd Try.prog A n) 124 n (cB (cB (cB (bodyOf Try.f124))))) (kEnd Try.prog Try.f124 (A.sig 124) Q)))))))
theorem L124_3_eq (n m0 : Nat) (x1 : D) (x10 : D) (x20 : D) (x21 : D) (x22 : D) (xo3 : D) (xo19 : D) (Q : List D → Prop) : L124_3 n (m0 + 1) x1 x10 x20 x21 x22 xo3 xo19 Q =
 (cond (iLt (D.i x22) (D.i x21))
 ((0 ≤ (D.i x22) ∧ (D.i x22) < (D.len x20)) ∧ (True ∧ (cond (iLe (0 : Int) (D.i (D.fld (D.el x20 (D.i x22)) 0)))
 (cond (iLt (D.i (D.fld (D.el x20 (D.i x22)) 0)) (D.len (D.fld xo3 1)))
 ((0 ≤ (D.i (D.fld (D.el x20 (D.i x22)) 0)) ∧ (D.i (D.fld (D.el x20 (D.i x22)) 0)) < (D.len (D.fld xo3 1))) ∧ (True ∧ (L124_13 n m0 n x1 (D.int (IntKind.wrap .i64 ((D.i x10) + (IntKind.wrap .i64 ((D.i (D.fld (D.el x20 (D.i x22)) 1)) * (D.i (D.fld (D.el (D.fld xo3 1) (D.i (D.fld (D.el x20 (D.i x22)) 0))) 1))))))) x20 x21 x22 (D.fld (D.el (D.fld xo3 1) (D.i (D.fld (D.el x20 (D.i x22)) 0))) 0) (D.int (D.len (D.fld (D.el (D.fld xo3 1) (D.i (D.fld (D.el x20 (D.i x22)) 0))) 0))) (D.int (0 : Int)) xo3 (D.el x20 (D.i x22)) xo19 Q)))
 (cond (iLe (D.len (D.fld xo3 1)) (D.i (D.fld (D.el x20 (D.i x22)) 0)))
 (cond (iLt (IntKind.wrap .i64 ((D.i (D.fld (D.el x20 (D.i x22)) 0)) - (D.len (D.fld xo3 1)))) (D.len x1))
 ((0 ≤ (IntKind.wrap .i64 ((D.i (D.fld (D.el x20 (D.i x22)) 0)) - (D.len (D.fld xo3 1)))) ∧ (IntKind.wrap .i64 ((D.i (D.fld (D.el x20 (D.i x22)) 0)) - (D.len (D.fld xo3 1)))) < (D.len x1)) ∧ (True ∧ (L124_13 n m0 n x1 (D.int (IntKind.wrap .i64 ((D.i x10) + (IntKind.wrap .i64 ((D.i (D.fld (D.el x20 (D.i x22)) 1)) * (D.i (D.fld (D.el x1 (IntKind.wrap .i64 ((D.i (D.fld (D.el x20 (D.i x22)) 0)) - (D.len (D.fld xo3 1))))) 1))))))) x20 x21 x22 (D.fld (D.el x1 (IntKind.wrap .i64 ((D.i (D.fld (D.el x20 (D.i x22)) 0)) - (D.len (D.fld xo3 1))))) 0) (D.int (D.len (D.fld (D.el x1 (IntKind.wrap .i64 ((D.i (D.fld (D.el x20 (D.i x22)) 0)) - (D.len (D.fld xo3 1))))) 0))) (D.int (0 : Int)) xo3 (D.el x20 (D.i x22)) xo19 Q)))
 (Q [(D.slc ([] : List D)), (D.int (0 : Int)), (D.bool false)]))
 (Q [(D.slc ([] : List D)), (D.int (0 : Int)), (D.bool false)])))
 (cond (iLe (D.len (D.fld xo3 1)) (D.i (D.fld (D.el x20 (D.i x22)) 0)))
 (cond (iLt (IntKind.wrap .i64 ((D.i (D.fld (D.el x20 (D.i x22)) 0)) - (D.len (D.fld xo3 1)))) (D.len x1))
 ((0 ≤ (IntKind.wrap .i64 ((D.i (D.fld (D.el x20 (D.i x22)) 0)) - (D.len (D.fld xo3 1)))) ∧ (IntKind.wrap .i64 ((D.i (D.fld (D.el x20 (D.i x22)) 0)) - (D.len (D.fld xo3 1)))) < (D.len x1)) ∧ (True ∧ (L124_13 n m0 n x1 (D.int (IntKind.wrap .i64 ((D.i x10) + (IntKind.wrap .i64 ((D.i (D.fld (D.el x20 (D.i x22)) 1)) * (D.i (D.fld (D.el x1 (IntKind.wrap .i64 ((D.i (D.fld (D.el x20 (D.i x22)) 0)) - (D.len (D.fld xo3 1))))) 1))))))) x20 x21 x22 (D.fld (D.el x1 (IntKind.wrap .i64 ((D.i (D.fld (D.el x20 (D.i x22)) 0)) - (D.len (D.fld xo3 1))))) 0) (D.int (D.len (D.fld (D.el x1 (IntKind.wrap .i64 ((D.i (D.fld (D.el x20 (D.i x22)) 0)) - (D.len (D.fld xo3 1))))) 0))) (D.int (0 : Int)) xo3 (D.el x20 (D.i x22)) xo19 Q)))
 (Q [(D.slc ([] : List D)), (D.int (0 : Int)), (D.bool false)]))
 (Q [(D.slc ([] : List D)), (D.int (0 : Int)), (D.bool false)])))))
 (Q [xo19, x10, (D.bool true)])) := by kernel_rfl
theorem L124_13_eq (n m0 m1 : Nat) (x1 : D) (x10 : D) (x20 : D) (x21 : D) (x22 : D) (x79 : D) (x80 : D) (x81 : D) (xo3 : D) (xo12 : D) (xo19 : D) (Q : List D → Prop) : L124_13 n m0 (m1 + 1) x1 x10 x20 x21 x22 x79 x80 x81 xo3 xo12 xo19 Q =
 (cond (iLt (D.i x81) (D.i x80))
 ((0 ≤ (D.i x81) ∧ (D.i x81) < (D.len x79)) ∧ (True ∧ (cond (iLt (D.i (D.fld (D.el x79 (D.i x81)) 0)) (0 : Int))
 (Q [(D.slc ([] : List D)), (D.int (0 : Int)), (D.bool false)])
 (cond (iLe (D.len xo19) (D.i (D.fld (D.el x79 (D.i x81)) 0)))
 (Q [(D.slc ([] : List D)), (D.int (0 : Int)), (D.bool false)])
 ((0 ≤ (D.i (D.fld (D.el x79 (D.i x81)) 0)) ∧ (D.i (D.fld (D.el x79 (D.i x81)) 0)) < (D.len xo19)) ∧ ((0 ≤ (D.i (D.fld (D.el x79 (D.i x81)) 0)) ∧ (D.i (D.fld (D.el x79 (D.i x81)) 0)) < (D.len xo19)) ∧ (True ∧ (L124_13 n m0 m1 x1 x10 x20 x21 x22 x79 x80 (D.int (IntKind.wrap .i64 ((D.i x81) + (1 : Int)))) xo3 xo12 (D.slc (List.set (D.xs xo19) (Int.toNat (D.i (D.fld (D.el x79 (D.i x81)) 0))) (D.int (IntKind.wrap .i64 ((D.i (List.getD (D.xs xo19) (Int.toNat (D.i (D.fld (D.el x79 (D.i x81)) 0))) D.und)) + (IntKind.wrap .i64 ((D.i (D.fld xo12 1)) * (D.i (D.fld (D.el x79 (D.i x81)) 1))))))))) Q))))))))
 (L124_3 n  m0 x1 x10 x20 x21 (D.int (IntKind.wrap .i64 ((D.i x22) + (1 : Int)))) xo3 xo19 Q)) := by kernel_rfl
theorem E124 (n : Nat) (d0 d1 d2 : D) (Q : List D → Prop) : wpF Try.prog A (n + 1) 124 [d0, d1, d2] Q =
 ((0 ≤ (minmax true (0 : Int) (D.i (D.fld d0 0))) ∧ (minmax true (0 : Int) (D.i (D.fld d0 0))) ≤ (minmax true (0 : Int) (D.i (D.fld d0 0))) ∧ room (minmax true (0 : Int) (D.i (D.fld d0 0))) 8) ∧ (L124_3 n  n d1 (D.int (0 : Int)) d2 (D.int (D.len d2)) (D.int (0 : Int)) d0 (D.slc (List.replicate (Int.toNat (minmax true (0 : Int) (D.i (D.fld d0 0)))) (D.int (0 : Int)))) Q)) := by kernel_rfl
attribute [irreducible] L124_3 L124_13

/- slices.IndexFunc[[]int,int] -/
def L136_2 (n m0 : Nat) (x0 : D) (x1 : D) (x7 : D) (x8 : D) (Q : List D → Prop) : Prop :=
  loopK (wpC Try.prog A (hnd Try.prog A n) 136 n (cA (cA (cB (cA (cB (bodyOf Try.f136))))))) (nmK (A.loop 136 2)) m0 { sl := [(0, .imm 22 x0), (1, .imm 175 x1), (7, .imm 3 x7), (8, .imm 3 x8)], ob := [] } (kBlock 0 (kSeq (wpC Try.prog A (hnd Try.prog A n) 136 n (cB (cB (bodyOf Try.f136)))) (kEnd Try.prog Try.f136 (A.sig 136) Q)))
theorem L136_2_eq (n m0 : Nat) (x0 : D) (x1 : D) (x7 : D) (x8 : D) (Q : List D → Prop) : L136_2 n (m0 + 1) x0 x1 x7 x8 Q =
 (cond (iLt (D.i x8) (D.i x7))
 ((0 ≤ (D.i x8) ∧ (D.i x8) < (D.len x0)) ∧ (dynH A (wpF Try.prog A n) x1 [.imm 3] [.val 4 .imm] [(D.el x0 (D.i x8))] fun r1 =>
 (cond (D.b (rs r1 0))
 (Q [x8])
 (L136_2 n  m0 x0 x1 x7 (D.int (IntKind.wrap .i64 ((D.i x8) + (1 : Int)))) Q))))
 (Q [(D.int (-1 : Int))])) := by kernel_rfl
theorem E136 (n : Nat) (d0 d1 : D) (Q : List D → Prop) : wpF Try.prog A (n + 1) 136 [d0, d1] Q =
 (L136_2 n  n d0 d1 (D.int (D.len d0)) (D.int (0 : Int)) Q) := by kernel_rfl
attribute [irreducible] L136_2

/- slices.ContainsFunc[[]int,int] -/
theorem E126 (n : Nat) (d0 d1 : D) (Q : List D → Prop) : wpF Try.prog A (n + 1) 126 [d0, d1] Q =
 (wpF Try.prog A n 136 [d0, d1] fun r1 =>
 (Q [(D.bool (iLe (0 : Int) (D.i (rs r1 0))))])) := by kernel_rfl

/- timebound/certificate.Leaf$1 -/
theorem E127 (n : Nat) (d0 : D) (Q : List D → Prop) : wpF Try.prog A (n + 1) 127 [d0] Q =
 (Q [(D.bool (iLt (D.i d0) (0 : Int)))]) := by kernel_rfl

/- timebound/certificate.floor -/
theorem E128 (n : Nat) (d0 d1 : D) (Q : List D → Prop) : wpF Try.prog A (n + 1) 128 [d0, d1] Q =
 ((D.i d1) ≠ (0 : Int) ∧ ((D.i d1) ≠ (0 : Int) ∧ (cond (iLt (Int.tmod (D.i d0) (D.i d1)) (0 : Int))
 (Q [(D.int (IntKind.wrap .i64 ((IntKind.wrap .i64 (Int.tdiv (D.i d0) (D.i d1))) - (1 : Int))))])
 (Q [(D.int (IntKind.wrap .i64 (Int.tdiv (D.i d0) (D.i d1))))])))) := by kernel_rfl

/- timebound/certificate.Leaf -/
def L101_5 (n m0 : Nat) (x10 : D) (x39 : D) (x40 : D) (x41 : D) (xo3 : D) (xo5 : D) (xo20 : D) (Q : List D → Prop) : Prop :=
  loopK (wpC Try.prog A (hnd Try.prog A n) 101 n (cA (cA (cB (cA (cB (cB (cB (bodyOf Try.f101))))))))) (nmK (A.loop 101 5)) m0 { sl := [(3, .ptr 3 [] 82), (5, .ptr 5 [] 94), (9, .val 20 [] 22), (10, .imm 3 x10), (39, .imm 80 x39), (40, .imm 3 x40), (41, .imm 3 x41)], ob := [(3, some ⟨true, 82, .imm, xo3⟩), (5, some ⟨true, 94, .imm, xo5⟩), (20, some ⟨false, 22, (.slc .imm none), xo20⟩)] } (kBlock 0 (kSeq (wpC Try.prog A (hnd Try.prog A n) 101 n (cB (cB (cB (cB (bodyOf Try.f101)))))) (kEnd Try.prog Try.f101 (A.sig 101) Q)))
theorem L101_5_eq (n m0 : Nat) (x10 : D) (x39 : D) (x40 : D) (x41 : D) (xo3 : D) (xo5 : D) (xo20 : D) (Q : List D → Prop) : L101_5 n (m0 + 1) x10 x39 x40 x41 xo3 xo5 xo20 Q =
 (cond (iLt (D.i x41) (D.i x40))
 ((0 ≤ (D.i x41) ∧ (D.i x41) < (D.len x39)) ∧ (True ∧ ((0 ≤ (D.i (D.fld (D.el x39 (D.i x41)) 0)) ∧ (D.i (D.fld (D.el x39 (D.i x41)) 0)) < (D.len xo20)) ∧ ((0 ≤ (D.i (D.fld (D.el x39 (D.i x41)) 0)) ∧ (D.i (D.fld (D.el x39 (D.i x41)) 0)) < (D.len xo20)) ∧ (True ∧ (L101_5 n  m0 x10 x39 x40 (D.int (IntKind.wrap .i64 ((D.i x41) + (1 : Int)))) xo3 xo5 (D.slc (List.set (D.xs xo20) (Int.toNat (D.i (D.fld (D.el x39 (D.i x41)) 0))) (D.int (IntKind.wrap .i64 ((D.i (List.getD (D.xs xo20) (Int.toNat (D.i (D.fld (D.el x39 (D.i x41)) 0))) D.und)) - (IntKind.wrap .i64 ((D.i (D.fld xo5 5)) * (D.i (D.fld (D.el x39 (D.i x41)) 1))))))))) Q))))))
 (wpF Try.prog A n 126 [xo20, (D.fn 127 [])] fun r3 =>
 (cond (D.b (rs r3 0))
 (Q [(D.int (0 : Int)), (D.bool false), (D.bool false)])
 (cond (iLt (0 : Int) (D.i (D.fld xo5 5)))
 (wpF Try.prog A n 128 [x10, (D.fld xo5 5)] fun r4 =>
 (Q [(D.int (IntKind.wrap .i64 ((D.i (D.fld xo3 3)) + (D.i (rs r4 0))))), (D.bool true), (D.bool false)]))
 (cond (iLt (D.i x10) (0 : Int))
 (Q [(D.int (0 : Int)), (D.bool true), (D.bool true)])
 (Q [(D.int (0 : Int)), (D.bool false), (D.bool false)])))))) := by kernel_rfl
theorem E101 (n : Nat) (d0 d1 d2 : D) (Q : List D → Prop) : wpF Try.prog A (n + 1) 101 [d0, d1, d2] Q =
 (wpF Try.prog A n 124 [d0, d1, (D.fld d2 4)] fun r1 =>
 (cond (!(D.b (rs r1 2)))
 (Q [(D.int (0 : Int)), (D.bool false), (D.bool false)])
 (wpF Try.prog A n 125 [(D.fld d0 2), (D.fld d0 0), (D.int (16777216 : Int))] fun r2 =>
 (cond (!(D.b (rs r2 0)))
 (Q [(D.int (0 : Int)), (D.bool false), (D.bool false)])
 (cond (iLt (D.i (D.fld d2 5)) (0 : Int))
 (Q [(D.int (0 : Int)), (D.bool false), (D.bool false)])
 (L101_5 n  n (rs r1 1) (D.fld d0 2) (D.int (D.len (D.fld d0 2))) (D.int (0 : Int)) d0 d2 (rs r1 0) Q)))))) := by kernel_rfl
attribute [irreducible] L101_5

/- timebound/certificate.Check -/
def L53_9 (n m0 : Nat) (x24 : D) (x25 : D) (x26 : D) (xo2 : D) (xo3 : D) (xo19 : D) (Q : List D → Prop) : Prop :=
  loopK (wpC Try.prog A (hnd Try.prog A n) 53 n (cA (cA (cB (cA (cB (cB (cB (cB (cB (bodyOf Try.f53))))))))))) (nmK (A.loop 53 9)) m0 { sl := [(2, .ptr 2 [] 82), (3, .ptr 3 [] 78), (5, .val 19 [] 151), (24, .imm 76 x24), (25, .imm 3 x25), (26, .imm 3 x26)], ob := [(2, some ⟨true, 82, .imm, xo2⟩), (3, some ⟨true, 78, .imm, xo3⟩), (19, some ⟨false, 151, (.slc .imm none), xo19⟩)] } (kBlock 0 (kSeq (wpC Try.prog A (hnd Try.prog A n) 53 n (cB (cB (cB (cB (cB (cB (bodyOf Try.f53)))))))) (kEnd Try.prog Try.f53 (A.sig 53) Q)))
theorem L53_9_eq (n m0 : Nat) (x24 : D) (x25 : D) (x26 : D) (xo2 : D) (xo3 : D) (xo19 : D) (Q : List D → Prop) : L53_9 n (m0 + 1) x24 x25 x26 xo2 xo3 xo19 Q =
 (cond (iLt (D.i x26) (D.i x25))
 ((0 ≤ (D.i x26) ∧ (D.i x26) < (D.len x24)) ∧ (True ∧ (wpF Try.prog A n 100 [(D.el x24 (D.i x26))] fun r5 =>
 (cond (!(D.b (rs r5 0)))
 (L53_9 n  m0 x24 x25 (D.int (IntKind.wrap .i64 ((D.i x26) + (1 : Int)))) xo2 xo3 xo19 Q)
 ((0 ≤ (D.i x26) ∧ (D.i x26) < (D.len xo19)) ∧ (wpF Try.prog A n 101 [xo2, (List.getD (D.xs xo19) (Int.toNat (D.i x26)) D.und), (D.el x24 (D.i x26))] fun r6 =>
 (cond (!(D.b (rs r6 1)))
 (Q [(D.int (37 : Int))])
 (cond (!(D.b (rs r6 2)))
 (cond (iLt (D.i (D.fld xo3 1)) (D.i (rs r6 0)))
 (Q [(D.int (37 : Int))])
 (L53_9 n  m0 x24 x25 (D.int (IntKind.wrap .i64 ((D.i x26) + (1 : Int)))) xo2 xo3 xo19 Q))
 (L53_9 n  m0 x24 x25 (D.int (IntKind.wrap .i64 ((D.i x26) + (1 : Int)))) xo2 xo3 xo19 Q)))))))))
 (Q [(D.int (0 : Int))])) := by kernel_rfl
theorem E53 (n : Nat) (d0 d1 : D) (Q : List D → Prop) : wpF Try.prog A (n + 1) 53 [d0, d1] Q =
 (wpF Try.prog A n 92 [d0] fun r1 =>
 (cond (!(D.b (rs r1 0)))
 (Q [(D.int (33 : Int))])
 (wpF Try.prog A n 51 [d0, d1] fun r2 =>
 (cond (!(D.b (rs r2 0)))
 (Q [(D.int (10 : Int))])
 (wpF Try.prog A n 97 [d1] fun r3 =>
 (wpF Try.prog A n 98 [(rs r3 0), (D.fn 99 [(D.ptr d0)])] fun r4 =>
 (cond (D.b (rs r4 0))
 (Q [(D.int (10 : Int))])
 (L53_9 n  n (D.fld d1 0) (D.int (D.len (D.fld d1 0))) (D.int (0 : Int)) d0 d1 (rs r3 0) Q)))))))) := by kernel_rfl
attribute [irreducible] L53_9

/- timebound/certificate.Cases -/
def L55_3 (n m0 : Nat) (x3 : D) (x7 : D) (x8 : D) (x9 : D) (Q : List D → Prop) : Prop :=
  loopK (wpC Try.prog A (hnd Try.prog A n) 55 n (cA (cA (cB (cA (cB (cB (bodyOf Try.f55)))))))) (nmK (A.loop 55 3)) m0 { sl := [(3, .imm 3 x3), (7, .imm 76 x7), (8, .imm 3 x8), (9, .imm 3 x9)], ob := [] } (kBlock 0 (kSeq (wpC Try.prog A (hnd Try.prog A n) 55 n (cB (cB (cB (bodyOf Try.f55))))) (kEnd Try.prog Try.f55 (A.sig 55) Q)))
theorem L55_3_eq (n m0 : Nat) (x3 : D) (x7 : D) (x8 : D) (x9 : D) (Q : List D → Prop) : L55_3 n (m0 + 1) x3 x7 x8 x9 Q =
 (cond (iLt (D.i x9) (D.i x8))
 ((0 ≤ (D.i x9) ∧ (D.i x9) < (D.len x7)) ∧ (True ∧ (wpF Try.prog A n 100 [(D.el x7 (D.i x9))] fun r1 =>
 (cond (D.b (rs r1 0))
 (L55_3 n  m0 (D.int (IntKind.wrap .i64 ((D.i x3) + (1 : Int)))) x7 x8 (D.int (IntKind.wrap .i64 ((D.i x9) + (1 : Int)))) Q)
 (L55_3 n  m0 x3 x7 x8 (D.int (IntKind.wrap .i64 ((D.i x9) + (1 : Int)))) Q)))))
 (Q [x3])) := by kernel_rfl
theorem E55 (n : Nat) (d0 : D) (Q : List D → Prop) : wpF Try.prog A (n + 1) 55 [d0] Q =
 (L55_3 n  n (D.int (0 : Int)) (D.fld d0 0) (D.int (D.len (D.fld d0 0))) (D.int (0 : Int)) Q) := by kernel_rfl
attribute [irreducible] L55_3

/- timebound/timeboundlaw34.awake -/
theorem E47 (n : Nat)  (Q : List D → Prop) : wpF Try.prog A (n + 1) 47 [] Q =
 (wpF Try.prog A n 88 [] fun r1 =>
 (True ∧ (True ∧ (True ∧ (True ∧ (wpF Try.prog A n 53 [(rs r1 0), (rs r1 1)] fun r2 =>
 (cond (iEq (D.i (rs r2 0)) (0 : Int))
 (wpF Try.prog A n 53 [(rs r1 0), (D.agg [(D.fld (rs r1 1) 0), (D.int (0 : Int))])] fun r3 =>
 (cond (iEq (D.i (rs r3 0)) (37 : Int))
 (wpF Try.prog A n 55 [(rs r1 1)] fun r4 =>
 (Q [(D.bool (iEq (D.i (rs r4 0)) (1 : Int)))]))
 (Q [(D.bool false)])))
 (Q [(D.bool false)])))))))) := by kernel_rfl

/- timebound/timeboundmake2.Terms -/
def L60_3 (n m0 : Nat) (x1 : D) (x6 : D) (xo0 : D) (xo5 : D) (Q : List D → Prop) : Prop :=
  loopK (wpC Try.prog A (hnd Try.prog A n) 60 n (cA (cA (cB (cA (cB (cB (bodyOf Try.f60)))))))) (nmK (A.loop 60 3)) m0 { sl := [(0, .ptr 0 [] 110), (1, .imm 3 x1), (5, .val 5 [] 80), (6, .imm 3 x6)], ob := [(0, some ⟨true, 110, .imm, xo0⟩), (5, some ⟨false, 80, (.slc .imm none), xo5⟩)] } (kBlock 0 (kSeq (wpC Try.prog A (hnd Try.prog A n) 60 n (cB (cB (cB (bodyOf Try.f60))))) (kEnd Try.prog Try.f60 (A.sig 60) Q)))
theorem L60_3_eq (n m0 : Nat) (x1 : D) (x6 : D) (xo0 : D) (xo5 : D) (Q : List D → Prop) : L60_3 n (m0 + 1) x1 x6 xo0 xo5 Q =
 (cond (iLt (D.i x6) (D.i x1))
 (wpF Try.prog A n 18 [xo0, (D.int (19 : Int))] fun r1 =>
 (cond (!(iEq (IntKind.wrap .i64 ((D.i (rs r1 0)) - (9 : Int))) (0 : Int)))
 (wpF Try.prog A n 18 [(rs r1 1), (D.int (3 : Int))] fun r2 =>
 (cond (iLt (0 : Int) (D.i (rs r2 0)))
 (room (((List.length (D.xs xo5) : Nat) : Int) + ((List.length [(D.agg [x6, (D.int (IntKind.wrap .i64 ((D.i (rs r1 0)) - (9 : Int))))])] : Nat) : Int)) 16 ∧ (L60_3 n  m0 x1 (D.int (IntKind.wrap .i64 ((D.i x6) + (1 : Int)))) (rs r2 1) (D.slc ((D.xs xo5) ++ [(D.agg [x6, (D.int (IntKind.wrap .i64 ((D.i (rs r1 0)) - (9 : Int))))])])) Q))
 (L60_3 n  m0 x1 (D.int (IntKind.wrap .i64 ((D.i x6) + (1 : Int)))) (rs r2 1) xo5 Q)))
 (L60_3 n  m0 x1 (D.int (IntKind.wrap .i64 ((D.i x6) + (1 : Int)))) (rs r1 1) xo5 Q)))
 (Q [xo5, xo0])) := by kernel_rfl
theorem E60 (n : Nat) (d0 d1 : D) (Q : List D → Prop) : wpF Try.prog A (n + 1) 60 [d0, d1] Q =
 (L60_3 n  n d1 (D.int (0 : Int)) d0 (D.slc ([] : List D)) Q) := by kernel_rfl
attribute [irreducible] L60_3

/- timebound/timeboundmake2.Model -/
def L89_4 (n m0 : Nat) (x6 : D) (xo0 : D) (xo4 : D) (xo5 : D) (Q : List D → Prop) : Prop :=
  loopK (wpC Try.prog A (hnd Try.prog A n) 89 n (cA (cA (cB (cA (cB (cB (cB (bodyOf Try.f89))))))))) (nmK (A.loop 89 4)) m0 { sl := [(0, .ptr 0 [] 110), (4, .ptr 4 [] 82), (5, .ptr 5 [] 82), (6, .imm 3 x6)], ob := [(0, some ⟨true, 110, .imm, xo0⟩), (4, some ⟨true, 82, (.agg [(1, (.slc (.agg [(0, (.slc .imm none))]) none)), (2, (.slc .imm none))]), xo4⟩), (5, some ⟨true, 82, (.agg [(1, (.slc .imm none)), (2, (.slc .imm none))]), xo5⟩)] } (kBlock 0 (kSeq (wpC Try.prog A (hnd Try.prog A n) 89 n (cB (cB (cB (cB (bodyOf Try.f89)))))) (kEnd Try.prog Try.f89 (A.sig 89) Q)))
def L89_9 (n m0 m1 : Nat) (x6 : D) (x41 : D) (x42 : D) (xo0 : D) (xo4 : D) (xo5 : D) (xo7 : D) (Q : List D → Prop) : Prop :=
  loopK (wpC Try.prog A (hnd Try.prog A n) 89 n (cA (cA (cB (cA (cA (cB (cA (cB (cA (cA (cB (cA (cA (cB (cA (cB (cB (cB (bodyOf Try.f89)))))))))))))))))))) (nmK (A.loop 89 9)) m1 { sl := [(0, .ptr 0 [] 110), (4, .ptr 4 [] 82), (5, .ptr 5 [] 82), (6, .imm 3 x6), (7, .ptr 7 [] 100), (41, .imm 3 x41), (42, .imm 3 x42)], ob := [(0, some ⟨true, 110, .imm, xo0⟩), (4, some ⟨true, 82, (.agg [(1, (.slc (.agg [(0, (.slc .imm none))]) none)), (2, (.slc .imm none))]), xo4⟩), (5, some ⟨true, 82, (.agg [(1, (.slc .imm none)), (2, (.slc .imm none))]), xo5⟩), (7, some ⟨true, 100, (.agg [(0, (.slc .imm none))]), xo7⟩)] } (kBlock 2 (kSeq (wpC Try.prog A (hnd Try.prog A n) 89 n (cB (cA (cB (cA (cB (cA (cA (cB (cA (cA (cB (cA (cB (cB (cB (bodyOf Try.f89))))))))))))))))) (kSeq (wpC Try.prog A (hnd Try.prog A n) 89 n (cB (cB (cA (cA (cB (cA (cA (cB (cA (cB (cB (cB (bodyOf Try.f89)))))))))))))) (kBlock 1 (kSeq (wpC Try.prog A (hnd Try.prog A n) 89 n (cB (cB (cA (cA (cB (cA (cB (cB (cB (bodyOf Try.f89))))))))))) (kLoop (nmK (A.loop 89 4)) (fun g => loopK (wpC Try.prog A (hnd Try.prog A n) 89 n (cA (cA (cB (cA (cB (cB (cB (bodyOf Try.f89))))))))) (nmK (A.loop 89 4)) m0 g (kBlock 0 (kSeq (wpC Try.prog A (hnd Try.prog A n) 89 n (cB (cB (cB (cB (bodyOf Try.f89)))))) (kEnd Try.prog Try.f89 (A.sig 89) Q)))) (kBlock 0 (kSeq (wpC Try.prog A (hnd Try.prog A n) 89 n (cB (cB (cB (cB (bodyOf Try.f89)))))) (kEnd Try.prog Try.f89 (A.sig 89) Q)))))))))
theorem L89_4_eq (n m0 : Nat) (x6 : D) (xo0 : D) (xo4 : D) (xo5 : D) (Q : List D → Prop) : L89_4 n (m0 + 1) x6 xo0 xo4 xo5 Q =
 (cond (iLt (0 : Int) (D.i x6))
 (wpF Try.prog A n 60 [xo0, (D.fld xo5 0)] fun r5 =>
 (wpF Try.prog A n 18 [(rs r5 1), (D.int (61 : Int))] fun r6 =>
 (True ∧ (wpF Try.prog A n 18 [(rs r6 1), (D.int (3 : Int))] fun r7 =>
 (cond (iLt (0 : Int) (D.i (rs r7 0)))
 (L89_9 n m0 n x6 (D.int (D.len (rs r5 0))) (D.int (0 : Int)) (rs r7 1) xo4 xo5 (D.agg [(rs r5 0), (D.int (IntKind.wrap .i64 ((D.i (rs r6 0)) - (10 : Int))))]) Q)
 (room (((List.length (D.xs (D.fld xo5 1)) : Nat) : Int) + ((List.length [(D.agg [(rs r5 0), (D.int (IntKind.wrap .i64 ((D.i (rs r6 0)) - (10 : Int))))])] : Nat) : Int)) 32 ∧ (True ∧ (L89_4 n  m0 (D.int (IntKind.wrap .i64 ((D.i x6) - (1 : Int)))) (rs r7 1) xo4 (D.agg [(D.fld xo5 0), (D.slc ((D.xs (D.fld xo5 1)) ++ [(D.agg [(rs r5 0), (D.int (IntKind.wrap .i64 ((D.i (rs r6 0)) - (10 : Int))))])])), (D.fld xo5 2), (D.fld xo5 3)]) Q))))))))
 (True ∧ (Q [xo5, xo0]))) := by kernel_rfl
theorem L89_9_eq (n m0 m1 : Nat) (x6 : D) (x41 : D) (x42 : D) (xo0 : D) (xo4 : D) (xo5 : D) (xo7 : D) (Q : List D → Prop) : L89_9 n m0 (m1 + 1) x6 x41 x42 xo0 xo4 xo5 xo7 Q =
 (cond (iLt (D.i x42) (D.i x41))
 ((0 ≤ (D.i x42) ∧ (D.i x42) < (D.len (D.fld xo7 0))) ∧ ((0 ≤ (D.i x42) ∧ (D.i x42) < (D.len (D.fld xo7 0))) ∧ ((0 ≤ (D.i x42) ∧ (D.i x42) < (D.len (D.fld xo7 0))) ∧ (True ∧ (L89_9 n m0 m1 x6 x41 (D.int (IntKind.wrap .i64 ((D.i x42) + (1 : Int)))) xo0 xo4 xo5 (D.agg [(D.slc (List.set (D.xs (D.fld xo7 0)) (Int.toNat (D.i x42)) (D.agg [(D.fld (List.getD (D.xs (D.fld xo7 0)) (Int.toNat (D.i x42)) D.und) 0), (D.int (minmax true (D.i (D.fld (List.getD (D.xs (D.fld xo7 0)) (Int.toNat (D.i x42)) D.und) 1)) (IntKind.wrap .i64 ((0 : Int) - (D.i (D.fld (List.getD (D.xs (D.fld xo7 0)) (Int.toNat (D.i x42)) D.und) 1))))))]))), (D.fld xo7 1)]) Q)))))
 (True ∧ (room (((List.length (D.xs (D.fld xo5 1)) : Nat) : Int) + ((List.length [(D.agg [(D.fld xo7 0), (D.int (minmax true (D.i (D.fld xo7 1)) (IntKind.wrap .i64 ((0 : Int) - (D.i (D.fld xo7 1))))))])] : Nat) : Int)) 32 ∧ (True ∧ (L89_4 n  m0 (D.int (IntKind.wrap .i64 ((D.i x6) - (1 : Int)))) xo0 xo4 (D.agg [(D.fld xo5 0), (D.slc ((D.xs (D.fld xo5 1)) ++ [(D.agg [(D.fld xo7 0), (D.int (minmax true (D.i (D.fld xo7 1)) (IntKind.wrap .i64 ((0 : Int) - (D.i (D.fld xo7 1))))))])])), (D.fld xo5 2), (D.fld xo5 3)]) Q))))) := by kernel_rfl
theorem E89 (n : Nat) (d0 d1 : D) (Q : List D → Prop) : wpF Try.prog A (n + 1) 89 [d0, d1] Q =
 (wpF Try.prog A n 18 [d0, (D.int (IntKind.wrap .i64 ((D.i d1) + (1 : Int))))] fun r1 =>
 (wpF Try.prog A n 18 [(rs r1 1), (D.int (9 : Int))] fun r2 =>
 (True ∧ (wpF Try.prog A n 60 [(rs r2 1), (rs r1 0)] fun r3 =>
 (True ∧ (wpF Try.prog A n 18 [(rs r3 1), (D.int (7 : Int))] fun r4 =>
 (L89_4 n  n (rs r4 0) (rs r4 1) (D.agg [(D.int (0 : Int)), (D.slc ([] : List D)), (D.slc ([] : List D)), (D.int (0 : Int))]) (D.agg [(rs r1 0), (D.slc ([] : List D)), (rs r3 0), (D.int (IntKind.wrap .i64 ((D.i (rs r2 0)) - (4 : Int))))]) Q))))))) := by kernel_rfl
attribute [irreducible] L89_4 L89_9

/- timebound/timeboundmake2.Box -/
def L90_3 (n m0 : Nat) (x7 : D) (x8 : D) (xo0 : D) (xo5 : D) (Q : List D → Prop) : Prop :=
  loopK (wpC Try.prog A (hnd Try.prog A n) 90 n (cA (cA (cB (cA (cB (cB (bodyOf Try.f90)))))))) (nmK (A.loop 90 3)) m0 { sl := [(0, .ptr 0 [] 110), (5, .val 5 [] 22), (7, .imm 3 x7), (8, .imm 3 x8)], ob := [(0, some ⟨true, 110, .imm, xo0⟩), (5, some ⟨false, 22, (.slc .imm none), xo5⟩)] } (kBlock 0 (kSeq (wpC Try.prog A (hnd Try.prog A n) 90 n (cB (cB (cB (bodyOf Try.f90))))) (kEnd Try.prog Try.f90 (A.sig 90) Q)))
theorem L90_3_eq (n m0 : Nat) (x7 : D) (x8 : D) (xo0 : D) (xo5 : D) (Q : List D → Prop) : L90_3 n (m0 + 1) x7 x8 xo0 xo5 Q =
 (cond (iLt (D.i x8) (D.i x7))
 (wpF Try.prog A n 18 [xo0, (D.int (4 : Int))] fun r1 =>
 (room (((List.length (D.xs xo5) : Nat) : Int) + ((List.length [(rs r1 0)] : Nat) : Int)) 8 ∧ (L90_3 n  m0 x7 (D.int (IntKind.wrap .i64 ((D.i x8) + (1 : Int)))) (rs r1 1) (D.slc ((D.xs xo5) ++ [(rs r1 0)])) Q)))
 (Q [xo5, xo0])) := by kernel_rfl
theorem E90 (n : Nat) (d0 d1 : D) (Q : List D → Prop) : wpF Try.prog A (n + 1) 90 [d0, d1] Q =
 (L90_3 n  n (D.fld d1 0) (D.int (0 : Int)) d0 (D.slc ([] : List D)) Q) := by kernel_rfl
attribute [irreducible] L90_3

/- timebound/timeboundref32.terms -/
def L129_2 (n m0 : Nat) (x0 : D) (x1 : D) (x2 : D) (x9 : D) (x10 : D) (x11 : D) (Q : List D → Prop) : Prop :=
  loopK (wpC Try.prog A (hnd Try.prog A n) 129 n (cA (cA (cB (cA (cB (bodyOf Try.f129))))))) (nmK (A.loop 129 2)) m0 { sl := [(0, .imm 80 x0), (1, .imm 3 x1), (2, .imm 3 x2), (9, .imm 80 x9), (10, .imm 3 x10), (11, .imm 3 x11)], ob := [] } (kBlock 0 (kSeq (wpC Try.prog A (hnd Try.prog A n) 129 n (cB (cB (bodyOf Try.f129)))) (kEnd Try.prog Try.f129 (A.sig 129) Q)))
theorem L129_2_eq (n m0 : Nat) (x0 : D) (x1 : D) (x2 : D) (x9 : D) (x10 : D) (x11 : D) (Q : List D → Prop) : L129_2 n (m0 + 1) x0 x1 x2 x9 x10 x11 Q =
 (cond (iLt (D.i x11) (D.i x10))
 ((0 ≤ (D.i x11) ∧ (D.i x11) < (D.len x9)) ∧ (True ∧ (cond (iLt (D.i (D.fld (D.el x9 (D.i x11)) 0)) (0 : Int))
 (Q [(D.bool false)])
 (cond (iLe (D.i x1) (D.i (D.fld (D.el x9 (D.i x11)) 0)))
 (Q [(D.bool false)])
 (cond (iEq (D.i (D.fld (D.el x9 (D.i x11)) 1)) (0 : Int))
 (Q [(D.bool false)])
 (cond (iLt (D.i (D.fld (D.el x9 (D.i x11)) 1)) (IntKind.wrap .i64 ((0 : Int) - (D.i x2))))
 (Q [(D.bool false)])
 (cond (iLt (D.i x2) (D.i (D.fld (D.el x9 (D.i x11)) 1)))
 (Q [(D.bool false)])
 (cond (iLt (0 : Int) (D.i x11))
 ((0 ≤ (IntKind.wrap .i64 ((D.i x11) - (1 : Int))) ∧ (IntKind.wrap .i64 ((D.i x11) - (1 : Int))) < (D.len x0)) ∧ (cond (iLe (D.i (D.fld (D.el x9 (D.i x11)) 0)) (D.i (D.fld (D.el x0 (IntKind.wrap .i64 ((D.i x11) - (1 : Int)))) 0)))
 (Q [(D.bool false)])
 (L129_2 n  m0 x0 x1 x2 x9 x10 (D.int (IntKind.wrap .i64 ((D.i x11) + (1 : Int)))) Q)))
 (L129_2 n  m0 x0 x1 x2 x9 x10 (D.int (IntKind.wrap .i64 ((D.i x11) + (1 : Int)))) Q)))))))))
 (Q [(D.bool true)])) := by kernel_rfl
theorem E129 (n : Nat) (d0 d1 d2 : D) (Q : List D → Prop) : wpF Try.prog A (n + 1) 129 [d0, d1, d2] Q =
 (L129_2 n  n d0 d1 d2 d0 (D.int (D.len d0)) (D.int (0 : Int)) Q) := by kernel_rfl
attribute [irreducible] L129_2

/- timebound/timeboundref32.Row -/
theorem E120 (n : Nat) (d0 d1 : D) (Q : List D → Prop) : wpF Try.prog A (n + 1) 120 [d0, d1] Q =
 (wpF Try.prog A n 129 [(D.fld d0 0), d1, (D.int (1048576 : Int))] fun r1 =>
 (cond (D.b (rs r1 0))
 (cond (iLe (-1048576 : Int) (D.i (D.fld d0 1)))
 (Q [(D.bool (iLe (D.i (D.fld d0 1)) (1048576 : Int)))])
 (Q [(D.bool false)]))
 (Q [(D.bool false)]))) := by kernel_rfl

/- timebound/timeboundref32.Valid -/
def L102_2 (n m0 : Nat) (x6 : D) (x7 : D) (x8 : D) (xo1 : D) (Q : List D → Prop) : Prop :=
  loopK (wpC Try.prog A (hnd Try.prog A n) 102 n (cA (cA (cB (cA (cB (bodyOf Try.f102))))))) (nmK (A.loop 102 2)) m0 { sl := [(1, .ptr 1 [] 82), (6, .imm 79 x6), (7, .imm 3 x7), (8, .imm 3 x8)], ob := [(1, some ⟨true, 82, .imm, xo1⟩)] } (kBlock 0 (kSeq (wpC Try.prog A (hnd Try.prog A n) 102 n (cB (cB (bodyOf Try.f102)))) (kEnd Try.prog Try.f102 (A.sig 102) Q)))
theorem L102_2_eq (n m0 : Nat) (x6 : D) (x7 : D) (x8 : D) (xo1 : D) (Q : List D → Prop) : L102_2 n (m0 + 1) x6 x7 x8 xo1 Q =
 (cond (iLt (D.i x8) (D.i x7))
 ((0 ≤ (D.i x8) ∧ (D.i x8) < (D.len x6)) ∧ (True ∧ (wpF Try.prog A n 120 [(D.el x6 (D.i x8)), (D.fld xo1 0)] fun r1 =>
 (cond (!(D.b (rs r1 0)))
 (Q [(D.bool false)])
 (L102_2 n  m0 x6 x7 (D.int (IntKind.wrap .i64 ((D.i x8) + (1 : Int)))) xo1 Q)))))
 (cond (iLe (0 : Int) (D.i (D.fld xo1 0)))
 (cond (iLe (D.i (D.fld xo1 0)) (300 : Int))
 (cond (iLe (D.len (D.fld xo1 1)) (400 : Int))
 (wpF Try.prog A n 129 [(D.fld xo1 2), (D.fld xo1 0), (D.int (16777216 : Int))] fun r2 =>
 (cond (D.b (rs r2 0))
 (cond (iLe (-16777216 : Int) (D.i (D.fld xo1 3)))
 (Q [(D.bool (iLe (D.i (D.fld xo1 3)) (16777216 : Int)))])
 (Q [(D.bool false)]))
 (Q [(D.bool false)])))
 (Q [(D.bool false)]))
 (Q [(D.bool false)]))
 (Q [(D.bool false)]))) := by kernel_rfl
theorem E102 (n : Nat) (d0 : D) (Q : List D → Prop) : wpF Try.prog A (n + 1) 102 [d0] Q =
 (L102_2 n  n (D.fld d0 1) (D.int (D.len (D.fld d0 1))) (D.int (0 : Int)) d0 Q) := by kernel_rfl
attribute [irreducible] L102_2

/- timebound/timeboundref32.Small -/
def L117_4 (n m0 : Nat) (x38 : D) (x39 : D) (x40 : D) (xo1 : D) (Q : List D → Prop) : Prop :=
  loopK (wpC Try.prog A (hnd Try.prog A n) 117 n (cA (cA (cB (cA (cB (cB (bodyOf Try.f117)))))))) (nmK (A.loop 117 4)) m0 { sl := [(1, .ptr 1 [] 82), (38, .imm 79 x38), (39, .imm 3 x39), (40, .imm 3 x40)], ob := [(1, some ⟨true, 82, .imm, xo1⟩)] } (kBlock 0 (kSeq (wpC Try.prog A (hnd Try.prog A n) 117 n (cB (cB (cB (bodyOf Try.f117))))) (kEnd Try.prog Try.f117 (A.sig 117) Q)))
theorem L117_4_eq (n m0 : Nat) (x38 : D) (x39 : D) (x40 : D) (xo1 : D) (Q : List D → Prop) : L117_4 n (m0 + 1) x38 x39 x40 xo1 Q =
 (cond (iLt (D.i x40) (D.i x39))
 ((0 ≤ (D.i x40) ∧ (D.i x40) < (D.len x38)) ∧ (True ∧ (wpF Try.prog A n 129 [(D.fld (D.el x38 (D.i x40)) 0), (D.fld xo1 0), (D.int (9 : Int))] fun r3 =>
 (cond (!(D.b (rs r3 0)))
 (Q [(D.bool false)])
 (cond (iLt (D.i (D.fld (D.el x38 (D.i x40)) 1)) (-50 : Int))
 (Q [(D.bool false)])
 (cond (iLt (50 : Int) (D.i (D.fld (D.el x38 (D.i x40)) 1)))
 (Q [(D.bool false)])
 (L117_4 n  m0 x38 x39 (D.int (IntKind.wrap .i64 ((D.i x40) + (1 : Int)))) xo1 Q)))))))
 (Q [(D.bool true)])) := by kernel_rfl
theorem E117 (n : Nat) (d0 : D) (Q : List D → Prop) : wpF Try.prog A (n + 1) 117 [d0] Q =
 (wpF Try.prog A n 102 [d0] fun r1 =>
 (cond (!(D.b (rs r1 0)))
 (Q [(D.bool false)])
 (cond (iLt (6 : Int) (D.i (D.fld d0 0)))
 (Q [(D.bool false)])
 (cond (iLt (6 : Int) (D.len (D.fld d0 1)))
 (Q [(D.bool false)])
 (wpF Try.prog A n 129 [(D.fld d0 2), (D.fld d0 0), (D.int (9 : Int))] fun r2 =>
 (cond (!(D.b (rs r2 0)))
 (Q [(D.bool false)])
 (cond (iLt (D.i (D.fld d0 3)) (-9 : Int))
 (Q [(D.bool false)])
 (cond (iLt (9 : Int) (D.i (D.fld d0 3)))
 (Q [(D.bool false)])
 (L117_4 n  n (D.fld d0 1) (D.int (D.len (D.fld d0 1))) (D.int (0 : Int)) d0 Q))))))))) := by kernel_rfl
attribute [irreducible] L117_4

/- timebound/timeboundref33.Boxed -/
def L91_5 (n m0 : Nat) (x1 : D) (x36 : D) (x37 : D) (x38 : D) (xo4 : D) (xo6 : D) (Q : List D → Prop) : Prop :=
  loopK (wpC Try.prog A (hnd Try.prog A n) 91 n (cA (cA (cB (cA (cB (cB (cB (bodyOf Try.f91))))))))) (nmK (A.loop 91 5)) m0 { sl := [(1, .imm 22 x1), (4, .ptr 4 [] 82), (6, .ptr 6 [] 82), (36, .imm 79 x36), (37, .imm 3 x37), (38, .imm 3 x38)], ob := [(4, some ⟨true, 82, (.agg [(1, (.slc (.agg [(0, (.slc .imm none))]) none)), (2, (.slc .imm none))]), xo4⟩), (6, some ⟨true, 82, (.agg [(1, (.slc (.agg [(0, (.slc .imm none))]) none)), (2, (.slc .imm none))]), xo6⟩)] } (kBlock 0 (kSeq (wpC Try.prog A (hnd Try.prog A n) 91 n (cB (cB (cB (cB (bodyOf Try.f91)))))) (kEnd Try.prog Try.f91 (A.sig 91) Q)))
def L91_10 (n m0 : Nat) (x54 : D) (x55 : D) (x56 : D) (xo4 : D) (xo6 : D) (Q : List D → Prop) : Prop :=
  loopK (wpC Try.prog A (hnd Try.prog A n) 91 n (cA (cA (cB (cA (cB (cB (cB (cB (bodyOf Try.f91)))))))))) (nmK (A.loop 91 10)) m0 { sl := [(4, .ptr 4 [] 82), (6, .ptr 6 [] 82), (54, .imm 22 x54), (55, .imm 3 x55), (56, .imm 3 x56)], ob := [(4, some ⟨true, 82, (.agg [(1, (.slc (.agg [(0, (.slc .imm none))]) none)), (2, (.slc .imm none))]), xo4⟩), (6, some ⟨true, 82, (.agg [(1, (.slc (.agg [(0, (.slc .imm none))]) none)), (2, (.slc .imm none))]), xo6⟩)] } (kBlock 2 (kSeq (wpC Try.prog A (hnd Try.prog A n) 91 n (cB (cB (cB (cB (cB (bodyOf Try.f91))))))) (kEnd Try.prog Try.f91 (A.sig 91) Q)))
theorem L91_5_eq (n m0 : Nat) (x1 : D) (x36 : D) (x37 : D) (x38 : D) (xo4 : D) (xo6 : D) (Q : List D → Prop) : L91_5 n (m0 + 1) x1 x36 x37 x38 xo4 xo6 Q =
 (cond (iLt (D.i x38) (D.i x37))
 ((0 ≤ (D.i x38) ∧ (D.i x38) < (D.len x36)) ∧ (True ∧ (room ((List.length (D.xs (D.fld (D.el x36 (D.i x38)) 0)) : Nat) : Int) 16 ∧ (room (((List.length (D.xs (D.fld xo6 1)) : Nat) : Int) + ((List.length [(D.agg [(D.slc (D.xs (D.fld (D.el x36 (D.i x38)) 0))), (D.fld (D.el x36 (D.i x38)) 1)])] : Nat) : Int)) 32 ∧ (True ∧ (L91_5 n  m0 x1 x36 x37 (D.int (IntKind.wrap .i64 ((D.i x38) + (1 : Int)))) xo4 (D.agg [(D.fld xo6 0), (D.slc ((D.xs (D.fld xo6 1)) ++ [(D.agg [(D.slc (D.xs (D.fld (D.el x36 (D.i x38)) 0))), (D.fld (D.el x36 (D.i x38)) 1)])])), (D.fld xo6 2), (D.fld xo6 3)]) Q))))))
 (L91_10 n  n x1 (D.int (D.len x1)) (D.int (0 : Int)) xo4 xo6 Q)) := by kernel_rfl
theorem L91_10_eq (n m0 : Nat) (x54 : D) (x55 : D) (x56 : D) (xo4 : D) (xo6 : D) (Q : List D → Prop) : L91_10 n (m0 + 1) x54 x55 x56 xo4 xo6 Q =
 (cond (iLt (D.i x56) (D.i x55))
 ((0 ≤ (D.i x56) ∧ (D.i x56) < (D.len x54)) ∧ (cond (iLt (D.i (D.el x54 (D.i x56))) (0 : Int))
 (True ∧ (Q [(D.agg [(D.int (0 : Int)), (D.slc ([] : List D)), (D.slc ([] : List D)), (D.int (0 : Int))]), (D.int (33 : Int))]))
 (cond (iLt (3 : Int) (D.i (D.el x54 (D.i x56))))
 (True ∧ (Q [(D.agg [(D.int (0 : Int)), (D.slc ([] : List D)), (D.slc ([] : List D)), (D.int (0 : Int))]), (D.int (33 : Int))]))
 (room (((List.length (D.xs (D.fld xo6 1)) : Nat) : Int) + ((List.length [(D.agg [(D.slc [(D.agg [x56, (D.int (1 : Int))])]), (D.el x54 (D.i x56))])] : Nat) : Int)) 32 ∧ (True ∧ (L91_10 n  m0 x54 x55 (D.int (IntKind.wrap .i64 ((D.i x56) + (1 : Int)))) xo4 (D.agg [(D.fld xo6 0), (D.slc ((D.xs (D.fld xo6 1)) ++ [(D.agg [(D.slc [(D.agg [x56, (D.int (1 : Int))])]), (D.el x54 (D.i x56))])])), (D.fld xo6 2), (D.fld xo6 3)]) Q))))))
 (True ∧ (Q [xo6, (D.int (0 : Int))]))) := by kernel_rfl
theorem E91 (n : Nat) (d0 d1 : D) (Q : List D → Prop) : wpF Try.prog A (n + 1) 91 [d0, d1] Q =
 (wpF Try.prog A n 117 [d0] fun r1 =>
 (cond (!(D.b (rs r1 0)))
 (True ∧ (Q [(D.agg [(D.int (0 : Int)), (D.slc ([] : List D)), (D.slc ([] : List D)), (D.int (0 : Int))]), (D.int (33 : Int))]))
 (cond (iLt (4 : Int) (D.i (D.fld d0 0)))
 (True ∧ (Q [(D.agg [(D.int (0 : Int)), (D.slc ([] : List D)), (D.slc ([] : List D)), (D.int (0 : Int))]), (D.int (33 : Int))]))
 (cond (!(iEq (D.len d1) (D.i (D.fld d0 0))))
 (True ∧ (Q [(D.agg [(D.int (0 : Int)), (D.slc ([] : List D)), (D.slc ([] : List D)), (D.int (0 : Int))]), (D.int (33 : Int))]))
 (room ((List.length (D.xs (D.fld d0 2)) : Nat) : Int) 16 ∧ (True ∧ (L91_5 n  n d1 (D.fld d0 1) (D.int (D.len (D.fld d0 1))) (D.int (0 : Int)) (D.agg [(D.int (0 : Int)), (D.slc ([] : List D)), (D.slc ([] : List D)), (D.int (0 : Int))]) (D.agg [(D.fld d0 0), (D.slc ([] : List D)), (D.slc (D.xs (D.fld d0 2))), (D.fld d0 3)]) Q))))))) := by kernel_rfl
attribute [irreducible] L91_5 L91_10

/- timebound/timeboundlaw34.boxed -/
theorem E48 (n : Nat) (d0 : D) (Q : List D → Prop) : wpF Try.prog A (n + 1) 48 [d0] Q =
 (wpF Try.prog A n 89 [d0, (D.int (4 : Int))] fun r1 =>
 (True ∧ (wpF Try.prog A n 90 [(rs r1 1), (rs r1 0)] fun r2 =>
 (wpF Try.prog A n 91 [(rs r1 0), (rs r2 0)] fun r3 =>
 (True ∧ (True ∧ (Q [(rs r3 0), (rs r2 0), (rs r2 1)]))))))) := by kernel_rfl

/- timebound/timeboundlaw34.corner -/
def L58_3 (n m0 : Nat) (x8 : D) (x9 : D) (x10 : D) (xo1 : D) (xo2 : D) (xo3 : D) (Q : List D → Prop) : Prop :=
  loopK (wpC Try.prog A (hnd Try.prog A n) 58 n (cA (cA (cB (cA (cB (cB (bodyOf Try.f58)))))))) (nmK (A.loop 58 3)) m0 { sl := [(1, .ptr 1 [] 82), (2, .ptr 2 [] 94), (3, .ptr 3 [] 94), (8, .imm 80 x8), (9, .imm 3 x9), (10, .imm 3 x10)], ob := [(1, some ⟨true, 82, .imm, xo1⟩), (2, some ⟨true, 94, (.agg [(2, (.slc .imm none)), (4, (.slc .imm none))]), xo2⟩), (3, some ⟨true, 94, (.agg [(2, (.slc .imm none)), (4, (.slc .imm none))]), xo3⟩)] } (kBlock 0 (kSeq (wpC Try.prog A (hnd Try.prog A n) 58 n (cB (cB (cB (bodyOf Try.f58))))) (kEnd Try.prog Try.f58 (A.sig 58) Q)))
theorem L58_3_eq (n m0 : Nat) (x8 : D) (x9 : D) (x10 : D) (xo1 : D) (xo2 : D) (xo3 : D) (Q : List D → Prop) : L58_3 n (m0 + 1) x8 x9 x10 xo1 xo2 xo3 Q =
 (cond (iLt (D.i x10) (D.i x9))
 ((0 ≤ (D.i x10) ∧ (D.i x10) < (D.len x8)) ∧ (True ∧ (cond (iLt (0 : Int) (D.i (D.fld (D.el x8 (D.i x10)) 1)))
 (room (((List.length (D.xs (D.fld xo3 4)) : Nat) : Int) + ((List.length [(D.agg [(D.int (IntKind.wrap .i64 ((IntKind.wrap .i64 ((D.len (D.fld xo1 1)) - (D.i (D.fld xo1 0)))) + (D.i (D.fld (D.el x8 (D.i x10)) 0))))), (D.fld (D.el x8 (D.i x10)) 1)])] : Nat) : Int)) 16 ∧ (True ∧ (L58_3 n  m0 x8 x9 (D.int (IntKind.wrap .i64 ((D.i x10) + (1 : Int)))) xo1 xo2 (D.agg [(D.fld xo3 0), (D.fld xo3 1), (D.fld xo3 2), (D.fld xo3 3), (D.slc ((D.xs (D.fld xo3 4)) ++ [(D.agg [(D.int (IntKind.wrap .i64 ((IntKind.wrap .i64 ((D.len (D.fld xo1 1)) - (D.i (D.fld xo1 0)))) + (D.i (D.fld (D.el x8 (D.i x10)) 0))))), (D.fld (D.el x8 (D.i x10)) 1)])])), (D.fld xo3 5)]) Q)))
 (L58_3 n  m0 x8 x9 (D.int (IntKind.wrap .i64 ((D.i x10) + (1 : Int)))) xo1 xo2 xo3 Q))))
 (True ∧ (Q [xo3]))) := by kernel_rfl
theorem E58 (n : Nat) (d0 : D) (Q : List D → Prop) : wpF Try.prog A (n + 1) 58 [d0] Q =
 (True ∧ (L58_3 n  n (D.fld d0 2) (D.int (D.len (D.fld d0 2))) (D.int (0 : Int)) d0 (D.agg [(D.int (0 : Int)), (D.int (0 : Int)), (D.slc ([] : List D)), (D.int (0 : Int)), (D.slc ([] : List D)), (D.int (0 : Int))]) (D.agg [(D.int (-1 : Int)), (D.int (-1 : Int)), (D.slc ([] : List D)), (D.int (0 : Int)), (D.slc ([] : List D)), (D.int (1 : Int))]) Q)) := by kernel_rfl
attribute [irreducible] L58_3

/- timebound/timeboundref32.Coef -/
def L103_2 (n m0 : Nat) (x1 : D) (x7 : D) (x8 : D) (x9 : D) (Q : List D → Prop) : Prop :=
  loopK (wpC Try.prog A (hnd Try.prog A n) 103 n (cA (cA (cB (cA (cB (bodyOf Try.f103))))))) (nmK (A.loop 103 2)) m0 { sl := [(1, .imm 3 x1), (7, .imm 80 x7), (8, .imm 3 x8), (9, .imm 3 x9)], ob := [] } (kBlock 0 (kSeq (wpC Try.prog A (hnd Try.prog A n) 103 n (cB (cB (bodyOf Try.f103)))) (kEnd Try.prog Try.f103 (A.sig 103) Q)))
theorem L103_2_eq (n m0 : Nat) (x1 : D) (x7 : D) (x8 : D) (x9 : D) (Q : List D → Prop) : L103_2 n (m0 + 1) x1 x7 x8 x9 Q =
 (cond (iLt (D.i x9) (D.i x8))
 ((0 ≤ (D.i x9) ∧ (D.i x9) < (D.len x7)) ∧ (True ∧ (cond (iEq (D.i (D.fld (D.el x7 (D.i x9)) 0)) (D.i x1))
 (Q [(D.fld (D.el x7 (D.i x9)) 1)])
 (L103_2 n  m0 x1 x7 x8 (D.int (IntKind.wrap .i64 ((D.i x9) + (1 : Int)))) Q))))
 (Q [(D.int (0 : Int))])) := by kernel_rfl
theorem E103 (n : Nat) (d0 d1 : D) (Q : List D → Prop) : wpF Try.prog A (n + 1) 103 [d0, d1] Q =
 (L103_2 n  n d1 d0 (D.int (D.len d0)) (D.int (0 : Int)) Q) := by kernel_rfl
attribute [irreducible] L103_2

/- timebound/timeboundref34.Leaf -/
def L59_4 (n m0 : Nat) (x1 : D) (x10 : D) (x23 : D) (x24 : D) (x25 : D) (xo3 : D) (xo5 : D) (xo21 : D) (Q : List D → Prop) : Prop :=
  loopK (wpC Try.prog A (hnd Try.prog A n) 59 n (cA (cA (cB (cA (cB (cB (cB (bodyOf Try.f59))))))))) (nmK (A.loop 59 4)) m0 { sl := [(1, .imm 79 x1), (3, .ptr 3 [] 82), (5, .ptr 5 [] 94), (9, .val 21 [] 22), (10, .imm 3 x10), (23, .imm 80 x23), (24, .imm 3 x24), (25, .imm 3 x25)], ob := [(3, some ⟨true, 82, .imm, xo3⟩), (5, some ⟨true, 94, .imm, xo5⟩), (21, some ⟨false, 22, (.slc .imm none), xo21⟩)] } (kBlock 0 (kSeq (wpC Try.prog A (hnd Try.prog A n) 59 n (cB (cB (cB (cB (bodyOf Try.f59)))))) (kEnd Try.prog Try.f59 (A.sig 59) Q)))
def L59_13 (n m0 m1 : Nat) (x1 : D) (x10 : D) (x23 : D) (x24 : D) (x25 : D) (x67 : D) (x68 : D) (x69 : D) (xo3 : D) (xo5 : D) (xo12 : D) (xo13 : D) (xo21 : D) (Q : List D → Prop) : Prop :=
  loopK (wpC Try.prog A (hnd Try.prog A n) 59 n (cA (cA (cB (cA (cB (cB (cB (cA (cA (cB (cB (cA (cA (cB (cA (cB (cB (cB (bodyOf Try.f59)))))))))))))))))))) (nmK (A.loop 59 13)) m1 { sl := [(1, .imm 79 x1), (3, .ptr 3 [] 82), (5, .ptr 5 [] 94), (9, .val 21 [] 22), (10, .imm 3 x10), (12, .ptr 12 [] 138), (13, .ptr 13 [] 100), (23, .imm 80 x23), (24, .imm 3 x24), (25, .imm 3 x25), (67, .imm 80 x67), (68, .imm 3 x68), (69, .imm 3 x69)], ob := [(3, some ⟨true, 82, .imm, xo3⟩), (5, some ⟨true, 94, .imm, xo5⟩), (12, some ⟨true, 138, .imm, xo12⟩), (13, some ⟨true, 100, .imm, xo13⟩), (21, some ⟨false, 22, (.slc .imm none), xo21⟩)] } (kBlock 3 (kSeq (wpC Try.prog A (hnd Try.prog A n) 59 n (cB (cB (cB (cB (cA (cA (cB (cB (cA (cA (cB (cA (cB (cB (cB (bodyOf Try.f59))))))))))))))))) (kBlock 1 (kSeq (wpC Try.prog A (hnd Try.prog A n) 59 n (cB (cB (cB (cA (cA (cB (cA (cB (cB (cB (bodyOf Try.f59)))))))))))) (kLoop (nmK (A.loop 59 4)) (fun g => loopK (wpC Try.prog A (hnd Try.prog A n) 59 n (cA (cA (cB (cA (cB (cB (cB (bodyOf Try.f59))))))))) (nmK (A.loop 59 4)) m0 g (kBlock 0 (kSeq (wpC Try.prog A (hnd Try.prog A n) 59 n (cB (cB (cB (cB (bodyOf Try.f59)))))) (kEnd Try.prog Try.f59 (A.sig 59) Q)))) (kBlock 0 (kSeq (wpC Try.prog A (hnd Try.prog A n) 59 n (cB (cB (cB (cB (bodyOf Try.f59)))))) (kEnd Try.prog Try.f59 (A.sig 59) Q))))))))
def L59_20 (n m0 : Nat) (x10 : D) (x95 : D) (x96 : D) (xo3 : D) (xo5 : D) (xo21 : D) (Q : List D → Prop) : Prop :=
  loopK (wpC Try.prog A (hnd Try.prog A n) 59 n (cA (cA (cB (cA (cB (cB (cB (cB (bodyOf Try.f59)))))))))) (nmK (A.loop 59 20)) m0 { sl := [(3, .ptr 3 [] 82), (5, .ptr 5 [] 94), (10, .imm 3 x10), (94, .val 21 [] 22), (95, .imm 3 x95), (96, .imm 3 x96)], ob := [(3, some ⟨true, 82, .imm, xo3⟩), (5, some ⟨true, 94, .imm, xo5⟩), (21, some ⟨false, 22, (.slc .imm none), xo21⟩)] } (kBlock 5 (kSeq (wpC Try.prog A (hnd Try.prog A n) 59 n (cB (cB (cB (cB (cB (bodyOf Try.f59))))))) (kEnd Try.prog Try.f59 (A.sig 59) Q)))
theorem L59_4_eq (n m0 : Nat) (x1 : D) (x10 : D) (x23 : D) (x24 : D) (x25 : D) (xo3 : D) (xo5 : D) (xo21 : D) (Q : List D → Prop) : L59_4 n (m0 + 1) x1 x10 x23 x24 x25 xo3 xo5 xo21 Q =
 (cond (iLt (D.i x25) (D.i x24))
 ((0 ≤ (D.i x25) ∧ (D.i x25) < (D.len x23)) ∧ (True ∧ (cond (iLt (D.i (D.fld (D.el x23 (D.i x25)) 0)) (0 : Int))
 (Q [(D.int (0 : Int)), (D.bool false), (D.bool false)])
 (cond (iLe (IntKind.wrap .i64 ((D.len (D.fld xo3 1)) + (D.len x1))) (D.i (D.fld (D.el x23 (D.i x25)) 0)))
 (Q [(D.int (0 : Int)), (D.bool false), (D.bool false)])
 (cond (iLt (D.i (D.fld (D.el x23 (D.i x25)) 0)) (D.len (D.fld xo3 1)))
 ((0 ≤ (D.i (D.fld (D.el x23 (D.i x25)) 0)) ∧ (D.i (D.fld (D.el x23 (D.i x25)) 0)) < (D.len (D.fld xo3 1))) ∧ (True ∧ (L59_13 n m0 n x1 x10 x23 x24 x25 (D.fld (D.el (D.fld xo3 1) (D.i (D.fld (D.el x23 (D.i x25)) 0))) 0) (D.int (D.len (D.fld (D.el (D.fld xo3 1) (D.i (D.fld (D.el x23 (D.i x25)) 0))) 0))) (D.int (0 : Int)) xo3 xo5 (D.el x23 (D.i x25)) (D.el (D.fld xo3 1) (D.i (D.fld (D.el x23 (D.i x25)) 0))) xo21 Q)))
 ((0 ≤ (IntKind.wrap .i64 ((D.i (D.fld (D.el x23 (D.i x25)) 0)) - (D.len (D.fld xo3 1)))) ∧ (IntKind.wrap .i64 ((D.i (D.fld (D.el x23 (D.i x25)) 0)) - (D.len (D.fld xo3 1)))) < (D.len x1)) ∧ (True ∧ (L59_13 n m0 n x1 x10 x23 x24 x25 (D.fld (D.el x1 (IntKind.wrap .i64 ((D.i (D.fld (D.el x23 (D.i x25)) 0)) - (D.len (D.fld xo3 1))))) 0) (D.int (D.len (D.fld (D.el x1 (IntKind.wrap .i64 ((D.i (D.fld (D.el x23 (D.i x25)) 0)) - (D.len (D.fld xo3 1))))) 0))) (D.int (0 : Int)) xo3 xo5 (D.el x23 (D.i x25)) (D.el x1 (IntKind.wrap .i64 ((D.i (D.fld (D.el x23 (D.i x25)) 0)) - (D.len (D.fld xo3 1))))) xo21 Q))))))))
 (L59_20 n  n x10 (D.int (D.len xo21)) (D.int (0 : Int)) xo3 xo5 xo21 Q)) := by kernel_rfl
theorem L59_13_eq (n m0 m1 : Nat) (x1 : D) (x10 : D) (x23 : D) (x24 : D) (x25 : D) (x67 : D) (x68 : D) (x69 : D) (xo3 : D) (xo5 : D) (xo12 : D) (xo13 : D) (xo21 : D) (Q : List D → Prop) : L59_13 n m0 (m1 + 1) x1 x10 x23 x24 x25 x67 x68 x69 xo3 xo5 xo12 xo13 xo21 Q =
 (cond (iLt (D.i x69) (D.i x68))
 ((0 ≤ (D.i x69) ∧ (D.i x69) < (D.len x67)) ∧ (True ∧ ((0 ≤ (D.i (D.fld (D.el x67 (D.i x69)) 0)) ∧ (D.i (D.fld (D.el x67 (D.i x69)) 0)) < (D.len xo21)) ∧ ((0 ≤ (D.i (D.fld (D.el x67 (D.i x69)) 0)) ∧ (D.i (D.fld (D.el x67 (D.i x69)) 0)) < (D.len xo21)) ∧ (True ∧ (L59_13 n m0 m1 x1 x10 x23 x24 x25 x67 x68 (D.int (IntKind.wrap .i64 ((D.i x69) + (1 : Int)))) xo3 xo5 xo12 xo13 (D.slc (List.set (D.xs xo21) (Int.toNat (D.i (D.fld (D.el x67 (D.i x69)) 0))) (D.int (IntKind.wrap .i64 ((D.i (List.getD (D.xs xo21) (Int.toNat (D.i (D.fld (D.el x67 (D.i x69)) 0))) D.und)) + (IntKind.wrap .i64 ((D.i (D.fld xo12 1)) * (D.i (D.fld (D.el x67 (D.i x69)) 1))))))))) Q))))))
 (L59_4 n  m0 x1 (D.int (IntKind.wrap .i64 ((D.i x10) + (IntKind.wrap .i64 ((D.i (D.fld xo12 1)) * (D.i (D.fld xo13 1))))))) x23 x24 (D.int (IntKind.wrap .i64 ((D.i x25) + (1 : Int)))) xo3 xo5 xo21 Q)) := by kernel_rfl
theorem L59_20_eq (n m0 : Nat) (x10 : D) (x95 : D) (x96 : D) (xo3 : D) (xo5 : D) (xo21 : D) (Q : List D → Prop) : L59_20 n (m0 + 1) x10 x95 x96 xo3 xo5 xo21 Q =
 (cond (iLt (D.i x96) (D.i x95))
 ((0 ≤ (D.i x96) ∧ (D.i x96) < (D.len xo21)) ∧ (wpF Try.prog A n 103 [(D.fld xo3 2), x96] fun r1 =>
 (cond (iLt (D.i (List.getD (D.xs xo21) (Int.toNat (D.i x96)) D.und)) (IntKind.wrap .i64 ((D.i (D.fld xo5 5)) * (D.i (rs r1 0)))))
 (Q [(D.int (0 : Int)), (D.bool false), (D.bool false)])
 (L59_20 n  m0 x10 x95 (D.int (IntKind.wrap .i64 ((D.i x96) + (1 : Int)))) xo3 xo5 xo21 Q))))
 (cond (iEq (D.i (D.fld xo5 5)) (0 : Int))
 (Q [(D.int (0 : Int)), (D.bool (iLt (D.i x10) (0 : Int))), (D.bool (iLt (D.i x10) (0 : Int)))])
 ((D.i (D.fld xo5 5)) ≠ (0 : Int) ∧ ((D.i (D.fld xo5 5)) ≠ (0 : Int) ∧ (cond (iLt (Int.tmod (D.i x10) (D.i (D.fld xo5 5))) (0 : Int))
 (Q [(D.int (IntKind.wrap .i64 ((D.i (D.fld xo3 3)) + (IntKind.wrap .i64 ((IntKind.wrap .i64 (Int.tdiv (D.i x10) (D.i (D.fld xo5 5)))) - (1 : Int)))))), (D.bool true), (D.bool false)])
 (Q [(D.int (IntKind.wrap .i64 ((D.i (D.fld xo3 3)) + (IntKind.wrap .i64 (Int.tdiv (D.i x10) (D.i (D.fld xo5 5))))))), (D.bool true), (D.bool false)])))))) := by kernel_rfl
theorem E59 (n : Nat) (d0 d1 d2 : D) (Q : List D → Prop) : wpF Try.prog A (n + 1) 59 [d0, d1, d2] Q =
 ((0 ≤ (D.i (D.fld d0 0)) ∧ (D.i (D.fld d0 0)) ≤ (D.i (D.fld d0 0)) ∧ room (D.i (D.fld d0 0)) 8) ∧ (L59_4 n  n d1 (D.int (0 : Int)) (D.fld d2 4) (D.int (D.len (D.fld d2 4))) (D.int (0 : Int)) d0 d2 (D.slc (List.replicate (Int.toNat (D.i (D.fld d0 0))) (D.int (0 : Int)))) Q)) := by kernel_rfl
attribute [irreducible] L59_4 L59_13 L59_20

/- timebound/timeboundref34.form -/
theorem E96 (n : Nat) (d0 d1 d2 : D) (Q : List D → Prop) : wpF Try.prog A (n + 1) 96 [d0, d1, d2] Q =
 (wpF Try.prog A n 120 [(D.agg [d1, (D.int (0 : Int))]), (D.fld d0 0)] fun r1 =>
 (cond (D.b (rs r1 0))
 (cond (iLe (-1048576 : Int) (D.i d2))
 (Q [(D.bool (iLe (D.i d2) (1048575 : Int)))])
 (Q [(D.bool false)]))
 (Q [(D.bool false)]))) := by kernel_rfl

/- timebound/timeboundref34.leaf -/
def L95_2 (n m0 : Nat) (x6 : D) (x7 : D) (x8 : D) (xo1 : D) (Q : List D → Prop) : Prop :=
  loopK (wpC Try.prog A (hnd Try.prog A n) 95 n (cA (cA (cB (cA (cB (bodyOf Try.f95))))))) (nmK (A.loop 95 2)) m0 { sl := [(1, .ptr 1 [] 94), (6, .imm 80 x6), (7, .imm 3 x7), (8, .imm 3 x8)], ob := [(1, some ⟨true, 94, .imm, xo1⟩)] } (kBlock 0 (kSeq (wpC Try.prog A (hnd Try.prog A n) 95 n (cB (cB (bodyOf Try.f95)))) (kEnd Try.prog Try.f95 (A.sig 95) Q)))
theorem L95_2_eq (n m0 : Nat) (x6 : D) (x7 : D) (x8 : D) (xo1 : D) (Q : List D → Prop) : L95_2 n (m0 + 1) x6 x7 x8 xo1 Q =
 (cond (iLt (D.i x8) (D.i x7))
 ((0 ≤ (D.i x8) ∧ (D.i x8) < (D.len x6)) ∧ (True ∧ (cond (iLt (D.i (D.fld (D.el x6 (D.i x8)) 0)) (0 : Int))
 (Q [(D.bool false)])
 (cond (iLt (0 : Int) (D.i x8))
 ((0 ≤ (IntKind.wrap .i64 ((D.i x8) - (1 : Int))) ∧ (IntKind.wrap .i64 ((D.i x8) - (1 : Int))) < (D.len (D.fld xo1 4))) ∧ (cond (iLe (D.i (D.fld (D.el x6 (D.i x8)) 0)) (D.i (D.fld (D.el (D.fld xo1 4) (IntKind.wrap .i64 ((D.i x8) - (1 : Int)))) 0)))
 (Q [(D.bool false)])
 (cond (iLt (D.i (D.fld (D.el x6 (D.i x8)) 1)) (1 : Int))
 (Q [(D.bool false)])
 (cond (iLt (1073741824 : Int) (D.i (D.fld (D.el x6 (D.i x8)) 1)))
 (Q [(D.bool false)])
 (L95_2 n  m0 x6 x7 (D.int (IntKind.wrap .i64 ((D.i x8) + (1 : Int)))) xo1 Q)))))
 (cond (iLt (D.i (D.fld (D.el x6 (D.i x8)) 1)) (1 : Int))
 (Q [(D.bool false)])
 (cond (iLt (1073741824 : Int) (D.i (D.fld (D.el x6 (D.i x8)) 1)))
 (Q [(D.bool false)])
 (L95_2 n  m0 x6 x7 (D.int (IntKind.wrap .i64 ((D.i x8) + (1 : Int)))) xo1 Q)))))))
 (cond (iEq (D.i (D.fld xo1 0)) (-1 : Int))
 (cond (iEq (D.i (D.fld xo1 1)) (-1 : Int))
 (cond (iEq (D.len (D.fld xo1 2)) (0 : Int))
 (cond (iEq (D.i (D.fld xo1 3)) (0 : Int))
 (cond (iLe (0 : Int) (D.i (D.fld xo1 5)))
 (Q [(D.bool (iLe (D.i (D.fld xo1 5)) (1024 : Int)))])
 (Q [(D.bool false)]))
 (Q [(D.bool false)]))
 (Q [(D.bool false)]))
 (Q [(D.bool false)]))
 (Q [(D.bool false)]))) := by kernel_rfl
theorem E95 (n : Nat) (d0 : D) (Q : List D → Prop) : wpF Try.prog A (n + 1) 95 [d0] Q =
 (L95_2 n  n (D.fld d0 4) (D.int (D.len (D.fld d0 4))) (D.int (0 : Int)) d0 Q) := by kernel_rfl
attribute [irreducible] L95_2

/- timebound/timeboundref34.Valid -/
def L52_5 (n m0 : Nat) (x27 : D) (x28 : D) (x29 : D) (xo2 : D) (xo3 : D) (xo25 : D) (Q : List D → Prop) : Prop :=
  loopK (wpC Try.prog A (hnd Try.prog A n) 52 n (cA (cA (cB (cA (cB (cB (cB (bodyOf Try.f52))))))))) (nmK (A.loop 52 5)) m0 { sl := [(2, .ptr 2 [] 82), (3, .ptr 3 [] 78), (5, .val 25 [] 141), (27, .imm 76 x27), (28, .imm 3 x28), (29, .imm 3 x29)], ob := [(2, some ⟨true, 82, .imm, xo2⟩), (3, some ⟨true, 78, .imm, xo3⟩), (25, some ⟨false, 141, (.slc .imm none), xo25⟩)] } (kBlock 0 (kSeq (wpC Try.prog A (hnd Try.prog A n) 52 n (cB (cB (cB (cB (bodyOf Try.f52)))))) (kEnd Try.prog Try.f52 (A.sig 52) Q)))
def L52_13 (n m0 m1 : Nat) (x6 : D) (x27 : D) (x28 : D) (x29 : D) (x70 : D) (x71 : D) (xo2 : D) (xo3 : D) (xo25 : D) (xo69 : D) (Q : List D → Prop) : Prop :=
  loopK (wpC Try.prog A (hnd Try.prog A n) 52 n (cA (cA (cB (cB (cB (cB (cA (cA (cB (cB (cA (cA (cB (cA (cB (cB (cB (bodyOf Try.f52))))))))))))))))))) (nmK (A.loop 52 13)) m1 { sl := [(2, .ptr 2 [] 82), (3, .ptr 3 [] 78), (5, .val 25 [] 141), (6, .imm 3 x6), (27, .imm 76 x27), (28, .imm 3 x28), (29, .imm 3 x29), (69, .val 69 [] 22), (70, .imm 3 x70), (71, .imm 3 x71)], ob := [(2, some ⟨true, 82, .imm, xo2⟩), (3, some ⟨true, 78, .imm, xo3⟩), (25, some ⟨false, 141, (.slc .imm none), xo25⟩), (69, some ⟨false, 22, (.slc .imm none), xo69⟩)] } (kBlock 2 (kBlock 1 (kSeq (wpC Try.prog A (hnd Try.prog A n) 52 n (cB (cB (cB (cA (cA (cB (cA (cB (cB (cB (bodyOf Try.f52)))))))))))) (kLoop (nmK (A.loop 52 5)) (fun g => loopK (wpC Try.prog A (hnd Try.prog A n) 52 n (cA (cA (cB (cA (cB (cB (cB (bodyOf Try.f52))))))))) (nmK (A.loop 52 5)) m0 g (kBlock 0 (kSeq (wpC Try.prog A (hnd Try.prog A n) 52 n (cB (cB (cB (cB (bodyOf Try.f52)))))) (kEnd Try.prog Try.f52 (A.sig 52) Q)))) (kBlock 0 (kSeq (wpC Try.prog A (hnd Try.prog A n) 52 n (cB (cB (cB (cB (bodyOf Try.f52)))))) (kEnd Try.prog Try.f52 (A.sig 52) Q)))))))
def L52_21 (n m0 : Nat) (x97 : D) (x98 : D) (x99 : D) (Q : List D → Prop) : Prop :=
  loopK (wpC Try.prog A (hnd Try.prog A n) 52 n (cA (cA (cB (cA (cB (cB (cB (cB (bodyOf Try.f52)))))))))) (nmK (A.loop 52 21)) m0 { sl := [(97, .imm 141 x97), (98, .imm 3 x98), (99, .imm 3 x99)], ob := [] } (kBlock 4 (kSeq (wpC Try.prog A (hnd Try.prog A n) 52 n (cB (cB (cB (cB (cB (bodyOf Try.f52))))))) (kEnd Try.prog Try.f52 (A.sig 52) Q)))
theorem L52_5_eq (n m0 : Nat) (x27 : D) (x28 : D) (x29 : D) (xo2 : D) (xo3 : D) (xo25 : D) (Q : List D → Prop) : L52_5 n (m0 + 1) x27 x28 x29 xo2 xo3 xo25 Q =
 (cond (iLt (D.i x29) (D.i x28))
 ((0 ≤ (D.i x29) ∧ (D.i x29) < (D.len x27)) ∧ (True ∧ (cond (iEq (D.i (D.fld (D.el x27 (D.i x29)) 0)) (-1 : Int))
 (wpF Try.prog A n 95 [(D.el x27 (D.i x29))] fun r1 =>
 (cond (!(D.b (rs r1 0)))
 (Q [(D.bool false)])
 (L52_5 n  m0 x27 x28 (D.int (IntKind.wrap .i64 ((D.i x29) + (1 : Int)))) xo2 xo3 xo25 Q)))
 (wpF Try.prog A n 96 [xo2, (D.fld (D.el x27 (D.i x29)) 2), (D.fld (D.el x27 (D.i x29)) 3)] fun r2 =>
 (cond (!(D.b (rs r2 0)))
 (Q [(D.bool false)])
 (cond (iLt (0 : Int) (D.len (D.fld (D.el x27 (D.i x29)) 4)))
 (Q [(D.bool false)])
 (cond (!(iEq (D.i (D.fld (D.el x27 (D.i x29)) 5)) (0 : Int)))
 (Q [(D.bool false)])
 (cond (iEq (D.i (D.fld (D.el x27 (D.i x29)) 0)) (D.i (D.fld (D.el x27 (D.i x29)) 1)))
 (Q [(D.bool false)])
 (L52_13 n m0 n x29 x27 x28 x29 (D.int (D.len (D.slc [(D.fld (D.el x27 (D.i x29)) 0), (D.fld (D.el x27 (D.i x29)) 1)]))) (D.int (0 : Int)) xo2 xo3 xo25 (D.slc [(D.fld (D.el x27 (D.i x29)) 0), (D.fld (D.el x27 (D.i x29)) 1)]) Q)))))))))
 ((0 ≤ (1 : Int) ∧ (1 : Int) ≤ (D.len xo25) ∧ (D.len xo25) ≤ (D.len xo25)) ∧ (L52_21 n  n (D.slc (List.drop (Int.toNat (1 : Int)) (List.take (Int.toNat (D.len xo25)) (D.xs xo25)))) (D.int (D.len (D.slc (List.drop (Int.toNat (1 : Int)) (List.take (Int.toNat (D.len xo25)) (D.xs xo25)))))) (D.int (0 : Int)) Q))) := by kernel_rfl
theorem L52_13_eq (n m0 m1 : Nat) (x6 : D) (x27 : D) (x28 : D) (x29 : D) (x70 : D) (x71 : D) (xo2 : D) (xo3 : D) (xo25 : D) (xo69 : D) (Q : List D → Prop) : L52_13 n m0 (m1 + 1) x6 x27 x28 x29 x70 x71 xo2 xo3 xo25 xo69 Q =
 (cond (iLt (D.i x71) (D.i x70))
 ((0 ≤ (D.i x71) ∧ (D.i x71) < (D.len xo69)) ∧ (cond (iLe (D.i (List.getD (D.xs xo69) (Int.toNat (D.i x71)) D.und)) (D.i x6))
 (Q [(D.bool false)])
 (cond (iLe (D.len (D.fld xo3 0)) (D.i (List.getD (D.xs xo69) (Int.toNat (D.i x71)) D.und)))
 (Q [(D.bool false)])
 ((0 ≤ (D.i (List.getD (D.xs xo69) (Int.toNat (D.i x71)) D.und)) ∧ (D.i (List.getD (D.xs xo69) (Int.toNat (D.i x71)) D.und)) < (D.len xo25)) ∧ (cond (D.b (List.getD (D.xs xo25) (Int.toNat (D.i (List.getD (D.xs xo69) (Int.toNat (D.i x71)) D.und))) D.und))
 (Q [(D.bool false)])
 ((0 ≤ (D.i (List.getD (D.xs xo69) (Int.toNat (D.i x71)) D.und)) ∧ (D.i (List.getD (D.xs xo69) (Int.toNat (D.i x71)) D.und)) < (D.len xo25)) ∧ (True ∧ (L52_13 n m0 m1 x6 x27 x28 x29 x70 (D.int (IntKind.wrap .i64 ((D.i x71) + (1 : Int)))) xo2 xo3 (D.slc (List.set (D.xs xo25) (Int.toNat (D.i (List.getD (D.xs xo69) (Int.toNat (D.i x71)) D.und))) (D.bool true))) xo69 Q))))))))
 (L52_5 n  m0 x27 x28 (D.int (IntKind.wrap .i64 ((D.i x29) + (1 : Int)))) xo2 xo3 xo25 Q)) := by kernel_rfl
theorem L52_21_eq (n m0 : Nat) (x97 : D) (x98 : D) (x99 : D) (Q : List D → Prop) : L52_21 n (m0 + 1) x97 x98 x99 Q =
 (cond (iLt (D.i x99) (D.i x98))
 ((0 ≤ (D.i x99) ∧ (D.i x99) < (D.len x97)) ∧ (cond (!(D.b (D.el x97 (D.i x99))))
 (Q [(D.bool false)])
 (L52_21 n  m0 x97 x98 (D.int (IntKind.wrap .i64 ((D.i x99) + (1 : Int)))) Q)))
 (Q [(D.bool true)])) := by kernel_rfl
theorem E52 (n : Nat) (d0 d1 : D) (Q : List D → Prop) : wpF Try.prog A (n + 1) 52 [d0, d1] Q =
 (cond (iLt (D.len (D.fld d1 0)) (1 : Int))
 (Q [(D.bool false)])
 (cond (iLt (1000 : Int) (D.len (D.fld d1 0)))
 (Q [(D.bool false)])
 ((0 ≤ (D.len (D.fld d1 0)) ∧ (D.len (D.fld d1 0)) ≤ (D.len (D.fld d1 0)) ∧ room (D.len (D.fld d1 0)) 1) ∧ (L52_5 n  n (D.fld d1 0) (D.int (D.len (D.fld d1 0))) (D.int (0 : Int)) d0 d1 (D.slc (List.replicate (Int.toNat (D.len (D.fld d1 0))) (D.bool false))) Q)))) := by kernel_rfl
attribute [irreducible] L52_5 L52_13 L52_21

/- timebound/timeboundref34.moved -/
def L107_3 (n m0 : Nat) (x1 : D) (x2 : D) (x13 : D) (x14 : D) (x15 : D) (xo7 : D) (Q : List D → Prop) : Prop :=
  loopK (wpC Try.prog A (hnd Try.prog A n) 107 n (cA (cA (cB (cA (cB (cB (bodyOf Try.f107)))))))) (nmK (A.loop 107 3)) m0 { sl := [(1, .imm 3 x1), (2, .imm 3 x2), (7, .val 7 [] 76), (13, .imm 76 x13), (14, .imm 3 x14), (15, .imm 3 x15)], ob := [(7, some ⟨false, 76, (.slc .imm none), xo7⟩)] } (kBlock 0 (kSeq (wpC Try.prog A (hnd Try.prog A n) 107 n (cB (cB (cB (bodyOf Try.f107))))) (kEnd Try.prog Try.f107 (A.sig 107) Q)))
def L107_10 (n m0 m1 : Nat) (x1 : D) (x2 : D) (x13 : D) (x14 : D) (x15 : D) (x37 : D) (x38 : D) (x39 : D) (xo7 : D) (xo9 : D) (xo10 : D) (Q : List D → Prop) : Prop :=
  loopK (wpC Try.prog A (hnd Try.prog A n) 107 n (cA (cA (cB (cA (cB (cB (cB (cB (cA (cA (cB (cB (cA (cA (cB (cA (cB (cB (bodyOf Try.f107)))))))))))))))))))) (nmK (A.loop 107 10)) m1 { sl := [(1, .imm 3 x1), (2, .imm 3 x2), (7, .val 7 [] 76), (9, .ptr 9 [] 94), (10, .val 10 [] 80), (13, .imm 76 x13), (14, .imm 3 x14), (15, .imm 3 x15), (37, .imm 80 x37), (38, .imm 3 x38), (39, .imm 3 x39)], ob := [(7, some ⟨false, 76, (.slc .imm none), xo7⟩), (9, some ⟨true, 94, (.agg [(2, (.slc .imm none))]), xo9⟩), (10, some ⟨false, 80, (.slc .imm none), xo10⟩)] } (kBlock 2 (kSeq (wpC Try.prog A (hnd Try.prog A n) 107 n (cB (cB (cB (cB (cB (cA (cA (cB (cB (cA (cA (cB (cA (cB (cB (bodyOf Try.f107))))))))))))))))) (kBlock 1 (kSeq (wpC Try.prog A (hnd Try.prog A n) 107 n (cB (cB (cB (cA (cA (cB (cA (cB (cB (bodyOf Try.f107))))))))))) (kLoop (nmK (A.loop 107 3)) (fun g => loopK (wpC Try.prog A (hnd Try.prog A n) 107 n (cA (cA (cB (cA (cB (cB (bodyOf Try.f107)))))))) (nmK (A.loop 107 3)) m0 g (kBlock 0 (kSeq (wpC Try.prog A (hnd Try.prog A n) 107 n (cB (cB (cB (bodyOf Try.f107))))) (kEnd Try.prog Try.f107 (A.sig 107) Q)))) (kBlock 0 (kSeq (wpC Try.prog A (hnd Try.prog A n) 107 n (cB (cB (cB (bodyOf Try.f107))))) (kEnd Try.prog Try.f107 (A.sig 107) Q))))))))
theorem L107_3_eq (n m0 : Nat) (x1 : D) (x2 : D) (x13 : D) (x14 : D) (x15 : D) (xo7 : D) (Q : List D → Prop) : L107_3 n (m0 + 1) x1 x2 x13 x14 x15 xo7 Q =
 (cond (iLt (D.i x15) (D.i x14))
 ((0 ≤ (D.i x15) ∧ (D.i x15) < (D.len x13)) ∧ (True ∧ (cond (!(iEq (D.i (D.fld (D.el x13 (D.i x15)) 0)) (-1 : Int)))
 (True ∧ (True ∧ (room ((List.length (D.xs (D.fld (D.el x13 (D.i x15)) 2)) : Nat) : Int) 16 ∧ (True ∧ (L107_10 n m0 n x1 x2 x13 x14 x15 (D.fld (D.el x13 (D.i x15)) 4) (D.int (D.len (D.fld (D.el x13 (D.i x15)) 4))) (D.int (0 : Int)) xo7 (D.agg [(D.int (IntKind.wrap .i64 ((D.i (D.fld (D.el x13 (D.i x15)) 0)) + (D.i x1)))), (D.int (IntKind.wrap .i64 ((D.i (D.fld (D.el x13 (D.i x15)) 1)) + (D.i x1)))), (D.slc (D.xs (D.fld (D.el x13 (D.i x15)) 2))), (D.fld (D.el x13 (D.i x15)) 3), (D.fld (D.el x13 (D.i x15)) 4), (D.fld (D.el x13 (D.i x15)) 5)]) (D.slc ([] : List D)) Q)))))
 (room ((List.length (D.xs (D.fld (D.el x13 (D.i x15)) 2)) : Nat) : Int) 16 ∧ (True ∧ (L107_10 n m0 n x1 x2 x13 x14 x15 (D.fld (D.el x13 (D.i x15)) 4) (D.int (D.len (D.fld (D.el x13 (D.i x15)) 4))) (D.int (0 : Int)) xo7 (D.agg [(D.fld (D.el x13 (D.i x15)) 0), (D.fld (D.el x13 (D.i x15)) 1), (D.slc (D.xs (D.fld (D.el x13 (D.i x15)) 2))), (D.fld (D.el x13 (D.i x15)) 3), (D.fld (D.el x13 (D.i x15)) 4), (D.fld (D.el x13 (D.i x15)) 5)]) (D.slc ([] : List D)) Q))))))
 (Q [xo7])) := by kernel_rfl
theorem L107_10_eq (n m0 m1 : Nat) (x1 : D) (x2 : D) (x13 : D) (x14 : D) (x15 : D) (x37 : D) (x38 : D) (x39 : D) (xo7 : D) (xo9 : D) (xo10 : D) (Q : List D → Prop) : L107_10 n m0 (m1 + 1) x1 x2 x13 x14 x15 x37 x38 x39 xo7 xo9 xo10 Q =
 (cond (iLt (D.i x39) (D.i x38))
 ((0 ≤ (D.i x39) ∧ (D.i x39) < (D.len x37)) ∧ (True ∧ (cond (iLe (D.i x2) (D.i (D.fld (D.el x37 (D.i x39)) 0)))
 (True ∧ (room (((List.length (D.xs xo10) : Nat) : Int) + ((List.length [(D.agg [(D.int (IntKind.wrap .i64 ((D.i (D.fld (D.el x37 (D.i x39)) 0)) + (1 : Int)))), (D.fld (D.el x37 (D.i x39)) 1)])] : Nat) : Int)) 16 ∧ (L107_10 n m0 m1 x1 x2 x13 x14 x15 x37 x38 (D.int (IntKind.wrap .i64 ((D.i x39) + (1 : Int)))) xo7 xo9 (D.slc ((D.xs xo10) ++ [(D.agg [(D.int (IntKind.wrap .i64 ((D.i (D.fld (D.el x37 (D.i x39)) 0)) + (1 : Int)))), (D.fld (D.el x37 (D.i x39)) 1)])])) Q)))
 (room (((List.length (D.xs xo10) : Nat) : Int) + ((List.length [(D.el x37 (D.i x39))] : Nat) : Int)) 16 ∧ (L107_10 n m0 m1 x1 x2 x13 x14 x15 x37 x38 (D.int (IntKind.wrap .i64 ((D.i x39) + (1 : Int)))) xo7 xo9 (D.slc ((D.xs xo10) ++ [(D.el x37 (D.i x39))])) Q)))))
 (True ∧ (room (((List.length (D.xs xo7) : Nat) : Int) + ((List.length [(D.agg [(D.fld xo9 0), (D.fld xo9 1), (D.fld xo9 2), (D.fld xo9 3), xo10, (D.fld xo9 5)])] : Nat) : Int)) 80 ∧ (L107_3 n  m0 x1 x2 x13 x14 (D.int (IntKind.wrap .i64 ((D.i x15) + (1 : Int)))) (D.slc ((D.xs xo7) ++ [(D.agg [(D.fld xo9 0), (D.fld xo9 1), (D.fld xo9 2), (D.fld xo9 3), xo10, (D.fld xo9 5)])])) Q)))) := by kernel_rfl
theorem E107 (n : Nat) (d0 d1 d2 : D) (Q : List D → Prop) : wpF Try.prog A (n + 1) 107 [d0, d1, d2] Q =
 (L107_3 n  n d1 d2 d0 (D.int (D.len d0)) (D.int (0 : Int)) (D.slc ([] : List D)) Q) := by kernel_rfl
attribute [irreducible] L107_3 L107_10

/- timebound/timeboundref34.Join -/
theorem E62 (n : Nat) (d0 d1 d2 d3 d4 : D) (Q : List D → Prop) : wpF Try.prog A (n + 1) 62 [d0, d1, d2, d3, d4] Q =
 (wpF Try.prog A n 102 [d0] fun r1 =>
 (cond (!(D.b (rs r1 0)))
 (True ∧ (Q [(D.agg [(D.slc ([] : List D)), (D.int (0 : Int))]), (D.int (33 : Int))]))
 (wpF Try.prog A n 96 [d0, d1, d2] fun r2 =>
 (cond (!(D.b (rs r2 0)))
 (True ∧ (Q [(D.agg [(D.slc ([] : List D)), (D.int (0 : Int))]), (D.int (10 : Int))]))
 (wpF Try.prog A n 52 [d0, d3] fun r3 =>
 (cond (!(D.b (rs r3 0)))
 (True ∧ (Q [(D.agg [(D.slc ([] : List D)), (D.int (0 : Int))]), (D.int (10 : Int))]))
 (wpF Try.prog A n 52 [d0, d4] fun r4 =>
 (cond (!(D.b (rs r4 0)))
 (True ∧ (Q [(D.agg [(D.slc ([] : List D)), (D.int (0 : Int))]), (D.int (10 : Int))]))
 (cond (iLt (1000 : Int) (IntKind.wrap .i64 ((IntKind.wrap .i64 ((1 : Int) + (D.len (D.fld d3 0)))) + (D.len (D.fld d4 0)))))
 (True ∧ (Q [(D.agg [(D.slc ([] : List D)), (D.int (0 : Int))]), (D.int (4 : Int))]))
 (room ((List.length (D.xs d1) : Nat) : Int) 16 ∧ (True ∧ (wpF Try.prog A n 107 [(D.fld d3 0), (D.int (1 : Int)), (D.int (D.len (D.fld d0 1)))] fun r5 =>
 (room (((List.length [(D.agg [(D.int (1 : Int)), (D.int (IntKind.wrap .i64 ((1 : Int) + (D.len (D.fld d3 0))))), (D.slc (D.xs d1)), d2, (D.slc ([] : List D)), (D.int (0 : Int))])] : Nat) : Int) + ((List.length (D.xs (rs r5 0)) : Nat) : Int)) 80 ∧ (True ∧ (wpF Try.prog A n 107 [(D.fld d4 0), (D.int (IntKind.wrap .i64 ((1 : Int) + (D.len (D.fld d3 0))))), (D.int (D.len (D.fld d0 1)))] fun r6 =>
 (room (((List.length ([(D.agg [(D.int (1 : Int)), (D.int (IntKind.wrap .i64 ((1 : Int) + (D.len (D.fld d3 0))))), (D.slc (D.xs d1)), d2, (D.slc ([] : List D)), (D.int (0 : Int))])] ++ (D.xs (rs r5 0))) : Nat) : Int) + ((List.length (D.xs (rs r6 0)) : Nat) : Int)) 80 ∧ (True ∧ (True ∧ (Q [(D.agg [(D.slc (([(D.agg [(D.int (1 : Int)), (D.int (IntKind.wrap .i64 ((1 : Int) + (D.len (D.fld d3 0))))), (D.slc (D.xs d1)), d2, (D.slc ([] : List D)), (D.int (0 : Int))])] ++ (D.xs (rs r5 0))) ++ (D.xs (rs r6 0)))), (D.int (minmax true (D.i (D.fld d3 1)) (D.i (D.fld d4 1))))]), (D.int (0 : Int))]))))))))))))))))))) := by kernel_rfl

/- timebound/timeboundlaw34.bound -/
theorem E49 (n : Nat) (d0 d1 d2 : D) (Q : List D → Prop) : wpF Try.prog A (n + 1) 49 [d0, d1, d2] Q =
 (cond (iEq (D.i d2) (0 : Int))
 (wpF Try.prog A n 58 [d1] fun r1 =>
 (True ∧ (wpF Try.prog A n 18 [d0, (D.int (9 : Int))] fun r2 =>
 (cond (iEq (D.i (rs r2 0)) (0 : Int))
 (wpF Try.prog A n 18 [(rs r2 1), (D.int (3 : Int))] fun r3 =>
 (True ∧ (wpF Try.prog A n 59 [d1, (D.slc ([] : List D)), (D.agg [(D.fld (rs r1 0) 0), (D.fld (rs r1 0) 1), (D.fld (rs r1 0) 2), (D.fld (rs r1 0) 3), (D.fld (rs r1 0) 4), (rs r3 0)])] fun r4 =>
 (wpF Try.prog A n 18 [(rs r3 1), (D.int (3 : Int))] fun r5 =>
 (wpF Try.prog A n 18 [(rs r5 1), (D.int (8 : Int))] fun r6 =>
 ((7 : Int) ≠ (0 : Int) ∧ (True ∧ (Q [(D.agg [(D.slc [(D.agg [(D.fld (rs r1 0) 0), (D.fld (rs r1 0) 1), (D.fld (rs r1 0) 2), (D.fld (rs r1 0) 3), (D.fld (rs r1 0) 4), (rs r3 0)])]), (D.int (IntKind.wrap .i64 ((IntKind.wrap .i64 ((D.i (rs r4 0)) + (D.i (rs r5 0)))) - (IntKind.wrap .i64 (Int.tdiv (D.i (rs r6 0)) (7 : Int))))))]), (rs r6 1)]))))))))
 (cond (iEq (D.i (rs r2 0)) (1 : Int))
 (cond (iLt (0 : Int) (D.len (D.fld d1 1)))
 (wpF Try.prog A n 18 [(rs r2 1), (D.int (IntKind.wrap .i64 ((D.len (D.fld d1 1)) + (1 : Int))))] fun r7 =>
 (wpF Try.prog A n 18 [(rs r7 1), (D.int (4 : Int))] fun r8 =>
 (True ∧ (wpF Try.prog A n 59 [d1, (D.slc ([] : List D)), (D.agg [(D.fld (rs r1 0) 0), (D.fld (rs r1 0) 1), (D.fld (rs r1 0) 2), (D.fld (rs r1 0) 3), (D.slc [(D.agg [(rs r7 0), (D.int (IntKind.wrap .i64 ((1 : Int) + (D.i (rs r8 0)))))])]), (D.fld (rs r1 0) 5)])] fun r9 =>
 (wpF Try.prog A n 18 [(rs r8 1), (D.int (3 : Int))] fun r10 =>
 (wpF Try.prog A n 18 [(rs r10 1), (D.int (8 : Int))] fun r11 =>
 ((7 : Int) ≠ (0 : Int) ∧ (True ∧ (Q [(D.agg [(D.slc [(D.agg [(D.fld (rs r1 0) 0), (D.fld (rs r1 0) 1), (D.fld (rs r1 0) 2), (D.fld (rs r1 0) 3), (D.slc [(D.agg [(rs r7 0), (D.int (IntKind.wrap .i64 ((1 : Int) + (D.i (rs r8 0)))))])]), (D.fld (rs r1 0) 5)])]), (D.int (IntKind.wrap .i64 ((IntKind.wrap .i64 ((D.i (rs r9 0)) + (D.i (rs r10 0)))) - (IntKind.wrap .i64 (Int.tdiv (D.i (rs r11 0)) (7 : Int))))))]), (rs r11 1)])))))))))
 (wpF Try.prog A n 59 [d1, (D.slc ([] : List D)), (rs r1 0)] fun r12 =>
 (wpF Try.prog A n 18 [(rs r2 1), (D.int (3 : Int))] fun r13 =>
 (wpF Try.prog A n 18 [(rs r13 1), (D.int (8 : Int))] fun r14 =>
 ((7 : Int) ≠ (0 : Int) ∧ (True ∧ (Q [(D.agg [(D.slc [(rs r1 0)]), (D.int (IntKind.wrap .i64 ((IntKind.wrap .i64 ((D.i (rs r12 0)) + (D.i (rs r13 0)))) - (IntKind.wrap .i64 (Int.tdiv (D.i (rs r14 0)) (7 : Int))))))]), (rs r14 1)])))))))
 (wpF Try.prog A n 59 [d1, (D.slc ([] : List D)), (rs r1 0)] fun r15 =>
 (wpF Try.prog A n 18 [(rs r2 1), (D.int (3 : Int))] fun r16 =>
 (wpF Try.prog A n 18 [(rs r16 1), (D.int (8 : Int))] fun r17 =>
 ((7 : Int) ≠ (0 : Int) ∧ (True ∧ (Q [(D.agg [(D.slc [(rs r1 0)]), (D.int (IntKind.wrap .i64 ((IntKind.wrap .i64 ((D.i (rs r15 0)) + (D.i (rs r16 0)))) - (IntKind.wrap .i64 (Int.tdiv (D.i (rs r17 0)) (7 : Int))))))]), (rs r17 1)])))))))))))
 (cond (iEq (D.i (D.fld d1 0)) (0 : Int))
 (wpF Try.prog A n 58 [d1] fun r18 =>
 (True ∧ (wpF Try.prog A n 18 [d0, (D.int (9 : Int))] fun r19 =>
 (cond (iEq (D.i (rs r19 0)) (0 : Int))
 (wpF Try.prog A n 18 [(rs r19 1), (D.int (3 : Int))] fun r20 =>
 (True ∧ (wpF Try.prog A n 59 [d1, (D.slc ([] : List D)), (D.agg [(D.fld (rs r18 0) 0), (D.fld (rs r18 0) 1), (D.fld (rs r18 0) 2), (D.fld (rs r18 0) 3), (D.fld (rs r18 0) 4), (rs r20 0)])] fun r21 =>
 (wpF Try.prog A n 18 [(rs r20 1), (D.int (3 : Int))] fun r22 =>
 (wpF Try.prog A n 18 [(rs r22 1), (D.int (8 : Int))] fun r23 =>
 ((7 : Int) ≠ (0 : Int) ∧ (True ∧ (Q [(D.agg [(D.slc [(D.agg [(D.fld (rs r18 0) 0), (D.fld (rs r18 0) 1), (D.fld (rs r18 0) 2), (D.fld (rs r18 0) 3), (D.fld (rs r18 0) 4), (rs r20 0)])]), (D.int (IntKind.wrap .i64 ((IntKind.wrap .i64 ((D.i (rs r21 0)) + (D.i (rs r22 0)))) - (IntKind.wrap .i64 (Int.tdiv (D.i (rs r23 0)) (7 : Int))))))]), (rs r23 1)]))))))))
 (cond (iEq (D.i (rs r19 0)) (1 : Int))
 (cond (iLt (0 : Int) (D.len (D.fld d1 1)))
 (wpF Try.prog A n 18 [(rs r19 1), (D.int (IntKind.wrap .i64 ((D.len (D.fld d1 1)) + (1 : Int))))] fun r24 =>
 (wpF Try.prog A n 18 [(rs r24 1), (D.int (4 : Int))] fun r25 =>
 (True ∧ (wpF Try.prog A n 59 [d1, (D.slc ([] : List D)), (D.agg [(D.fld (rs r18 0) 0), (D.fld (rs r18 0) 1), (D.fld (rs r18 0) 2), (D.fld (rs r18 0) 3), (D.slc [(D.agg [(rs r24 0), (D.int (IntKind.wrap .i64 ((1 : Int) + (D.i (rs r25 0)))))])]), (D.fld (rs r18 0) 5)])] fun r26 =>
 (wpF Try.prog A n 18 [(rs r25 1), (D.int (3 : Int))] fun r27 =>
 (wpF Try.prog A n 18 [(rs r27 1), (D.int (8 : Int))] fun r28 =>
 ((7 : Int) ≠ (0 : Int) ∧ (True ∧ (Q [(D.agg [(D.slc [(D.agg [(D.fld (rs r18 0) 0), (D.fld (rs r18 0) 1), (D.fld (rs r18 0) 2), (D.fld (rs r18 0) 3), (D.slc [(D.agg [(rs r24 0), (D.int (IntKind.wrap .i64 ((1 : Int) + (D.i (rs r25 0)))))])]), (D.fld (rs r18 0) 5)])]), (D.int (IntKind.wrap .i64 ((IntKind.wrap .i64 ((D.i (rs r26 0)) + (D.i (rs r27 0)))) - (IntKind.wrap .i64 (Int.tdiv (D.i (rs r28 0)) (7 : Int))))))]), (rs r28 1)])))))))))
 (wpF Try.prog A n 59 [d1, (D.slc ([] : List D)), (rs r18 0)] fun r29 =>
 (wpF Try.prog A n 18 [(rs r19 1), (D.int (3 : Int))] fun r30 =>
 (wpF Try.prog A n 18 [(rs r30 1), (D.int (8 : Int))] fun r31 =>
 ((7 : Int) ≠ (0 : Int) ∧ (True ∧ (Q [(D.agg [(D.slc [(rs r18 0)]), (D.int (IntKind.wrap .i64 ((IntKind.wrap .i64 ((D.i (rs r29 0)) + (D.i (rs r30 0)))) - (IntKind.wrap .i64 (Int.tdiv (D.i (rs r31 0)) (7 : Int))))))]), (rs r31 1)])))))))
 (wpF Try.prog A n 59 [d1, (D.slc ([] : List D)), (rs r18 0)] fun r32 =>
 (wpF Try.prog A n 18 [(rs r19 1), (D.int (3 : Int))] fun r33 =>
 (wpF Try.prog A n 18 [(rs r33 1), (D.int (8 : Int))] fun r34 =>
 ((7 : Int) ≠ (0 : Int) ∧ (True ∧ (Q [(D.agg [(D.slc [(rs r18 0)]), (D.int (IntKind.wrap .i64 ((IntKind.wrap .i64 ((D.i (rs r32 0)) + (D.i (rs r33 0)))) - (IntKind.wrap .i64 (Int.tdiv (D.i (rs r34 0)) (7 : Int))))))]), (rs r34 1)])))))))))))
 (wpF Try.prog A n 18 [d0, (D.int (3 : Int))] fun r35 =>
 (cond (iEq (D.i (rs r35 0)) (0 : Int))
 (wpF Try.prog A n 58 [d1] fun r36 =>
 (True ∧ (wpF Try.prog A n 18 [(rs r35 1), (D.int (9 : Int))] fun r37 =>
 (cond (iEq (D.i (rs r37 0)) (0 : Int))
 (wpF Try.prog A n 18 [(rs r37 1), (D.int (3 : Int))] fun r38 =>
 (True ∧ (wpF Try.prog A n 59 [d1, (D.slc ([] : List D)), (D.agg [(D.fld (rs r36 0) 0), (D.fld (rs r36 0) 1), (D.fld (rs r36 0) 2), (D.fld (rs r36 0) 3), (D.fld (rs r36 0) 4), (rs r38 0)])] fun r39 =>
 (wpF Try.prog A n 18 [(rs r38 1), (D.int (3 : Int))] fun r40 =>
 (wpF Try.prog A n 18 [(rs r40 1), (D.int (8 : Int))] fun r41 =>
 ((7 : Int) ≠ (0 : Int) ∧ (True ∧ (Q [(D.agg [(D.slc [(D.agg [(D.fld (rs r36 0) 0), (D.fld (rs r36 0) 1), (D.fld (rs r36 0) 2), (D.fld (rs r36 0) 3), (D.fld (rs r36 0) 4), (rs r38 0)])]), (D.int (IntKind.wrap .i64 ((IntKind.wrap .i64 ((D.i (rs r39 0)) + (D.i (rs r40 0)))) - (IntKind.wrap .i64 (Int.tdiv (D.i (rs r41 0)) (7 : Int))))))]), (rs r41 1)]))))))))
 (cond (iEq (D.i (rs r37 0)) (1 : Int))
 (cond (iLt (0 : Int) (D.len (D.fld d1 1)))
 (wpF Try.prog A n 18 [(rs r37 1), (D.int (IntKind.wrap .i64 ((D.len (D.fld d1 1)) + (1 : Int))))] fun r42 =>
 (wpF Try.prog A n 18 [(rs r42 1), (D.int (4 : Int))] fun r43 =>
 (True ∧ (wpF Try.prog A n 59 [d1, (D.slc ([] : List D)), (D.agg [(D.fld (rs r36 0) 0), (D.fld (rs r36 0) 1), (D.fld (rs r36 0) 2), (D.fld (rs r36 0) 3), (D.slc [(D.agg [(rs r42 0), (D.int (IntKind.wrap .i64 ((1 : Int) + (D.i (rs r43 0)))))])]), (D.fld (rs r36 0) 5)])] fun r44 =>
 (wpF Try.prog A n 18 [(rs r43 1), (D.int (3 : Int))] fun r45 =>
 (wpF Try.prog A n 18 [(rs r45 1), (D.int (8 : Int))] fun r46 =>
 ((7 : Int) ≠ (0 : Int) ∧ (True ∧ (Q [(D.agg [(D.slc [(D.agg [(D.fld (rs r36 0) 0), (D.fld (rs r36 0) 1), (D.fld (rs r36 0) 2), (D.fld (rs r36 0) 3), (D.slc [(D.agg [(rs r42 0), (D.int (IntKind.wrap .i64 ((1 : Int) + (D.i (rs r43 0)))))])]), (D.fld (rs r36 0) 5)])]), (D.int (IntKind.wrap .i64 ((IntKind.wrap .i64 ((D.i (rs r44 0)) + (D.i (rs r45 0)))) - (IntKind.wrap .i64 (Int.tdiv (D.i (rs r46 0)) (7 : Int))))))]), (rs r46 1)])))))))))
 (wpF Try.prog A n 59 [d1, (D.slc ([] : List D)), (rs r36 0)] fun r47 =>
 (wpF Try.prog A n 18 [(rs r37 1), (D.int (3 : Int))] fun r48 =>
 (wpF Try.prog A n 18 [(rs r48 1), (D.int (8 : Int))] fun r49 =>
 ((7 : Int) ≠ (0 : Int) ∧ (True ∧ (Q [(D.agg [(D.slc [(rs r36 0)]), (D.int (IntKind.wrap .i64 ((IntKind.wrap .i64 ((D.i (rs r47 0)) + (D.i (rs r48 0)))) - (IntKind.wrap .i64 (Int.tdiv (D.i (rs r49 0)) (7 : Int))))))]), (rs r49 1)])))))))
 (wpF Try.prog A n 59 [d1, (D.slc ([] : List D)), (rs r36 0)] fun r50 =>
 (wpF Try.prog A n 18 [(rs r37 1), (D.int (3 : Int))] fun r51 =>
 (wpF Try.prog A n 18 [(rs r51 1), (D.int (8 : Int))] fun r52 =>
 ((7 : Int) ≠ (0 : Int) ∧ (True ∧ (Q [(D.agg [(D.slc [(rs r36 0)]), (D.int (IntKind.wrap .i64 ((IntKind.wrap .i64 ((D.i (rs r50 0)) + (D.i (rs r51 0)))) - (IntKind.wrap .i64 (Int.tdiv (D.i (rs r52 0)) (7 : Int))))))]), (rs r52 1)])))))))))))
 (wpF Try.prog A n 60 [(rs r35 1), (D.fld d1 0)] fun r53 =>
 (wpF Try.prog A n 18 [(rs r53 1), (D.int (7 : Int))] fun r54 =>
 (wpF Try.prog A n 49 [(rs r54 1), d1, (D.int (IntKind.wrap .i64 ((D.i d2) - (1 : Int))))] fun r55 =>
 (wpF Try.prog A n 49 [(rs r55 1), d1, (D.int (IntKind.wrap .i64 ((D.i d2) - (1 : Int))))] fun r56 =>
 (wpF Try.prog A n 62 [d1, (rs r53 0), (D.int (IntKind.wrap .i64 ((D.i (rs r54 0)) - (3 : Int)))), (rs r55 0), (rs r56 0)] fun r57 =>
 (True ∧ (True ∧ (Q [(rs r57 0), (rs r56 1)])))))))))))) := by kernel_rfl

/- timebound/timeboundlaw34.spoilt -/
theorem E50 (n : Nat) (d0 d1 : D) (Q : List D → Prop) : wpF Try.prog A (n + 1) 50 [d0, d1] Q =
 (room ((List.length (D.xs (D.fld d1 0)) : Nat) : Int) 80 ∧ (True ∧ (cond (iEq (D.len (D.slc (D.xs (D.fld d1 0)))) (0 : Int))
 (True ∧ (Q [(D.agg [(D.slc (D.xs (D.fld d1 0))), (D.fld d1 1)]), d0]))
 (wpF Try.prog A n 18 [d0, (D.int (D.len (D.slc (D.xs (D.fld d1 0)))))] fun r1 =>
 ((0 ≤ (D.i (rs r1 0)) ∧ (D.i (rs r1 0)) < (D.len (D.slc (D.xs (D.fld d1 0))))) ∧ (wpF Try.prog A n 18 [(rs r1 1), (D.int (9 : Int))] fun r2 =>
 (cond (iEq (D.i (rs r2 0)) (0 : Int))
 (wpF Try.prog A n 18 [(rs r2 1), (D.int (5 : Int))] fun r3 =>
 (True ∧ (True ∧ (Q [(D.agg [(D.slc (D.xs (D.fld d1 0))), (D.int (IntKind.wrap .i64 ((D.i (D.fld d1 1)) + (IntKind.wrap .i64 ((D.i (rs r3 0)) - (2 : Int))))))]), (rs r3 1)]))))
 (cond (iEq (D.i (rs r2 0)) (1 : Int))
 (wpF Try.prog A n 18 [(rs r2 1), (D.int (IntKind.wrap .i64 ((D.len (D.slc (D.xs (D.fld d1 0)))) + (2 : Int))))] fun r4 =>
 (True ∧ (True ∧ (Q [(D.agg [(D.slc (List.set (D.xs (D.fld d1 0)) (Int.toNat (D.i (rs r1 0))) (D.agg [(D.int (IntKind.wrap .i64 ((D.i (rs r4 0)) - (1 : Int)))), (D.fld (List.getD (D.xs (D.slc (D.xs (D.fld d1 0)))) (Int.toNat (D.i (rs r1 0))) D.und) 1), (D.fld (List.getD (D.xs (D.slc (D.xs (D.fld d1 0)))) (Int.toNat (D.i (rs r1 0))) D.und) 2), (D.fld (List.getD (D.xs (D.slc (D.xs (D.fld d1 0)))) (Int.toNat (D.i (rs r1 0))) D.und) 3), (D.fld (List.getD (D.xs (D.slc (D.xs (D.fld d1 0)))) (Int.toNat (D.i (rs r1 0))) D.und) 4), (D.fld (List.getD (D.xs (D.slc (D.xs (D.fld d1 0)))) (Int.toNat (D.i (rs r1 0))) D.und) 5)]))), (D.fld d1 1)]), (rs r4 1)]))))
 (cond (iEq (D.i (rs r2 0)) (2 : Int))
 (wpF Try.prog A n 18 [(rs r2 1), (D.int (IntKind.wrap .i64 ((D.len (D.slc (D.xs (D.fld d1 0)))) + (2 : Int))))] fun r5 =>
 (True ∧ (True ∧ (Q [(D.agg [(D.slc (List.set (D.xs (D.fld d1 0)) (Int.toNat (D.i (rs r1 0))) (D.agg [(D.fld (List.getD (D.xs (D.slc (D.xs (D.fld d1 0)))) (Int.toNat (D.i (rs r1 0))) D.und) 0), (D.int (IntKind.wrap .i64 ((D.i (rs r5 0)) - (1 : Int)))), (D.fld (List.getD (D.xs (D.slc (D.xs (D.fld d1 0)))) (Int.toNat (D.i (rs r1 0))) D.und) 2), (D.fld (List.getD (D.xs (D.slc (D.xs (D.fld d1 0)))) (Int.toNat (D.i (rs r1 0))) D.und) 3), (D.fld (List.getD (D.xs (D.slc (D.xs (D.fld d1 0)))) (Int.toNat (D.i (rs r1 0))) D.und) 4), (D.fld (List.getD (D.xs (D.slc (D.xs (D.fld d1 0)))) (Int.toNat (D.i (rs r1 0))) D.und) 5)]))), (D.fld d1 1)]), (rs r5 1)]))))
 (cond (iEq (D.i (rs r2 0)) (3 : Int))
 (wpF Try.prog A n 18 [(rs r2 1), (D.int (5 : Int))] fun r6 =>
 (True ∧ (True ∧ (Q [(D.agg [(D.slc (List.set (D.xs (D.fld d1 0)) (Int.toNat (D.i (rs r1 0))) (D.agg [(D.fld (List.getD (D.xs (D.slc (D.xs (D.fld d1 0)))) (Int.toNat (D.i (rs r1 0))) D.und) 0), (D.fld (List.getD (D.xs (D.slc (D.xs (D.fld d1 0)))) (Int.toNat (D.i (rs r1 0))) D.und) 1), (D.fld (List.getD (D.xs (D.slc (D.xs (D.fld d1 0)))) (Int.toNat (D.i (rs r1 0))) D.und) 2), (D.int (IntKind.wrap .i64 ((D.i (D.fld (List.getD (D.xs (D.slc (D.xs (D.fld d1 0)))) (Int.toNat (D.i (rs r1 0))) D.und) 3)) + (IntKind.wrap .i64 ((D.i (rs r6 0)) - (2 : Int)))))), (D.fld (List.getD (D.xs (D.slc (D.xs (D.fld d1 0)))) (Int.toNat (D.i (rs r1 0))) D.und) 4), (D.fld (List.getD (D.xs (D.slc (D.xs (D.fld d1 0)))) (Int.toNat (D.i (rs r1 0))) D.und) 5)]))), (D.fld d1 1)]), (rs r6 1)]))))
 (cond (iEq (D.i (rs r2 0)) (4 : Int))
 (wpF Try.prog A n 18 [(rs r2 1), (D.int (6 : Int))] fun r7 =>
 ((0 ≤ (D.i (rs r7 0)) ∧ (D.i (rs r7 0)) < (D.len (D.slc [(D.int (0 : Int)), (D.int (1 : Int)), (D.int (2 : Int)), (D.int (1024 : Int)), (D.int (1025 : Int)), (D.int (-1 : Int))]))) ∧ (True ∧ (True ∧ (Q [(D.agg [(D.slc (List.set (D.xs (D.fld d1 0)) (Int.toNat (D.i (rs r1 0))) (D.agg [(D.fld (List.getD (D.xs (D.slc (D.xs (D.fld d1 0)))) (Int.toNat (D.i (rs r1 0))) D.und) 0), (D.fld (List.getD (D.xs (D.slc (D.xs (D.fld d1 0)))) (Int.toNat (D.i (rs r1 0))) D.und) 1), (D.fld (List.getD (D.xs (D.slc (D.xs (D.fld d1 0)))) (Int.toNat (D.i (rs r1 0))) D.und) 2), (D.fld (List.getD (D.xs (D.slc (D.xs (D.fld d1 0)))) (Int.toNat (D.i (rs r1 0))) D.und) 3), (D.fld (List.getD (D.xs (D.slc (D.xs (D.fld d1 0)))) (Int.toNat (D.i (rs r1 0))) D.und) 4), (List.getD (D.xs (D.slc [(D.int (0 : Int)), (D.int (1 : Int)), (D.int (2 : Int)), (D.int (1024 : Int)), (D.int (1025 : Int)), (D.int (-1 : Int))])) (Int.toNat (D.i (rs r7 0))) D.und)]))), (D.fld d1 1)]), (rs r7 1)])))))
 (cond (iEq (D.i (rs r2 0)) (5 : Int))
 (room ((List.length (D.xs (D.fld (List.getD (D.xs (D.slc (D.xs (D.fld d1 0)))) (Int.toNat (D.i (rs r1 0))) D.und) 4)) : Nat) : Int) 16 ∧ (wpF Try.prog A n 18 [(rs r2 1), (D.int (12 : Int))] fun r8 =>
 (wpF Try.prog A n 18 [(rs r8 1), (D.int (5 : Int))] fun r9 =>
 ((0 ≤ (D.i (rs r9 0)) ∧ (D.i (rs r9 0)) < (D.len (D.slc [(D.int (1 : Int)), (D.int (0 : Int)), (D.int (1073741824 : Int)), (D.int (1073741825 : Int)), (D.int (-1 : Int))]))) ∧ (room (((List.length (D.xs (D.fld (List.getD (D.xs (D.slc (D.xs (D.fld d1 0)))) (Int.toNat (D.i (rs r1 0))) D.und) 4)) : Nat) : Int) + ((List.length [(D.agg [(rs r8 0), (List.getD (D.xs (D.slc [(D.int (1 : Int)), (D.int (0 : Int)), (D.int (1073741824 : Int)), (D.int (1073741825 : Int)), (D.int (-1 : Int))])) (Int.toNat (D.i (rs r9 0))) D.und)])] : Nat) : Int)) 16 ∧ (True ∧ (True ∧ (Q [(D.agg [(D.slc (List.set (D.xs (D.fld d1 0)) (Int.toNat (D.i (rs r1 0))) (D.agg [(D.fld (List.getD (D.xs (D.slc (D.xs (D.fld d1 0)))) (Int.toNat (D.i (rs r1 0))) D.und) 0), (D.fld (List.getD (D.xs (D.slc (D.xs (D.fld d1 0)))) (Int.toNat (D.i (rs r1 0))) D.und) 1), (D.fld (List.getD (D.xs (D.slc (D.xs (D.fld d1 0)))) (Int.toNat (D.i (rs r1 0))) D.und) 2), (D.fld (List.getD (D.xs (D.slc (D.xs (D.fld d1 0)))) (Int.toNat (D.i (rs r1 0))) D.und) 3), (D.slc ((D.xs (D.fld (List.getD (D.xs (D.slc (D.xs (D.fld d1 0)))) (Int.toNat (D.i (rs r1 0))) D.und) 4)) ++ [(D.agg [(rs r8 0), (List.getD (D.xs (D.slc [(D.int (1 : Int)), (D.int (0 : Int)), (D.int (1073741824 : Int)), (D.int (1073741825 : Int)), (D.int (-1 : Int))])) (Int.toNat (D.i (rs r9 0))) D.und)])])), (D.fld (List.getD (D.xs (D.slc (D.xs (D.fld d1 0)))) (Int.toNat (D.i (rs r1 0))) D.und) 5)]))), (D.fld d1 1)]), (rs r9 1)]))))))))
 (cond (iEq (D.i (rs r2 0)) (6 : Int))
 (room ((List.length (D.xs (D.fld (List.getD (D.xs (D.slc (D.xs (D.fld d1 0)))) (Int.toNat (D.i (rs r1 0))) D.und) 2)) : Nat) : Int) 16 ∧ (wpF Try.prog A n 18 [(rs r2 1), (D.int (5 : Int))] fun r10 =>
 (room (((List.length (D.xs (D.fld (List.getD (D.xs (D.slc (D.xs (D.fld d1 0)))) (Int.toNat (D.i (rs r1 0))) D.und) 2)) : Nat) : Int) + ((List.length [(D.agg [(rs r10 0), (D.int (1 : Int))])] : Nat) : Int)) 16 ∧ (True ∧ (True ∧ (Q [(D.agg [(D.slc (List.set (D.xs (D.fld d1 0)) (Int.toNat (D.i (rs r1 0))) (D.agg [(D.fld (List.getD (D.xs (D.slc (D.xs (D.fld d1 0)))) (Int.toNat (D.i (rs r1 0))) D.und) 0), (D.fld (List.getD (D.xs (D.slc (D.xs (D.fld d1 0)))) (Int.toNat (D.i (rs r1 0))) D.und) 1), (D.slc ((D.xs (D.fld (List.getD (D.xs (D.slc (D.xs (D.fld d1 0)))) (Int.toNat (D.i (rs r1 0))) D.und) 2)) ++ [(D.agg [(rs r10 0), (D.int (1 : Int))])])), (D.fld (List.getD (D.xs (D.slc (D.xs (D.fld d1 0)))) (Int.toNat (D.i (rs r1 0))) D.und) 3), (D.fld (List.getD (D.xs (D.slc (D.xs (D.fld d1 0)))) (Int.toNat (D.i (rs r1 0))) D.und) 4), (D.fld (List.getD (D.xs (D.slc (D.xs (D.fld d1 0)))) (Int.toNat (D.i (rs r1 0))) D.und) 5)]))), (D.fld d1 1)]), (rs r10 1)]))))))
 (cond (iEq (D.i (rs r2 0)) (7 : Int))
 ((0 ≤ (0 : Int) ∧ (0 : Int) ≤ (IntKind.wrap .i64 ((D.len (D.slc (D.xs (D.fld d1 0)))) - (1 : Int))) ∧ (IntKind.wrap .i64 ((D.len (D.slc (D.xs (D.fld d1 0)))) - (1 : Int))) ≤ (D.len (D.slc (D.xs (D.fld d1 0))))) ∧ (True ∧ (True ∧ (Q [(D.agg [(D.slc (List.drop (Int.toNat (0 : Int)) (List.take (Int.toNat (IntKind.wrap .i64 ((D.len (D.slc (D.xs (D.fld d1 0)))) - (1 : Int)))) (D.xs (D.fld d1 0))))), (D.fld d1 1)]), (rs r2 1)]))))
 (cond (iEq (D.i (rs r2 0)) (8 : Int))
 (room (((List.length (D.xs (D.fld d1 0)) : Nat) : Int) + ((List.length [(D.agg [(D.int (-1 : Int)), (D.int (-1 : Int)), (D.slc ([] : List D)), (D.int (0 : Int)), (D.slc ([] : List D)), (D.int (1 : Int))])] : Nat) : Int)) 80 ∧ (True ∧ (True ∧ (Q [(D.agg [(D.slc ((D.xs (D.fld d1 0)) ++ [(D.agg [(D.int (-1 : Int)), (D.int (-1 : Int)), (D.slc ([] : List D)), (D.int (0 : Int)), (D.slc ([] : List D)), (D.int (1 : Int))])])), (D.fld d1 1)]), (rs r2 1)]))))
 (True ∧ (Q [(D.agg [(D.slc (D.xs (D.fld d1 0))), (D.fld d1 1)]), (rs r2 1)]))))))))))))))))) := by kernel_rfl

/- timebound/timeboundref34.Sides -/
def L64_3 (n m0 : Nat) (x0 : D) (x1 : D) (x9 : D) (x10 : D) (x11 : D) (xo4 : D) (xo5 : D) (xo6 : D) (Q : List D → Prop) : Prop :=
  loopK (wpC Try.prog A (hnd Try.prog A n) 64 n (cA (cA (cB (cA (cB (cB (bodyOf Try.f64)))))))) (nmK (A.loop 64 3)) m0 { sl := [(0, .imm 80 x0), (1, .imm 3 x1), (4, .ptr 4 [] 100), (5, .ptr 5 [] 100), (6, .val 6 [] 80), (9, .imm 80 x9), (10, .imm 3 x10), (11, .imm 3 x11)], ob := [(4, some ⟨true, 100, (.agg [(0, (.slc .imm none))]), xo4⟩), (5, some ⟨true, 100, (.agg [(0, (.slc .imm none))]), xo5⟩), (6, some ⟨false, 80, (.slc .imm none), xo6⟩)] } (kBlock 0 (kSeq (wpC Try.prog A (hnd Try.prog A n) 64 n (cB (cB (cB (bodyOf Try.f64))))) (kEnd Try.prog Try.f64 (A.sig 64) Q)))
theorem L64_3_eq (n m0 : Nat) (x0 : D) (x1 : D) (x9 : D) (x10 : D) (x11 : D) (xo4 : D) (xo5 : D) (xo6 : D) (Q : List D → Prop) : L64_3 n (m0 + 1) x0 x1 x9 x10 x11 xo4 xo5 xo6 Q =
 (cond (iLt (D.i x11) (D.i x10))
 ((0 ≤ (D.i x11) ∧ (D.i x11) < (D.len x9)) ∧ (True ∧ (room (((List.length (D.xs xo6) : Nat) : Int) + ((List.length [(D.agg [(D.fld (D.el x9 (D.i x11)) 0), (D.int (IntKind.wrap .i64 ((0 : Int) - (D.i (D.fld (D.el x9 (D.i x11)) 1)))))])] : Nat) : Int)) 16 ∧ (L64_3 n  m0 x0 x1 x9 x10 (D.int (IntKind.wrap .i64 ((D.i x11) + (1 : Int)))) xo4 xo5 (D.slc ((D.xs xo6) ++ [(D.agg [(D.fld (D.el x9 (D.i x11)) 0), (D.int (IntKind.wrap .i64 ((0 : Int) - (D.i (D.fld (D.el x9 (D.i x11)) 1)))))])])) Q))))
 (True ∧ (True ∧ (Q [(D.agg [x0, x1]), (D.agg [xo6, (D.int (IntKind.wrap .i64 ((IntKind.wrap .i64 ((0 : Int) - (D.i x1))) - (1 : Int))))])])))) := by kernel_rfl
theorem E64 (n : Nat) (d0 d1 : D) (Q : List D → Prop) : wpF Try.prog A (n + 1) 64 [d0, d1] Q =
 (L64_3 n  n d0 d1 d0 (D.int (D.len d0)) (D.int (0 : Int)) (D.agg [(D.slc ([] : List D)), (D.int (0 : Int))]) (D.agg [(D.slc ([] : List D)), (D.int (0 : Int))]) (D.slc ([] : List D)) Q) := by kernel_rfl
attribute [irreducible] L64_3

/- timebound/timeboundref34.Check -/
def L54_7 (n m0 : Nat) (x27 : D) (x28 : D) (x29 : D) (xo2 : D) (xo3 : D) (xo25 : D) (Q : List D → Prop) : Prop :=
  loopK (wpC Try.prog A (hnd Try.prog A n) 54 n (cA (cA (cB (cA (cB (cB (cB (cB (bodyOf Try.f54)))))))))) (nmK (A.loop 54 7)) m0 { sl := [(2, .ptr 2 [] 82), (3, .ptr 3 [] 78), (5, .val 25 [] 151), (27, .imm 76 x27), (28, .imm 3 x28), (29, .imm 3 x29)], ob := [(2, some ⟨true, 82, .imm, xo2⟩), (3, some ⟨true, 78, .imm, xo3⟩), (25, some ⟨false, 151, (.slc .imm none), xo25⟩)] } (kBlock 0 (kSeq (wpC Try.prog A (hnd Try.prog A n) 54 n (cB (cB (cB (cB (cB (bodyOf Try.f54))))))) (kEnd Try.prog Try.f54 (A.sig 54) Q)))
def L54_17 (n m0 : Nat) (x81 : D) (x82 : D) (x83 : D) (xo2 : D) (xo3 : D) (xo25 : D) (Q : List D → Prop) : Prop :=
  loopK (wpC Try.prog A (hnd Try.prog A n) 54 n (cA (cA (cB (cA (cB (cB (cB (cB (cB (bodyOf Try.f54))))))))))) (nmK (A.loop 54 17)) m0 { sl := [(2, .ptr 2 [] 82), (3, .ptr 3 [] 78), (5, .val 25 [] 151), (81, .imm 76 x81), (82, .imm 3 x82), (83, .imm 3 x83)], ob := [(2, some ⟨true, 82, .imm, xo2⟩), (3, some ⟨true, 78, .imm, xo3⟩), (25, some ⟨false, 151, (.slc .imm none), xo25⟩)] } (kBlock 2 (kSeq (wpC Try.prog A (hnd Try.prog A n) 54 n (cB (cB (cB (cB (cB (cB (bodyOf Try.f54)))))))) (kEnd Try.prog Try.f54 (A.sig 54) Q)))
theorem L54_7_eq (n m0 : Nat) (x27 : D) (x28 : D) (x29 : D) (xo2 : D) (xo3 : D) (xo25 : D) (Q : List D → Prop) : L54_7 n (m0 + 1) x27 x28 x29 xo2 xo3 xo25 Q =
 (cond (iLt (D.i x29) (D.i x28))
 ((0 ≤ (D.i x29) ∧ (D.i x29) < (D.len x27)) ∧ (True ∧ ((0 ≤ (D.i x29) ∧ (D.i x29) < (D.len xo25)) ∧ (cond (iLt (400 : Int) (IntKind.wrap .i64 ((D.len (D.fld xo2 1)) + (D.len (List.getD (D.xs xo25) (Int.toNat (D.i x29)) D.und)))))
 (Q [(D.int (10 : Int))])
 (cond (!(iEq (D.i (D.fld (D.el x27 (D.i x29)) 0)) (-1 : Int)))
 (wpF Try.prog A n 64 [(D.fld (D.el x27 (D.i x29)) 2), (D.fld (D.el x27 (D.i x29)) 3)] fun r3 =>
 (True ∧ (True ∧ ((0 ≤ (D.i x29) ∧ (D.i x29) < (D.len xo25)) ∧ (room ((List.length (D.xs (List.getD (D.xs xo25) (Int.toNat (D.i x29)) D.und)) : Nat) : Int) 32 ∧ (room (((List.length (D.xs (List.getD (D.xs xo25) (Int.toNat (D.i x29)) D.und)) : Nat) : Int) + ((List.length [(rs r3 0)] : Nat) : Int)) 32 ∧ ((0 ≤ (D.i (D.fld (D.el x27 (D.i x29)) 0)) ∧ (D.i (D.fld (D.el x27 (D.i x29)) 0)) < (D.len xo25)) ∧ (True ∧ ((0 ≤ (D.i x29) ∧ (D.i x29) < (D.len (D.slc (List.set (D.xs xo25) (Int.toNat (D.i (D.fld (D.el x27 (D.i x29)) 0))) (D.slc ((D.xs (List.getD (D.xs xo25) (Int.toNat (D.i x29)) D.und)) ++ [(rs r3 0)])))))) ∧ (room ((List.length (D.xs (List.getD (D.xs (D.slc (List.set (D.xs xo25) (Int.toNat (D.i (D.fld (D.el x27 (D.i x29)) 0))) (D.slc ((D.xs (List.getD (D.xs xo25) (Int.toNat (D.i x29)) D.und)) ++ [(rs r3 0)]))))) (Int.toNat (D.i x29)) D.und)) : Nat) : Int) 32 ∧ (room (((List.length (D.xs (List.getD (D.xs (D.slc (List.set (D.xs xo25) (Int.toNat (D.i (D.fld (D.el x27 (D.i x29)) 0))) (D.slc ((D.xs (List.getD (D.xs xo25) (Int.toNat (D.i x29)) D.und)) ++ [(rs r3 0)]))))) (Int.toNat (D.i x29)) D.und)) : Nat) : Int) + ((List.length [(rs r3 1)] : Nat) : Int)) 32 ∧ ((0 ≤ (D.i (D.fld (D.el x27 (D.i x29)) 1)) ∧ (D.i (D.fld (D.el x27 (D.i x29)) 1)) < (D.len (D.slc (List.set (D.xs xo25) (Int.toNat (D.i (D.fld (D.el x27 (D.i x29)) 0))) (D.slc ((D.xs (List.getD (D.xs xo25) (Int.toNat (D.i x29)) D.und)) ++ [(rs r3 0)])))))) ∧ (True ∧ (L54_7 n  m0 x27 x28 (D.int (IntKind.wrap .i64 ((D.i x29) + (1 : Int)))) xo2 xo3 (D.slc (List.set (List.set (D.xs xo25) (Int.toNat (D.i (D.fld (D.el x27 (D.i x29)) 0))) (D.slc ((D.xs (List.getD (D.xs xo25) (Int.toNat (D.i x29)) D.und)) ++ [(rs r3 0)]))) (Int.toNat (D.i (D.fld (D.el x27 (D.i x29)) 1))) (D.slc ((D.xs (List.getD (D.xs (D.slc (List.set (D.xs xo25) (Int.toNat (D.i (D.fld (D.el x27 (D.i x29)) 0))) (D.slc ((D.xs (List.getD (D.xs xo25) (Int.toNat (D.i x29)) D.und)) ++ [(rs r3 0)]))))) (Int.toNat (D.i x29)) D.und)) ++ [(rs r3 1)])))) Q))))))))))))))
 (L54_7 n  m0 x27 x28 (D.int (IntKind.wrap .i64 ((D.i x29) + (1 : Int)))) xo2 xo3 xo25 Q))))))
 (L54_17 n  n (D.fld xo3 0) (D.int (D.len (D.fld xo3 0))) (D.int (0 : Int)) xo2 xo3 xo25 Q)) := by kernel_rfl
theorem L54_17_eq (n m0 : Nat) (x81 : D) (x82 : D) (x83 : D) (xo2 : D) (xo3 : D) (xo25 : D) (Q : List D → Prop) : L54_17 n (m0 + 1) x81 x82 x83 xo2 xo3 xo25 Q =
 (cond (iLt (D.i x83) (D.i x82))
 ((0 ≤ (D.i x83) ∧ (D.i x83) < (D.len x81)) ∧ (True ∧ (cond (!(iEq (D.i (D.fld (D.el x81 (D.i x83)) 0)) (-1 : Int)))
 (L54_17 n  m0 x81 x82 (D.int (IntKind.wrap .i64 ((D.i x83) + (1 : Int)))) xo2 xo3 xo25 Q)
 ((0 ≤ (D.i x83) ∧ (D.i x83) < (D.len xo25)) ∧ (wpF Try.prog A n 59 [xo2, (List.getD (D.xs xo25) (Int.toNat (D.i x83)) D.und), (D.el x81 (D.i x83))] fun r4 =>
 (cond (!(D.b (rs r4 1)))
 (Q [(D.int (37 : Int))])
 (cond (!(D.b (rs r4 2)))
 (cond (iLt (D.i (D.fld xo3 1)) (D.i (rs r4 0)))
 (Q [(D.int (37 : Int))])
 (L54_17 n  m0 x81 x82 (D.int (IntKind.wrap .i64 ((D.i x83) + (1 : Int)))) xo2 xo3 xo25 Q))
 (L54_17 n  m0 x81 x82 (D.int (IntKind.wrap .i64 ((D.i x83) + (1 : Int)))) xo2 xo3 xo25 Q))))))))
 (Q [(D.int (0 : Int))])) := by kernel_rfl
theorem E54 (n : Nat) (d0 d1 : D) (Q : List D → Prop) : wpF Try.prog A (n + 1) 54 [d0, d1] Q =
 (wpF Try.prog A n 102 [d0] fun r1 =>
 (cond (!(D.b (rs r1 0)))
 (Q [(D.int (33 : Int))])
 (wpF Try.prog A n 52 [d0, d1] fun r2 =>
 (cond (!(D.b (rs r2 0)))
 (Q [(D.int (10 : Int))])
 ((0 ≤ (D.len (D.fld d1 0)) ∧ (D.len (D.fld d1 0)) ≤ (D.len (D.fld d1 0)) ∧ room (D.len (D.fld d1 0)) 24) ∧ (L54_7 n  n (D.fld d1 0) (D.int (D.len (D.fld d1 0))) (D.int (0 : Int)) d0 d1 (D.slc (List.replicate (Int.toNat (D.len (D.fld d1 0))) (D.slc ([] : List D)))) Q)))))) := by kernel_rfl
attribute [irreducible] L54_7 L54_17

/- timebound/timeboundref34.Cases -/
def L56_3 (n m0 : Nat) (x3 : D) (x7 : D) (x8 : D) (x9 : D) (Q : List D → Prop) : Prop :=
  loopK (wpC Try.prog A (hnd Try.prog A n) 56 n (cA (cA (cB (cA (cB (cB (bodyOf Try.f56)))))))) (nmK (A.loop 56 3)) m0 { sl := [(3, .imm 3 x3), (7, .imm 76 x7), (8, .imm 3 x8), (9, .imm 3 x9)], ob := [] } (kBlock 0 (kSeq (wpC Try.prog A (hnd Try.prog A n) 56 n (cB (cB (cB (bodyOf Try.f56))))) (kEnd Try.prog Try.f56 (A.sig 56) Q)))
theorem L56_3_eq (n m0 : Nat) (x3 : D) (x7 : D) (x8 : D) (x9 : D) (Q : List D → Prop) : L56_3 n (m0 + 1) x3 x7 x8 x9 Q =
 (cond (iLt (D.i x9) (D.i x8))
 ((0 ≤ (D.i x9) ∧ (D.i x9) < (D.len x7)) ∧ (True ∧ (cond (iEq (D.i (D.fld (D.el x7 (D.i x9)) 0)) (-1 : Int))
 (L56_3 n  m0 (D.int (IntKind.wrap .i64 ((D.i x3) + (1 : Int)))) x7 x8 (D.int (IntKind.wrap .i64 ((D.i x9) + (1 : Int)))) Q)
 (L56_3 n  m0 x3 x7 x8 (D.int (IntKind.wrap .i64 ((D.i x9) + (1 : Int)))) Q))))
 (Q [x3])) := by kernel_rfl
theorem E56 (n : Nat) (d0 : D) (Q : List D → Prop) : wpF Try.prog A (n + 1) 56 [d0] Q =
 (L56_3 n  n (D.int (0 : Int)) (D.fld d0 0) (D.int (D.len (D.fld d0 0))) (D.int (0 : Int)) Q) := by kernel_rfl
attribute [irreducible] L56_3

/- timebound/timeboundlaw34.CertificateChecks -/
def L10_7 (n m0 : Nat) (x45 : D) (x46 : D) (xo4 : D) (xo8 : D) (xo44 : D) (Q : List D → Prop) : Prop :=
  loopK (wpC Try.prog A (hnd Try.prog A n) 10 n (cA (cA (cB (cA (cB (cB (cB (cB (cB (bodyOf Try.f10))))))))))) (nmK (A.loop 10 7)) m0 { sl := [(4, .ptr 4 [] 82), (8, .ptr 8 [] 82), (44, .val 44 [] 87), (45, .imm 3 x45), (46, .imm 3 x46)], ob := [(4, some ⟨true, 82, .imm, xo4⟩), (8, some ⟨true, 82, .imm, xo8⟩), (44, some ⟨false, 87, (.slc .imm none), xo44⟩)] } (kBlock 0 (kSeq (wpC Try.prog A (hnd Try.prog A n) 10 n (cB (cB (cB (cB (cB (cB (bodyOf Try.f10)))))))) (kEnd Try.prog Try.f10 (A.sig 10) Q)))
theorem L10_7_eq (n m0 : Nat) (x45 : D) (x46 : D) (xo4 : D) (xo8 : D) (xo44 : D) (Q : List D → Prop) : L10_7 n (m0 + 1) x45 x46 xo4 xo8 xo44 Q =
 (cond (iLt (D.i x46) (D.i x45))
 ((0 ≤ (D.i x46) ∧ (D.i x46) < (D.len xo44)) ∧ (True ∧ (wpF Try.prog A n 51 [xo8, (List.getD (D.xs xo44) (Int.toNat (D.i x46)) D.und)] fun r9 =>
 (wpF Try.prog A n 52 [xo8, (List.getD (D.xs xo44) (Int.toNat (D.i x46)) D.und)] fun r10 =>
 (cond (!(bEq (D.b (rs r9 0)) (D.b (rs r10 0))))
 (Q [(D.bool false)])
 (wpF Try.prog A n 53 [xo8, (List.getD (D.xs xo44) (Int.toNat (D.i x46)) D.und)] fun r11 =>
 (wpF Try.prog A n 54 [xo8, (List.getD (D.xs xo44) (Int.toNat (D.i x46)) D.und)] fun r12 =>
 (cond (!(iEq (D.i (rs r11 0)) (D.i (rs r12 0))))
 (Q [(D.bool false)])
 (wpF Try.prog A n 55 [(List.getD (D.xs xo44) (Int.toNat (D.i x46)) D.und)] fun r13 =>
 (wpF Try.prog A n 56 [(List.getD (D.xs xo44) (Int.toNat (D.i x46)) D.und)] fun r14 =>
 (cond (!(iEq (D.i (rs r13 0)) (D.i (rs r14 0))))
 (Q [(D.bool false)])
 (wpF Try.prog A n 53 [xo4, (List.getD (D.xs xo44) (Int.toNat (D.i x46)) D.und)] fun r15 =>
 (wpF Try.prog A n 54 [xo4, (List.getD (D.xs xo44) (Int.toNat (D.i x46)) D.und)] fun r16 =>
 (cond (!(iEq (D.i (rs r15 0)) (D.i (rs r16 0))))
 (Q [(D.bool false)])
 (L10_7 n  m0 x45 (D.int (IntKind.wrap .i64 ((D.i x46) + (1 : Int)))) xo4 xo8 xo44 Q)))))))))))))))
 (wpF Try.prog A n 47 [] fun r17 =>
 (Q [(rs r17 0)]))) := by kernel_rfl
theorem E10 (n : Nat) (d0 d1 d2 : D) (Q : List D → Prop) : wpF Try.prog A (n + 1) 10 [d0, d1, d2] Q =
 (cond (iLt (1100 : Int) (D.len (D.fld d0 0)))
 (wpF Try.prog A n 47 [] fun r1 =>
 (Q [(rs r1 0)]))
 (cond (iLt (420 : Int) (D.len (D.fld d1 1)))
 (wpF Try.prog A n 47 [] fun r2 =>
 (Q [(rs r2 0)]))
 (wpF Try.prog A n 15 [d2] fun r3 =>
 (wpF Try.prog A n 48 [(rs r3 0)] fun r4 =>
 (True ∧ (wpF Try.prog A n 49 [(rs r4 2), (rs r4 0), (D.int (3 : Int))] fun r5 =>
 (True ∧ (wpF Try.prog A n 50 [(rs r5 1), (rs r5 0)] fun r6 =>
 (wpF Try.prog A n 50 [(rs r6 1), (rs r5 0)] fun r7 =>
 (wpF Try.prog A n 50 [(rs r7 1), (rs r7 0)] fun r8 =>
 (L10_7 n  n (D.int (D.len (D.slc [(rs r5 0), (rs r6 0), (rs r8 0), d0]))) (D.int (0 : Int)) d1 (rs r4 0) (D.slc [(rs r5 0), (rs r6 0), (rs r8 0), d0]) Q))))))))))) := by kernel_rfl
attribute [irreducible] L10_7

/- timebound/timeboundref33.Value -/
def L57_4 (n m0 : Nat) (x1 : D) (x21 : D) (x22 : D) (x23 : D) (xo2 : D) (Q : List D → Prop) : Prop :=
  loopK (wpC Try.prog A (hnd Try.prog A n) 57 n (cA (cA (cB (cA (cB (cB (bodyOf Try.f57)))))))) (nmK (A.loop 57 4)) m0 { sl := [(1, .imm 22 x1), (2, .ptr 2 [] 82), (21, .imm 22 x21), (22, .imm 3 x22), (23, .imm 3 x23)], ob := [(2, some ⟨true, 82, .imm, xo2⟩)] } (kBlock 0 (kSeq (wpC Try.prog A (hnd Try.prog A n) 57 n (cB (cB (cB (bodyOf Try.f57))))) (kEnd Try.prog Try.f57 (A.sig 57) Q)))
def L57_10 (n m0 : Nat) (x1 : D) (x35 : D) (x36 : D) (x37 : D) (xo2 : D) (Q : List D → Prop) : Prop :=
  loopK (wpC Try.prog A (hnd Try.prog A n) 57 n (cA (cA (cB (cA (cB (cB (cB (bodyOf Try.f57))))))))) (nmK (A.loop 57 10)) m0 { sl := [(1, .imm 22 x1), (2, .ptr 2 [] 82), (35, .imm 79 x35), (36, .imm 3 x36), (37, .imm 3 x37)], ob := [(2, some ⟨true, 82, .imm, xo2⟩)] } (kBlock 2 (kSeq (wpC Try.prog A (hnd Try.prog A n) 57 n (cB (cB (cB (cB (bodyOf Try.f57)))))) (kEnd Try.prog Try.f57 (A.sig 57) Q)))
def L57_14 (n m0 m1 : Nat) (x1 : D) (x10 : D) (x35 : D) (x36 : D) (x37 : D) (x42 : D) (x43 : D) (x44 : D) (xo2 : D) (xo9 : D) (Q : List D → Prop) : Prop :=
  loopK (wpC Try.prog A (hnd Try.prog A n) 57 n (cA (cA (cB (cA (cB (cB (cA (cA (cB (cB (cA (cA (cB (cA (cB (cB (cB (bodyOf Try.f57))))))))))))))))))) (nmK (A.loop 57 14)) m1 { sl := [(1, .imm 22 x1), (2, .ptr 2 [] 82), (9, .ptr 9 [] 100), (10, .imm 3 x10), (35, .imm 79 x35), (36, .imm 3 x36), (37, .imm 3 x37), (42, .imm 80 x42), (43, .imm 3 x43), (44, .imm 3 x44)], ob := [(2, some ⟨true, 82, .imm, xo2⟩), (9, some ⟨true, 100, .imm, xo9⟩)] } (kBlock 4 (kSeq (wpC Try.prog A (hnd Try.prog A n) 57 n (cB (cB (cB (cA (cA (cB (cB (cA (cA (cB (cA (cB (cB (cB (bodyOf Try.f57)))))))))))))))) (kBlock 3 (kSeq (wpC Try.prog A (hnd Try.prog A n) 57 n (cB (cB (cB (cA (cA (cB (cA (cB (cB (cB (bodyOf Try.f57)))))))))))) (kLoop (nmK (A.loop 57 10)) (fun g => loopK (wpC Try.prog A (hnd Try.prog A n) 57 n (cA (cA (cB (cA (cB (cB (cB (bodyOf Try.f57))))))))) (nmK (A.loop 57 10)) m0 g (kBlock 2 (kSeq (wpC Try.prog A (hnd Try.prog A n) 57 n (cB (cB (cB (cB (bodyOf Try.f57)))))) (kEnd Try.prog Try.f57 (A.sig 57) Q)))) (kBlock 2 (kSeq (wpC Try.prog A (hnd Try.prog A n) 57 n (cB (cB (cB (cB (bodyOf Try.f57)))))) (kEnd Try.prog Try.f57 (A.sig 57) Q))))))))
def L57_23 (n m0 : Nat) (x1 : D) (x13 : D) (x67 : D) (x68 : D) (x69 : D) (Q : List D → Prop) : Prop :=
  loopK (wpC Try.prog A (hnd Try.prog A n) 57 n (cA (cA (cB (cA (cB (cB (cB (cB (cB (bodyOf Try.f57))))))))))) (nmK (A.loop 57 23)) m0 { sl := [(1, .imm 22 x1), (13, .imm 3 x13), (67, .imm 80 x67), (68, .imm 3 x68), (69, .imm 3 x69)], ob := [] } (kBlock 6 (kSeq (wpC Try.prog A (hnd Try.prog A n) 57 n (cB (cB (cB (cB (cB (cB (bodyOf Try.f57)))))))) (kEnd Try.prog Try.f57 (A.sig 57) Q)))
theorem L57_4_eq (n m0 : Nat) (x1 : D) (x21 : D) (x22 : D) (x23 : D) (xo2 : D) (Q : List D → Prop) : L57_4 n (m0 + 1) x1 x21 x22 x23 xo2 Q =
 (cond (iLt (D.i x23) (D.i x22))
 ((0 ≤ (D.i x23) ∧ (D.i x23) < (D.len x21)) ∧ (cond (iLt (D.i (D.el x21 (D.i x23))) (0 : Int))
 (Q [(D.int (0 : Int)), (D.bool false)])
 (cond (iLt (1048576 : Int) (D.i (D.el x21 (D.i x23))))
 (Q [(D.int (0 : Int)), (D.bool false)])
 (L57_4 n  m0 x1 x21 x22 (D.int (IntKind.wrap .i64 ((D.i x23) + (1 : Int)))) xo2 Q))))
 (L57_10 n  n x1 (D.fld xo2 1) (D.int (D.len (D.fld xo2 1))) (D.int (0 : Int)) xo2 Q)) := by kernel_rfl
theorem L57_10_eq (n m0 : Nat) (x1 : D) (x35 : D) (x36 : D) (x37 : D) (xo2 : D) (Q : List D → Prop) : L57_10 n (m0 + 1) x1 x35 x36 x37 xo2 Q =
 (cond (iLt (D.i x37) (D.i x36))
 ((0 ≤ (D.i x37) ∧ (D.i x37) < (D.len x35)) ∧ (True ∧ (L57_14 n m0 n x1 (D.int (0 : Int)) x35 x36 x37 (D.fld (D.el x35 (D.i x37)) 0) (D.int (D.len (D.fld (D.el x35 (D.i x37)) 0))) (D.int (0 : Int)) xo2 (D.el x35 (D.i x37)) Q)))
 (L57_23 n  n x1 (D.fld xo2 3) (D.fld xo2 2) (D.int (D.len (D.fld xo2 2))) (D.int (0 : Int)) Q)) := by kernel_rfl
theorem L57_14_eq (n m0 m1 : Nat) (x1 : D) (x10 : D) (x35 : D) (x36 : D) (x37 : D) (x42 : D) (x43 : D) (x44 : D) (xo2 : D) (xo9 : D) (Q : List D → Prop) : L57_14 n m0 (m1 + 1) x1 x10 x35 x36 x37 x42 x43 x44 xo2 xo9 Q =
 (cond (iLt (D.i x44) (D.i x43))
 ((0 ≤ (D.i x44) ∧ (D.i x44) < (D.len x42)) ∧ (True ∧ ((0 ≤ (D.i (D.fld (D.el x42 (D.i x44)) 0)) ∧ (D.i (D.fld (D.el x42 (D.i x44)) 0)) < (D.len x1)) ∧ (L57_14 n m0 m1 x1 (D.int (IntKind.wrap .i64 ((D.i x10) + (IntKind.wrap .i64 ((D.i (D.fld (D.el x42 (D.i x44)) 1)) * (D.i (D.el x1 (D.i (D.fld (D.el x42 (D.i x44)) 0))))))))) x35 x36 x37 x42 x43 (D.int (IntKind.wrap .i64 ((D.i x44) + (1 : Int)))) xo2 xo9 Q))))
 (cond (iLt (D.i (D.fld xo9 1)) (D.i x10))
 (Q [(D.int (0 : Int)), (D.bool false)])
 (L57_10 n  m0 x1 x35 x36 (D.int (IntKind.wrap .i64 ((D.i x37) + (1 : Int)))) xo2 Q))) := by kernel_rfl
theorem L57_23_eq (n m0 : Nat) (x1 : D) (x13 : D) (x67 : D) (x68 : D) (x69 : D) (Q : List D → Prop) : L57_23 n (m0 + 1) x1 x13 x67 x68 x69 Q =
 (cond (iLt (D.i x69) (D.i x68))
 ((0 ≤ (D.i x69) ∧ (D.i x69) < (D.len x67)) ∧ (True ∧ ((0 ≤ (D.i (D.fld (D.el x67 (D.i x69)) 0)) ∧ (D.i (D.fld (D.el x67 (D.i x69)) 0)) < (D.len x1)) ∧ (L57_23 n  m0 x1 (D.int (IntKind.wrap .i64 ((D.i x13) + (IntKind.wrap .i64 ((D.i (D.fld (D.el x67 (D.i x69)) 1)) * (D.i (D.el x1 (D.i (D.fld (D.el x67 (D.i x69)) 0))))))))) x67 x68 (D.int (IntKind.wrap .i64 ((D.i x69) + (1 : Int)))) Q))))
 (Q [x13, (D.bool true)])) := by kernel_rfl
theorem E57 (n : Nat) (d0 d1 : D) (Q : List D → Prop) : wpF Try.prog A (n + 1) 57 [d0, d1] Q =
 (cond (!(iEq (D.len d1) (D.i (D.fld d0 0))))
 (Q [(D.int (0 : Int)), (D.bool false)])
 (L57_4 n  n d1 d1 (D.int (D.len d1)) (D.int (0 : Int)) d0 Q)) := by kernel_rfl
attribute [irreducible] L57_4 L57_10 L57_14 L57_23

/- timebound/timeboundlaw34.CertificateSound -/
def L11_9 (n m0 : Nat) (x5 : D) (xo4 : D) (xo6 : D) (xo34 : D) (Q : List D → Prop) : Prop :=
  loopK (wpC Try.prog A (hnd Try.prog A n) 11 n (cA (cA (cB (cB (cB (cB (cB (cB (cB (bodyOf Try.f11))))))))))) (nmK (A.loop 11 9)) m0 { sl := [(4, .ptr 4 [] 82), (5, .imm 22 x5), (6, .ptr 6 [] 78), (7, .val 34 [] 22)], ob := [(4, some ⟨true, 82, .imm, xo4⟩), (6, some ⟨true, 78, .imm, xo6⟩), (34, some ⟨false, 22, (.slc .imm none), xo34⟩)] } (kBlock 0 (kEnd Try.prog Try.f11 (A.sig 11) Q))
def L11_13 (n m0 m1 : Nat) (x5 : D) (x10 : D) (xo4 : D) (xo6 : D) (xo34 : D) (Q : List D → Prop) : Prop :=
  loopK (wpC Try.prog A (hnd Try.prog A n) 11 n (cA (cA (cA (cB (cB (cA (cA (cA (cB (cB (cB (cB (cB (cB (cB (bodyOf Try.f11))))))))))))))))) (nmK (A.loop 11 13)) m1 { sl := [(4, .ptr 4 [] 82), (5, .imm 22 x5), (6, .ptr 6 [] 78), (7, .val 34 [] 22), (10, .imm 3 x10)], ob := [(4, some ⟨true, 82, .imm, xo4⟩), (6, some ⟨true, 78, .imm, xo6⟩), (34, some ⟨false, 22, (.slc .imm none), xo34⟩)] } (kBlock 2 (kSeq (wpC Try.prog A (hnd Try.prog A n) 11 n (cB (cB (cB (cA (cA (cA (cB (cB (cB (cB (cB (cB (cB (bodyOf Try.f11))))))))))))))) (kBlock 1 (kLoop (nmK (A.loop 11 9)) (fun g => loopK (wpC Try.prog A (hnd Try.prog A n) 11 n (cA (cA (cB (cB (cB (cB (cB (cB (cB (bodyOf Try.f11))))))))))) (nmK (A.loop 11 9)) m0 g (kBlock 0 (kEnd Try.prog Try.f11 (A.sig 11) Q))) (kBlock 0 (kEnd Try.prog Try.f11 (A.sig 11) Q))))))
theorem L11_9_eq (n m0 : Nat) (x5 : D) (xo4 : D) (xo6 : D) (xo34 : D) (Q : List D → Prop) : L11_9 n (m0 + 1) x5 xo4 xo6 xo34 Q =
 (wpF Try.prog A n 57 [xo4, xo34] fun r8 =>
 (cond (D.b (rs r8 1))
 (cond (iLt (D.i (D.fld xo6 1)) (D.i (rs r8 0)))
 (Q [(D.bool false)])
 (L11_13 n m0 n x5 (D.int (IntKind.wrap .i64 ((D.i (D.fld xo4 0)) - (1 : Int)))) xo4 xo6 xo34 Q))
 (L11_13 n m0 n x5 (D.int (IntKind.wrap .i64 ((D.i (D.fld xo4 0)) - (1 : Int)))) xo4 xo6 xo34 Q))) := by kernel_rfl
theorem L11_13_eq (n m0 m1 : Nat) (x5 : D) (x10 : D) (xo4 : D) (xo6 : D) (xo34 : D) (Q : List D → Prop) : L11_13 n m0 (m1 + 1) x5 x10 xo4 xo6 xo34 Q =
 (cond (iLe (0 : Int) (D.i x10))
 ((0 ≤ (D.i x10) ∧ (D.i x10) < (D.len xo34)) ∧ ((0 ≤ (D.i x10) ∧ (D.i x10) < (D.len x5)) ∧ (cond (iLe (D.i (D.el x5 (D.i x10))) (D.i (List.getD (D.xs xo34) (Int.toNat (D.i x10)) D.und)))
 ((0 ≤ (D.i x10) ∧ (D.i x10) < (D.len xo34)) ∧ (True ∧ (L11_13 n m0 m1 x5 (D.int (IntKind.wrap .i64 ((D.i x10) - (1 : Int)))) xo4 xo6 (D.slc (List.set (D.xs xo34) (Int.toNat (D.i x10)) (D.int (0 : Int)))) Q)))
 (cond (iLt (D.i x10) (0 : Int))
 (wpF Try.prog A n 47 [] fun r9 =>
 (Q [(rs r9 0)]))
 ((0 ≤ (D.i x10) ∧ (D.i x10) < (D.len xo34)) ∧ ((0 ≤ (D.i x10) ∧ (D.i x10) < (D.len xo34)) ∧ (True ∧ (L11_9 n  m0 x5 xo4 xo6 (D.slc (List.set (D.xs xo34) (Int.toNat (D.i x10)) (D.int (IntKind.wrap .i64 ((D.i (List.getD (D.xs xo34) (Int.toNat (D.i x10)) D.und)) + (1 : Int)))))) Q))))))))
 (cond (iLt (D.i x10) (0 : Int))
 (wpF Try.prog A n 47 [] fun r10 =>
 (Q [(rs r10 0)]))
 ((0 ≤ (D.i x10) ∧ (D.i x10) < (D.len xo34)) ∧ ((0 ≤ (D.i x10) ∧ (D.i x10) < (D.len xo34)) ∧ (True ∧ (L11_9 n  m0 x5 xo4 xo6 (D.slc (List.set (D.xs xo34) (Int.toNat (D.i x10)) (D.int (IntKind.wrap .i64 ((D.i (List.getD (D.xs xo34) (Int.toNat (D.i x10)) D.und)) + (1 : Int)))))) Q)))))) := by kernel_rfl
theorem E11 (n : Nat) (d0 : D) (Q : List D → Prop) : wpF Try.prog A (n + 1) 11 [d0] Q =
 (wpF Try.prog A n 15 [d0] fun r1 =>
 (wpF Try.prog A n 48 [(rs r1 0)] fun r2 =>
 (True ∧ (wpF Try.prog A n 49 [(rs r2 2), (rs r2 0), (D.int (3 : Int))] fun r3 =>
 (True ∧ (wpF Try.prog A n 18 [(rs r3 1), (D.int (2 : Int))] fun r4 =>
 (cond (iEq (D.i (rs r4 0)) (0 : Int))
 (wpF Try.prog A n 50 [(rs r4 1), (rs r3 0)] fun r5 =>
 (True ∧ (wpF Try.prog A n 53 [(rs r2 0), (rs r5 0)] fun r6 =>
 (cond (!(iEq (D.i (rs r6 0)) (0 : Int)))
 (wpF Try.prog A n 47 [] fun r7 =>
 (Q [(rs r7 0)]))
 ((0 ≤ (D.i (D.fld (rs r2 0) 0)) ∧ (D.i (D.fld (rs r2 0) 0)) ≤ (D.i (D.fld (rs r2 0) 0)) ∧ room (D.i (D.fld (rs r2 0) 0)) 8) ∧ (L11_9 n  n (rs r2 1) (rs r2 0) (rs r5 0) (D.slc (List.replicate (Int.toNat (D.i (D.fld (rs r2 0) 0))) (D.int (0 : Int)))) Q))))))
 (wpF Try.prog A n 53 [(rs r2 0), (rs r3 0)] fun r11 =>
 (cond (!(iEq (D.i (rs r11 0)) (0 : Int)))
 (wpF Try.prog A n 47 [] fun r12 =>
 (Q [(rs r12 0)]))
 ((0 ≤ (D.i (D.fld (rs r2 0) 0)) ∧ (D.i (D.fld (rs r2 0) 0)) ≤ (D.i (D.fld (rs r2 0) 0)) ∧ room (D.i (D.fld (rs r2 0) 0)) 8) ∧ (L11_9 n  n (rs r2 1) (rs r2 0) (rs r3 0) (D.slc (List.replicate (Int.toNat (D.i (D.fld (rs r2 0) 0))) (D.int (0 : Int)))) Q))))))))))) := by kernel_rfl
attribute [irreducible] L11_9 L11_13

/- timebound/timeboundlaw34.CertificateWeaker -/
theorem E12 (n : Nat) (d0 : D) (Q : List D → Prop) : wpF Try.prog A (n + 1) 12 [d0] Q =
 (wpF Try.prog A n 15 [d0] fun r1 =>
 (wpF Try.prog A n 48 [(rs r1 0)] fun r2 =>
 (True ∧ (wpF Try.prog A n 58 [(rs r2 0)] fun r3 =>
 (True ∧ (wpF Try.prog A n 59 [(rs r2 0), (D.slc ([] : List D)), (rs r3 0)] fun r4 =>
 (True ∧ (True ∧ (wpF Try.prog A n 18 [(rs r2 2), (D.int (9 : Int))] fun r5 =>
 (True ∧ (True ∧ (room ((List.length (D.xs (D.fld (rs r2 0) 1)) : Nat) : Int) 32 ∧ (wpF Try.prog A n 60 [(rs r5 1), (D.fld (rs r2 0) 0)] fun r6 =>
 (wpF Try.prog A n 18 [(rs r6 1), (D.int (30 : Int))] fun r7 =>
 (room (((List.length (D.xs (D.fld (rs r2 0) 1)) : Nat) : Int) + ((List.length [(D.agg [(rs r6 0), (rs r7 0)])] : Nat) : Int)) 32 ∧ (True ∧ (True ∧ (True ∧ (cond (D.b (rs r4 1))
 (wpF Try.prog A n 53 [(rs r2 0), (D.agg [(D.slc [(rs r3 0)]), (rs r4 0)])] fun r8 =>
 (cond (iEq (D.i (rs r8 0)) (0 : Int))
 (wpF Try.prog A n 53 [(rs r2 0), (D.agg [(D.slc [(rs r3 0)]), (D.int (IntKind.wrap .i64 ((D.i (rs r4 0)) + (D.i (rs r5 0)))))])] fun r9 =>
 (cond (iEq (D.i (rs r9 0)) (0 : Int))
 (wpF Try.prog A n 53 [(D.agg [(D.fld (rs r2 0) 0), (D.slc ((D.xs (D.fld (rs r2 0) 1)) ++ [(D.agg [(rs r6 0), (rs r7 0)])])), (D.fld (rs r2 0) 2), (D.fld (rs r2 0) 3)]), (D.agg [(D.slc [(rs r3 0)]), (rs r4 0)])] fun r10 =>
 (cond (iEq (D.i (rs r10 0)) (0 : Int))
 (wpF Try.prog A n 53 [(rs r2 0), (D.agg [(D.slc [(rs r3 0)]), (D.int (IntKind.wrap .i64 ((D.i (rs r4 0)) - (1 : Int))))])] fun r11 =>
 (cond (iEq (D.i (rs r11 0)) (37 : Int))
 (wpF Try.prog A n 47 [] fun r12 =>
 (Q [(rs r12 0)]))
 (Q [(D.bool false)])))
 (Q [(D.bool false)])))
 (Q [(D.bool false)])))
 (Q [(D.bool false)])))
 (Q [(D.bool false)])))))))))))))))))))) := by kernel_rfl

/- timebound/certificate.form -/
theorem E104 (n : Nat) (d0 d1 d2 : D) (Q : List D → Prop) : wpF Try.prog A (n + 1) 104 [d0, d1, d2] Q =
 (wpF Try.prog A n 125 [d1, (D.fld d0 0), (D.int (1048576 : Int))] fun r1 =>
 (cond (D.b (rs r1 0))
 (cond (iLe (-1048576 : Int) (D.i d2))
 (Q [(D.bool (iLt (D.i d2) (1048576 : Int)))])
 (Q [(D.bool false)]))
 (Q [(D.bool false)]))) := by kernel_rfl

/- slices.Clone[[]timebound/api.Term,timebound/api.Term] -/
theorem E105 (n : Nat) (d0 : D) (Q : List D → Prop) : wpF Try.prog A (n + 1) 105 [d0] Q =
 (∀ b1 : Bool, (b1 = true → (D.len d0) = 0) → (cond b1
 (Q [(D.slc ([] : List D))])
 (room (((List.length ([] : List D) : Nat) : Int) + ((List.length (D.xs d0) : Nat) : Int)) 16 ∧ (Q [(D.slc (([] : List D) ++ (D.xs d0)))])))) := by kernel_rfl

/- timebound/certificate.shifted -/
def L106_3 (n m0 : Nat) (x2 : D) (x11 : D) (x12 : D) (x13 : D) (xo3 : D) (xo7 : D) (Q : List D → Prop) : Prop :=
  loopK (wpC Try.prog A (hnd Try.prog A n) 106 n (cA (cA (cB (cA (cB (cB (bodyOf Try.f106)))))))) (nmK (A.loop 106 3)) m0 { sl := [(2, .imm 3 x2), (3, .ptr 3 [] 82), (7, .val 7 [] 76), (11, .imm 76 x11), (12, .imm 3 x12), (13, .imm 3 x13)], ob := [(3, some ⟨true, 82, .imm, xo3⟩), (7, some ⟨false, 76, (.slc .imm none), xo7⟩)] } (kBlock 0 (kSeq (wpC Try.prog A (hnd Try.prog A n) 106 n (cB (cB (cB (bodyOf Try.f106))))) (kEnd Try.prog Try.f106 (A.sig 106) Q)))
def L106_8 (n m0 m1 : Nat) (x2 : D) (x11 : D) (x12 : D) (x13 : D) (x29 : D) (x30 : D) (xo3 : D) (xo7 : D) (xo9 : D) (Q : List D → Prop) : Prop :=
  loopK (wpC Try.prog A (hnd Try.prog A n) 106 n (cA (cA (cB (cA (cB (cA (cB (cB (cA (cA (cB (cB (cA (cA (cB (cA (cB (cB (bodyOf Try.f106)))))))))))))))))))) (nmK (A.loop 106 8)) m1 { sl := [(2, .imm 3 x2), (3, .ptr 3 [] 82), (7, .val 7 [] 76), (9, .ptr 9 [] 94), (11, .imm 76 x11), (12, .imm 3 x12), (13, .imm 3 x13), (29, .imm 3 x29), (30, .imm 3 x30)], ob := [(3, some ⟨true, 82, .imm, xo3⟩), (7, some ⟨false, 76, (.slc .imm none), xo7⟩), (9, some ⟨true, 94, (.agg [(2, (.slc .imm none)), (4, (.slc .imm none))]), xo9⟩)] } (kBlock 2 (kSeq (wpC Try.prog A (hnd Try.prog A n) 106 n (cB (cB (cB (cA (cA (cB (cB (cA (cA (cB (cA (cB (cB (bodyOf Try.f106))))))))))))))) (kBlock 1 (kSeq (wpC Try.prog A (hnd Try.prog A n) 106 n (cB (cB (cB (cA (cA (cB (cA (cB (cB (bodyOf Try.f106))))))))))) (kLoop (nmK (A.loop 106 3)) (fun g => loopK (wpC Try.prog A (hnd Try.prog A n) 106 n (cA (cA (cB (cA (cB (cB (bodyOf Try.f106)))))))) (nmK (A.loop 106 3)) m0 g (kBlock 0 (kSeq (wpC Try.prog A (hnd Try.prog A n) 106 n (cB (cB (cB (bodyOf Try.f106))))) (kEnd Try.prog Try.f106 (A.sig 106) Q)))) (kBlock 0 (kSeq (wpC Try.prog A (hnd Try.prog A n) 106 n (cB (cB (cB (bodyOf Try.f106))))) (kEnd Try.prog Try.f106 (A.sig 106) Q))))))))
theorem L106_3_eq (n m0 : Nat) (x2 : D) (x11 : D) (x12 : D) (x13 : D) (xo3 : D) (xo7 : D) (Q : List D → Prop) : L106_3 n (m0 + 1) x2 x11 x12 x13 xo3 xo7 Q =
 (cond (iLt (D.i x13) (D.i x12))
 ((0 ≤ (D.i x13) ∧ (D.i x13) < (D.len x11)) ∧ (True ∧ (wpF Try.prog A n 105 [(D.fld (D.el x11 (D.i x13)) 2)] fun r1 =>
 (wpF Try.prog A n 105 [(D.fld (D.el x11 (D.i x13)) 4)] fun r2 =>
 (True ∧ (True ∧ (wpF Try.prog A n 100 [(D.agg [(D.fld (D.el x11 (D.i x13)) 0), (D.fld (D.el x11 (D.i x13)) 1), (rs r1 0), (D.fld (D.el x11 (D.i x13)) 3), (rs r2 0), (D.fld (D.el x11 (D.i x13)) 5)])] fun r3 =>
 (cond (D.b (rs r3 0))
 (L106_8 n m0 n x2 x11 x12 x13 (D.int (D.len (rs r2 0))) (D.int (0 : Int)) xo3 xo7 (D.agg [(D.fld (D.el x11 (D.i x13)) 0), (D.fld (D.el x11 (D.i x13)) 1), (rs r1 0), (D.fld (D.el x11 (D.i x13)) 3), (rs r2 0), (D.fld (D.el x11 (D.i x13)) 5)]) Q)
 (True ∧ (True ∧ (room (((List.length (D.xs xo7) : Nat) : Int) + ((List.length [(D.agg [(D.int (IntKind.wrap .i64 ((D.i (D.fld (D.el x11 (D.i x13)) 0)) + (D.i x2)))), (D.int (IntKind.wrap .i64 ((D.i (D.fld (D.el x11 (D.i x13)) 1)) + (D.i x2)))), (rs r1 0), (D.fld (D.el x11 (D.i x13)) 3), (rs r2 0), (D.fld (D.el x11 (D.i x13)) 5)])] : Nat) : Int)) 80 ∧ (L106_3 n  m0 x2 x11 x12 (D.int (IntKind.wrap .i64 ((D.i x13) + (1 : Int)))) xo3 (D.slc ((D.xs xo7) ++ [(D.agg [(D.int (IntKind.wrap .i64 ((D.i (D.fld (D.el x11 (D.i x13)) 0)) + (D.i x2)))), (D.int (IntKind.wrap .i64 ((D.i (D.fld (D.el x11 (D.i x13)) 1)) + (D.i x2)))), (rs r1 0), (D.fld (D.el x11 (D.i x13)) 3), (rs r2 0), (D.fld (D.el x11 (D.i x13)) 5)])])) Q))))))))))))
 (Q [xo7])) := by kernel_rfl
theorem L106_8_eq (n m0 m1 : Nat) (x2 : D) (x11 : D) (x12 : D) (x13 : D) (x29 : D) (x30 : D) (xo3 : D) (xo7 : D) (xo9 : D) (Q : List D → Prop) : L106_8 n m0 (m1 + 1) x2 x11 x12 x13 x29 x30 xo3 xo7 xo9 Q =
 (cond (iLt (D.i x30) (D.i x29))
 ((0 ≤ (D.i x30) ∧ (D.i x30) < (D.len (D.fld xo9 4))) ∧ (cond (iLe (D.len (D.fld xo3 1)) (D.i (D.fld (List.getD (D.xs (D.fld xo9 4)) (Int.toNat (D.i x30)) D.und) 0)))
 ((0 ≤ (D.i x30) ∧ (D.i x30) < (D.len (D.fld xo9 4))) ∧ ((0 ≤ (D.i x30) ∧ (D.i x30) < (D.len (D.fld xo9 4))) ∧ (True ∧ (L106_8 n m0 m1 x2 x11 x12 x13 x29 (D.int (IntKind.wrap .i64 ((D.i x30) + (1 : Int)))) xo3 xo7 (D.agg [(D.fld xo9 0), (D.fld xo9 1), (D.fld xo9 2), (D.fld xo9 3), (D.slc (List.set (D.xs (D.fld xo9 4)) (Int.toNat (D.i x30)) (D.agg [(D.int (IntKind.wrap .i64 ((D.i (D.fld (List.getD (D.xs (D.fld xo9 4)) (Int.toNat (D.i x30)) D.und) 0)) + (1 : Int)))), (D.fld (List.getD (D.xs (D.fld xo9 4)) (Int.toNat (D.i x30)) D.und) 1)]))), (D.fld xo9 5)]) Q))))
 (L106_8 n m0 m1 x2 x11 x12 x13 x29 (D.int (IntKind.wrap .i64 ((D.i x30) + (1 : Int)))) xo3 xo7 xo9 Q)))
 (room (((List.length (D.xs xo7) : Nat) : Int) + ((List.length [xo9] : Nat) : Int)) 80 ∧ (L106_3 n  m0 x2 x11 x12 (D.int (IntKind.wrap .i64 ((D.i x13) + (1 : Int)))) xo3 (D.slc ((D.xs xo7) ++ [xo9])) Q))) := by kernel_rfl
theorem E106 (n : Nat) (d0 d1 d2 : D) (Q : List D → Prop) : wpF Try.prog A (n + 1) 106 [d0, d1, d2] Q =
 (L106_3 n  n d2 d1 (D.int (D.len d1)) (D.int (0 : Int)) d0 (D.slc ([] : List D)) Q) := by kernel_rfl
attribute [irreducible] L106_3 L106_8

/- timebound/certificate.Join -/
theorem E61 (n : Nat) (d0 d1 d2 d3 d4 : D) (Q : List D → Prop) : wpF Try.prog A (n + 1) 61 [d0, d1, d2, d3, d4] Q =
 (wpF Try.prog A n 92 [d0] fun r1 =>
 (cond (!(D.b (rs r1 0)))
 (True ∧ (Q [(D.agg [(D.slc ([] : List D)), (D.int (0 : Int))]), (D.int (33 : Int))]))
 (wpF Try.prog A n 104 [d0, d1, d2] fun r2 =>
 (cond (!(D.b (rs r2 0)))
 (True ∧ (Q [(D.agg [(D.slc ([] : List D)), (D.int (0 : Int))]), (D.int (10 : Int))]))
 (wpF Try.prog A n 51 [d0, d3] fun r3 =>
 (cond (!(D.b (rs r3 0)))
 (True ∧ (Q [(D.agg [(D.slc ([] : List D)), (D.int (0 : Int))]), (D.int (10 : Int))]))
 (wpF Try.prog A n 51 [d0, d4] fun r4 =>
 (cond (!(D.b (rs r4 0)))
 (True ∧ (Q [(D.agg [(D.slc ([] : List D)), (D.int (0 : Int))]), (D.int (10 : Int))]))
 (cond (iLt (1000 : Int) (IntKind.wrap .i64 ((IntKind.wrap .i64 ((1 : Int) + (D.len (D.fld d3 0)))) + (D.len (D.fld d4 0)))))
 (True ∧ (Q [(D.agg [(D.slc ([] : List D)), (D.int (0 : Int))]), (D.int (4 : Int))]))
 (wpF Try.prog A n 105 [d1] fun r5 =>
 (True ∧ (wpF Try.prog A n 106 [d0, (D.fld d3 0), (D.int (1 : Int))] fun r6 =>
 (room (((List.length [(D.agg [(D.int (1 : Int)), (D.int (IntKind.wrap .i64 ((1 : Int) + (D.len (D.fld d3 0))))), (rs r5 0), d2, (D.slc ([] : List D)), (D.int (0 : Int))])] : Nat) : Int) + ((List.length (D.xs (rs r6 0)) : Nat) : Int)) 80 ∧ (True ∧ (wpF Try.prog A n 106 [d0, (D.fld d4 0), (D.int (IntKind.wrap .i64 ((1 : Int) + (D.len (D.fld d3 0)))))] fun r7 =>
 (room (((List.length ([(D.agg [(D.int (1 : Int)), (D.int (IntKind.wrap .i64 ((1 : Int) + (D.len (D.fld d3 0))))), (rs r5 0), d2, (D.slc ([] : List D)), (D.int (0 : Int))])] ++ (D.xs (rs r6 0))) : Nat) : Int) + ((List.length (D.xs (rs r7 0)) : Nat) : Int)) 80 ∧ (True ∧ (True ∧ (Q [(D.agg [(D.slc (([(D.agg [(D.int (1 : Int)), (D.int (IntKind.wrap .i64 ((1 : Int) + (D.len (D.fld d3 0))))), (rs r5 0), d2, (D.slc ([] : List D)), (D.int (0 : Int))])] ++ (D.xs (rs r6 0))) ++ (D.xs (rs r7 0)))), (D.int (minmax true (D.i (D.fld d3 1)) (D.i (D.fld d4 1))))]), (D.int (0 : Int))]))))))))))))))))))) := by kernel_rfl

/- timebound/timeboundref34.same -/
def L108_4 (n m0 : Nat) (x0 : D) (x1 : D) (x12 : D) (x13 : D) (Q : List D → Prop) : Prop :=
  loopK (wpC Try.prog A (hnd Try.prog A n) 108 n (cA (cA (cB (cA (cB (cB (bodyOf Try.f108)))))))) (nmK (A.loop 108 4)) m0 { sl := [(0, .imm 80 x0), (1, .imm 80 x1), (12, .imm 3 x12), (13, .imm 3 x13)], ob := [] } (kBlock 0 (kSeq (wpC Try.prog A (hnd Try.prog A n) 108 n (cB (cB (cB (bodyOf Try.f108))))) (kEnd Try.prog Try.f108 (A.sig 108) Q)))
theorem L108_4_eq (n m0 : Nat) (x0 : D) (x1 : D) (x12 : D) (x13 : D) (Q : List D → Prop) : L108_4 n (m0 + 1) x0 x1 x12 x13 Q =
 (cond (iLt (D.i x13) (D.i x12))
 ((0 ≤ (D.i x13) ∧ (D.i x13) < (D.len x0)) ∧ ((0 ≤ (D.i x13) ∧ (D.i x13) < (D.len x1)) ∧ (cond (!(D.same 8 (D.el x0 (D.i x13)) (D.el x1 (D.i x13))))
 (Q [(D.bool false)])
 (L108_4 n  m0 x0 x1 x12 (D.int (IntKind.wrap .i64 ((D.i x13) + (1 : Int)))) Q))))
 (Q [(D.bool true)])) := by kernel_rfl
theorem E108 (n : Nat) (d0 d1 : D) (Q : List D → Prop) : wpF Try.prog A (n + 1) 108 [d0, d1] Q =
 (cond (!(iEq (D.len d0) (D.len d1)))
 (Q [(D.bool false)])
 (L108_4 n  n d0 d1 (D.int (D.len d0)) (D.int (0 : Int)) Q)) := by kernel_rfl
attribute [irreducible] L108_4

/- timebound/timeboundref34.Same -/
def L63_4 (n m0 : Nat) (x23 : D) (x24 : D) (x25 : D) (xo3 : D) (Q : List D → Prop) : Prop :=
  loopK (wpC Try.prog A (hnd Try.prog A n) 63 n (cA (cA (cB (cA (cB (cB (bodyOf Try.f63)))))))) (nmK (A.loop 63 4)) m0 { sl := [(3, .ptr 3 [] 78), (23, .imm 76 x23), (24, .imm 3 x24), (25, .imm 3 x25)], ob := [(3, some ⟨true, 78, .imm, xo3⟩)] } (kBlock 0 (kSeq (wpC Try.prog A (hnd Try.prog A n) 63 n (cB (cB (cB (bodyOf Try.f63))))) (kEnd Try.prog Try.f63 (A.sig 63) Q)))
theorem L63_4_eq (n m0 : Nat) (x23 : D) (x24 : D) (x25 : D) (xo3 : D) (Q : List D → Prop) : L63_4 n (m0 + 1) x23 x24 x25 xo3 Q =
 (cond (iLt (D.i x25) (D.i x24))
 ((0 ≤ (D.i x25) ∧ (D.i x25) < (D.len x23)) ∧ (True ∧ ((0 ≤ (D.i x25) ∧ (D.i x25) < (D.len (D.fld xo3 0))) ∧ (True ∧ (cond (!(iEq (D.i (D.fld (D.el x23 (D.i x25)) 0)) (D.i (D.fld (D.el (D.fld xo3 0) (D.i x25)) 0))))
 (Q [(D.bool false)])
 (cond (!(iEq (D.i (D.fld (D.el x23 (D.i x25)) 1)) (D.i (D.fld (D.el (D.fld xo3 0) (D.i x25)) 1))))
 (Q [(D.bool false)])
 (cond (!(iEq (D.i (D.fld (D.el x23 (D.i x25)) 3)) (D.i (D.fld (D.el (D.fld xo3 0) (D.i x25)) 3))))
 (Q [(D.bool false)])
 (cond (!(iEq (D.i (D.fld (D.el x23 (D.i x25)) 5)) (D.i (D.fld (D.el (D.fld xo3 0) (D.i x25)) 5))))
 (Q [(D.bool false)])
 (wpF Try.prog A n 108 [(D.fld (D.el x23 (D.i x25)) 2), (D.fld (D.el (D.fld xo3 0) (D.i x25)) 2)] fun r1 =>
 (cond (!(D.b (rs r1 0)))
 (Q [(D.bool false)])
 (wpF Try.prog A n 108 [(D.fld (D.el x23 (D.i x25)) 4), (D.fld (D.el (D.fld xo3 0) (D.i x25)) 4)] fun r2 =>
 (cond (!(D.b (rs r2 0)))
 (Q [(D.bool false)])
 (L63_4 n  m0 x23 x24 (D.int (IntKind.wrap .i64 ((D.i x25) + (1 : Int)))) xo3 Q)))))))))))))
 (Q [(D.bool true)])) := by kernel_rfl
theorem E63 (n : Nat) (d0 d1 : D) (Q : List D → Prop) : wpF Try.prog A (n + 1) 63 [d0, d1] Q =
 (cond (!(iEq (D.i (D.fld d0 1)) (D.i (D.fld d1 1))))
 (Q [(D.bool false)])
 (cond (!(iEq (D.len (D.fld d0 0)) (D.len (D.fld d1 0))))
 (Q [(D.bool false)])
 (L63_4 n  n (D.fld d0 0) (D.int (D.len (D.fld d0 0))) (D.int (0 : Int)) d1 Q))) := by kernel_rfl
attribute [irreducible] L63_4

/- timebound/timeboundlaw34.CertificateJoins -/
def L13_10 (n m0 : Nat) (x2 : D) (x63 : D) (x64 : D) (xo8 : D) (xo27 : D) (xo52 : D) (xo62 : D) (Q : List D → Prop) : Prop :=
  loopK (wpC Try.prog A (hnd Try.prog A n) 13 n (cA (cA (cB (cA (cB (cB (cB (cB (cB (cB (cB (bodyOf Try.f13))))))))))))) (nmK (A.loop 13 10)) m0 { sl := [(2, .imm 3 x2), (7, .ptr 27 [] 110), (8, .ptr 8 [] 82), (12, .val 52 [] 80), (62, .val 62 [] 102), (63, .imm 3 x63), (64, .imm 3 x64)], ob := [(8, some ⟨true, 82, .imm, xo8⟩), (27, some ⟨true, 110, .imm, xo27⟩), (52, some ⟨false, 80, .imm, xo52⟩), (62, some ⟨false, 102, (.slc .imm none), xo62⟩)] } (kBlock 0 (kSeq (wpC Try.prog A (hnd Try.prog A n) 13 n (cB (cB (cB (cB (cB (cB (cB (cB (bodyOf Try.f13)))))))))) (kEnd Try.prog Try.f13 (A.sig 13) Q)))
def L13_13 (n m0 m1 : Nat) (x2 : D) (x63 : D) (x64 : D) (x73 : D) (x74 : D) (xo8 : D) (xo14 : D) (xo27 : D) (xo52 : D) (xo62 : D) (xo72 : D) (Q : List D → Prop) : Prop :=
  loopK (wpC Try.prog A (hnd Try.prog A n) 13 n (cA (cA (cB (cB (cA (cA (cB (cB (cA (cA (cB (cA (cB (cB (cB (cB (cB (cB (cB (bodyOf Try.f13))))))))))))))))))))) (nmK (A.loop 13 13)) m1 { sl := [(2, .imm 3 x2), (7, .ptr 27 [] 110), (8, .ptr 8 [] 82), (12, .val 52 [] 80), (14, .ptr 14 [] 101), (62, .val 62 [] 102), (63, .imm 3 x63), (64, .imm 3 x64), (72, .val 72 [] 22), (73, .imm 3 x73), (74, .imm 3 x74)], ob := [(8, some ⟨true, 82, .imm, xo8⟩), (14, some ⟨true, 101, .imm, xo14⟩), (27, some ⟨true, 110, .imm, xo27⟩), (52, some ⟨false, 80, .imm, xo52⟩), (62, some ⟨false, 102, (.slc .imm none), xo62⟩), (72, some ⟨false, 22, (.slc .imm none), xo72⟩)] } (kBlock 2 (kBlock 1 (kSeq (wpC Try.prog A (hnd Try.prog A n) 13 n (cB (cB (cB (cA (cA (cB (cA (cB (cB (cB (cB (cB (cB (cB (bodyOf Try.f13)))))))))))))))) (kLoop (nmK (A.loop 13 10)) (fun g => loopK (wpC Try.prog A (hnd Try.prog A n) 13 n (cA (cA (cB (cA (cB (cB (cB (cB (cB (cB (cB (bodyOf Try.f13))))))))))))) (nmK (A.loop 13 10)) m0 g (kBlock 0 (kSeq (wpC Try.prog A (hnd Try.prog A n) 13 n (cB (cB (cB (cB (cB (cB (cB (cB (bodyOf Try.f13)))))))))) (kEnd Try.prog Try.f13 (A.sig 13) Q)))) (kBlock 0 (kSeq (wpC Try.prog A (hnd Try.prog A n) 13 n (cB (cB (cB (cB (cB (cB (cB (cB (bodyOf Try.f13)))))))))) (kEnd Try.prog Try.f13 (A.sig 13) Q)))))))
theorem L13_10_eq (n m0 : Nat) (x2 : D) (x63 : D) (x64 : D) (xo8 : D) (xo27 : D) (xo52 : D) (xo62 : D) (Q : List D → Prop) : L13_10 n (m0 + 1) x2 x63 x64 xo8 xo27 xo52 xo62 Q =
 (cond (iLt (D.i x64) (D.i x63))
 ((0 ≤ (D.i x64) ∧ (D.i x64) < (D.len xo62)) ∧ (True ∧ (wpF Try.prog A n 18 [xo27, (D.int (9 : Int))] fun r10 =>
 (L13_13 n m0 n x2 x63 x64 (D.int (D.len (D.slc [x2, (D.int (IntKind.wrap .i64 ((D.i (rs r10 0)) - (4 : Int))))]))) (D.int (0 : Int)) xo8 (List.getD (D.xs xo62) (Int.toNat (D.i x64)) D.und) (rs r10 1) xo52 xo62 (D.slc [x2, (D.int (IntKind.wrap .i64 ((D.i (rs r10 0)) - (4 : Int))))]) Q))))
 (wpF Try.prog A n 47 [] fun r14 =>
 (Q [(rs r14 0)]))) := by kernel_rfl
theorem L13_13_eq (n m0 m1 : Nat) (x2 : D) (x63 : D) (x64 : D) (x73 : D) (x74 : D) (xo8 : D) (xo14 : D) (xo27 : D) (xo52 : D) (xo62 : D) (xo72 : D) (Q : List D → Prop) : L13_13 n m0 (m1 + 1) x2 x63 x64 x73 x74 xo8 xo14 xo27 xo52 xo62 xo72 Q =
 (cond (iLt (D.i x74) (D.i x73))
 ((0 ≤ (D.i x74) ∧ (D.i x74) < (D.len xo72)) ∧ ((0 ≤ (0 : Int) ∧ (0 : Int) < (2 : Int)) ∧ ((0 ≤ (1 : Int) ∧ (1 : Int) < (2 : Int)) ∧ (wpF Try.prog A n 61 [xo8, xo52, (List.getD (D.xs xo72) (Int.toNat (D.i x74)) D.und), (List.getD (D.fs xo14) (Int.toNat (0 : Int)) D.und), (List.getD (D.fs xo14) (Int.toNat (1 : Int)) D.und)] fun r11 =>
 (True ∧ ((0 ≤ (0 : Int) ∧ (0 : Int) < (2 : Int)) ∧ ((0 ≤ (1 : Int) ∧ (1 : Int) < (2 : Int)) ∧ (wpF Try.prog A n 62 [xo8, xo52, (List.getD (D.xs xo72) (Int.toNat (D.i x74)) D.und), (List.getD (D.fs xo14) (Int.toNat (0 : Int)) D.und), (List.getD (D.fs xo14) (Int.toNat (1 : Int)) D.und)] fun r12 =>
 (True ∧ (cond (!(iEq (D.i (rs r11 1)) (D.i (rs r12 1))))
 (Q [(D.bool false)])
 (wpF Try.prog A n 63 [(rs r11 0), (rs r12 0)] fun r13 =>
 (cond (!(D.b (rs r13 0)))
 (Q [(D.bool false)])
 (L13_13 n m0 m1 x2 x63 x64 x73 (D.int (IntKind.wrap .i64 ((D.i x74) + (1 : Int)))) xo8 xo14 xo27 xo52 xo62 xo72 Q)))))))))))))
 (L13_10 n  m0 x2 x63 (D.int (IntKind.wrap .i64 ((D.i x64) + (1 : Int)))) xo8 xo27 xo52 xo62 Q)) := by kernel_rfl
theorem E13 (n : Nat) (d0 d1 d2 : D) (Q : List D → Prop) : wpF Try.prog A (n + 1) 13 [d0, d1, d2] Q =
 (cond (iLt (1100 : Int) (D.len (D.fld d0 0)))
 (wpF Try.prog A n 47 [] fun r1 =>
 (Q [(rs r1 0)]))
 (wpF Try.prog A n 15 [d1] fun r2 =>
 (wpF Try.prog A n 48 [(rs r2 0)] fun r3 =>
 (True ∧ (wpF Try.prog A n 49 [(rs r3 2), (rs r3 0), (D.int (2 : Int))] fun r4 =>
 (wpF Try.prog A n 49 [(rs r4 1), (rs r3 0), (D.int (2 : Int))] fun r5 =>
 (True ∧ (True ∧ (wpF Try.prog A n 18 [(rs r5 1), (D.int (5 : Int))] fun r6 =>
 (cond (iEq (D.i (rs r6 0)) (0 : Int))
 (wpF Try.prog A n 50 [(rs r6 1), (rs r4 0)] fun r7 =>
 (True ∧ (wpF Try.prog A n 18 [(rs r7 1), (D.int (6 : Int))] fun r8 =>
 ((5 : Int) ≠ (0 : Int) ∧ (wpF Try.prog A n 60 [(rs r8 1), (D.int (IntKind.wrap .i64 ((D.i (D.fld (rs r3 0) 0)) + (IntKind.wrap .i64 (Int.tdiv (D.i (rs r8 0)) (5 : Int))))))] fun r9 =>
 (L13_10 n  n d2 (D.int (D.len (D.slc [(D.agg [(rs r7 0), (rs r5 0)]), (D.agg [d0, (rs r5 0)]), (D.agg [(rs r7 0), d0])]))) (D.int (0 : Int)) (rs r3 0) (rs r9 1) (rs r9 0) (D.slc [(D.agg [(rs r7 0), (rs r5 0)]), (D.agg [d0, (rs r5 0)]), (D.agg [(rs r7 0), d0])]) Q))))))
 (wpF Try.prog A n 18 [(rs r6 1), (D.int (6 : Int))] fun r15 =>
 ((5 : Int) ≠ (0 : Int) ∧ (wpF Try.prog A n 60 [(rs r15 1), (D.int (IntKind.wrap .i64 ((D.i (D.fld (rs r3 0) 0)) + (IntKind.wrap .i64 (Int.tdiv (D.i (rs r15 0)) (5 : Int))))))] fun r16 =>
 (L13_10 n  n d2 (D.int (D.len (D.slc [(D.agg [(rs r4 0), (rs r5 0)]), (D.agg [d0, (rs r5 0)]), (D.agg [(rs r4 0), d0])]))) (D.int (0 : Int)) (rs r3 0) (rs r16 1) (rs r16 0) (D.slc [(D.agg [(rs r4 0), (rs r5 0)]), (D.agg [d0, (rs r5 0)]), (D.agg [(rs r4 0), d0])]) Q)))))))))))))) := by kernel_rfl
attribute [irreducible] L13_10 L13_13

/- timebound/timeboundlaw34.CertificateSplits -/
theorem E14 (n : Nat) (d0 : D) (Q : List D → Prop) : wpF Try.prog A (n + 1) 14 [d0] Q =
 (wpF Try.prog A n 15 [d0] fun r1 =>
 (wpF Try.prog A n 48 [(rs r1 0)] fun r2 =>
 (True ∧ (wpF Try.prog A n 60 [(rs r2 2), (D.fld (rs r2 0) 0)] fun r3 =>
 (wpF Try.prog A n 18 [(rs r3 1), (D.int (9 : Int))] fun r4 =>
 (wpF Try.prog A n 64 [(rs r3 0), (D.int (IntKind.wrap .i64 ((D.i (rs r4 0)) - (4 : Int))))] fun r5 =>
 (True ∧ (True ∧ (True ∧ (True ∧ (room ((List.length (D.xs (D.fld (rs r2 0) 1)) : Nat) : Int) 32 ∧ (room (((List.length (D.xs (D.fld (rs r2 0) 1)) : Nat) : Int) + ((List.length [(rs r5 0)] : Nat) : Int)) 32 ∧ (room ((List.length (D.xs (D.fld (rs r2 0) 1)) : Nat) : Int) 32 ∧ (room (((List.length (D.xs (D.fld (rs r2 0) 1)) : Nat) : Int) + ((List.length [(rs r5 1)] : Nat) : Int)) 32 ∧ (True ∧ (True ∧ (wpF Try.prog A n 49 [(rs r4 1), (rs r2 0), (D.int (1 : Int))] fun r6 =>
 (wpF Try.prog A n 49 [(rs r6 1), (rs r2 0), (D.int (1 : Int))] fun r7 =>
 (True ∧ (True ∧ (wpF Try.prog A n 54 [(rs r2 0), (rs r6 0)] fun r8 =>
 (cond (!(iEq (D.i (rs r8 0)) (0 : Int)))
 (wpF Try.prog A n 47 [] fun r9 =>
 (Q [(rs r9 0)]))
 (wpF Try.prog A n 54 [(rs r2 0), (rs r7 0)] fun r10 =>
 (cond (!(iEq (D.i (rs r10 0)) (0 : Int)))
 (wpF Try.prog A n 47 [] fun r11 =>
 (Q [(rs r11 0)]))
 (cond (iLt (2 : Int) (IntKind.wrap .i64 ((D.len (D.fld (rs r6 0) 0)) + (D.len (D.fld (rs r7 0) 0)))))
 (wpF Try.prog A n 47 [] fun r12 =>
 (Q [(rs r12 0)]))
 (wpF Try.prog A n 61 [(rs r2 0), (rs r3 0), (D.int (IntKind.wrap .i64 ((D.i (rs r4 0)) - (4 : Int)))), (rs r6 0), (rs r7 0)] fun r13 =>
 (True ∧ (cond (iEq (D.i (rs r13 1)) (0 : Int))
 (cond (iEq (D.i (D.fld (rs r13 0) 1)) (minmax true (D.i (D.fld (rs r6 0) 1)) (D.i (D.fld (rs r7 0) 1))))
 (wpF Try.prog A n 53 [(rs r2 0), (rs r13 0)] fun r14 =>
 (cond (iEq (D.i (rs r14 0)) (0 : Int))
 (wpF Try.prog A n 55 [(rs r13 0)] fun r15 =>
 (cond (iEq (D.i (rs r15 0)) (2 : Int))
 (wpF Try.prog A n 54 [(D.agg [(D.fld (rs r2 0) 0), (D.slc ((D.xs (D.fld (rs r2 0) 1)) ++ [(rs r5 0)])), (D.fld (rs r2 0) 2), (D.fld (rs r2 0) 3)]), (rs r6 0)] fun r16 =>
 (cond (iEq (D.i (rs r16 0)) (0 : Int))
 (wpF Try.prog A n 54 [(D.agg [(D.fld (rs r2 0) 0), (D.slc ((D.xs (D.fld (rs r2 0) 1)) ++ [(rs r5 1)])), (D.fld (rs r2 0) 2), (D.fld (rs r2 0) 3)]), (rs r7 0)] fun r17 =>
 (cond (iEq (D.i (rs r17 0)) (0 : Int))
 (wpF Try.prog A n 47 [] fun r18 =>
 (Q [(rs r18 0)]))
 (Q [(D.bool false)])))
 (Q [(D.bool false)])))
 (Q [(D.bool false)])))
 (Q [(D.bool false)])))
 (Q [(D.bool false)]))
 (Q [(D.bool false)]))))))))))))))))))))))))))))) := by kernel_rfl

/- timebound/certificate.rows -/
def L156_2 (n m0 : Nat) (x0 : D) (x5 : D) (x6 : D) (x7 : D) (Q : List D → Prop) : Prop :=
  loopK (wpC Try.prog A (hnd Try.prog A n) 156 n (cA (cA (cB (cA (cB (bodyOf Try.f156))))))) (nmK (A.loop 156 2)) m0 { sl := [(0, .imm 80 x0), (5, .imm 80 x5), (6, .imm 3 x6), (7, .imm 3 x7)], ob := [] } (kBlock 0 (kSeq (wpC Try.prog A (hnd Try.prog A n) 156 n (cB (cB (bodyOf Try.f156)))) (kEnd Try.prog Try.f156 (A.sig 156) Q)))
theorem L156_2_eq (n m0 : Nat) (x0 : D) (x5 : D) (x6 : D) (x7 : D) (Q : List D → Prop) : L156_2 n (m0 + 1) x0 x5 x6 x7 Q =
 (cond (iLt (D.i x7) (D.i x6))
 ((0 ≤ (D.i x7) ∧ (D.i x7) < (D.len x5)) ∧ (True ∧ (cond (iLt (D.i (D.fld (D.el x5 (D.i x7)) 0)) (0 : Int))
 (Q [(D.bool false)])
 (cond (iLt (0 : Int) (D.i x7))
 ((0 ≤ (IntKind.wrap .i64 ((D.i x7) - (1 : Int))) ∧ (IntKind.wrap .i64 ((D.i x7) - (1 : Int))) < (D.len x0)) ∧ (cond (iLe (D.i (D.fld (D.el x5 (D.i x7)) 0)) (D.i (D.fld (D.el x0 (IntKind.wrap .i64 ((D.i x7) - (1 : Int)))) 0)))
 (Q [(D.bool false)])
 (cond (iLt (D.i (D.fld (D.el x5 (D.i x7)) 1)) (1 : Int))
 (Q [(D.bool false)])
 (cond (iLt (1073741824 : Int) (D.i (D.fld (D.el x5 (D.i x7)) 1)))
 (Q [(D.bool false)])
 (L156_2 n  m0 x0 x5 x6 (D.int (IntKind.wrap .i64 ((D.i x7) + (1 : Int)))) Q)))))
 (cond (iLt (D.i (D.fld (D.el x5 (D.i x7)) 1)) (1 : Int))
 (Q [(D.bool false)])
 (cond (iLt (1073741824 : Int) (D.i (D.fld (D.el x5 (D.i x7)) 1)))
 (Q [(D.bool false)])
 (L156_2 n  m0 x0 x5 x6 (D.int (IntKind.wrap .i64 ((D.i x7) + (1 : Int)))) Q)))))))
 (Q [(D.bool true)])) := by kernel_rfl
theorem E156 (n : Nat) (d0 : D) (Q : List D → Prop) : wpF Try.prog A (n + 1) 156 [d0] Q =
 (L156_2 n  n d0 d0 (D.int (D.len d0)) (D.int (0 : Int)) Q) := by kernel_rfl
attribute [irreducible] L156_2

/- (timebound/certificate.leafCase).right -/
theorem E155 (n : Nat) (d0 d1 d2 : D) (Q : List D → Prop) : wpF Try.prog A (n + 1) 155 [d0, d1, d2] Q =
 (cond (iEq (D.i (D.fld d0 1)) (-1 : Int))
 (cond (iEq (D.len (D.fld d0 2)) (0 : Int))
 (cond (iEq (D.i (D.fld d0 3)) (0 : Int))
 (cond (iLe (0 : Int) (D.i (D.fld d0 5)))
 (cond (iLe (D.i (D.fld d0 5)) (1024 : Int))
 (wpF Try.prog A n 156 [(D.fld d0 4)] fun r1 =>
 (Q [(rs r1 0)]))
 (Q [(D.bool false)]))
 (Q [(D.bool false)]))
 (Q [(D.bool false)]))
 (Q [(D.bool false)]))
 (Q [(D.bool false)])) := by kernel_rfl

/- (timebound/certificate.splitCase).right -/
theorem E157 (n : Nat) (d0 d1 d2 : D) (Q : List D → Prop) : wpF Try.prog A (n + 1) 157 [d0, d1, d2] Q =
 (wpF Try.prog A n 104 [d1, (D.fld d0 2), (D.fld d0 3)] fun r1 =>
 (cond (D.b (rs r1 0))
 (cond (iEq (D.len (D.fld d0 4)) (0 : Int))
 (cond (iEq (D.i (D.fld d0 5)) (0 : Int))
 (cond (iLt (D.i d2) (D.i (D.fld d0 0)))
 (Q [(D.bool (iLt (D.i d2) (D.i (D.fld d0 1))))])
 (Q [(D.bool false)]))
 (Q [(D.bool false)]))
 (Q [(D.bool false)]))
 (Q [(D.bool false)]))) := by kernel_rfl
end Go.Ab
