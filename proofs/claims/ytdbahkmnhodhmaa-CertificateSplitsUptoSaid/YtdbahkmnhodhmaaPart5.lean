/- Equations and plain laws of the functions that the statement reaches, part 5. Conditions: those in each theorem. -/
import Derived.Test.YtdbahkmnhodhmaaPart3
import Derived.Test.YtdbahkmnhodhmaaAbPart9
import Derived.Test.YtdbahkmnhodhmaaPart4
set_option linter.unusedVariables false
set_option linter.unusedSimpArgs false
/- Integer programs: which are valid: both answers are one. -/
namespace Go.Ab
open Go.Proofs
attribute [local irreducible] wpF

def wi34 (x a b : Int) : Bool := iLe a x && iLe x b
def tof (l : D) (k : Int) : Int := D.i (D.fld (D.el l k) 0)
def tco (l : D) (k : Int) : Int := D.i (D.fld (D.el l k) 1)
def badT (l : D) (cols most : Int) (k : Nat) : Bool := iLt (tof l k) 0 || (iLe cols (tof l k) || ((iLt 0 k && iLe (tof l k) (tof l ((k : Int) - 1))) || (iEq (tco l k) 0 || !wi34 (tco l k) (-most) most)))
def termsB (l : D) (cols most : Int) : Bool := !anyB (badT l cols most) (D.len l).toNat
def rowB (x : D) (cols : Int) : Bool := termsB (D.fld x 0) cols 1048576 && wi34 (D.i (D.fld x 1)) (-1048576) 1048576
def modB (m : D) : Bool := (iLe 0 (D.i (D.fld m 0)) && (iLe (D.i (D.fld m 0)) 300 && iLe (D.len (D.fld m 1)) 400)) && (termsB (D.fld m 2) (D.i (D.fld m 0)) 16777216 && (wi34 (D.i (D.fld m 3)) (-16777216) 16777216 && !anyB (fun k => !rowB (D.el (D.fld m 1) k) (D.i (D.fld m 0))) (D.len (D.fld m 1)).toNat))

/-- Lists that are not too long. -/
structure Mo (m : D) : Prop where
  rows : D.len (D.fld m 1) ≤ 1100000
  row : ∀ i : Nat, (i : Int) < D.len (D.fld m 1) → D.len (D.fld (D.el (D.fld m 1) i) 0) ≤ 1100000
  goal : D.len (D.fld m 2) ≤ 1100000

section
variable {n : Nat} {Q : List D → Prop}

theorem within34_wp (hn : 1 ≤ n) {x : D} {M : Int} (hM : 0 ≤ M ∧ M ≤ 4000000000) (h : Q [.bool (wi34 (D.i x) (-M) M)]) : wpF Try.prog A n 133 [x, .int M] Q := by
  obtain ⟨m, rfl⟩ : ∃ m, n = m + 1 := ⟨n - 1, by omega⟩
  rw [E133]
  simp only [i_int]
  rw [wrap_id (by omega) (by omega), show (0 : Int) - M = -M by omega]
  unfold wi34 at h
  exact cnd (fun c => by rw [c, Bool.true_and] at h; exact h) fun c => by rw [c, Bool.false_and] at h; exact h

theorem terms_wp {l c : D} {M : Int} (hl : D.len l ≤ 1100000) (hM : 0 ≤ M ∧ M ≤ 4000000000) (hn : 1100100 ≤ n) (h : Q [.bool (termsB l (D.i c) M)]) : wpF Try.prog A n 125 [l, c, .int M] Q := by
  obtain ⟨m, rfl⟩ : ∃ m, n = m + 1 := ⟨n - 1, by omega⟩
  rw [E125, lnN l]
  unfold termsB at h
  have hl0 := ln0 l
  refine all_loop (L := fun m0 k => L125_2 m m0 l c (.int M) l (.int ((D.len l).toNat : Nat)) k Q) (bad := badT l (D.i c) M) (N := (D.len l).toNat) (F := Q [.bool false]) (by omega) (fun m0 k hk hw hb hg => ?_) (fun hb => by rw [hb] at h; exact h) (fun hg m0 => ?_) m 0 (by omega) (by omega) (by omega)
  · rw [L125_2_eq]
    simp only [i_int]
    rw [hw]
    refine cLt (fun _ => ⟨by omega, trivial, ?_⟩) fun c => by omega
    unfold badT tof tco at hb hg
    refine or_bad hb hg fun c1 hb hg => or_bad hb hg fun c2 hb hg => ?_
    have last : ((iEq (D.i (D.fld (D.el l (k : Int)) 1)) 0 || !wi34 (D.i (D.fld (D.el l (k : Int)) 1)) (-M) M) = true → Q [.bool false]) → ((iEq (D.i (D.fld (D.el l (k : Int)) 1)) 0 || !wi34 (D.i (D.fld (D.el l (k : Int)) 1)) (-M) M) = false → L125_2 m m0 l c (.int M) l (.int ((D.len l).toNat : Nat)) (.int ((k : Int) + 1)) Q) →
        cond (iEq (D.i (D.fld (D.el l (k : Int)) 1)) (0 : Int)) (Q [(D.bool false)]) (wpF Try.prog A m 133 [(D.fld (D.el l (k : Int)) 1), .int M] fun r1 => (cond (!(D.b (rs r1 0))) (Q [(D.bool false)]) (L125_2 m m0 l c (.int M) l (.int ((D.len l).toNat : Nat)) (.int ((k : Int) + 1)) Q))) := fun hb hg => by
      refine or_bad hb hg fun c3 hb hg => ?_
      refine within34_wp (by omega) hM ?_
      rw [rs0, b_bool]
      exact cnd (fun c => hb c) fun c => hg c
    refine cLt (fun c3 => ?_) fun c3 => ?_
    · rw [iLt_iff.mpr c3, Bool.true_and] at hb hg
      rw [wrap_id (by omega) (by omega)]
      exact ⟨by omega, or_bad hb hg fun c4 hb hg => last hb hg⟩
    · rw [iLt_not.mpr c3, Bool.false_and, Bool.false_or] at hb hg
      exact last hb hg
  · rw [L125_2_eq]
    simp only [i_int]
    refine cLt (fun c => by omega) fun _ => ?_
    rw [hg] at h
    exact h

theorem terms'_wp {l c : D} {M : Int} (hl : D.len l ≤ 1100000) (hM : 0 ≤ M ∧ M ≤ 4000000000) (hn : 1100100 ≤ n) (h : Q [.bool (termsB l (D.i c) M)]) : wpF Try.prog A n 129 [l, c, .int M] Q := by
  obtain ⟨m, rfl⟩ : ∃ m, n = m + 1 := ⟨n - 1, by omega⟩
  rw [E129, lnN l]
  unfold termsB at h
  have hl0 := ln0 l
  refine all_loop (L := fun m0 k => L129_2 m m0 l c (.int M) l (.int ((D.len l).toNat : Nat)) k Q) (bad := badT l (D.i c) M) (N := (D.len l).toNat) (F := Q [.bool false]) (by omega) (fun m0 k hk hw hb hg => ?_) (fun hb => by rw [hb] at h; exact h) (fun hg m0 => ?_) m 0 (by omega) (by omega) (by omega)
  · rw [L129_2_eq]
    simp only [i_int]
    rw [hw]
    refine cLt (fun _ => ⟨by omega, trivial, ?_⟩) fun c => by omega
    rw [wrap_id (show -9223372036854775808 ≤ (0 : Int) - M by omega) (by omega), show (0 : Int) - M = -M by omega]
    have e0 : badT l (D.i c) M k = (iLt (D.i (D.fld (D.el l (k : Int)) 0)) 0 || (iLe (D.i c) (D.i (D.fld (D.el l (k : Int)) 0)) || (iEq (D.i (D.fld (D.el l (k : Int)) 1)) 0 || (iLt (D.i (D.fld (D.el l (k : Int)) 1)) (-M) || (iLt M (D.i (D.fld (D.el l (k : Int)) 1)) || (iLt 0 (k : Int) && iLe (D.i (D.fld (D.el l (k : Int)) 0)) (D.i (D.fld (D.el l ((k : Int) - 1)) 0)))))))) := by
      have e1 : (!wi34 (tco l k) (-M) M) = (iLt (tco l k) (-M) || iLt M (tco l k)) := by
        unfold wi34 iLe iLt
        rw [Bool.not_and, ← decide_not, ← decide_not]
        congr 1 <;> exact decide_eq_decide.mpr (by omega)
      unfold badT
      rw [e1]
      unfold tof tco
      generalize iLt (D.i (D.fld (D.el l (k : Int)) 0)) 0 = a
      generalize iLe (D.i c) (D.i (D.fld (D.el l (k : Int)) 0)) = b
      generalize (iLt 0 (k : Int) && iLe (D.i (D.fld (D.el l (k : Int)) 0)) (D.i (D.fld (D.el l ((k : Int) - 1)) 0))) = e
      generalize iEq (D.i (D.fld (D.el l (k : Int)) 1)) 0 = f
      generalize iLt (D.i (D.fld (D.el l (k : Int)) 1)) (-M) = g
      generalize iLt M (D.i (D.fld (D.el l (k : Int)) 1)) = h
      cases a <;> cases b <;> cases e <;> cases f <;> cases g <;> cases h <;> rfl
    rw [e0] at hb hg
    refine or_bad hb hg fun c1 hb hg => or_bad hb hg fun c2 hb hg => or_bad hb hg fun c3 hb hg => or_bad hb hg fun c4 hb hg => or_bad hb hg fun c5 hb hg => ?_
    refine cLt (fun c6 => ?_) fun c6 => ?_
    · rw [iLt_iff.mpr c6, Bool.true_and] at hb hg
      rw [wrap_id (by omega) (by omega)]
      exact ⟨by omega, cnd (fun c => hb c) fun c => hg c⟩
    · rw [iLt_not.mpr c6, Bool.false_and] at hg
      exact hg rfl
  · rw [L129_2_eq]
    simp only [i_int]
    refine cLt (fun c => by omega) fun _ => ?_
    rw [hg] at h
    exact h

theorem row'_wp {x c : D} (hl : D.len (D.fld x 0) ≤ 1100000) (hn : 1100200 ≤ n) (h : Q [.bool (rowB x (D.i c))]) : wpF Try.prog A n 120 [x, c] Q := by
  obtain ⟨m, rfl⟩ : ∃ m, n = m + 1 := ⟨n - 1, by omega⟩
  rw [E120]
  unfold rowB wi34 at h
  refine terms'_wp hl (by omega) (by omega) ?_
  rw [rs0, b_bool]
  refine cnd (fun c => ?_) fun c => by rw [c, Bool.false_and] at h; exact h
  rw [c, Bool.true_and] at h
  exact cnd (fun c => by rw [c, Bool.true_and] at h; exact h) fun c => by rw [c, Bool.false_and] at h; exact h

theorem model_wp {m : D} (hm : Mo m) (hn : 1100300 ≤ n) (h : Q [.bool (modB m)]) : wpF Try.prog A n 92 [m] Q := by
  obtain ⟨p, rfl⟩ : ∃ p, n = p + 2 := ⟨n - 2, by omega⟩
  rw [E92, E118]
  have hr := hm.rows
  have hr0 := ln0 (D.fld m 1)
  unfold modB at h
  simp only [rs0, i_int]
  refine cnd (fun c => ?_) fun c => by rw [c, Bool.false_and, Bool.false_and] at h; exact h
  rw [c, Bool.true_and] at h
  refine cnd (fun c => ?_) fun c => by rw [c, Bool.false_and, Bool.false_and] at h; exact h
  rw [c, Bool.true_and] at h
  refine cnd (fun c => ?_) fun c => by rw [c, Bool.false_and] at h; exact h
  rw [c, Bool.true_and] at h
  refine terms_wp hm.goal (by omega) (by omega) ?_
  rw [rs0, b_bool]
  refine cnd (fun c => ?_) fun c => by rw [c, Bool.false_and] at h; exact h
  rw [c, Bool.true_and] at h
  refine within34_wp (by omega) (by omega) ?_
  rw [rs0, b_bool]
  refine cnd (fun c => ?_) fun c => by rw [c, Bool.false_and] at h; exact h
  rw [c, Bool.true_and] at h
  obtain ⟨q, rfl⟩ : ∃ q, p = q + 2 := ⟨p - 2, by omega⟩
  rw [E134, E138]
  refine found_loop (Q := fun r => Q [.bool (!D.b (rs r 0))]) (x1 := .fn 135 [.ptr m, .ptr (.int 1048576), .ptr (.int 1048576)]) (N := (D.len (D.fld m 1)).toNat) (p := fun k => !rowB (D.el (D.fld m 1) k) (D.i (D.fld m 0))) (L := L138_2 q) (call := fun x1 e Q => dynH A (wpF Try.prog A q) x1 [.imm 100] [.val 4 .imm] [e] Q) (fun m0 x0 x1 x7 x8 Q => L138_2_eq q m0 x0 x1 x7 x8 Q) (lnN _) (by omega)
    (fun i hi Q hQ => ⟨⟨rfl, rfl, rfl, rfl⟩, ?_⟩) (by omega) h
  obtain ⟨u, rfl⟩ : ∃ u, q = u + 1 := ⟨q - 1, by omega⟩
  show wpF Try.prog A (u + 1) 135 [D.el (D.fld m 1) (i : Int), m, .int 1048576, .int 1048576] Q
  rw [E135]
  unfold rowB at hQ
  refine terms_wp (hm.row i (by omega)) (by omega) (by omega) ?_
  rw [rs0, b_bool]
  refine cNot (fun c => by rw [c, Bool.false_and] at hQ; exact hQ) fun c => ?_
  rw [c, Bool.true_and] at hQ
  refine within34_wp (by omega) (by omega) ?_
  rw [rs0, b_bool]
  exact hQ

theorem model'_wp {m : D} (hm : Mo m) (hn : 1100300 ≤ n) (h : Q [.bool (modB m)]) : wpF Try.prog A n 102 [m] Q := by
  obtain ⟨p, rfl⟩ : ∃ p, n = p + 1 := ⟨n - 1, by omega⟩
  rw [E102, lnN (D.fld m 1)]
  have hr := hm.rows
  have hr0 := ln0 (D.fld m 1)
  unfold modB at h
  refine all_loop (L := fun m0 k => L102_2 p m0 (D.fld m 1) (.int ((D.len (D.fld m 1)).toNat : Nat)) k m Q) (bad := fun k => !rowB (D.el (D.fld m 1) k) (D.i (D.fld m 0))) (N := (D.len (D.fld m 1)).toNat) (F := Q [.bool false]) (by omega) (fun m0 k hk hw hb hg => ?_) (fun hb => ?_) (fun hg m0 => ?_) p 0 (by omega) (by omega) (by omega)
  · rw [L102_2_eq]
    simp only [i_int]
    rw [hw]
    refine cLt (fun _ => ⟨by omega, trivial, ?_⟩) fun c => by omega
    refine row'_wp (hm.row k (by omega)) (by omega) ?_
    rw [rs0, b_bool]
    exact cnd (fun c => hb c) fun c => hg c
  · rw [hb, Bool.not_true, Bool.and_false, Bool.and_false, Bool.and_false] at h
    exact h
  · rw [L102_2_eq]
    simp only [i_int]
    refine cLt (fun c => by omega) fun _ => ?_
    rw [hg, Bool.not_false, Bool.and_true] at h
    refine cnd (fun c => ?_) fun c => by rw [c, Bool.false_and, Bool.false_and] at h; exact h
    rw [c, Bool.true_and] at h
    refine cnd (fun c => ?_) fun c => by rw [c, Bool.false_and, Bool.false_and] at h; exact h
    rw [c, Bool.true_and] at h
    refine cnd (fun c => ?_) fun c => by rw [c, Bool.false_and] at h; exact h
    rw [c, Bool.true_and] at h
    refine terms'_wp hm.goal (by omega) (by omega) ?_
    rw [rs0, b_bool]
    refine cnd (fun c => ?_) fun c => by rw [c, Bool.false_and] at h; exact h
    rw [c, Bool.true_and] at h
    unfold wi34 at h
    exact cnd (fun c => by rw [c, Bool.true_and] at h; exact h) fun c => by rw [c, Bool.false_and] at h; exact h
end
end Go.Ab

/- Bounds: which are valid: both answers are one. -/
namespace Go.Ab
open Go.Proofs
attribute [local irreducible] wpF

def cL (c : D) : Int := D.i (D.fld c 0)
def cR (c : D) : Int := D.i (D.fld c 1)
def cAt (c : D) : Int := D.i (D.fld c 3)
def cDen (c : D) : Int := D.i (D.fld c 5)
def cs (b : D) : D := D.fld b 0
def cAs (b : D) (k : Int) : D := D.el (cs b) k
def badM (l : D) (k : Nat) : Bool := iLt (tof l k) 0 || ((iLt 0 k && iLe (tof l k) (tof l ((k : Int) - 1))) || (iLt (tco l k) 1 || iLt 1073741824 (tco l k)))
def mulB (l : D) : Bool := !anyB (badM l) (D.len l).toNat
def leafB (c : D) : Bool := iEq (cR c) (-1) && (iEq (D.len (D.fld c 2)) 0 && (iEq (cAt c) 0 && (iLe 0 (cDen c) && (iLe (cDen c) 1024 && mulB (D.fld c 4)))))
def formB (m l : D) (at_ : Int) : Bool := termsB l (D.i (D.fld m 0)) 1048576 && (iLe (-1048576) at_ && iLt at_ 1048576)
def splitB (m c : D) (i : Int) : Bool := formB m (D.fld c 2) (cAt c) && (iEq (D.len (D.fld c 4)) 0 && (iEq (cDen c) 0 && (iLt i (cL c) && iLt i (cR c))))
def nameS (N : Int) (nm : List Bool) (k : Int) : Option (List Bool) := cond (iLe N k) none (cond (nm.getD k.toNat false) none (some (nm.set k.toNat true)))
def vS (m b : D) (nm : List Bool) (i : Nat) : Option (List Bool) :=
  cond (iEq (cL (cAs b i)) (-1)) (cond (leafB (cAs b i)) (some nm) none)
    (cond (splitB m (cAs b i) i) ((nameS (D.len (cs b)) nm (cL (cAs b i))).bind fun nm => nameS (D.len (cs b)) nm (cR (cAs b i))) none)
def allN (nm : List Bool) : Bool := !anyB (fun k => !nm.getD (k + 1) false) (nm.length - 1)
def namesO (m b : D) : Option (List Bool) := iterO (vS m b) (List.replicate (D.len (cs b)).toNat false) (D.len (cs b)).toNat
def bndB (m b : D) : Bool := (iLe 1 (D.len (cs b)) && iLe (D.len (cs b)) 1000) && (match namesO m b with
  | none => false
  | some nm => allN nm)

/-- Lists that are not too long. -/
structure Bo (b : D) : Prop where
  cases : D.len (cs b) ≤ 1100000
  form : ∀ i : Nat, (i : Int) < D.len (cs b) → D.len (D.fld (cAs b i) 2) ≤ 1100000
  mul : ∀ i : Nat, (i : Int) < D.len (cs b) → D.len (D.fld (cAs b i) 4) ≤ 1100000

def bools (l : List Bool) : D := .slc (l.map .bool)

theorem nameS_len {N : Int} {nm nm' : List Bool} {k : Int} (h : nameS N nm k = some nm') : nm'.length = nm.length := by
  unfold nameS at h
  cases h1 : iLe N k with
  | true => rw [h1] at h; cases h
  | false =>
    rw [h1] at h
    simp only [cond_false] at h
    cases h2 : nm.getD k.toNat false with
    | true => rw [h2] at h; cases h
    | false =>
      rw [h2] at h
      simp only [cond_false, Option.some.injEq] at h
      rw [← h, List.length_set]
theorem vS_len {m b : D} {nm nm' : List Bool} {i : Nat} (h : vS m b nm i = some nm') : nm'.length = nm.length := by
  unfold vS at h
  cases h1 : iEq (cL (cAs b i)) (-1) with
  | true =>
    rw [h1] at h
    simp only [cond_true] at h
    cases h2 : leafB (cAs b i) with
    | true => rw [h2] at h; simp only [cond_true, Option.some.injEq] at h; rw [h]
    | false => rw [h2] at h; cases h
  | false =>
    rw [h1] at h
    simp only [cond_false] at h
    cases h2 : splitB m (cAs b i) i with
    | false => rw [h2] at h; cases h
    | true =>
      rw [h2] at h
      simp only [cond_true, Option.bind_eq_some_iff] at h
      obtain ⟨nm1, h3, h4⟩ := h
      rw [nameS_len h4, nameS_len h3]
theorem iter_len {m b : D} {N : Nat} : ∀ {k : Nat} {nm : List Bool}, iterO (vS m b) (List.replicate N false) k = some nm → nm.length = N := by
  intro k
  induction k with
  | zero => intro nm h; simp only [iterO, Option.some.injEq] at h; rw [← h]; simp
  | succ k ih =>
    intro nm h
    simp only [iterO, Option.bind_eq_some_iff] at h
    obtain ⟨nm1, h1, h2⟩ := h
    rw [vS_len h2, ih h1]

section
variable {n : Nat} {Q : List D → Prop}

theorem mul_wp {l : D} (hl : D.len l ≤ 1100000) (hn : 1100100 ≤ n) (h : Q [.bool (mulB l)]) : wpF Try.prog A n 156 [l] Q := by
  obtain ⟨m, rfl⟩ : ∃ m, n = m + 1 := ⟨n - 1, by omega⟩
  rw [E156, lnN l]
  unfold mulB at h
  have hl0 := ln0 l
  refine all_loop (L := fun m0 k => L156_2 m m0 l l (.int ((D.len l).toNat : Nat)) k Q) (bad := badM l) (N := (D.len l).toNat) (F := Q [.bool false]) (by omega) (fun m0 k hk hw hb hg => ?_) (fun hb => by rw [hb] at h; exact h) (fun hg m0 => ?_) m 0 (by omega) (by omega) (by omega)
  · rw [L156_2_eq]
    simp only [i_int]
    rw [hw]
    refine cLt (fun _ => ⟨by omega, trivial, ?_⟩) fun c => by omega
    unfold badM tof tco at hb hg
    refine or_bad hb hg fun c1 hb hg => ?_
    refine cLt (fun c3 => ?_) fun c3 => ?_
    · rw [iLt_iff.mpr c3, Bool.true_and] at hb hg
      rw [wrap_id (by omega) (by omega)]
      exact ⟨by omega, or_bad hb hg fun c4 hb hg => or_bad hb hg fun c5 hb hg => cnd (fun c => hb c) fun c => hg c⟩
    · rw [iLt_not.mpr c3, Bool.false_and, Bool.false_or] at hb hg
      exact or_bad hb hg fun c5 hb hg => cnd (fun c => hb c) fun c => hg c
  · rw [L156_2_eq]
    simp only [i_int]
    refine cLt (fun c => by omega) fun _ => ?_
    rw [hg] at h
    exact h

theorem leafR_wp {c m i : D} (hl : D.len (D.fld c 4) ≤ 1100000) (hn : 1100200 ≤ n) (h : Q [.bool (leafB c)]) : wpF Try.prog A n 155 [c, m, i] Q := by
  obtain ⟨p, rfl⟩ : ∃ p, n = p + 1 := ⟨n - 1, by omega⟩
  rw [E155]
  unfold leafB cR cAt cDen at h
  refine cnd (fun c => ?_) fun c => by rw [c, Bool.false_and] at h; exact h
  rw [c, Bool.true_and] at h
  refine cnd (fun c => ?_) fun c => by rw [c, Bool.false_and] at h; exact h
  rw [c, Bool.true_and] at h
  refine cnd (fun c => ?_) fun c => by rw [c, Bool.false_and] at h; exact h
  rw [c, Bool.true_and] at h
  refine cnd (fun c => ?_) fun c => by rw [c, Bool.false_and] at h; exact h
  rw [c, Bool.true_and] at h
  refine cnd (fun c => ?_) fun c => by rw [c, Bool.false_and] at h; exact h
  rw [c, Bool.true_and] at h
  refine mul_wp hl (by omega) ?_
  rw [rs0]
  exact h

theorem leaf'_wp {c : D} (hl : D.len (D.fld c 4) ≤ 1100000) (hn : 1100200 ≤ n) (h : Q [.bool (iEq (cL c) (-1) && leafB c)]) : wpF Try.prog A n 95 [c] Q := by
  obtain ⟨m, rfl⟩ : ∃ m, n = m + 1 := ⟨n - 1, by omega⟩
  rw [E95, lnN (D.fld c 4)]
  have hl0 := ln0 (D.fld c 4)
  unfold leafB mulB cL cR cAt cDen at h
  refine all_loop (L := fun m0 k => L95_2 m m0 (D.fld c 4) (.int ((D.len (D.fld c 4)).toNat : Nat)) k c Q) (bad := badM (D.fld c 4)) (N := (D.len (D.fld c 4)).toNat) (F := Q [.bool false]) (by omega) (fun m0 k hk hw hb hg => ?_) (fun hb => ?_) (fun hg m0 => ?_) m 0 (by omega) (by omega) (by omega)
  · rw [L95_2_eq]
    simp only [i_int]
    rw [hw]
    refine cLt (fun _ => ⟨by omega, trivial, ?_⟩) fun c => by omega
    unfold badM tof tco at hb hg
    refine or_bad hb hg fun c1 hb hg => ?_
    refine cLt (fun c3 => ?_) fun c3 => ?_
    · rw [iLt_iff.mpr c3, Bool.true_and] at hb hg
      rw [wrap_id (by omega) (by omega)]
      exact ⟨by omega, or_bad hb hg fun c4 hb hg => or_bad hb hg fun c5 hb hg => cnd (fun c => hb c) fun c => hg c⟩
    · rw [iLt_not.mpr c3, Bool.false_and, Bool.false_or] at hb hg
      exact or_bad hb hg fun c5 hb hg => cnd (fun c => hb c) fun c => hg c
  · rw [hb, Bool.not_true, Bool.and_false, Bool.and_false, Bool.and_false, Bool.and_false, Bool.and_false, Bool.and_false] at h
    exact h
  · rw [L95_2_eq]
    simp only [i_int]
    refine cLt (fun c => by omega) fun _ => ?_
    rw [hg, Bool.not_false, Bool.and_true] at h
    refine cnd (fun c => ?_) fun c => by rw [c, Bool.false_and] at h; exact h
    rw [c, Bool.true_and] at h
    refine cnd (fun c => ?_) fun c => by rw [c, Bool.false_and] at h; exact h
    rw [c, Bool.true_and] at h
    refine cnd (fun c => ?_) fun c => by rw [c, Bool.false_and] at h; exact h
    rw [c, Bool.true_and] at h
    refine cnd (fun c => ?_) fun c => by rw [c, Bool.false_and] at h; exact h
    rw [c, Bool.true_and] at h
    exact cnd (fun c => by rw [c, Bool.true_and] at h; exact h) fun c => by rw [c, Bool.false_and] at h; exact h

theorem form_wp {m l a : D} (hl : D.len l ≤ 1100000) (hn : 1100200 ≤ n) (h : Q [.bool (formB m l (D.i a))]) : wpF Try.prog A n 104 [m, l, a] Q := by
  obtain ⟨p, rfl⟩ : ∃ p, n = p + 1 := ⟨n - 1, by omega⟩
  rw [E104]
  unfold formB at h
  refine terms_wp hl (by omega) (by omega) ?_
  rw [rs0, b_bool]
  refine cnd (fun c => ?_) fun c => by rw [c, Bool.false_and] at h; exact h
  rw [c, Bool.true_and] at h
  exact cnd (fun c => by rw [c, Bool.true_and] at h; exact h) fun c => by rw [c, Bool.false_and] at h; exact h
theorem form'_wp {m l a : D} (hl : D.len l ≤ 1100000) (hn : 1100300 ≤ n) (h : Q [.bool (formB m l (D.i a))]) : wpF Try.prog A n 96 [m, l, a] Q := by
  obtain ⟨p, rfl⟩ : ∃ p, n = p + 1 := ⟨n - 1, by omega⟩
  rw [E96]
  unfold formB at h
  refine row'_wp (x := .agg [l, .int 0]) hl (by omega) ?_
  rw [rs0, b_bool]
  have e : rowB (.agg [l, .int 0]) (D.i (D.fld m 0)) = termsB l (D.i (D.fld m 0)) 1048576 := by
    show (termsB l (D.i (D.fld m 0)) 1048576 && true) = _
    rw [Bool.and_true]
  rw [e]
  refine cnd (fun c => ?_) fun c => by rw [c, Bool.false_and] at h; exact h
  rw [c, Bool.true_and] at h
  refine cnd (fun c => ?_) fun c => by rw [c, Bool.false_and] at h; exact h
  rw [c, Bool.true_and] at h
  have e2 : iLe (D.i a) 1048575 = iLt (D.i a) 1048576 := decide_eq_decide.mpr (by omega)
  rw [e2]
  exact h

theorem splitR_wp {c m : D} {i : Int} (hl : D.len (D.fld c 2) ≤ 1100000) (hn : 1100300 ≤ n) (h : Q [.bool (splitB m c i)]) : wpF Try.prog A n 157 [c, m, .int i] Q := by
  obtain ⟨p, rfl⟩ : ∃ p, n = p + 1 := ⟨n - 1, by omega⟩
  rw [E157]
  unfold splitB cAt cDen cL cR at h
  refine form_wp hl (by omega) ?_
  rw [rs0, b_bool, i_int]
  refine cnd (fun c => ?_) fun c => by rw [c, Bool.false_and] at h; exact h
  rw [c, Bool.true_and] at h
  refine cnd (fun c => ?_) fun c => by rw [c, Bool.false_and] at h; exact h
  rw [c, Bool.true_and] at h
  refine cnd (fun c => ?_) fun c => by rw [c, Bool.false_and] at h; exact h
  rw [c, Bool.true_and] at h
  exact cnd (fun c => by rw [c, Bool.true_and] at h; exact h) fun c => by rw [c, Bool.false_and] at h; exact h

theorem leafQ_wp (hn : 2 ≤ n) {c : D} (h : Q [.bool (iEq (cL c) (-1))]) : wpF Try.prog A n 100 [c] Q := by
  obtain ⟨p, rfl⟩ : ∃ p, n = p + 2 := ⟨n - 2, by omega⟩
  rw [E100, E93]
  unfold cL at h
  refine cnd (fun c1 => ?_) fun c1 => ?_
  · rw [c1] at h
    rw [rs0]
    exact ⟨trivial, h⟩
  · rw [c1] at h
    rw [rs0]
    exact ⟨trivial, h⟩

theorem bools_get {l : List Bool} {k : Nat} (h : k < l.length) : D.b (List.getD (D.xs (bools l)) k D.und) = l.getD k false := by
  simp [bools, D.xs, List.getD, h, D.b]
theorem bools_set (l : List Bool) (k : Nat) (b : Bool) : D.slc (List.set (D.xs (bools l)) k (.bool b)) = bools (l.set k b) := by
  simp [bools, D.xs, List.map_set]
theorem bools_len (l : List Bool) : D.len (bools l) = l.length := by simp [bools, D.len, D.xs]
theorem bools_drop (l : List Bool) {N : Nat} (hN : l.length = N) : D.slc (List.drop (Int.toNat 1) (List.take (Int.toNat (N : Int)) (D.xs (bools l)))) = bools (l.drop 1) := by
  subst hN
  show D.slc (List.drop 1 (List.take l.length (l.map D.bool))) = D.slc ((l.drop 1).map D.bool)
  rw [List.take_of_length_le (by simp), List.map_drop]

theorem contains_wp {l : List Bool} (hl : l.length ≤ 1000) (hn : 2000 ≤ n) (h : Q [.bool (anyB (fun k => !l.getD k false) l.length)]) : wpF Try.prog A n 94 [bools l, .bool false] Q := by
  obtain ⟨p, rfl⟩ : ∃ p, n = p + 2 := ⟨n - 2, by omega⟩
  have e94 : wpF Try.prog A (p + 2) 94 [bools l, .bool false] Q = wpF Try.prog A (p + 1) 119 [bools l, .bool false] fun r1 => Q [(D.bool (iLe (0 : Int) (D.i (rs r1 0))))] := E94 _ _ _ _
  rw [e94, E119, bools_len]
  refine all_loop (L := fun m0 k => L119_2 p m0 (bools l) (.bool false) (.int l.length) k fun r1 => Q [(D.bool (iLe (0 : Int) (D.i (rs r1 0))))]) (bad := fun k => !l.getD k false) (N := l.length) (F := Q [.bool true]) (by omega) (fun m0 k hk hw hb hg => ?_) (fun hb => by rw [hb] at h; exact h) (fun hg m0 => ?_) p 0 (by omega) (by omega) (by omega)
  · rw [L119_2_eq]
    simp only [i_int, b_bool]
    rw [hw, bools_len]
    refine cLt (fun _ => ⟨by omega, ?_⟩) fun c => by omega
    have e : D.b (D.el (bools l) (k : Int)) = l.getD k false := bools_get hk
    rw [e]
    have e2 : bEq false (l.getD k false) = !l.getD k false := by cases l.getD k false <;> rfl
    rw [e2]
    refine cnd (fun c => ?_) fun c => hg c
    rw [rs0, i_int, iLe_iff.mpr (by omega)]
    exact hb c
  · rw [L119_2_eq]
    simp only [i_int]
    refine cLt (fun c => by omega) fun _ => ?_
    rw [hg] at h
    exact h
end
end Go.Ab

/- Bounds: valid ones, the rows above each case: both answers are one. -/
namespace Go.Ab
open Go.Proofs
attribute [local irreducible] wpF

section
variable {n : Nat} {Q : List D → Prop}

theorem right_leaf : methodOf Try.prog 146 (mName Try.prog 146 0) = some 155 := by kernel_rfl
theorem right_split : methodOf Try.prog 147 (mName Try.prog 146 0) = some 157 := by kernel_rfl
theorem right_leaf_ok : (PK.beqs (A.sig 155).ps (.imm 146 :: [.imm 82, .imm 3]) = true ∧ (A.sig 155).rs = [.val 4 .imm] ∧ plainT Try.prog 146 = true) := by
  refine ⟨by kernel_rfl, rfl, by kernel_rfl⟩
theorem right_split_ok : (PK.beqs (A.sig 157).ps (.imm 147 :: [.imm 82, .imm 3]) = true ∧ (A.sig 157).rs = [.val 4 .imm] ∧ plainT Try.prog 147 = true) := by
  refine ⟨by kernel_rfl, rfl, by kernel_rfl⟩

theorem inv_wp {P : Program} {A : Ann} {cal : Nat → List D → (List D → Prop) → Prop} {t f : Nat} {x : D} {nm : String} {ks : List PK} {rs : List RK} {ds : List D} {Q : List D → Prop} (h1 : methodOf P t nm = some f)
    (h2 : PK.beqs (A.sig f).ps (.imm t :: ks) = true ∧ (A.sig f).rs = rs ∧ plainT P t = true) (h3 : cal f (x :: ds) Q) : invH P A cal (.ifc t x) nm ks rs ds Q := by
  unfold invH
  simp only [h1]
  exact ⟨h2, h3⟩

attribute [local irreducible] invH methodOf
theorem inv_leaf {q : Nat} {c m i : D} {Q : List D → Prop} (h : wpF Try.prog A q 155 [c, m, i] Q) : invH Try.prog A (wpF Try.prog A q) (.ifc 146 c) (mName Try.prog 146 0) [.imm 82, .imm 3] [.val 4 .imm] [m, i] Q :=
  inv_wp (cal := wpF Try.prog A q) right_leaf right_leaf_ok h
theorem inv_split {q : Nat} {c m i : D} {Q : List D → Prop} (h : wpF Try.prog A q 157 [c, m, i] Q) : invH Try.prog A (wpF Try.prog A q) (.ifc 147 c) (mName Try.prog 146 0) [.imm 82, .imm 3] [.val 4 .imm] [m, i] Q :=
  inv_wp (cal := wpF Try.prog A q) right_split right_split_ok h

theorem vS_leaf {m b : D} {nm : List Bool} {i : Nat} (h : iEq (cL (cAs b i)) (-1) = true) : vS m b nm i = cond (leafB (cAs b i)) (some nm) none := by
  unfold vS; rw [h]; rfl
theorem vS_split {m b : D} {nm : List Bool} {i : Nat} (h : iEq (cL (cAs b i)) (-1) = false) : vS m b nm i = cond (splitB m (cAs b i) i) ((nameS (D.len (cs b)) nm (cL (cAs b i))).bind fun nm => nameS (D.len (cs b)) nm (cR (cAs b i))) none := by
  unfold vS; rw [h]; rfl

theorem split_gt {m c : D} {i : Int} (h : splitB m c i = true) : i < cL c ∧ i < cR c := by
  simp only [splitB, Bool.and_eq_true, iLt_iff] at h
  exact ⟨h.2.2.2.1, h.2.2.2.2⟩

theorem bound_wp {m b : D} (hm : Mo m) (hb : Bo b) (hn : 1100600 ≤ n) (h : Q [.bool (modB m && bndB m b)]) : wpF Try.prog A n 51 [m, b] Q := by
  obtain ⟨p, rfl⟩ : ∃ p, n = p + 1 := ⟨n - 1, by omega⟩
  rw [E51]
  refine model_wp hm (by omega) ?_
  rw [rs0, b_bool]
  refine cNot (fun c => by rw [c, Bool.false_and] at h; exact h) fun c => ?_
  rw [c, Bool.true_and] at h
  unfold bndB at h
  have hN := hb.cases
  have hN0 := ln0 (cs b)
  show cond (iLt (D.len (cs b)) 1) _ _
  refine cLt (fun c1 => by rw [iLe_not.mpr (by omega), Bool.false_and, Bool.false_and] at h; exact h) fun c1 => ?_
  show cond (iLt 1000 (D.len (cs b))) _ _
  refine cLt (fun c2 => by rw [iLe_iff.mpr (by omega), iLe_not.mpr (by omega), Bool.true_and, Bool.false_and] at h; exact h) fun c2 => ?_
  rw [iLe_iff.mpr (by omega), iLe_iff.mpr (by omega), Bool.true_and, Bool.true_and] at h
  obtain ⟨N, hNe⟩ : ∃ N : Nat, D.len (cs b) = N := ⟨(D.len (cs b)).toNat, by omega⟩
  have hN' : (D.len (cs b)).toNat = N := by omega
  show (0 ≤ D.len (cs b) ∧ D.len (cs b) ≤ D.len (cs b) ∧ room (D.len (cs b)) 1) ∧ L51_5 p p (cs b) (.int (D.len (cs b))) (.int 0) m b (.slc (List.replicate (Int.toNat (D.len (cs b))) (.bool false))) Q
  refine ⟨⟨by omega, by omega, by unfold room; omega⟩, ?_⟩
  unfold namesO at h
  rw [hN'] at h
  have e0 : D.slc (List.replicate (Int.toNat (D.len (cs b))) (D.bool false)) = bools (List.replicate N false) := by
    rw [hNe, toNat_nat]; simp [bools]
  rw [e0, hNe]
  refine opt_loop (L := fun m0 k nm => L51_5 p m0 (cs b) (.int (N : Int)) k m b (bools nm) Q) (step := vS m b) (s0 := List.replicate N false) (N := N) (F := Q [.bool false]) (by omega) (fun m0 k nm hk hnm hw hf hg => ?_) (fun hf => by rw [hf] at h; exact h) (fun nm hnm m0 => ?_) p 0 _ (by omega) (by omega) rfl
  · rw [L51_5_eq]
    simp only [i_int]
    rw [hw]
    refine cLt (fun _ => ⟨by omega, trivial, ?_⟩) fun c => by omega
    obtain ⟨q, rfl⟩ : ∃ q, p = q + 1 := ⟨p - 1, by omega⟩
    rw [E93]
    have hlen := iter_len hnm
    have hc4 := hb.mul k (by omega)
    have hc2 := hb.form k (by omega)
    refine cnd (fun cl => ?_) fun cl => ?_
    · rw [rs0]
      rw [vS_leaf cl] at hf hg
      refine inv_leaf (leafR_wp hc4 (by omega) ?_)
      rw [rs0, b_bool]
      refine cNot (fun c => hf (by show cond (leafB (D.el (cs b) (k : Int))) _ _ = none; rw [c]; rfl)) fun c => ?_
      rw [show ∀ x, D.isT (.ifc 146 x) 146 = true from fun _ => rfl, cond_true]
      exact ⟨trivial, hg _ (by show cond (leafB (D.el (cs b) (k : Int))) _ _ = _; rw [c]; rfl)⟩
    · rw [rs0]
      rw [vS_split cl] at hf hg
      refine inv_split (splitR_wp hc2 (by omega) ?_)
      rw [rs0, b_bool]
      refine cNot (fun c => hf (by show cond (splitB m (D.el (cs b) (k : Int)) k) _ _ = none; rw [c]; rfl)) fun c => ?_
      rw [show ∀ x, D.isT (.ifc 147 x) 146 = false from fun _ => rfl, cond_false, show ∀ x, D.isT (.ifc 147 x) 147 = true from fun _ => rfl, cond_true]
      refine ⟨trivial, ?_⟩
      have hgt := split_gt c
      have hs : splitB m (cAs b k) k = true := c
      rw [hs, cond_true] at hf hg
      show L51_16 (q + 1) m0 (q + 1) (cs b) (.int (N : Int)) (.int (k : Int)) (.int 2) (.int 0) m b (bools nm) (.slc [D.fld (cAs b k) 0, D.fld (cAs b k) 1]) Q
      -- both names
      have one : ∀ (m1 : Nat) (nm : List Bool) (j : Nat) (z : D) (F : Prop), nm.length = N → j < 2 → [D.fld (cAs b k) 0, D.fld (cAs b k) 1].getD j .und = z → (k : Int) < D.i z → (nameS (D.len (cs b)) nm (D.i z) = none → Q [.bool false]) →
          (∀ nm', nameS (D.len (cs b)) nm (D.i z) = some nm' → L51_16 (q + 1) m0 m1 (cs b) (.int (N : Int)) (.int (k : Int)) (.int 2) (.int ((j : Int) + 1)) m b (bools nm') (.slc [D.fld (cAs b k) 0, D.fld (cAs b k) 1]) Q) →
          L51_16 (q + 1) m0 (m1 + 1) (cs b) (.int (N : Int)) (.int (k : Int)) (.int 2) (.int (j : Int)) m b (bools nm) (.slc [D.fld (cAs b k) 0, D.fld (cAs b k) 1]) Q := by
        intro m1 nm j z F hl hj hz hkz h1 h2
        rw [L51_16_eq]
        simp only [i_int, xs_slc, toNat_nat]
        rw [hz, wrap_id (by omega) (by omega)]
        unfold nameS at h1 h2
        refine cLt (fun _ => ⟨⟨by omega, by simp only [len_slc, List.length_cons, List.length_nil]; omega⟩, ?_⟩) fun c => by omega
        show cond (iLe (D.len (cs b)) (D.i z)) _ _
        refine cnd (fun c => h1 (by rw [c]; rfl)) fun c => ?_
        rw [c] at h1 h2
        simp only [cond_false] at h1 h2
        rw [iLe_not, hNe] at c
        rw [bools_len, hl, bools_get (by omega)]
        refine ⟨by omega, cnd (fun c => h1 (by rw [c]; rfl)) fun c => ⟨by omega, trivial, ?_⟩⟩
        rw [bools_set]
        exact h2 _ (by rw [c]; rfl)
      refine one q nm 0 (D.fld (cAs b k) 0) False hlen (by omega) rfl hgt.1 (fun e => hf ?_) fun nm' e => ?_
      · show (nameS (D.len (cs b)) nm (D.i (D.fld (cAs b k) 0))).bind _ = none
        rw [e]; rfl
      · have hl' : nm'.length = N := by rw [nameS_len e]; exact hlen
        obtain ⟨u, rfl⟩ : ∃ u, q = u + 2 := ⟨q - 2, by omega⟩
        refine one (u + 1) nm' 1 (D.fld (cAs b k) 1) False hl' (by omega) rfl hgt.2 (fun e2 => hf ?_) fun nm2 e2 => ?_
        · show (nameS (D.len (cs b)) nm (D.i (D.fld (cAs b k) 0))).bind _ = none
          rw [e]
          exact e2
        · rw [L51_16_eq]
          simp only [i_int]
          refine cLt (fun c => by omega) fun _ => ?_
          rw [hw]
          refine hg nm2 ?_
          show (nameS (D.len (cs b)) nm (D.i (D.fld (cAs b k) 0))).bind _ = some nm2
          rw [e]
          exact e2
  · rw [L51_5_eq]
    simp only [i_int]
    refine cLt (fun c => by omega) fun _ => ?_
    have hl := iter_len hnm
    rw [bools_len, hl]
    refine ⟨⟨by omega, by omega, by omega⟩, ?_⟩
    rw [bools_drop nm hl]
    refine contains_wp (by simp; omega) (by omega) ?_
    rw [hnm] at h
    rw [rs0, b_bool]
    have e : anyB (fun k => !(nm.drop 1).getD k false) (nm.drop 1).length = anyB (fun k => !nm.getD (k + 1) false) (nm.length - 1) := by
      rw [List.length_drop]
      exact anyB_congr fun i hi => by simp [List.getD, Nat.add_comm]
    rw [e]
    exact h
end
end Go.Ab

/- Bounds: the document's validity; leaves counted; both sides of a split. -/
namespace Go.Ab
open Go.Proofs
attribute [local irreducible] wpF

section
variable {n : Nat} {Q : List D → Prop}

theorem bound'_wp {m b : D} (hm : Mo m) (hb : Bo b) (hn : 1100600 ≤ n) (h : Q [.bool (bndB m b)]) : wpF Try.prog A n 52 [m, b] Q := by
  obtain ⟨p, rfl⟩ : ∃ p, n = p + 1 := ⟨n - 1, by omega⟩
  rw [E52]
  unfold bndB at h
  have hN := hb.cases
  have hN0 := ln0 (cs b)
  show cond (iLt (D.len (cs b)) 1) _ _
  refine cLt (fun c1 => by rw [iLe_not.mpr (by omega), Bool.false_and, Bool.false_and] at h; exact h) fun c1 => ?_
  show cond (iLt 1000 (D.len (cs b))) _ _
  refine cLt (fun c2 => by rw [iLe_iff.mpr (by omega), iLe_not.mpr (by omega), Bool.true_and, Bool.false_and] at h; exact h) fun c2 => ?_
  rw [iLe_iff.mpr (by omega), iLe_iff.mpr (by omega), Bool.true_and, Bool.true_and] at h
  obtain ⟨N, hNe⟩ : ∃ N : Nat, D.len (cs b) = N := ⟨(D.len (cs b)).toNat, by omega⟩
  have hN' : (D.len (cs b)).toNat = N := by omega
  show (0 ≤ D.len (cs b) ∧ D.len (cs b) ≤ D.len (cs b) ∧ room (D.len (cs b)) 1) ∧ L52_5 p p (cs b) (.int (D.len (cs b))) (.int 0) m b (.slc (List.replicate (Int.toNat (D.len (cs b))) (.bool false))) Q
  refine ⟨⟨by omega, by omega, by unfold room; omega⟩, ?_⟩
  unfold namesO at h
  rw [hN'] at h
  have e0 : D.slc (List.replicate (Int.toNat (D.len (cs b))) (D.bool false)) = bools (List.replicate N false) := by
    rw [hNe, toNat_nat]; simp [bools]
  rw [e0, hNe]
  refine opt_loop (L := fun m0 k nm => L52_5 p m0 (cs b) (.int (N : Int)) k m b (bools nm) Q) (step := vS m b) (s0 := List.replicate N false) (N := N) (F := Q [.bool false]) (by omega) (fun m0 k nm hk hnm hw hf hg => ?_) (fun hf => by rw [hf] at h; exact h) (fun nm hnm m0 => ?_) p 0 _ (by omega) (by omega) rfl
  · rw [L52_5_eq]
    simp only [i_int]
    rw [hw]
    refine cLt (fun _ => ⟨by omega, trivial, ?_⟩) fun c => by omega
    have hlen := iter_len hnm
    have hc4 := hb.mul k (by omega)
    have hc40 := ln0 (D.fld (cAs b k) 4)
    have hc2 := hb.form k (by omega)
    refine cnd (fun cl => ?_) fun cl => ?_
    · rw [vS_leaf cl] at hf hg
      refine leaf'_wp hc4 (by omega) ?_
      rw [rs0, b_bool]
      have e : iEq (cL (D.el (cs b) (k : Int))) (-1) = true := cl
      rw [e, Bool.true_and]
      exact cNot (fun c => hf (by show cond (leafB (D.el (cs b) (k : Int))) _ _ = none; rw [c]; rfl)) fun c => hg _ (by show cond (leafB (D.el (cs b) (k : Int))) _ _ = _; rw [c]; rfl)
    · rw [vS_split cl] at hf hg
      unfold splitB at hf hg
      refine form'_wp hc2 (by omega) ?_
      rw [rs0, b_bool]
      refine cNot (fun c => hf (by rw [show formB m (D.fld (cAs b k) 2) (cAt (cAs b k)) = false from c]; rfl)) fun c => ?_
      rw [show formB m (D.fld (cAs b k) 2) (cAt (cAs b k)) = true from c, Bool.true_and] at hf hg
      show cond (iLt 0 (D.len (D.fld (cAs b k) 4))) _ _
      refine cLt (fun c => hf (by rw [iEq_not.mpr (by omega)]; rfl)) fun c => ?_
      rw [iEq_iff.mpr (by omega), Bool.true_and] at hf hg
      refine cNe (fun c => hf (by rw [show iEq (cDen (cAs b k)) 0 = false from iEq_not.mpr c]; rfl)) fun c => ?_
      rw [show iEq (cDen (cAs b k)) 0 = true from iEq_iff.mpr c, Bool.true_and] at hf hg
      refine cEq (fun c => hf ?_) fun c => ?_
      · have c : cL (cAs b k) = cR (cAs b k) := c
        rw [← c]
        cases h1 : iLt (k : Int) (cL (cAs b k)) with
        | false => rfl
        | true =>
          rw [iLt_iff] at h1
          simp only [Bool.and_self, cond_true]
          unfold nameS
          cases h2 : iLe (D.len (cs b)) (cL (cAs b k)) with
          | true => rfl
          | false =>
            rw [iLe_not, hNe] at h2
            simp only [cond_false]
            cases h3 : nm.getD (cL (cAs b k)).toNat false with
            | true => rfl
            | false =>
              simp only [cond_false, Option.bind_some]
              have : (nm.set (cL (cAs b k)).toNat true).getD (cL (cAs b k)).toNat false = true := by
                simp [List.getD, show (cL (cAs b k)).toNat < nm.length by omega]
              rw [this]
              rfl
      · show L52_13 p m0 p (.int (k : Int)) (cs b) (.int (N : Int)) (.int (k : Int)) (.int 2) (.int 0) m b (bools nm) (.slc [D.fld (cAs b k) 0, D.fld (cAs b k) 1]) Q
        have one : ∀ (m1 : Nat) (nm : List Bool) (j : Nat) (z : D), nm.length = N → j < 2 → [D.fld (cAs b k) 0, D.fld (cAs b k) 1].getD j .und = z → (iLt (k : Int) (D.i z) = false → Q [.bool false]) → (iLt (k : Int) (D.i z) = true → nameS (D.len (cs b)) nm (D.i z) = none → Q [.bool false]) →
            (iLt (k : Int) (D.i z) = true → ∀ nm', nameS (D.len (cs b)) nm (D.i z) = some nm' → L52_13 p m0 m1 (.int (k : Int)) (cs b) (.int (N : Int)) (.int (k : Int)) (.int 2) (.int ((j : Int) + 1)) m b (bools nm') (.slc [D.fld (cAs b k) 0, D.fld (cAs b k) 1]) Q) →
            L52_13 p m0 (m1 + 1) (.int (k : Int)) (cs b) (.int (N : Int)) (.int (k : Int)) (.int 2) (.int (j : Int)) m b (bools nm) (.slc [D.fld (cAs b k) 0, D.fld (cAs b k) 1]) Q := by
          intro m1 nm j z hl hj hz h0 h1 h2
          rw [L52_13_eq]
          simp only [i_int, xs_slc, toNat_nat]
          rw [hz, wrap_id (by omega) (by omega)]
          unfold nameS at h1 h2
          refine cLt (fun _ => ⟨⟨by omega, by simp only [len_slc, List.length_cons, List.length_nil]; omega⟩, ?_⟩) fun c => by omega
          refine cLe (fun c => h0 (iLt_not.mpr (by omega))) fun c => ?_
          have hkz : iLt (k : Int) (D.i z) = true := iLt_iff.mpr (by omega)
          have h1 := h1 hkz
          have h2 := h2 hkz
          show cond (iLe (D.len (cs b)) (D.i z)) _ _
          refine cnd (fun c => h1 (by rw [c]; rfl)) fun c => ?_
          rw [c] at h1 h2
          simp only [cond_false] at h1 h2
          rw [iLe_not, hNe] at c
          rw [bools_len, hl, bools_get (by omega)]
          refine ⟨by omega, cnd (fun c => h1 (by rw [c]; rfl)) fun c => ⟨by omega, trivial, ?_⟩⟩
          rw [bools_set]
          exact h2 _ (by rw [c]; rfl)
        obtain ⟨u, rfl⟩ : ∃ u, p = u + 3 := ⟨p - 3, by omega⟩
        refine one (u + 2) nm 0 (D.fld (cAs b k) 0) hlen (by omega) rfl (fun e => hf ?_) (fun e1 e => ?_) fun e1 nm' e => ?_
        · rw [show iLt (k : Int) (cL (cAs b k)) = false from e]; rfl
        · refine hf ?_
          rw [show iLt (k : Int) (cL (cAs b k)) = true from e1, show nameS (D.len (cs b)) nm (cL (cAs b k)) = none from e]
          cases iLt (k : Int) (cR (cAs b k)) <;> rfl
        · have hl' : nm'.length = N := by rw [nameS_len e]; exact hlen
          rw [show iLt (k : Int) (cL (cAs b k)) = true from e1, Bool.true_and, show nameS (D.len (cs b)) nm (cL (cAs b k)) = some nm' from e] at hf hg
          refine one (u + 1) nm' 1 (D.fld (cAs b k) 1) hl' (by omega) rfl (fun e2 => hf ?_) (fun e2 e3 => hf ?_) fun e2 nm2 e3 => ?_
          · rw [show iLt (k : Int) (cR (cAs b k)) = false from e2]; rfl
          · rw [show iLt (k : Int) (cR (cAs b k)) = true from e2]
            exact e3
          · rw [L52_13_eq]
            simp only [i_int]
            refine cLt (fun c => by omega) fun _ => ?_
            rw [hw]
            refine hg nm2 ?_
            rw [show iLt (k : Int) (cR (cAs b k)) = true from e2]
            exact e3
  · rw [L52_5_eq]
    simp only [i_int]
    refine cLt (fun c => by omega) fun _ => ?_
    have hl := iter_len hnm
    rw [bools_len, hl]
    refine ⟨⟨by omega, by omega, by omega⟩, ?_⟩
    rw [bools_drop nm hl, bools_len, List.length_drop, hl]
    rw [hnm] at h
    unfold allN at h
    simp only at h
    rw [hl] at h
    refine all_loop (L := fun m0 k => L52_21 p m0 (bools (nm.drop 1)) (.int ((N - 1 : Nat) : Int)) k Q) (bad := fun k => !nm.getD (k + 1) false) (N := N - 1) (F := Q [.bool false]) (by omega) (fun m1 k hk hw hb hg => ?_) (fun hb => by rw [hb] at h; exact h) (fun hg m1 => ?_) p 0 (by omega) (by omega) (by omega)
    · rw [L52_21_eq]
      simp only [i_int]
      rw [hw, bools_len, List.length_drop]
      have e : D.b (D.el (bools (nm.drop 1)) (k : Int)) = nm.getD (k + 1) false := by
        have : D.b (D.el (bools (nm.drop 1)) (k : Int)) = (nm.drop 1).getD k false := bools_get (by rw [List.length_drop]; omega)
        rw [this]
        simp [List.getD, Nat.add_comm]
      rw [e]
      exact cLt (fun _ => ⟨by omega, cnd (fun c => hb c) fun c => hg c⟩) fun c => by omega
    · rw [L52_21_eq]
      simp only [i_int]
      refine cLt (fun c => by omega) fun _ => ?_
      rw [hg] at h
      exact h

def casesS (b : D) (s : Int) (k : Nat) : Int := cond (iEq (cL (cAs b k)) (-1)) (s + 1) s
def casesN (b : D) : Int := iter (casesS b) 0 (D.len (cs b)).toNat
theorem cases_rng (b : D) : ∀ k : Nat, 0 ≤ iter (casesS b) 0 k ∧ iter (casesS b) 0 k ≤ k := by
  intro k
  induction k with
  | zero => simp [iter]
  | succ k ih =>
    simp only [iter]
    generalize iter (casesS b) 0 k = s at ih
    unfold casesS
    cases iEq (cL (cAs b k)) (-1)
    · simp only [cond_false]; omega
    · simp only [cond_true]; omega

theorem cases_wp {b : D} (hl : D.len (cs b) ≤ 1100000) (hn : 1100100 ≤ n) (h : Q [.int (casesN b)]) : wpF Try.prog A n 55 [b] Q := by
  obtain ⟨p, rfl⟩ : ∃ p, n = p + 1 := ⟨n - 1, by omega⟩
  rw [E55]
  have hN0 := ln0 (cs b)
  obtain ⟨N, hNe⟩ : ∃ N : Nat, D.len (cs b) = N := ⟨(D.len (cs b)).toNat, by omega⟩
  have hN' : (D.len (cs b)).toNat = N := by omega
  unfold casesN at h
  rw [hN'] at h
  show L55_3 p p (.int 0) (cs b) (.int (D.len (cs b))) (.int 0) Q
  rw [hNe]
  refine fold_loop (L := fun m0 k s => L55_3 p m0 (.int s) (cs b) (.int (N : Int)) k Q) (step := casesS b) (s0 := 0) (N := N) (by omega) (fun m0 k hk hw hg => ?_) (fun m0 => ?_) p 0 (by omega) (by omega)
  · rw [L55_3_eq]
    simp only [i_int]
    rw [hw]
    refine cLt (fun _ => ⟨by omega, trivial, leafQ_wp (by omega) ?_⟩) fun c => by omega
    have hr := cases_rng b k
    simp only [iter] at hg
    revert hg hr
    generalize iter (casesS b) 0 k = s
    intro hg hr
    unfold casesS at hg
    rw [rs0, b_bool, wrap_id (by omega) (by omega)]
    exact cnd (fun c => by rw [show iEq (cL (cAs b k)) (-1) = true from c] at hg; exact hg) fun c => by rw [show iEq (cL (cAs b k)) (-1) = false from c] at hg; exact hg
  · rw [L55_3_eq]
    simp only [i_int]
    exact cLt (fun c => by omega) fun _ => h

theorem cases'_wp {b : D} (hl : D.len (cs b) ≤ 1100000) (hn : 1100100 ≤ n) (h : Q [.int (casesN b)]) : wpF Try.prog A n 56 [b] Q := by
  obtain ⟨p, rfl⟩ : ∃ p, n = p + 1 := ⟨n - 1, by omega⟩
  rw [E56]
  have hN0 := ln0 (cs b)
  obtain ⟨N, hNe⟩ : ∃ N : Nat, D.len (cs b) = N := ⟨(D.len (cs b)).toNat, by omega⟩
  have hN' : (D.len (cs b)).toNat = N := by omega
  unfold casesN at h
  rw [hN'] at h
  show L56_3 p p (.int 0) (cs b) (.int (D.len (cs b))) (.int 0) Q
  rw [hNe]
  refine fold_loop (L := fun m0 k s => L56_3 p m0 (.int s) (cs b) (.int (N : Int)) k Q) (step := casesS b) (s0 := 0) (N := N) (by omega) (fun m0 k hk hw hg => ?_) (fun m0 => ?_) p 0 (by omega) (by omega)
  · rw [L56_3_eq]
    simp only [i_int]
    rw [hw]
    refine cLt (fun _ => ⟨by omega, trivial, ?_⟩) fun c => by omega
    have hr := cases_rng b k
    simp only [iter] at hg
    revert hg hr
    generalize iter (casesS b) 0 k = s
    intro hg hr
    unfold casesS at hg
    rw [wrap_id (by omega) (by omega)]
    exact cnd (fun c => by rw [show iEq (cL (cAs b k)) (-1) = true from c] at hg; exact hg) fun c => by rw [show iEq (cL (cAs b k)) (-1) = false from c] at hg; exact hg
  · rw [L56_3_eq]
    simp only [i_int]
    exact cLt (fun c => by omega) fun _ => h
end
end Go.Ab

/- Bounds: both sides of a split, the rows above each case: both answers are one. -/
namespace Go.Ab
open Go.Proofs
attribute [local irreducible] wpF

def negE (l : D) (k : Nat) : D := .agg [D.fld (D.el l k) 0, .int (IntKind.wrap .i64 (0 - tco l k))]
def negS (l : D) (s : List D) (k : Nat) : List D := s ++ [negE l k]
def negL (l : D) (k : Nat) : List D := iter (negS l) [] k
def sideL (c : D) : D := .agg [D.fld c 2, D.fld c 3]
def sideR (c : D) : D := .agg [.slc (negL (D.fld c 2) (D.len (D.fld c 2)).toNat), .int (IntKind.wrap .i64 (IntKind.wrap .i64 (0 - cAt c) - 1))]
theorem neg_len (l : D) : ∀ k, (negL l k).length = k := by
  intro k
  induction k with
  | zero => rfl
  | succ k ih =>
    have e : negL l (k + 1) = negS l (negL l k) k := rfl
    rw [e, negS, List.length_append, ih]; rfl
theorem neg_get (l : D) : ∀ k j, j < k → (negL l k).getD j .und = negE l j := by
  intro k
  induction k with
  | zero => intro j h; omega
  | succ k ih =>
    intro j h
    have e : negL l (k + 1) = negS l (negL l k) k := rfl
    rw [e, negS]
    by_cases hj : j = k
    · subst hj
      have := neg_len l j
      simp [List.getD, List.getElem?_append_right, this]
    · have hl := neg_len l k
      have := ih j (by omega)
      simp only [List.getD] at this ⊢
      rw [List.getElem?_append_left (by omega)]
      exact this

/-- Rows above each case. -/
def aS (b : D) (A : List (List D)) (k : Nat) : List (List D) :=
  cond (iEq (cL (cAs b k)) (-1)) A ((A.set (cL (cAs b k)).toNat (A.getD k [] ++ [sideL (cAs b k)])).set (cR (cAs b k)).toNat (A.getD k [] ++ [sideR (cAs b k)]))
def abv (b : D) (k : Nat) : List (List D) := iter (aS b) (List.replicate (D.len (cs b)).toNat []) k
def rowsD (A : List (List D)) : D := .slc (A.map .slc)
theorem abv_len (b : D) : ∀ k, (abv b k).length = (D.len (cs b)).toNat := by
  intro k
  induction k with
  | zero => simp [abv, iter]
  | succ k ih =>
    have e : abv b (k + 1) = aS b (abv b k) k := rfl
    rw [e, aS]
    cases iEq (cL (cAs b k)) (-1)
    · simp only [cond_false, List.length_set]; exact ih
    · exact ih
theorem getD_set_ne' {α : Type} {l : List α} {i j : Nat} {x d : α} (h : i ≠ j) : (l.set i x).getD j d = l.getD j d := by
  simp [List.getD, List.getElem?_set, h]
theorem getD_set_eq' {α : Type} {l : List α} {i : Nat} {x d : α} (h : i < l.length) : (l.set i x).getD i d = x := by
  simp [List.getD, h]
theorem abv_short (b : D) : ∀ k j, ((abv b k).getD j []).length ≤ k := by
  intro k
  induction k with
  | zero =>
    intro j
    simp only [abv, iter, List.getD]
    rw [List.getElem?_replicate]
    split <;> simp
  | succ k ih =>
    intro j
    have e : abv b (k + 1) = aS b (abv b k) k := rfl
    rw [e, aS]
    cases iEq (cL (cAs b k)) (-1) with
    | true => have := ih j; simp only [cond_true]; omega
    | false =>
      simp only [cond_false]
      have hk := ih k
      have hj := ih j
      have key : ∀ (B : List (List D)) (i : Nat) (x : List D), x.length ≤ k + 1 → (B.getD j []).length ≤ k + 1 → ((B.set i x).getD j []).length ≤ k + 1 := fun B i x hx hB => by
        by_cases e : i = j
        · subst e
          by_cases hi : i < B.length
          · rw [getD_set_eq' hi]; exact hx
          · rw [List.set_eq_of_length_le (by omega)]; exact hB
        · rw [getD_set_ne' e]; exact hB
      exact key _ _ _ (by rw [List.length_append, List.length_singleton]; omega) (key _ _ _ (by rw [List.length_append, List.length_singleton]; omega) (by omega))

theorem iterO_some {S : Type} {step : S → Nat → Option S} {s t : S} {N : Nat} (h : iterO step s N = some t) : ∀ k, k < N → ∃ u v, iterO step s k = some u ∧ step u k = some v := by
  intro k hk
  cases h1 : iterO step s k with
  | none => rw [iterO_none h1 N (by omega)] at h; cases h
  | some u =>
    cases h2 : step u k with
    | some v => exact ⟨u, v, rfl, h2⟩
    | none =>
      have : iterO step s (k + 1) = none := by simp only [iterO]; rw [h1]; exact h2
      rw [iterO_none this N (by omega)] at h; cases h

/-- What a valid bound's case is. -/
theorem bnd_case {m b : D} (h : bndB m b = true) {k : Nat} (hk : (k : Int) < D.len (cs b)) :
    (iEq (cL (cAs b k)) (-1) = true ∧ leafB (cAs b k) = true) ∨ (iEq (cL (cAs b k)) (-1) = false ∧ splitB m (cAs b k) k = true ∧ cL (cAs b k) < D.len (cs b) ∧ cR (cAs b k) < D.len (cs b)) := by
  unfold bndB at h
  rw [Bool.and_eq_true] at h
  cases hn : namesO m b with
  | none => rw [hn] at h; cases h.2
  | some nm =>
    have hl := ln0 (cs b)
    obtain ⟨u, v, _, hs⟩ := iterO_some hn k (by omega)
    cases hc : iEq (cL (cAs b k)) (-1) with
    | true =>
      left
      rw [vS_leaf hc] at hs
      cases hb : leafB (cAs b k) with
      | true => exact ⟨rfl, rfl⟩
      | false => rw [hb] at hs; cases hs
    | false =>
      right
      rw [vS_split hc] at hs
      cases hb : splitB m (cAs b k) k with
      | false => rw [hb] at hs; cases hs
      | true =>
        rw [hb] at hs
        simp only [cond_true, Option.bind_eq_some_iff] at hs
        obtain ⟨nm1, h1, h2⟩ := hs
        have key : ∀ {nm nm' : List Bool} {z : Int}, nameS (D.len (cs b)) nm z = some nm' → z < D.len (cs b) := fun {nm nm' z} h => by
          unfold nameS at h
          cases hz : iLe (D.len (cs b)) z with
          | true => rw [hz] at h; cases h
          | false => rw [iLe_not] at hz; omega
        exact ⟨rfl, rfl, key h1, key h2⟩
theorem bnd_len {m b : D} (h : bndB m b = true) : 1 ≤ D.len (cs b) ∧ D.len (cs b) ≤ 1000 := by
  unfold bndB at h
  simp only [Bool.and_eq_true, iLe_iff] at h
  exact h.1

section
variable {n : Nat} {Q : List D → Prop}

theorem split_wp {c : D} (hl : D.len (D.fld c 2) ≤ 1100000) (hn : 1100100 ≤ n) (h : Q [sideL c, sideR c]) : wpF Try.prog A n 121 [c] Q := by
  obtain ⟨p, rfl⟩ : ∃ p, n = p + 1 := ⟨n - 1, by omega⟩
  rw [E121]
  have hl0 := ln0 (D.fld c 2)
  unfold sideR cAt at h
  obtain ⟨N, hN⟩ : ∃ N : Nat, D.len (D.fld c 2) = N := ⟨(D.len (D.fld c 2)).toNat, by omega⟩
  have hN' : (D.len (D.fld c 2)).toNat = N := by omega
  rw [hN'] at h
  rw [hN]
  refine ⟨trivial, trivial, ?_⟩
  refine fold_loop (L := fun m0 k s => L121_4 p m0 (D.fld c 2) (.int (N : Int)) k (sideL c) (.agg [.slc s, .int (IntKind.wrap .i64 (IntKind.wrap .i64 (0 - D.i (D.fld c 3)) - 1))]) Q) (step := negS (D.fld c 2)) (s0 := []) (N := N) (by omega) (fun m0 k hk hw hg => ?_) (fun m0 => ?_) p 0 (by omega) (by omega)
  · rw [L121_4_eq]
    simp only [i_int, fld0, fldS, xs_slc]
    rw [hw]
    have hlen : (iter (negS (D.fld c 2)) [] k).length = k := neg_len _ k
    refine cLt (fun _ => ⟨by omega, trivial, ?_, trivial, ?_⟩) fun c => by omega
    · unfold room; rw [hlen]; simp only [List.length_singleton]; omega
    · exact hg
  · rw [L121_4_eq]
    simp only [i_int]
    exact cLt (fun c => by omega) fun _ => ⟨trivial, trivial, h⟩

theorem sides_wp {c : D} (hl : D.len (D.fld c 2) ≤ 1100000) (hn : 1100100 ≤ n) (h : Q [sideL c, sideR c]) : wpF Try.prog A n 64 [D.fld c 2, D.fld c 3] Q := by
  obtain ⟨p, rfl⟩ : ∃ p, n = p + 1 := ⟨n - 1, by omega⟩
  rw [E64]
  have hl0 := ln0 (D.fld c 2)
  unfold sideR cAt at h
  obtain ⟨N, hN⟩ : ∃ N : Nat, D.len (D.fld c 2) = N := ⟨(D.len (D.fld c 2)).toNat, by omega⟩
  have hN' : (D.len (D.fld c 2)).toNat = N := by omega
  rw [hN'] at h
  rw [hN]
  refine fold_loop (L := fun m0 k s => L64_3 p m0 (D.fld c 2) (D.fld c 3) (D.fld c 2) (.int (N : Int)) k _ _ (.slc s) Q) (step := negS (D.fld c 2)) (s0 := []) (N := N) (by omega) (fun m0 k hk hw hg => ?_) (fun m0 => ?_) p 0 (by omega) (by omega)
  · rw [L64_3_eq]
    simp only [i_int, xs_slc]
    rw [hw]
    have hlen : (iter (negS (D.fld c 2)) [] k).length = k := neg_len _ k
    refine cLt (fun _ => ⟨by omega, trivial, ?_, ?_⟩) fun c => by omega
    · unfold room; rw [hlen]; simp only [List.length_singleton]; omega
    · exact hg
  · rw [L64_3_eq]
    simp only [i_int]
    exact cLt (fun c => by omega) fun _ => ⟨trivial, trivial, h⟩

theorem cloneR_wp (hn : 1 ≤ n) {l : List D} (hl : l.length ≤ 1000000) (h : Q [.slc l]) : wpF Try.prog A n 122 [.slc l] Q := by
  obtain ⟨m, rfl⟩ : ∃ m, n = m + 1 := ⟨n - 1, by omega⟩
  rw [E122]
  intro b hb
  refine cnd (fun c => ?_) fun c => ⟨?_, ?_⟩
  · have h0 := hb c
    simp only [len_slc] at h0
    have : l = [] := List.length_eq_zero_iff.mp (by omega)
    subst this
    exact h
  · unfold room
    simp only [xs_slc, List.length_nil]
    omega
  · exact h

theorem rowsD_get {A : List (List D)} {k : Nat} (h : k < A.length) : List.getD (D.xs (rowsD A)) k D.und = .slc (A.getD k []) := by
  simp [rowsD, D.xs, List.getD, h]
theorem rowsD_set (A : List (List D)) (k : Nat) (x : List D) : D.slc (List.set (D.xs (rowsD A)) k (.slc x)) = rowsD (A.set k x) := by
  simp [rowsD, D.xs, List.map_set]
theorem rowsD_len (A : List (List D)) : D.len (rowsD A) = A.length := by simp [rowsD, D.len, D.xs]

theorem above_wp {m b : D} (hb : Bo b) (hv : bndB m b = true) (hn : 1100300 ≤ n) (h : Q [rowsD (abv b (D.len (cs b)).toNat)]) : wpF Try.prog A n 97 [b] Q := by
  obtain ⟨p, rfl⟩ : ∃ p, n = p + 1 := ⟨n - 1, by omega⟩
  rw [E97]
  have hN := bnd_len hv
  obtain ⟨N, hNe⟩ : ∃ N : Nat, D.len (cs b) = N := ⟨(D.len (cs b)).toNat, by omega⟩
  have hN' : (D.len (cs b)).toNat = N := by omega
  rw [hN'] at h
  show (0 ≤ D.len (cs b) ∧ D.len (cs b) ≤ D.len (cs b) ∧ room (D.len (cs b)) 24) ∧ L97_3 p p (cs b) (.int (D.len (cs b))) (.int 0) (.slc (List.replicate (Int.toNat (D.len (cs b))) (.slc []))) Q
  refine ⟨⟨by omega, by omega, by unfold room; omega⟩, ?_⟩
  have e0 : D.slc (List.replicate (Int.toNat (D.len (cs b))) (D.slc ([] : List D))) = rowsD (List.replicate (D.len (cs b)).toNat []) := by simp [rowsD]
  rw [e0, hNe, toNat_nat]
  unfold abv at h
  rw [hN'] at h
  refine fold_loop (L := fun m0 k s => L97_3 p m0 (cs b) (.int (N : Int)) k (rowsD s) Q) (step := aS b) (s0 := List.replicate N []) (N := N) (by omega) (fun m0 k hk hw hg => ?_) (fun m0 => ?_) p 0 (by omega) (by omega)
  · rw [L97_3_eq]
    simp only [i_int]
    rw [hw]
    refine cLt (fun _ => ⟨by omega, trivial, leafQ_wp (by omega) ?_⟩) fun c => by omega
    have hs := abv_short b k k
    have hl := abv_len b k
    unfold abv at hs hl
    rw [hN'] at hs hl
    simp only [iter] at hg
    revert hg hs hl
    generalize iter (aS b) (List.replicate N []) k = A0
    intro hg hs hl
    unfold aS at hg
    rw [rs0, b_bool]
    refine cnd (fun c => by rw [show iEq (cL (cAs b k)) (-1) = true from c] at hg; exact hg) fun c => ?_
    rw [show iEq (cL (cAs b k)) (-1) = false from c, cond_false] at hg
    rcases bnd_case hv (show (k : Int) < D.len (cs b) by omega) with ⟨c2, _⟩ | ⟨_, c3, c4, c5⟩
    · rw [show iEq (cL (cAs b k)) (-1) = false from c] at c2; cases c2
    · have hgt := split_gt c3
      refine split_wp (hb.form k (by omega)) (by omega) ?_
      simp only [rs0, rsS, toNat_nat]
      rw [rowsD_len, hl, rowsD_get (by omega)]
      refine ⟨trivial, trivial, by omega, cloneR_wp (by omega) (by omega) ?_⟩
      simp only [rs0, xs_slc]
      refine ⟨by unfold room; simp only [List.length_singleton]; omega, by omega, cloneR_wp (by omega) (by omega) ?_⟩
      simp only [rs0, xs_slc]
      have g1 : D.i (D.fld (D.el (cs b) (k : Int)) 0) = cL (cAs b k) := rfl
      have g2 : D.i (D.fld (D.el (cs b) (k : Int)) 1) = cR (cAs b k) := rfl
      rw [g1, g2, rowsD_set, rowsD_len, List.length_set, hl]
      refine ⟨by unfold room; simp only [List.length_singleton]; omega, by omega, trivial, by omega, trivial, ?_⟩
      have e2 : ∀ (B : List (List D)) (i j : Nat) (x y : List D), D.slc (List.set (List.set (D.xs (rowsD B)) i (.slc x)) j (.slc y)) = rowsD ((B.set i x).set j y) := fun B i j x y => by
        simp [rowsD, D.xs, List.map_set]
      rw [e2]
      exact hg
  · rw [L97_3_eq]
    simp only [i_int]
    exact cLt (fun c => by omega) fun _ => h
end
end Go.Ab

/- Leaves: what they prove, as plain sums. -/
namespace Go.Ab
open Go.Proofs
attribute [local irreducible] wpF

/-- A row that is right. -/
structure RowOk (cols : Int) (x : D) : Prop where
  terms : termsB (D.fld x 0) cols 1048576 = true
  lo : -1048576 ≤ D.i (D.fld x 1)
  hi : D.i (D.fld x 1) ≤ 1048576
  len : D.len (D.fld x 0) ≤ 1100000

def rowAt (m : D) (ab : List D) (k : Int) : D := cond (iLt k (D.len (D.fld m 1))) (D.el (D.fld m 1) k) (D.el (.slc ab) (k - D.len (D.fld m 1)))
def inRow (x : D) (c : Int) (s : List Int) (t : Nat) : List Int := s.set (tof (D.fld x 0) t).toNat (IntKind.wrap .i64 (s.getD (tof (D.fld x 0) t).toNat 0 + IntKind.wrap .i64 (c * tco (D.fld x 0) t)))
def rowS (x : D) (c : Int) (s : List Int) : List Int := iter (inRow x c) s (D.len (D.fld x 0)).toNat
def mulS (m : D) (ab : List D) (l : D) (S : List Int × Int) (k : Nat) : List Int × Int :=
  (rowS (rowAt m ab (tof l k)) (tco l k) S.1, IntKind.wrap .i64 (S.2 + IntKind.wrap .i64 (tco l k * D.i (D.fld (rowAt m ab (tof l k)) 1))))
def sumS34 (m : D) (ab : List D) (l : D) (k : Nat) : List Int × Int := iter (mulS m ab l) (List.replicate (D.i (D.fld m 0)).toNat 0, 0) k
def outB (m : D) (ab : List D) (l : D) : Bool := anyB (fun k => iLe (D.len (D.fld m 1) + ab.length) (tof l k)) (D.len l).toNat
def coefUp (l : D) (i : Int) (k : Nat) : Int := iter (fun c t => cond (iEq (tof l (t : Nat)) i) (tco l (t : Nat)) c) 0 k
def coefOf (l : D) (i : Int) : Int := coefUp l i (D.len l).toNat
def goalS (m : D) (den : Int) (s : List Int) (t : Nat) : List Int := s.set (tof (D.fld m 2) t).toNat (IntKind.wrap .i64 (s.getD (tof (D.fld m 2) t).toNat 0 - IntKind.wrap .i64 (den * tco (D.fld m 2) t)))
def flo (r den : Int) : Int := cond (iLt (Int.tmod r den) 0) (IntKind.wrap .i64 (IntKind.wrap .i64 (Int.tdiv r den) - 1)) (IntKind.wrap .i64 (Int.tdiv r den))
/-- Is a column short? -/
def shortB (m : D) (den : Int) (s : List Int) : Bool := anyB (fun i => iLt (s.getD i 0) (den * coefOf (D.fld m 2) i)) (D.i (D.fld m 0)).toNat
def leafV (m : D) (ab : List D) (c : D) : Int × (Bool × Bool) :=
  cond (outB m ab (D.fld c 4)) (0, false, false)
    (cond (shortB m (cDen c) (sumS34 m ab (D.fld c 4) (D.len (D.fld c 4)).toNat).1) (0, false, false)
      (cond (iLt 0 (cDen c)) (IntKind.wrap .i64 (D.i (D.fld m 3) + flo (sumS34 m ab (D.fld c 4) (D.len (D.fld c 4)).toNat).2 (cDen c)), true, false)
        (cond (iLt (sumS34 m ab (D.fld c 4) (D.len (D.fld c 4)).toNat).2 0) (0, true, true) (0, false, false))))

theorem badT_facts {l : D} {cols M : Int} {k : Nat} (h : badT l cols M k = false) : 0 ≤ tof l k ∧ tof l k < cols ∧ (0 < k → tof l ((k : Int) - 1) < tof l k) ∧ -M ≤ tco l k ∧ tco l k ≤ M ∧ tco l k ≠ 0 := by
  simp only [badT, wi34, Bool.or_eq_false_iff, iLt_not, iLe_not, iEq_not, Bool.and_eq_false_iff, Bool.not_eq_false', Bool.and_eq_true, iLe_iff] at h
  obtain ⟨h1, h2, h3, h4, h5⟩ := h
  exact ⟨by omega, by omega, fun hk => by omega, h5.1, h5.2, h4⟩
theorem terms_at {l : D} {cols M : Int} (h : termsB l cols M = true) {k : Nat} (hk : (k : Int) < D.len l) : badT l cols M k = false := by
  unfold termsB at h
  have hl := ln0 l
  exact anyB_all (by simpa using h) (by omega)
theorem terms_inc {l : D} {cols M : Int} (h : termsB l cols M = true) : ∀ {u t : Nat}, t < u → (u : Int) < D.len l → tof l t < tof l u := by
  intro u
  induction u with
  | zero => intro t h; omega
  | succ u ih =>
    intro t ht hu
    have h1 := (badT_facts (terms_at h hu)).2.2.1 (by omega)
    rw [show (((u + 1 : Nat) : Int) - 1) = (u : Int) by omega] at h1
    by_cases e : t = u
    · subst e; exact h1
    · have := ih (show t < u by omega) (by omega)
      omega
theorem badM_facts {l : D} {k : Nat} (h : badM l k = false) : 0 ≤ tof l k ∧ (0 < k → tof l ((k : Int) - 1) < tof l k) ∧ 1 ≤ tco l k ∧ tco l k ≤ 1073741824 := by
  simp only [badM, Bool.or_eq_false_iff, iLt_not, iLe_not, Bool.and_eq_false_iff] at h
  obtain ⟨h1, h2, h3, h4⟩ := h
  exact ⟨by omega, fun hk => by omega, by omega, by omega⟩
theorem mul_at {l : D} (h : mulB l = true) {k : Nat} (hk : (k : Int) < D.len l) : badM l k = false := by
  unfold mulB at h
  have hl := ln0 l
  exact anyB_all (by simpa using h) (by omega)
theorem mul_ge {l : D} (h : mulB l = true) : ∀ {k : Nat}, (k : Int) < D.len l → (k : Int) ≤ tof l k := by
  intro k
  induction k with
  | zero => intro hk; exact (badM_facts (mul_at h hk)).1
  | succ k ih =>
    intro hk
    have h1 := (badM_facts (mul_at h hk)).2.1 (by omega)
    rw [show (((k + 1 : Nat) : Int) - 1) = (k : Int) by omega] at h1
    have := ih (by omega)
    omega
theorem out_at {m : D} {ab : List D} {l : D} (h : outB m ab l = false) {k : Nat} (hk : (k : Int) < D.len l) : tof l k < D.len (D.fld m 1) + ab.length := by
  have hl := ln0 l
  have := anyB_all h (show k < (D.len l).toNat by omega)
  rw [iLe_not] at this
  omega

def Bd (s : List Int) (B : Int) : Prop := ∀ i : Nat, -B ≤ s.getD i 0 ∧ s.getD i 0 ≤ B
theorem mul_bd {a b : Int} (h1 : 1 ≤ a) (h2 : a ≤ 1073741824) (h3 : -1048576 ≤ b) (h4 : b ≤ 1048576) : -1125899906842624 ≤ a * b ∧ a * b ≤ 1125899906842624 := by
  have e1 : a * b ≤ a * 1048576 := Int.mul_le_mul_of_nonneg_left h4 (by omega)
  have e2 : a * (-1048576) ≤ a * b := Int.mul_le_mul_of_nonneg_left h3 (by omega)
  omega

theorem set_get {s : List Int} {i j : Nat} {x : Int} : (s.set i x).getD j 0 = if i = j ∧ i < s.length then x else s.getD j 0 := by
  by_cases h : i = j
  · subst h
    by_cases hi : i < s.length
    · rw [if_pos ⟨rfl, hi⟩]; simp [List.getD, hi]
    · rw [if_neg (by omega), List.set_eq_of_length_le (by omega)]
  · rw [if_neg (by omega)]
    simp [List.getD, List.getElem?_set, h]

theorem row_len (x : D) (c : Int) (s : List Int) : ∀ k, (iter (inRow x c) s k).length = s.length := by
  intro k
  induction k with
  | zero => rfl
  | succ k ih => simp only [iter, inRow, List.length_set]; exact ih

theorem row_bd {cols : Int} {x : D} (hx : RowOk cols x) {c : Int} (hc : 1 ≤ c) (hc2 : c ≤ 1073741824) {s : List Int} {B : Int} (hs : Bd s B) (hB : 0 ≤ B) (hB2 : B ≤ 4000000000000000000) : Bd (rowS x c s) (B + 1125899906842624) := by
  have hl0 := ln0 (D.fld x 0)
  have key : ∀ k : Nat, (k : Int) ≤ D.len (D.fld x 0) → (Bd (iter (inRow x c) s k) (B + 1125899906842624) ∧ ∀ j : Nat, k ≤ j → (j : Int) < D.len (D.fld x 0) → -B ≤ (iter (inRow x c) s k).getD (tof (D.fld x 0) j).toNat 0 ∧ (iter (inRow x c) s k).getD (tof (D.fld x 0) j).toNat 0 ≤ B) := by
    intro k
    induction k with
    | zero =>
      intro _
      exact ⟨fun i => by have := hs i; show _ ≤ s.getD i 0 ∧ s.getD i 0 ≤ _; exact ⟨by omega, by omega⟩, fun j _ _ => hs _⟩
    | succ k ih =>
      intro hk
      obtain ⟨i1, i2⟩ := ih (by omega)
      simp only [iter]
      generalize iter (inRow x c) s k = z at i1 i2
      have f := badT_facts (terms_at hx.terms (show (k : Int) < D.len (D.fld x 0) by omega))
      have hm := mul_bd hc hc2 f.2.2.2.1 f.2.2.2.2.1
      have ho := i2 k (Nat.le_refl _) (by omega)
      unfold inRow
      rw [wrap_id (show -9223372036854775808 ≤ c * tco (D.fld x 0) k by omega) (by omega), wrap_id (by omega) (by omega)]
      refine ⟨fun i => ?_, fun j hj hj2 => ?_⟩
      · rw [set_get]
        split
        · omega
        · exact i1 i
      · have hlt := terms_inc hx.terms (show k < j by omega) hj2
        rw [set_get, if_neg (by omega)]
        exact i2 j (by omega) hj2
  exact (key (D.len (D.fld x 0)).toNat (by omega)).1

theorem rowAt_ok {m : D} {ab : List D} {cols : Int} (hm : ∀ k : Nat, (k : Int) < D.len (D.fld m 1) → RowOk cols (D.el (D.fld m 1) k)) (ha : ∀ x ∈ ab, RowOk cols x) {k : Int} (h0 : 0 ≤ k) (h1 : k < D.len (D.fld m 1) + ab.length) : RowOk cols (rowAt m ab k) := by
  unfold rowAt
  cases hc : iLt k (D.len (D.fld m 1)) with
  | true =>
    rw [iLt_iff] at hc
    obtain ⟨j, rfl⟩ : ∃ j : Nat, k = j := ⟨k.toNat, by omega⟩
    exact hm j hc
  | false =>
    rw [iLt_not] at hc
    obtain ⟨j, hj⟩ : ∃ j : Nat, k - D.len (D.fld m 1) = j := ⟨(k - D.len (D.fld m 1)).toNat, by omega⟩
    rw [cond_false, hj]
    show RowOk cols (ab.getD j .und)
    exact ha _ (getD_mem (d := .und) (show j < ab.length by omega))

theorem sum_len (m : D) (ab : List D) (l : D) : ∀ k, (sumS34 m ab l k).1.length = (D.i (D.fld m 0)).toNat := by
  intro k
  induction k with
  | zero => simp [sumS34, iter]
  | succ k ih =>
    have e : sumS34 m ab l (k + 1) = mulS m ab l (sumS34 m ab l k) k := rfl
    rw [e]
    show (iter (inRow _ _) _ _).length = _
    rw [row_len]
    exact ih

theorem sum_bd {m : D} {ab : List D} {l : D} {cols : Int} (hm : ∀ k : Nat, (k : Int) < D.len (D.fld m 1) → RowOk cols (D.el (D.fld m 1) k)) (ha : ∀ x ∈ ab, RowOk cols x) (hl : mulB l = true) (ho : outB m ab l = false) (ht : D.len (D.fld m 1) + ab.length ≤ 400) :
    ∀ k : Nat, (k : Int) ≤ D.len l → Bd (sumS34 m ab l k).1 (k * 1125899906842624) := by
  intro k
  induction k with
  | zero =>
    intro _ i
    have : (sumS34 m ab l 0).1.getD i 0 = 0 := by
      simp only [sumS34, iter, List.getD, List.getElem?_replicate]
      split <;> rfl
    rw [this]
    simp
  | succ k ih =>
    intro hk
    have hk' : (k : Int) < D.len l := by omega
    have f := badM_facts (mul_at hl hk')
    have g := out_at ho hk'
    have hg := mul_ge hl hk'
    have e : sumS34 m ab l (k + 1) = mulS m ab l (sumS34 m ab l k) k := rfl
    rw [e]
    have hr := rowAt_ok hm ha f.1 g
    have := row_bd hr f.2.2.1 f.2.2.2 (ih (by omega)) (by omega) (by omega)
    intro i
    have h2 := this i
    have e2 : ((k + 1 : Nat) : Int) * 1125899906842624 = (k : Int) * 1125899906842624 + 1125899906842624 := by omega
    rw [e2]
    exact h2

theorem coef_none {l : D} {i : Int} : ∀ k : Nat, (∀ t : Nat, t < k → tof l t ≠ i) → coefUp l i k = 0 := by
  intro k
  induction k with
  | zero => intro _; rfl
  | succ k ih =>
    intro h
    have e : coefUp l i (k + 1) = cond (iEq (tof l (k : Nat)) i) (tco l (k : Nat)) (coefUp l i k) := rfl
    rw [e, iEq_not.mpr (h k (by omega)), cond_false]
    exact ih fun t ht => h t (by omega)
theorem coef_hit {l : D} {cols M : Int} (h : termsB l cols M = true) {t : Nat} : ∀ k : Nat, (k : Int) ≤ D.len l → t < k → coefUp l (tof l t) k = tco l t := by
  intro k
  induction k with
  | zero => intro _ ht; omega
  | succ k ih =>
    intro hk ht
    have e : coefUp l (tof l t) (k + 1) = cond (iEq (tof l (k : Nat)) (tof l t)) (tco l (k : Nat)) (coefUp l (tof l t) k) := rfl
    rw [e]
    by_cases htk : t = k
    · subst htk
      rw [iEq_iff.mpr rfl]; rfl
    · have := terms_inc h (show t < k by omega) (by omega)
      rw [iEq_not.mpr (by omega), cond_false]
      exact ih (by omega) (by omega)

theorem goal_len (m : D) (den : Int) (s : List Int) : ∀ k, (iter (goalS m den) s k).length = s.length := by
  intro k
  induction k with
  | zero => rfl
  | succ k ih => simp only [iter, goalS, List.length_set]; exact ih

/-- The goal is taken away. -/
theorem goal_get {m : D} {cols den : Int} (h : termsB (D.fld m 2) cols 16777216 = true) (hd : 0 ≤ den) (hd2 : den ≤ 1024) {s : List Int} (hs : (s.length : Int) = cols) (hb : Bd s 450359962737049600) :
    ∀ k : Nat, (k : Int) ≤ D.len (D.fld m 2) → ∀ i : Nat, (iter (goalS m den) s k).getD i 0 = s.getD i 0 - den * coefUp (D.fld m 2) i k ∧ -450359979916918784 ≤ (iter (goalS m den) s k).getD i 0 ∧ (iter (goalS m den) s k).getD i 0 ≤ 450359979916918784 := by
  intro k
  induction k with
  | zero =>
    intro _ i
    have := hb i
    refine ⟨?_, ?_, ?_⟩
    · show s.getD i 0 = s.getD i 0 - den * 0
      omega
    · show _ ≤ s.getD i 0
      omega
    · show s.getD i 0 ≤ _
      omega
  | succ k ih =>
    intro hk i
    have ih := ih (by omega)
    have hl := goal_len m den s k
    simp only [iter]
    generalize iter (goalS m den) s k = z at ih hl
    have f := badT_facts (terms_at h (show (k : Int) < D.len (D.fld m 2) by omega))
    have p1 : den * tco (D.fld m 2) k ≤ den * 16777216 := Int.mul_le_mul_of_nonneg_left f.2.2.2.2.1 hd
    have p2 : den * (-16777216) ≤ den * tco (D.fld m 2) k := Int.mul_le_mul_of_nonneg_left f.2.2.2.1 hd
    have e : coefUp (D.fld m 2) i (k + 1) = cond (iEq (tof (D.fld m 2) (k : Nat)) i) (tco (D.fld m 2) (k : Nat)) (coefUp (D.fld m 2) i k) := rfl
    unfold goalS
    rw [e, set_get]
    have h0 := ih (tof (D.fld m 2) k).toNat
    have hz : coefUp (D.fld m 2) ((tof (D.fld m 2) k).toNat : Nat) k = 0 := coef_none k fun t ht => by
      have := terms_inc h ht (by omega)
      omega
    rw [hz, Int.mul_zero, Int.sub_zero] at h0
    have hb0 := hb (tof (D.fld m 2) k).toNat
    by_cases hi : (tof (D.fld m 2) k).toNat = i
    · rw [if_pos ⟨hi, by omega⟩, iEq_iff.mpr (by omega), cond_true]
      rw [wrap_id (show -9223372036854775808 ≤ den * tco (D.fld m 2) k by omega) (by omega), wrap_id (by omega) (by omega), h0.1]
      subst hi
      exact ⟨rfl, by omega, by omega⟩
    · rw [if_neg (by omega), iEq_not.mpr (by omega), cond_false]
      exact ih i

theorem modB_facts {m : D} (h : modB m = true) : (0 ≤ D.i (D.fld m 0) ∧ D.i (D.fld m 0) ≤ 300) ∧ D.len (D.fld m 1) ≤ 400 ∧ termsB (D.fld m 2) (D.i (D.fld m 0)) 16777216 = true ∧ (-16777216 ≤ D.i (D.fld m 3) ∧ D.i (D.fld m 3) ≤ 16777216) ∧ ∀ k : Nat, (k : Int) < D.len (D.fld m 1) → rowB (D.el (D.fld m 1) k) (D.i (D.fld m 0)) = true := by
  simp only [modB, wi34, Bool.and_eq_true, iLe_iff] at h
  obtain ⟨⟨h1, h2, h3⟩, h4, ⟨h5, h6⟩, h7⟩ := h
  refine ⟨⟨h1, h2⟩, h3, h4, ⟨h5, h6⟩, fun k hk => ?_⟩
  have hl := ln0 (D.fld m 1)
  have := anyB_all (p := fun k : Nat => !rowB (D.el (D.fld m 1) k) (D.i (D.fld m 0))) (by simpa using h7) (show k < (D.len (D.fld m 1)).toNat by omega)
  simpa using this
theorem row_ok {m : D} (hm : Mo m) (h : modB m = true) : ∀ k : Nat, (k : Int) < D.len (D.fld m 1) → RowOk (D.i (D.fld m 0)) (D.el (D.fld m 1) k) := by
  intro k hk
  have := (modB_facts h).2.2.2.2 k hk
  simp only [rowB, wi34, Bool.and_eq_true, iLe_iff] at this
  exact ⟨this.1, this.2.1, this.2.2, hm.row k hk⟩
end Go.Ab

/- Leaves: both answers are one. -/
namespace Go.Ab
open Go.Proofs
attribute [local irreducible] wpF

theorem lst_set34 (s : List Int) (j : Nat) (v : Int) : D.slc (List.set (D.xs (lst s)) j (.int v)) = lst (s.set j v) := by simp [lst, D.xs, List.map_set]
theorem lst_get34 {s : List Int} {j : Nat} (h : j < s.length) : D.i (List.getD (D.xs (lst s)) j D.und) = s.getD j 0 := by simp [lst, D.xs, List.getD, h, D.i]

/-- What a leaf is looked at with. -/
structure LC (m : D) (ab : List D) (c : D) : Prop where
  mo : Mo m
  mv : modB m = true
  abv : ∀ x ∈ ab, RowOk (D.i (D.fld m 0)) x
  tot : D.len (D.fld m 1) + ab.length ≤ 400
  mul : mulB (D.fld c 4) = true
  len : D.len (D.fld c 4) ≤ 1100000
  d0 : 0 ≤ cDen c
  d1 : cDen c ≤ 1024
  big : ∀ k : Nat, (k : Int) < D.len (D.fld c 4) → tof (D.fld c 4) k ≤ 9223372036854775807

section
variable {n : Nat} {Q : List D → Prop} {m c : D} {ab : List D}

theorem sums_wp (hC : LC m ab c) (hn : 1100200 ≤ n) (hbad : outB m ab (D.fld c 4) = true → Q [.slc [], .int 0, .bool false])
    (hgood : outB m ab (D.fld c 4) = false → Q [lst (sumS34 m ab (D.fld c 4) (D.len (D.fld c 4)).toNat).1, .int (sumS34 m ab (D.fld c 4) (D.len (D.fld c 4)).toNat).2, .bool true]) :
    wpF Try.prog A n 124 [m, .slc ab, D.fld c 4] Q := by
  obtain ⟨p, rfl⟩ : ∃ p, n = p + 1 := ⟨n - 1, by omega⟩
  rw [E124]
  have hM := modB_facts hC.mv
  have hmm : minmax true 0 (D.i (D.fld m 0)) = D.i (D.fld m 0) := by simp only [minmax, if_true]; split <;> omega
  rw [hmm]
  refine ⟨⟨by omega, by omega, by unfold room; omega⟩, ?_⟩
  have hl0 := ln0 (D.fld c 4)
  have hr0 := ln0 (D.fld m 1)
  have hr := row_ok hC.mo hC.mv
  obtain ⟨N, hN⟩ : ∃ N : Nat, D.len (D.fld c 4) = N := ⟨(D.len (D.fld c 4)).toNat, by omega⟩
  have hN' : (D.len (D.fld c 4)).toNat = N := by omega
  have hNl := hC.len
  rw [hN'] at hgood
  rw [hN]
  have e0 : D.slc (List.replicate (D.i (D.fld m 0)).toNat (D.int 0)) = lst (sumS34 m ab (D.fld c 4) 0).1 := by simp [sumS34, iter, lst]
  rw [e0]
  have tot := hC.tot
  -- the terms of one row
  have inner : ∀ (m0 k : Nat) (s : List Int) (r : Int) (x : D), s.length = (D.i (D.fld m 0)).toNat → RowOk (D.i (D.fld m 0)) x →
      L124_3 p m0 (.slc ab) (.int r) (D.fld c 4) (.int (N : Int)) (.int (IntKind.wrap .i64 ((k : Int) + 1))) m (lst (rowS x (tco (D.fld c 4) k) s)) Q →
      L124_13 p m0 p (.slc ab) (.int r) (D.fld c 4) (.int (N : Int)) (.int (k : Int)) (D.fld x 0) (.int (D.len (D.fld x 0))) (.int 0) m (D.el (D.fld c 4) (k : Int)) (lst s) Q := by
    intro m0 k s r x hs hx hnext
    have hx0 := ln0 (D.fld x 0)
    have hxl := hx.len
    obtain ⟨T, hT⟩ : ∃ T : Nat, D.len (D.fld x 0) = T := ⟨(D.len (D.fld x 0)).toNat, by omega⟩
    have hT' : (D.len (D.fld x 0)).toNat = T := by omega
    unfold rowS at hnext
    rw [hT'] at hnext
    rw [hT]
    refine fold_loop (L := fun m1 t z => L124_13 p m0 m1 (.slc ab) (.int r) (D.fld c 4) (.int (N : Int)) (.int (k : Int)) (D.fld x 0) (.int (T : Int)) t m (D.el (D.fld c 4) (k : Int)) (lst z) Q) (step := inRow x (tco (D.fld c 4) k)) (s0 := s) (N := T) (by omega) (fun m1 t ht hw hg => ?_) (fun m1 => ?_) p 0 (by omega) (by omega)
    · rw [L124_13_eq]
      simp only [i_int]
      rw [hw]
      have f := badT_facts (terms_at hx.terms (show (t : Int) < D.len (D.fld x 0) by omega))
      have hzl := row_len x (tco (D.fld c 4) k) s t
      simp only [iter] at hg
      revert hg hzl
      generalize iter (inRow x (tco (D.fld c 4) k)) s t = z
      intro hg hzl
      unfold inRow tof tco at hg
      unfold tof tco at f
      refine cLt (fun _ => ⟨by omega, trivial, cLt (fun c => by omega) fun _ => ?_⟩) fun c => by omega
      rw [len_lst]
      refine cLe (fun c => by omega) fun _ => ⟨by omega, by omega, trivial, ?_⟩
      rw [lst_get34 (by omega), lst_set34]
      exact hg
    · rw [L124_13_eq]
      simp only [i_int]
      exact cLt (fun c => by omega) fun _ => hnext
  have key : ∀ (m0 k : Nat), k ≤ N → N - k < m0 → (∀ t, t < k → iLe (D.len (D.fld m 1) + ab.length) (tof (D.fld c 4) (t : Nat)) = false) → L124_3 p m0 (.slc ab) (.int (sumS34 m ab (D.fld c 4) k).2) (D.fld c 4) (.int (N : Int)) (.int (k : Int)) m (lst (sumS34 m ab (D.fld c 4) k).1) Q := by
    intro m0
    induction m0 with
    | zero => intro k _ h; omega
    | succ m0 ih =>
      intro k h1 h2 h3
      rw [L124_3_eq]
      simp only [i_int]
      refine cLt (fun hk => ⟨by omega, trivial, ?_⟩) fun hk => ?_
      · have f := badM_facts (mul_at hC.mul (show (k : Int) < D.len (D.fld c 4) by omega))
        have hof : D.i (D.fld (D.el (D.fld c 4) (k : Int)) 0) = tof (D.fld c 4) k := rfl
        rw [hof]
        refine cLe (fun _ => ?_) fun c => by omega
        have hlen := sum_len m ab (D.fld c 4) k
        have bad : D.len (D.fld m 1) + ab.length ≤ tof (D.fld c 4) k → Q [.slc [], .int 0, .bool false] := fun hb => hbad (anyB_true (i := k) (by omega) (iLe_iff.mpr hb))
        have good : tof (D.fld c 4) k < D.len (D.fld m 1) + ab.length → RowOk (D.i (D.fld m 0)) (rowAt m ab (tof (D.fld c 4) k)) ∧
            L124_3 p m0 (.slc ab) (.int (IntKind.wrap .i64 ((sumS34 m ab (D.fld c 4) k).2 + IntKind.wrap .i64 (tco (D.fld c 4) k * D.i (D.fld (rowAt m ab (tof (D.fld c 4) k)) 1))))) (D.fld c 4) (.int (N : Int)) (.int (IntKind.wrap .i64 ((k : Int) + 1))) m (lst (rowS (rowAt m ab (tof (D.fld c 4) k)) (tco (D.fld c 4) k) (sumS34 m ab (D.fld c 4) k).1)) Q := fun hb => by
          refine ⟨rowAt_ok hr hC.abv f.1 hb, ?_⟩
          rw [wrap_id (show -9223372036854775808 ≤ (k : Int) + 1 by omega) (by omega)]
          refine ih (k + 1) (by omega) (by omega) fun t ht => ?_
          by_cases e : t = k
          · subst e; exact iLe_not.mpr (by omega)
          · exact h3 t (by omega)
        refine cLt (fun hlt => ?_) fun hlt => ?_
        · obtain ⟨g1, g2⟩ := good (by omega)
          have er : rowAt m ab (tof (D.fld c 4) k) = D.el (D.fld m 1) (tof (D.fld c 4) k) := by unfold rowAt; rw [iLt_iff.mpr hlt]; rfl
          rw [er] at g1 g2
          exact ⟨by omega, trivial, inner m0 k _ _ _ hlen g1 g2⟩
        · refine cLe (fun _ => ?_) fun c => by omega
          have el : D.len (.slc ab) = ab.length := rfl
          rw [el]
          by_cases hin : tof (D.fld c 4) k < D.len (D.fld m 1) + ab.length
          · rw [wrap_id (by omega) (by omega)]
            refine cLt (fun _ => ⟨by omega, trivial, ?_⟩) fun c => by omega
            obtain ⟨g1, g2⟩ := good hin
            have er : rowAt m ab (tof (D.fld c 4) k) = D.el (.slc ab) (tof (D.fld c 4) k - D.len (D.fld m 1)) := by unfold rowAt; rw [iLt_not.mpr hlt]; rfl
            rw [er] at g1 g2
            exact inner m0 k _ _ _ hlen g1 g2
          · have hb := bad (by omega)
            have hbig := hC.big k (by omega)
            rw [wrap_id (by omega) (by omega)]
            exact cLt (fun c => by omega) fun _ => hb
      · have e : k = N := by omega
        subst e
        exact hgood (anyB_false fun i hi => h3 i (by omega))
  exact key p 0 (by omega) (by omega) fun t ht => by omega
end
end Go.Ab

/- Leaves: both answers are one. -/
namespace Go.Ab
open Go.Proofs
attribute [local irreducible] wpF

theorem Bd.mono {s : List Int} {a b : Int} (h : Bd s a) (hab : a ≤ b) : Bd s b := fun i => by have := h i; exact ⟨by omega, by omega⟩

theorem mul_len {m : D} {ab : List D} {l : D} (h : mulB l = true) (ho : outB m ab l = false) (ht : D.len (D.fld m 1) + ab.length ≤ 400) : D.len l ≤ 400 := by
  have hl := ln0 l
  by_cases h0 : D.len l = 0
  · omega
  · obtain ⟨k, hk⟩ : ∃ k : Nat, D.len l = k + 1 := ⟨((D.len l) - 1).toNat, by omega⟩
    have h1 := mul_ge h (show (k : Int) < D.len l by omega)
    have h2 := out_at ho (show (k : Int) < D.len l by omega)
    omega

theorem sums_bd {m c : D} {ab : List D} (hC : LC m ab c) (ho : outB m ab (D.fld c 4) = false) : Bd (sumS34 m ab (D.fld c 4) (D.len (D.fld c 4)).toNat).1 450359962737049600 := by
  have hl := ln0 (D.fld c 4)
  have h4 := mul_len hC.mul ho hC.tot
  refine (sum_bd (row_ok hC.mo hC.mv) hC.abv hC.mul ho hC.tot (D.len (D.fld c 4)).toNat (by omega)).mono ?_
  omega

section
variable {n : Nat} {Q : List D → Prop} {m c : D} {ab : List D}

theorem coef_wp {l : D} {i : Int} {cols M : Int} (hl : termsB l cols M = true) (hn : 1100100 ≤ n) (hlen : D.len l ≤ 1100000) (h : ∀ v, D.i v = coefOf l i → Q [v]) : wpF Try.prog A n 103 [l, .int i] Q := by
  obtain ⟨p, rfl⟩ : ∃ p, n = p + 1 := ⟨n - 1, by omega⟩
  rw [E103]
  have hl0 := ln0 l
  obtain ⟨N, hN⟩ : ∃ N : Nat, D.len l = N := ⟨(D.len l).toNat, by omega⟩
  have hN' : (D.len l).toNat = N := by omega
  rw [hN]
  have key : ∀ (m0 k : Nat), k ≤ N → N - k < m0 → (∀ t, t < k → tof l (t : Nat) ≠ i) → L103_2 p m0 (.int i) l (.int (N : Int)) (.int (k : Int)) Q := by
    intro m0
    induction m0 with
    | zero => intro k _ h; omega
    | succ m0 ih =>
      intro k h1 h2 h3
      rw [L103_2_eq]
      simp only [i_int]
      refine cLt (fun hk => ⟨by omega, trivial, ?_⟩) fun hk => ?_
      · refine cEq (fun he => ?_) fun he => ?_
        · have he : tof l (k : Nat) = i := he
          refine h _ ?_
          show tco l k = _
          unfold coefOf
          rw [hN', ← he]
          exact (coef_hit hl N (by omega) (by omega)).symm
        · rw [wrap_id (show -9223372036854775808 ≤ (k : Int) + 1 by omega) (by omega)]
          exact ih (k + 1) (by omega) (by omega) fun t ht => by
            by_cases e : t = k
            · subst e; exact he
            · exact h3 t (by omega)
      · refine h _ ?_
        unfold coefOf
        rw [hN', coef_none N fun t ht => h3 t (by omega)]
        rfl
  exact key p 0 (by omega) (by omega) fun t ht => by omega

/-- The program's leaf. -/
theorem leafv_wp (hC : LC m ab c) (hn : 1100300 ≤ n) (h : Q [.int (leafV m ab c).1, .bool (leafV m ab c).2.1, .bool (leafV m ab c).2.2]) : wpF Try.prog A n 101 [m, .slc ab, c] Q := by
  obtain ⟨p, rfl⟩ : ∃ p, n = p + 1 := ⟨n - 1, by omega⟩
  rw [E101]
  refine sums_wp hC (by omega) (fun ho => ?_) fun ho => ?_
  · rw [show rs [D.slc [], D.int 0, D.bool false] 2 = D.bool false from rfl, b_bool]
    unfold leafV at h
    rw [ho] at h
    exact h
  have hM := modB_facts hC.mv
  have hlen := sum_len m ab (D.fld c 4) (D.len (D.fld c 4)).toNat
  have hbd := sums_bd hC ho
  unfold leafV at h
  rw [ho, cond_false] at h
  revert h hlen hbd
  generalize sumS34 m ab (D.fld c 4) (D.len (D.fld c 4)).toNat = S
  obtain ⟨s, r⟩ := S
  intro h hlen hbd
  simp only at h hlen hbd ⊢
  rw [show rs [lst s, D.int r, D.bool true] 2 = D.bool true from rfl, b_bool, show rs [lst s, D.int r, D.bool true] 1 = D.int r from rfl, show rs [lst s, D.int r, D.bool true] 0 = lst s from rfl]
  show wpF Try.prog A p 125 [(D.fld m 2), (D.fld m 0), (D.int (16777216 : Int))] _
  refine terms_wp hC.mo.goal (by omega) (by omega) ?_
  rw [rs0, b_bool, hM.2.2.1]
  have d0 := hC.d0
  have d1 := hC.d1
  refine cLt (fun hc => by have : cDen c < 0 := hc; omega) fun _ => ?_
  have hg0 := ln0 (D.fld m 2)
  have hg := hC.mo.goal
  obtain ⟨N, hN⟩ : ∃ N : Nat, D.len (D.fld m 2) = N := ⟨(D.len (D.fld m 2)).toNat, by omega⟩
  have gg := goal_get hM.2.2.1 d0 d1 (s := s) (by omega) hbd
  rw [hN]
  refine fold_loop (L := fun m1 t z => L101_5 p m1 (.int r) (D.fld m 2) (.int (N : Int)) t m c (lst z) Q) (step := goalS m (cDen c)) (s0 := s) (N := N) (by omega) (fun m1 t ht hw hg => ?_) (fun m1 => ?_) p 0 (by omega) (by omega)
  · rw [L101_5_eq]
    simp only [i_int]
    rw [hw]
    have f := badT_facts (terms_at hM.2.2.1 (show (t : Int) < D.len (D.fld m 2) by omega))
    have hzl := goal_len m (cDen c) s t
    simp only [iter] at hg
    revert hg hzl
    generalize iter (goalS m (cDen c)) s t = z
    intro hg hzl
    unfold goalS tof tco cDen at hg
    unfold tof tco at f
    refine cLt (fun _ => ⟨by omega, trivial, ?_⟩) fun c => by omega
    rw [len_lst]
    refine ⟨by omega, by omega, trivial, ?_⟩
    rw [lst_get34 (by omega), lst_set34]
    exact hg
  · rw [L101_5_eq]
    simp only [i_int]
    refine cLt (fun c => by omega) fun _ => ?_
    have gN := gg N (by omega)
    have hzl := goal_len m (cDen c) s N
    revert gN hzl
    generalize iter (goalS m (cDen c)) s N = z
    intro gN hzl
    have hzl' : z.length = (D.i (D.fld m 0)).toNat := by omega
    have esh : anyB (fun i => iLt (z.getD i 0) 0) z.length = shortB m (cDen c) s := by
      unfold shortB
      rw [hzl']
      refine anyB_congr fun i hi => ?_
      have e : coefOf (D.fld m 2) i = coefUp (D.fld m 2) i N := by unfold coefOf; rw [hN, toNat_nat]
      have g := (gN i).1
      rw [← e] at g
      cases h1 : iLt (s.getD i 0) (cDen c * coefOf (D.fld m 2) i) with
      | true => rw [iLt_iff] at h1 ⊢; omega
      | false => rw [iLt_not] at h1 ⊢; omega
    obtain ⟨q, rfl⟩ : ∃ q, p = q + 3 := ⟨p - 3, by omega⟩
    have hz3 : z.length ≤ 300 := by omega
    have e126 : ∀ Q, wpF Try.prog A (q + 3) 126 [lst z, .fn 127 []] Q = wpF Try.prog A (q + 2) 136 [lst z, .fn 127 []] fun r1 => Q [(D.bool (iLe (0 : Int) (D.i (rs r1 0))))] := fun Q => E126 _ _ _ _
    rw [e126, E136]
    refine found_loop (m := q + 1) (Q := fun r1 => cond (D.b (rs r1 0)) (Q [.int 0, .bool false, .bool false]) (cond (iLt 0 (D.i (D.fld c 5))) (wpF Try.prog A (q + 3) 128 [.int r, D.fld c 5] fun r4 => Q [.int (IntKind.wrap .i64 (D.i (D.fld m 3) + D.i (rs r4 0))), .bool true, .bool false]) (cond (iLt r 0) (Q [.int 0, .bool true, .bool true]) (Q [.int 0, .bool false, .bool false])))) (x1 := .fn 127 []) (N := z.length) (p := fun i => iLt (z.getD i 0) 0) (L := L136_2 (q + 1)) (call := fun x1 e Q => dynH A (wpF Try.prog A (q + 1)) x1 [.imm 3] [.val 4 .imm] [e] Q) (fun m0 x0 x1 x7 x8 Q => L136_2_eq (q + 1) m0 x0 x1 x7 x8 Q) (len_lst z) (by omega)
      (fun i hi Q hQ => ⟨⟨rfl, rfl, rfl, rfl⟩, ?_⟩) (by omega) ?_
    · show wpF Try.prog A (q + 1) 127 [D.el (lst z) (i : Int)] Q
      rw [E127]
      have e : D.el (lst z) (i : Int) = .int (z.getD i 0) := el_lst _ _ hi
      rw [e, i_int]
      exact hQ
    · rw [rs0, b_bool, esh]
      refine cnd (fun c0 => by rw [c0] at h; exact h) fun c0 => ?_
      rw [c0, cond_false] at h
      refine cLt (fun c1 => ?_) fun c1 => ?_
      · have c1 : 0 < cDen c := c1
        rw [iLt_iff.mpr c1, cond_true] at h
        have e128 : ∀ Q, wpF Try.prog A (q + 3) 128 [.int r, D.fld c 5] Q = _ := fun Q => E128 _ _ _ _
        rw [e128]
        have ne : cDen c ≠ 0 := by omega
        refine ⟨ne, ne, ?_⟩
        unfold flo at h
        refine cnd (fun c2 => ?_) fun c2 => ?_
        · have c2 : iLt (Int.tmod r (cDen c)) 0 = true := c2
          rw [c2, cond_true] at h
          exact h
        · have c2 : iLt (Int.tmod r (cDen c)) 0 = false := c2
          rw [c2, cond_false] at h
          exact h
      · have c1 : ¬ 0 < cDen c := c1
        rw [iLt_not.mpr c1, cond_false] at h
        exact cLt (fun c2 => by rw [iLt_iff.mpr c2] at h; exact h) fun c2 => by rw [iLt_not.mpr c2] at h; exact h

theorem outB_true {m : D} {ab : List D} {l : D} {k : Nat} (hk : (k : Int) < D.len l) (h : D.len (D.fld m 1) + ab.length ≤ tof l k) : outB m ab l = true := by
  have hl := ln0 l
  exact anyB_true (i := k) (by omega) (iLe_iff.mpr h)

/-- The document's leaf. -/
theorem leafv'_wp (hC : LC m ab c) (hn : 1100300 ≤ n) (h : Q [.int (leafV m ab c).1, .bool (leafV m ab c).2.1, .bool (leafV m ab c).2.2]) : wpF Try.prog A n 59 [m, .slc ab, c] Q := by
  obtain ⟨p, rfl⟩ : ∃ p, n = p + 1 := ⟨n - 1, by omega⟩
  rw [E59]
  have hM := modB_facts hC.mv
  refine ⟨⟨by omega, by omega, by unfold room; omega⟩, ?_⟩
  have hl0 := ln0 (D.fld c 4)
  have hr0 := ln0 (D.fld m 1)
  have hr := row_ok hC.mo hC.mv
  obtain ⟨N, hN⟩ : ∃ N : Nat, D.len (D.fld c 4) = N := ⟨(D.len (D.fld c 4)).toNat, by omega⟩
  have hN' : (D.len (D.fld c 4)).toNat = N := by omega
  have hNl := hC.len
  have hbad : outB m ab (D.fld c 4) = true → Q [.int 0, .bool false, .bool false] := fun ho => by unfold leafV at h; rw [ho] at h; exact h
  rw [hN]
  have e0 : D.slc (List.replicate (D.i (D.fld m 0)).toNat (D.int 0)) = lst (sumS34 m ab (D.fld c 4) 0).1 := by simp [sumS34, iter, lst]
  rw [e0]
  have tot := hC.tot
  have el : D.len (.slc ab) = ab.length := rfl
  -- the terms of one row
  have inner : ∀ (m0 k : Nat) (s : List Int) (r : Int) (x : D), s.length = (D.i (D.fld m 0)).toNat → RowOk (D.i (D.fld m 0)) x →
      L59_4 p m0 (.slc ab) (.int (IntKind.wrap .i64 (r + IntKind.wrap .i64 (tco (D.fld c 4) k * D.i (D.fld x 1))))) (D.fld c 4) (.int (N : Int)) (.int (IntKind.wrap .i64 ((k : Int) + 1))) m c (lst (rowS x (tco (D.fld c 4) k) s)) Q →
      L59_13 p m0 p (.slc ab) (.int r) (D.fld c 4) (.int (N : Int)) (.int (k : Int)) (D.fld x 0) (.int (D.len (D.fld x 0))) (.int 0) m c (D.el (D.fld c 4) (k : Int)) x (lst s) Q := by
    intro m0 k s r x hs hx hnext
    have hx0 := ln0 (D.fld x 0)
    have hxl := hx.len
    obtain ⟨T, hT⟩ : ∃ T : Nat, D.len (D.fld x 0) = T := ⟨(D.len (D.fld x 0)).toNat, by omega⟩
    have hT' : (D.len (D.fld x 0)).toNat = T := by omega
    unfold rowS at hnext
    rw [hT'] at hnext
    rw [hT]
    refine fold_loop (L := fun m1 t z => L59_13 p m0 m1 (.slc ab) (.int r) (D.fld c 4) (.int (N : Int)) (.int (k : Int)) (D.fld x 0) (.int (T : Int)) t m c (D.el (D.fld c 4) (k : Int)) x (lst z) Q) (step := inRow x (tco (D.fld c 4) k)) (s0 := s) (N := T) (by omega) (fun m1 t ht hw hg => ?_) (fun m1 => ?_) p 0 (by omega) (by omega)
    · rw [L59_13_eq]
      simp only [i_int]
      rw [hw]
      have f := badT_facts (terms_at hx.terms (show (t : Int) < D.len (D.fld x 0) by omega))
      have hzl := row_len x (tco (D.fld c 4) k) s t
      simp only [iter] at hg
      revert hg hzl
      generalize iter (inRow x (tco (D.fld c 4) k)) s t = z
      intro hg hzl
      unfold inRow tof tco at hg
      unfold tof tco at f
      refine cLt (fun _ => ⟨by omega, trivial, ?_⟩) fun c => by omega
      rw [len_lst]
      refine ⟨by omega, by omega, trivial, ?_⟩
      rw [lst_get34 (by omega), lst_set34]
      exact hg
    · rw [L59_13_eq]
      simp only [i_int]
      exact cLt (fun c => by omega) fun _ => hnext
  -- the columns
  have cols : outB m ab (D.fld c 4) = false → L59_20 p p (.int (sumS34 m ab (D.fld c 4) N).2) (.int (D.len (lst (sumS34 m ab (D.fld c 4) N).1))) (.int 0) m c (lst (sumS34 m ab (D.fld c 4) N).1) Q := by
    intro ho
    have hlen := sum_len m ab (D.fld c 4) (D.len (D.fld c 4)).toNat
    have d0 := hC.d0
    have d1 := hC.d1
    unfold leafV at h
    rw [ho, cond_false] at h
    rw [hN'] at h hlen
    revert h hlen
    generalize sumS34 m ab (D.fld c 4) N = S
    obtain ⟨s, r⟩ := S
    intro h hlen
    simp only at h hlen ⊢
    have hg := hC.mo.goal
    have hg0 := ln0 (D.fld m 2)
    unfold shortB at h
    rw [← hlen] at h
    rw [len_lst]
    refine all_loop (L := fun m0 k => L59_20 p m0 (.int r) (.int (s.length : Int)) k m c (lst s) Q) (bad := fun i => iLt (s.getD i 0) (cDen c * coefOf (D.fld m 2) i)) (N := s.length) (F := Q [.int 0, .bool false, .bool false]) (by omega) (fun m0 k hk hw hb hg => ?_) (fun hb => by rw [hb] at h; exact h) (fun hg m0 => ?_) p 0 (by omega) (by omega) (by omega)
    · rw [L59_20_eq]
      simp only [i_int]
      rw [hw, len_lst]
      refine cLt (fun _ => ⟨by omega, ?_⟩) fun c => by omega
      refine coef_wp hM.2.2.1 (by omega) (by omega) fun v hv => ?_
      rw [rs0, hv, lst_get34 (by omega), toNat_nat]
      have cb : -16777216 ≤ coefOf (D.fld m 2) k ∧ coefOf (D.fld m 2) k ≤ 16777216 := by
        by_cases hex : ∃ t : Nat, t < (D.len (D.fld m 2)).toNat ∧ tof (D.fld m 2) t = k
        · obtain ⟨t, ht, he⟩ := hex
          unfold coefOf
          rw [← he, coef_hit hM.2.2.1 _ (by omega) ht]
          have f := badT_facts (terms_at hM.2.2.1 (show (t : Int) < D.len (D.fld m 2) by omega))
          omega
        · unfold coefOf
          rw [coef_none _ fun t ht he => hex ⟨t, ht, he⟩]
          omega
      have p1 : cDen c * coefOf (D.fld m 2) k ≤ cDen c * 16777216 := Int.mul_le_mul_of_nonneg_left cb.2 d0
      have p2 : cDen c * (-16777216) ≤ cDen c * coefOf (D.fld m 2) k := Int.mul_le_mul_of_nonneg_left cb.1 d0
      have ew : IntKind.wrap .i64 (D.i (D.fld c 5) * coefOf (D.fld m 2) k) = cDen c * coefOf (D.fld m 2) k := wrap_id (by show _ ≤ cDen c * _; omega) (by show cDen c * _ ≤ _; omega)
      rw [ew]
      exact cnd (fun c => hb c) fun c => hg c
    · rw [L59_20_eq]
      simp only [i_int]
      refine cLt (fun c => by omega) fun _ => ?_
      rw [hg, cond_false] at h
      refine cEq (fun c1 => ?_) fun c1 => ?_
      · have c1 : cDen c = 0 := c1
        rw [iLt_not.mpr (by omega), cond_false] at h
        revert h
        cases iLt r 0 <;> exact id
      · have c1 : cDen c ≠ 0 := c1
        rw [iLt_iff.mpr (by omega), cond_true] at h
        refine ⟨c1, c1, ?_⟩
        unfold flo at h
        refine cnd (fun c2 => ?_) fun c2 => ?_
        · have c2 : iLt (Int.tmod r (cDen c)) 0 = true := c2
          rw [c2, cond_true] at h
          exact h
        · have c2 : iLt (Int.tmod r (cDen c)) 0 = false := c2
          rw [c2, cond_false] at h
          exact h
  have key : ∀ (m0 k : Nat), k ≤ N → N - k < m0 → (∀ t, t < k → iLe (D.len (D.fld m 1) + ab.length) (tof (D.fld c 4) (t : Nat)) = false) → L59_4 p m0 (.slc ab) (.int (sumS34 m ab (D.fld c 4) k).2) (D.fld c 4) (.int (N : Int)) (.int (k : Int)) m c (lst (sumS34 m ab (D.fld c 4) k).1) Q := by
    intro m0
    induction m0 with
    | zero => intro k _ h; omega
    | succ m0 ih =>
      intro k h1 h2 h3
      rw [L59_4_eq]
      simp only [i_int]
      refine cLt (fun hk => ⟨by omega, trivial, ?_⟩) fun hk => ?_
      · have f := badM_facts (mul_at hC.mul (show (k : Int) < D.len (D.fld c 4) by omega))
        have hof : D.i (D.fld (D.el (D.fld c 4) (k : Int)) 0) = tof (D.fld c 4) k := rfl
        rw [hof]
        refine cLt (fun _ => by omega) fun _ => ?_
        have hlen := sum_len m ab (D.fld c 4) k
        rw [el, wrap_id (show -9223372036854775808 ≤ D.len (D.fld m 1) + (ab.length : Int) by omega) (by omega)]
        refine cLe (fun hb => hbad (outB_true (by omega) hb)) fun hb => ?_
        have g1 : RowOk (D.i (D.fld m 0)) (rowAt m ab (tof (D.fld c 4) k)) := rowAt_ok hr hC.abv f.1 (by omega)
        have g2 : L59_4 p m0 (.slc ab) (.int (IntKind.wrap .i64 ((sumS34 m ab (D.fld c 4) k).2 + IntKind.wrap .i64 (tco (D.fld c 4) k * D.i (D.fld (rowAt m ab (tof (D.fld c 4) k)) 1))))) (D.fld c 4) (.int (N : Int)) (.int (IntKind.wrap .i64 ((k : Int) + 1))) m c (lst (rowS (rowAt m ab (tof (D.fld c 4) k)) (tco (D.fld c 4) k) (sumS34 m ab (D.fld c 4) k).1)) Q := by
          rw [wrap_id (show -9223372036854775808 ≤ (k : Int) + 1 by omega) (by omega)]
          refine ih (k + 1) (by omega) (by omega) fun t ht => ?_
          by_cases e : t = k
          · subst e; exact iLe_not.mpr (by omega)
          · exact h3 t (by omega)
        refine cLt (fun hlt => ?_) fun hlt => ?_
        · have er : rowAt m ab (tof (D.fld c 4) k) = D.el (D.fld m 1) (tof (D.fld c 4) k) := by unfold rowAt; rw [iLt_iff.mpr hlt]; rfl
          rw [er] at g1 g2
          exact ⟨by omega, trivial, inner m0 k _ _ _ hlen g1 g2⟩
        · have er : rowAt m ab (tof (D.fld c 4) k) = D.el (.slc ab) (tof (D.fld c 4) k - D.len (D.fld m 1)) := by unfold rowAt; rw [iLt_not.mpr hlt]; rfl
          rw [er] at g1 g2
          rw [wrap_id (by omega) (by omega)]
          exact ⟨by omega, trivial, inner m0 k _ _ _ hlen g1 g2⟩
      · have e : k = N := by omega
        subst e
        exact cols (by
          unfold outB
          rw [hN']
          exact anyB_false fun i hi => h3 i (by omega))
  exact key p 0 (by omega) (by omega) fun t ht => by omega
end
end Go.Ab

/- Bounds: which are accepted: both answers are one. -/
namespace Go.Ab
open Go.Proofs
attribute [local irreducible] wpF

theorem badT_of {l : D} {cols M : Int} {k : Nat} (h1 : 0 ≤ tof l k) (h2 : tof l k < cols) (h3 : 0 < k → tof l ((k : Int) - 1) < tof l k) (h4 : -M ≤ tco l k) (h5 : tco l k ≤ M) (h6 : tco l k ≠ 0) : badT l cols M k = false := by
  simp only [badT, wi34, Bool.or_eq_false_iff, iLt_not, iLe_not, iEq_not, Bool.and_eq_false_iff, Bool.not_eq_false', Bool.and_eq_true, iLe_iff]
  refine ⟨by omega, by omega, ?_, h6, h4, h5⟩
  by_cases hk : 0 < k
  · right; have := h3 hk; omega
  · left; omega
theorem terms_of {l : D} {cols M : Int} (h : ∀ k : Nat, (k : Int) < D.len l → badT l cols M k = false) : termsB l cols M = true := by
  unfold termsB
  have hl := ln0 l
  rw [anyB_false fun i hi => h i (by omega)]
  rfl

theorem neg_el {l : D} {N k : Nat} (hk : k < N) : D.el (.slc (negL l N)) (k : Int) = negE l k := neg_get l N k hk
theorem neg_of {l : D} {N k : Nat} (hk : k < N) : tof (.slc (negL l N)) k = tof l k := by
  unfold tof; rw [neg_el hk]; rfl
theorem neg_co {l : D} {N k : Nat} (hk : k < N) : tco (.slc (negL l N)) k = IntKind.wrap .i64 (0 - tco l k) := by
  unfold tco; rw [neg_el hk]; rfl
theorem neg_terms {l : D} {cols M : Int} (hM : M ≤ 4000000000) (h : termsB l cols M = true) : termsB (.slc (negL l (D.len l).toNat)) cols M = true := by
  have hl := ln0 l
  refine terms_of fun k hk => ?_
  have e : D.len (.slc (negL l (D.len l).toNat)) = D.len l := by
    rw [len_slc, neg_len]; omega
  rw [e] at hk
  have f := badT_facts (terms_at h hk)
  have ec : tco (.slc (negL l (D.len l).toNat)) k = - tco l k := by
    rw [neg_co (by omega), wrap_id (by omega) (by omega)]; omega
  refine badT_of ?_ ?_ (fun h0 => ?_) ?_ ?_ ?_
  · rw [neg_of (by omega)]; exact f.1
  · rw [neg_of (by omega)]; exact f.2.1
  · rw [neg_of (by omega), show ((k : Int) - 1) = ((k - 1 : Nat) : Int) by omega, neg_of (by omega), show ((k - 1 : Nat) : Int) = ((k : Int) - 1) by omega]
    exact f.2.2.1 h0
  · rw [ec]; omega
  · rw [ec]; omega
  · rw [ec]; omega

theorem form_facts {m l : D} {a : Int} (h : formB m l a = true) : termsB l (D.i (D.fld m 0)) 1048576 = true ∧ -1048576 ≤ a ∧ a < 1048576 := by
  simp only [formB, Bool.and_eq_true, iLe_iff, iLt_iff] at h
  exact h
theorem split_facts {m c : D} {i : Int} (h : splitB m c i = true) : formB m (D.fld c 2) (cAt c) = true ∧ D.len (D.fld c 4) = 0 ∧ cDen c = 0 ∧ i < cL c ∧ i < cR c := by
  simp only [splitB, Bool.and_eq_true, iLt_iff, iEq_iff] at h
  exact h
theorem leaf_facts {c : D} (h : leafB c = true) : cR c = -1 ∧ D.len (D.fld c 2) = 0 ∧ cAt c = 0 ∧ 0 ≤ cDen c ∧ cDen c ≤ 1024 ∧ mulB (D.fld c 4) = true := by
  simp only [leafB, Bool.and_eq_true, iEq_iff, iLe_iff] at h
  exact h

theorem sideL_ok {m c : D} (h : formB m (D.fld c 2) (cAt c) = true) (hl : D.len (D.fld c 2) ≤ 1100000) : RowOk (D.i (D.fld m 0)) (sideL c) := by
  obtain ⟨h1, h2, h3⟩ := form_facts h
  refine ⟨h1, ?_, ?_, hl⟩
  · show -1048576 ≤ cAt c
    omega
  · show cAt c ≤ 1048576
    omega
theorem sideR_ok {m c : D} (h : formB m (D.fld c 2) (cAt c) = true) (hl : D.len (D.fld c 2) ≤ 1100000) : RowOk (D.i (D.fld m 0)) (sideR c) := by
  obtain ⟨h1, h2, h3⟩ := form_facts h
  have hl0 := ln0 (D.fld c 2)
  have e : D.i (D.fld (sideR c) 1) = - cAt c - 1 := by
    show IntKind.wrap .i64 (IntKind.wrap .i64 (0 - cAt c) - 1) = _
    rw [wrap_id (show -9223372036854775808 ≤ 0 - cAt c by omega) (by omega), wrap_id (by omega) (by omega)]
    omega
  refine ⟨neg_terms (by omega) h1, ?_, ?_, ?_⟩
  · rw [e]; omega
  · rw [e]; omega
  · show D.len (.slc (negL (D.fld c 2) (D.len (D.fld c 2)).toNat)) ≤ _
    rw [len_slc, neg_len]; omega

theorem getD_set_mem {α : Type} {l : List α} {i j : Nat} {x d : α} {p : α → Prop} (h1 : p x) (h2 : p (l.getD j d)) : p ((l.set i x).getD j d) := by
  by_cases e : i = j
  · subst e
    by_cases hi : i < l.length
    · rw [getD_set_eq' hi]; exact h1
    · rw [List.set_eq_of_length_le (by omega)]; exact h2
  · rw [getD_set_ne' e]; exact h2

theorem abv_ok {m b : D} (hb : Bo b) (hv : bndB m b = true) : ∀ k : Nat, (k : Int) ≤ D.len (cs b) → ∀ j, ∀ x ∈ (abv b k).getD j [], RowOk (D.i (D.fld m 0)) x := by
  intro k
  induction k with
  | zero =>
    intro _ j x hx
    simp only [abv, iter, List.getD] at hx
    rw [List.getElem?_replicate] at hx
    split at hx <;> simp at hx
  | succ k ih =>
    intro hk j
    have ih := ih (by omega)
    have e : abv b (k + 1) = aS b (abv b k) k := rfl
    rw [e, aS]
    rcases bnd_case hv (show (k : Int) < D.len (cs b) by omega) with ⟨c, _⟩ | ⟨c, c3, c4, c5⟩
    · rw [c]; exact ih j
    · rw [c, cond_false]
      have f := split_facts c3
      have hf := hb.form k (by omega)
      have app : ∀ y, RowOk (D.i (D.fld m 0)) y → ∀ x ∈ (abv b k).getD k [] ++ [y], RowOk (D.i (D.fld m 0)) x := fun y hy x hx => by
        rcases List.mem_append.mp hx with h | h
        · exact ih k x h
        · rw [List.mem_singleton.mp h]; exact hy
      exact getD_set_mem (p := fun z => ∀ x ∈ z, RowOk (D.i (D.fld m 0)) x) (app _ (sideR_ok f.1 hf)) (getD_set_mem (p := fun z => ∀ x ∈ z, RowOk (D.i (D.fld m 0)) x) (app _ (sideL_ok f.1 hf)) (ih j))

theorem abv_stable {m b : D} (hv : bndB m b = true) {k : Nat} : ∀ j : Nat, (j : Int) ≤ D.len (cs b) → k ≤ j → (abv b j).getD k [] = (abv b k).getD k [] := by
  intro j
  induction j with
  | zero => intro _ h; have : k = 0 := by omega
            subst this; rfl
  | succ j ih =>
    intro hj hk
    by_cases e : k = j + 1
    · subst e; rfl
    · have ih := ih (by omega) (by omega)
      have e : abv b (j + 1) = aS b (abv b j) j := rfl
      rw [e, aS]
      rcases bnd_case hv (show (j : Int) < D.len (cs b) by omega) with ⟨c, _⟩ | ⟨c, c3, c4, c5⟩
      · rw [c]; exact ih
      · rw [c, cond_false]
        have f := split_facts c3
        rw [getD_set_ne' (by omega), getD_set_ne' (by omega)]
        exact ih

/-- A bound whose rows' indices are numbers of the machine. -/
structure Bx (b : D) : Prop where
  o : Bo b
  big : ∀ i : Nat, (i : Int) < D.len (cs b) → ∀ k : Nat, (k : Int) < D.len (D.fld (cAs b i) 4) → tof (D.fld (cAs b i) 4) k ≤ 9223372036854775807

def rowsOf (b : D) (k : Nat) : List D := (abv b (D.len (cs b)).toNat).getD k []
def longB (m b : D) (k : Nat) : Bool := iLt 400 (D.len (D.fld m 1) + (rowsOf b k).length)
def badV (b : D) (v : Int × (Bool × Bool)) : Bool := !v.2.1 || (!v.2.2 && iLt (D.i (D.fld b 1)) v.1)
def badC (m b : D) (k : Nat) : Bool := iEq (cL (cAs b k)) (-1) && badV b (leafV m (rowsOf b k) (cAs b k))
def chkV (m b : D) : Int := cond (modB m) (cond (bndB m b) (cond (anyB (longB m b) (D.len (cs b)).toNat) 10 (cond (anyB (badC m b) (D.len (cs b)).toNat) 37 0)) 10) 33

theorem lc_of {m b : D} (hm : Mo m) (hmv : modB m = true) (hb : Bx b) (hv : bndB m b = true) {k : Nat} (hk : (k : Int) < D.len (cs b)) (hl : longB m b k = false) (hc : iEq (cL (cAs b k)) (-1) = true) : LC m (rowsOf b k) (cAs b k) := by
  rcases bnd_case hv hk with ⟨_, c⟩ | ⟨c, _⟩
  · have f := leaf_facts c
    unfold longB at hl
    rw [iLt_not] at hl
    have h0 := ln0 (cs b)
    exact ⟨hm, hmv, abv_ok hb.o hv _ (by omega) k, by omega, f.2.2.2.2.2, hb.o.mul k hk, f.2.2.2.1, f.2.2.2.2.1, hb.big k hk⟩
  · rw [hc] at c; cases c

section
variable {n : Nat} {Q : List D → Prop}

theorem check_wp {m b : D} (hm : Mo m) (hb : Bx b) (hn : 1100700 ≤ n) (h : Q [.int (chkV m b)]) : wpF Try.prog A n 53 [m, b] Q := by
  obtain ⟨p, rfl⟩ : ∃ p, n = p + 1 := ⟨n - 1, by omega⟩
  rw [E53]
  unfold chkV at h
  refine model_wp hm (by omega) ?_
  rw [rs0, b_bool]
  refine cNot (fun c => by rw [c] at h; exact h) fun hmv => ?_
  rw [hmv, cond_true] at h
  refine bound_wp hm hb.o (by omega) ?_
  rw [rs0, b_bool, hmv, Bool.true_and]
  refine cNot (fun c => by rw [c] at h; exact h) fun hv => ?_
  rw [hv, cond_true] at h
  refine above_wp hb.o hv (by omega) ?_
  rw [rs0]
  have hN := bnd_len hv
  have hM := modB_facts hmv
  have hr0 := ln0 (D.fld m 1)
  obtain ⟨N, hNe⟩ : ∃ N : Nat, D.len (cs b) = N := ⟨(D.len (cs b)).toNat, by omega⟩
  have hN' : (D.len (cs b)).toNat = N := by omega
  have hl := abv_len b N
  rw [hN'] at h hl ⊢
  have eR : ∀ k, (abv b N).getD k [] = rowsOf b k := fun k => by unfold rowsOf; rw [hN']
  have short : ∀ k, (rowsOf b k).length ≤ N := fun k => by rw [← eR]; exact abv_short b N k
  obtain ⟨q, rfl⟩ : ∃ q, p = q + 3 := ⟨p - 3, by omega⟩
  have e98 : ∀ x Q, wpF Try.prog A (q + 3) 98 [x, .fn 99 [.ptr m]] Q = wpF Try.prog A (q + 2) 123 [x, .fn 99 [.ptr m]] fun r1 => Q [(D.bool (iLe (0 : Int) (D.i (rs r1 0))))] := fun x Q => E98 _ _ _ _
  rw [e98, E123]
  refine found_loop (m := q + 1) (Q := fun r4 => cond (D.b (rs r4 0)) (Q [.int 10]) (L53_9 (q + 3) (q + 3) (D.fld b 0) (.int (D.len (D.fld b 0))) (.int 0) m b (rowsD (abv b N)) Q)) (x1 := .fn 99 [.ptr m]) (N := N) (p := longB m b) (L := L123_2 (q + 1)) (call := fun x1 e Q => dynH A (wpF Try.prog A (q + 1)) x1 [.imm 79] [.val 4 .imm] [e] Q) (fun m0 x0 x1 x7 x8 Q => L123_2_eq (q + 1) m0 x0 x1 x7 x8 Q) (by rw [rowsD_len, hl]) (by omega)
    (fun i hi Q hQ => ⟨⟨rfl, rfl, rfl, rfl⟩, ?_⟩) (by omega) ?_
  · show wpF Try.prog A (q + 1) 99 [D.el (rowsD (abv b N)) (i : Int), m] Q
    rw [E99]
    have e : D.el (rowsD (abv b N)) (i : Int) = .slc (rowsOf b i) := by rw [← eR]; exact rowsD_get (by omega)
    have hs := short i
    rw [e, len_slc, wrap_id (by omega) (by omega)]
    exact hQ
  · rw [rs0, b_bool]
    refine cnd (fun c => by rw [c] at h; exact h) fun hlong => ?_
    rw [hlong, cond_false] at h
    show L53_9 (q + 3) (q + 3) (cs b) (.int (D.len (cs b))) (.int 0) m b (rowsD (abv b N)) Q
    rw [hNe]
    refine all_loop (L := fun m0 k => L53_9 (q + 3) m0 (cs b) (.int (N : Int)) k m b (rowsD (abv b N)) Q) (bad := badC m b) (N := N) (F := Q [.int 37]) (by omega) (fun m0 k hk hw hbad hg => ?_) (fun hb => by rw [hb] at h; exact h) (fun hg m0 => ?_) (q + 3) 0 (by omega) (by omega) (by omega)
    · rw [L53_9_eq]
      simp only [i_int]
      rw [hw]
      refine cLt (fun _ => ⟨by omega, trivial, leafQ_wp (by omega) ?_⟩) fun c => by omega
      rw [rs0, b_bool]
      unfold badC at hbad hg
      refine cNot (fun c => ?_) fun c => ?_
      · have c : iEq (cL (cAs b k)) (-1) = false := c
        exact hg (by rw [c]; rfl)
      · have c : iEq (cL (cAs b k)) (-1) = true := c
        rw [c, Bool.true_and] at hbad hg
        rw [rowsD_len, hl, toNat_nat, rowsD_get (by omega), eR]
        refine ⟨by omega, ?_⟩
        refine leafv_wp (lc_of hm hmv hb hv (by omega) (anyB_all hlong hk) c) (by omega) ?_
        have e : D.el (cs b) (k : Int) = cAs b k := rfl
        rw [e]
        revert hbad hg
        unfold badV
        generalize leafV m (rowsOf b k) (cAs b k) = v
        intro hbad hg
        simp only [rs0, rsS, b_bool, i_int]
        refine cNot (fun c1 => hbad (by rw [c1]; rfl)) fun c1 => ?_
        rw [c1, Bool.not_true, Bool.false_or] at hbad hg
        refine cNot (fun c2 => ?_) fun c2 => hg (by rw [c2]; rfl)
        rw [c2, Bool.not_false, Bool.true_and] at hbad hg
        exact cnd (fun c3 => hbad c3) fun c3 => hg c3
    · rw [L53_9_eq]
      simp only [i_int]
      refine cLt (fun c => by omega) fun _ => ?_
      rw [hg] at h
      exact h

theorem check'_wp {m b : D} (hm : Mo m) (hb : Bx b) (hn : 1100700 ≤ n) (h : Q [.int (chkV m b)]) : wpF Try.prog A n 54 [m, b] Q := by
  obtain ⟨p, rfl⟩ : ∃ p, n = p + 1 := ⟨n - 1, by omega⟩
  rw [E54]
  unfold chkV at h
  refine model'_wp hm (by omega) ?_
  rw [rs0, b_bool]
  refine cNot (fun c => by rw [c] at h; exact h) fun hmv => ?_
  rw [hmv, cond_true] at h
  refine bound'_wp hm hb.o (by omega) ?_
  rw [rs0, b_bool]
  refine cNot (fun c => by rw [c] at h; exact h) fun hv => ?_
  rw [hv, cond_true] at h
  have hN := bnd_len hv
  have hM := modB_facts hmv
  have hr0 := ln0 (D.fld m 1)
  obtain ⟨N, hNe⟩ : ∃ N : Nat, D.len (cs b) = N := ⟨(D.len (cs b)).toNat, by omega⟩
  have hN' : (D.len (cs b)).toNat = N := by omega
  rw [hN'] at h
  show (0 ≤ D.len (cs b) ∧ D.len (cs b) ≤ D.len (cs b) ∧ room (D.len (cs b)) 24) ∧ L54_7 p p (cs b) (.int (D.len (cs b))) (.int 0) m b (.slc (List.replicate (Int.toNat (D.len (cs b))) (.slc []))) Q
  refine ⟨⟨by omega, by omega, by unfold room; omega⟩, ?_⟩
  have e0 : D.slc (List.replicate (Int.toNat (D.len (cs b))) (D.slc ([] : List D))) = rowsD (abv b 0) := by simp [rowsD, abv, iter]
  have eR : ∀ k, (abv b N).getD k [] = rowsOf b k := fun k => by unfold rowsOf; rw [hN']
  have short : ∀ k, (rowsOf b k).length ≤ N := fun k => by rw [← eR]; exact abv_short b N k
  rw [e0, hNe]
  have tail : anyB (longB m b) N = false → L54_17 p p (cs b) (.int (D.len (cs b))) (.int 0) m b (rowsD (abv b N)) Q := by
    intro hlong
    have hl := abv_len b N
    rw [hN'] at hl
    rw [hlong, cond_false] at h
    rw [hNe]
    refine all_loop (L := fun m0 k => L54_17 p m0 (cs b) (.int (N : Int)) k m b (rowsD (abv b N)) Q) (bad := badC m b) (N := N) (F := Q [.int 37]) (by omega) (fun m0 k hk hw hbad hg => ?_) (fun hb => by rw [hb] at h; exact h) (fun hg m0 => ?_) p 0 (by omega) (by omega) (by omega)
    · rw [L54_17_eq]
      simp only [i_int]
      rw [hw]
      refine cLt (fun _ => ⟨by omega, trivial, ?_⟩) fun c => by omega
      unfold badC at hbad hg
      refine cNot (fun c => ?_) fun c => ?_
      · have c : iEq (cL (cAs b k)) (-1) = false := c
        exact hg (by rw [c]; rfl)
      · have c : iEq (cL (cAs b k)) (-1) = true := c
        rw [c, Bool.true_and] at hbad hg
        rw [rowsD_len, hl, toNat_nat, rowsD_get (by omega), eR]
        refine ⟨by omega, ?_⟩
        refine leafv'_wp (lc_of hm hmv hb hv (by omega) (anyB_all hlong hk) c) (by omega) ?_
        have e : D.el (cs b) (k : Int) = cAs b k := rfl
        rw [e]
        revert hbad hg
        unfold badV
        generalize leafV m (rowsOf b k) (cAs b k) = v
        intro hbad hg
        simp only [rs0, rsS, b_bool, i_int]
        refine cNot (fun c1 => hbad (by rw [c1]; rfl)) fun c1 => ?_
        rw [c1, Bool.not_true, Bool.false_or] at hbad hg
        refine cNot (fun c2 => ?_) fun c2 => hg (by rw [c2]; rfl)
        rw [c2, Bool.not_false, Bool.true_and] at hbad hg
        exact cnd (fun c3 => hbad c3) fun c3 => hg c3
    · rw [L54_17_eq]
      simp only [i_int]
      refine cLt (fun c => by omega) fun _ => ?_
      rw [hg] at h
      exact h
  have key : ∀ (m0 k : Nat), k ≤ N → N - k < m0 → (∀ t, t < k → longB m b t = false) → L54_7 p m0 (cs b) (.int (N : Int)) (.int (k : Int)) m b (rowsD (abv b k)) Q := by
    intro m0
    induction m0 with
    | zero => intro k _ h; omega
    | succ m0 ih =>
      intro k h1 h2 h3
      have hl := abv_len b k
      rw [hN'] at hl
      rw [L54_7_eq]
      simp only [i_int]
      refine cLt (fun hk => ⟨by omega, trivial, ?_⟩) fun hk => ?_
      · have es : (abv b k).getD k [] = rowsOf b k := by rw [← eR]; exact (abv_stable hv N (by omega) (by omega)).symm
        have hs := short k
        have hw : IntKind.wrap .i64 ((k : Int) + 1) = ((k + 1 : Nat) : Int) := by rw [wrap_id (by omega) (by omega)]; omega
        rw [rowsD_len, hl, toNat_nat, rowsD_get (by omega), es, len_slc, wrap_id (show -9223372036854775808 ≤ D.len (D.fld m 1) + ((rowsOf b k).length : Int) by omega) (by omega), hw]
        refine ⟨by omega, ?_⟩
        refine cLt (fun hbig => ?_) fun hsm => ?_
        · have : anyB (longB m b) N = true := anyB_true (i := k) (by omega) (iLt_iff.mpr hbig)
          rw [this] at h
          exact h
        have h3' : ∀ t, t < k + 1 → longB m b t = false := fun t ht => by
          by_cases e : t = k
          · subst e; exact iLt_not.mpr hsm
          · exact h3 t (by omega)
        have ihn := ih (k + 1) (by omega) (by omega) h3'
        have e : abv b (k + 1) = aS b (abv b k) k := rfl
        rw [e, aS] at ihn
        rcases bnd_case hv (show (k : Int) < D.len (cs b) by omega) with ⟨c, _⟩ | ⟨c, c3, c4, c5⟩
        · rw [c, cond_true] at ihn
          have c : iEq (D.i (D.fld (D.el (cs b) (k : Int)) 0)) (-1) = true := c
          rw [c]
          exact ihn
        · rw [c, cond_false, es] at ihn
          have c : iEq (D.i (D.fld (D.el (cs b) (k : Int)) 0)) (-1) = false := c
          rw [c]
          have hgt := split_gt c3
          refine sides_wp (hb.o.form k (by omega)) (by omega) ?_
          simp only [rs0, rsS, xs_slc]
          have g1 : D.i (D.fld (D.el (cs b) (k : Int)) 0) = cL (cAs b k) := rfl
          have g2 : D.i (D.fld (D.el (cs b) (k : Int)) 1) = cR (cAs b k) := rfl
          have e2 : D.slc (List.set (List.set (D.xs (rowsD (abv b k))) (cL (cAs b k)).toNat (D.slc (rowsOf b k ++ [sideL (cAs b k)]))) (cR (cAs b k)).toNat (D.slc (rowsOf b k ++ [sideR (cAs b k)]))) = rowsD (((abv b k).set (cL (cAs b k)).toNat (rowsOf b k ++ [sideL (cAs b k)])).set (cR (cAs b k)).toNat (rowsOf b k ++ [sideR (cAs b k)])) := by
            simp [rowsD, D.xs, List.map_set]
          have e3 : List.getD (List.set (D.xs (rowsD (abv b k))) (cL (cAs b k)).toNat (D.slc (rowsOf b k ++ [sideL (cAs b k)]))) k D.und = .slc (rowsOf b k) := by
            rw [getD_set_ne' (by omega), rowsD_get (by omega), es]
          have e4 : D.slc (List.set (D.xs (rowsD (abv b k))) (cL (cAs b k)).toNat (D.slc (rowsOf b k ++ [sideL (cAs b k)]))) = rowsD ((abv b k).set (cL (cAs b k)).toNat (rowsOf b k ++ [sideL (cAs b k)])) := rowsD_set _ _ _
          have e : D.el (cs b) (k : Int) = cAs b k := rfl
          rw [g1, g2, e, e3, e4, rowsD_len, List.length_set, hl, xs_slc]
          have eS : [sideL (cAs b k)].length = 1 := rfl
          have eS2 : [sideR (cAs b k)].length = 1 := rfl
          rw [eS, eS2]
          rw [e2]
          refine ⟨trivial, trivial, by omega, by unfold room; omega, by unfold room; omega, by omega, trivial, by omega, by unfold room; omega, by unfold room; omega, by omega, trivial, ihn⟩
      · have e : k = N := by omega
        subst e
        exact tail (anyB_false fun i hi => h3 i hi)
  exact key p 0 (by omega) (by omega) fun t ht => by omega
end
end Go.Ab

/- The law's models: made ones are valid, small and boxed. -/
namespace Go.Ab
open Go.Proofs
attribute [local irreducible] wpF

def tm (o c : Int) : D := .agg [.int o, .int c]
/-- A term of numbers. -/
def Fl (x : D) : Prop := ∃ a b : Int, x = tm a b
theorem fl_snoc {s : List D} {x : D} (h : ∀ y ∈ s, Fl y) (hx : Fl x) : ∀ y ∈ s ++ [x], Fl y := fun y hy => by
  rcases List.mem_append.mp hy with hy | hy
  · exact h y hy
  · rw [List.mem_singleton.mp hy]; exact hx
theorem xs_get_app {s : List D} {x : D} {k : Nat} (hk : k < s.length) : D.el (.slc (s ++ [x])) (k : Int) = D.el (.slc s) (k : Int) := by
  show (s ++ [x]).getD k .und = s.getD k .und
  simp only [List.getD]
  rw [List.getElem?_append_left hk]
theorem xs_get_new {s : List D} {x : D} : D.el (.slc (s ++ [x])) (s.length : Int) = x := by
  show (s ++ [x]).getD s.length .und = x
  simp [List.getD]

theorem badT_mono {l : D} {c c' M M' : Int} {k : Nat} (hc : c ≤ c') (hM : M ≤ M') (h : badT l c M k = false) : badT l c' M' k = false := by
  have f := badT_facts h
  exact badT_of f.1 (by omega) f.2.2.1 (by omega) (by omega) f.2.2.2.2.2
theorem terms_mono {l : D} {c c' M M' : Int} (hc : c ≤ c') (hM : M ≤ M') (h : termsB l c M = true) : termsB l c' M' = true :=
  terms_of fun k hk => badT_mono hc hM (terms_at h hk)

theorem terms_snoc {s : List D} {k c M : Int} (h : termsB (.slc s) k M = true) (hk : 0 ≤ k) (h1 : -M ≤ c) (h2 : c ≤ M) (h3 : c ≠ 0) : termsB (.slc (s ++ [tm k c])) (k + 1) M = true := by
  refine terms_of fun j hj => ?_
  rw [len_slc, List.length_append, List.length_singleton] at hj
  by_cases e : j = s.length
  · subst e
    have eo : tof (.slc (s ++ [tm k c])) (s.length : Nat) = k := by unfold tof; rw [xs_get_new]; rfl
    have ec : tco (.slc (s ++ [tm k c])) (s.length : Nat) = c := by unfold tco; rw [xs_get_new]; rfl
    refine badT_of (by omega) (by omega) (fun h0 => ?_) (by omega) (by omega) (by omega)
    rw [eo, show ((s.length : Int) - 1) = ((s.length - 1 : Nat) : Int) by omega]
    unfold tof
    rw [xs_get_app (by omega)]
    have f := badT_facts (terms_at h (show ((s.length - 1 : Nat) : Int) < D.len (.slc s) by rw [len_slc]; omega))
    exact f.2.1
  · have f := badT_facts (terms_at h (show (j : Int) < D.len (.slc s) by rw [len_slc]; omega))
    have eo : ∀ i : Nat, i ≤ j → tof (.slc (s ++ [tm k c])) (i : Nat) = tof (.slc s) (i : Nat) := fun i hi => by unfold tof; rw [xs_get_app (by omega)]
    have ec : tco (.slc (s ++ [tm k c])) (j : Nat) = tco (.slc s) (j : Nat) := by unfold tco; rw [xs_get_app (by omega)]
    refine badT_of (by rw [eo j (by omega)]; omega) (by rw [eo j (by omega)]; omega) (fun h0 => ?_) (by omega) (by omega) (by omega)
    rw [eo j (by omega), show ((j : Int) - 1) = ((j - 1 : Nat) : Int) by omega, eo (j - 1) (by omega), show ((j - 1 : Nat) : Int) = ((j : Int) - 1) by omega]
    exact f.2.2.1 h0

theorem terms_ge {l : D} {cols M : Int} (h : termsB l cols M = true) : ∀ {k : Nat}, (k : Int) < D.len l → (k : Int) ≤ tof l k := by
  intro k
  induction k with
  | zero => intro hk; exact (badT_facts (terms_at h hk)).1
  | succ k ih =>
    intro hk
    have := terms_inc h (show k < k + 1 by omega) hk
    have := ih (by omega)
    omega
theorem terms_len {l : D} {cols M : Int} (h : termsB l cols M = true) (hc : 0 ≤ cols) : D.len l ≤ cols := by
  have hl := ln0 l
  by_cases h0 : D.len l = 0
  · omega
  · obtain ⟨k, hk⟩ : ∃ k : Nat, D.len l = k + 1 := ⟨((D.len l) - 1).toNat, by omega⟩
    have h1 := terms_ge h (show (k : Int) < D.len l by omega)
    have h2 := (badT_facts (terms_at h (show (k : Int) < D.len l by omega))).2.1
    omega

theorem terms_set {s : List D} {c M : Int} {i : Nat} {y : D} (h : termsB (.slc s) c M = true) (hi : i < s.length) (ho : D.i (D.fld y 0) = tof (.slc s) i) (h1 : -M ≤ D.i (D.fld y 1)) (h2 : D.i (D.fld y 1) ≤ M) (h3 : D.i (D.fld y 1) ≠ 0) : termsB (.slc (s.set i y)) c M = true := by
  have go : ∀ j : Nat, tof (.slc (s.set i y)) j = tof (.slc s) j := fun j => by
    show D.i (D.fld ((s.set i y).getD j .und) 0) = D.i (D.fld (s.getD j .und) 0)
    by_cases e : i = j
    · subst e
      rw [getD_set_eq' hi]; exact ho
    · rw [getD_set_ne' e]
  refine terms_of fun j hj => ?_
  rw [len_slc, List.length_set] at hj
  have f := badT_facts (terms_at h (show (j : Int) < D.len (.slc s) by rw [len_slc]; omega))
  have hc : -M ≤ tco (.slc (s.set i y)) j ∧ tco (.slc (s.set i y)) j ≤ M ∧ tco (.slc (s.set i y)) j ≠ 0 := by
    by_cases e : i = j
    · subst e
      have : tco (.slc (s.set i y)) i = D.i (D.fld y 1) := by
        show D.i (D.fld ((s.set i y).getD i .und) 1) = _
        rw [getD_set_eq' hi]
      omega
    · have : tco (.slc (s.set i y)) j = tco (.slc s) j := by
        show D.i (D.fld ((s.set i y).getD j .und) 1) = D.i (D.fld (s.getD j .und) 1)
        rw [getD_set_ne' e]
      omega
  refine badT_of (by rw [go]; exact f.1) (by rw [go]; exact f.2.1) (fun h0 => ?_) hc.1 hc.2.1 hc.2.2
  rw [go, show ((j : Int) - 1) = ((j - 1 : Nat) : Int) by omega, go, show ((j - 1 : Nat) : Int) = ((j : Int) - 1) by omega]
  exact f.2.2.1 h0

theorem take_snoc {α : Type} {l : List α} {d : α} {k : Nat} (h : k < l.length) : l.take (k + 1) = l.take k ++ [l.getD k d] := by
  rw [List.take_add_one]
  simp [List.getD, h]

theorem wi_of {x a b : Int} (h1 : a ≤ x) (h2 : x ≤ b) : wi34 x a b = true := by
  simp only [wi34, Bool.and_eq_true, iLe_iff]; exact ⟨h1, h2⟩

theorem modB_of {c : Int} {rows goal : List D} {k : Int} (h0 : 0 ≤ c) (h1 : c ≤ 300) (hr : rows.length ≤ 400) (hg : termsB (.slc goal) c 16777216 = true) (hk : -16777216 ≤ k ∧ k ≤ 16777216) (hrow : ∀ x ∈ rows, rowB x c = true) :
    modB (.agg [.int c, .slc rows, .slc goal, .int k]) = true := by
  simp only [modB, fld0, fldS, i_int, len_slc, Bool.and_eq_true, iLe_iff, Bool.not_eq_true']
  refine ⟨⟨h0, h1, by omega⟩, hg, wi_of hk.1 hk.2, anyB_false fun i hi => ?_⟩
  rw [show D.el (.slc rows) (i : Int) = rows.getD i .und from rfl, hrow _ (getD_mem (by omega))]
  rfl

/-- A small row. -/
def SR (cols : Int) (x : D) : Prop := ∃ (s : List D) (mo : Int), x = .agg [.slc s, .int mo] ∧ termsB (.slc s) cols 9 = true ∧ -50 ≤ mo ∧ mo ≤ 50
def boxR (box : List Int) (k : Nat) : List D := (List.range k).map fun (i : Nat) => D.agg [.slc [tm (i : Int) 1], .int (box.getD i 0)]

/-- A small model in its box. -/
structure SM (m : D) (c : Nat) (rows goal : List D) (k : Int) (box : List Int) : Prop where
  eq : m = .agg [.int (c : Int), .slc (rows ++ boxR box c), .slc goal, .int k]
  cols : c ≤ 4
  len : box.length = c
  few : rows.length ≤ 6
  gfl : ∀ x ∈ goal, Fl x
  rows : ∀ x ∈ rows, SR c x
  goal : termsB (.slc goal) c 9 = true
  k0 : -9 ≤ k
  k1 : k ≤ 9
  box : ∀ v ∈ box, 0 ≤ v ∧ v ≤ 3

theorem SR.row {c : Int} {x : D} (h : SR c x) : rowB x c = true := by
  obtain ⟨s, mo, rfl, h1, h2, h3⟩ := h
  unfold rowB
  rw [Bool.and_eq_true]
  exact ⟨terms_mono (by omega) (by omega) h1, wi_of (by show _ ≤ mo; omega) (by show mo ≤ _; omega)⟩
theorem boxR_succ (box : List Int) (k : Nat) : boxR box (k + 1) = boxR box k ++ [.agg [.slc [tm (k : Int) 1], .int (box.getD k 0)]] := by
  unfold boxR
  rw [List.range_succ, List.map_append]
  rfl
theorem boxR_len (box : List Int) (k : Nat) : (boxR box k).length = k := by simp [boxR]
theorem one_terms {k : Nat} {c : Int} (h : (k : Int) < c) : termsB (.slc [tm (k : Int) 1]) c 9 = true := by
  have := terms_snoc (s := []) (k := (k : Int)) (c := 1) (M := 9) rfl (by omega) (by omega) (by omega) (by omega)
  exact terms_mono (show (k : Int) + 1 ≤ c by omega) (Int.le_refl _) this
theorem box_row {box : List Int} {c k : Nat} (hl : box.length = c) (hb : ∀ v ∈ box, 0 ≤ v ∧ v ≤ 3) (hk : k ≤ c) : ∀ x ∈ boxR box k, SR c x := by
  intro x hx
  simp only [boxR, List.mem_map, List.mem_range] at hx
  obtain ⟨i, hi, rfl⟩ := hx
  have := hb _ (getD_mem (d := 0) (show i < box.length by omega))
  exact ⟨_, _, rfl, one_terms (by omega), by omega, by omega⟩
theorem SM.all {m : D} {c : Nat} {rows goal : List D} {k : Int} {box : List Int} (h : SM m c rows goal k box) : ∀ x ∈ rows ++ boxR box c, SR c x := fun x hx => by
  rcases List.mem_append.mp hx with hx | hx
  · exact h.rows x hx
  · exact box_row h.len h.box (Nat.le_refl _) x hx
theorem small_mod {c : Nat} {rows goal : List D} {k : Int} (hc : c ≤ 4) (hr : rows.length ≤ 10) (hg : termsB (.slc goal) c 9 = true) (h0 : -9 ≤ k) (h1 : k ≤ 9) (hrow : ∀ x ∈ rows, SR c x) : modB (.agg [.int (c : Int), .slc rows, .slc goal, .int k]) = true :=
  modB_of (by omega) (by omega) (by omega) (terms_mono (by omega) (by omega) hg) ⟨by omega, by omega⟩ fun x hx => (hrow x hx).row
theorem small_mo {c : Nat} {rows goal : List D} {k : Int} (hc : c ≤ 4) (hr : rows.length ≤ 10) (hg : termsB (.slc goal) c 9 = true) (hrow : ∀ x ∈ rows, SR c x) : Mo (.agg [.int (c : Int), .slc rows, .slc goal, .int k]) := by
  refine ⟨?_, fun i hi => ?_, ?_⟩
  · show D.len (.slc rows) ≤ _
    rw [len_slc]; omega
  · have hi : (i : Int) < D.len (.slc rows) := hi
    rw [len_slc] at hi
    obtain ⟨s, mo, e, h1, _⟩ := hrow _ (getD_mem (d := .und) (show i < rows.length by omega))
    show D.len (D.fld (rows.getD i .und) 0) ≤ _
    rw [e]
    have := terms_len h1 (by omega)
    show D.len (.slc s) ≤ _
    omega
  · have := terms_len hg (by omega)
    show D.len (.slc goal) ≤ _
    omega
theorem SM.rlen {m : D} {c : Nat} {rows goal : List D} {k : Int} {box : List Int} (h : SM m c rows goal k box) : (rows ++ boxR box c).length = rows.length + c := by rw [List.length_append, boxR_len]
theorem SM.mv {m : D} {c : Nat} {rows goal : List D} {k : Int} {box : List Int} (h : SM m c rows goal k box) : modB m = true := by
  have := h.few
  have := h.cols
  rw [h.eq]
  exact small_mod h.cols (by rw [h.rlen]; omega) h.goal h.k0 h.k1 h.all
theorem SM.mo {m : D} {c : Nat} {rows goal : List D} {k : Int} {box : List Int} (h : SM m c rows goal k box) : Mo m := by
  have := h.few
  have := h.cols
  rw [h.eq]
  exact small_mo h.cols (by rw [h.rlen]; omega) h.goal h.all

section
variable {n : Nat} {Q : List D → Prop}

theorem tterms_wp {d : D} {cols : Int} (hd : Dk d) (h0 : 0 ≤ cols) (hc : cols ≤ 10) (hn : 100 ≤ n) (h : ∀ s d', termsB (.slc s) cols 9 = true → (∀ x ∈ s, Fl x) → Dk d' → Q [.slc s, d']) : wpF Try.prog A n 60 [d, .int cols] Q := by
  obtain ⟨p, rfl⟩ : ∃ p, n = p + 1 := ⟨n - 1, by omega⟩
  rw [E60]
  have key : ∀ (m0 : Nat) (k : Int) (d : D) (s : List D), 0 ≤ k → k ≤ cols → (cols - k).toNat < m0 → Dk d → termsB (.slc s) k 9 = true → (∀ x ∈ s, Fl x) → L60_3 p m0 (.int cols) (.int k) d (.slc s) Q := by
    intro m0
    induction m0 with
    | zero => intro k d s _ _ h; omega
    | succ m0 ih =>
      intro k d s h1 h2 h3 hd hs hfl
      rw [L60_3_eq]
      simp only [i_int, xs_slc]
      have hl := terms_len hs h1
      rw [len_slc] at hl
      have go : ∀ (d : D) (s : List D), k < cols → Dk d → termsB (.slc s) (k + 1) 9 = true → (∀ x ∈ s, Fl x) → L60_3 p m0 (.int cols) (.int (IntKind.wrap .i64 (k + 1))) d (.slc s) Q := fun d s hk hd hs hfl => by
        rw [wrap_id (by omega) (by omega)]
        exact ih (k + 1) d s (by omega) (by omega) (by omega) hd hs hfl
      refine cLt (fun hk => ?_) fun hk => ?_
      · refine next_wp (by omega) hd (by omega) (by omega) fun v d1 hv0 hv1 hd1 => ?_
        simp only [rs0, rsS, i_int]
        rw [wrap_id (show -9223372036854775808 ≤ v - 9 by omega) (by omega)]
        refine cNe (fun hv => ?_) fun _ => go _ _ hk hd1 (terms_mono (by omega) (by omega) hs) hfl
        refine next_wp (by omega) hd1 (by omega) (by omega) fun w d2 hw0 hw1 hd2 => ?_
        simp only [rs0, rsS, i_int]
        refine cLt (fun _ => ⟨?_, ?_⟩) fun _ => go _ _ hk hd2 (terms_mono (by omega) (by omega) hs) hfl
        · unfold room; simp only [List.length_singleton]; omega
        · exact go _ _ hk hd2 (terms_snoc hs h1 (by omega) (by omega) hv) (fl_snoc hfl ⟨_, _, rfl⟩)
      · have e : k = cols := by omega
        subst e
        exact h s d hs hfl hd
  exact key p 0 d [] (by omega) (by omega) (by omega) hd rfl fun x hx => by cases hx

/-- A model, before it is boxed. -/
theorem mmodel_wp {d : D} (hd : Dk d) (hn : 200 ≤ n) (h : ∀ (c : Nat) (rows goal : List D) (k : Int) (d' : D), c ≤ 4 → rows.length ≤ 6 → (∀ x ∈ rows, SR c x) → termsB (.slc goal) c 9 = true → (∀ x ∈ goal, Fl x) → -9 ≤ k → k ≤ 9 → Dk d' → Q [.agg [.int (c : Int), .slc rows, .slc goal, .int k], d']) : wpF Try.prog A n 89 [d, .int 4] Q := by
  obtain ⟨p, rfl⟩ : ∃ p, n = p + 1 := ⟨n - 1, by omega⟩
  rw [E89]
  simp only [i_int]
  rw [show IntKind.wrap .i64 (4 + 1) = 5 from rfl]
  refine next_wp (by omega) hd (by omega) (by omega) fun v d1 hv0 hv1 hd1 => ?_
  obtain ⟨c, rfl⟩ : ∃ c : Nat, v = c := ⟨v.toNat, by omega⟩
  simp only [rs0, rsS, i_int]
  refine next_wp (by omega) hd1 (by omega) (by omega) fun w d2 hw0 hw1 hd2 => ?_
  simp only [rs0, rsS, i_int]
  rw [wrap_id (show -9223372036854775808 ≤ w - 4 by omega) (by omega)]
  refine ⟨trivial, tterms_wp hd2 (by omega) (by omega) (by omega) fun goal d3 hg hgf hd3 => ?_⟩
  simp only [rs0, rsS, i_int]
  refine ⟨trivial, next_wp (by omega) hd3 (by omega) (by omega) fun z d4 hz0 hz1 hd4 => ?_⟩
  simp only [rs0, rsS, i_int]
  have key : ∀ (m0 : Nat) (z : Int) (d : D) (rows : List D), 0 ≤ z → (rows.length : Int) + z ≤ 6 → z.toNat < m0 → Dk d → (∀ x ∈ rows, SR c x) →
      L89_4 p m0 (.int z) d (.agg [.int 0, .slc [], .slc [], .int 0]) (.agg [.int (c : Int), .slc rows, .slc goal, .int (w - 4)]) Q := by
    intro m0
    induction m0 with
    | zero => intro z d rows _ _ h; omega
    | succ m0 ih =>
      intro z d rows h1 h2 h3 hd hrows
      rw [L89_4_eq]
      simp only [i_int, fld0, fldS, xs_slc]
      refine cLt (fun hz => ?_) fun hz => ⟨trivial, h c rows goal (w - 4) d (by omega) (by omega) hrows hg hgf (by omega) (by omega) hd⟩
      have go : ∀ (d x : D), Dk d → SR c x → L89_4 p m0 (.int (IntKind.wrap .i64 (z - 1))) d (.agg [.int 0, .slc [], .slc [], .int 0]) (.agg [.int (c : Int), .slc (rows ++ [x]), .slc goal, .int (w - 4)]) Q := fun d x hd hx => by
        rw [wrap_id (by omega) (by omega)]
        refine ih (z - 1) d (rows ++ [x]) (by omega) (by rw [List.length_append, List.length_singleton]; omega) (by omega) hd fun y hy => ?_
        rcases List.mem_append.mp hy with hy | hy
        · exact hrows y hy
        · rw [List.mem_singleton.mp hy]; exact hx
      refine tterms_wp hd (by omega) (by omega) (by omega) fun s d5 hs _ hd5 => ?_
      simp only [rs0, rsS, i_int]
      refine next_wp (by omega) hd5 (by omega) (by omega) fun mo d6 hmo0 hmo1 hd6 => ?_
      simp only [rs0, rsS, i_int]
      rw [wrap_id (show -9223372036854775808 ≤ mo - 10 by omega) (by omega)]
      refine ⟨trivial, next_wp (by omega) hd6 (by omega) (by omega) fun y d7 hy0 hy1 hd7 => ?_⟩
      simp only [rs0, rsS, i_int]
      refine cLt (fun _ => ?_) fun _ => ⟨?_, trivial, go _ _ hd7 ⟨s, mo - 10, rfl, hs, by omega, by omega⟩⟩
      · have hsl := terms_len hs (by omega)
        rw [len_slc] at hsl ⊢
        obtain ⟨S, hS⟩ : ∃ S : Nat, s.length = S := ⟨_, rfl⟩
        rw [hS]
        have inner : ∀ (m1 k : Nat) (s : List D), s.length = S → k ≤ S → S - k < m1 → termsB (.slc s) c 9 = true → L89_9 p m0 m1 (.int z) (.int (S : Int)) (.int (k : Int)) d7 (.agg [.int 0, .slc [], .slc [], .int 0]) (.agg [.int (c : Int), .slc rows, .slc goal, .int (w - 4)]) (.agg [.slc s, .int (mo - 10)]) Q := by
          intro m1
          induction m1 with
          | zero => intro k s _ _ h; omega
          | succ m1 ihm =>
            intro k s hs1 hk1 hk2 hs
            rw [L89_9_eq]
            simp only [i_int, fld0, fldS, xs_slc, len_slc]
            refine cLt (fun hk => ?_) fun hk => ?_
            · refine ⟨by omega, by omega, by omega, trivial, ?_⟩
              rw [wrap_id (by omega) (by omega), show ((k : Int) + 1) = ((k + 1 : Nat) : Int) by omega, toNat_nat]
              have f := badT_facts (terms_at hs (show (k : Int) < D.len (.slc s) by rw [len_slc]; omega))
              have ec : D.i (D.fld (List.getD s k D.und) 1) = tco (.slc s) k := rfl
              rw [ec]
              have hmm : minmax true (tco (.slc s) k) (IntKind.wrap .i64 (0 - tco (.slc s) k)) = tco (.slc s) k ∨ minmax true (tco (.slc s) k) (IntKind.wrap .i64 (0 - tco (.slc s) k)) = - tco (.slc s) k := by
                rw [wrap_id (by omega) (by omega)]
                simp only [minmax, if_true]
                split <;> omega
              refine ihm (k + 1) _ (by rw [List.length_set]; exact hs1) (by omega) (by omega) (terms_set hs (by omega) rfl ?_ ?_ ?_)
              · simp only [fld0, fldS, i_int]; omega
              · simp only [fld0, fldS, i_int]; omega
              · simp only [fld0, fldS, i_int]; omega
            · refine ⟨trivial, ?_, trivial, ?_⟩
              · unfold room; simp only [List.length_singleton]; omega
              · have hmm : minmax true (mo - 10) (IntKind.wrap .i64 (0 - (mo - 10))) = mo - 10 ∨ minmax true (mo - 10) (IntKind.wrap .i64 (0 - (mo - 10))) = 10 - mo := by
                  rw [wrap_id (by omega) (by omega)]
                  simp only [minmax, if_true]
                  split <;> omega
                exact go _ _ hd7 ⟨s, _, rfl, hs, by omega, by omega⟩
        exact inner p 0 s hS (by omega) (by omega) hs
      · unfold room; simp only [List.length_singleton]; omega
  exact key p z d4 [] hz0 (by simp only [List.length_nil]; omega) (by omega) hd4 fun x hx => by cases hx

theorem mbox_wp {d m : D} {c : Nat} (hd : Dk d) (hm : D.fld m 0 = .int (c : Int)) (hc : c ≤ 4) (hn : 100 ≤ n) (h : ∀ (box : List Int) d', box.length = c → (∀ v ∈ box, 0 ≤ v ∧ v ≤ 3) → Dk d' → Q [lst box, d']) : wpF Try.prog A n 90 [d, m] Q := by
  obtain ⟨p, rfl⟩ : ∃ p, n = p + 1 := ⟨n - 1, by omega⟩
  rw [E90, hm]
  have key : ∀ (m0 k : Nat) (d : D) (box : List Int), k ≤ c → c - k < m0 → Dk d → box.length = k → (∀ v ∈ box, 0 ≤ v ∧ v ≤ 3) → L90_3 p m0 (.int (c : Int)) (.int (k : Int)) d (lst box) Q := by
    intro m0
    induction m0 with
    | zero => intro k d box _ h; omega
    | succ m0 ih =>
      intro k d box h1 h2 hd hl hb
      rw [L90_3_eq]
      simp only [i_int]
      refine cLt (fun hk => ?_) fun hk => ?_
      · refine next_wp (by omega) hd (by omega) (by omega) fun v d1 hv0 hv1 hd1 => ?_
        simp only [rs0, rsS]
        rw [wrap_id (by omega) (by omega), show ((k : Int) + 1) = ((k + 1 : Nat) : Int) by omega]
        have e : D.slc (D.xs (lst box) ++ [.int v]) = lst (box ++ [v]) := by simp [lst, D.xs]
        have e2 : (D.xs (lst box)).length = box.length := by simp [lst, D.xs]
        rw [e, e2]
        refine ⟨by unfold room; simp only [List.length_singleton]; omega, ?_⟩
        refine ih (k + 1) d1 _ (by omega) (by omega) hd1 (by rw [List.length_append, List.length_singleton]; omega) fun x hx => ?_
        rcases List.mem_append.mp hx with hx | hx
        · exact hb x hx
        · rw [List.mem_singleton.mp hx]; omega
      · have e : k = c := by omega
        subst e
        exact h box d hl hb hd
  exact key p 0 d [] (by omega) (by omega) hd rfl fun v hv => by cases hv

theorem small_wp {c : Nat} {rows goal : List D} {k : Int} (hc : c ≤ 4) (hr : rows.length ≤ 6) (hg : termsB (.slc goal) c 9 = true) (h0 : -9 ≤ k) (h1 : k ≤ 9) (hrow : ∀ x ∈ rows, SR c x) (hn : 1100400 ≤ n) (h : Q [.bool true]) : wpF Try.prog A n 117 [.agg [.int (c : Int), .slc rows, .slc goal, .int k]] Q := by
  obtain ⟨p, rfl⟩ : ∃ p, n = p + 1 := ⟨n - 1, by omega⟩
  rw [E117]
  refine model'_wp (small_mo hc (by omega) hg hrow) (by omega) ?_
  rw [rs0, b_bool, small_mod hc (by omega) hg h0 h1 hrow]
  simp only [fld0, fldS, i_int, len_slc, Bool.not_true, cond_false]
  have hgl := terms_len hg (by omega)
  refine cLt (fun c => by omega) fun _ => cLt (fun c => by omega) fun _ => terms'_wp (by omega) (by omega) (by omega) ?_
  rw [rs0, b_bool, i_int, hg]
  simp only [Bool.not_true, cond_false]
  refine cLt (fun c => by omega) fun _ => cLt (fun c => by omega) fun _ => ?_
  refine all_loop (L := fun m0 j => L117_4 p m0 (.slc rows) (.int (rows.length : Int)) j (.agg [.int (c : Int), .slc rows, .slc goal, .int k]) Q) (bad := fun _ => false) (N := rows.length) (F := Q [.bool true]) (by omega) (fun m0 j hj hw hb hg => ?_) (fun hb => h) (fun hg m0 => ?_) p 0 (by omega) (by omega) (by omega)
  · rw [L117_4_eq]
    simp only [i_int, fld0, fldS, len_slc]
    rw [hw]
    refine cLt (fun _ => ⟨by omega, trivial, ?_⟩) fun c => by omega
    obtain ⟨s, mo, e, h2, h3, h4⟩ := hrow _ (getD_mem (d := .und) (show j < rows.length by omega))
    have e2 : D.el (.slc rows) (j : Int) = .agg [.slc s, .int mo] := e
    rw [e2]
    have hsl := terms_len h2 (by omega)
    simp only [fld0, fldS, i_int]
    refine terms'_wp (by omega) (by omega) (by omega) ?_
    rw [rs0, b_bool, i_int, h2]
    simp only [Bool.not_true, cond_false]
    exact cLt (fun c => by omega) fun _ => cLt (fun c => by omega) fun _ => hg rfl
  · rw [L117_4_eq]
    simp only [i_int]
    exact cLt (fun c => by omega) fun _ => h

theorem boxed'_wp {c : Nat} {rows goal : List D} {k : Int} {box : List Int} (hc : c ≤ 4) (hr : rows.length ≤ 6) (hg : termsB (.slc goal) c 9 = true) (h0 : -9 ≤ k) (h1 : k ≤ 9) (hrow : ∀ x ∈ rows, SR c x) (hb : box.length = c) (hbv : ∀ v ∈ box, 0 ≤ v ∧ v ≤ 3) (hn : 1100500 ≤ n)
    (h : Q [.agg [.int (c : Int), .slc (rows ++ boxR box c), .slc goal, .int k], .int 0]) : wpF Try.prog A n 91 [.agg [.int (c : Int), .slc rows, .slc goal, .int k], lst box] Q := by
  obtain ⟨p, rfl⟩ : ∃ p, n = p + 1 := ⟨n - 1, by omega⟩
  rw [E91]
  refine small_wp hc hr hg h0 h1 hrow (by omega) ?_
  have hgl := terms_len hg (by omega)
  rw [len_slc] at hgl
  rw [rs0, b_bool]
  simp only [fld0, fldS, i_int, xs_slc, len_slc, len_lst, Bool.not_true, cond_false]
  refine cLt (fun c => by omega) fun _ => cNe (fun c => by omega) fun _ => ⟨by unfold room; omega, trivial, ?_⟩
  have second : ∀ (m0 j : Nat), j ≤ c → c - j < m0 → L91_10 p m0 (lst box) (.int (box.length : Int)) (.int (j : Int)) (.agg [.int 0, .slc [], .slc [], .int 0]) (.agg [.int (c : Int), .slc (rows ++ boxR box j), .slc goal, .int k]) Q := by
    intro m0
    induction m0 with
    | zero => intro j _ h; omega
    | succ m0 ih =>
      intro j h2 h3
      rw [L91_10_eq]
      simp only [fld0, fldS, i_int, xs_slc, len_lst]
      refine cLt (fun hj => ⟨by omega, ?_⟩) fun hj => ?_
      · have hv := hbv _ (getD_mem (d := 0) (show j < box.length by omega))
        rw [el_lst _ _ (by omega), i_int]
        refine cLt (fun c => by omega) fun _ => cLt (fun c => by omega) fun _ => ?_
        have hl := boxR_len box j
        refine ⟨by unfold room; rw [List.length_append, hl, List.length_singleton]; omega, trivial, ?_⟩
        rw [wrap_id (by omega) (by omega), show ((j : Int) + 1) = ((j + 1 : Nat) : Int) by omega, List.append_assoc]
        have e : boxR box j ++ [.agg [.slc [.agg [.int (j : Int), .int 1]], .int (box.getD j 0)]] = boxR box (j + 1) := (boxR_succ box j).symm
        rw [e]
        exact ih (j + 1) (by omega) (by omega)
      · have e : j = c := by omega
        subst e
        exact ⟨trivial, h⟩
  have first : ∀ (m0 j : Nat), j ≤ rows.length → rows.length - j < m0 → L91_5 p m0 (lst box) (.slc rows) (.int (rows.length : Int)) (.int (j : Int)) (.agg [.int 0, .slc [], .slc [], .int 0]) (.agg [.int (c : Int), .slc (rows.take j), .slc goal, .int k]) Q := by
    intro m0
    induction m0 with
    | zero => intro j _ h; omega
    | succ m0 ih =>
      intro j h2 h3
      rw [L91_5_eq]
      simp only [fld0, fldS, i_int, xs_slc, len_slc]
      refine cLt (fun hj => ⟨by omega, trivial, ?_⟩) fun hj => ?_
      · obtain ⟨s, mo, e, h4, h5, h6⟩ := hrow _ (getD_mem (d := .und) (show j < rows.length by omega))
        have e2 : D.el (.slc rows) (j : Int) = .agg [.slc s, .int mo] := e
        have hsl := terms_len h4 (by omega)
        rw [len_slc] at hsl
        rw [e2]
        simp only [fld0, fldS, xs_slc]
        have hl := List.length_take_le j rows
        refine ⟨by unfold room; omega, by unfold room; rw [List.length_singleton]; omega, trivial, ?_⟩
        rw [wrap_id (by omega) (by omega), show ((j : Int) + 1) = ((j + 1 : Nat) : Int) by omega]
        have := ih (j + 1) (by omega) (by omega)
        rw [take_snoc (d := .und) (by omega), e] at this
        exact this
      · have e : j = rows.length := by omega
        subst e
        rw [List.take_length, len_lst]
        have := second p 0 (by omega) (by omega)
        rw [show boxR box 0 = [] from rfl, List.append_nil] at this
        exact this
  exact first p 0 (by omega) (by omega)

/-- What a law draws first. -/
theorem boxed_wp {d : D} (hd : Dk d) (hn : 1100600 ≤ n) (h : ∀ (m d' : D) (c : Nat) (rows goal : List D) (k : Int) (box : List Int), SM m c rows goal k box → Dk d' → Q [m, lst box, d']) : wpF Try.prog A n 48 [d] Q := by
  obtain ⟨p, rfl⟩ : ∃ p, n = p + 1 := ⟨n - 1, by omega⟩
  rw [E48]
  refine mmodel_wp hd (by omega) fun c rows goal k d1 hc hr hrow hg hgf h0 h1 hd1 => ?_
  simp only [rs0, rsS]
  refine ⟨trivial, mbox_wp hd1 rfl hc (by omega) fun box d2 hb hbv hd2 => ?_⟩
  simp only [rs0, rsS]
  refine boxed'_wp hc hr hg h0 h1 hrow hb hbv (by omega) ?_
  simp only [rs0, rsS]
  exact ⟨trivial, trivial, h _ d2 c rows goal k box ⟨rfl, hc, hb, hr, hgf, hrow, hg, h0, h1, hbv⟩ hd2⟩
end
end Go.Ab
