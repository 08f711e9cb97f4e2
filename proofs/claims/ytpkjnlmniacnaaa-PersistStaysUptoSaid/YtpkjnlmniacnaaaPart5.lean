/- Equations and plain laws of the functions that the statement reaches, part 5. Conditions: those in each theorem. -/
import Derived.Test.YtpkjnlmniacnaaaPart3
import Derived.Test.YtpkjnlmniacnaaaPart4
set_option linter.unusedVariables false
set_option linter.unusedSimpArgs false
/- Items: which are valid, values of choices, the best choice: both answers are one. -/
namespace Go.Ab
open Go.Proofs
attribute [local irreducible] wpF

def icode (x : D) : Bool := D.b (D.fld x 0)
def ifr (x : D) : Int := D.i (D.fld (D.fld x 1) 0)
def ito (x : D) : Int := D.i (D.fld (D.fld x 1) 1)
def isz (x : D) : Int := D.i (D.fld x 2)
def ign (x : D) : Int := D.i (D.fld x 3)
def goodI (x : D) : Bool := iLe 0 (ifr x) && (iLt (ifr x) (ito x) && (iLe (ito x) 1024 && (iEq (isz x) (IntKind.wrap .i64 (ito x - ifr x)) && (iLe 0 (ign x) && iLe (ign x) 1099511627776))))
def clash (y x : D) : Bool := bEq (icode x) (icode y) && (iLt (ifr x) (ito y) && iLt (ifr y) (ito x))
def badI (d : D) (k : Nat) : Bool := !goodI (D.el d k) || anyB (fun t => clash (D.el d t) (D.el d k)) k
def validI (d : D) : Bool := !anyB (badI d) (D.len d).toNat && iLe (D.len d) 10
def gi (c : List Int) (k : Nat) : Int := c.getD k 0
def badC (N : Int) (c : List Int) (k : Nat) : Bool := iLt (gi c k) 0 || (iLe N (gi c k) || (iLt 0 k && iLe (gi c k) (gi c (k - 1))))
def sumS (d : D) (c : List Int) (s : Int × Int) (k : Nat) : Int × Int := (IntKind.wrap .i64 (s.1 + ign (D.el d (gi c k))), IntKind.wrap .i64 (s.2 + isz (D.el d (gi c k))))
def choiceB (N : Int) (c : List Int) : Bool := !anyB (badC N c) c.length
def val (d : D) (c : List Int) : (Int × Int) × Bool := cond (validI d && choiceB (D.len d) c) (iter (sumS d c) (0, 0) c.length, true) ((0, 0), false)

theorem len_nn' (d : D) : 0 ≤ D.len d := by simp [D.len]
theorem len_nat' (d : D) : D.len d = ((D.len d).toNat : Nat) := by have := len_nn' d; omega
theorem anyB_mono {p : Nat → Bool} {a b : Nat} (hab : a ≤ b) (h : anyB p b = false) : anyB p a = false := by
  refine anyB_false fun i hi => ?_
  cases hp : p i with
  | false => rfl
  | true => rw [anyB_true (show i < b by omega) hp] at h; cases h
theorem anyB_get {p : Nat → Bool} {a i : Nat} (h : anyB p a = false) (hi : i < a) : p i = false := by
  cases hp : p i with
  | false => rfl
  | true => rw [anyB_true hi hp] at h; cases h

section
variable {n : Nat} {d : D} {Q : List D → Prop}

theorem good_wp (hn : 1 ≤ n) {x : D} (h : Q [.bool (goodI x)]) : wpF Try.prog A n 95 [x] Q := by
  obtain ⟨m, rfl⟩ : ∃ m, n = m + 1 := ⟨n - 1, by omega⟩
  rw [E95]
  unfold goodI ifr ito isz ign at h
  have key : cond (iLe (0 : Int) (D.i (D.fld (D.fld x 1) 0)))
     (cond (iLt (D.i (D.fld (D.fld x 1) 0)) (D.i (D.fld (D.fld x 1) 1)))
     (cond (iLe (D.i (D.fld (D.fld x 1) 1)) (1024 : Int))
     (cond (iEq (D.i (D.fld x 2)) (IntKind.wrap .i64 ((D.i (D.fld (D.fld x 1) 1)) - (D.i (D.fld (D.fld x 1) 0)))))
     (cond (iLe (0 : Int) (D.i (D.fld x 3)))
     (Q [(D.bool (iLe (D.i (D.fld x 3)) (1099511627776 : Int)))])
     (Q [(D.bool false)]))
     (Q [(D.bool false)]))
     (Q [(D.bool false)]))
     (Q [(D.bool false)]))
     (Q [(D.bool false)]) := by
    refine cnd (fun c => ?_) fun c => by rw [c, Bool.false_and] at h; exact h
    rw [c, Bool.true_and] at h
    refine cnd (fun c => ?_) fun c => by rw [c, Bool.false_and] at h; exact h
    rw [c, Bool.true_and] at h
    refine cnd (fun c => ?_) fun c => by rw [c, Bool.false_and] at h; exact h
    rw [c, Bool.true_and] at h
    refine cnd (fun c => ?_) fun c => by rw [c, Bool.false_and] at h; exact h
    rw [c, Bool.true_and] at h
    refine cnd (fun c => ?_) fun c => by rw [c, Bool.false_and] at h; exact h
    rw [c, Bool.true_and] at h
    exact h
  exact cnd (fun _ => key) fun _ => key

theorem clash_wp (hn : 1 ≤ n) {y x : D} (h : Q [.bool (clash y x)]) : wpF Try.prog A n 97 [y, x] Q := by
  obtain ⟨m, rfl⟩ : ∃ m, n = m + 1 := ⟨n - 1, by omega⟩
  rw [E97]
  unfold clash icode ifr ito at h
  refine cnd (fun c => ?_) fun c => by rw [c, Bool.false_and] at h; exact h
  rw [c, Bool.true_and] at h
  refine cnd (fun c => ?_) fun c => by rw [c, Bool.false_and] at h; exact h
  rw [c, Bool.true_and] at h
  exact h

theorem take_el {k t : Nat} (h : t < k) : D.el (D.slc (List.drop (Int.toNat 0) (List.take k (D.xs d)))) (t : Int) = D.el d t := by
  show (List.drop 0 (List.take k (D.xs d))).getD t .und = (D.xs d).getD t .und
  simp [List.getD, List.getElem?_take, h]
theorem take_len {k : Nat} (h : (k : Int) ≤ D.len d) : D.len (D.slc (List.drop (Int.toNat 0) (List.take k (D.xs d)))) = k := by
  have : D.len d = (D.xs d).length := rfl
  simp [D.len, D.xs] at *
  omega

theorem validI_wp (hl : D.len d ≤ 1000) (hn : 2000 ≤ n) (h : Q [.bool (validI d)]) : wpF Try.prog A n 54 [d] Q := by
  obtain ⟨m, rfl⟩ : ∃ m, n = m + 1 := ⟨n - 1, by omega⟩
  rw [E54]
  have hl0 := len_nn' d
  unfold validI at h
  have key : ∀ (m0 k : Nat), (k : Int) ≤ D.len d → D.len d - k < m0 → (∀ t, t < k → badI d t = false) → L54_2 m m0 d d (.int (D.len d)) (.int (k : Int)) Q := by
    intro m0
    induction m0 with
    | zero => intro k _ h; omega
    | succ m0 ih =>
      intro k h1 h2 h3
      rw [L54_2_eq]
      simp only [i_int, toNat_nat]
      refine cLt (fun c => ⟨by omega, trivial, ?_⟩) fun c => ?_
      · have hbad : badI d k = true → Q [.bool false] := fun hb => by
          rw [anyB_true (p := badI d) (i := k) (by omega) hb, Bool.not_true, Bool.false_and] at h
          exact h
        have hgood : badI d k = false → L54_2 m m0 d d (.int (D.len d)) (.int (IntKind.wrap .i64 ((k : Int) + 1))) Q := fun hb => by
          rw [wrap_id (by omega) (by omega)]
          refine ih (k + 1) (by omega) (by omega) fun t ht => ?_
          by_cases e : t = k
          · subst e; exact hb
          · exact h3 t (by omega)
        unfold badI at hbad hgood
        refine good_wp (by omega) ?_
        simp only [rs0, b_bool]
        refine cNot (fun c => ?_) fun c => ?_
        · exact hbad (by rw [c]; rfl)
        rw [c, Bool.not_true, Bool.false_or] at hbad hgood
        refine ⟨⟨by omega, by omega, by omega⟩, ?_⟩
        obtain ⟨p, rfl⟩ : ∃ p, m = p + 2 := ⟨m - 2, by omega⟩
        rw [E96, E162]
        refine found_loop (Q := fun r => cond (D.b (rs r 0)) (Q [.bool false]) (L54_2 (p + 2) m0 d d (.int (D.len d)) (.int (IntKind.wrap .i64 ((k : Int) + 1))) Q)) (x1 := .fn 97 [.ptr (D.el d k)]) (N := k) (p := fun t => clash (D.el d t) (D.el d k)) (L := L162_2 p) (call := fun x1 e Q => dynH A (wpF Try.prog A p) x1 [.imm 113] [.val 4 .imm] [e] Q) (fun m0 x0 x1 x7 x8 Q => L162_2_eq p m0 x0 x1 x7 x8 Q) (take_len h1) (by omega)
          (fun i hi Q hQ => ⟨⟨rfl, rfl, rfl, rfl⟩, by rw [take_el hi]; exact clash_wp (by omega) hQ⟩) (by omega) ?_
        rw [rs0, b_bool]
        exact cnd (fun c => hbad c) fun c => hgood c
      · rw [anyB_false (p := badI d) fun i hi => h3 i (by omega), Bool.not_false, Bool.true_and] at h
        exact h
  exact key m 0 (by omega) (by omega) fun t ht => by omega

theorem validI'_wp (hl : D.len d ≤ 1000) (hn : 2000 ≤ n) (h : Q [.bool (validI d)]) : wpF Try.prog A n 100 [d] Q := by
  obtain ⟨m, rfl⟩ : ∃ m, n = m + 1 := ⟨n - 1, by omega⟩
  rw [E100]
  have hl0 := len_nn' d
  unfold validI at h
  have key : ∀ (m0 k : Nat), (k : Int) ≤ D.len d → D.len d - k < m0 → (∀ t, t < k → badI d t = false) → L100_2 m m0 d d (.int (D.len d)) (.int (k : Int)) Q := by
    intro m0
    induction m0 with
    | zero => intro k _ h; omega
    | succ m0 ih =>
      intro k h1 h2 h3
      rw [L100_2_eq]
      simp only [i_int, toNat_nat]
      refine cLt (fun c => ⟨by omega, trivial, ?_⟩) fun c => ?_
      · have hbad : badI d k = true → Q [.bool false] := fun hb => by
          rw [anyB_true (p := badI d) (i := k) (by omega) hb, Bool.not_true, Bool.false_and] at h
          exact h
        have hgood : badI d k = false → L100_2 m m0 d d (.int (D.len d)) (.int (IntKind.wrap .i64 ((k : Int) + 1))) Q := fun hb => by
          rw [wrap_id (by omega) (by omega)]
          refine ih (k + 1) (by omega) (by omega) fun t ht => ?_
          by_cases e : t = k
          · subst e; exact hb
          · exact h3 t (by omega)
        rw [take_len h1]
        have inner : goodI (D.el d k) = true → L100_10 m m0 m d d (.int (D.len d)) (.int (k : Int)) (.slc (List.drop (Int.toNat 0) (List.take k (D.xs d)))) (.int (k : Int)) (.int 0) (D.el d k) Q := fun hg => by
          unfold badI at hbad hgood
          rw [hg, Bool.not_true, Bool.false_or] at hbad hgood
          have go : ∀ (m1 t : Nat), t ≤ k → k - t < m1 → (∀ u, u < t → clash (D.el d u) (D.el d k) = false) → L100_10 m m0 m1 d d (.int (D.len d)) (.int (k : Int)) (.slc (List.drop (Int.toNat 0) (List.take k (D.xs d)))) (.int (k : Int)) (.int (t : Int)) (D.el d k) Q := by
            intro m1
            induction m1 with
            | zero => intro t _ h; omega
            | succ m1 ih1 =>
              intro t g1 g2 g3
              rw [L100_10_eq]
              simp only [i_int]
              rw [take_len h1]
              refine cLt (fun c => ⟨by omega, trivial, ?_⟩) fun c => ?_
              · rw [take_el (show t < k by omega)]
                have hn1 : clash (D.el d t) (D.el d k) = false → L100_10 m m0 m1 d d (.int (D.len d)) (.int (k : Int)) (.slc (List.drop (Int.toNat 0) (List.take k (D.xs d)))) (.int (k : Int)) (.int (IntKind.wrap .i64 ((t : Int) + 1))) (D.el d k) Q := fun hb => by
                  rw [wrap_id (by omega) (by omega)]
                  refine ih1 (t + 1) (by omega) (by omega) fun u hu => ?_
                  by_cases e : u = t
                  · subst e; exact hb
                  · exact g3 u (by omega)
                refine cnd (fun c1 => cnd (fun c2 => cnd (fun c3 => ?_) fun c3 => ?_) fun c2 => ?_) fun c1 => ?_
                · refine hbad (anyB_true (i := t) (by omega) ?_)
                  unfold clash icode ifr ito
                  rw [c1, c2, c3]; rfl
                · refine hn1 ?_
                  unfold clash icode ifr ito
                  rw [c1, c2, c3]; rfl
                · refine hn1 ?_
                  unfold clash icode ifr ito
                  rw [c1, c2]; rfl
                · refine hn1 ?_
                  unfold clash icode ifr ito
                  rw [c1]; rfl
              · exact hgood (anyB_false fun i hi => g3 i (by omega))
          exact go m 0 (by omega) (by omega) fun u hu => by omega
        have hb0 : goodI (D.el d k) = false → Q [.bool false] := fun hg => hbad (by unfold badI; rw [hg]; rfl)
        have hnot : ∀ {a b : Int}, iLe a b = false → iLt b a = true := fun {a b} h => by
          rw [iLe_not] at h; rw [iLt_iff]; omega
        have body : cond (iLt (D.i (D.fld (D.fld (D.el d k) 1) 0)) (0 : Int))
           (Q [(D.bool false)])
           (cond (iLe (D.i (D.fld (D.fld (D.el d k) 1) 1)) (D.i (D.fld (D.fld (D.el d k) 1) 0)))
           (Q [(D.bool false)])
           (cond (iLt (1024 : Int) (D.i (D.fld (D.fld (D.el d k) 1) 1)))
           (Q [(D.bool false)])
           (cond (!(iEq (D.i (D.fld (D.el d k) 2)) (IntKind.wrap .i64 ((D.i (D.fld (D.fld (D.el d k) 1) 1)) - (D.i (D.fld (D.fld (D.el d k) 1) 0))))))
           (Q [(D.bool false)])
           (cond (iLt (D.i (D.fld (D.el d k) 3)) (0 : Int))
           (Q [(D.bool false)])
           (cond (iLt (1099511627776 : Int) (D.i (D.fld (D.el d k) 3)))
           (Q [(D.bool false)])
           ((0 ≤ (0 : Int) ∧ (0 : Int) ≤ (k : Int) ∧ (k : Int) ≤ (D.len d)) ∧ (L100_10 m m0 m d d (.int (D.len d)) (.int (k : Int)) (.slc (List.drop (Int.toNat 0) (List.take k (D.xs d)))) (.int (k : Int)) (.int 0) (D.el d k) Q))))))) := by
          have e0 : goodI (D.el d k) = (iLe 0 (D.i (D.fld (D.fld (D.el d k) 1) 0)) && (iLt (D.i (D.fld (D.fld (D.el d k) 1) 0)) (D.i (D.fld (D.fld (D.el d k) 1) 1)) && (iLe (D.i (D.fld (D.fld (D.el d k) 1) 1)) 1024 && (iEq (D.i (D.fld (D.el d k) 2)) (IntKind.wrap .i64 (D.i (D.fld (D.fld (D.el d k) 1) 1) - D.i (D.fld (D.fld (D.el d k) 1) 0))) && (iLe 0 (D.i (D.fld (D.el d k) 3)) && iLe (D.i (D.fld (D.el d k) 3)) 1099511627776))))) := rfl
          rw [e0] at inner hb0
          refine cLt (fun c => hb0 ?_) fun c1 => cLe (fun c => hb0 ?_) fun c2 => cLt (fun c => hb0 ?_) fun c3 => cNe (fun c => hb0 ?_) fun c4 => cLt (fun c => hb0 ?_) fun c5 => cLt (fun c => hb0 ?_) fun c6 => ⟨by omega, inner ?_⟩
          · rw [iLe_not.mpr (by omega), Bool.false_and]
          · rw [iLt_not.mpr (by omega), Bool.false_and, Bool.and_false]
          · rw [iLe_not.mpr (show ¬ D.i (D.fld (D.fld (D.el d k) 1) 1) ≤ 1024 by omega), Bool.false_and, Bool.and_false, Bool.and_false]
          · rw [iEq_not.mpr c, Bool.false_and, Bool.and_false, Bool.and_false, Bool.and_false]
          · rw [iLe_not.mpr (show ¬ 0 ≤ D.i (D.fld (D.el d k) 3) by omega), Bool.false_and, Bool.and_false, Bool.and_false, Bool.and_false, Bool.and_false]
          · rw [iLe_not.mpr (show ¬ D.i (D.fld (D.el d k) 3) ≤ 1099511627776 by omega), Bool.and_false, Bool.and_false, Bool.and_false, Bool.and_false, Bool.and_false]
          · rw [iLe_iff.mpr (by omega), iLt_iff.mpr (by omega), iLe_iff.mpr (by omega), iEq_iff.mpr c4, iLe_iff.mpr (by omega), iLe_iff.mpr (by omega)]
            rfl
        exact cnd (fun _ => body) fun _ => body
      · rw [anyB_false (p := badI d) fun i hi => h3 i (by omega), Bool.not_false, Bool.true_and] at h
        exact h
  exact key m 0 (by omega) (by omega) fun t ht => by omega

theorem gi_el {c : List Int} {k : Nat} (h : k < c.length) : D.i (D.el (lst c) (k : Int)) = gi c k := by
  rw [el_lst c k h]; rfl

theorem badC_cases {N : Int} {c : List Int} {k : Nat} (R : Prop) (hb : badC N c k = true → Q [.bool false]) (hg : badC N c k = false → R) (hk : k < c.length) (hl : c.length ≤ 1000000) :
    cond (iLt (gi c k) (0 : Int)) (Q [(D.bool false)])
     (cond (iLe N (gi c k)) (Q [(D.bool false)])
     (cond (iLt (0 : Int) (k : Int))
     ((0 ≤ (IntKind.wrap .i64 ((k : Int) - (1 : Int))) ∧ (IntKind.wrap .i64 ((k : Int) - (1 : Int))) < (D.len (lst c))) ∧ (cond (iLe (gi c k) (D.i (D.el (lst c) (IntKind.wrap .i64 ((k : Int) - (1 : Int))))))
     (Q [(D.bool false)]) R)) R)) := by
  unfold badC at hb hg
  refine cnd (fun c1 => hb (by rw [c1]; rfl)) fun c1 => cnd (fun c2 => hb (by rw [c1, c2]; rfl)) fun c2 => ?_
  rw [c1, c2, Bool.false_or, Bool.false_or] at hb hg
  refine cLt (fun c3 => ?_) fun c3 => hg (by rw [iLt_not.mpr c3]; rfl)
  rw [iLt_iff.mpr c3, Bool.true_and] at hb hg
  rw [wrap_id (by omega) (by omega), show ((k : Int) - 1) = ((k - 1 : Nat) : Int) by omega, gi_el (show k - 1 < c.length by omega), len_lst]
  exact ⟨by omega, cnd (fun c4 => hb c4) fun c4 => hg c4⟩

theorem choice_wp {N : Int} {c : List Int} (hl : c.length ≤ 1000) (hn : 2000 ≤ n) (h : Q [.bool (choiceB N c)]) : wpF Try.prog A n 55 [.int N, lst c] Q := by
  obtain ⟨m, rfl⟩ : ∃ m, n = m + 1 := ⟨n - 1, by omega⟩
  rw [E55, len_lst]
  unfold choiceB at h
  have key : ∀ (m0 k : Nat), k ≤ c.length → c.length - k < m0 → (∀ t, t < k → badC N c t = false) → L55_2 m m0 (.int N) (lst c) (lst c) (.int c.length) (.int (k : Int)) Q := by
    intro m0
    induction m0 with
    | zero => intro k _ h; omega
    | succ m0 ih =>
      intro k h1 h2 h3
      rw [L55_2_eq]
      simp only [i_int]
      refine cLt (fun c1 => ⟨by rw [len_lst]; omega, ?_⟩) fun c1 => ?_
      · rw [gi_el (show k < c.length by omega)]
        refine badC_cases _ (fun hb => ?_) (fun hb => ?_) (by omega) (by omega)
        · rw [anyB_true (p := badC N c) (i := k) (by omega) hb, Bool.not_true] at h
          exact h
        · rw [wrap_id (by omega) (by omega)]
          refine ih (k + 1) (by omega) (by omega) fun t ht => ?_
          by_cases e : t = k
          · subst e; exact hb
          · exact h3 t (by omega)
      · rw [anyB_false (p := badC N c) fun i hi => h3 i (by omega)] at h
        exact h
  exact key m 0 (by omega) (by omega) fun t ht => by omega

theorem badC_ok {N : Int} {c : List Int} {k : Nat} (h : badC N c k = false) : 0 ≤ gi c k ∧ gi c k < N := by
  simp only [badC, Bool.or_eq_false_iff, iLt_not, iLe_not] at h
  omega

theorem val_wp {c : List Int} (hd : D.len d ≤ 1000) (hl : c.length ≤ 1000) (hn : 3000 ≤ n) (h : Q [.int (val d c).1.1, .int (val d c).1.2, .bool (val d c).2]) : wpF Try.prog A n 103 [d, lst c] Q := by
  obtain ⟨m, rfl⟩ : ∃ m, n = m + 1 := ⟨n - 1, by omega⟩
  rw [E103]
  unfold val at h
  refine validI_wp hd (by omega) ?_
  rw [rs0, b_bool]
  refine cNot (fun c1 => by rw [c1, Bool.false_and] at h; exact h) fun c1 => ?_
  rw [c1, Bool.true_and] at h
  refine choice_wp hl (by omega) ?_
  rw [rs0, b_bool]
  refine cNot (fun c2 => by rw [c2] at h; exact h) fun c2 => ?_
  rw [c2, cond_true] at h
  have hc : anyB (badC (D.len d) c) c.length = false := by
    unfold choiceB at c2
    simpa using c2
  rw [len_lst]
  have key : ∀ (m0 k : Nat), k ≤ c.length → c.length - k < m0 → L103_5 m m0 d (.int (iter (sumS d c) (0, 0) k).1) (.int (iter (sumS d c) (0, 0) k).2) (lst c) (.int c.length) (.int (k : Int)) Q := by
    intro m0
    induction m0 with
    | zero => intro k _ h; omega
    | succ m0 ih =>
      intro k h1 h2
      rw [L103_5_eq]
      simp only [i_int]
      refine cLt (fun c3 => ⟨by rw [len_lst]; omega, ?_⟩) fun c3 => ?_
      · rw [gi_el (show k < c.length by omega)]
        have hk := badC_ok (anyB_get hc (show k < c.length by omega))
        refine ⟨hk, hk, ?_⟩
        rw [wrap_id (show -9223372036854775808 ≤ (k : Int) + 1 by omega) (by omega)]
        exact ih (k + 1) (by omega) (by omega)
      · have e : k = c.length := by omega
        subst e
        exact h
  exact key m 0 (by omega) (by omega)

theorem val'_wp {c : List Int} (hd : D.len d ≤ 1000) (hl : c.length ≤ 1000) (hn : 3000 ≤ n) (h : Q [.int (val d c).1.1, .int (val d c).1.2, .bool (val d c).2]) : wpF Try.prog A n 58 [d, lst c] Q := by
  obtain ⟨m, rfl⟩ : ∃ m, n = m + 1 := ⟨n - 1, by omega⟩
  rw [E58]
  unfold val choiceB at h
  refine validI'_wp hd (by omega) ?_
  rw [rs0, b_bool]
  refine cNot (fun c1 => by rw [c1, Bool.false_and] at h; exact h) fun c1 => ?_
  rw [c1, Bool.true_and] at h
  rw [len_lst]
  have key : ∀ (m0 k : Nat), k ≤ c.length → c.length - k < m0 → (∀ t, t < k → badC (D.len d) c t = false) → L58_5 m m0 d (lst c) (.int (iter (sumS d c) (0, 0) k).1) (.int (iter (sumS d c) (0, 0) k).2) (lst c) (.int c.length) (.int (k : Int)) Q := by
    intro m0
    induction m0 with
    | zero => intro k _ h; omega
    | succ m0 ih =>
      intro k h1 h2 h3
      rw [L58_5_eq]
      simp only [i_int]
      refine cLt (fun c3 => ⟨by rw [len_lst]; omega, ?_⟩) fun c3 => ?_
      · rw [gi_el (show k < c.length by omega)]
        rw [wrap_id (show -9223372036854775808 ≤ (k : Int) + 1 by omega) (by omega)]
        have hbad : badC (D.len d) c k = true → Q [.int 0, .int 0, .bool false] := fun hb => by
          rw [anyB_true (p := badC (D.len d) c) (i := k) (by omega) hb] at h
          exact h
        have hgood : badC (D.len d) c k = false → (0 ≤ gi c k ∧ gi c k < D.len d) ∧ ((0 ≤ gi c k ∧ gi c k < D.len d) ∧ L58_5 m m0 d (lst c) (.int (IntKind.wrap .i64 ((iter (sumS d c) (0, 0) k).1 + D.i (D.fld (D.el d (gi c k)) 3)))) (.int (IntKind.wrap .i64 ((iter (sumS d c) (0, 0) k).2 + D.i (D.fld (D.el d (gi c k)) 2)))) (lst c) (.int c.length) (.int ((k : Int) + 1)) Q) := fun hb => by
          have hk := badC_ok hb
          refine ⟨hk, hk, ih (k + 1) (by omega) (by omega) fun t ht => ?_⟩
          by_cases e : t = k
          · subst e; exact hb
          · exact h3 t (by omega)
        unfold badC at hbad hgood
        refine cnd (fun c1 => hbad (by rw [c1]; rfl)) fun c1 => cnd (fun c2 => hbad (by rw [c1, c2]; rfl)) fun c2 => ?_
        rw [c1, c2, Bool.false_or, Bool.false_or] at hbad hgood
        refine cLt (fun c3 => ?_) fun c3 => hgood (by rw [iLt_not.mpr c3]; rfl)
        rw [iLt_iff.mpr c3, Bool.true_and] at hbad hgood
        rw [wrap_id (by omega) (by omega), show ((k : Int) - 1) = ((k - 1 : Nat) : Int) by omega, gi_el (show k - 1 < c.length by omega)]
        exact ⟨by rw [len_lst]; omega, cnd (fun c4 => hbad c4) fun c4 => hgood c4⟩
      · have e : k = c.length := by omega
        subst e
        rw [anyB_false (p := badC (D.len d) c) fun i hi => h3 i (by omega)] at h
        exact h
  exact key m 0 (by omega) (by omega) fun t ht => by omega

/-- Which list comes before which. -/
def bfr : List Int → List Int → Bool
  | [], b => !b.isEmpty
  | _ :: _, [] => false
  | a :: l, b :: m => cond (iEq a b) (bfr l m) (iLt a b)

theorem cmp_wp (hn : 2 ≤ n) {x y : D} (h1 : D.i x < D.i y → Q [.int (-1)]) (h2 : D.i y < D.i x → Q [.int 1]) (h3 : D.i x = D.i y → Q [.int 0]) : wpF Try.prog A n 164 [x, y] Q := by
  obtain ⟨m, rfl⟩ : ∃ m, n = m + 2 := ⟨n - 2, by omega⟩
  rw [E164, E197, E197]
  simp only [rs0, b_bool, iEq_iff.mpr rfl, Bool.not_true, cond_false]
  exact cLt (fun c => h1 c) fun c => cLt (fun c2 => h2 c2) fun c2 => h3 (by omega)

theorem compare_wp {a b : List Int} (ha : a.length ≤ 1000) (hn : 2000 ≤ n) (h : ∀ z, (iLt z 0 = bfr a b) → Q [.int z]) : wpF Try.prog A n 104 [lst a, lst b] Q := by
  obtain ⟨m, rfl⟩ : ∃ m, n = m + 1 := ⟨n - 1, by omega⟩
  rw [E104, len_lst]
  have key : ∀ (m0 k : Nat), k ≤ a.length → a.length - k < m0 → k ≤ b.length → bfr a b = bfr (a.drop k) (b.drop k) → L104_2 m m0 (lst a) (lst b) (lst a) (.int a.length) (.int (k : Int)) Q := by
    intro m0
    induction m0 with
    | zero => intro k _ h; omega
    | succ m0 ih =>
      intro k h1 h2 h3 h4
      rw [L104_2_eq]
      simp only [i_int]
      refine cLt (fun c => ⟨by rw [len_lst]; omega, ?_⟩) fun c => ?_
      · rw [len_lst]
        rw [drop_get 0 (show k < a.length by omega)] at h4
        refine cLe (fun c1 => h 1 ?_) fun c1 => ⟨by omega, ?_⟩
        · rw [List.drop_eq_nil_of_le (show b.length ≤ k by omega)] at h4
          rw [h4]; rfl
        · rw [drop_get 0 (show k < b.length by omega), bfr] at h4
          rw [el_lst a k (by omega), el_lst b k (by omega)]
          refine cmp_wp (by omega) (fun e => ?_) (fun e => ?_) fun e => ?_
          · simp only [i_int] at e
            rw [iEq_not.mpr (by omega), cond_false, iLt_iff.mpr e] at h4
            rw [rs0, i_int, show iEq (-1) 0 = false from rfl, Bool.not_false, cond_true]
            exact h (-1) (by rw [h4]; rfl)
          · simp only [i_int] at e
            rw [iEq_not.mpr (by omega), cond_false, iLt_not.mpr (by omega)] at h4
            rw [rs0, i_int, show iEq 1 0 = false from rfl, Bool.not_false, cond_true]
            exact h 1 (by rw [h4]; rfl)
          · simp only [i_int] at e
            rw [iEq_iff.mpr e, cond_true] at h4
            rw [rs0, i_int, show iEq 0 0 = true from rfl, Bool.not_true, cond_false, wrap_id (by omega) (by omega)]
            exact ih (k + 1) (by omega) (by omega) (by omega) h4
      · rw [List.drop_eq_nil_of_le (show a.length ≤ k by omega)] at h4
        rw [len_lst, len_lst]
        refine cLt (fun c1 => h (-1) ?_) fun c1 => h 0 ?_
        · rw [h4, drop_get 0 (show k < b.length by omega)]; rfl
        · rw [h4, List.drop_eq_nil_of_le (show b.length ≤ k by omega)]; rfl
  exact key m 0 (by omega) (by omega) (by omega) rfl

end
end Go.Ab

/- The best choice of items: both answers are one; the example; items that are made. -/
namespace Go.Ab
open Go.Proofs
attribute [local irreducible] wpF

theorem wrapu_id {x : Int} (h1 : 0 ≤ x) (h2 : x ≤ 18446744073709551615) : IntKind.wrap .u64 x = x := by
  simp only [IntKind.wrap, IntKind.bits, IntKind.signed, Bool.false_and]
  rw [if_neg (by simp)]
  omega

def bit (s : Int) (k : Nat) : Bool := iEq (IntKind.wrap .i64 (((BitVec.ofInt 64 (Int.fdiv s (2 ^ (min k 64)))) &&& (BitVec.ofInt 64 (1 : Int))).toNat : Int)) 1
def choS (s : Int) (l : List Int) (k : Nat) : List Int := cond (bit s k) (l ++ [(k : Int)]) l
def cho (N : Nat) (s : Int) : List Int := iter (choS s) [] N
def bestS (d : D) (w : Int) (S : List Int × (Int × Int)) (s : Nat) : List Int × (Int × Int) :=
  cond (iLt w (val d (cho (D.len d).toNat s)).1.2) S
    (cond (iLt S.2.1 (val d (cho (D.len d).toNat s)).1.1) (cho (D.len d).toNat s, (val d (cho (D.len d).toNat s)).1)
      (cond (iEq (val d (cho (D.len d).toNat s)).1.1 S.2.1)
        (cond (iLt (val d (cho (D.len d).toNat s)).1.2 S.2.2) (cho (D.len d).toNat s, (val d (cho (D.len d).toNat s)).1)
          (cond (iEq (val d (cho (D.len d).toNat s)).1.2 S.2.2)
            (cond (bfr (cho (D.len d).toNat s) S.1) (cho (D.len d).toNat s, (val d (cho (D.len d).toNat s)).1) S) S)) S))
def best (d : D) (w : Int) : List Int × Int :=
  cond (!validI d) ([], 43) (cond (iLt w 0) ([], 3) (cond (iLt 256 w) ([], 3) ((iter (bestS d w) ([], 0, 0) (2 ^ (D.len d).toNat)).1, 0)))

theorem cho_len (s : Int) : ∀ N, (cho N s).length ≤ N := by
  intro N
  induction N with
  | zero => simp [cho, iter]
  | succ N ih =>
    have e : cho (N + 1) s = choS s (cho N s) N := rfl
    rw [e]
    unfold choS
    cases bit s N
    · simp only [cond_false]; omega
    · simp only [cond_true, List.length_append, List.length_singleton]; omega
theorem bit_zero (k : Nat) : bit 0 k = false := by
  unfold bit
  rw [Int.zero_fdiv]
  rfl
theorem cho_zero : ∀ N, cho N 0 = [] := by
  intro N
  induction N with
  | zero => rfl
  | succ N ih =>
    have e : cho (N + 1) 0 = choS 0 (cho N 0) N := rfl
    rw [e, ih, choS, bit_zero]
    rfl
theorem val_nil {d : D} (h : validI d = true) : val d [] = ((0, 0), true) := by
  unfold val
  rw [h]
  rfl
theorem best_start {d : D} {w : Int} (h : validI d = true) (hw : 0 ≤ w) : bestS d w ([], 0, 0) 0 = ([], 0, 0) := by
  unfold bestS
  rw [show ((0 : Nat) : Int) = 0 from rfl, cho_zero, val_nil h]
  simp only
  rw [iLt_not.mpr (by omega)]
  rfl
theorem best_len {d : D} {w : Int} : ∀ k, (iter (bestS d w) ([], 0, 0) k).1.length ≤ (D.len d).toNat := by
  intro k
  induction k with
  | zero => simp [iter]
  | succ k ih =>
    simp only [iter]
    generalize iter (bestS d w) ([], 0, 0) k = S at ih
    have hc := cho_len k (D.len d).toNat
    unfold bestS
    cases iLt w (val d (cho (D.len d).toNat k)).1.2 with
    | true => exact ih
    | false =>
      simp only [cond_false]
      cases iLt S.2.1 (val d (cho (D.len d).toNat k)).1.1 with
      | true => exact hc
      | false =>
        simp only [cond_false]
        cases iEq (val d (cho (D.len d).toNat k)).1.1 S.2.1 with
        | false => exact ih
        | true =>
          simp only [cond_true]
          cases iLt (val d (cho (D.len d).toNat k)).1.2 S.2.2 with
          | true => exact hc
          | false =>
            simp only [cond_false]
            cases iEq (val d (cho (D.len d).toNat k)).1.2 S.2.2 with
            | false => exact ih
            | true =>
              simp only [cond_true]
              cases bfr (cho (D.len d).toNat k) S.1 with
              | true => exact hc
              | false => exact ih

theorem valid_len {d : D} (h : validI d = true) : D.len d ≤ 10 := by
  simp only [validI, Bool.and_eq_true, iLe_iff] at h
  exact h.2
theorem pow_le {N : Nat} (h : N ≤ 10) : 2 ^ N ≤ 1024 := Nat.pow_le_pow_right (by omega) h
theorem pow_cast {N : Nat} (h : N ≤ 10) : (1 : Int) * 2 ^ (min N 64) = ((2 ^ N : Nat) : Int) := by
  rw [Nat.min_eq_left (by omega), Int.one_mul]
  simp

section
variable {n : Nat} {d : D} {Q : List D → Prop}

/-- The loop that lists a choice. -/
theorem cho_loop {L : Nat → D → D → (List D → Prop) → Prop} {s : Int} {N : Nat} (hN : N ≤ 1000)
    (h : ∀ m (k : Nat) (l : List Int) Q, k < N → l.length ≤ k → (bit s k = true → L m (.int ((k : Int) + 1)) (lst (l ++ [(k : Int)])) Q) → (bit s k = false → L m (.int ((k : Int) + 1)) (lst l) Q) → L (m + 1) (.int (k : Int)) (lst l) Q) :
    ∀ m (k : Nat), k ≤ N → N - k < m → (∀ m', L (m' + 1) (.int (N : Int)) (lst (cho N s)) Q) → L m (.int (k : Int)) (lst (cho k s)) Q := by
  intro m
  induction m with
  | zero => intro k _ h; omega
  | succ m ih =>
    intro k h1 h2 hQ
    by_cases hk : k = N
    · subst hk; exact hQ m
    · have IH := ih (k + 1) (by omega) (by omega) hQ
      have e : cho (k + 1) s = choS s (cho k s) k := rfl
      rw [e] at IH
      unfold choS at IH
      refine h m k _ Q (by omega) (cho_len s k) (fun hb => ?_) fun hb => ?_
      · rw [hb] at IH; exact IH
      · rw [hb] at IH; exact IH

theorem best_wp {w : Int} (hd : D.len d ≤ 1000) (hn : 5000 ≤ n) (h : Q [lst (best d w).1, .int (best d w).2]) : wpF Try.prog A n 60 [d, .int w] Q := by
  obtain ⟨m, rfl⟩ : ∃ m, n = m + 1 := ⟨n - 1, by omega⟩
  rw [E60]
  unfold best at h
  refine validI_wp hd (by omega) ?_
  rw [rs0, b_bool]
  refine cNot (fun c => by rw [c] at h; exact h) fun c => ?_
  rw [c, Bool.not_true, cond_false] at h
  simp only [i_int]
  refine cnd (fun c1 => by rw [c1] at h; exact h) fun c1 => cnd (fun c2 => by rw [c1, c2] at h; exact h) fun c2 => ?_
  rw [c1, c2, cond_false, cond_false] at h
  rw [iLt_not] at c1
  have hl := valid_len c
  have hl0 := len_nn' d
  obtain ⟨N, hN⟩ : ∃ N : Nat, D.len d = N := ⟨(D.len d).toNat, by omega⟩
  have hN' : (D.len d).toNat = N := by omega
  have hp := pow_le (N := N) (by omega)
  rw [hN'] at h
  refine ⟨hl0, ?_⟩
  rw [hN, toNat_nat, pow_cast (by omega)]
  generalize 2 ^ N = p at hp h ⊢
  rw [wrap_id (by omega) (by omega)]
  have key : ∀ (m0 s : Nat), s ≤ p → p - s < m0 → L60_8 m m0 d (.int w) (.int (iter (bestS d w) ([], 0, 0) s).2.1) (.int (iter (bestS d w) ([], 0, 0) s).2.2) (.int (p : Int)) (.int (s : Int)) (lst (iter (bestS d w) ([], 0, 0) s).1) Q := by
    intro m0
    induction m0 with
    | zero => intro k _ h; omega
    | succ m0 ih =>
      intro s h1 h2
      rw [L60_8_eq]
      simp only [i_int]
      refine cLt (fun c3 => ?_) fun c3 => ?_
      · have IH := ih (s + 1) (by omega) (by omega)
        simp only [iter] at IH
        have hbl := best_len (d := d) (w := w) s
        revert IH hbl
        generalize iter (bestS d w) ([], 0, 0) s = S
        unfold bestS
        rw [hN']
        intro IH hbl
        show L60_12 m m0 m d (.int w) (.int S.2.1) (.int S.2.2) (.int (s : Int)) (.int (p : Int)) (.int (s : Int)) (.int (D.len d)) (.int ((0 : Nat) : Int)) (lst S.1) (lst (cho 0 s)) Q
        rw [hN]
        refine cho_loop (s := (s : Int)) (N := N) (L := fun m1 k l Q => L60_12 m m0 m1 d (.int w) (.int S.2.1) (.int S.2.2) (.int (s : Int)) (.int (p : Int)) (.int (s : Int)) (.int (N : Int)) k (lst S.1) l Q) (by omega) (fun m1 k l Q hk hkl g1 g2 => ?_) m 0 (by omega) (by omega) fun m1 => ?_
        · rw [L60_12_eq]
          simp only [i_int, toNat_nat]
          refine cLt (fun _ => ⟨by omega, ?_⟩) fun c4 => by omega
          rw [wrap_id (show -9223372036854775808 ≤ (k : Int) + 1 by omega) (by omega)]
          refine cnd (fun hb => ⟨?_, ?_⟩) fun hb => g2 hb
          · unfold room
            simp only [xs_lst, List.length_map, List.length_singleton]
            omega
          · have := g1 hb
            simp only [lst, List.map_append] at this
            exact this
        · rw [L60_12_eq]
          simp only [i_int]
          refine cLt (fun c4 => by omega) fun _ => ?_
          have hcl := cho_len (s : Int) N
          refine val_wp hd (by omega) (by omega) ?_
          simp only [rs0, rsS, i_int]
          rw [wrap_id (show -9223372036854775808 ≤ (s : Int) + 1 by omega) (by omega)]
          refine cnd (fun b1 => by rw [b1] at IH; exact IH) fun b1 => ?_
          rw [b1, cond_false] at IH
          refine cnd (fun b2 => by rw [b2] at IH; exact IH) fun b2 => ?_
          rw [b2, cond_false] at IH
          refine cnd (fun b3 => ?_) fun b3 => by rw [b3] at IH; exact IH
          rw [b3, cond_true] at IH
          refine cnd (fun b4 => by rw [b4] at IH; exact IH) fun b4 => ?_
          rw [b4, cond_false] at IH
          refine cnd (fun b5 => ?_) fun b5 => by rw [b5] at IH; exact IH
          rw [b5, cond_true] at IH
          refine compare_wp (by omega) (by omega) fun z hz => ?_
          rw [rs0, i_int, hz]
          exact cnd (fun b6 => by rw [b6] at IH; exact IH) fun b6 => by rw [b6] at IH; exact IH
      · have e : s = p := by omega
        rw [e]
        exact h
  exact key m 0 (by omega) (by omega)

def threeD : D := D.slc [(D.agg [(D.bool true), (D.agg [(D.int (0 : Int)), (D.int (3 : Int))]), (D.int (3 : Int)), (D.int (5 : Int))]), (D.agg [(D.bool true), (D.agg [(D.int (3 : Int)), (D.int (5 : Int))]), (D.int (2 : Int)), (D.int (3 : Int))]), (D.agg [(D.bool false), (D.agg [(D.int (0 : Int)), (D.int (2 : Int))]), (D.int (2 : Int)), (D.int (3 : Int))])]
theorem three_best : best threeD 4 = ([1, 2], 0) := by decide +kernel

theorem awake36_wp (hn : 6000 ≤ n) (h : Q [.bool true]) : wpF Try.prog A n 32 [] Q := by
  obtain ⟨m, rfl⟩ : ∃ m, n = m + 2 := ⟨n - 2, by omega⟩
  rw [E32, E61, rs0]
  show wpF Try.prog A (m + 1) 60 [threeD, .int 4] _
  refine best_wp (by decide) (by omega) ?_
  rw [three_best]
  simp only [rs0, rsS, i_int]
  exact ⟨by decide, by decide, h⟩

/-- Items that are made. -/
def It (x : D) : Prop := ∃ (c : Bool) (f t g : Int), x = .agg [.bool c, .agg [.int f, .int t], .int (t - f), .int g] ∧ 0 ≤ f ∧ f < t ∧ t ≤ 200 ∧ 0 ≤ g ∧ g ≤ 11
structure Its (xs : List D) : Prop where
  it : ∀ x ∈ xs, It x
  ap : xs.Pairwise fun y x => icode y = icode x → ito y ≤ ifr x

theorem its_valid {xs : List D} (h : Its xs) (hl : xs.length ≤ 10) : validI (.slc xs) = true := by
  unfold validI
  have e : (D.len (.slc xs)).toNat = xs.length := rfl
  have hel : ∀ k, D.el (.slc xs) ((k : Nat) : Int) = xs.getD k .und := fun k => rfl
  rw [e, anyB_false, Bool.not_false, Bool.true_and, iLe_iff.mpr (by simp only [len_slc]; omega)]
  intro k hk
  have hx := h.it _ (getD_mem (d := .und) hk)
  unfold badI
  rw [hel]
  have hg : goodI (xs.getD k .und) = true := by
    obtain ⟨c, f, t, g, hx, h1, h2, h3, h4, h5⟩ := hx
    rw [hx]
    show (iLe 0 f && (iLt f t && (iLe t 1024 && (iEq (t - f) (IntKind.wrap .i64 (t - f)) && (iLe 0 g && iLe g 1099511627776))))) = true
    rw [wrap_id (by omega) (by omega), iLe_iff.mpr h1, iLt_iff.mpr h2, iLe_iff.mpr (by omega), iEq_iff.mpr rfl, iLe_iff.mpr h4, iLe_iff.mpr (by omega)]
    rfl
  rw [hg, Bool.not_true, Bool.false_or]
  refine anyB_false fun t ht => ?_
  rw [hel]
  have hp := List.pairwise_iff_getElem.1 h.ap t k (by omega) hk ht
  have e1 : xs.getD t .und = xs[t]'(by omega) := by simp [List.getD, show t < xs.length by omega]
  have e2 : xs.getD k .und = xs[k] := by simp [List.getD, hk]
  rw [e1, e2]
  unfold clash
  by_cases hc : icode (xs[t]'(by omega)) = icode xs[k]
  · have := hp hc
    rw [iLt_not.mpr (by omega), Bool.false_and, Bool.and_false]
  · have : bEq (icode xs[k]) (icode (xs[t]'(by omega))) = false := bEq_not.mpr fun e => hc e.symm
    rw [this, Bool.false_and]

theorem items_wp (hn : 20 ≤ n) (hd : Dk d) (h : ∀ xs d', Dk d' → xs.length ≤ 10 → Its xs → Q [.slc xs, d']) : wpF Try.prog A n 26 [d] Q := by
  obtain ⟨m, rfl⟩ : ∃ m, n = m + 1 := ⟨n - 1, by omega⟩
  rw [E26]
  refine ⟨trivial, next_wp (by omega) hd (by omega) (by omega) fun v d1 g1 g2 hd1 => ?_⟩
  simp only [rs0, rsS]
  obtain ⟨k, rfl⟩ : ∃ k : Nat, v = k := ⟨v.toNat, by omega⟩
  have key : ∀ (m0 k : Nat) (d : D) (xs : List D) (a0 a1 : Int), Dk d → k < m0 → xs.length + k ≤ 10 → Its xs → (∀ x ∈ xs, ito x ≤ if icode x then a0 else a1) → 0 ≤ a0 → a0 ≤ 12 * xs.length → 0 ≤ a1 → a1 ≤ 12 * xs.length →
      L26_4 m m0 (.int (k : Int)) d (.slc xs) (.agg [.int a0, .int a1]) Q := by
    intro m0
    induction m0 with
    | zero => intro k d xs a0 a1 _ h; omega
    | succ m0 ih =>
      intro k d xs a0 a1 hd h1 h2 h3 h4 h5 h6 h7 h8
      rw [L26_4_eq]
      simp only [i_int]
      refine cLt (fun c => ?_) fun c => h xs d hd (by omega) h3
      refine next_wp (by omega) hd (by omega) (by omega) fun v1 d1 g1 g2 hd1 => ?_
      simp only [rs0, rsS]
      refine next_wp (by omega) hd1 (by omega) (by omega) fun v2 d2 g3 g4 hd2 => ?_
      simp only [rs0, rsS, i_int]
      refine ⟨by omega, next_wp (by omega) hd2 (by omega) (by omega) fun v3 d3 g5 g6 hd3 => ?_⟩
      simp only [rs0, rsS, i_int]
      refine ⟨by omega, trivial, by omega, by omega, next_wp (by omega) hd3 (by omega) (by omega) fun v4 d4 g7 g8 hd4 => ?_⟩
      simp only [rs0, rsS, xs_slc, fs_agg]
      refine ⟨by unfold room; simp only [List.length_singleton]; omega, by omega, by omega, trivial, ?_⟩
      rw [wrap_id (show -9223372036854775808 ≤ (k : Int) - 1 by omega) (by omega), show ((k : Int) - 1) = ((k - 1 : Nat) : Int) by omega, wrap_id (show -9223372036854775808 ≤ 1 + v2 by omega) (by omega)]
      have add : ∀ (c : Bool) (f b0 b1 : Int), (if c then a0 else a1) ≤ f → f ≤ (if c then a0 else a1) + 3 → b0 = (if c then f + (1 + v2) else a0) → b1 = (if c then a1 else f + (1 + v2)) →
          L26_4 m m0 (.int ((k - 1 : Nat) : Int)) d4 (.slc (xs ++ [.agg [.bool c, .agg [.int f, .int (f + (1 + v2))], .int (1 + v2), .int v4]])) (.agg [.int b0, .int b1]) Q := by
        intro c f b0 b1 k1 k2 k3 k4
        have hf0 : 0 ≤ f := by cases c <;> simp at k1 <;> omega
        have hf1 : f ≤ 12 * xs.length + 3 := by cases c <;> simp at k2 <;> omega
        refine ih (k - 1) d4 _ b0 b1 hd4 (by omega) (by simp; omega) ⟨fun x hx => ?_, ?_⟩ (fun x hx => ?_) ?_ ?_ ?_ ?_
        · rcases List.mem_append.mp hx with hx | hx
          · exact h3.it x hx
          · simp only [List.mem_singleton] at hx
            subst hx
            exact ⟨c, f, f + (1 + v2), v4, by rw [show f + (1 + v2) - f = 1 + v2 by omega], hf0, by omega, by omega, g7, by omega⟩
        · rw [List.pairwise_append]
          refine ⟨h3.ap, by simp, fun y hy x hx => ?_⟩
          simp only [List.mem_singleton] at hx
          subst hx
          intro hc
          have hc' : icode y = c := hc
          have := h4 y hy
          rw [hc'] at this
          show ito y ≤ f
          omega
        · rcases List.mem_append.mp hx with hx | hx
          · have := h4 x hx
            cases hc : icode x <;> cases c <;> simp [hc] at this k1 k2 k3 k4 ⊢ <;> omega
          · simp only [List.mem_singleton] at hx
            subst hx
            show f + (1 + v2) ≤ if c then b0 else b1
            cases c <;> simp at k3 k4 ⊢ <;> omega
        · cases c <;> simp at k1 k2 k3 k4 ⊢ <;> omega
        · cases c <;> simp at k1 k2 k3 k4 ⊢ <;> omega
        · cases c <;> simp at k1 k2 k3 k4 ⊢ <;> omega
        · cases c <;> simp at k1 k2 k3 k4 ⊢ <;> omega
      have hv : v1 = 0 ∨ v1 = 1 := by omega
      rcases hv with rfl | rfl
      · have := add true (a0 + v3) (a0 + v3 + (1 + v2)) a1 (by simp; omega) (by simp; omega) (by simp) (by simp)
        simp only [show Int.toNat 0 = 0 from rfl, List.set_cons_zero, List.getD_cons_zero, i_int, show iEq 0 0 = true from rfl]
        rw [wrap_id (show -9223372036854775808 ≤ a0 + v3 by omega) (by omega), wrap_id (show -9223372036854775808 ≤ a0 + v3 + (1 + v2) by omega) (by omega)]
        exact this
      · have := add false (a1 + v3) a0 (a1 + v3 + (1 + v2)) (by simp; omega) (by simp; omega) (by simp) (by simp)
        simp only [show Int.toNat 1 = 1 from rfl, List.set_cons_succ, List.set_cons_zero, List.getD_cons_succ, List.getD_cons_zero, i_int, show iEq 1 0 = false from rfl]
        rw [wrap_id (show -9223372036854775808 ≤ a1 + v3 by omega) (by omega), wrap_id (show -9223372036854775808 ≤ a1 + v3 + (1 + v2) by omega) (by omega)]
        exact this
  exact key m k d1 [] 0 0 hd1 (by omega) (by simp; omega) ⟨by simp, by simp⟩ (by simp) (by omega) (by simp) (by omega) (by simp)
end
end Go.Ab

/- The statement ScratchFrees, as what its functions compute: a choice that is placed makes its addresses free, and no others. -/
namespace Go.Ab
open Go.Proofs
attribute [local irreducible] wpF

/-- A span, and spans. -/
def Sp (M : Int) (x : D) : Prop := ∃ f t : Int, x = .agg [.int f, .int t] ∧ 0 ≤ f ∧ f ≤ t ∧ t ≤ M
def inS (s : D) (a : Int) : Bool := iLe (D.i (D.fld s 0)) a && iLt a (D.i (D.fld s 1))
def scr (l : List D) (a : Int) : Bool := l.any fun s => inS s a
/-- A processor. -/
structure Pc (r : D) (cs ds : List D) : Prop where
  is : ∃ (s1 w1 b1 s2 w2 b2 mi bu dr wa en wr st mu di : Int), r = .agg [cch s1 w1 b1, cch s2 w2 b2, .int mi, .int bu, .int dr, .int wa, .int en, .int wr, .int st, .int mu, .int di, .slc cs, .slc ds] ∧
    (0 ≤ s1 ∧ s1 ≤ 4 ∧ 1 ≤ w1 ∧ w1 ≤ 3 ∧ 1 ≤ b1 ∧ b1 ≤ 4) ∧ (0 ≤ s2 ∧ s2 ≤ 4 ∧ 1 ≤ w2 ∧ w2 ≤ 3 ∧ 1 ≤ b2 ∧ b2 ≤ 4) ∧
    (0 ≤ mi ∧ mi ≤ 100) ∧ (0 ≤ bu ∧ bu ≤ 8) ∧ (1 ≤ dr ∧ dr ≤ 16) ∧ (0 ≤ wa ∧ wa ≤ 100) ∧ (0 ≤ en ∧ en ≤ 16) ∧ (0 ≤ wr ∧ wr ≤ 100) ∧ (0 ≤ st ∧ st ≤ 100) ∧ (0 ≤ mu ∧ mu ≤ 100) ∧ (0 ≤ di ∧ di ≤ 100)
  code : ∀ x ∈ cs, Sp 1024 x
  data : ∀ x ∈ ds, Sp 1024 x

section
variable {n : Nat} {Q : List D → Prop}

theorem bt109_wp (hn : 1 ≤ n) {x y z : D} (h : Q [.bool (iLe (D.i y) (D.i x) && iLe (D.i x) (D.i z))]) : wpF Try.prog A n 147 [x, y, z] Q := by
  obtain ⟨m, rfl⟩ : ∃ m, n = m + 1 := ⟨n - 1, by omega⟩
  rw [E147]
  exact cnd (fun c => by rw [c, Bool.true_and] at h; exact h) fun c => by rw [c, Bool.false_and] at h; exact h
theorem bt115_wp (hn : 1 ≤ n) {x y z : D} (h : Q [.bool (iLe (D.i y) (D.i x) && iLe (D.i x) (D.i z))]) : wpF Try.prog A n 93 [x, y, z] Q := by
  obtain ⟨m, rfl⟩ : ∃ m, n = m + 1 := ⟨n - 1, by omega⟩
  rw [E93]
  exact cnd (fun c => by rw [c, Bool.true_and] at h; exact h) fun c => by rw [c, Bool.false_and] at h; exact h

theorem ccheck_wp (hn : 2 ≤ n) {s w b : Int} (h1 : 0 ≤ s ∧ s ≤ 4 ∧ 1 ≤ w ∧ w ≤ 3 ∧ 1 ≤ b ∧ b ≤ 4) (h : Q [.int 0]) : wpF Try.prog A n 86 [cch s w b] Q := by
  obtain ⟨m, rfl⟩ : ∃ m, n = m + 1 := ⟨n - 1, by omega⟩
  rw [E86]
  simp only [cch, fld0, fldS]
  refine bt109_wp (by omega) ?_
  simp only [rs0, b_bool, i_int]
  rw [iLe_iff.mpr h1.1, iLe_iff.mpr (show s ≤ 8 by omega), Bool.true_and, Bool.not_true, cond_false]
  refine bt109_wp (by omega) ?_
  simp only [rs0, b_bool, i_int]
  rw [iLe_iff.mpr h1.2.2.1, iLe_iff.mpr (show w ≤ 4 by omega), Bool.true_and, Bool.not_true, cond_false]
  refine bt109_wp (by omega) ?_
  simp only [rs0, b_bool, i_int]
  rw [iLe_iff.mpr h1.2.2.2.2.1, iLe_iff.mpr (show b ≤ 8 by omega), Bool.true_and, Bool.not_true, cond_false]
  exact h

theorem placed_wp {l : List D} (hn : 100 ≤ n) (hl : l.length ≤ 16) (hs : ∀ x ∈ l, Sp 1024 x) (h : Q [.bool true]) : wpF Try.prog A n 94 [.slc l, .int 1024] Q := by
  obtain ⟨m, rfl⟩ : ∃ m, n = m + 3 := ⟨n - 3, by omega⟩
  rw [E94]
  refine cLe (fun c => ?_) fun c => absurd (by simp only [len_slc]; omega) c
  rw [E90, E159]
  refine found_loop (Q := fun r => Q [.bool (!D.b (rs r 0))]) (x1 := .fn 161 [.ptr (.int 1024)]) (N := l.length) (p := fun _ => false) (L := L159_2 m) (call := fun x1 e Q => dynH A (wpF Try.prog A m) x1 [.imm 104] [.val 4 .imm] [e] Q) (fun m0 x0 x1 x7 x8 Q => L159_2_eq m m0 x0 x1 x7 x8 Q) (len_slc l) (by omega)
    (fun i hi Q hQ => ⟨⟨rfl, rfl, rfl, rfl⟩, ?_⟩) (by omega) ?_
  · obtain ⟨k, rfl⟩ : ∃ k, m = k + 1 := ⟨m - 1, by omega⟩
    show wpF Try.prog A (k + 1) 161 [D.el (.slc l) (i : Int), .int 1024] Q
    rw [E161]
    have e : D.el (.slc l) (i : Int) = l.getD i .und := rfl
    rw [e]
    obtain ⟨f, t, hx, h1, h2, h3⟩ := hs _ (getD_mem (d := .und) hi)
    rw [hx]
    simp only [fld0, fldS, i_int]
    refine cLt (fun c => by omega) fun _ => cLt (fun c => by omega) fun _ => ?_
    rw [iLt_not.mpr (by omega)]
    exact hQ
  · rw [rs0, b_bool, anyB_false fun _ _ => rfl]
    exact h

theorem pcheck_wp {r : D} {cs ds : List D} (hn : 200 ≤ n) (hp : Pc r cs ds) (hc : cs.length ≤ 16) (hd : ds.length ≤ 16) (h : Q [.int 0]) : wpF Try.prog A n 53 [r] Q := by
  obtain ⟨m, rfl⟩ : ∃ m, n = m + 1 := ⟨n - 1, by omega⟩
  obtain ⟨s1, w1, b1, s2, w2, b2, mi, bu, dr, wa, en, wr, st, mu, di, rfl, g1, g2, g3, g4, g5, g6, g7, g8, g9, g10, g11⟩ := hp.is
  rw [E53]
  simp only [fld0, fldS]
  refine ccheck_wp (by omega) g1 ?_
  rw [rs0, i_int, show iEq 0 0 = true from rfl, Bool.not_true, cond_false]
  refine ccheck_wp (by omega) g2 ?_
  rw [rs0, i_int, show iEq 0 0 = true from rfl, Bool.not_true, cond_false]
  have step : ∀ (m0 k : Nat), k ≤ 6 → 6 - k < m0 → L53_8 m m0 (.int 6) (.int (k : Int)) (.agg [cch s1 w1 b1, cch s2 w2 b2, .int mi, .int bu, .int dr, .int wa, .int en, .int wr, .int st, .int mu, .int di, .slc cs, .slc ds]) (.slc [.int mi, .int wa, .int wr, .int st, .int mu, .int di]) Q := by
    intro m0
    induction m0 with
    | zero => intro k _ h; omega
    | succ m0 ih =>
      intro k h1 h2
      rw [L53_8_eq]
      simp only [i_int, xs_slc, toNat_nat]
      refine cLt (fun c => ⟨⟨by omega, by simp only [len_slc, List.length_cons, List.length_nil]; omega⟩, ?_⟩) fun c => ?_
      · have hr : ∃ z : Int, [D.int mi, .int wa, .int wr, .int st, .int mu, .int di].getD k .und = .int z ∧ 0 ≤ z ∧ z ≤ 100 := by
          have : k = 0 ∨ k = 1 ∨ k = 2 ∨ k = 3 ∨ k = 4 ∨ k = 5 := by omega
          rcases this with rfl | rfl | rfl | rfl | rfl | rfl
          · exact ⟨_, rfl, g3⟩
          · exact ⟨_, rfl, g6⟩
          · exact ⟨_, rfl, g8⟩
          · exact ⟨_, rfl, g9⟩
          · exact ⟨_, rfl, g10⟩
          · exact ⟨_, rfl, g11⟩
        obtain ⟨z, hz, z1, z2⟩ := hr
        rw [hz]
        refine bt115_wp (by omega) ?_
        simp only [rs0, b_bool, i_int]
        rw [iLe_iff.mpr z1, iLe_iff.mpr z2, Bool.true_and, Bool.not_true, cond_false, wrap_id (by omega) (by omega)]
        exact ih (k + 1) (by omega) (by omega)
      · simp only [fld0, fldS]
        refine bt115_wp (by omega) ?_
        simp only [rs0, b_bool, i_int]
        rw [iLe_iff.mpr g4.1, iLe_iff.mpr g4.2, Bool.true_and, Bool.not_true, cond_false]
        refine bt115_wp (by omega) ?_
        simp only [rs0, b_bool, i_int]
        rw [iLe_iff.mpr g5.1, iLe_iff.mpr g5.2, Bool.true_and, Bool.not_true, cond_false]
        refine bt115_wp (by omega) ?_
        simp only [rs0, b_bool, i_int]
        rw [iLe_iff.mpr g7.1, iLe_iff.mpr g7.2, Bool.true_and, Bool.not_true, cond_false]
        refine placed_wp (by omega) hc hp.code ?_
        rw [rs0, b_bool, Bool.not_true, cond_false]
        refine placed_wp (by omega) hd hp.data ?_
        rw [rs0, b_bool, Bool.not_true, cond_false]
        exact h
  exact step m 0 (by omega) (by omega)

theorem clone_wp (hn : 1 ≤ n) {l : List D} (hl : l.length ≤ 1000) (h : Q [.slc l]) : wpF Try.prog A n 56 [.slc l] Q := by
  obtain ⟨m, rfl⟩ : ∃ m, n = m + 1 := ⟨n - 1, by omega⟩
  rw [E56]
  intro b hb
  refine cnd (fun c => ?_) fun c => ⟨?_, ?_⟩
  · have h0 := hb c
    simp only [len_slc] at h0
    have : l = [] := List.length_eq_zero_iff.mp (by omega)
    subst this
    exact h
  · unfold room
    simp only [xs_slc, List.length_nil]
    omega
  · exact h

/-- A choice, in order. -/
structure Inc (N : Nat) (c : List Int) : Prop where
  rng : ∀ x ∈ c, 0 ≤ x ∧ x < N
  inc : c.Pairwise (· < ·)
theorem inc_choice {N : Nat} {c : List Int} (h : Inc N c) : choiceB (N : Int) c = true := by
  unfold choiceB
  rw [anyB_false]
  · rfl
  · intro k hk
    have hm := h.rng _ (getD_mem (d := 0) hk)
    unfold badC gi
    rw [iLt_not.mpr (by omega), iLe_not.mpr (by omega), Bool.false_or, Bool.false_or]
    by_cases hk0 : k = 0
    · subst hk0; rfl
    · have := List.pairwise_iff_getElem.1 h.inc (k - 1) k (by omega) hk (by omega)
      have e1 : c.getD (k - 1) 0 = c[k - 1]'(by omega) := by simp [List.getD, show k - 1 < c.length by omega]
      have e2 : c.getD k 0 = c[k] := by simp [List.getD, hk]
      rw [e1, e2, iLe_not.mpr (by omega), Bool.and_false]

/-- What is placed. -/
def plcS (x : D) (c : List Int) (S : List D × List D) (k : Nat) : List D × List D :=
  cond (icode (D.el x (gi c k))) (S.1 ++ [D.fld (D.el x (gi c k)) 1], S.2) (S.1, S.2 ++ [D.fld (D.el x (gi c k)) 1])
def plc (x : D) (c : List Int) (cs ds : List D) (k : Nat) : List D × List D := iter (plcS x c) (cs, ds) k

theorem plc_len (x : D) (c : List Int) (cs ds : List D) : ∀ k, (plc x c cs ds k).1.length ≤ cs.length + k ∧ (plc x c cs ds k).2.length ≤ ds.length + k := by
  intro k
  induction k with
  | zero => exact ⟨Nat.le_refl _, Nat.le_refl _⟩
  | succ k ih =>
    have e : plc x c cs ds (k + 1) = plcS x c (plc x c cs ds k) k := rfl
    rw [e, plcS]
    cases icode (D.el x (gi c k))
    · simp only [cond_false, List.length_append, List.length_singleton]; omega
    · simp only [cond_true, List.length_append, List.length_singleton]; omega

theorem it_el {xs : List D} (h : Its xs) {i : Int} (h0 : 0 ≤ i) (h1 : i < xs.length) : It (D.el (.slc xs) i) := by
  obtain ⟨k, rfl⟩ : ∃ k : Nat, i = k := ⟨i.toNat, by omega⟩
  have e : D.el (.slc xs) (k : Int) = xs.getD k .und := rfl
  rw [e]
  exact h.it _ (getD_mem (by omega))
theorem gi_rng {N : Nat} {c : List Int} (h : Inc N c) {k : Nat} (hk : k < c.length) : 0 ≤ gi c k ∧ gi c k < N := h.rng _ (getD_mem hk)

theorem plc_sp {xs : List D} (h : Its xs) {c : List Int} (hc : Inc xs.length c) {cs ds : List D} (h1 : ∀ x ∈ cs, Sp 1024 x) (h2 : ∀ x ∈ ds, Sp 1024 x) : ∀ k, k ≤ c.length → (∀ x ∈ (plc (.slc xs) c cs ds k).1, Sp 1024 x) ∧ ∀ x ∈ (plc (.slc xs) c cs ds k).2, Sp 1024 x := by
  intro k
  induction k with
  | zero => intro _; exact ⟨h1, h2⟩
  | succ k ih =>
    intro hk
    have ih := ih (by omega)
    have e : plc (.slc xs) c cs ds (k + 1) = plcS (.slc xs) c (plc (.slc xs) c cs ds k) k := rfl
    have hr := gi_rng hc (show k < c.length by omega)
    obtain ⟨cc, f, t, g, hx, k1, k2, k3, k4, k5⟩ := it_el h hr.1 hr.2
    have hs : Sp 1024 (D.fld (D.el (.slc xs) (gi c k)) 1) := by
      rw [hx]
      exact ⟨f, t, rfl, k1, by omega, by omega⟩
    rw [e, plcS]
    cases icode (D.el (.slc xs) (gi c k))
    · refine ⟨ih.1, fun x hx => ?_⟩
      rcases List.mem_append.mp hx with hx | hx
      · exact ih.2 x hx
      · simp only [List.mem_singleton] at hx; subst hx; exact hs
    · refine ⟨fun x hx => ?_, ih.2⟩
      rcases List.mem_append.mp hx with hx | hx
      · exact ih.1 x hx
      · simp only [List.mem_singleton] at hx; subst hx; exact hs

theorem place_wp {r : D} {cs ds xs : List D} {c : List Int} (hn : 3000 ≤ n) (hp : Pc r cs ds) (hc : cs.length ≤ 1) (hd : ds.length ≤ 1) (hx : xs.length ≤ 10) (hits : Its xs) (hinc : Inc xs.length c) (hcl : c.length ≤ 10)
    (h : ∀ p, D.fld p 11 = .slc (plc (.slc xs) c cs ds c.length).1 → D.fld p 12 = .slc (plc (.slc xs) c cs ds c.length).2 → Q [p, .int 0]) : wpF Try.prog A n 27 [r, .slc xs, lst c] Q := by
  obtain ⟨m, rfl⟩ : ∃ m, n = m + 1 := ⟨n - 1, by omega⟩
  rw [E27]
  refine pcheck_wp (by omega) hp (by omega) (by omega) ?_
  rw [rs0, i_int, show iEq 0 0 = true from rfl, Bool.not_true, cond_false]
  refine validI_wp (by simp only [len_slc]; omega) (by omega) ?_
  rw [rs0, b_bool, its_valid hits hx, Bool.not_true, cond_false]
  refine choice_wp (by omega) (by omega) ?_
  rw [rs0, b_bool, len_slc, inc_choice hinc, Bool.not_true, cond_false]
  obtain ⟨s1, w1, b1, s2, w2, b2, mi, bu, dr, wa, en, wr, st, mu, di, rfl, g⟩ := hp.is
  simp only [fld0, fldS]
  refine clone_wp (by omega) (by omega) ?_
  refine clone_wp (by omega) (by omega) ?_
  simp only [rs0]
  refine ⟨trivial, trivial, ?_⟩
  rw [len_lst]
  have key : ∀ (m0 k : Nat) (z : D), k ≤ c.length → c.length - k < m0 → L27_7 m m0 (.slc xs) (lst c) (.int c.length) (.int (k : Int)) (.agg [cch s1 w1 b1, cch s2 w2 b2, .int mi, .int bu, .int dr, .int wa, .int en, .int wr, .int st, .int mu, .int di, .slc (plc (.slc xs) c cs ds k).1, .slc (plc (.slc xs) c cs ds k).2]) z Q := by
    intro m0
    induction m0 with
    | zero => intro k _ _ h; omega
    | succ m0 ih =>
      intro k z h1 h2
      rw [L27_7_eq]
      simp only [i_int]
      have hpl := plc_len (.slc xs) c cs ds k
      refine cLt (fun c1 => ⟨by rw [len_lst]; omega, ?_⟩) fun c1 => ?_
      · rw [gi_el (show k < c.length by omega), len_slc]
        have hr := gi_rng hinc (show k < c.length by omega)
        have IH := ih (k + 1) z (by omega) (by omega)
        have e : plc (.slc xs) c cs ds (k + 1) = plcS (.slc xs) c (plc (.slc xs) c cs ds k) k := rfl
        rw [e, plcS] at IH
        rw [wrap_id (show -9223372036854775808 ≤ (k : Int) + 1 by omega) (by omega)]
        simp only [fld0, fldS, xs_slc]
        refine ⟨hr, cnd (fun b => ⟨hr, ?_, trivial, ?_⟩) fun b => ⟨hr, ?_, trivial, ?_⟩⟩
        · unfold room
          simp only [List.length_singleton]
          omega
        · rw [show icode (D.el (.slc xs) (gi c k)) = true from b] at IH
          exact IH
        · unfold room
          simp only [List.length_singleton]
          omega
        · rw [show icode (D.el (.slc xs) (gi c k)) = false from b] at IH
          exact IH
      · have e : k = c.length := by omega
        subst e
        obtain ⟨p1, p2⟩ := plc_sp hits hinc hp.code hp.data c.length (Nat.le_refl _)
        refine pcheck_wp (by omega) ⟨⟨s1, w1, b1, s2, w2, b2, mi, bu, dr, wa, en, wr, st, mu, di, rfl, g⟩, p1, p2⟩ (by omega) (by omega) ?_
        rw [rs0, i_int, show iEq 0 0 = true from rfl, Bool.not_true, cond_false]
        exact ⟨trivial, h _ rfl rfl⟩
  exact key m 0 _ (by omega) (by omega)

theorem scr_wp {l : List D} {a : Int} (hn : 2000 ≤ n) (hl : l.length ≤ 1000) (h : Q [.bool (scr l a)]) : wpF Try.prog A n 50 [.slc l, .int a] Q := by
  obtain ⟨m, rfl⟩ : ∃ m, n = m + 1 := ⟨n - 1, by omega⟩
  rw [E50]
  have key : ∀ (m0 k : Nat), k ≤ l.length → l.length - k < m0 → scr l a = scr (l.drop k) a → L50_2 m m0 (.slc l) (.int a) (.int (k : Int)) Q := by
    intro m0
    induction m0 with
    | zero => intro k _ h; omega
    | succ m0 ih =>
      intro k h1 h2 h3
      rw [L50_2_eq]
      simp only [i_int, len_slc]
      refine cLt (fun c => ⟨by omega, ?_⟩) fun c => ?_
      · have e : D.el (.slc l) (k : Int) = l.getD k .und := rfl
        rw [e]
        rw [drop_get .und (show k < l.length by omega)] at h3
        have e2 : scr (l.getD k .und :: l.drop (k + 1)) a = (inS (l.getD k .und) a || scr (l.drop (k + 1)) a) := by simp [scr]
        rw [e2] at h3
        have next : inS (l.getD k .und) a = false → L50_2 m m0 (.slc l) (.int a) (.int (IntKind.wrap .i64 ((k : Int) + 1))) Q := fun hb => by
          rw [wrap_id (by omega) (by omega)]
          rw [hb, Bool.false_or] at h3
          exact ih (k + 1) (by omega) (by omega) h3
        unfold inS at next h3
        refine cnd (fun c1 => ⟨by omega, cnd (fun c2 => ?_) fun c2 => next (by rw [c1, c2]; rfl)⟩) fun c1 => next (by rw [c1]; rfl)
        rw [c1, c2] at h3
        rw [h3] at h
        exact h
      · rw [List.drop_eq_nil_of_le (by omega)] at h3
        rw [h3] at h
        exact h
  exact key m 0 (by omega) (by omega) rfl
end
end Go.Ab

/- The statement ScratchFrees, as what its functions compute, joined. -/
namespace Go.Ab
open Go.Proofs
attribute [local irreducible] wpF

section
variable {n : Nat} {Q : List D → Prop}

theorem proc_wp {d : D} (hn : 20 ≤ n) (hd : Dk d) (h : ∀ r cs ds d', Dk d' → Pc r cs ds → cs.length ≤ 1 → ds.length ≤ 1 → D.fld r 11 = .slc cs → D.fld r 12 = .slc ds → Q [r, d']) : wpF Try.prog A n 12 [d] Q := by
  obtain ⟨m, rfl⟩ : ∃ m, n = m + 1 := ⟨n - 1, by omega⟩
  rw [E12]
  refine mcache_wp (by omega) hd fun s1 w1 b1 e1 p1 p2 p3 p4 p5 p6 he1 => ?_
  simp only [rs0, rsS]
  refine mcache_wp (by omega) he1 fun s2 w2 b2 e2 q1 q2 q3 q4 q5 q6 he2 => ?_
  simp only [rs0, rsS]
  refine next_wp (by omega) he2 (by omega) (by omega) fun v3 d3 x3 y3 h3 => ?_
  simp only [rs0, rsS]
  refine next_wp (by omega) h3 (by omega) (by omega) fun v4 d4 x4 y4 h4 => ?_
  simp only [rs0, rsS]
  refine next_wp (by omega) h4 (by omega) (by omega) fun v5 d5 x5 y5 h5 => ?_
  simp only [rs0, rsS]
  refine next_wp (by omega) h5 (by omega) (by omega) fun v6 d6 x6 y6 h6 => ?_
  simp only [rs0, rsS]
  refine next_wp (by omega) h6 (by omega) (by omega) fun v7 d7 x7 y7 h7 => ?_
  simp only [rs0, rsS]
  refine next_wp (by omega) h7 (by omega) (by omega) fun v8 d8 x8 y8 h8 => ?_
  simp only [rs0, rsS]
  refine next_wp (by omega) h8 (by omega) (by omega) fun v9 d9 x9 y9 h9 => ?_
  simp only [rs0, rsS]
  refine next_wp (by omega) h9 (by omega) (by omega) fun v10 d10 x10 y10 h10 => ?_
  simp only [rs0, rsS]
  refine next_wp (by omega) h10 (by omega) (by omega) fun v11 d11 x11 y11 h11 => ?_
  simp only [rs0, rsS, i_int]
  rw [wrap_id (show -9223372036854775808 ≤ 1 + v5 by omega) (by omega)]
  have fin : ∀ (cs ds : List D) (d' : D), Dk d' → (∀ x ∈ cs, Sp 1024 x) → (∀ x ∈ ds, Sp 1024 x) → cs.length ≤ 1 → ds.length ≤ 1 →
      Q [.agg [cch s1 w1 b1, cch s2 w2 b2, .int v3, .int v4, .int (1 + v5), .int v6, .int v7, .int v8, .int v9, .int v10, .int v11, .slc cs, .slc ds], d'] := fun cs ds d' hd' k1 k2 k3 k4 =>
    h _ cs ds d' hd' ⟨⟨s1, w1, b1, s2, w2, b2, v3, v4, 1 + v5, v6, v7, v8, v9, v10, v11, rfl, ⟨p1, p2, p3, p4, p5, p6⟩, ⟨q1, q2, q3, q4, q5, q6⟩, by omega, by omega, by omega, by omega, by omega, by omega, by omega, by omega, by omega⟩, k1, k2⟩ k3 k4 rfl rfl
  have sp : ∀ a b : Int, 0 ≤ a → a ≤ 100 → 0 ≤ b → b ≤ 100 → ∀ x ∈ [D.agg [.int a, .int (IntKind.wrap .i64 (a + b))]], Sp 1024 x := fun a b h1 h2 h3 h4 x hx => by
    simp only [List.mem_singleton] at hx
    subst hx
    rw [wrap_id (by omega) (by omega)]
    exact ⟨a, a + b, rfl, h1, by omega, by omega⟩
  refine ⟨trivial, next_wp (by omega) h11 (by omega) (by omega) fun v12 d12 x12 y12 h12 => ?_⟩
  simp only [rs0, rsS, i_int]
  refine cEq (fun _ => ?_) fun _ => ?_
  · refine next_wp (by omega) h12 (by omega) (by omega) fun v13 d13 x13 y13 h13 => ?_
    simp only [rs0, rsS]
    refine next_wp (by omega) h13 (by omega) (by omega) fun v14 d14 x14 y14 h14 => ?_
    simp only [rs0, rsS, i_int]
    refine ⟨trivial, next_wp (by omega) h14 (by omega) (by omega) fun v15 d15 x15 y15 h15 => ?_⟩
    simp only [rs0, rsS, i_int]
    refine cEq (fun _ => ?_) fun _ => ?_
    · refine next_wp (by omega) h15 (by omega) (by omega) fun v16 d16 x16 y16 h16 => ?_
      simp only [rs0, rsS]
      refine next_wp (by omega) h16 (by omega) (by omega) fun v17 d17 x17 y17 h17 => ?_
      simp only [rs0, rsS, i_int]
      exact ⟨trivial, trivial, fin _ _ _ h17 (sp _ _ (by omega) (by omega) (by omega) (by omega)) (sp _ _ (by omega) (by omega) (by omega) (by omega)) (by simp) (by simp)⟩
    · exact ⟨trivial, fin _ _ _ h15 (sp _ _ (by omega) (by omega) (by omega) (by omega)) (by simp) (by simp) (by simp)⟩
  · refine next_wp (by omega) h12 (by omega) (by omega) fun v18 d18 x18 y18 h18 => ?_
    simp only [rs0, rsS, i_int]
    refine cEq (fun _ => ?_) fun _ => ?_
    · refine next_wp (by omega) h18 (by omega) (by omega) fun v16 d16 x16 y16 h16 => ?_
      simp only [rs0, rsS]
      refine next_wp (by omega) h16 (by omega) (by omega) fun v17 d17 x17 y17 h17 => ?_
      simp only [rs0, rsS, i_int]
      exact ⟨trivial, trivial, fin _ _ _ h17 (by simp) (sp _ _ (by omega) (by omega) (by omega) (by omega)) (by simp) (by simp)⟩
    · exact ⟨trivial, fin _ _ _ h18 (by simp) (by simp) (by simp) (by simp)⟩

theorem scr_app (l : List D) (s : D) (a : Int) : scr (l ++ [s]) a = (scr l a || inS s a) := by simp [scr, List.any_append]

end
end Go.Ab

/- Spans in order: what the sort of spans makes of them. -/
namespace Go.Ab
open Go.Proofs
attribute [local irreducible] wpF

def fr (x : D) : Int := D.i (D.fld x 0)
def en (x : D) : Int := D.i (D.fld x 1)
theorem st_ne {l : List D} {i j : Nat} {x d : D} (h : i ≠ j) : (l.set i x).getD j d = l.getD j d := by simp [List.getD, List.getElem?_set, h]
theorem st_eq {l : List D} {i : Nat} {x d : D} (h : i < l.length) : (l.set i x).getD i d = x := by simp [List.getD, h]
/-- Two neighbours change places. -/
def swp (l : List D) (j : Nat) : List D := (l.set j (l.getD (j - 1) .und)).set (j - 1) (l.getD j .und)
theorem swp_len {l : List D} {j : Nat} : (swp l j).length = l.length := by simp [swp]
theorem swp_get {l : List D} {j : Nat} (h0 : 0 < j) (h : j < l.length) (k : Nat) : (swp l j).getD k .und = if k = j then l.getD (j - 1) .und else if k = j - 1 then l.getD j .und else l.getD k .und := by
  unfold swp
  by_cases e : k = j - 1
  · subst e; rw [st_eq (by simp; omega), if_neg (by omega), if_pos rfl]
  · rw [st_ne (Ne.symm e)]
    by_cases e2 : k = j
    · subst e2; rw [st_eq h, if_pos rfl]
    · rw [st_ne (Ne.symm e2), if_neg e2, if_neg e]
theorem mem_gd {l : List D} {x : D} : x ∈ l ↔ ∃ k, k < l.length ∧ l.getD k .und = x := by
  constructor
  · intro h
    obtain ⟨k, hk, e⟩ := List.mem_iff_getElem.1 h
    exact ⟨k, hk, by simp [List.getD, hk, e]⟩
  · rintro ⟨k, hk, rfl⟩
    exact getD_mem hk
theorem swp_mem {l : List D} {j : Nat} (h0 : 0 < j) (h : j < l.length) (x : D) : x ∈ swp l j ↔ x ∈ l := by
  rw [mem_gd, mem_gd, swp_len]
  constructor
  · rintro ⟨k, hk, e⟩
    rw [swp_get h0 h] at e
    by_cases e1 : k = j
    · rw [if_pos e1] at e; exact ⟨j - 1, by omega, e⟩
    · rw [if_neg e1] at e
      by_cases e2 : k = j - 1
      · rw [if_pos e2] at e; exact ⟨j, h, e⟩
      · rw [if_neg e2] at e; exact ⟨k, hk, e⟩
  · rintro ⟨k, hk, e⟩
    by_cases e1 : k = j
    · exact ⟨j - 1, by omega, by rw [swp_get h0 h, if_neg (by omega), if_pos rfl, ← e1]; exact e⟩
    · by_cases e2 : k = j - 1
      · exact ⟨j, h, by rw [swp_get h0 h, if_pos rfl, ← e2]; exact e⟩
      · exact ⟨k, hk, by rw [swp_get h0 h, if_neg e1, if_neg e2]; exact e⟩

section
variable {n : Nat} {Q : List D → Prop}

theorem cmp_dyn (hn : 1 ≤ n) {a b : D} (ha : Sp 1024 a) (hb : Sp 1024 b) (h : Q [.int (fr a - fr b)]) : dynH A (wpF Try.prog A n) (.fn 102 []) [.imm 104, .imm 104] [.val 3 .imm] [a, b] Q := by
  refine ⟨⟨rfl, rfl, rfl, rfl⟩, ?_⟩
  obtain ⟨k, rfl⟩ : ∃ k, n = k + 1 := ⟨n - 1, by omega⟩
  show wpF Try.prog A (k + 1) 102 [a, b] Q
  rw [E102]
  obtain ⟨f, t, rfl, h1, h2, h3⟩ := ha
  obtain ⟨f', t', rfl, h1', h2', h3'⟩ := hb
  simp only [fr, fld0, i_int] at h ⊢
  rw [wrap_id (by omega) (by omega)]
  exact h

/-- In order. -/
def Ord (l : List D) : Prop := ∀ a b, a < b → b < l.length → fr (l.getD a .und) ≤ fr (l.getD b .und)

theorem ins_wp {l0 : List D} (hl : l0.length ≤ 100) (hs : ∀ x ∈ l0, Sp 1024 x) (hn : 1000 ≤ n) (h : ∀ l, l.length = l0.length → (∀ x, x ∈ l ↔ x ∈ l0) → Ord l → Q [.slc l]) :
    wpF Try.prog A n 198 [.slc l0, .int 0, .int l0.length, .fn 102 []] Q := by
  obtain ⟨m, rfl⟩ : ∃ m, n = m + 1 := ⟨n - 1, by omega⟩
  rw [E198]
  have outer : ∀ (m0 i : Nat) (l : List D), 1 ≤ i → i ≤ l0.length + 1 → l0.length + 1 - i < m0 → l.length = l0.length → (∀ x, x ∈ l ↔ x ∈ l0) → (∀ a b, a < b → b < i → b < l.length → fr (l.getD a .und) ≤ fr (l.getD b .und)) →
      L198_1 m m0 (.int 0) (.int l0.length) (.fn 102 []) (.int (i : Int)) (.slc l) Q := by
    intro m0
    induction m0 with
    | zero => intro i l _ _ h; omega
    | succ m0 ih =>
      intro i l h1 h2 h3 h4 h5 h6
      rw [L198_1_eq]
      simp only [i_int]
      refine cLt (fun c => ?_) fun c => h l h4 h5 fun a b hab hb => h6 a b hab (by omega) hb
      have inner : ∀ (m1 j : Nat) (l : List D), j ≤ i → j < m1 → l.length = l0.length → (∀ x, x ∈ l ↔ x ∈ l0) → (∀ a b, a < b → b ≤ i → b ≠ j → fr (l.getD a .und) ≤ fr (l.getD b .und)) →
          L198_4 m m0 m1 (.int 0) (.int l0.length) (.fn 102 []) (.int (i : Int)) (.int (j : Int)) (.slc l) Q := by
        intro m1
        induction m1 with
        | zero => intro j l _ h; omega
        | succ m1 ih1 =>
          intro j l k1 k2 k3 k4 k5
          have fin : (∀ a b, a < b → b ≤ i → fr (l.getD a .und) ≤ fr (l.getD b .und)) → L198_1 m m0 (.int 0) (.int l0.length) (.fn 102 []) (.int (IntKind.wrap .i64 ((i : Int) + 1))) (.slc l) Q := fun hh => by
            rw [wrap_id (by omega) (by omega)]
            exact ih (i + 1) l (by omega) (by omega) (by omega) k3 k4 fun a b hab hb _ => hh a b hab (by omega)
          rw [L198_4_eq]
          simp only [i_int, xs_slc, len_slc]
          refine cLt (fun c1 => ?_) fun c1 => fin fun a b hab hb => k5 a b hab hb (by omega)
          rw [wrap_id (show -9223372036854775808 ≤ (j : Int) - 1 by omega) (by omega), show ((j : Int) - 1) = ((j - 1 : Nat) : Int) by omega]
          simp only [toNat_nat]
          refine ⟨by omega, by omega, cmp_dyn (by omega) (hs _ ((k4 _).mp (getD_mem (by omega)))) (hs _ ((k4 _).mp (getD_mem (by omega)))) ?_⟩
          simp only [rs0, i_int]
          refine cLt (fun c2 => ⟨by omega, by omega, by omega, trivial, ⟨by omega, by rw [List.length_set]; omega⟩, trivial, ?_⟩) fun c2 => fin fun a b hab hb => ?_
          · refine ih1 (j - 1) (swp l j) (by omega) (by omega) (by rw [swp_len]; exact k3) (fun x => (swp_mem (by omega) (by omega) x).trans (k4 x)) ?_
            intro a b hab hb hbj
            rw [swp_get (by omega) (by omega), swp_get (by omega) (by omega)]
            have ha := fun (h1 : b ≠ j) => k5 a b hab hb h1
            by_cases e : b = j
            · subst e
              rw [if_pos rfl, if_neg (by omega)]
              by_cases e2 : a = b - 1
              · rw [if_pos e2]; omega
              · rw [if_neg e2]; exact k5 a (b - 1) (by omega) (by omega) (by omega)
            · rw [if_neg e, if_neg hbj]
              by_cases e2 : a = j
              · rw [if_pos e2]; exact k5 (j - 1) b (by omega) hb e
              · rw [if_neg e2]
                by_cases e3 : a = j - 1
                · rw [if_pos e3]; exact k5 j b (by omega) hb e
                · rw [if_neg e3]; exact ha e
          · by_cases e : b = j
            · subst e
              by_cases e2 : a = b - 1
              · subst e2; omega
              · have := k5 a (b - 1) (by omega) (by omega) (by omega)
                omega
            · exact k5 a b hab hb e
      exact inner m i l (Nat.le_refl _) (by omega) h4 h5 fun a b hab hb hbi => h6 a b hab (by omega) (by omega)
  have := outer m 1 l0 (Nat.le_refl _) (by omega) (by omega) rfl (fun _ => Iff.rfl) (fun a b hab hb _ => by omega)
  simp only [i_int]
  rw [wrap_id (by omega) (by omega)]
  exact this

theorem pins_wp {l : List D} (hl : l.length ≤ 100) (h13 : 13 ≤ l.length) (hs : ∀ x ∈ l, Sp 1024 x) (ho : Ord l) (hn : 1000 ≤ n) (h : Q [.bool true, .slc l]) :
    wpF Try.prog A n 203 [.slc l, .int 0, .int l.length, .fn 102 []] Q := by
  obtain ⟨m, rfl⟩ : ∃ m, n = m + 1 := ⟨n - 1, by omega⟩
  rw [E203]
  obtain ⟨p, rfl⟩ : ∃ p, m = p + 1 := ⟨m - 1, by omega⟩
  rw [L203_3_eq]
  simp only [i_int]
  rw [show iLt 0 5 = true from rfl, cond_true]
  have key : ∀ (m1 k : Nat), 1 ≤ k → k ≤ l.length → l.length - k < m1 → L203_5 (p + 1) p m1 (.int 0) (.int l.length) (.fn 102 []) (.int (k : Int)) (.int 0) (.slc l) Q := by
    intro m1
    induction m1 with
    | zero => intro k _ _ h; omega
    | succ m1 ih =>
      intro k h1 h2 h3
      rw [L203_5_eq]
      simp only [i_int]
      refine cLt (fun c => ?_) fun c => ?_
      · refine ⟨by rw [len_slc]; omega, ?_⟩
        rw [wrap_id (show -9223372036854775808 ≤ (k : Int) - 1 by omega) (by omega), show ((k : Int) - 1) = ((k - 1 : Nat) : Int) by omega]
        refine ⟨by rw [len_slc]; omega, ?_⟩
        simp only [toNat_nat, xs_slc]
        refine cmp_dyn (by omega) (hs _ (getD_mem (by omega))) (hs _ (getD_mem (by omega))) ?_
        simp only [rs0, i_int]
        have := ho (k - 1) k (by omega) (by omega)
        rw [iLt_not.mpr (by omega), Bool.not_false, cond_true, wrap_id (by omega) (by omega)]
        exact ih (k + 1) (by omega) (by omega) (by omega)
      · have e : k = l.length := by omega
        subst e
        rw [iEq_iff.mpr rfl, cond_true]
        exact h
  have := key (p + 1) 1 (Nat.le_refl _) (by omega) (by omega)
  rw [wrap_id (by omega) (by omega)]
  exact this

theorem ord2_wp {l : List D} (hs : ∀ x ∈ l, Sp 1024 x) (ho : Ord l) (hn : 10 ≤ n) {a b : Nat} {z : D} (hab : a < b) (hb : b < l.length) (h : Q [.int (a : Int), .int (b : Int), z]) :
    wpF Try.prog A n 227 [.slc l, .int (a : Int), .int (b : Int), z, .fn 102 []] Q := by
  obtain ⟨m, rfl⟩ : ∃ m, n = m + 1 := ⟨n - 1, by omega⟩
  rw [E227]
  simp only [i_int, len_slc]
  refine ⟨by omega, by omega, cmp_dyn (by omega) ?_ ?_ ?_⟩
  · exact hs (l.getD b .und) (getD_mem (by omega))
  · exact hs (l.getD a .und) (getD_mem (by omega))
  · simp only [rs0, i_int]
    have := ho a b hab hb
    rw [iLt_not.mpr (by show ¬ fr (l.getD b .und) - fr (l.getD a .und) < 0; omega), cond_false]
    exact h

theorem pivot_wp {l : List D} (hl : l.length ≤ 40) (h13 : 13 ≤ l.length) (hs : ∀ x ∈ l, Sp 1024 x) (ho : Ord l) (hn : 1000 ≤ n) (h : ∀ z, Q [z, .int 1]) :
    wpF Try.prog A n 201 [.slc l, .int 0, .int l.length, .fn 102 []] Q := by
  obtain ⟨m, rfl⟩ : ∃ m, n = m + 3 := ⟨n - 3, by omega⟩
  rw [E201]
  simp only [i_int]
  refine ⟨by omega, by omega, by omega, ?_⟩
  rw [wrap_id (show -9223372036854775808 ≤ (l.length : Int) - 0 by omega) (by omega), Int.sub_zero, iLe_iff.mpr (show (8 : Int) ≤ l.length by omega), cond_true, iLe_not.mpr (show ¬ (50 : Int) ≤ l.length by omega), cond_false]
  have hq : Int.tdiv (l.length : Int) 4 = ((l.length / 4 : Nat) : Int) := rfl
  rw [hq]
  have hb : l.length / 4 ≤ 10 := by omega
  have hb2 : 3 ≤ l.length / 4 := by omega
  have hb3 : 4 * (l.length / 4) ≤ l.length := by omega
  generalize l.length / 4 = q at hb hb2 hb3 ⊢
  simp (disch := omega) only [wrap_id]
  rw [show (0 : Int) + (q : Int) * 1 = ((q : Nat) : Int) by omega, show (0 : Int) + (q : Int) * 2 = ((q * 2 : Nat) : Int) by omega, show (0 : Int) + (q : Int) * 3 = ((q * 3 : Nat) : Int) by omega]
  rw [E218]
  refine ord2_wp hs ho (by omega) (by omega) (by omega) ?_
  simp only [rs0, rsS]
  refine ord2_wp hs ho (by omega) (by omega) (by omega) ?_
  simp only [rs0, rsS]
  refine ord2_wp hs ho (by omega) (by omega) (by omega) ?_
  simp only [rs0, rsS, i_int]
  rw [show iEq 0 0 = true from rfl, cond_true]
  exact h _

theorem pdq_wp {l0 : List D} (hl : l0.length ≤ 40) (hs : ∀ x ∈ l0, Sp 1024 x) (ho : 13 ≤ l0.length → Ord l0) (hn : 2000 ≤ n) {z : Int} (hz : 13 ≤ l0.length → z ≠ 0)
    (h : ∀ l, l.length = l0.length → (∀ x, x ∈ l ↔ x ∈ l0) → Ord l → Q [.slc l]) : wpF Try.prog A n 163 [.slc l0, .int 0, .int l0.length, .int z, .fn 102 []] Q := by
  obtain ⟨m, rfl⟩ : ∃ m, n = m + 1 := ⟨n - 1, by omega⟩
  rw [E163]
  obtain ⟨p, rfl⟩ : ∃ p, m = p + 1 := ⟨m - 1, by omega⟩
  rw [L163_2_eq]
  simp only [i_int]
  rw [wrap_id (show -9223372036854775808 ≤ (l0.length : Int) - 0 by omega) (by omega), Int.sub_zero]
  refine cLe (fun c => ?_) fun c => ?_
  · exact ins_wp (by omega) hs (by omega) fun l h1 h2 h3 => by rw [rs0]; exact h l h1 h2 h3
  · rw [iEq_not.mpr (hz (by omega)), cond_false, b_bool, Bool.not_true, cond_false]
    refine pivot_wp (by omega) (by omega) hs (ho (by omega)) (by omega) fun z => ?_
    simp only [rs0, rsS, i_int]
    rw [show iEq 1 2 = false from rfl, cond_false, cond_true, cond_true, show iEq 1 1 = true from rfl, cond_true]
    refine pins_wp (by omega) (by omega) hs (ho (by omega)) (by omega) ?_
    rw [rs0, b_bool, cond_true, rsS, rs0]
    exact h l0 rfl (fun _ => Iff.rfl) (ho (by omega))

set_option maxRecDepth 100000 in
theorem len_wp (hn : 10 ≤ n) {N : Nat} (hN : N ≤ 16) (h : ∀ z : Int, (13 ≤ N → z ≠ 0) → Q [.int z]) : wpF Try.prog A n 88 [.int (IntKind.wrap .u64 (N : Int))] Q := by
  obtain ⟨m, rfl⟩ : ∃ m, n = m + 2 := ⟨n - 2, by omega⟩
  rw [wrapu_id (by omega) (by omega), E88, E158]
  simp only [i_int]
  rw [iLe_not.mpr (by omega), cond_false, iLe_not.mpr (by omega), cond_false, iLe_not.mpr (by omega), cond_false]
  have hw : IntKind.wrap .u8 (N : Int) = N := by
    simp only [IntKind.wrap, IntKind.bits, IntKind.signed, Bool.false_and]
    rw [if_neg (by simp)]
    omega
  rw [hw]
  refine ⟨⟨by omega, ?_⟩, ?_⟩
  · show (N : Int) < 256
    omega
  · rw [rs0]
    refine h _ fun h13 => ?_
    have : N = 13 ∨ N = 14 ∨ N = 15 ∨ N = 16 := by omega
    rcases this with rfl | rfl | rfl | rfl <;> decide +kernel

theorem sort_wp {l0 : List D} (hl : l0.length ≤ 16) (hs : ∀ x ∈ l0, Sp 1024 x) (ho : 13 ≤ l0.length → Ord l0) (hn : 3000 ≤ n)
    (h : ∀ l, l.length = l0.length → (∀ x, x ∈ l ↔ x ∈ l0) → Ord l → Q [.slc l]) : wpF Try.prog A n 101 [.slc l0, .fn 102 []] Q := by
  obtain ⟨m, rfl⟩ : ∃ m, n = m + 1 := ⟨n - 1, by omega⟩
  rw [E101]
  rw [len_slc]
  refine len_wp (by omega) hl fun z hz => ?_
  rw [rs0]
  exact pdq_wp (by omega) hs ho (by omega) hz fun l h1 h2 h3 => by rw [rs0]; exact h l h1 h2 h3

/-- How many numbers below 'N' have it. -/
def cnt (p : Nat → Bool) : Nat → Nat
  | 0 => 0
  | k + 1 => cnt p k + (if p k then 1 else 0)
theorem cnt_le (p : Nat → Bool) : ∀ N, cnt p N ≤ N
  | 0 => Nat.le_refl _
  | N + 1 => by have := cnt_le p N; simp only [cnt]; split <;> omega
theorem cnt_congr {p q : Nat → Bool} : ∀ N, (∀ a, a < N → p a = q a) → cnt p N = cnt q N
  | 0, _ => rfl
  | N + 1, h => by simp only [cnt]; rw [cnt_congr N fun a ha => h a (by omega), h N (by omega)]
theorem cnt_add {p q : Nat → Bool} {f t : Nat} (hft : f ≤ t) (hp : ∀ a, f ≤ a → a < t → p a = false) (hq : ∀ a, q a = (p a || (decide (f ≤ a) && decide (a < t)))) : ∀ N, cnt q N = cnt p N + (min N t - min N f)
  | 0 => by simp [cnt]
  | N + 1 => by
    have ih := cnt_add hft hp hq N
    simp only [cnt]
    rw [ih, hq N]
    by_cases h : f ≤ N ∧ N < t
    · rw [hp N h.1 h.2]
      simp only [h.1, h.2, decide_true, Bool.and_self, Bool.or_true, if_true, Bool.false_eq_true, if_false]
      omega
    · have : (decide (f ≤ N) && decide (N < t)) = false := by
        simp only [Bool.and_eq_false_iff, decide_eq_false_iff_not]
        omega
      rw [this, Bool.or_false]
      omega

theorem count_wp {l0 : List D} (hl : l0.length ≤ 16) (hs : ∀ x ∈ l0, Sp 1024 x) (ho : 13 ≤ l0.length → Ord l0) (hn : 5000 ≤ n) (h : Q [.int (cnt (fun a => scr l0 (a : Int)) 1024 : Nat)]) : wpF Try.prog A n 59 [.slc l0] Q := by
  obtain ⟨m, rfl⟩ : ∃ m, n = m + 1 := ⟨n - 1, by omega⟩
  rw [E59]
  refine clone_wp (by omega) (by omega) ?_
  rw [rs0]
  refine sort_wp hl hs ho (by omega) fun l g1 g2 g3 => ?_
  rw [rs0, len_slc]
  have hsl : ∀ x ∈ l, Sp 1024 x := fun x hx => hs x ((g2 x).mp hx)
  have hend : cnt (fun a => scr l0 (a : Int)) 1024 = cnt (fun a => scr (l.take l.length) (a : Int)) 1024 := cnt_congr _ fun a _ => by
    rw [List.take_length]
    unfold scr
    rw [Bool.eq_iff_iff, List.any_eq_true, List.any_eq_true]
    exact ⟨fun ⟨x, hx, e⟩ => ⟨x, (g2 x).mpr hx, e⟩, fun ⟨x, hx, e⟩ => ⟨x, (g2 x).mp hx, e⟩⟩
  rw [hend] at h
  have key : ∀ (m0 k : Nat) (at' : Nat), k ≤ l.length → l.length - k < m0 → at' ≤ 1024 → (∀ s ∈ l.take k, en s ≤ at' ∨ en s ≤ fr s) → (∀ b, b < l.length → k ≤ b → ∀ a : Int, fr (l.getD b .und) ≤ a → a < at' → scr (l.take k) a = true) →
      L59_5 m m0 (.int (cnt (fun a => scr (l.take k) (a : Int)) 1024 : Nat)) (.int (at' : Int)) (.int l.length) (.int (k : Int)) (.slc l) Q := by
    intro m0
    induction m0 with
    | zero => intro k _ _ h; omega
    | succ m0 ih =>
      intro k at' h1 h2 h3 h4 h5
      rw [L59_5_eq]
      simp only [i_int, xs_slc, toNat_nat, len_slc]
      refine cLt (fun c => ⟨by omega, trivial, ?_⟩) fun c => ?_
      · have hk : k < l.length := by omega
        have hm := hsl _ (getD_mem (d := .und) hk)
        have hfr : ∀ b, b < l.length → k + 1 ≤ b → fr (l.getD k .und) ≤ fr (l.getD b .und) := fun b hb hkb => g3 k b (by omega) hb
        have htake : l.take (k + 1) = l.take k ++ [l.getD k .und] := by
          rw [List.take_succ_eq_append_getElem hk]
          simp [List.getD, hk]
        have h5k := h5 k hk (Nat.le_refl _)
        generalize l.getD k .und = s at hm hfr htake h5k ⊢
        obtain ⟨f, t, rfl, q1, q2, q3⟩ := hm
        have hfs : fr (.agg [.int f, .int t]) = f := rfl
        have hes : en (.agg [.int f, .int t]) = t := rfl
        have hins : ∀ a : Int, inS (.agg [.int f, .int t]) a = (iLe f a && iLt a t) := fun a => rfl
        simp only [fld0, fldS, i_int]
        rw [hfs] at hfr h5k
        have hmm : minmax true (at' : Int) f = max (at' : Int) f := by
          simp only [minmax]
          simp only [if_true]
          split <;> omega
        rw [hmm]
        rw [wrap_id (show -9223372036854775808 ≤ (k : Int) + 1 by omega) (by omega)]
        have hsc : ∀ a : Int, scr (l.take (k + 1)) a = (scr (l.take k) a || (iLe f a && iLt a t)) := fun a => by rw [htake, scr_app, hins]
        have hnot : ∀ a : Int, (at' : Int) ≤ a → scr (l.take k) a = false := fun a ha => by
          unfold scr
          rw [List.any_eq_false]
          intro x hx e
          have hxl := hsl x (List.mem_of_mem_take hx)
          obtain ⟨f', t', rfl, w1, w2, w3⟩ := hxl
          have e' : (iLe f' a && iLt a t') = true := e
          rw [Bool.and_eq_true, iLe_iff, iLt_iff] at e'
          rcases h4 _ hx with h | h
          · have h : t' ≤ at' := h
            omega
          · have h : t' ≤ f' := h
            omega
        have hmem4 : ∀ z : Nat, (t ≤ z ∨ t ≤ f) → at' ≤ z → ∀ s ∈ l.take (k + 1), en s ≤ z ∨ en s ≤ fr s := fun z hz hz2 s hs' => by
          rw [htake] at hs'
          rcases List.mem_append.mp hs' with hx | hx
          · rcases h4 s hx with h | h
            · exact .inl (by omega)
            · exact .inr h
          · simp only [List.mem_singleton] at hx
            subst hx
            exact hz
        have hcl := cnt_le (fun a => scr (l.take k) (a : Int)) 1024
        refine cLt (fun c1 => ?_) fun c1 => ?_
        · obtain ⟨tn, rfl⟩ : ∃ tn : Nat, t = tn := ⟨t.toNat, by omega⟩
          obtain ⟨fn, hfn⟩ : ∃ fn : Nat, max (at' : Int) f = fn := ⟨(max (at' : Int) f).toNat, by omega⟩
          have hadd := cnt_add (p := fun a => scr (l.take k) (a : Int)) (q := fun a => scr (l.take (k + 1)) (a : Int)) (f := fn) (t := tn) (by omega) (fun a ha hb => hnot a (by omega)) (fun a => by
            show scr (l.take (k + 1)) (a : Int) = _
            rw [hsc]
            cases hp : scr (l.take k) (a : Int) with
            | true => rfl
            | false =>
              rw [Bool.false_or, Bool.false_or]
              rw [Bool.eq_iff_iff, Bool.and_eq_true, Bool.and_eq_true, iLe_iff, iLt_iff, decide_eq_true_iff, decide_eq_true_iff]
              constructor
              · rintro ⟨z1, z2⟩
                refine ⟨?_, by omega⟩
                by_cases hz : (a : Int) < at'
                · rw [h5k a z1 hz] at hp; cases hp
                · omega
              · rintro ⟨z1, z2⟩
                exact ⟨by omega, by omega⟩) 1024
          have hcl2 := cnt_le (fun a => scr (l.take (k + 1)) (a : Int)) 1024
          rw [hfn]
          rw [wrap_id (show -9223372036854775808 ≤ ((cnt (fun a => scr (l.take k) (a : Int)) 1024 : Nat) : Int) + (tn : Int) by omega) (by omega), wrap_id (by omega) (by omega)]
          have e : ((cnt (fun a => scr (l.take k) (a : Int)) 1024 : Nat) : Int) + (tn : Int) - (fn : Int) = ((cnt (fun a => scr (l.take (k + 1)) (a : Int)) 1024 : Nat) : Int) := by omega
          rw [e]
          refine ih (k + 1) tn (by omega) (by omega) (by omega) (hmem4 tn (.inl (Int.le_refl _)) (by omega)) fun b hb hkb a ha1 ha2 => ?_
          rw [hsc]
          have := hfr b hb hkb
          rw [iLe_iff.mpr (by omega), iLt_iff.mpr ha2]
          simp
        · have e : cnt (fun a => scr (l.take (k + 1)) (a : Int)) 1024 = cnt (fun a => scr (l.take k) (a : Int)) 1024 := cnt_congr _ fun a _ => by
            rw [hsc]
            cases hp : scr (l.take k) (a : Int) with
            | true => rfl
            | false =>
              rw [Bool.false_or, Bool.and_eq_false_iff, iLe_not, iLt_not]
              by_cases hz : f ≤ (a : Int)
              · right
                intro hz2
                rw [h5k a hz (by omega)] at hp; cases hp
              · exact .inl hz
          rw [← e]
          refine ih (k + 1) at' (by omega) (by omega) h3 (hmem4 at' (by omega) (Nat.le_refl _)) fun b hb hkb a ha1 ha2 => ?_
          have := hfr b hb hkb
          rw [hsc, h5k a (by omega) ha2]
          rfl
      · have e : k = l.length := by omega
        subst e
        exact h
  have := key m 0 0 (by omega) (by omega) (by omega) (by simp) (fun b _ _ a h1 h2 => by
    have hb := hsl (l.getD b .und) (getD_mem (by assumption))
    obtain ⟨f, t, hx, w1, w2, w3⟩ := hb
    rw [hx] at h1
    have h1 : f ≤ a := h1
    omega)
  have e0 : cnt (fun a => scr (l.take 0) (a : Int)) 1024 = 0 := by
    have : ∀ N, cnt (fun a : Nat => scr (l.take 0) (a : Int)) N = 0 := fun N => by
      induction N with
      | zero => rfl
      | succ N ih => simp only [cnt]; rw [ih]; simp [scr]
    exact this 1024
  rw [e0] at this
  exact this
end
end Go.Ab

/- The statement ScratchPlaces, as what its functions compute: processors are checked, choices placed, words counted. -/
namespace Go.Ab
open Go.Proofs
attribute [local irreducible] wpF

def spn (s1 w1 b1 s2 w2 b2 mi bu dr wa en wr st mu di : Int) (cs ds : List D) : D := .agg [cch s1 w1 b1, cch s2 w2 b2, .int mi, .int bu, .int dr, .int wa, .int en, .int wr, .int st, .int mu, .int di, .slc cs, .slc ds]
/-- A processor, with the time of a miss. -/
structure Pq (r : D) (mi : Int) (cs ds : List D) : Prop where
  is : ∃ (s1 w1 b1 s2 w2 b2 bu dr wa en wr st mu di : Int), r = spn s1 w1 b1 s2 w2 b2 mi bu dr wa en wr st mu di cs ds ∧
    (0 ≤ s1 ∧ s1 ≤ 4 ∧ 1 ≤ w1 ∧ w1 ≤ 3 ∧ 1 ≤ b1 ∧ b1 ≤ 4) ∧ (0 ≤ s2 ∧ s2 ≤ 4 ∧ 1 ≤ w2 ∧ w2 ≤ 3 ∧ 1 ≤ b2 ∧ b2 ≤ 4) ∧
    (-1 ≤ mi ∧ mi ≤ 100) ∧ (0 ≤ bu ∧ bu ≤ 8) ∧ (1 ≤ dr ∧ dr ≤ 16) ∧ (0 ≤ wa ∧ wa ≤ 100) ∧ (0 ≤ en ∧ en ≤ 16) ∧ (0 ≤ wr ∧ wr ≤ 100) ∧ (0 ≤ st ∧ st ≤ 100) ∧ (0 ≤ mu ∧ mu ≤ 100) ∧ (0 ≤ di ∧ di ≤ 100)
  code : ∀ x ∈ cs, Sp 1024 x
  data : ∀ x ∈ ds, Sp 1024 x
def okQ (mi : Int) (cs ds : List D) : Bool := decide (0 ≤ mi) && (decide (cs.length ≤ 16) && decide (ds.length ≤ 16))
def erQ (mi : Int) (cs ds : List D) : Int := cond (okQ mi cs ds) 0 3
/-- Any processor's parts. -/
def Pf (r : D) (cs ds : List D) : Prop := (∃ (s1 w1 b1 s2 w2 b2 mi bu dr wa en wr st mu di : Int), r = spn s1 w1 b1 s2 w2 b2 mi bu dr wa en wr st mu di cs ds) ∧ (∀ x ∈ cs, Sp 1024 x) ∧ ∀ x ∈ ds, Sp 1024 x

section
variable {n : Nat} {Q : List D → Prop}

theorem placedG_wp {l : List D} (hn : 100 ≤ n) (hl : l.length ≤ 40) (hs : ∀ x ∈ l, Sp 1024 x) (h : Q [.bool (decide (l.length ≤ 16))]) : wpF Try.prog A n 94 [.slc l, .int 1024] Q := by
  by_cases hc : l.length ≤ 16
  · exact placed_wp hn hc hs (by rw [decide_eq_true hc] at h; exact h)
  · rw [decide_eq_false hc] at h
    obtain ⟨m, rfl⟩ : ∃ m, n = m + 1 := ⟨n - 1, by omega⟩
    rw [E94]
    refine cLe (fun c => absurd c (by simp only [len_slc]; omega)) fun c => h

theorem pchk_wp {r : D} {mi : Int} {cs ds : List D} (hn : 200 ≤ n) (hp : Pq r mi cs ds) (hc : cs.length ≤ 40) (hd : ds.length ≤ 40) (h : Q [.int (erQ mi cs ds)]) : wpF Try.prog A n 53 [r] Q := by
  obtain ⟨m, rfl⟩ : ∃ m, n = m + 1 := ⟨n - 1, by omega⟩
  obtain ⟨s1, w1, b1, s2, w2, b2, bu, dr, wa, en, wr, st, mu, di, rfl, g1, g2, g3, g4, g5, g6, g7, g8, g9, g10, g11⟩ := hp.is
  rw [E53]
  simp only [spn, fld0, fldS]
  refine ccheck_wp (by omega) g1 ?_
  rw [rs0, i_int, show iEq 0 0 = true from rfl, Bool.not_true, cond_false]
  refine ccheck_wp (by omega) g2 ?_
  rw [rs0, i_int, show iEq 0 0 = true from rfl, Bool.not_true, cond_false]
  have step : ∀ (m0 k : Nat), k ≤ 6 → 6 - k < m0 → (0 < k → 0 ≤ mi) → L53_8 m m0 (.int 6) (.int (k : Int)) (spn s1 w1 b1 s2 w2 b2 mi bu dr wa en wr st mu di cs ds) (.slc [.int mi, .int wa, .int wr, .int st, .int mu, .int di]) Q := by
    intro m0
    induction m0 with
    | zero => intro k _ h; omega
    | succ m0 ih =>
      intro k h1 h2 hmi
      rw [L53_8_eq]
      simp only [i_int, xs_slc, toNat_nat]
      refine cLt (fun c => ⟨⟨by omega, by simp only [len_slc, List.length_cons, List.length_nil]; omega⟩, ?_⟩) fun c => ?_
      · have hr : ∃ z : Int, [D.int mi, .int wa, .int wr, .int st, .int mu, .int di].getD k .und = .int z ∧ (0 < k → 0 ≤ z) ∧ z ≤ 100 ∧ (k = 0 → z = mi) := by
          have : k = 0 ∨ k = 1 ∨ k = 2 ∨ k = 3 ∨ k = 4 ∨ k = 5 := by omega
          rcases this with rfl | rfl | rfl | rfl | rfl | rfl
          · exact ⟨_, rfl, by omega, g3.2, fun _ => rfl⟩
          · exact ⟨_, rfl, fun _ => g6.1, g6.2, by omega⟩
          · exact ⟨_, rfl, fun _ => g8.1, g8.2, by omega⟩
          · exact ⟨_, rfl, fun _ => g9.1, g9.2, by omega⟩
          · exact ⟨_, rfl, fun _ => g10.1, g10.2, by omega⟩
          · exact ⟨_, rfl, fun _ => g11.1, g11.2, by omega⟩
        obtain ⟨z, hz, z1, z2, z3⟩ := hr
        rw [hz]
        refine bt115_wp (by omega) ?_
        simp only [rs0, b_bool, i_int]
        rw [iLe_iff.mpr z2, Bool.and_true]
        refine cNot (fun c1 => ?_) fun c1 => ?_
        · have hz0 : ¬ 0 ≤ z := iLe_not.mp c1
          have hk0 : k = 0 := by
            rcases Nat.eq_zero_or_pos k with h | h
            · exact h
            · exact absurd (z1 h) hz0
          have : erQ mi cs ds = 3 := by
            unfold erQ okQ
            rw [decide_eq_false (by rw [← z3 hk0]; exact hz0)]
            rfl
          rw [this] at h
          exact h
        · have hz0 : 0 ≤ z := iLe_iff.mp c1
          rw [wrap_id (by omega) (by omega)]
          refine ih (k + 1) (by omega) (by omega) fun _ => ?_
          rcases Nat.eq_zero_or_pos k with h | h
          · rw [← z3 h]; exact hz0
          · exact hmi h
      · have hmi := hmi (by omega)
        simp only [spn, fld0, fldS]
        refine bt115_wp (by omega) ?_
        simp only [rs0, b_bool, i_int]
        rw [iLe_iff.mpr g4.1, iLe_iff.mpr g4.2, Bool.true_and, Bool.not_true, cond_false]
        refine bt115_wp (by omega) ?_
        simp only [rs0, b_bool, i_int]
        rw [iLe_iff.mpr g5.1, iLe_iff.mpr g5.2, Bool.true_and, Bool.not_true, cond_false]
        refine bt115_wp (by omega) ?_
        simp only [rs0, b_bool, i_int]
        rw [iLe_iff.mpr g7.1, iLe_iff.mpr g7.2, Bool.true_and, Bool.not_true, cond_false]
        unfold erQ okQ at h
        rw [decide_eq_true hmi, Bool.true_and] at h
        refine placedG_wp (by omega) hc hp.code ?_
        rw [rs0, b_bool]
        refine cNot (fun c1 => by rw [c1] at h; exact h) fun c1 => ?_
        rw [c1, Bool.true_and] at h
        refine placedG_wp (by omega) hd hp.data ?_
        rw [rs0, b_bool]
        exact cNot (fun c2 => by rw [c2] at h; exact h) fun c2 => by rw [c2] at h; exact h
  exact step m 0 (by omega) (by omega) (by omega)

theorem cost_wp (hn : 1 ≤ n) {z : Int} (hz : z ≤ 100) (h : Q [.bool (iLe 0 z)]) : wpF Try.prog A n 98 [.int z] Q := by
  obtain ⟨m, rfl⟩ : ∃ m, n = m + 1 := ⟨n - 1, by omega⟩
  rw [E98]
  simp only [i_int]
  refine cnd (fun c => ?_) fun c => ?_
  · rw [iLe_iff.mpr hz]
    rw [c] at h
    exact h
  · rw [c] at h
    exact h

theorem spans_wp {l : List D} (hn : 100 ≤ n) (hl : l.length ≤ 40) (hs : ∀ x ∈ l, Sp 1024 x) (h : Q [.bool (decide (l.length ≤ 16))]) : wpF Try.prog A n 99 [.slc l, .int 1024] Q := by
  obtain ⟨m, rfl⟩ : ∃ m, n = m + 1 := ⟨n - 1, by omega⟩
  rw [E99]
  refine cLt (fun c => ?_) fun c => ?_
  · rw [decide_eq_false (by simp only [len_slc] at c; omega)] at h
    exact h
  · rw [decide_eq_true (by simp only [len_slc] at c; omega)] at h
    have key : ∀ (m0 k : Nat), k ≤ l.length → l.length - k < m0 → L99_4 m m0 (.slc l) (.int 1024) (.int (k : Int)) Q := by
      intro m0
      induction m0 with
      | zero => intro k _ h; omega
      | succ m0 ih =>
        intro k h1 h2
        rw [L99_4_eq]
        simp only [i_int, len_slc]
        refine cLt (fun c1 => ⟨by omega, ?_⟩) fun c1 => h
        have e : D.el (.slc l) (k : Int) = l.getD k .und := rfl
        rw [e]
        obtain ⟨f, t, hx, w1, w2, w3⟩ := hs _ (getD_mem (d := .und) (show k < l.length by omega))
        rw [hx]
        simp only [fld0, fldS, i_int]
        rw [iLt_not.mpr (show ¬ f < 0 by omega), cond_false, iLt_not.mpr (show ¬ t < f by omega), cond_false, iLt_not.mpr (show ¬ (1024 : Int) < t by omega), cond_false, wrap_id (by omega) (by omega)]
        exact ⟨by omega, by omega, by omega, ih (k + 1) (by omega) (by omega)⟩
    exact key m 0 (by omega) (by omega)

theorem rcchk_wp (hn : 2 ≤ n) {s w b : Int} (h1 : 0 ≤ s ∧ s ≤ 4 ∧ 1 ≤ w ∧ w ≤ 3 ∧ 1 ≤ b ∧ b ≤ 4) (h : Q [.int 0]) : wpF Try.prog A n 89 [cch s w b] Q := by
  obtain ⟨m, rfl⟩ : ∃ m, n = m + 1 := ⟨n - 1, by omega⟩
  rw [E89]
  simp only [cch, fld0, fldS, i_int]
  rw [iLt_not.mpr (show ¬ s < 0 by omega), cond_false, iLt_not.mpr (show ¬ 8 < s by omega), cond_false, iLt_not.mpr (show ¬ w < 1 by omega), cond_false, iLt_not.mpr (show ¬ 4 < w by omega), cond_false, iLt_not.mpr (show ¬ b < 1 by omega), cond_false, iLt_not.mpr (show ¬ 8 < b by omega), cond_false]
  exact h

theorem rpchk_wp {r : D} {mi : Int} {cs ds : List D} (hn : 200 ≤ n) (hp : Pq r mi cs ds) (hc : cs.length ≤ 40) (hd : ds.length ≤ 40) (h : Q [.int (erQ mi cs ds)]) : wpF Try.prog A n 57 [r] Q := by
  obtain ⟨m, rfl⟩ : ∃ m, n = m + 1 := ⟨n - 1, by omega⟩
  obtain ⟨s1, w1, b1, s2, w2, b2, bu, dr, wa, en, wr, st, mu, di, rfl, g1, g2, g3, g4, g5, g6, g7, g8, g9, g10, g11⟩ := hp.is
  rw [E57]
  simp only [spn, fld0, fldS]
  refine rcchk_wp (by omega) g1 ?_
  rw [rs0, i_int, show iEq 0 0 = true from rfl, Bool.not_true, cond_false]
  refine rcchk_wp (by omega) g2 ?_
  rw [rs0, i_int, show iEq 0 0 = true from rfl, Bool.not_true, cond_false]
  refine cost_wp (by omega) g3.2 ?_
  rw [rs0, b_bool]
  refine cNot (fun c1 => ?_) fun c1 => ?_
  · have : erQ mi cs ds = 3 := by
      unfold erQ okQ
      rw [decide_eq_false (iLe_not.mp c1)]
      rfl
    rw [this] at h
    exact h
  unfold erQ okQ at h
  rw [decide_eq_true (iLe_iff.mp c1), Bool.true_and] at h
  refine cost_wp (by omega) g6.2 ?_
  rw [rs0, b_bool, iLe_iff.mpr g6.1, Bool.not_true, cond_false]
  refine cost_wp (by omega) g8.2 ?_
  rw [rs0, b_bool, iLe_iff.mpr g8.1, Bool.not_true, cond_false]
  refine cost_wp (by omega) g9.2 ?_
  rw [rs0, b_bool, iLe_iff.mpr g9.1, Bool.not_true, cond_false]
  refine cost_wp (by omega) g10.2 ?_
  rw [rs0, b_bool, iLe_iff.mpr g10.1, Bool.not_true, cond_false]
  refine cost_wp (by omega) g11.2 ?_
  rw [rs0, b_bool, iLe_iff.mpr g11.1, Bool.not_true, cond_false]
  simp only [i_int]
  rw [iLt_not.mpr (show ¬ bu < 0 by omega), cond_false, iLt_not.mpr (show ¬ 8 < bu by omega), cond_false, iLt_not.mpr (show ¬ dr < 1 by omega), cond_false, iLt_not.mpr (show ¬ 16 < dr by omega), cond_false, iLt_not.mpr (show ¬ en < 0 by omega), cond_false, iLt_not.mpr (show ¬ 16 < en by omega), cond_false]
  refine spans_wp (by omega) hc hp.code ?_
  rw [rs0, b_bool]
  refine cNot (fun c1 => by rw [c1] at h; exact h) fun c1 => ?_
  rw [c1, Bool.true_and] at h
  refine spans_wp (by omega) hd hp.data ?_
  rw [rs0, b_bool]
  exact cNot (fun c2 => by rw [c2] at h; exact h) fun c2 => by rw [c2] at h; exact h

/-- Choices that are right are in order. -/
theorem choice_inc {N : Nat} {c : List Int} (h : choiceB (N : Int) c = true) : Inc N c := by
  unfold choiceB at h
  have hb : ∀ k, k < c.length → badC N c k = false := fun k hk => anyB_get (by simpa using h) hk
  have hr : ∀ k, k < c.length → 0 ≤ gi c k ∧ gi c k < N := fun k hk => badC_ok (hb k hk)
  have hs : ∀ k, k + 1 < c.length → gi c k < gi c (k + 1) := fun k hk => by
    have := hb (k + 1) hk
    unfold badC at this
    rw [Bool.or_eq_false_iff, Bool.or_eq_false_iff] at this
    have h3 := this.2.2
    rw [iLt_iff.mpr (show (0 : Int) < ((k + 1 : Nat) : Int) by omega), Bool.true_and, iLe_not] at h3
    have e : k + 1 - 1 = k := by omega
    rw [e] at h3
    omega
  have hlt : ∀ j, j < c.length → ∀ i, i < j → gi c i < gi c j := by
    intro j
    induction j with
    | zero => intro _ i hi; omega
    | succ j ih =>
      intro hj i hi
      have := hs j hj
      by_cases e : i = j
      · subst e; exact this
      · have := ih (by omega) i (by omega)
        omega
  refine ⟨fun x hx => ?_, ?_⟩
  · obtain ⟨k, hk, e⟩ := List.mem_iff_getElem.1 hx
    have := hr k hk
    have e2 : gi c k = x := by simp [gi, List.getD, hk, e]
    rw [e2] at this
    exact this
  · rw [List.pairwise_iff_getElem]
    intro i j hi hj hij
    have := hlt j hj i hij
    simpa [gi, List.getD, hi, hj] using this
theorem inc_len {N : Nat} {c : List Int} (h : Inc N c) : c.length ≤ N := by
  have key : ∀ k, k < c.length → (k : Int) ≤ gi c k := by
    intro k
    induction k with
    | zero => intro hk; exact (gi_rng h hk).1
    | succ k ih =>
      intro hk
      have := ih (by omega)
      have h2 := List.pairwise_iff_getElem.1 h.inc k (k + 1) (by omega) hk (by omega)
      have e1 : gi c k = c[k]'(by omega) := by simp [gi, List.getD, show k < c.length by omega]
      have e2 : gi c (k + 1) = c[k + 1] := by simp [gi, List.getD, hk]
      omega
  rcases Nat.eq_zero_or_pos c.length with e | e
  · omega
  · have h1 := key (c.length - 1) (by omega)
    have h2 := (gi_rng h (show c.length - 1 < c.length by omega)).2
    omega

def zeroP : D := .agg [(D.agg [(D.int (0 : Int)), (D.int (0 : Int)), (D.int (0 : Int))]), (D.agg [(D.int (0 : Int)), (D.int (0 : Int)), (D.int (0 : Int))]), (D.int (0 : Int)), (D.int (0 : Int)), (D.int (0 : Int)), (D.int (0 : Int)), (D.int (0 : Int)), (D.int (0 : Int)), (D.int (0 : Int)), (D.int (0 : Int)), (D.int (0 : Int)), (D.slc ([] : List D)), (D.slc ([] : List D))]
/-- What is placed. -/
def PR (mi : Int) (cs ds xs : List D) (c : List Int) (p : D) (e : Int) : Prop :=
  Pf p (D.xs (D.fld p 11)) (D.xs (D.fld p 12)) ∧ ((D.xs (D.fld p 11)).length ≤ 40 ∧ (D.xs (D.fld p 12)).length ≤ 40) ∧ (e = 0 → choiceB xs.length c = true ∧ D.fld p 11 = .slc (plc (.slc xs) c cs ds c.length).1 ∧ D.fld p 12 = .slc (plc (.slc xs) c cs ds c.length).2 ∧ (plc (.slc xs) c cs ds c.length).1.length ≤ 16 ∧ (plc (.slc xs) c cs ds c.length).2.length ≤ 16)
def plR (s1 w1 b1 s2 w2 b2 mi bu dr wa en wr st mu di : Int) (cs ds xs : List D) (c : List Int) : D × Int :=
  cond (okQ mi cs ds) (cond (choiceB xs.length c) (cond (okQ mi (plc (.slc xs) c cs ds c.length).1 (plc (.slc xs) c cs ds c.length).2) (spn s1 w1 b1 s2 w2 b2 mi bu dr wa en wr st mu di (plc (.slc xs) c cs ds c.length).1 (plc (.slc xs) c cs ds c.length).2, 0) (zeroP, 4)) (zeroP, 43)) (zeroP, 32)

theorem ok_er {mi : Int} {cs ds : List D} {x y : Prop} (h1 : okQ mi cs ds = true → y) (h2 : okQ mi cs ds = false → x) : cond (!iEq (D.i (rs [D.int (erQ mi cs ds)] 0)) 0) x y := by
  rw [rs0, i_int]
  unfold erQ
  cases h : okQ mi cs ds
  · exact h2 h
  · exact h1 h

theorem placeG_wp {s1 w1 b1 s2 w2 b2 mi bu dr wa en wr st mu di : Int} {cs ds xs : List D} {c : List Int} (hn : 3000 ≤ n) (hp : Pq (spn s1 w1 b1 s2 w2 b2 mi bu dr wa en wr st mu di cs ds) mi cs ds) (hc : cs.length ≤ 16) (hd : ds.length ≤ 1) (hx : xs.length ≤ 10) (hits : Its xs) (hcl : c.length ≤ 100)
    (h : Q [(plR s1 w1 b1 s2 w2 b2 mi bu dr wa en wr st mu di cs ds xs c).1, .int (plR s1 w1 b1 s2 w2 b2 mi bu dr wa en wr st mu di cs ds xs c).2]) : wpF Try.prog A n 27 [spn s1 w1 b1 s2 w2 b2 mi bu dr wa en wr st mu di cs ds, .slc xs, lst c] Q := by
  obtain ⟨m, rfl⟩ : ∃ m, n = m + 1 := ⟨n - 1, by omega⟩
  rw [E27]
  refine pchk_wp (by omega) hp (by omega) (by omega) (ok_er (fun ok1 => ?_) fun ok1 => ⟨trivial, by unfold plR at h; rw [ok1] at h; exact h⟩)
  refine validI_wp (by simp only [len_slc]; omega) (by omega) ?_
  rw [rs0, b_bool, its_valid hits hx, Bool.not_true, cond_false]
  refine choice_wp (by omega) (by omega) ?_
  rw [rs0, b_bool, len_slc]
  refine cNot (fun c1 => ⟨trivial, by unfold plR at h; rw [ok1, c1] at h; exact h⟩) fun c1 => ?_
  have hinc := choice_inc c1
  have hcl := inc_len hinc
  unfold plR at h
  rw [ok1, c1] at h
  simp only [spn, fld0, fldS]
  refine clone_wp (by omega) (by omega) ?_
  refine clone_wp (by omega) (by omega) ?_
  simp only [rs0]
  refine ⟨trivial, trivial, ?_⟩
  rw [len_lst]
  have key : ∀ (m0 k : Nat) (z : D), k ≤ c.length → c.length - k < m0 → L27_7 m m0 (.slc xs) (lst c) (.int c.length) (.int (k : Int)) (spn s1 w1 b1 s2 w2 b2 mi bu dr wa en wr st mu di (plc (.slc xs) c cs ds k).1 (plc (.slc xs) c cs ds k).2) z Q := by
    intro m0
    induction m0 with
    | zero => intro k _ _ h; omega
    | succ m0 ih =>
      intro k z h1 h2
      rw [L27_7_eq]
      simp only [i_int]
      have hpl := plc_len (.slc xs) c cs ds k
      refine cLt (fun c1 => ⟨by rw [len_lst]; omega, ?_⟩) fun c1 => ?_
      · rw [gi_el (show k < c.length by omega), len_slc]
        have hr := gi_rng hinc (show k < c.length by omega)
        have IH := ih (k + 1) z (by omega) (by omega)
        have e : plc (.slc xs) c cs ds (k + 1) = plcS (.slc xs) c (plc (.slc xs) c cs ds k) k := rfl
        rw [e, plcS] at IH
        rw [wrap_id (show -9223372036854775808 ≤ (k : Int) + 1 by omega) (by omega)]
        simp only [spn, fld0, fldS, xs_slc] at IH ⊢
        refine ⟨hr, cnd (fun b => ⟨hr, ?_, trivial, ?_⟩) fun b => ⟨hr, ?_, trivial, ?_⟩⟩
        · unfold room
          simp only [List.length_singleton]
          omega
        · rw [show icode (D.el (.slc xs) (gi c k)) = true from b] at IH
          exact IH
        · unfold room
          simp only [List.length_singleton]
          omega
        · rw [show icode (D.el (.slc xs) (gi c k)) = false from b] at IH
          exact IH
      · have e : k = c.length := by omega
        subst e
        obtain ⟨p1, p2⟩ := plc_sp hits hinc hp.code hp.data c.length (Nat.le_refl _)
        obtain ⟨t1, t2, t3, t4, t5, t6, u1, u2, u3, u4, u5, u6, u7, u8, e0, g⟩ := hp.is
        unfold spn cch at e0
        injection e0 with e0
        simp only [List.cons.injEq, D.agg.injEq, D.int.injEq, and_true, true_and] at e0
        obtain ⟨⟨rfl, rfl, rfl⟩, ⟨rfl, rfl, rfl⟩, rfl, rfl, rfl, rfl, rfl, rfl, rfl, rfl⟩ := e0
        refine pchk_wp (by omega) ⟨⟨_, _, _, _, _, _, _, _, _, _, _, _, _, _, rfl, g⟩, p1, p2⟩ (by omega) (by omega) (ok_er (fun ok2 => ⟨trivial, ?_⟩) fun ok2 => ⟨trivial, ?_⟩)
        · rw [ok2] at h; exact h
        · rw [ok2] at h; exact h
  exact key m 0 _ (by omega) (by omega)

theorem rplaceG_wp {s1 w1 b1 s2 w2 b2 mi bu dr wa en wr st mu di : Int} {cs ds xs : List D} {c : List Int} (hn : 4000 ≤ n) (hp : Pq (spn s1 w1 b1 s2 w2 b2 mi bu dr wa en wr st mu di cs ds) mi cs ds) (hc : cs.length ≤ 16) (hd : ds.length ≤ 1) (hx : xs.length ≤ 10) (hits : Its xs) (hcl : c.length ≤ 100)
    (h : Q [(plR s1 w1 b1 s2 w2 b2 mi bu dr wa en wr st mu di cs ds xs c).1, .int (plR s1 w1 b1 s2 w2 b2 mi bu dr wa en wr st mu di cs ds xs c).2]) : wpF Try.prog A n 28 [spn s1 w1 b1 s2 w2 b2 mi bu dr wa en wr st mu di cs ds, .slc xs, lst c] Q := by
  obtain ⟨m, rfl⟩ : ∃ m, n = m + 1 := ⟨n - 1, by omega⟩
  rw [E28]
  refine rpchk_wp (by omega) hp (by omega) (by omega) (ok_er (fun ok1 => ?_) fun ok1 => ⟨trivial, by unfold plR at h; rw [ok1] at h; exact h⟩)
  refine val'_wp (by simp only [len_slc]; omega) (by omega) (by omega) ?_
  have hv : (val (.slc xs) c).2 = choiceB (xs.length : Int) c := by
    unfold val
    rw [its_valid hits hx, Bool.true_and, len_slc]
    cases choiceB (xs.length : Int) c <;> rfl
  rw [rsS, rsS, rs0, b_bool, hv]
  refine cNot (fun c1 => ⟨trivial, by unfold plR at h; rw [ok1, c1] at h; exact h⟩) fun c1 => ?_
  have hinc := choice_inc c1
  have hcl := inc_len hinc
  unfold plR at h
  rw [ok1, c1] at h
  simp only [spn, fld0, fldS, xs_slc]
  refine ⟨by unfold room; omega, by unfold room; omega, trivial, trivial, ?_⟩
  rw [len_lst]
  have key : ∀ (m0 k : Nat) (z : D), k ≤ c.length → c.length - k < m0 → L28_8 m m0 (.slc xs) (lst c) (.int c.length) (.int (k : Int)) (spn s1 w1 b1 s2 w2 b2 mi bu dr wa en wr st mu di (plc (.slc xs) c cs ds k).1 (plc (.slc xs) c cs ds k).2) z Q := by
    intro m0
    induction m0 with
    | zero => intro k _ _ h; omega
    | succ m0 ih =>
      intro k z h1 h2
      rw [L28_8_eq]
      simp only [i_int]
      have hpl := plc_len (.slc xs) c cs ds k
      refine cLt (fun c1 => ⟨by rw [len_lst]; omega, ?_⟩) fun c1 => ?_
      · rw [gi_el (show k < c.length by omega), len_slc]
        have hr := gi_rng hinc (show k < c.length by omega)
        have IH := ih (k + 1) z (by omega) (by omega)
        have e : plc (.slc xs) c cs ds (k + 1) = plcS (.slc xs) c (plc (.slc xs) c cs ds k) k := rfl
        rw [e, plcS] at IH
        rw [wrap_id (show -9223372036854775808 ≤ (k : Int) + 1 by omega) (by omega)]
        simp only [spn, fld0, fldS, xs_slc] at IH ⊢
        refine ⟨hr, cnd (fun b => ⟨hr, ?_, trivial, ?_⟩) fun b => ⟨hr, ?_, trivial, ?_⟩⟩
        · unfold room
          simp only [List.length_singleton]
          omega
        · rw [show icode (D.el (.slc xs) (gi c k)) = true from b] at IH
          exact IH
        · unfold room
          simp only [List.length_singleton]
          omega
        · rw [show icode (D.el (.slc xs) (gi c k)) = false from b] at IH
          exact IH
      · have e : k = c.length := by omega
        subst e
        obtain ⟨p1, p2⟩ := plc_sp hits hinc hp.code hp.data c.length (Nat.le_refl _)
        obtain ⟨t1, t2, t3, t4, t5, t6, u1, u2, u3, u4, u5, u6, u7, u8, e0, g⟩ := hp.is
        unfold spn cch at e0
        injection e0 with e0
        simp only [List.cons.injEq, D.agg.injEq, D.int.injEq, and_true, true_and] at e0
        obtain ⟨⟨rfl, rfl, rfl⟩, ⟨rfl, rfl, rfl⟩, rfl, rfl, rfl, rfl, rfl, rfl, rfl, rfl⟩ := e0
        refine rpchk_wp (by omega) ⟨⟨_, _, _, _, _, _, _, _, _, _, _, _, _, _, rfl, g⟩, p1, p2⟩ (by omega) (by omega) (ok_er (fun ok2 => ⟨trivial, ?_⟩) fun ok2 => ⟨trivial, ?_⟩)
        · rw [ok2] at h; exact h
        · rw [ok2] at h; exact h
  exact key m 0 _ (by omega) (by omega)

theorem plc_pf {s1 w1 b1 s2 w2 b2 mi bu dr wa en wr st mu di : Int} {cs ds xs : List D} {c : List Int} (hits : Its xs) (h1 : ∀ x ∈ cs, Sp 1024 x) (h2 : ∀ x ∈ ds, Sp 1024 x) :
    PR mi cs ds xs c (plR s1 w1 b1 s2 w2 b2 mi bu dr wa en wr st mu di cs ds xs c).1 (plR s1 w1 b1 s2 w2 b2 mi bu dr wa en wr st mu di cs ds xs c).2 := by
  have hz : ∀ e : Int, e ≠ 0 → PR mi cs ds xs c zeroP e := fun e he => ⟨⟨⟨0, 0, 0, 0, 0, 0, 0, 0, 0, 0, 0, 0, 0, 0, 0, rfl⟩, (by intro x hx; cases hx), (by intro x hx; cases hx)⟩, ⟨Nat.zero_le _, Nat.zero_le _⟩, fun e0 => absurd e0 he⟩
  unfold plR
  cases hA : okQ mi cs ds
  · exact hz 32 (by omega)
  cases hB : choiceB (xs.length : Int) c
  · exact hz 43 (by omega)
  cases hC : okQ mi (plc (.slc xs) c cs ds c.length).1 (plc (.slc xs) c cs ds c.length).2
  · exact hz 4 (by omega)
  · obtain ⟨p1, p2⟩ := plc_sp hits (choice_inc hB) h1 h2 c.length (Nat.le_refl _)
    unfold okQ at hC
    simp only [Bool.and_eq_true, decide_eq_true_eq] at hC
    exact ⟨⟨⟨_, _, _, _, _, _, _, _, _, _, _, _, _, _, _, rfl⟩, p1, p2⟩, ⟨Nat.le_trans hC.2.1 (by omega), Nat.le_trans hC.2.2 (by omega)⟩, fun _ => ⟨hB, rfl, rfl, hC.2.1, hC.2.2⟩⟩
end
end Go.Ab
