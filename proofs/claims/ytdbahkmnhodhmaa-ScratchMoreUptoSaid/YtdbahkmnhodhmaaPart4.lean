/- Equations and plain laws of the functions that the statement reaches, part 4. Conditions: those in each theorem. -/
import Derived.Test.YtdbahkmnhodhmaaPart3
set_option linter.unusedVariables false
set_option linter.unusedSimpArgs false
/- The best choice of items: both answers are one; the example; items that are made. -/
namespace Go.Ab
open Go.Proofs
attribute [local irreducible] wpF

theorem wrapu_id {x : Int} (h1 : 0 ≤ x) (h2 : x ≤ 18446744073709551615) : IntKind.wrap .u64 x = x := by
  simp only [IntKind.wrap, IntKind.bits, IntKind.signed, Bool.false_and]
  rw [if_neg (by simp)]
  omega

def bit (s : Int) (k : Nat) : Bool := iEq (IntKind.wrap .i64 (((BitVec.ofInt 64 (Int.fdiv s (2 ^ (min k 64)))) &&& (BitVec.ofInt 64 (1 : Int))).toNat : Int)) 1
def choS (s : Int) (l : List Int) (k : Nat) : List Int := cond (bit s k) (l ++ [(k : Int)]) l
def cho (N : Nat) (s : Int) : List Int := iter (choS s) [] N
def bestS (d : D) (w : Int) (S : List Int × (Int × Int)) (s : Nat) : List Int × (Int × Int) :=
  cond (iLt w (val d (cho (D.len d).toNat s)).1.2) S
    (cond (iLt S.2.1 (val d (cho (D.len d).toNat s)).1.1) (cho (D.len d).toNat s, (val d (cho (D.len d).toNat s)).1)
      (cond (iEq (val d (cho (D.len d).toNat s)).1.1 S.2.1)
        (cond (iLt (val d (cho (D.len d).toNat s)).1.2 S.2.2) (cho (D.len d).toNat s, (val d (cho (D.len d).toNat s)).1)
          (cond (iEq (val d (cho (D.len d).toNat s)).1.2 S.2.2)
            (cond (bfr (cho (D.len d).toNat s) S.1) (cho (D.len d).toNat s, (val d (cho (D.len d).toNat s)).1) S) S)) S))
def best (d : D) (w : Int) : List Int × Int :=
  cond (!validI d) ([], 43) (cond (iLt w 0) ([], 3) (cond (iLt 256 w) ([], 3) ((iter (bestS d w) ([], 0, 0) (2 ^ (D.len d).toNat)).1, 0)))

theorem cho_len (s : Int) : ∀ N, (cho N s).length ≤ N := by
  intro N
  induction N with
  | zero => simp [cho, iter]
  | succ N ih =>
    have e : cho (N + 1) s = choS s (cho N s) N := rfl
    rw [e]
    unfold choS
    cases bit s N
    · simp only [cond_false]; omega
    · simp only [cond_true, List.length_append, List.length_singleton]; omega
theorem bit_zero (k : Nat) : bit 0 k = false := by
  unfold bit
  rw [Int.zero_fdiv]
  rfl
theorem cho_zero : ∀ N, cho N 0 = [] := by
  intro N
  induction N with
  | zero => rfl
  | succ N ih =>
    have e : cho (N + 1) 0 = choS 0 (cho N 0) N := rfl
    rw [e, ih, choS, bit_zero]
    rfl
theorem val_nil {d : D} (h : validI d = true) : val d [] = ((0, 0), true) := by
  unfold val
  rw [h]
  rfl
theorem best_start {d : D} {w : Int} (h : validI d = true) (hw : 0 ≤ w) : bestS d w ([], 0, 0) 0 = ([], 0, 0) := by
  unfold bestS
  rw [show ((0 : Nat) : Int) = 0 from rfl, cho_zero, val_nil h]
  simp only
  rw [iLt_not.mpr (by omega)]
  rfl
theorem best_len {d : D} {w : Int} : ∀ k, (iter (bestS d w) ([], 0, 0) k).1.length ≤ (D.len d).toNat := by
  intro k
  induction k with
  | zero => simp [iter]
  | succ k ih =>
    simp only [iter]
    generalize iter (bestS d w) ([], 0, 0) k = S at ih
    have hc := cho_len k (D.len d).toNat
    unfold bestS
    cases iLt w (val d (cho (D.len d).toNat k)).1.2 with
    | true => exact ih
    | false =>
      simp only [cond_false]
      cases iLt S.2.1 (val d (cho (D.len d).toNat k)).1.1 with
      | true => exact hc
      | false =>
        simp only [cond_false]
        cases iEq (val d (cho (D.len d).toNat k)).1.1 S.2.1 with
        | false => exact ih
        | true =>
          simp only [cond_true]
          cases iLt (val d (cho (D.len d).toNat k)).1.2 S.2.2 with
          | true => exact hc
          | false =>
            simp only [cond_false]
            cases iEq (val d (cho (D.len d).toNat k)).1.2 S.2.2 with
            | false => exact ih
            | true =>
              simp only [cond_true]
              cases bfr (cho (D.len d).toNat k) S.1 with
              | true => exact hc
              | false => exact ih

theorem valid_len {d : D} (h : validI d = true) : D.len d ≤ 10 := by
  simp only [validI, Bool.and_eq_true, iLe_iff] at h
  exact h.2
theorem pow_le {N : Nat} (h : N ≤ 10) : 2 ^ N ≤ 1024 := Nat.pow_le_pow_right (by omega) h
theorem pow_cast {N : Nat} (h : N ≤ 10) : (1 : Int) * 2 ^ (min N 64) = ((2 ^ N : Nat) : Int) := by
  rw [Nat.min_eq_left (by omega), Int.one_mul]
  simp

section
variable {n : Nat} {d : D} {Q : List D → Prop}

/-- The loop that lists a choice. -/
theorem cho_loop {L : Nat → D → D → (List D → Prop) → Prop} {s : Int} {N : Nat} (hN : N ≤ 1000)
    (h : ∀ m (k : Nat) (l : List Int) Q, k < N → l.length ≤ k → (bit s k = true → L m (.int ((k : Int) + 1)) (lst (l ++ [(k : Int)])) Q) → (bit s k = false → L m (.int ((k : Int) + 1)) (lst l) Q) → L (m + 1) (.int (k : Int)) (lst l) Q) :
    ∀ m (k : Nat), k ≤ N → N - k < m → (∀ m', L (m' + 1) (.int (N : Int)) (lst (cho N s)) Q) → L m (.int (k : Int)) (lst (cho k s)) Q := by
  intro m
  induction m with
  | zero => intro k _ h; omega
  | succ m ih =>
    intro k h1 h2 hQ
    by_cases hk : k = N
    · subst hk; exact hQ m
    · have IH := ih (k + 1) (by omega) (by omega) hQ
      have e : cho (k + 1) s = choS s (cho k s) k := rfl
      rw [e] at IH
      unfold choS at IH
      refine h m k _ Q (by omega) (cho_len s k) (fun hb => ?_) fun hb => ?_
      · rw [hb] at IH; exact IH
      · rw [hb] at IH; exact IH

theorem best_wp {w : Int} (hd : D.len d ≤ 1000) (hn : 5000 ≤ n) (h : Q [lst (best d w).1, .int (best d w).2]) : wpF Try.prog A n 39 [d, .int w] Q := by
  obtain ⟨m, rfl⟩ : ∃ m, n = m + 1 := ⟨n - 1, by omega⟩
  rw [E39]
  unfold best at h
  refine validI_wp hd (by omega) ?_
  rw [rs0, b_bool]
  refine cNot (fun c => by rw [c] at h; exact h) fun c => ?_
  rw [c, Bool.not_true, cond_false] at h
  simp only [i_int]
  refine cnd (fun c1 => by rw [c1] at h; exact h) fun c1 => cnd (fun c2 => by rw [c1, c2] at h; exact h) fun c2 => ?_
  rw [c1, c2, cond_false, cond_false] at h
  rw [iLt_not] at c1
  have hl := valid_len c
  have hl0 := len_nn' d
  obtain ⟨N, hN⟩ : ∃ N : Nat, D.len d = N := ⟨(D.len d).toNat, by omega⟩
  have hN' : (D.len d).toNat = N := by omega
  have hp := pow_le (N := N) (by omega)
  rw [hN'] at h
  refine ⟨hl0, ?_⟩
  rw [hN, toNat_nat, pow_cast (by omega)]
  generalize 2 ^ N = p at hp h ⊢
  rw [wrap_id (by omega) (by omega)]
  have key : ∀ (m0 s : Nat), s ≤ p → p - s < m0 → L39_8 m m0 d (.int w) (.int (iter (bestS d w) ([], 0, 0) s).2.1) (.int (iter (bestS d w) ([], 0, 0) s).2.2) (.int (p : Int)) (.int (s : Int)) (lst (iter (bestS d w) ([], 0, 0) s).1) Q := by
    intro m0
    induction m0 with
    | zero => intro k _ h; omega
    | succ m0 ih =>
      intro s h1 h2
      rw [L39_8_eq]
      simp only [i_int]
      refine cLt (fun c3 => ?_) fun c3 => ?_
      · have IH := ih (s + 1) (by omega) (by omega)
        simp only [iter] at IH
        have hbl := best_len (d := d) (w := w) s
        revert IH hbl
        generalize iter (bestS d w) ([], 0, 0) s = S
        unfold bestS
        rw [hN']
        intro IH hbl
        show L39_12 m m0 m d (.int w) (.int S.2.1) (.int S.2.2) (.int (s : Int)) (.int (p : Int)) (.int (s : Int)) (.int (D.len d)) (.int ((0 : Nat) : Int)) (lst S.1) (lst (cho 0 s)) Q
        rw [hN]
        refine cho_loop (s := (s : Int)) (N := N) (L := fun m1 k l Q => L39_12 m m0 m1 d (.int w) (.int S.2.1) (.int S.2.2) (.int (s : Int)) (.int (p : Int)) (.int (s : Int)) (.int (N : Int)) k (lst S.1) l Q) (by omega) (fun m1 k l Q hk hkl g1 g2 => ?_) m 0 (by omega) (by omega) fun m1 => ?_
        · rw [L39_12_eq]
          simp only [i_int, toNat_nat]
          refine cLt (fun _ => ⟨by omega, ?_⟩) fun c4 => by omega
          rw [wrap_id (show -9223372036854775808 ≤ (k : Int) + 1 by omega) (by omega)]
          refine cnd (fun hb => ⟨?_, ?_⟩) fun hb => g2 hb
          · unfold room
            simp only [xs_lst, List.length_map, List.length_singleton]
            omega
          · have := g1 hb
            simp only [lst, List.map_append] at this
            exact this
        · rw [L39_12_eq]
          simp only [i_int]
          refine cLt (fun c4 => by omega) fun _ => ?_
          have hcl := cho_len (s : Int) N
          refine val_wp hd (by omega) (by omega) ?_
          simp only [rs0, rsS, i_int]
          rw [wrap_id (show -9223372036854775808 ≤ (s : Int) + 1 by omega) (by omega)]
          refine cnd (fun b1 => by rw [b1] at IH; exact IH) fun b1 => ?_
          rw [b1, cond_false] at IH
          refine cnd (fun b2 => by rw [b2] at IH; exact IH) fun b2 => ?_
          rw [b2, cond_false] at IH
          refine cnd (fun b3 => ?_) fun b3 => by rw [b3] at IH; exact IH
          rw [b3, cond_true] at IH
          refine cnd (fun b4 => by rw [b4] at IH; exact IH) fun b4 => ?_
          rw [b4, cond_false] at IH
          refine cnd (fun b5 => ?_) fun b5 => by rw [b5] at IH; exact IH
          rw [b5, cond_true] at IH
          refine compare_wp (by omega) (by omega) fun z hz => ?_
          rw [rs0, i_int, hz]
          exact cnd (fun b6 => by rw [b6] at IH; exact IH) fun b6 => by rw [b6] at IH; exact IH
      · have e : s = p := by omega
        rw [e]
        exact h
  exact key m 0 (by omega) (by omega)

theorem best'_wp {w : Int} (hd : D.len d ≤ 1000) (hn : 5000 ≤ n) (h : Q [lst (best d w).1, .int (best d w).2]) : wpF Try.prog A n 40 [d, .int w] Q := by
  obtain ⟨m, rfl⟩ : ∃ m, n = m + 1 := ⟨n - 1, by omega⟩
  rw [E40]
  unfold best at h
  refine validI'_wp hd (by omega) ?_
  rw [rs0, b_bool]
  refine cNot (fun c => by rw [c] at h; exact h) fun c => ?_
  rw [c, Bool.not_true, cond_false] at h
  simp only [i_int]
  refine cnd (fun c1 => by rw [c1] at h; exact h) fun c1 => cnd (fun c2 => by rw [c1, c2] at h; exact h) fun c2 => ?_
  rw [c1, c2, cond_false, cond_false] at h
  rw [iLt_not] at c1
  have hl := valid_len c
  have hl0 := len_nn' d
  obtain ⟨N, hN⟩ : ∃ N : Nat, D.len d = N := ⟨(D.len d).toNat, by omega⟩
  have hN' : (D.len d).toNat = N := by omega
  have hp := pow_le (N := N) (by omega)
  have hp1 : 1 ≤ 2 ^ N := Nat.one_le_two_pow
  rw [hN'] at h
  have hpc := pow_cast (N := N) (by omega)
  generalize 2 ^ N = p at hp hp1 hpc h
  have key : ∀ (m0 s : Nat), s ≤ p → p - s < m0 → L40_8 m m0 d (.int w) (.int (iter (bestS d w) ([], 0, 0) s).2.1) (.int (iter (bestS d w) ([], 0, 0) s).2.2) (.int (s : Int)) (lst (iter (bestS d w) ([], 0, 0) s).1) Q := by
    intro m0
    induction m0 with
    | zero => intro k _ h; omega
    | succ m0 ih =>
      intro s h1 h2
      rw [L40_8_eq]
      rw [hN, wrapu_id (by omega) (by omega), toNat_nat, hpc, wrap_id (show -9223372036854775808 ≤ (p : Int) by omega) (by omega)]
      simp only [i_int]
      refine ⟨by omega, cLt (fun c3 => ?_) fun c3 => ?_⟩
      · have IH := ih (s + 1) (by omega) (by omega)
        simp only [iter] at IH
        revert IH
        generalize iter (bestS d w) ([], 0, 0) s = S
        unfold bestS
        rw [hN']
        intro IH
        show L40_12 m m0 m d (.int w) (.int S.2.1) (.int S.2.2) (.int (s : Int)) (.int (N : Int)) (.int ((0 : Nat) : Int)) (lst S.1) (lst (cho 0 s)) Q
        refine cho_loop (s := (s : Int)) (N := N) (L := fun m1 k l Q => L40_12 m m0 m1 d (.int w) (.int S.2.1) (.int S.2.2) (.int (s : Int)) (.int (N : Int)) k (lst S.1) l Q) (by omega) (fun m1 k l Q hk hkl g1 g2 => ?_) m 0 (by omega) (by omega) fun m1 => ?_
        · rw [L40_12_eq]
          simp only [i_int]
          rw [wrapu_id (show 0 ≤ (k : Int) by omega) (by omega), toNat_nat]
          refine cLt (fun _ => ⟨by omega, ?_⟩) fun c4 => by omega
          rw [wrap_id (show -9223372036854775808 ≤ (k : Int) + 1 by omega) (by omega)]
          refine cnd (fun hb => ⟨?_, ?_⟩) fun hb => g2 hb
          · unfold room
            simp only [xs_lst, List.length_map, List.length_singleton]
            omega
          · have := g1 hb
            simp only [lst, List.map_append] at this
            exact this
        · rw [L40_12_eq]
          simp only [i_int]
          refine cLt (fun c4 => by omega) fun _ => ?_
          have hcl := cho_len (s : Int) N
          refine val'_wp hd (by omega) (by omega) ?_
          simp only [rs0, rsS, i_int]
          rw [wrap_id (show -9223372036854775808 ≤ (s : Int) + 1 by omega) (by omega)]
          refine cLe (fun b1 => ?_) fun b1 => ?_
          · rw [iLt_not.mpr (by omega), cond_false] at IH
            refine cnd (fun b2 => by rw [b2] at IH; exact IH) fun b2 => ?_
            rw [b2, cond_false] at IH
            refine cnd (fun b3 => ?_) fun b3 => by rw [b3] at IH; exact IH
            rw [b3, cond_true] at IH
            refine cnd (fun b4 => by rw [b4] at IH; exact IH) fun b4 => ?_
            rw [b4, cond_false] at IH
            refine cnd (fun b5 => ?_) fun b5 => by rw [b5] at IH; exact IH
            rw [b5, cond_true] at IH
            refine before36_wp (by omega) (by omega) ?_
            rw [rs0, b_bool]
            exact cnd (fun b6 => by rw [b6] at IH; exact IH) fun b6 => by rw [b6] at IH; exact IH
          · rw [iLt_iff.mpr (by omega), cond_true] at IH
            exact IH
      · have e : s = p := by omega
        rw [e]
        exact h
  have := key m 1 (by omega) (by omega)
  have e : iter (bestS d w) ([], 0, 0) 1 = ([], 0, 0) := best_start c (by omega)
  rw [e] at this
  exact this

def threeD : D := D.slc [(D.agg [(D.bool true), (D.agg [(D.int (0 : Int)), (D.int (3 : Int))]), (D.int (3 : Int)), (D.int (5 : Int))]), (D.agg [(D.bool true), (D.agg [(D.int (3 : Int)), (D.int (5 : Int))]), (D.int (2 : Int)), (D.int (3 : Int))]), (D.agg [(D.bool false), (D.agg [(D.int (0 : Int)), (D.int (2 : Int))]), (D.int (2 : Int)), (D.int (3 : Int))])]
theorem three_best : best threeD 4 = ([1, 2], 0) := by decide +kernel

theorem awake36_wp (hn : 6000 ≤ n) (h : Q [.bool true]) : wpF Try.prog A n 34 [] Q := by
  obtain ⟨m, rfl⟩ : ∃ m, n = m + 2 := ⟨n - 2, by omega⟩
  rw [E34, E79, rs0]
  show wpF Try.prog A (m + 1) 39 [threeD, .int 4] _
  refine best_wp (by decide) (by omega) ?_
  rw [three_best]
  simp only [rs0, rsS, i_int]
  exact ⟨by decide, by decide, h⟩

/-- Items that are made. -/
def It (x : D) : Prop := ∃ (c : Bool) (f t g : Int), x = .agg [.bool c, .agg [.int f, .int t], .int (t - f), .int g] ∧ 0 ≤ f ∧ f < t ∧ t ≤ 200 ∧ 0 ≤ g ∧ g ≤ 11
structure Its (xs : List D) : Prop where
  it : ∀ x ∈ xs, It x
  ap : xs.Pairwise fun y x => icode y = icode x → ito y ≤ ifr x

theorem its_valid {xs : List D} (h : Its xs) (hl : xs.length ≤ 10) : validI (.slc xs) = true := by
  unfold validI
  have e : (D.len (.slc xs)).toNat = xs.length := rfl
  have hel : ∀ k, D.el (.slc xs) ((k : Nat) : Int) = xs.getD k .und := fun k => rfl
  rw [e, anyB_false, Bool.not_false, Bool.true_and, iLe_iff.mpr (by simp only [len_slc]; omega)]
  intro k hk
  have hx := h.it _ (getD_mem (d := .und) hk)
  unfold badI
  rw [hel]
  have hg : goodI (xs.getD k .und) = true := by
    obtain ⟨c, f, t, g, hx, h1, h2, h3, h4, h5⟩ := hx
    rw [hx]
    show (iLe 0 f && (iLt f t && (iLe t 1024 && (iEq (t - f) (IntKind.wrap .i64 (t - f)) && (iLe 0 g && iLe g 1099511627776))))) = true
    rw [wrap_id (by omega) (by omega), iLe_iff.mpr h1, iLt_iff.mpr h2, iLe_iff.mpr (by omega), iEq_iff.mpr rfl, iLe_iff.mpr h4, iLe_iff.mpr (by omega)]
    rfl
  rw [hg, Bool.not_true, Bool.false_or]
  refine anyB_false fun t ht => ?_
  rw [hel]
  have hp := List.pairwise_iff_getElem.1 h.ap t k (by omega) hk ht
  have e1 : xs.getD t .und = xs[t]'(by omega) := by simp [List.getD, show t < xs.length by omega]
  have e2 : xs.getD k .und = xs[k] := by simp [List.getD, hk]
  rw [e1, e2]
  unfold clash
  by_cases hc : icode (xs[t]'(by omega)) = icode xs[k]
  · have := hp hc
    rw [iLt_not.mpr (by omega), Bool.false_and, Bool.and_false]
  · have : bEq (icode xs[k]) (icode (xs[t]'(by omega))) = false := bEq_not.mpr fun e => hc e.symm
    rw [this, Bool.false_and]

theorem items_wp (hn : 20 ≤ n) (hd : Dk d) (h : ∀ xs d', Dk d' → xs.length ≤ 10 → Its xs → Q [.slc xs, d']) : wpF Try.prog A n 35 [d] Q := by
  obtain ⟨m, rfl⟩ : ∃ m, n = m + 1 := ⟨n - 1, by omega⟩
  rw [E35]
  refine ⟨trivial, next_wp (by omega) hd (by omega) (by omega) fun v d1 g1 g2 hd1 => ?_⟩
  simp only [rs0, rsS]
  obtain ⟨k, rfl⟩ : ∃ k : Nat, v = k := ⟨v.toNat, by omega⟩
  have key : ∀ (m0 k : Nat) (d : D) (xs : List D) (a0 a1 : Int), Dk d → k < m0 → xs.length + k ≤ 10 → Its xs → (∀ x ∈ xs, ito x ≤ if icode x then a0 else a1) → 0 ≤ a0 → a0 ≤ 12 * xs.length → 0 ≤ a1 → a1 ≤ 12 * xs.length →
      L35_4 m m0 (.int (k : Int)) d (.slc xs) (.agg [.int a0, .int a1]) Q := by
    intro m0
    induction m0 with
    | zero => intro k d xs a0 a1 _ h; omega
    | succ m0 ih =>
      intro k d xs a0 a1 hd h1 h2 h3 h4 h5 h6 h7 h8
      rw [L35_4_eq]
      simp only [i_int]
      refine cLt (fun c => ?_) fun c => h xs d hd (by omega) h3
      refine next_wp (by omega) hd (by omega) (by omega) fun v1 d1 g1 g2 hd1 => ?_
      simp only [rs0, rsS]
      refine next_wp (by omega) hd1 (by omega) (by omega) fun v2 d2 g3 g4 hd2 => ?_
      simp only [rs0, rsS, i_int]
      refine ⟨by omega, next_wp (by omega) hd2 (by omega) (by omega) fun v3 d3 g5 g6 hd3 => ?_⟩
      simp only [rs0, rsS, i_int]
      refine ⟨by omega, trivial, by omega, by omega, next_wp (by omega) hd3 (by omega) (by omega) fun v4 d4 g7 g8 hd4 => ?_⟩
      simp only [rs0, rsS, xs_slc, fs_agg]
      refine ⟨by unfold room; simp only [List.length_singleton]; omega, by omega, by omega, trivial, ?_⟩
      rw [wrap_id (show -9223372036854775808 ≤ (k : Int) - 1 by omega) (by omega), show ((k : Int) - 1) = ((k - 1 : Nat) : Int) by omega, wrap_id (show -9223372036854775808 ≤ 1 + v2 by omega) (by omega)]
      have add : ∀ (c : Bool) (f b0 b1 : Int), (if c then a0 else a1) ≤ f → f ≤ (if c then a0 else a1) + 3 → b0 = (if c then f + (1 + v2) else a0) → b1 = (if c then a1 else f + (1 + v2)) →
          L35_4 m m0 (.int ((k - 1 : Nat) : Int)) d4 (.slc (xs ++ [.agg [.bool c, .agg [.int f, .int (f + (1 + v2))], .int (1 + v2), .int v4]])) (.agg [.int b0, .int b1]) Q := by
        intro c f b0 b1 k1 k2 k3 k4
        have hf0 : 0 ≤ f := by cases c <;> simp at k1 <;> omega
        have hf1 : f ≤ 12 * xs.length + 3 := by cases c <;> simp at k2 <;> omega
        refine ih (k - 1) d4 _ b0 b1 hd4 (by omega) (by simp; omega) ⟨fun x hx => ?_, ?_⟩ (fun x hx => ?_) ?_ ?_ ?_ ?_
        · rcases List.mem_append.mp hx with hx | hx
          · exact h3.it x hx
          · simp only [List.mem_singleton] at hx
            subst hx
            exact ⟨c, f, f + (1 + v2), v4, by rw [show f + (1 + v2) - f = 1 + v2 by omega], hf0, by omega, by omega, g7, by omega⟩
        · rw [List.pairwise_append]
          refine ⟨h3.ap, by simp, fun y hy x hx => ?_⟩
          simp only [List.mem_singleton] at hx
          subst hx
          intro hc
          have hc' : icode y = c := hc
          have := h4 y hy
          rw [hc'] at this
          show ito y ≤ f
          omega
        · rcases List.mem_append.mp hx with hx | hx
          · have := h4 x hx
            cases hc : icode x <;> cases c <;> simp [hc] at this k1 k2 k3 k4 ⊢ <;> omega
          · simp only [List.mem_singleton] at hx
            subst hx
            show f + (1 + v2) ≤ if c then b0 else b1
            cases c <;> simp at k3 k4 ⊢ <;> omega
        · cases c <;> simp at k1 k2 k3 k4 ⊢ <;> omega
        · cases c <;> simp at k1 k2 k3 k4 ⊢ <;> omega
        · cases c <;> simp at k1 k2 k3 k4 ⊢ <;> omega
        · cases c <;> simp at k1 k2 k3 k4 ⊢ <;> omega
      have hv : v1 = 0 ∨ v1 = 1 := by omega
      rcases hv with rfl | rfl
      · have := add true (a0 + v3) (a0 + v3 + (1 + v2)) a1 (by simp; omega) (by simp; omega) (by simp) (by simp)
        simp only [show Int.toNat 0 = 0 from rfl, List.set_cons_zero, List.getD_cons_zero, i_int, show iEq 0 0 = true from rfl]
        rw [wrap_id (show -9223372036854775808 ≤ a0 + v3 by omega) (by omega), wrap_id (show -9223372036854775808 ≤ a0 + v3 + (1 + v2) by omega) (by omega)]
        exact this
      · have := add false (a1 + v3) a0 (a1 + v3 + (1 + v2)) (by simp; omega) (by simp; omega) (by simp) (by simp)
        simp only [show Int.toNat 1 = 1 from rfl, List.set_cons_succ, List.set_cons_zero, List.getD_cons_succ, List.getD_cons_zero, i_int, show iEq 1 0 = false from rfl]
        rw [wrap_id (show -9223372036854775808 ≤ a1 + v3 by omega) (by omega), wrap_id (show -9223372036854775808 ≤ a1 + v3 + (1 + v2) by omega) (by omega)]
        exact this
  exact key m k d1 [] 0 0 hd1 (by omega) (by simp; omega) ⟨by simp, by simp⟩ (by simp) (by omega) (by simp) (by omega) (by simp)
end
end Go.Ab

/- The statement ScratchBest, as what its functions compute. -/
namespace Go.Ab
open Go.Proofs
attribute [local irreducible] wpF

section
variable {n : Nat} {Q : List D → Prop}

theorem spoilt36_wp {xs : List D} (h1 : xs.length ≤ 10) (hn : 20 ≤ n) {a b : Int} (h : ∀ y, D.len y ≤ 1000 → Q [y]) : wpF Try.prog A n 36 [.slc xs, .int a, .int b] Q := by
  obtain ⟨m, rfl⟩ : ∃ m, n = m + 1 := ⟨n - 1, by omega⟩
  rw [E36]
  simp only [xs_slc, len_slc]
  refine ⟨by unfold room; omega, cEq (fun c => ?_) fun c => ?_⟩
  · refine mod_wp (by omega) (by omega) (by omega) fun g1 g2 => ?_
    refine ⟨by unfold room; simp only [List.length_singleton]; omega, h _ ?_⟩
    simp only [len_slc, List.length_append, List.length_singleton]
    omega
  · refine mod_wp (by omega) (by omega) (by omega) fun g1 g2 => ?_
    refine mod_wp (by omega) (by omega) (by omega) fun g3 g4 => ?_
    simp only [rs0, i_int]
    generalize Int.tmod (Int.tmod b xs.length + xs.length) xs.length = j at g1 g2
    have hs : ∀ e, D.len (.slc (xs.set j.toNat e)) ≤ 1000 := fun e => by simp only [len_slc, List.length_set]; omega
    refine cEq (fun c => ⟨⟨g1, g2⟩, ⟨g1, g2⟩, trivial, h _ (hs _)⟩) fun c => ?_
    refine cEq (fun c => mod_wp (by omega) (by omega) (by omega) fun g5 g6 => ⟨⟨g5, ?_⟩, ⟨g1, g2⟩, trivial, h _ (hs _)⟩) fun c => ?_
    · simp only [List.length_cons, List.length_nil]; exact g6
    refine cEq (fun c => ⟨⟨g1, g2⟩, ⟨g1, g2⟩, trivial, h _ (hs _)⟩) fun c => ?_
    refine cEq (fun c => ?_) fun c => ?_
    · simp only [List.length_set]
      exact ⟨⟨by omega, by omega⟩, ⟨g1, g2⟩, trivial, ⟨by omega, by omega⟩, ⟨g1, g2⟩, trivial, h _ (by simp only [len_slc, List.length_set]; omega)⟩
    refine cEq (fun c => ?_) fun c => ?_
    · refine mod_wp (by omega) (by omega) (by omega) fun g5 g6 => ?_
      simp only [List.length_set]
      refine ⟨⟨g1, g2⟩, trivial, ⟨g1, g2⟩, trivial, ⟨g1, g2⟩, ⟨g1, g2⟩, ⟨g1, g2⟩, trivial, h _ ?_⟩
      simp only [len_slc, List.length_set]; omega
    refine cEq (fun c => ⟨?_, ?_, h _ ?_⟩) fun c => h _ ?_
    · unfold room; omega
    · unfold room; rw [List.length_append]; omega
    · simp only [len_slc, List.length_append]; omega
    · simp only [len_slc]; omega

theorem bEq_same (b : Bool) : bEq b b = true := bEq_iff.mpr rfl
theorem iEq_same (b : Int) : iEq b b = true := iEq_iff.mpr rfl

theorem c7_19 (hn : 10000 ≤ n) {y : D} (hy : D.len y ≤ 1000) {m0 : Nat} {x1 x3 x51 x52 xo41 xo50 : D} {cs : List (List Int)} (hc : ∀ c ∈ cs, c.length ≤ 1000) (hcl : cs.length ≤ 1000)
    (h : L7_6 n m0 x1 x3 x51 (.int (IntKind.wrap .i64 (D.i x52 + 1))) xo41 xo50 Q) : ∀ (m1 k : Nat), k ≤ cs.length → cs.length - k < m1 → L7_19 n m0 m1 x1 x3 y x51 x52 (.int cs.length) (.int (k : Int)) xo41 xo50 (lst2 cs) Q := by
  intro m1
  induction m1 with
  | zero => intro k _ h; omega
  | succ m1 ih =>
    intro k h1 h2
    rw [L7_19_eq]
    simp only [i_int, toNat_nat]
    refine cLt (fun c => ⟨by rw [len_lst2]; omega, ?_⟩) fun c => h
    have hget : List.getD (D.xs (lst2 cs)) k D.und = lst (cs.getD k []) := by
      simp [xs_lst2, List.getD, show k < cs.length by omega]
    rw [hget]
    have hl := hc _ (getD_mem (d := []) (show k < cs.length by omega))
    refine val_wp hy hl (by omega) ?_
    refine val'_wp hy hl (by omega) ?_
    simp only [rs0, rsS, i_int, b_bool]
    rw [iEq_same, iEq_same, bEq_same, Bool.not_true, cond_false, cond_false, cond_false, wrap_id (by omega) (by omega)]
    exact ih (k + 1) (by omega) (by omega)

theorem c7_11 (hn : 10000 ≤ n) {y : D} (hy : D.len y ≤ 1000) {m0 : Nat} {rc : List Int} (hrc : rc.length ≤ 30) {x3 x51 x52 xo41 xo50 : D} (hd : Dk xo41) {ws : List Int} (hws : ws.length ≤ 1000)
    (h : ∀ d', Dk d' → L7_6 n m0 (lst rc) x3 x51 (.int (IntKind.wrap .i64 (D.i x52 + 1))) d' xo50 Q) : ∀ (m1 k : Nat), k ≤ ws.length → ws.length - k < m1 → L7_11 n m0 m1 (lst rc) x3 y x51 x52 (.int ws.length) (.int (k : Int)) xo41 xo50 (lst ws) Q := by
  intro m1
  induction m1 with
  | zero => intro k _ h; omega
  | succ m1 ih =>
    intro k h1 h2
    rw [L7_11_eq]
    simp only [i_int, toNat_nat]
    refine cLt (fun c => ⟨by rw [len_lst]; omega, ?_⟩) fun c => ?_
    · have hget : List.getD (D.xs (lst ws)) k D.und = .int (ws.getD k 0) := by
        simp [xs_lst, List.getD, show k < ws.length by omega]
      rw [hget]
      refine best_wp hy (by omega) ?_
      refine best'_wp hy (by omega) ?_
      simp only [rs0, rsS, i_int]
      rw [iEq_same, Bool.not_true, cond_false]
      have hbl : (best y (ws.getD k 0)).1.length ≤ 1000 := by
        unfold best
        cases validI y
        · simp
        · simp only [Bool.not_true, cond_false]
          cases iLt (ws.getD k 0) 0
          · simp only [cond_false]
            cases iLt 256 (ws.getD k 0)
            · simp only [cond_false]
              have := best_len (d := y) (w := ws.getD k 0) (2 ^ (D.len y).toNat)
              omega
            · simp
          · simp
      refine same_wp hbl (by omega) ?_
      rw [rs0, b_bool, Bool.not_true, cond_false, wrap_id (by omega) (by omega)]
      exact ih (k + 1) (by omega) (by omega)
    · refine next_wp (by omega) hd (by omega) (by omega) fun v d' g1 g2 hd' => ?_
      simp only [rs0, rsS]
      exact c7_19 (cs := [rc, [0, 2], [v], [1, 0]]) hn hy (by
        intro c hc
        simp only [List.mem_cons, List.not_mem_nil, or_false] at hc
        rcases hc with rfl | rfl | rfl | rfl
        · omega
        all_goals simp) (by simp) (h d' hd') n 0 (by simp) (by simp; omega)

theorem c7_6 (hn : 10000 ≤ n) {x s r : D} (hx : D.len x ≤ 1000) (hs : D.len s ≤ 1000) (hr : D.len r ≤ 1000) {rc : List Int} (hrc : rc.length ≤ 30) {w : Int} (h : Q [.bool true]) : ∀ (m0 k : Nat) (d : D), Dk d → k ≤ 3 → 3 - k < m0 → L7_6 n m0 (lst rc) (.int w) (.int 3) (.int (k : Int)) d (.slc [x, s, r]) Q := by
  intro m0
  induction m0 with
  | zero => intro k _ _ _ h; omega
  | succ m0 ih =>
    intro k d hd h1 h2
    rw [L7_6_eq]
    simp only [i_int, xs_slc, toNat_nat]
    refine cLt (fun c => ⟨⟨by omega, by simp only [len_slc, List.length_cons, List.length_nil]; omega⟩, ?_⟩) fun c => awake36_wp (by omega) h
    have hy : D.len ([x, s, r].getD k .und) ≤ 1000 := by
      have : k = 0 ∨ k = 1 ∨ k = 2 := by omega
      rcases this with rfl | rfl | rfl
      · exact hx
      · exact hs
      · exact hr
    refine validI_wp hy (by omega) ?_
    refine validI'_wp hy (by omega) ?_
    simp only [rs0, b_bool]
    rw [bEq_same, Bool.not_true, cond_false]
    refine next_wp (by omega) hd (by omega) (by omega) fun v d1 g1 g2 hd1 => ?_
    simp only [rs0, rsS]
    refine mod_wp (by omega) (by omega) (by omega) fun g3 g4 => ?_
    simp only [rs0, i_int]
    exact c7_11 (ws := [w, v, IntKind.wrap .i64 ((w.tmod 260 + 260).tmod 260 - 1)]) hn hy hrc hd1 (by simp) (fun d' hd' => by
      rw [i_int, wrap_id (by omega) (by omega)]
      exact ih (k + 1) d' hd' (by omega) (by omega)) n 0 (by simp) (by simp; omega)

theorem sbest_wp (hn : 20000 ≤ n) {raw : D} {rc l : List Int} (hl : l.length ≤ 2000000) {a b c : Int} : wpF Try.prog A n 7 [raw, lst rc, lst l, .int a, .int b, .int c] fun r => r = [.bool true] := by
  obtain ⟨m, rfl⟩ : ∃ m, n = m + 1 := ⟨n - 1, by omega⟩
  rw [E7, len_lst]
  refine cLt (fun c => awake36_wp (by omega) rfl) fun c => cLt (fun c => awake36_wp (by omega) rfl) fun c2 => ?_
  refine new_wp (by omega) hl fun d hd => ?_
  rw [rs0]
  refine items_wp (by omega) hd fun xs d1 hd1 h1 _ => ?_
  simp only [rs0, rsS]
  refine spoilt36_wp h1 (by omega) fun y hy => ?_
  simp only [rs0]
  exact c7_6 (n := m) (Q := fun r => r = [.bool true]) (by omega) (by simp only [len_slc]; omega) hy (by omega) (by omega) rfl m 0 d1 hd1 (by omega) (by omega)
end
end Go.Ab

/- The statement ScratchMore, as what its functions compute: the best choice gains most of all that fit. -/
namespace Go.Ab
open Go.Proofs
attribute [local irreducible] wpF

theorem bit_eq (s : Int) (k : Nat) : bit s k = decide ((Int.fdiv s (2 ^ (min k 64))) % 2 = 1) := by
  unfold bit
  generalize Int.fdiv s (2 ^ (min k 64)) = z
  have h : ((BitVec.ofInt 64 z) &&& (BitVec.ofInt 64 (1 : Int))).toNat = (z % 2).toNat := by
    rw [BitVec.toNat_and, BitVec.toNat_ofInt, show (BitVec.ofInt 64 (1 : Int)).toNat = 1 from rfl, Nat.and_one_is_mod]
    omega
  rw [h, wrap_id (by omega) (by omega)]
  unfold iEq
  exact decide_eq_decide.mpr (by omega)

theorem bit_mod {o : Int} {N k : Nat} (hk : k < N) (hN : N ≤ 10) : bit (o % 2 ^ N) k = bit o k := by
  rw [bit_eq, bit_eq, Nat.min_eq_left (by omega)]
  have hp : (0 : Int) < 2 ^ k := Int.pow_pos (by omega)
  rw [Int.fdiv_eq_ediv_of_nonneg _ (by omega), Int.fdiv_eq_ediv_of_nonneg _ (by omega)]
  have e : (2 : Int) ^ N = 2 ^ k * (2 * 2 ^ (N - k - 1)) := by
    rw [← Int.pow_succ', ← Int.pow_add]
    congr 1
    omega
  have h1 : o / 2 ^ k = (o % 2 ^ N) / 2 ^ k + 2 * 2 ^ (N - k - 1) * (o / 2 ^ N) := by
    have h2 : o = o % 2 ^ N + 2 ^ k * (2 * 2 ^ (N - k - 1) * (o / 2 ^ N)) := by
      rw [← Int.mul_assoc, ← e]
      have := Int.emod_add_mul_ediv o (2 ^ N)
      omega
    conv => lhs; rw [h2]
    rw [Int.add_mul_ediv_left _ _ (by omega)]
  rw [h1, Int.mul_assoc]
  exact decide_eq_decide.mpr (by omega)

theorem iter_congr {S : Type} {f g : S → Nat → S} {x : S} : ∀ N : Nat, (∀ k, k < N → ∀ y, f y k = g y k) → iter f x N = iter g x N
  | 0, _ => rfl
  | N + 1, h => by
    simp only [iter]
    rw [iter_congr N fun k hk => h k (by omega), h N (by omega)]
theorem cho_congr {s t : Int} (N : Nat) (h : ∀ k, k < N → bit s k = bit t k) : cho N s = cho N t := by
  unfold cho
  refine iter_congr N fun k hk y => ?_
  unfold choS
  rw [h k hk]
theorem cho_any {o : Int} {N : Nat} (hN : N ≤ 10) : ∃ s : Nat, s < 2 ^ N ∧ cho N o = cho N (s : Int) := by
  have hp : (0 : Int) < 2 ^ N := Int.pow_pos (by omega)
  have h1 := Int.emod_nonneg o (Int.ne_of_gt hp)
  have h2 := Int.emod_lt_of_pos o hp
  have hpn : ((2 ^ N : Nat) : Int) = (2 : Int) ^ N := Int.natCast_pow 2 N
  refine ⟨(o % 2 ^ N).toNat, ?_, ?_⟩
  · have h3 : (((o % 2 ^ N).toNat : Nat) : Int) < ((2 ^ N : Nat) : Int) := by
      rw [Int.toNat_of_nonneg h1, hpn]
      exact h2
    exact Int.ofNat_lt.mp h3
  · rw [Int.toNat_of_nonneg h1]
    exact cho_congr N fun k hk => (bit_mod hk hN).symm

theorem cho_sorted (s : Int) : ∀ N : Nat, (∀ x ∈ cho N s, 0 ≤ x ∧ x < N) ∧ (cho N s).Pairwise (· < ·) := by
  intro N
  induction N with
  | zero => exact ⟨by simp [cho, iter], by simp [cho, iter]⟩
  | succ N ih =>
    have e : cho (N + 1) s = choS s (cho N s) N := rfl
    rw [e, choS]
    cases bit s N with
    | false => exact ⟨fun x hx => by have := ih.1 x hx; omega, ih.2⟩
    | true =>
      simp only [cond_true]
      refine ⟨fun x hx => ?_, ?_⟩
      · rcases List.mem_append.mp hx with hx | hx
        · have := ih.1 x hx; omega
        · simp only [List.mem_singleton] at hx; omega
      · rw [List.pairwise_append]
        refine ⟨ih.2, by simp, fun a ha b hb => ?_⟩
        simp only [List.mem_singleton] at hb
        have := ih.1 a ha
        omega

theorem cho_choice (s : Int) (N : Nat) : choiceB (N : Int) (cho N s) = true := by
  unfold choiceB
  rw [anyB_false]
  · rfl
  · intro k hk
    obtain ⟨h1, h2⟩ := cho_sorted s N
    have hm := h1 _ (getD_mem (d := 0) hk)
    unfold badC gi
    rw [iLt_not.mpr (by omega), iLe_not.mpr (by omega), Bool.false_or, Bool.false_or]
    by_cases hk0 : k = 0
    · subst hk0; rfl
    · have := List.pairwise_iff_getElem.1 h2 (k - 1) k (by omega) hk (by omega)
      have e1 : (cho N s).getD (k - 1) 0 = (cho N s)[k - 1]'(by omega) := by simp [List.getD, show k - 1 < (cho N s).length by omega]
      have e2 : (cho N s).getD k 0 = (cho N s)[k] := by simp [List.getD, hk]
      rw [e1, e2, iLe_not.mpr (by omega), Bool.and_false]

theorem val_cho {d : D} (h : validI d = true) (s : Int) : (val d (cho (D.len d).toNat s)).2 = true := by
  have hl := len_nn' d
  unfold val
  have := cho_choice s (D.len d).toNat
  rw [show (((D.len d).toNat : Nat) : Int) = D.len d by omega] at this
  rw [h, this]
  rfl

/-- What the best choice is, so far. -/
structure Bst (d : D) (w : Int) (k : Nat) (S : List Int × (Int × Int)) : Prop where
  is : ∃ s : Nat, s < 2 ^ (D.len d).toNat ∧ S.1 = cho (D.len d).toNat (s : Int) ∧ (val d S.1).1 = S.2
  fits : S.2.2 ≤ w
  most : ∀ s : Nat, s < k → (val d (cho (D.len d).toNat (s : Int))).1.2 ≤ w → (val d (cho (D.len d).toNat (s : Int))).1.1 ≤ S.2.1

theorem bst {d : D} {w : Int} (h : validI d = true) (hw : 0 ≤ w) : ∀ k, k ≤ 2 ^ (D.len d).toNat → Bst d w k (iter (bestS d w) ([], 0, 0) k) := by
  intro k
  induction k with
  | zero =>
    intro _
    refine ⟨⟨0, Nat.two_pow_pos _, ?_, ?_⟩, hw, fun s hs => by omega⟩
    · exact (cho_zero _).symm
    · show (val d []).1 = (0, 0)
      rw [val_nil h]
  | succ k ih =>
    intro hk
    have ih := ih (by omega)
    simp only [iter]
    generalize iter (bestS d w) ([], 0, 0) k = S at ih
    have new : (val d (cho (D.len d).toNat (k : Int))).1.2 ≤ w → S.2.1 ≤ (val d (cho (D.len d).toNat (k : Int))).1.1 → Bst d w (k + 1) (cho (D.len d).toNat (k : Int), (val d (cho (D.len d).toNat (k : Int))).1) := fun h1 h2 =>
      ⟨⟨k, by omega, rfl, rfl⟩, h1, fun s hs hf => by
        by_cases e : s = k
        · subst e; exact Int.le_refl _
        · exact Int.le_trans (ih.most s (by omega) hf) h2⟩
    have old : ((val d (cho (D.len d).toNat (k : Int))).1.2 ≤ w → (val d (cho (D.len d).toNat (k : Int))).1.1 ≤ S.2.1) → Bst d w (k + 1) S := fun h1 =>
      ⟨ih.is, ih.fits, fun s hs hf => by
        by_cases e : s = k
        · subst e; exact h1 hf
        · exact ih.most s (by omega) hf⟩
    unfold bestS
    cases b1 : iLt w (val d (cho (D.len d).toNat (k : Int))).1.2 with
    | true => rw [iLt_iff] at b1; exact old fun h => by omega
    | false =>
      rw [iLt_not] at b1
      simp only [cond_false]
      cases b2 : iLt S.2.1 (val d (cho (D.len d).toNat (k : Int))).1.1 with
      | true => rw [iLt_iff] at b2; exact new (by omega) (by omega)
      | false =>
        rw [iLt_not] at b2
        simp only [cond_false]
        cases b3 : iEq (val d (cho (D.len d).toNat (k : Int))).1.1 S.2.1 with
        | false => exact old fun _ => by omega
        | true =>
          rw [iEq_iff] at b3
          simp only [cond_true]
          cases iLt (val d (cho (D.len d).toNat (k : Int))).1.2 S.2.2 with
          | true => exact new (by omega) (by omega)
          | false =>
            simp only [cond_false]
            cases iEq (val d (cho (D.len d).toNat (k : Int))).1.2 S.2.2 with
            | false => exact old fun _ => by omega
            | true =>
              simp only [cond_true]
              cases bfr (cho (D.len d).toNat (k : Int)) S.1 with
              | true => exact new (by omega) (by omega)
              | false => exact old fun _ => by omega

/-- The best choice. -/
theorem best_is {d : D} {w : Int} (h : validI d = true) (hw : 0 ≤ w) (hw2 : w ≤ 256) : ∃ S, (best d w) = (S.1, 0) ∧ Bst d w (2 ^ (D.len d).toNat) S := by
  refine ⟨iter (bestS d w) ([], 0, 0) (2 ^ (D.len d).toNat), ?_, bst h hw _ (Nat.le_refl _)⟩
  unfold best
  rw [h, iLt_not.mpr (by omega), iLt_not.mpr (by omega)]
  rfl

section
variable {n : Nat}

theorem more_wp (hn : 20000 ≤ n) {l : List Int} (hl : l.length ≤ 2000000) {a b c : Int} : wpF Try.prog A n 8 [lst l, .int a, .int b, .int c] fun r => r = [.bool true] := by
  obtain ⟨m, rfl⟩ : ∃ m, n = m + 1 := ⟨n - 1, by omega⟩
  rw [E8]
  refine new_wp (by omega) hl fun d hd => ?_
  rw [rs0]
  refine items_wp (by omega) hd fun xs d1 hd1 h1 hits => ?_
  simp only [rs0, rsS]
  have hv := its_valid hits h1
  have hx : D.len (.slc xs) ≤ 1000 := by simp only [len_slc]; omega
  refine mod_wp (by omega) (by omega) (by omega) fun g1 g2 => ?_
  rw [rs0]
  generalize Int.tmod (Int.tmod a 60 + 60) 60 = w at g1 g2
  obtain ⟨S, hS, hB⟩ := best_is hv g1 (by omega)
  refine best_wp hx (by omega) ?_
  refine mod_wp (by omega) (by omega) (by omega) fun g3 g4 => ?_
  simp only [rs0, rsS, i_int]
  generalize Int.tmod (Int.tmod b 30 + 30) 30 = e at g3 g4
  rw [wrap_id (by omega) (by omega)]
  obtain ⟨S', hS', hB'⟩ := best_is hv (show 0 ≤ w + e by omega) (by omega)
  refine best_wp hx (by omega) ?_
  rw [hS, hS']
  simp only [rs0, rsS]
  obtain ⟨s, hs1, hs2, hs3⟩ := hB.is
  obtain ⟨s', hs1', hs2', hs3'⟩ := hB'.is
  have hle : ∀ s : Int, (cho (D.len (.slc xs)).toNat s).length ≤ 1000 := fun s => by
    have := cho_len s (D.len (.slc xs)).toNat
    omega
  have v1 : (val (.slc xs) S.1).2 = true := by rw [hs2]; exact val_cho hv _
  have v2 : (val (.slc xs) S'.1).2 = true := by rw [hs2']; exact val_cho hv _
  refine val_wp hx (by rw [hs2]; exact hle _) (by omega) ?_
  refine val_wp hx (by rw [hs2']; exact hle _) (by omega) ?_
  simp only [rs0, rsS, i_int, b_bool]
  rw [v1, v2, hs3, hs3', show iEq 0 0 = true from rfl, Bool.not_true, cond_false, cond_false, cond_false, cond_false]
  have hg : S.2.1 ≤ S'.2.1 := by
    have := hB'.most s hs1 (by rw [← hs2, hs3]; have := hB.fits; omega)
    rw [← hs2, hs3] at this
    exact this
  rw [iLt_not.mpr (show ¬ S'.2.1 < S.2.1 by omega), cond_false, iLt_not.mpr (show ¬ w < S.2.2 by have := hB.fits; omega), cond_false]
  have hlen : D.len (.slc xs) = ((xs.length : Nat) : Int) := rfl
  have hN : (D.len (.slc xs)).toNat = xs.length := rfl
  rw [hlen]
  show L8_12 m m (.int c) (.int w) (.int S.2.1) (.int (xs.length : Int)) (.int ((0 : Nat) : Int)) (lst (cho 0 c)) (.slc xs) _
  refine cho_loop (s := c) (N := xs.length) (L := fun m1 k l Q => L8_12 m m1 (.int c) (.int w) (.int S.2.1) (.int (xs.length : Int)) k l (.slc xs) Q) (by omega) (fun m1 k l Q hk hkl g1 g2 => ?_) m 0 (by omega) (by omega) fun m1 => ?_
  · rw [L8_12_eq]
    simp only [i_int]
    rw [wrapu_id (show 0 ≤ (k : Int) by omega) (by omega), toNat_nat]
    refine cLt (fun _ => ⟨by omega, ?_⟩) fun c4 => by omega
    rw [wrap_id (show -9223372036854775808 ≤ (k : Int) + 1 by omega) (by omega)]
    refine cnd (fun hb => ⟨?_, ?_⟩) fun hb => g2 hb
    · unfold room
      simp only [xs_lst, List.length_map, List.length_singleton]
      omega
    · have := g1 hb
      simp only [lst, List.map_append] at this
      exact this
  · rw [L8_12_eq]
    simp only [i_int]
    refine cLt (fun c4 => by omega) fun _ => ?_
    have hcl := cho_len c xs.length
    refine val_wp hx (by omega) (by omega) ?_
    simp only [rs0, rsS, i_int]
    refine cLt (fun _ => awake36_wp (by omega) rfl) fun hf => cLe (fun _ => awake36_wp (by omega) rfl) fun hno => ?_
    exfalso
    obtain ⟨t, ht1, ht2⟩ := cho_any (o := c) (N := xs.length) h1
    rw [ht2] at hf hno
    have := hB.most t (by rw [hN]; exact ht1) (by rw [hN]; omega)
    rw [hN] at this
    exact hno this
end
end Go.Ab
