/- Equations and plain laws of the functions that the statement reaches, part 6. Conditions: those in each theorem. -/
import Derived.Test.YtdbahkmnhodhmaaPart5
import Derived.Test.YtdbahkmnhodhmaaAbPart8
set_option linter.unusedVariables false
set_option linter.unusedSimpArgs false
/- The law's bounds: made ones, spoilt ones, joined ones. -/
namespace Go.Ab
open Go.Proofs
attribute [local irreducible] wpF

theorem wrap_rng (x : Int) : -9223372036854775808 ≤ IntKind.wrap .i64 x ∧ IntKind.wrap .i64 x ≤ 9223372036854775807 := by
  simp only [IntKind.wrap, IntKind.bits, IntKind.signed, Bool.true_and]
  by_cases h : x % 2 ^ 64 ≥ 2 ^ (64 - 1)
  · rw [if_pos (by simpa using h)]; omega
  · rw [if_neg (by simpa using h)]; omega

/-- A case whose lists are not too long. -/
structure CN (N : Int) (c : D) : Prop where
  form : D.len (D.fld c 2) ≤ N
  mul : D.len (D.fld c 4) ≤ N
  big : ∀ x ∈ D.xs (D.fld c 4), D.i (D.fld x 0) ≤ 9223372036854775807
  flf : ∀ x ∈ D.xs (D.fld c 2), Fl x
  flm : ∀ x ∈ D.xs (D.fld c 4), Fl x
structure BN (N : Int) (b : D) : Prop where
  cases : D.len (cs b) ≤ N
  each : ∀ c ∈ D.xs (cs b), CN N c
theorem CN.mono {N M : Int} {c : D} (h : CN N c) (hN : N ≤ M) : CN M c := ⟨Int.le_trans h.form hN, Int.le_trans h.mul hN, h.big, h.flf, h.flm⟩
theorem BN.mono {N M : Int} {b : D} (h : BN N b) (hN : N ≤ M) : BN M b := ⟨Int.le_trans h.cases hN, fun c hc => (h.each c hc).mono hN⟩
theorem el_mem {d : D} {i : Nat} (h : (i : Int) < D.len d) : D.el d (i : Int) ∈ D.xs d := by
  have e : D.el d (i : Int) = (D.xs d).getD i .und := by simp [D.el]
  rw [e]
  have : D.len d = ((D.xs d).length : Nat) := rfl
  exact getD_mem (by omega)
theorem BN.bx {N : Int} {b : D} (h : BN N b) (hN : N ≤ 1100000) : Bx b := by
  have at_ : ∀ i : Nat, (i : Int) < D.len (cs b) → CN N (cAs b i) := fun i hi => h.each _ (el_mem hi)
  refine ⟨⟨Int.le_trans h.cases hN, fun i hi => Int.le_trans (at_ i hi).form hN, fun i hi => Int.le_trans (at_ i hi).mul hN⟩, fun i hi k hk => ?_⟩
  exact (at_ i hi).big _ (el_mem hk)
theorem cn_agg {N : Int} {a b f t r e : D} (h1 : D.len f ≤ N) (h2 : D.len r ≤ N) (h3 : ∀ x ∈ D.xs r, D.i (D.fld x 0) ≤ 9223372036854775807) (h4 : ∀ x ∈ D.xs f, Fl x) (h5 : ∀ x ∈ D.xs r, Fl x) : CN N (.agg [a, b, f, t, r, e]) := ⟨h1, h2, h3, h4, h5⟩
theorem bn_agg {N : Int} {l : List D} {t : D} (h1 : (l.length : Int) ≤ N) (h2 : ∀ c ∈ l, CN N c) : BN N (.agg [.slc l, t]) := ⟨h1, h2⟩

/-- The corner of a boxed model. -/
def cornS (R : Nat) (goal : D) (s : List D) (k : Nat) : List D := cond (iLt 0 (tco goal k)) (s ++ [.agg [.int ((R : Int) + tof goal k), D.fld (D.el goal k) 1]]) s
def cornL (R : Nat) (goal : D) (k : Nat) : List D := iter (cornS R goal) [] k
def leafC (s : List D) (den : D) : D := .agg [.int (-1), .int (-1), .slc [], .int 0, .slc s, den]
def cornC (R : Nat) (goal : D) : D := leafC (cornL R goal (D.len goal).toNat) (.int 1)

theorem mul_of {l : D} (h : ∀ k : Nat, (k : Int) < D.len l → badM l k = false) : mulB l = true := by
  unfold mulB
  have hl := ln0 l
  rw [anyB_false fun i hi => h i (by omega)]
  rfl
theorem badM_of {l : D} {k : Nat} (h1 : 0 ≤ tof l k) (h2 : 0 < k → tof l ((k : Int) - 1) < tof l k) (h3 : 1 ≤ tco l k) (h4 : tco l k ≤ 1073741824) : badM l k = false := by
  simp only [badM, Bool.or_eq_false_iff, iLt_not, iLe_not, Bool.and_eq_false_iff]
  refine ⟨by omega, ?_, by omega, by omega⟩
  by_cases hk : 0 < k
  · right; have := h2 hk; omega
  · left; omega
theorem mul_snoc {s : List D} {y : D} (h : mulB (.slc s) = true) (hlt : ∀ j : Nat, j < s.length → tof (.slc s) j < D.i (D.fld y 0)) (h0 : 0 ≤ D.i (D.fld y 0)) (h1 : 1 ≤ D.i (D.fld y 1)) (h2 : D.i (D.fld y 1) ≤ 1073741824) : mulB (.slc (s ++ [y])) = true := by
  refine mul_of fun j hj => ?_
  rw [len_slc, List.length_append, List.length_singleton] at hj
  by_cases e : j = s.length
  · subst e
    have eo : tof (.slc (s ++ [y])) (s.length : Nat) = D.i (D.fld y 0) := by unfold tof; rw [xs_get_new]
    have ec : tco (.slc (s ++ [y])) (s.length : Nat) = D.i (D.fld y 1) := by unfold tco; rw [xs_get_new]
    refine badM_of (by omega) (fun hk => ?_) (by omega) (by omega)
    rw [eo, show ((s.length : Int) - 1) = ((s.length - 1 : Nat) : Int) by omega]
    unfold tof
    rw [xs_get_app (by omega)]
    exact hlt _ (by omega)
  · have f := badM_facts (mul_at h (show (j : Int) < D.len (.slc s) by rw [len_slc]; omega))
    have eo : ∀ i : Nat, i ≤ j → tof (.slc (s ++ [y])) (i : Nat) = tof (.slc s) (i : Nat) := fun i hi => by unfold tof; rw [xs_get_app (by omega)]
    have ec : tco (.slc (s ++ [y])) (j : Nat) = tco (.slc s) (j : Nat) := by unfold tco; rw [xs_get_app (by omega)]
    refine badM_of (by rw [eo j (by omega)]; omega) (fun hk => ?_) (by omega) (by omega)
    rw [eo j (by omega), show ((j : Int) - 1) = ((j - 1 : Nat) : Int) by omega, eo (j - 1) (by omega), show ((j - 1 : Nat) : Int) = ((j : Int) - 1) by omega]
    exact f.2.1 hk

theorem corn_facts {R : Nat} {goal : D} {c : Int} (h : termsB goal c 9 = true) : ∀ k : Nat, (k : Int) ≤ D.len goal →
    mulB (.slc (cornL R goal k)) = true ∧ (cornL R goal k).length ≤ k ∧ (∀ x ∈ cornL R goal k, (R : Int) ≤ D.i (D.fld x 0) ∧ D.i (D.fld x 0) < R + c ∧ ∀ t : Nat, k ≤ t → (t : Int) < D.len goal → D.i (D.fld x 0) < R + tof goal t) := by
  intro k
  induction k with
  | zero => intro _; exact ⟨rfl, Nat.le_refl _, fun x hx => by cases hx⟩
  | succ k ih =>
    intro hk
    obtain ⟨h1, h2, h3⟩ := ih (by omega)
    have f := badT_facts (terms_at h (show (k : Int) < D.len goal by omega))
    have e : cornL R goal (k + 1) = cornS R goal (cornL R goal k) k := rfl
    rw [e, cornS]
    cases hc : iLt 0 (tco goal k) with
    | false => exact ⟨h1, by simp only [cond_false]; omega, fun x hx => ⟨(h3 x hx).1, (h3 x hx).2.1, fun t ht hl => (h3 x hx).2.2 t (by omega) hl⟩⟩
    | true =>
      rw [iLt_iff] at hc
      simp only [cond_true]
      refine ⟨mul_snoc h1 (fun j hj => ?_) ?_ ?_ ?_, by rw [List.length_append, List.length_singleton]; omega, fun x hx => ?_⟩
      · have hm : D.el (.slc (cornL R goal k)) (j : Int) ∈ cornL R goal k := el_mem (d := .slc (cornL R goal k)) (by rw [len_slc]; omega)
        have := (h3 _ hm).2.2 k (Nat.le_refl _) (by omega)
        unfold tof
        simp only [fld0, i_int]
        exact this
      · show 0 ≤ (R : Int) + tof goal k
        omega
      · show 1 ≤ tco goal k
        omega
      · show tco goal k ≤ _
        omega
      · rcases List.mem_append.mp hx with hx | hx
        · exact ⟨(h3 x hx).1, (h3 x hx).2.1, fun t ht hl => (h3 x hx).2.2 t (by omega) hl⟩
        · rw [List.mem_singleton.mp hx]
          simp only [fld0, i_int]
          refine ⟨by omega, by omega, fun t ht hl => ?_⟩
          have := terms_inc h (show k < t by omega) hl
          omega

/-- A leaf of a law. -/
structure LF (s : List D) : Prop where
  mul : mulB (.slc s) = true
  len : s.length ≤ 4
  big : ∀ x ∈ s, D.i (D.fld x 0) ≤ 1000
  fl : ∀ x ∈ s, Fl x
theorem LF.cn {s : List D} (h : LF s) {den : D} : CN 1000 (leafC s den) := by
  have := h.len
  exact ⟨by show D.len (.slc []) ≤ 1000; rw [len_slc, List.length_nil]; omega, by show D.len (.slc s) ≤ 1000; rw [len_slc]; omega, fun x hx => by have := h.big x hx; omega, (fun x hx => by cases hx), h.fl⟩
theorem LF.lc {s : List D} (h : LF s) {m : D} {c : Nat} {rows goal : List D} {k : Int} {box : List Int} (hm : SM m c rows goal k box) {v : Int} (h0 : 0 ≤ v) (h1 : v ≤ 1024) : LC m [] (leafC s (.int v)) := by
  have := h.len
  have hM := modB_facts hm.mv
  refine ⟨hm.mo, hm.mv, (fun x hx => by cases hx), ?_, h.mul, by show D.len (.slc s) ≤ _; rw [len_slc]; omega, h0, h1, fun k hk => ?_⟩
  · rw [List.length_nil]; omega
  · have hk : (k : Int) < D.len (.slc s) := hk
    rw [len_slc] at hk
    have := h.big _ (getD_mem (d := .und) (show k < s.length by omega))
    show D.i (D.fld (s.getD k .und) 0) ≤ _
    omega
theorem corn_fl {R : Nat} {goal : List D} (h : ∀ x ∈ goal, Fl x) : ∀ k, k ≤ goal.length → ∀ x ∈ cornL R (.slc goal) k, Fl x := by
  intro k
  induction k with
  | zero => intro _ x hx; cases hx
  | succ k ih =>
    intro hk
    have e : cornL R (.slc goal) (k + 1) = cornS R (.slc goal) (cornL R (.slc goal) k) k := rfl
    rw [e, cornS]
    cases iLt 0 (tco (.slc goal) k) with
    | false => exact ih (by omega)
    | true =>
      refine fl_snoc (ih (by omega)) ?_
      obtain ⟨a, b, h1⟩ := h _ (el_mem (d := .slc goal) (i := k) (by rw [len_slc]; omega))
      rw [h1]
      exact ⟨_, _, rfl⟩
theorem corn_lf {R c : Nat} {goal : List D} (h : termsB (.slc goal) c 9 = true) (hgf : ∀ x ∈ goal, Fl x) (hc : c ≤ 4) (hR : R ≤ 6) : LF (cornL R (.slc goal) goal.length) := by
  have hl := terms_len h (by omega)
  rw [len_slc] at hl
  have f := corn_facts (R := R) h goal.length (by rw [len_slc]; omega)
  exact ⟨f.1, by omega, fun x hx => by have := f.2.2 x hx; omega, corn_fl hgf _ (Nat.le_refl _)⟩
theorem one_lf {o w : Int} (h0 : 0 ≤ o) (h1 : o ≤ 1000) (h2 : 1 ≤ w) (h3 : w ≤ 100) : LF [tm o w] :=
  ⟨mul_snoc (s := []) (y := tm o w) rfl (fun j hj => by cases hj) h0 h2 (by show w ≤ _; omega), by simp, fun x hx => by rw [List.mem_singleton.mp hx]; exact h1, fun x hx => by rw [List.mem_singleton.mp hx]; exact ⟨_, _, rfl⟩⟩

section
variable {n : Nat} {Q : List D → Prop}

theorem corner_wp {m : D} {c : Nat} {rows goal : List D} {k : Int} {box : List Int} (hm : SM m c rows goal k box) (hn : 100 ≤ n) (h : Q [leafC (cornL rows.length (.slc goal) goal.length) (.int 1)]) : wpF Try.prog A n 58 [m] Q := by
  obtain ⟨p, rfl⟩ : ∃ p, n = p + 1 := ⟨n - 1, by omega⟩
  rw [E58]
  have hg := hm.goal
  have hc := hm.cols
  have hfew := hm.few
  have hgl := terms_len hg (by omega)
  rw [len_slc] at hgl
  have e1 : D.fld m 1 = .slc (rows ++ boxR box c) := by rw [hm.eq]; rfl
  have e0 : D.fld m 0 = .int (c : Int) := by rw [hm.eq]; rfl
  have e2 : D.fld m 2 = .slc goal := by rw [hm.eq]; rfl
  rw [e2, len_slc]
  refine ⟨trivial, ?_⟩
  refine fold_loop (L := fun m0 t s => L58_3 p m0 (.slc goal) (.int (goal.length : Int)) t m (.agg [.int 0, .int 0, .slc [], .int 0, .slc [], .int 0]) (leafC s (.int 1)) Q) (step := cornS rows.length (.slc goal)) (s0 := []) (N := goal.length) (by omega) (fun m1 t ht hw hg2 => ?_) (fun m1 => ?_) p 0 (by omega) (by omega)
  · rw [L58_3_eq]
    simp only [i_int, len_slc]
    rw [hw, e1, e0, len_slc, hm.rlen, i_int]
    have f := badT_facts (terms_at hg (show (t : Int) < D.len (.slc goal) by rw [len_slc]; omega))
    have hf := (corn_facts (R := rows.length) hg t (by rw [len_slc]; omega)).2.1
    unfold cornL at hf
    simp only [iter] at hg2
    revert hg2 hf
    generalize iter (cornS rows.length (.slc goal)) [] t = z
    intro hg2 hf
    unfold cornS at hg2
    have eo : D.i (D.fld (D.el (.slc goal) (t : Int)) 0) = tof (.slc goal) t := rfl
    have ec : D.i (D.fld (D.el (.slc goal) (t : Int)) 1) = tco (.slc goal) t := rfl
    rw [eo, ec, wrap_id (show -9223372036854775808 ≤ ((rows.length + c : Nat) : Int) - (c : Int) by omega) (by omega), wrap_id (by omega) (by omega)]
    rw [show ((rows.length + c : Nat) : Int) - (c : Int) + tof (.slc goal) t = (rows.length : Int) + tof (.slc goal) t by omega]
    refine cLt (fun _ => ⟨by omega, trivial, ?_⟩) fun c => by omega
    refine cnd (fun c1 => ?_) fun c1 => ?_
    · rw [c1, cond_true] at hg2
      refine ⟨?_, trivial, hg2⟩
      show room (((D.xs (.slc z)).length : Int) + _) 16
      unfold room; rw [xs_slc]; simp only [List.length_singleton]; omega
    · rw [c1, cond_false] at hg2
      exact hg2
  · rw [L58_3_eq]
    simp only [i_int]
    refine cLt (fun c => by omega) fun _ => ⟨trivial, h⟩

/-- Cases that are moved. -/
def shT (rows : Int) (x : D) : D := cond (iLe rows (D.i (D.fld x 0))) (.agg [.int (IntKind.wrap .i64 (D.i (D.fld x 0) + 1)), D.fld x 1]) x
def mvC (by_ rows : Int) (c : D) : D := .agg [cond (iEq (cL c) (-1)) (D.fld c 0) (.int (IntKind.wrap .i64 (cL c + by_))), cond (iEq (cL c) (-1)) (D.fld c 1) (.int (IntKind.wrap .i64 (cR c + by_))), .slc (D.xs (D.fld c 2)), D.fld c 3, .slc ((D.xs (D.fld c 4)).map (shT rows)), D.fld c 5]
theorem mv_cn {N b r : Int} {c : D} (h : CN N c) : CN N (mvC b r c) := by
  refine cn_agg h.form ?_ (fun x hx => ?_) h.flf fun x hx => ?_
  · rw [len_slc, List.length_map]; exact h.mul
  · rw [xs_slc] at hx
    obtain ⟨y, hy, rfl⟩ := List.mem_map.mp hx
    unfold shT
    cases iLe r (D.i (D.fld y 0)) with
    | true =>
      simp only [cond_true, fld0, i_int]
      exact (wrap_rng _).2
    | false => exact h.big y hy
  · rw [xs_slc] at hx
    obtain ⟨y, hy, rfl⟩ := List.mem_map.mp hx
    obtain ⟨a, b, e⟩ := h.flm y hy
    unfold shT
    cases iLe r (D.i (D.fld y 0)) with
    | true => rw [e]; exact ⟨_, _, rfl⟩
    | false => exact ⟨a, b, e⟩

theorem map_take_snoc {f : D → D} {l : List D} {k : Nat} (h : k < l.length) : (l.take (k + 1)).map f = (l.take k).map f ++ [f (l.getD k .und)] := by
  rw [take_snoc (d := .und) h, List.map_append]; rfl

theorem moved_wp {d : D} {b r : Int} (hl : (D.xs d).length ≤ 1000) (hc : ∀ c ∈ D.xs d, CN 1100000 c) (hn : 1100200 ≤ n) (h : Q [.slc ((D.xs d).map (mvC b r))]) : wpF Try.prog A n 107 [d, .int b, .int r] Q := by
  obtain ⟨p, rfl⟩ : ∃ p, n = p + 1 := ⟨n - 1, by omega⟩
  rw [E107]
  obtain ⟨l, hlist⟩ : ∃ l, D.xs d = l := ⟨_, rfl⟩
  have hdl : D.len d = (l.length : Nat) := by rw [← hlist]; rfl
  have hde : ∀ k : Nat, D.el d (k : Int) = l.getD k .und := fun k => by rw [← hlist]; simp [D.el]
  rw [hlist] at hl hc h
  rw [hdl]
  have key : ∀ (m0 k : Nat), k ≤ l.length → l.length - k < m0 → L107_3 p m0 (.int b) (.int r) d (.int (l.length : Int)) (.int (k : Int)) (.slc ((l.take k).map (mvC b r))) Q := by
    intro m0
    induction m0 with
    | zero => intro k _ h; omega
    | succ m0 ih =>
      intro k h1 h2
      rw [L107_3_eq]
      simp only [i_int]
      rw [hdl, hde]
      refine cLt (fun hk => ⟨by omega, trivial, ?_⟩) fun hk => ?_
      · have hN := hc _ (getD_mem (d := .und) (show k < l.length by omega))
        have ih := ih (k + 1) (by omega) (by omega)
        rw [map_take_snoc (by omega)] at ih
        revert ih hN
        generalize l.getD k .und = c
        intro hN ih
        obtain ⟨M, hM⟩ : ∃ M : Nat, (D.xs (D.fld c 4)).length = M := ⟨_, rfl⟩
        have hM2 : D.len (D.fld c 4) = M := by rw [← hM]; rfl
        have hM3 := hN.mul
        have hF : D.len (D.fld c 2) = ((D.xs (D.fld c 2)).length : Nat) := rfl
        have hF3 := hN.form
        have hlt : ((l.take k).map (mvC b r)).length ≤ 1000 := by rw [List.length_map]; have := List.length_take_le k l; omega
        have inner : ∀ x y : D, x = cond (iEq (cL c) (-1)) (D.fld c 0) (.int (IntKind.wrap .i64 (cL c + b))) → y = cond (iEq (cL c) (-1)) (D.fld c 1) (.int (IntKind.wrap .i64 (cR c + b))) → ∀ (m1 t : Nat), t ≤ M → M - t < m1 →
            L107_10 p m0 m1 (.int b) (.int r) d (.int (l.length : Int)) (.int (k : Int)) (D.fld c 4) (.int (M : Int)) (.int (t : Int)) (.slc ((l.take k).map (mvC b r))) (.agg [x, y, .slc (D.xs (D.fld c 2)), D.fld c 3, D.fld c 4, D.fld c 5]) (.slc (((D.xs (D.fld c 4)).take t).map (shT r))) Q := by
          intro x y hx hy m1
          induction m1 with
          | zero => intro t _ h; omega
          | succ m1 ihm =>
            intro t h3 h4
            rw [L107_10_eq]
            simp only [i_int, xs_slc, fld0, fldS]
            rw [hM2]
            have hw : IntKind.wrap .i64 ((t : Int) + 1) = ((t + 1 : Nat) : Int) := by rw [wrap_id (by omega) (by omega)]; omega
            have htl : (((D.xs (D.fld c 4)).take t).map (shT r)).length ≤ M := by rw [List.length_map]; have := List.length_take_le' t (D.xs (D.fld c 4)); omega
            refine cLt (fun ht => ⟨by omega, trivial, ?_⟩) fun ht => ?_
            · have ihm := ihm (t + 1) (by omega) (by omega)
              rw [map_take_snoc (by omega)] at ihm
              rw [hw]
              have hel : D.el (D.fld c 4) (t : Int) = (D.xs (D.fld c 4)).getD t .und := by simp [D.el]
              rw [hel]
              revert ihm
              generalize (D.xs (D.fld c 4)).getD t .und = z
              intro ihm
              unfold shT at ihm ⊢
              refine cnd (fun c1 => ?_) fun c1 => ?_
              · rw [c1, cond_true] at ihm
                refine ⟨trivial, ?_, ihm⟩
                unfold shT at htl
                unfold room; rw [List.length_singleton]; omega
              · rw [c1, cond_false] at ihm
                refine ⟨?_, ihm⟩
                unfold shT at htl
                unfold room; rw [List.length_singleton]; omega
            · have e : t = M := by omega
              subst e
              refine ⟨trivial, by unfold room; rw [List.length_singleton]; omega, ?_⟩
              rw [wrap_id (by omega) (by omega), show ((k : Int) + 1) = ((k + 1 : Nat) : Int) by omega]
              rw [show (D.xs (D.fld c 4)).take t = D.xs (D.fld c 4) by rw [← hM, List.take_length], hx, hy]
              exact ih
        refine cNe (fun c1 => ?_) fun c1 => ?_
        · have c1 : ¬ cL c = -1 := c1
          rw [hM2]
          refine ⟨trivial, trivial, by unfold room; omega, trivial, ?_⟩
          exact inner _ _ (by rw [iEq_not.mpr c1]; rfl) (by rw [iEq_not.mpr c1]; rfl) p 0 (by omega) (by omega)
        · have c1 : cL c = -1 := c1
          rw [hM2]
          refine ⟨by unfold room; omega, trivial, ?_⟩
          exact inner _ _ (by rw [iEq_iff.mpr c1]; rfl) (by rw [iEq_iff.mpr c1]; rfl) p 0 (by omega) (by omega)
      · have e : k = l.length := by omega
        subst e
        rw [List.take_length]
        exact h
  exact key p 0 (by omega) (by omega)

/-- What a split of two bounds is. -/
def rootC (m form at_ x : D) : D := .agg [.int 1, .int (1 + D.len (cs x)), .slc (D.xs form), at_, .slc [], .int 0]
def joinB (m form at_ x y : D) : D := .agg [.slc ([rootC m form at_ x] ++ (D.xs (cs x)).map (mvC 1 (D.len (D.fld m 1))) ++ (D.xs (cs y)).map (mvC (1 + D.len (cs x)) (D.len (D.fld m 1)))), .int (minmax true (D.i (D.fld x 1)) (D.i (D.fld y 1)))]
def noB : D := .agg [.slc [], .int 0]
def joinE (m form at_ x y : D) : Int := cond (modB m) (cond (formB m form (D.i at_)) (cond (bndB m x) (cond (bndB m y) (cond (iLt 1000 (1 + D.len (cs x) + D.len (cs y))) 4 0) 10) 10) 10) 33
def joinV (m form at_ x y : D) : D := cond (iEq (joinE m form at_ x y) 0) (joinB m form at_ x y) noB

theorem bnd_app {N : Int} {m form at_ x y : D} (hx : BN N x) (hy : BN N y) (hf : D.len form ≤ N) (hff : ∀ x ∈ D.xs form, Fl x) (h1 : 1 + D.len (cs x) + D.len (cs y) ≤ N) : BN N (joinB m form at_ x y) := by
  have lx : D.len (cs x) = ((D.xs (cs x)).length : Nat) := rfl
  have ly : D.len (cs y) = ((D.xs (cs y)).length : Nat) := rfl
  refine bn_agg ?_ fun c hc => ?_
  · rw [List.length_append, List.length_append, List.length_singleton, List.length_map, List.length_map]; omega
  · rcases List.mem_append.mp hc with hc | hc
    · rcases List.mem_append.mp hc with hc | hc
      · rw [List.mem_singleton.mp hc]
        exact cn_agg hf (by rw [len_slc, List.length_nil]; omega) (fun x hx => by cases hx) hff fun x hx => by cases hx
      · obtain ⟨d, hd, rfl⟩ := List.mem_map.mp hc
        exact mv_cn (hx.each d hd)
    · obtain ⟨d, hd, rfl⟩ := List.mem_map.mp hc
      exact mv_cn (hy.each d hd)

theorem joinE_ok {m form at_ x y : D} (h : joinE m form at_ x y = 0) : modB m = true ∧ formB m form (D.i at_) = true ∧ bndB m x = true ∧ bndB m y = true ∧ 1 + D.len (cs x) + D.len (cs y) ≤ 1000 := by
  unfold joinE at h
  cases h1 : modB m with
  | false => rw [h1] at h; cases h
  | true =>
    rw [h1] at h
    cases h2 : formB m form (D.i at_) with
    | false => rw [h2] at h; cases h
    | true =>
      rw [h2] at h
      cases h3 : bndB m x with
      | false => rw [h3] at h; cases h
      | true =>
        rw [h3] at h
        cases h4 : bndB m y with
        | false => rw [h4] at h; cases h
        | true =>
          rw [h4] at h
          cases h5 : iLt 1000 (1 + D.len (cs x) + D.len (cs y)) with
          | true => rw [h5] at h; cases h
          | false => rw [iLt_not] at h5; exact ⟨rfl, rfl, rfl, rfl, by omega⟩

theorem join'_wp {m form x y : D} {at_ : Int} (hm : Mo m) (hf : D.len form ≤ 1100000) (hx : BN 1100000 x) (hy : BN 1100000 y) (hn : 1100700 ≤ n) (h : Q [joinV m form (.int at_) x y, .int (joinE m form (.int at_) x y)]) : wpF Try.prog A n 62 [m, form, .int at_, x, y] Q := by
  obtain ⟨p, rfl⟩ : ∃ p, n = p + 1 := ⟨n - 1, by omega⟩
  rw [E62]
  unfold joinV at h
  unfold joinE at h
  refine model'_wp hm (by omega) ?_
  rw [rs0, b_bool]
  refine cNot (fun c => ⟨trivial, by rw [c] at h; exact h⟩) fun c1 => ?_
  rw [c1, cond_true] at h
  refine form'_wp hf (by omega) ?_
  rw [rs0, b_bool, i_int]
  refine cNot (fun c => ⟨trivial, by rw [i_int, c] at h; exact h⟩) fun c2 => ?_
  rw [i_int, c2, cond_true] at h
  refine bound'_wp hm (hx.bx (by omega)).o (by omega) ?_
  rw [rs0, b_bool]
  refine cNot (fun c => ⟨trivial, by rw [c] at h; exact h⟩) fun c3 => ?_
  rw [c3, cond_true] at h
  refine bound'_wp hm (hy.bx (by omega)).o (by omega) ?_
  rw [rs0, b_bool]
  refine cNot (fun c => ⟨trivial, by rw [c] at h; exact h⟩) fun c4 => ?_
  rw [c4, cond_true] at h
  have lx := bnd_len c3
  have ly := bnd_len c4
  show cond (iLt 1000 (IntKind.wrap .i64 (IntKind.wrap .i64 (1 + D.len (cs x)) + D.len (cs y)))) _ _
  have ex : D.len (D.fld x 0) = D.len (cs x) := rfl
  rw [ex, wrap_id (show -9223372036854775808 ≤ 1 + D.len (cs x) by omega) (by omega), wrap_id (show -9223372036854775808 ≤ 1 + D.len (cs x) + D.len (cs y) by omega) (by omega)]
  refine cLt (fun c => ⟨trivial, by rw [iLt_iff.mpr c] at h; exact h⟩) fun c5 => ?_
  rw [iLt_not.mpr c5, cond_false] at h
  have h : Q [joinB m form (.int at_) x y, .int 0] := h
  have hM := modB_facts c1
  have hfl : D.len form = ((D.xs form).length : Nat) := rfl
  have lx2 : D.len (cs x) = ((D.xs (cs x)).length : Nat) := rfl
  have ly2 : D.len (cs y) = ((D.xs (cs y)).length : Nat) := rfl
  have hE := hx.each
  have hE2 := hy.each
  refine ⟨by unfold room; omega, trivial, ?_⟩
  refine moved_wp (by show (D.xs (cs x)).length ≤ 1000; omega) hE (by omega) ?_
  simp only [rs0, xs_slc]
  refine ⟨?_, trivial, moved_wp (by show (D.xs (cs y)).length ≤ 1000; omega) hE2 (by omega) ?_⟩
  · unfold room; rw [List.length_map, List.length_singleton]
    show (((1 : Nat) : Int) + ((D.xs (cs x)).length : Int)) * 80 ≤ 70368744177664
    omega
  · simp only [rs0, xs_slc]
    refine ⟨?_, trivial, trivial, h⟩
    unfold room; rw [List.length_map, List.length_append, List.length_singleton, List.length_map]
    show (((1 + (D.xs (cs x)).length : Nat) : Int) + ((D.xs (cs y)).length : Int)) * 80 ≤ 70368744177664
    omega
end
end Go.Ab

/- The law's bounds: made ones, spoilt ones. -/
namespace Go.Ab
open Go.Proofs
attribute [local irreducible] wpF

/-- A law's bound that is a leaf. -/
def baseW (n : Nat) (d m : D) (Q : List D → Prop) : Prop :=
  (wpF Try.prog A n 58 [m] fun r1 =>
 (True ∧ (wpF Try.prog A n 18 [d, (D.int (9 : Int))] fun r2 =>
 (cond (iEq (D.i (rs r2 0)) (0 : Int))
 (wpF Try.prog A n 18 [(rs r2 1), (D.int (3 : Int))] fun r3 =>
 (True ∧ (wpF Try.prog A n 59 [m, (D.slc ([] : List D)), (D.agg [(D.fld (rs r1 0) 0), (D.fld (rs r1 0) 1), (D.fld (rs r1 0) 2), (D.fld (rs r1 0) 3), (D.fld (rs r1 0) 4), (rs r3 0)])] fun r4 =>
 (wpF Try.prog A n 18 [(rs r3 1), (D.int (3 : Int))] fun r5 =>
 (wpF Try.prog A n 18 [(rs r5 1), (D.int (8 : Int))] fun r6 =>
 ((7 : Int) ≠ (0 : Int) ∧ (True ∧ (Q [(D.agg [(D.slc [(D.agg [(D.fld (rs r1 0) 0), (D.fld (rs r1 0) 1), (D.fld (rs r1 0) 2), (D.fld (rs r1 0) 3), (D.fld (rs r1 0) 4), (rs r3 0)])]), (D.int (IntKind.wrap .i64 ((IntKind.wrap .i64 ((D.i (rs r4 0)) + (D.i (rs r5 0)))) - (IntKind.wrap .i64 (Int.tdiv (D.i (rs r6 0)) (7 : Int))))))]), (rs r6 1)]))))))))
 (cond (iEq (D.i (rs r2 0)) (1 : Int))
 (cond (iLt (0 : Int) (D.len (D.fld m 1)))
 (wpF Try.prog A n 18 [(rs r2 1), (D.int (IntKind.wrap .i64 ((D.len (D.fld m 1)) + (1 : Int))))] fun r7 =>
 (wpF Try.prog A n 18 [(rs r7 1), (D.int (4 : Int))] fun r8 =>
 (True ∧ (wpF Try.prog A n 59 [m, (D.slc ([] : List D)), (D.agg [(D.fld (rs r1 0) 0), (D.fld (rs r1 0) 1), (D.fld (rs r1 0) 2), (D.fld (rs r1 0) 3), (D.slc [(D.agg [(rs r7 0), (D.int (IntKind.wrap .i64 ((1 : Int) + (D.i (rs r8 0)))))])]), (D.fld (rs r1 0) 5)])] fun r9 =>
 (wpF Try.prog A n 18 [(rs r8 1), (D.int (3 : Int))] fun r10 =>
 (wpF Try.prog A n 18 [(rs r10 1), (D.int (8 : Int))] fun r11 =>
 ((7 : Int) ≠ (0 : Int) ∧ (True ∧ (Q [(D.agg [(D.slc [(D.agg [(D.fld (rs r1 0) 0), (D.fld (rs r1 0) 1), (D.fld (rs r1 0) 2), (D.fld (rs r1 0) 3), (D.slc [(D.agg [(rs r7 0), (D.int (IntKind.wrap .i64 ((1 : Int) + (D.i (rs r8 0)))))])]), (D.fld (rs r1 0) 5)])]), (D.int (IntKind.wrap .i64 ((IntKind.wrap .i64 ((D.i (rs r9 0)) + (D.i (rs r10 0)))) - (IntKind.wrap .i64 (Int.tdiv (D.i (rs r11 0)) (7 : Int))))))]), (rs r11 1)])))))))))
 (wpF Try.prog A n 59 [m, (D.slc ([] : List D)), (rs r1 0)] fun r12 =>
 (wpF Try.prog A n 18 [(rs r2 1), (D.int (3 : Int))] fun r13 =>
 (wpF Try.prog A n 18 [(rs r13 1), (D.int (8 : Int))] fun r14 =>
 ((7 : Int) ≠ (0 : Int) ∧ (True ∧ (Q [(D.agg [(D.slc [(rs r1 0)]), (D.int (IntKind.wrap .i64 ((IntKind.wrap .i64 ((D.i (rs r12 0)) + (D.i (rs r13 0)))) - (IntKind.wrap .i64 (Int.tdiv (D.i (rs r14 0)) (7 : Int))))))]), (rs r14 1)])))))))
 (wpF Try.prog A n 59 [m, (D.slc ([] : List D)), (rs r1 0)] fun r15 =>
 (wpF Try.prog A n 18 [(rs r2 1), (D.int (3 : Int))] fun r16 =>
 (wpF Try.prog A n 18 [(rs r16 1), (D.int (8 : Int))] fun r17 =>
 ((7 : Int) ≠ (0 : Int) ∧ (True ∧ (Q [(D.agg [(D.slc [(rs r1 0)]), (D.int (IntKind.wrap .i64 ((IntKind.wrap .i64 ((D.i (rs r15 0)) + (D.i (rs r16 0)))) - (IntKind.wrap .i64 (Int.tdiv (D.i (rs r17 0)) (7 : Int))))))]), (rs r17 1)])))))))))))

section
variable {n : Nat} {Q : List D → Prop}

theorem leafB_bn {s : List D} {den t : D} (h : LF s) : BN 1000 (.agg [.slc [leafC s den], t]) :=
  bn_agg (by simp) fun c hc => by rw [List.mem_singleton.mp hc]; exact h.cn

theorem base_wp {d m : D} {c : Nat} {rows goal : List D} {k : Int} {box : List Int} (hm : SM m c rows goal k box) (hd : Dk d) (hn : 1100300 ≤ n) (h : ∀ b d', BN 1000 b → Dk d' → Q [b, d']) : baseW n d m Q := by
  have hR := hm.few
  have hc := hm.cols
  have lf := corn_lf (R := rows.length) hm.goal hm.gfl hc hR
  refine corner_wp hm (by omega) ?_
  rw [rs0]
  have e1 : D.fld m 1 = .slc (rows ++ boxR box c) := by rw [hm.eq]; rfl
  refine ⟨trivial, next_wp (by omega) hd (by omega) (by omega) fun v d1 hv0 hv1 hd1 => ?_⟩
  simp only [rs0, rsS, i_int]
  have fin : ∀ (s : List D) (den : Int) (d : D) (r3 : D), LF s → 0 ≤ den → den ≤ 2 → Dk d → wpF Try.prog A n 59 [m, .slc [], leafC s (.int den)] fun r4 =>
      wpF Try.prog A n 18 [d, (D.int (3 : Int))] fun r5 =>
      wpF Try.prog A n 18 [(rs r5 1), (D.int (8 : Int))] fun r6 =>
      ((7 : Int) ≠ (0 : Int) ∧ (True ∧ (Q [(D.agg [(D.slc [leafC s (.int den)]), (D.int (IntKind.wrap .i64 ((IntKind.wrap .i64 ((D.i (rs r4 0)) + (D.i (rs r5 0)))) - (IntKind.wrap .i64 (Int.tdiv (D.i (rs r6 0)) (7 : Int))))))]), (rs r6 1)]))) := by
    intro s den d r3 hs h0 h1 hd
    refine leafv'_wp (hs.lc hm h0 (by omega)) (by omega) ?_
    refine next_wp (by omega) hd (by omega) (by omega) fun v d1 hv0 hv1 hd1 => ?_
    simp only [rs0, rsS]
    refine next_wp (by omega) hd1 (by omega) (by omega) fun w d2 hw0 hw1 hd2 => ?_
    simp only [rs0, rsS]
    exact ⟨by omega, trivial, h _ _ (leafB_bn hs) hd2⟩
  refine cEq (fun _ => ?_) fun _ => cEq (fun _ => ?_) fun _ => fin _ 1 _ .und lf (by omega) (by omega) hd1
  · refine next_wp (by omega) hd1 (by omega) (by omega) fun w d2 hw0 hw1 hd2 => ?_
    simp only [rs0, rsS]
    exact ⟨trivial, fin _ w _ .und lf hw0 (by omega) hd2⟩
  · have e2 : D.len (D.fld m 1) = ((rows.length + c : Nat) : Int) := by rw [e1, len_slc, hm.rlen]
    refine cLt (fun _ => ?_) fun _ => fin _ 1 _ .und lf (by omega) (by omega) hd1
    rw [e2, wrap_id (by omega) (by omega)]
    refine next_wp (by omega) hd1 (by omega) (by omega) fun o d2 ho0 ho1 hd2 => ?_
    simp only [rs0, rsS]
    refine next_wp (by omega) hd2 (by omega) (by omega) fun w d3 hw0 hw1 hd3 => ?_
    simp only [rs0, rsS, i_int]
    rw [wrap_id (show -9223372036854775808 ≤ 1 + w by omega) (by omega)]
    exact ⟨trivial, fin [tm o (1 + w)] 1 _ .und (one_lf ho0 (by omega) (by omega) (by omega)) (by omega) (by omega) hd3⟩

/-- A law's bound. -/
theorem lbound_wp {m : D} {c : Nat} {rows goal : List D} {k : Int} {box : List Int} (hm : SM m c rows goal k box) : ∀ (deep : Nat), deep ≤ 3 → ∀ {n : Nat} {Q : List D → Prop} {d : D}, Dk d → 1101000 + deep ≤ n → (∀ b d', BN 1000 b → Dk d' → Q [b, d']) → wpF Try.prog A n 49 [d, m, .int (deep : Int)] Q := by
  have hc := hm.cols
  have e0 : D.fld m 0 = .int (c : Int) := by rw [hm.eq]; rfl
  intro deep
  induction deep with
  | zero =>
    intro _ n Q d hd hn h
    obtain ⟨p, rfl⟩ : ∃ p, n = p + 1 := ⟨n - 1, by omega⟩
    rw [E49]
    refine cEq (fun _ => ?_) fun c => absurd rfl c
    exact base_wp hm hd (by omega) h
  | succ deep ih =>
    intro h3 n Q d hd hn h
    obtain ⟨p, rfl⟩ : ∃ p, n = p + 1 := ⟨n - 1, by omega⟩
    rw [E49]
    have ez : D.i (.int ((deep + 1 : Nat) : Int)) = (deep : Int) + 1 := by rw [i_int]; omega
    rw [ez]
    refine cEq (fun c => by omega) fun _ => ?_
    refine cEq (fun _ => ?_) fun _ => ?_
    · exact base_wp hm hd (by omega) h
    · refine next_wp (by omega) hd (by omega) (by omega) fun v d1 hv0 hv1 hd1 => ?_
      simp only [rs0, rsS]
      refine cEq (fun _ => ?_) fun _ => ?_
      · exact base_wp hm hd1 (by omega) h
      · rw [e0]
        refine tterms_wp hd1 (by omega) (by omega) (by omega) fun s d2 hs hsf hd2 => ?_
        simp only [rs0, rsS]
        refine next_wp (by omega) hd2 (by omega) (by omega) fun a d3 ha0 ha1 hd3 => ?_
        simp only [rs0, rsS, i_int]
        rw [show (deep : Int) + 1 - 1 = (deep : Int) by omega, wrap_id (show -9223372036854775808 ≤ (deep : Int) by omega) (by omega), wrap_id (show -9223372036854775808 ≤ a - 3 by omega) (by omega)]
        refine ih (by omega) hd3 (by omega) fun x d4 hx hd4 => ?_
        simp only [rs0, rsS]
        refine ih (by omega) hd4 (by omega) fun y d5 hy hd5 => ?_
        simp only [rs0, rsS]
        have hsl := terms_len hs (by omega)
        refine join'_wp hm.mo (by omega) (hx.mono (by omega)) (hy.mono (by omega)) (by omega) ?_
        simp only [rs0]
        refine ⟨trivial, trivial, h _ _ ?_ hd5⟩
        unfold joinV
        cases hj : iEq (joinE m (.slc s) (.int (a - 3)) x y) 0 with
        | true =>
          rw [iEq_iff] at hj
          have f := joinE_ok hj
          exact bnd_app hx hy (by omega) hsf f.2.2.2.2
        | false => exact bn_agg (by simp) fun c hc => by cases hc

/-- A bound, with something changed. -/
theorem spoilt_wp {N : Int} {b d : D} (hb : BN N b) (hN : N ≤ 1100) (hN0 : 10 ≤ N) (hd : Dk d) (hn : 100 ≤ n) (h : ∀ b d', BN (N + 1) b → Dk d' → Q [b, d']) : wpF Try.prog A n 50 [d, b] Q := by
  obtain ⟨p, rfl⟩ : ∃ p, n = p + 1 := ⟨n - 1, by omega⟩
  rw [E50]
  have e : D.fld b 0 = cs b := rfl
  rw [e]
  have hc0 := hb.cases
  have he0 := hb.each
  obtain ⟨L, hL⟩ : ∃ L, D.xs (cs b) = L := ⟨_, rfl⟩
  have hLl : D.len (cs b) = (L.length : Nat) := by rw [← hL]; rfl
  rw [hL] at he0
  rw [hL, len_slc, xs_slc]
  have hsame : ∀ t : D, BN (N + 1) (.agg [.slc L, t]) := fun t => bn_agg (by omega) fun c hc => (he0 c hc).mono (by omega)
  refine ⟨by unfold room; omega, trivial, cEq (fun _ => ⟨trivial, h _ _ (hsame _) hd⟩) fun hne => ?_⟩
  refine next_wp (by omega) hd (by omega) (by omega) fun i d1 hi0 hi1 hd1 => ?_
  simp only [rs0, rsS, i_int]
  refine ⟨by omega, next_wp (by omega) hd1 (by omega) (by omega) fun v d2 hv0 hv1 hd2 => ?_⟩
  simp only [rs0, rsS, i_int]
  have hcn : CN N (L.getD i.toNat .und) := he0 _ (getD_mem (by omega))
  revert hcn
  generalize L.getD i.toNat .und = c
  intro hcn
  have hset : ∀ (x t : D), CN (N + 1) x → BN (N + 1) (.agg [.slc (L.set i.toNat x), t]) := fun x t hx => bn_agg (by rw [List.length_set]; omega) fun c hc => by
    rcases List.mem_or_eq_of_mem_set hc with hc | hc
    · exact (he0 c hc).mono (by omega)
    · rw [hc]; exact hx
  have f1 := hcn.form
  have f2 := hcn.mul
  have f3 := hcn.big
  have f4 := hcn.flf
  have f5 := hcn.flm
  have g1 : D.len (D.fld c 2) = ((D.xs (D.fld c 2)).length : Nat) := rfl
  have g2 : D.len (D.fld c 4) = ((D.xs (D.fld c 4)).length : Nat) := rfl
  refine cEq (fun _ => ?_) fun _ => cEq (fun _ => ?_) fun _ => cEq (fun _ => ?_) fun _ => cEq (fun _ => ?_) fun _ => cEq (fun _ => ?_) fun _ => cEq (fun _ => ?_) fun _ => cEq (fun _ => ?_) fun _ => cEq (fun _ => ?_) fun _ => cEq (fun _ => ?_) fun _ => ?_
  · refine next_wp (by omega) hd2 (by omega) (by omega) fun w d3 hw0 hw1 hd3 => ?_
    simp only [rs0, rsS]
    exact ⟨trivial, trivial, h _ _ (hsame _) hd3⟩
  · rw [wrap_id (by omega) (by omega)]
    refine next_wp (by omega) hd2 (by omega) (by omega) fun w d3 hw0 hw1 hd3 => ?_
    simp only [rs0, rsS]
    exact ⟨trivial, trivial, h _ _ (hset _ _ (cn_agg (by omega) (by omega) f3 f4 f5)) hd3⟩
  · rw [wrap_id (by omega) (by omega)]
    refine next_wp (by omega) hd2 (by omega) (by omega) fun w d3 hw0 hw1 hd3 => ?_
    simp only [rs0, rsS]
    exact ⟨trivial, trivial, h _ _ (hset _ _ (cn_agg (by omega) (by omega) f3 f4 f5)) hd3⟩
  · refine next_wp (by omega) hd2 (by omega) (by omega) fun w d3 hw0 hw1 hd3 => ?_
    simp only [rs0, rsS]
    exact ⟨trivial, trivial, h _ _ (hset _ _ (cn_agg (by omega) (by omega) f3 f4 f5)) hd3⟩
  · refine next_wp (by omega) hd2 (by omega) (by omega) fun w d3 hw0 hw1 hd3 => ?_
    simp only [rs0, rsS, i_int]
    exact ⟨⟨hw0, by rw [len_slc]; exact hw1⟩, trivial, trivial, h _ _ (hset _ _ (cn_agg (by omega) (by omega) f3 f4 f5)) hd3⟩
  · refine ⟨by unfold room; omega, next_wp (by omega) hd2 (by omega) (by omega) fun w d3 hw0 hw1 hd3 => ?_⟩
    simp only [rs0, rsS]
    refine next_wp (by omega) hd3 (by omega) (by omega) fun z d4 hz0 hz1 hd4 => ?_
    simp only [rs0, rsS, i_int]
    refine ⟨⟨hz0, by rw [len_slc]; exact hz1⟩, by unfold room; rw [List.length_singleton]; omega, trivial, trivial, h _ _ (hset _ _ (cn_agg (by omega) ?_ ?_ f4 ?_)) hd4⟩
    · rw [len_slc, List.length_append, List.length_singleton]; omega
    · intro x hx
      rw [xs_slc] at hx
      rcases List.mem_append.mp hx with hx | hx
      · exact f3 x hx
      · rw [List.mem_singleton.mp hx, fld0, i_int]; omega
    · rw [xs_slc]
      refine fl_snoc f5 ?_
      have e : ∃ v, List.getD (D.xs (D.slc [(D.int (1 : Int)), (D.int (0 : Int)), (D.int (1073741824 : Int)), (D.int (1073741825 : Int)), (D.int (-1 : Int))])) z.toNat D.und = .int v := by
        obtain ⟨j, hj⟩ : ∃ j, z.toNat = j := ⟨_, rfl⟩
        rw [hj]
        have : j < 5 := by omega
        match j, this with
        | 0, _ => exact ⟨_, rfl⟩
        | 1, _ => exact ⟨_, rfl⟩
        | 2, _ => exact ⟨_, rfl⟩
        | 3, _ => exact ⟨_, rfl⟩
        | 4, _ => exact ⟨_, rfl⟩
      obtain ⟨v, e⟩ := e
      rw [e]
      exact ⟨_, _, rfl⟩
  · refine ⟨by unfold room; omega, next_wp (by omega) hd2 (by omega) (by omega) fun w d3 hw0 hw1 hd3 => ?_⟩
    simp only [rs0, rsS]
    refine ⟨by unfold room; rw [List.length_singleton]; omega, trivial, trivial, h _ _ (hset _ _ (cn_agg ?_ (by omega) f3 ?_ f5)) hd3⟩
    · rw [len_slc, List.length_append, List.length_singleton]; omega
    · rw [xs_slc]
      exact fl_snoc f4 ⟨_, _, rfl⟩
  · rw [wrap_id (by omega) (by omega)]
    refine ⟨by omega, trivial, trivial, h _ _ (bn_agg ?_ fun c hc => ?_) hd2⟩
    · rw [List.length_drop, List.length_take]; omega
    · exact (he0 c (List.mem_of_mem_take (List.mem_of_mem_drop hc))).mono (by omega)
  · refine ⟨by unfold room; rw [List.length_singleton]; omega, trivial, trivial, h _ _ (bn_agg ?_ fun c hc => ?_) hd2⟩
    · rw [List.length_append, List.length_singleton]; omega
    · rcases List.mem_append.mp hc with hc | hc
      · exact (he0 c hc).mono (by omega)
      · rw [List.mem_singleton.mp hc]
        exact cn_agg (by rw [len_slc, List.length_nil]; omega) (by rw [len_slc, List.length_nil]; omega) (fun x hx => by cases hx) (fun x hx => by cases hx) fun x hx => by cases hx
  · exact ⟨trivial, h _ _ (hsame _) hd2⟩

/-- The example. -/
def halfM : D := .agg [.int 1, .slc [.agg [.slc [.agg [.int 0, .int 2]], .int 3]], .slc [.agg [.int 0, .int 1]], .int 0]
def halfB (t : Int) : D := .agg [.slc [.agg [.int (-1), .int (-1), .slc [], .int 0, .slc [.agg [.int 0, .int 1]], .int 2]], .int t]
theorem half_mo : Mo halfM := by
  refine ⟨by show (1 : Int) ≤ _; omega, fun i hi => ?_, by show (1 : Int) ≤ _; omega⟩
  have hi : (i : Int) < 1 := hi
  have e : i = 0 := by omega
  subst e
  show (1 : Int) ≤ _
  omega
theorem half_bn (t : Int) : BN 10 (halfB t) := by
  refine bn_agg (by simp) fun c hc => ?_
  rw [List.mem_singleton.mp hc]
  refine cn_agg (by rw [len_slc, List.length_nil]; omega) (by rw [len_slc, List.length_singleton]; omega) (fun x hx => ?_) (fun x hx => by cases hx) fun x hx => ?_
  · rw [xs_slc] at hx
    rw [List.mem_singleton.mp hx, fld0, i_int]
    omega
  · rw [xs_slc] at hx
    rw [List.mem_singleton.mp hx]
    exact ⟨_, _, rfl⟩
theorem half_good : chkV halfM (halfB 1) = 0 := by decide
theorem half_bad : chkV halfM (halfB 0) = 37 := by decide
theorem half_one : casesN (halfB 1) = 1 := by decide

theorem awake_wp (hn : 1100900 ≤ n) (h : Q [.bool true]) : wpF Try.prog A n 47 [] Q := by
  obtain ⟨p, rfl⟩ : ∃ p, n = p + 2 := ⟨n - 2, by omega⟩
  have e : wpF Try.prog A (p + 2) 47 [] Q = _ := E47 (p + 1) Q
  rw [e, E88]
  refine ⟨trivial, trivial, trivial, trivial, trivial, trivial, trivial, ?_⟩
  simp only [rs0, rsS]
  refine check_wp (m := halfM) (b := halfB 1) half_mo ((half_bn 1).bx (by omega)) (by omega) ?_
  rw [half_good]
  simp only [rs0, i_int]
  refine cEq (fun _ => ?_) fun c => absurd rfl c
  refine check_wp (m := halfM) (b := halfB 0) half_mo ((half_bn 0).bx (by omega)) (by omega) ?_
  rw [half_bad]
  simp only [rs0, i_int]
  refine cEq (fun _ => ?_) fun c => absurd rfl c
  refine cases_wp (b := halfB 1) (by show (1 : Int) ≤ _; omega) (by omega) ?_
  rw [half_one]
  exact h
end
end Go.Ab

/- Bounds and models that are arguments; the law of checks. -/
namespace Go.Ab
open Go.Proofs
attribute [local irreducible] wpF

def TermOk (x : D) : Prop := ∃ a b : Int, x = .agg [.int a, .int b] ∧ inI a ∧ inI b
def TermsOk (N : Nat) (l : List D) : Prop := l.length ≤ N ∧ ∀ x ∈ l, TermOk x
def CaseOk (N : Nat) (c : D) : Prop := ∃ (l r t d : Int) (f rs : List D), c = .agg [.int l, .int r, .slc f, .int t, .slc rs, .int d] ∧ TermsOk N f ∧ TermsOk N rs
def BoundOk (N : Nat) (b : D) : Prop := ∃ (l : List D) (t : Int), b = .agg [.slc l, .int t] ∧ l.length ≤ N ∧ ∀ c ∈ l, CaseOk N c
def RowD (N : Nat) (x : D) : Prop := ∃ (l : List D) (t : Int), x = .agg [.slc l, .int t] ∧ TermsOk N l
def ModelOk (N : Nat) (m : D) : Prop := ∃ (c k : Int) (rows goal : List D), m = .agg [.int c, .slc rows, .slc goal, .int k] ∧ rows.length ≤ N ∧ (∀ x ∈ rows, RowD N x) ∧ TermsOk N goal

theorem tk3 : tk Try.prog 3 = .int .i64 := by kernel_rfl
theorem tk138 : tk Try.prog 138 = .struct [(3, 0), (3, 1)] := by kernel_rfl
theorem tk80 : tk Try.prog 80 = .slc 138 := by kernel_rfl
theorem tk100 : tk Try.prog 100 = .struct [(80, 0), (3, 1)] := by kernel_rfl
theorem tk79 : tk Try.prog 79 = .slc 100 := by kernel_rfl
theorem tk82 : tk Try.prog 82 = .struct [(3, 0), (79, 1), (80, 2), (3, 3)] := by kernel_rfl
theorem tk94 : tk Try.prog 94 = .struct [(3, 0), (3, 1), (80, 2), (3, 3), (80, 4), (3, 5)] := by kernel_rfl
theorem tk76 : tk Try.prog 76 = .slc 94 := by kernel_rfl
theorem tk78 : tk Try.prog 78 = .struct [(76, 0), (3, 1)] := by kernel_rfl

theorem raw_term {x : D} {b : Nat} (h : Raw Try.prog 138 x b) : TermOk x := by
  obtain ⟨ds, rfl, hl, hf⟩ := h.fields tk138
  match ds, hl with
  | [p, q], _ =>
    obtain ⟨a, ha, h1⟩ := (hf 0 3 0 rfl).num tk3
    obtain ⟨c, hc, h2⟩ := (hf 1 3 1 rfl).num tk3
    have ha : p = .int a := ha
    have hc : q = .int c := hc
    exact ⟨a, c, by rw [ha, hc], h1, h2⟩
theorem raw_terms {x : D} {b : Nat} (h : Raw Try.prog 80 x b) : ∃ l, x = .slc l ∧ TermsOk b l := by
  obtain ⟨l, rfl, hl, hf⟩ := h.slice tk80
  exact ⟨l, rfl, hl, fun y hy => raw_term (hf y hy)⟩
theorem raw_row {x : D} {b : Nat} (h : Raw Try.prog 100 x b) : RowD b x := by
  obtain ⟨ds, rfl, hl, hf⟩ := h.fields tk100
  match ds, hl with
  | [p, q], _ =>
    obtain ⟨l, ha, h1⟩ := raw_terms (hf 0 80 0 rfl)
    obtain ⟨c, hc, h2⟩ := (hf 1 3 1 rfl).num tk3
    have ha : p = .slc l := ha
    have hc : q = .int c := hc
    exact ⟨l, c, by rw [ha, hc], h1⟩
theorem raw_model {x : D} {b : Nat} (h : Raw Try.prog 82 x b) : ModelOk b x := by
  obtain ⟨ds, rfl, hl, hf⟩ := h.fields tk82
  match ds, hl with
  | [p, q, r, s], _ =>
    obtain ⟨c, hp, _⟩ := (hf 0 3 0 rfl).num tk3
    obtain ⟨rows, hq, h1, h2⟩ := (hf 1 79 1 rfl).slice tk79
    obtain ⟨goal, hr, h3⟩ := raw_terms (hf 2 80 2 rfl)
    obtain ⟨k, hs, _⟩ := (hf 3 3 3 rfl).num tk3
    have hp : p = .int c := hp
    have hq : q = .slc rows := hq
    have hr : r = .slc goal := hr
    have hs : s = .int k := hs
    exact ⟨c, k, rows, goal, by rw [hp, hq, hr, hs], h1, fun x hx => raw_row (h2 x hx), h3⟩
theorem raw_case {x : D} {b : Nat} (h : Raw Try.prog 94 x b) : CaseOk b x := by
  obtain ⟨ds, rfl, hl, hf⟩ := h.fields tk94
  match ds, hl with
  | [p, q, r, s, t, u], _ =>
    obtain ⟨l, hp, _⟩ := (hf 0 3 0 rfl).num tk3
    obtain ⟨rr, hq, _⟩ := (hf 1 3 1 rfl).num tk3
    obtain ⟨f, hr, h1⟩ := raw_terms (hf 2 80 2 rfl)
    obtain ⟨a, hs, _⟩ := (hf 3 3 3 rfl).num tk3
    obtain ⟨rs, ht, h2⟩ := raw_terms (hf 4 80 4 rfl)
    obtain ⟨d, hu, _⟩ := (hf 5 3 5 rfl).num tk3
    have hp : p = .int l := hp
    have hq : q = .int rr := hq
    have hr : r = .slc f := hr
    have hs : s = .int a := hs
    have ht : t = .slc rs := ht
    have hu : u = .int d := hu
    exact ⟨l, rr, a, d, f, rs, by rw [hp, hq, hr, hs, ht, hu], h1, h2⟩
theorem raw_bound {x : D} {b : Nat} (h : Raw Try.prog 78 x b) : BoundOk b x := by
  obtain ⟨ds, rfl, hl, hf⟩ := h.fields tk78
  match ds, hl with
  | [p, q], _ =>
    obtain ⟨l, ha, h1, h2⟩ := (hf 0 76 0 rfl).slice tk76
    obtain ⟨c, hc, _⟩ := (hf 1 3 1 rfl).num tk3
    have ha : p = .slc l := ha
    have hc : q = .int c := hc
    exact ⟨l, c, by rw [ha, hc], h1, fun y hy => raw_case (h2 y hy)⟩

theorem TermOk.of {x : D} (h : TermOk x) : D.i (D.fld x 0) ≤ 9223372036854775807 := by
  obtain ⟨a, b, rfl, h1, _⟩ := h
  exact h1.2
theorem TermOk.fl {x : D} (h : TermOk x) : Fl x := by
  obtain ⟨a, b, rfl, _⟩ := h
  exact ⟨a, b, rfl⟩
theorem BoundOk.bn {N : Nat} {b : D} (h : BoundOk N b) : BN (N : Int) b := by
  obtain ⟨l, t, rfl, h1, h2⟩ := h
  refine bn_agg (by omega) fun c hc => ?_
  obtain ⟨p, q, t, d, f, r, rfl, hf, hr⟩ := h2 c hc
  have := hf.1
  have := hr.1
  exact cn_agg (by rw [len_slc]; omega) (by rw [len_slc]; omega) (fun x hx => (hr.2 x hx).of) (fun x hx => (hf.2 x hx).fl) fun x hx => (hr.2 x hx).fl
theorem ModelOk.mo {N : Nat} {m : D} (h : ModelOk N m) (hN : N ≤ 1100000) : Mo m := by
  obtain ⟨c, k, rows, goal, rfl, h1, h2, h3⟩ := h
  refine ⟨by show D.len (.slc rows) ≤ _; rw [len_slc]; omega, fun i hi => ?_, by have := h3.1; show D.len (.slc goal) ≤ _; rw [len_slc]; omega⟩
  have hm : D.el (.slc rows) (i : Int) ∈ rows := el_mem (d := .slc rows) hi
  obtain ⟨l, t, e, hl⟩ := h2 _ hm
  show D.len (D.fld (D.el (.slc rows) (i : Int)) 0) ≤ _
  rw [e]
  have := hl.1
  show D.len (.slc l) ≤ _
  rw [len_slc]; omega

section
variable {n : Nat}

theorem checks_wp {raw rm : D} {l : List Int} (hr : BN 1100000 raw) (hm : Mo rm) (hl : l.length ≤ 2000000) (hn : 1102000 ≤ n) : wpF Try.prog A n 10 [raw, rm, lst l] (fun r => r = [.bool true]) := by
  obtain ⟨p, rfl⟩ : ∃ p, n = p + 1 := ⟨n - 1, by omega⟩
  rw [E10]
  refine cLt (fun _ => awake_wp (by omega) rfl) fun _ => cLt (fun _ => awake_wp (by omega) rfl) fun _ => ?_
  refine new_wp (by omega) hl fun d hd => ?_
  rw [rs0]
  refine boxed_wp hd (by omega) fun m d1 c rows goal k box hs hd1 => ?_
  simp only [rs0, rsS]
  refine ⟨trivial, lbound_wp hs 3 (by omega) hd1 (by omega) fun b1 d2 hb1 hd2 => ?_⟩
  simp only [rs0, rsS]
  refine ⟨trivial, spoilt_wp hb1 (by omega) (by omega) hd2 (by omega) fun b2 d3 hb2 hd3 => ?_⟩
  simp only [rs0, rsS]
  refine spoilt_wp hb1 (by omega) (by omega) hd3 (by omega) fun b3 d4 hb3 hd4 => ?_
  simp only [rs0, rsS]
  refine spoilt_wp hb3 (by omega) (by omega) hd4 (by omega) fun b4 d5 hb4 hd5 => ?_
  simp only [rs0]
  have hall : ∀ x ∈ [b1, b2, b4, raw], BN 1100000 x := fun x hx => by
    simp only [List.mem_cons, List.not_mem_nil, or_false] at hx
    rcases hx with rfl | rfl | rfl | rfl
    · exact hb1.mono (by omega)
    · exact hb2.mono (by omega)
    · exact hb4.mono (by omega)
    · exact hr
  revert hall
  have h4 : [b1, b2, b4, raw].length = 4 := rfl
  revert h4
  generalize [b1, b2, b4, raw] = xs
  intro h4 hall
  rw [len_slc, h4]
  refine all_loop (L := fun m0 t => L10_7 p m0 (.int ((4 : Nat) : Int)) t rm m (.slc xs) (fun r => r = [.bool true])) (bad := fun _ => false) (N := 4) (F := False) (by omega) (fun m0 t ht hw hb hg => ?_) (fun hb => by rw [anyB_false fun _ _ => rfl] at hb; cases hb) (fun hg m0 => ?_) p 0 (by omega) (by omega) (by omega)
  · rw [L10_7_eq]
    simp only [i_int, xs_slc, len_slc, toNat_nat]
    rw [hw, h4]
    have hx := hall _ (getD_mem (d := .und) (show t < xs.length by omega))
    revert hx
    generalize xs.getD t D.und = x
    intro hx
    have hbx := hx.bx (by omega)
    refine cLt (fun _ => ⟨by omega, trivial, ?_⟩) fun c => by omega
    refine bound_wp hs.mo hbx.o (by omega) (bound'_wp hs.mo hbx.o (by omega) ?_)
    rw [rs0, rs0, b_bool, b_bool, hs.mv, Bool.true_and]
    refine cNot (fun c => by rw [bEq_iff.mpr rfl] at c; cases c) fun _ => ?_
    refine check_wp hs.mo hbx (by omega) (check'_wp hs.mo hbx (by omega) ?_)
    refine cNe (fun c => absurd rfl c) fun _ => ?_
    refine cases_wp hbx.o.cases (by omega) (cases'_wp hbx.o.cases (by omega) ?_)
    refine cNe (fun c => absurd rfl c) fun _ => ?_
    refine check_wp hm hbx (by omega) (check'_wp hm hbx (by omega) ?_)
    refine cNe (fun c => absurd rfl c) fun _ => hg rfl
  · rw [L10_7_eq]
    simp only [i_int]
    refine cLt (fun c => by omega) fun _ => awake_wp (by omega) rfl
end
end Go.Ab

/- Splits of two bounds: both answers are one; the law of joins. -/
namespace Go.Ab
open Go.Proofs
attribute [local irreducible] wpF

def pre34 (f : D → D) (l : List D) (i : Nat) : List D := (l.take i).map f ++ l.drop i
theorem pre_len (f : D → D) (l : List D) (i : Nat) : (pre34 f l i).length = l.length := by
  simp only [pre34, List.length_append, List.length_map, List.length_take, List.length_drop]; omega
theorem drop_cons {l : List D} {i : Nat} (h : i < l.length) : l.drop i = l.getD i .und :: l.drop (i + 1) := by
  rw [List.drop_eq_getElem_cons h]
  simp [List.getD, h]
theorem pre_get {f : D → D} {l : List D} {i : Nat} (h : i < l.length) : (pre34 f l i).getD i .und = l.getD i .und := by
  unfold pre34
  simp only [List.getD]
  rw [List.getElem?_append_right (by rw [List.length_map, List.length_take]; omega)]
  simp [List.length_take, Nat.min_eq_left (Nat.le_of_lt h)]
theorem pre_set {f : D → D} {l : List D} {i : Nat} (h : i < l.length) : (pre34 f l i).set i (f (l.getD i .und)) = pre34 f l (i + 1) := by
  unfold pre34
  have e : ((l.take i).map f).length = i := by rw [List.length_map, List.length_take]; omega
  rw [drop_cons h, map_take_snoc h, List.set_append, if_neg (by omega), e, Nat.sub_self, List.set_cons_zero, List.append_assoc]
  rfl
theorem pre_same {f : D → D} {l : List D} {i : Nat} (h : i < l.length) (hf : f (l.getD i .und) = l.getD i .und) : pre34 f l (i + 1) = pre34 f l i := by
  unfold pre34
  rw [drop_cons h, map_take_snoc h, hf, List.append_assoc]
  rfl
theorem pre_zero (f : D → D) (l : List D) : pre34 f l 0 = l := rfl
theorem pre_all (f : D → D) (l : List D) : pre34 f l l.length = l.map f := by simp [pre34]

section
variable {n : Nat} {Q : List D → Prop}

theorem clone_wp {d : D} (hl : D.len d ≤ 1100000) (hn : 1 ≤ n) (h : Q [.slc (D.xs d)]) : wpF Try.prog A n 105 [d] Q := by
  obtain ⟨p, rfl⟩ : ∃ p, n = p + 1 := ⟨n - 1, by omega⟩
  rw [E105]
  have e : D.len d = ((D.xs d).length : Nat) := rfl
  intro b hb
  refine cnd (fun c => ?_) fun _ => ⟨?_, h⟩
  · have h0 := hb c
    have : D.xs d = [] := List.length_eq_zero_iff.mp (by omega)
    rw [this] at h
    exact h
  · unfold room; rw [List.length_nil]; omega

theorem shifted_wp {d m : D} {b : Int} (hl : (D.xs d).length ≤ 1000) (hc : ∀ c ∈ D.xs d, CN 1100000 c) (hs : ∀ c ∈ D.xs d, iEq (cL c) (-1) = false → D.xs (D.fld c 4) = []) (hn : 1100200 ≤ n) (h : Q [.slc ((D.xs d).map (mvC b (D.len (D.fld m 1))))]) : wpF Try.prog A n 106 [m, d, .int b] Q := by
  obtain ⟨p, rfl⟩ : ∃ p, n = p + 1 := ⟨n - 1, by omega⟩
  rw [E106]
  obtain ⟨l, hlist⟩ : ∃ l, D.xs d = l := ⟨_, rfl⟩
  have hdl : D.len d = (l.length : Nat) := by rw [← hlist]; rfl
  have hde : ∀ k : Nat, D.el d (k : Int) = l.getD k .und := fun k => by rw [← hlist]; simp [D.el]
  rw [hlist] at hl hc h hs
  rw [hdl]
  obtain ⟨R, hR⟩ : ∃ R, D.len (D.fld m 1) = R := ⟨_, rfl⟩
  rw [hR] at h
  have key : ∀ (m0 k : Nat), k ≤ l.length → l.length - k < m0 → L106_3 p m0 (.int b) d (.int (l.length : Int)) (.int (k : Int)) m (.slc ((l.take k).map (mvC b R))) Q := by
    intro m0
    induction m0 with
    | zero => intro k _ h; omega
    | succ m0 ih =>
      intro k h1 h2
      rw [L106_3_eq]
      simp only [i_int]
      rw [hdl, hde]
      refine cLt (fun hk => ⟨by omega, trivial, ?_⟩) fun hk => ?_
      · have hmem : l.getD k .und ∈ l := getD_mem (d := .und) (show k < l.length by omega)
        have hN := hc _ hmem
        have hS := hs _ hmem
        have ih := ih (k + 1) (by omega) (by omega)
        rw [map_take_snoc (by omega)] at ih
        revert ih hN hS
        generalize l.getD k .und = c
        intro hN hS ih
        have hM3 := hN.mul
        have hF3 := hN.form
        have hlt : ((l.take k).map (mvC b R)).length ≤ 1000 := by rw [List.length_map]; have := List.length_take_le k l; omega
        have hwk : IntKind.wrap .i64 ((k : Int) + 1) = ((k + 1 : Nat) : Int) := by rw [wrap_id (by omega) (by omega)]; omega
        refine clone_wp hF3 (by omega) (clone_wp hM3 (by omega) ⟨trivial, trivial, leafQ_wp (by omega) ?_⟩)
        simp only [rs0, b_bool, xs_slc]
        have eL : cL (.agg [D.fld c 0, D.fld c 1, .slc (D.xs (D.fld c 2)), D.fld c 3, .slc (D.xs (D.fld c 4)), D.fld c 5]) = cL c := rfl
        rw [eL, hwk]
        refine cnd (fun c1 => ?_) fun c1 => ?_
        · obtain ⟨r, hr⟩ : ∃ r, D.xs (D.fld c 4) = r := ⟨_, rfl⟩
          have hrl : D.len (D.fld c 4) = (r.length : Nat) := by rw [← hr]; rfl
          unfold mvC at ih
          rw [c1, cond_true, cond_true, hr] at ih
          rw [hr, len_slc]
          have inner : ∀ (m1 t : Nat), t ≤ r.length → r.length - t < m1 →
              L106_8 p m0 m1 (.int b) d (.int (l.length : Int)) (.int (k : Int)) (.int (r.length : Int)) (.int (t : Int)) m (.slc ((l.take k).map (mvC b R))) (.agg [D.fld c 0, D.fld c 1, .slc (D.xs (D.fld c 2)), D.fld c 3, .slc (pre34 (shT R) r t), D.fld c 5]) Q := by
            intro m1
            induction m1 with
            | zero => intro t _ h; omega
            | succ m1 ihm =>
              intro t h3 h4
              rw [L106_8_eq]
              simp only [i_int, xs_slc, fld0, fldS, len_slc, toNat_nat]
              rw [hR, hwk, pre_len]
              refine cLt (fun ht => ⟨by omega, ?_⟩) fun ht => ?_
              · have ihm := ihm (t + 1) (by omega) (by omega)
                rw [wrap_id (by omega) (by omega), show ((t : Int) + 1) = ((t + 1 : Nat) : Int) by omega, pre_get (by omega)]
                refine cnd (fun c2 => ⟨by omega, by omega, trivial, ?_⟩) fun c2 => ?_
                · have e : shT R (r.getD t .und) = .agg [.int (IntKind.wrap .i64 (D.i (D.fld (r.getD t .und) 0) + 1)), D.fld (r.getD t .und) 1] := by unfold shT; rw [c2]; rfl
                  rw [← e, pre_set (by omega)]
                  exact ihm
                · have e : shT R (r.getD t .und) = r.getD t .und := by unfold shT; rw [c2]; rfl
                  rw [pre_same (by omega) e] at ihm
                  exact ihm
              · have e : t = r.length := by omega
                subst e
                rw [pre_all]
                refine ⟨by unfold room; rw [List.length_singleton]; omega, ?_⟩
                unfold mvC
                exact ih
          have := inner p 0 (by omega) (by omega)
          rw [pre_zero] at this
          exact this
        · unfold mvC at ih
          rw [c1, cond_false, cond_false, hS c1] at ih
          rw [hS c1]
          refine ⟨trivial, trivial, by unfold room; rw [List.length_singleton]; omega, ?_⟩
          unfold mvC
          exact ih
      · have e : k = l.length := by omega
        subst e
        rw [List.take_length]
        exact h
  exact key p 0 (by omega) (by omega)

theorem split_norows {m b : D} (h : bndB m b = true) : ∀ c ∈ D.xs (cs b), iEq (cL c) (-1) = false → D.xs (D.fld c 4) = [] := by
  intro c hc hL
  obtain ⟨k, hk, e⟩ := List.mem_iff_getElem.mp hc
  have hl : D.len (cs b) = ((D.xs (cs b)).length : Nat) := rfl
  have ec : cAs b (k : Nat) = c := by
    show D.el (cs b) (k : Int) = c
    simp [D.el, List.getD, hk, e]
  rcases bnd_case h (show (k : Int) < D.len (cs b) by omega) with ⟨c1, _⟩ | ⟨_, c2, _⟩
  · rw [ec, hL] at c1; cases c1
  · have f := split_facts c2
    rw [ec] at f
    have e2 : D.len (D.fld c 4) = ((D.xs (D.fld c 4)).length : Nat) := rfl
    exact List.length_eq_zero_iff.mp (by omega)

theorem join_wp {m form x y : D} {at_ : Int} (hm : Mo m) (hf : D.len form ≤ 1100000) (hx : BN 1100000 x) (hy : BN 1100000 y) (hn : 1100700 ≤ n) (h : Q [joinV m form (.int at_) x y, .int (joinE m form (.int at_) x y)]) : wpF Try.prog A n 61 [m, form, .int at_, x, y] Q := by
  obtain ⟨p, rfl⟩ : ∃ p, n = p + 1 := ⟨n - 1, by omega⟩
  rw [E61]
  unfold joinV at h
  unfold joinE at h
  refine model_wp hm (by omega) ?_
  rw [rs0, b_bool]
  refine cNot (fun c => ⟨trivial, by rw [c] at h; exact h⟩) fun c1 => ?_
  rw [c1, cond_true] at h
  refine form_wp hf (by omega) ?_
  rw [rs0, b_bool, i_int]
  refine cNot (fun c => ⟨trivial, by rw [i_int, c] at h; exact h⟩) fun c2 => ?_
  rw [i_int, c2, cond_true] at h
  refine bound_wp hm (hx.bx (by omega)).o (by omega) ?_
  rw [rs0, b_bool, c1, Bool.true_and]
  refine cNot (fun c => ⟨trivial, by rw [c] at h; exact h⟩) fun c3 => ?_
  rw [c3, cond_true] at h
  refine bound_wp hm (hy.bx (by omega)).o (by omega) ?_
  rw [rs0, b_bool, c1, Bool.true_and]
  refine cNot (fun c => ⟨trivial, by rw [c] at h; exact h⟩) fun c4 => ?_
  rw [c4, cond_true] at h
  have lx := bnd_len c3
  have ly := bnd_len c4
  show cond (iLt 1000 (IntKind.wrap .i64 (IntKind.wrap .i64 (1 + D.len (cs x)) + D.len (cs y)))) _ _
  have ex : D.len (D.fld x 0) = D.len (cs x) := rfl
  rw [ex, wrap_id (show -9223372036854775808 ≤ 1 + D.len (cs x) by omega) (by omega), wrap_id (show -9223372036854775808 ≤ 1 + D.len (cs x) + D.len (cs y) by omega) (by omega)]
  refine cLt (fun c => ⟨trivial, by rw [iLt_iff.mpr c] at h; exact h⟩) fun c5 => ?_
  rw [iLt_not.mpr c5, cond_false] at h
  have h : Q [joinB m form (.int at_) x y, .int 0] := h
  have lx2 : D.len (cs x) = ((D.xs (cs x)).length : Nat) := rfl
  have ly2 : D.len (cs y) = ((D.xs (cs y)).length : Nat) := rfl
  refine clone_wp hf (by omega) ⟨trivial, ?_⟩
  rw [rs0]
  refine shifted_wp (by show (D.xs (cs x)).length ≤ 1000; omega) hx.each (split_norows c3) (by omega) ?_
  simp only [rs0, xs_slc]
  refine ⟨?_, trivial, shifted_wp (by show (D.xs (cs y)).length ≤ 1000; omega) hy.each (split_norows c4) (by omega) ?_⟩
  · unfold room; rw [List.length_map, List.length_singleton]
    show (((1 : Nat) : Int) + ((D.xs (cs x)).length : Int)) * 80 ≤ 70368744177664
    omega
  · simp only [rs0, xs_slc]
    refine ⟨?_, trivial, trivial, h⟩
    unfold room; rw [List.length_map, List.length_append, List.length_singleton, List.length_map]
    show (((1 + (D.xs (cs x)).length : Nat) : Int) + ((D.xs (cs y)).length : Int)) * 80 ≤ 70368744177664
    omega

theorem same_wp {d : D} (hl : D.len d ≤ 1100000) (hf : ∀ x ∈ D.xs d, Fl x) (hn : 1100100 ≤ n) (h : Q [.bool true]) : wpF Try.prog A n 108 [d, d] Q := by
  obtain ⟨p, rfl⟩ : ∃ p, n = p + 1 := ⟨n - 1, by omega⟩
  rw [E108]
  refine cNe (fun c => absurd rfl c) fun _ => ?_
  have hd : D.len d = ((D.xs d).length : Nat) := rfl
  rw [hd]
  refine all_loop (L := fun m0 k => L108_4 p m0 d d (.int ((D.xs d).length : Int)) k Q) (bad := fun _ => false) (N := (D.xs d).length) (F := False) (by omega) (fun m0 k hk hw hb hg => ?_) (fun hb => by rw [anyB_false fun _ _ => rfl] at hb; cases hb) (fun hg m0 => ?_) p 0 (by omega) (by omega) (by omega)
  · rw [L108_4_eq]
    simp only [i_int]
    rw [hw]
    refine cLt (fun _ => ⟨by omega, by omega, ?_⟩) fun c => by omega
    obtain ⟨a, b, e⟩ := hf _ (el_mem (d := d) (i := k) (by omega))
    rw [e]
    have es : D.same 8 (tm a b) (tm a b) = true := by simp [D.same, D.same.sames, tm]
    rw [es]
    exact hg rfl
  · rw [L108_4_eq]
    simp only [i_int]
    exact cLt (fun c => by omega) fun _ => h

theorem sameB_wp {a : D} (ha : BN 1100000 a) (hn : 1100300 ≤ n) (h : Q [.bool true]) : wpF Try.prog A n 63 [a, a] Q := by
  obtain ⟨p, rfl⟩ : ∃ p, n = p + 1 := ⟨n - 1, by omega⟩
  rw [E63]
  refine cNe (fun c => absurd rfl c) fun _ => cNe (fun c => absurd rfl c) fun _ => ?_
  have hd : D.len (D.fld a 0) = ((D.xs (cs a)).length : Nat) := rfl
  have hc := ha.cases
  have hc2 : D.len (cs a) = ((D.xs (cs a)).length : Nat) := rfl
  rw [hd]
  refine all_loop (L := fun m0 k => L63_4 p m0 (D.fld a 0) (.int ((D.xs (cs a)).length : Int)) k a Q) (bad := fun _ => false) (N := (D.xs (cs a)).length) (F := False) (by omega) (fun m0 k hk hw hb hg => ?_) (fun hb => by rw [anyB_false fun _ _ => rfl] at hb; cases hb) (fun hg m0 => ?_) p 0 (by omega) (by omega) (by omega)
  · rw [L63_4_eq]
    simp only [i_int]
    rw [hw, hd]
    have hcn := ha.each _ (el_mem (d := cs a) (i := k) (by omega))
    refine cLt (fun _ => ⟨by omega, trivial, by omega, trivial, ?_⟩) fun c => by omega
    refine cNe (fun c => absurd rfl c) fun _ => cNe (fun c => absurd rfl c) fun _ => cNe (fun c => absurd rfl c) fun _ => cNe (fun c => absurd rfl c) fun _ => ?_
    refine same_wp hcn.form hcn.flf (by omega) ?_
    rw [rs0, b_bool]
    refine same_wp hcn.mul hcn.flm (by omega) ?_
    rw [rs0, b_bool]
    exact hg rfl
  · rw [L63_4_eq]
    simp only [i_int]
    exact cLt (fun c => by omega) fun _ => h

theorem joinV_bn {m form at_ x y : D} (hx : BN 1100000 x) (hy : BN 1100000 y) (hf : D.len form ≤ 1100000) (hff : ∀ x ∈ D.xs form, Fl x) : BN 1100000 (joinV m form at_ x y) := by
  unfold joinV
  cases hj : iEq (joinE m form at_ x y) 0 with
  | true =>
    rw [iEq_iff] at hj
    have f := joinE_ok hj
    exact bnd_app hx hy hf hff (by omega)
  | false => exact bn_agg (by simp) fun c hc => by cases hc

theorem pairs_wp {m d : D} {s xs : List D} {a : Int} (hm : Mo m) (hs : s.length ≤ 100) (hsf : ∀ x ∈ s, Fl x) (hd : Dk d) (h3 : xs.length = 3) (hx : ∀ q ∈ xs, ∃ x y, q = .agg [x, y] ∧ BN 1100000 x ∧ BN 1100000 y) (hn : 1102000 ≤ n) :
    L13_10 n n (.int a) (.int (3 : Int)) (.int 0) m d (.slc s) (.slc xs) (fun r => r = [.bool true]) := by
  have key : ∀ (m0 k : Nat) (d : D), k ≤ 3 → 3 - k < m0 → Dk d → L13_10 n m0 (.int a) (.int (3 : Int)) (.int (k : Int)) m d (.slc s) (.slc xs) (fun r => r = [.bool true]) := by
    intro m0
    induction m0 with
    | zero => intro k d _ h; omega
    | succ m0 ih =>
      intro k d h1 h2 hd
      rw [L13_10_eq]
      simp only [i_int, len_slc, xs_slc, toNat_nat]
      refine cLt (fun hk => ⟨by omega, trivial, ?_⟩) fun hk => awake_wp (by omega) rfl
      refine next_wp (by omega) hd (by omega) (by omega) fun v d1 hv0 hv1 hd1 => ?_
      simp only [rs0, rsS, i_int]
      obtain ⟨x, y, e, hbx, hby⟩ := hx _ (getD_mem (d := .und) (show k < xs.length by omega))
      rw [e]
      have h2l : [D.int a, D.int (IntKind.wrap .i64 (v - 4))].length = 2 := rfl
      have hall : ∀ z ∈ [D.int a, D.int (IntKind.wrap .i64 (v - 4))], ∃ t, z = D.int t := fun z hz => by
        simp only [List.mem_cons, List.not_mem_nil, or_false] at hz
        rcases hz with rfl | rfl
        · exact ⟨_, rfl⟩
        · exact ⟨_, rfl⟩
      revert h2l hall
      generalize [D.int a, D.int (IntKind.wrap .i64 (v - 4))] = ats
      intro h2l hall
      rw [h2l]
      have ih := ih (k + 1) d1 (by omega) (by omega) hd1
      refine all_loop (L := fun m1 t => L13_13 n m0 m1 (.int a) (.int (3 : Int)) (.int (k : Int)) (.int ((2 : Nat) : Int)) t m (.agg [x, y]) d1 (.slc s) (.slc xs) (.slc ats) (fun r => r = [.bool true])) (bad := fun _ => false) (N := 2) (F := False) (by omega) (fun m1 t ht hw hb hg => ?_) (fun hb => by rw [anyB_false fun _ _ => rfl] at hb; cases hb) (fun hg m1 => ?_) n 0 (by omega) (by omega) (by omega)
      · rw [L13_13_eq]
        simp only [i_int, len_slc, xs_slc, toNat_nat, fs_agg]
        rw [hw, h2l]
        obtain ⟨w, ew⟩ := hall _ (getD_mem (d := .und) (show t < ats.length by omega))
        rw [ew]
        refine cLt (fun _ => ⟨by omega, by omega, by omega, ?_⟩) fun c => by omega
        have e0 : [x, y].getD (Int.toNat 0) D.und = x := rfl
        have e1 : [x, y].getD (Int.toNat 1) D.und = y := rfl
        rw [e0, e1]
        refine join_wp hm (by rw [len_slc]; omega) hbx hby (by omega) ⟨trivial, by omega, by omega, ?_⟩
        refine join'_wp hm (by rw [len_slc]; omega) hbx hby (by omega) ⟨trivial, ?_⟩
        simp only [rs0, rsS, i_int]
        refine cNe (fun c => absurd rfl c) fun _ => ?_
        refine sameB_wp (joinV_bn hbx hby (by rw [len_slc]; omega) hsf) (by omega) ?_
        rw [rs0, b_bool]
        exact hg rfl
      · rw [L13_13_eq]
        simp only [i_int]
        refine cLt (fun c => by omega) fun _ => ?_
        rw [wrap_id (by omega) (by omega), show ((k : Int) + 1) = ((k + 1 : Nat) : Int) by omega]
        exact ih
  exact key n 0 d (by omega) (by omega) hd

theorem joins_wp {raw : D} {l : List Int} {a : Int} (hr : BN 1100000 raw) (hl : l.length ≤ 2000000) (hn : 1102001 ≤ n) : wpF Try.prog A n 13 [raw, lst l, .int a] (fun r => r = [.bool true]) := by
  obtain ⟨p, rfl⟩ : ∃ p, n = p + 1 := ⟨n - 1, by omega⟩
  rw [E13]
  refine cLt (fun _ => awake_wp (by omega) rfl) fun _ => ?_
  refine new_wp (by omega) hl fun d hd => ?_
  rw [rs0]
  refine boxed_wp hd (by omega) fun m d1 c rows goal k box hs hd1 => ?_
  simp only [rs0, rsS]
  have hc := hs.cols
  have e0 : D.fld m 0 = .int (c : Int) := by rw [hs.eq]; rfl
  rw [e0]
  refine ⟨trivial, lbound_wp hs 2 (by omega) hd1 (by omega) fun b1 d2 hb1 hd2 => ?_⟩
  simp only [rs0, rsS]
  refine lbound_wp hs 2 (by omega) hd2 (by omega) fun b2 d3 hb2 hd3 => ?_
  simp only [rs0, rsS]
  refine ⟨trivial, trivial, next_wp (by omega) hd3 (by omega) (by omega) fun v d4 hv0 hv1 hd4 => ?_⟩
  simp only [rs0, rsS, i_int]
  have fin : ∀ (x d : D), BN 1100000 x → Dk d → wpF Try.prog A p 18 [d, (D.int (6 : Int))] fun r8 =>
      ((5 : Int) ≠ (0 : Int) ∧ (wpF Try.prog A p 60 [(rs r8 1), (D.int (IntKind.wrap .i64 ((c : Int) + (IntKind.wrap .i64 (Int.tdiv (D.i (rs r8 0)) (5 : Int))))))] fun r9 =>
      (L13_10 p p (.int a) (D.int (D.len (D.slc [(D.agg [x, b2]), (D.agg [raw, b2]), (D.agg [x, raw])]))) (D.int (0 : Int)) m (rs r9 1) (rs r9 0) (D.slc [(D.agg [x, b2]), (D.agg [raw, b2]), (D.agg [x, raw])]) (fun r => r = [.bool true])))) := by
    intro x d hx hd
    refine next_wp (by omega) hd (by omega) (by omega) fun w d5 hw0 hw1 hd5 => ?_
    simp only [rs0, rsS, i_int]
    have ht0 : 0 ≤ Int.tdiv w 5 := Int.tdiv_nonneg hw0 (by omega)
    have ht1 : Int.tdiv w 5 ≤ 1 := by
      rw [Int.tdiv_eq_ediv_of_nonneg hw0]; omega
    rw [wrap_id (show -9223372036854775808 ≤ Int.tdiv w 5 by omega) (by omega), wrap_id (show -9223372036854775808 ≤ (c : Int) + Int.tdiv w 5 by omega) (by omega)]
    refine ⟨by omega, tterms_wp hd5 (by omega) (by omega) (by omega) fun s d6 hs6 hsf hd6 => ?_⟩
    simp only [rs0, rsS]
    have hsl := terms_len hs6 (by omega)
    rw [len_slc] at hsl
    refine pairs_wp (m := m) hs.mo (by omega) hsf hd6 rfl (fun q hq => ?_) (by omega)
    simp only [List.mem_cons, List.not_mem_nil, or_false] at hq
    rcases hq with rfl | rfl | rfl
    · exact ⟨_, _, rfl, hx, hb2.mono (by omega)⟩
    · exact ⟨_, _, rfl, hr, hb2.mono (by omega)⟩
    · exact ⟨_, _, rfl, hx, hr⟩
  refine cEq (fun _ => ?_) fun _ => fin _ _ (hb1.mono (by omega)) hd4
  refine spoilt_wp hb1 (by omega) (by omega) hd4 (by omega) fun b3 d5 hb3 hd5 => ?_
  simp only [rs0, rsS]
  exact ⟨trivial, fin _ _ (hb3.mono (by omega)) hd5⟩
end
end Go.Ab
