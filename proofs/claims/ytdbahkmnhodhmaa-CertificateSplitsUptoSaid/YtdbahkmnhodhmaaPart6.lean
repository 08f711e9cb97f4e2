/- Equations and plain laws of the functions that the statement reaches, part 6. Conditions: those in each theorem. -/
import Derived.Test.YtdbahkmnhodhmaaPart5
import Derived.Test.YtdbahkmnhodhmaaAbPart8
set_option linter.unusedVariables false
set_option linter.unusedSimpArgs false
/- The law's bounds: made ones, spoilt ones, joined ones. -/
namespace Go.Ab
open Go.Proofs
attribute [local irreducible] wpF

theorem wrap_rng (x : Int) : -9223372036854775808 ≤ IntKind.wrap .i64 x ∧ IntKind.wrap .i64 x ≤ 9223372036854775807 := by
  simp only [IntKind.wrap, IntKind.bits, IntKind.signed, Bool.true_and]
  by_cases h : x % 2 ^ 64 ≥ 2 ^ (64 - 1)
  · rw [if_pos (by simpa using h)]; omega
  · rw [if_neg (by simpa using h)]; omega

/-- A case whose lists are not too long. -/
structure CN (N : Int) (c : D) : Prop where
  form : D.len (D.fld c 2) ≤ N
  mul : D.len (D.fld c 4) ≤ N
  big : ∀ x ∈ D.xs (D.fld c 4), D.i (D.fld x 0) ≤ 9223372036854775807
  flf : ∀ x ∈ D.xs (D.fld c 2), Fl x
  flm : ∀ x ∈ D.xs (D.fld c 4), Fl x
structure BN (N : Int) (b : D) : Prop where
  cases : D.len (cs b) ≤ N
  each : ∀ c ∈ D.xs (cs b), CN N c
theorem CN.mono {N M : Int} {c : D} (h : CN N c) (hN : N ≤ M) : CN M c := ⟨Int.le_trans h.form hN, Int.le_trans h.mul hN, h.big, h.flf, h.flm⟩
theorem BN.mono {N M : Int} {b : D} (h : BN N b) (hN : N ≤ M) : BN M b := ⟨Int.le_trans h.cases hN, fun c hc => (h.each c hc).mono hN⟩
theorem el_mem {d : D} {i : Nat} (h : (i : Int) < D.len d) : D.el d (i : Int) ∈ D.xs d := by
  have e : D.el d (i : Int) = (D.xs d).getD i .und := by simp [D.el]
  rw [e]
  have : D.len d = ((D.xs d).length : Nat) := rfl
  exact getD_mem (by omega)
theorem BN.bx {N : Int} {b : D} (h : BN N b) (hN : N ≤ 1100000) : Bx b := by
  have at_ : ∀ i : Nat, (i : Int) < D.len (cs b) → CN N (cAs b i) := fun i hi => h.each _ (el_mem hi)
  refine ⟨⟨Int.le_trans h.cases hN, fun i hi => Int.le_trans (at_ i hi).form hN, fun i hi => Int.le_trans (at_ i hi).mul hN⟩, fun i hi k hk => ?_⟩
  exact (at_ i hi).big _ (el_mem hk)
theorem cn_agg {N : Int} {a b f t r e : D} (h1 : D.len f ≤ N) (h2 : D.len r ≤ N) (h3 : ∀ x ∈ D.xs r, D.i (D.fld x 0) ≤ 9223372036854775807) (h4 : ∀ x ∈ D.xs f, Fl x) (h5 : ∀ x ∈ D.xs r, Fl x) : CN N (.agg [a, b, f, t, r, e]) := ⟨h1, h2, h3, h4, h5⟩
theorem bn_agg {N : Int} {l : List D} {t : D} (h1 : (l.length : Int) ≤ N) (h2 : ∀ c ∈ l, CN N c) : BN N (.agg [.slc l, t]) := ⟨h1, h2⟩

/-- The corner of a boxed model. -/
def cornS (R : Nat) (goal : D) (s : List D) (k : Nat) : List D := cond (iLt 0 (tco goal k)) (s ++ [.agg [.int ((R : Int) + tof goal k), D.fld (D.el goal k) 1]]) s
def cornL (R : Nat) (goal : D) (k : Nat) : List D := iter (cornS R goal) [] k
def leafC (s : List D) (den : D) : D := .agg [.int (-1), .int (-1), .slc [], .int 0, .slc s, den]
def cornC (R : Nat) (goal : D) : D := leafC (cornL R goal (D.len goal).toNat) (.int 1)

theorem mul_of {l : D} (h : ∀ k : Nat, (k : Int) < D.len l → badM l k = false) : mulB l = true := by
  unfold mulB
  have hl := ln0 l
  rw [anyB_false fun i hi => h i (by omega)]
  rfl
theorem badM_of {l : D} {k : Nat} (h1 : 0 ≤ tof l k) (h2 : 0 < k → tof l ((k : Int) - 1) < tof l k) (h3 : 1 ≤ tco l k) (h4 : tco l k ≤ 1073741824) : badM l k = false := by
  simp only [badM, Bool.or_eq_false_iff, iLt_not, iLe_not, Bool.and_eq_false_iff]
  refine ⟨by omega, ?_, by omega, by omega⟩
  by_cases hk : 0 < k
  · right; have := h2 hk; omega
  · left; omega
theorem mul_snoc {s : List D} {y : D} (h : mulB (.slc s) = true) (hlt : ∀ j : Nat, j < s.length → tof (.slc s) j < D.i (D.fld y 0)) (h0 : 0 ≤ D.i (D.fld y 0)) (h1 : 1 ≤ D.i (D.fld y 1)) (h2 : D.i (D.fld y 1) ≤ 1073741824) : mulB (.slc (s ++ [y])) = true := by
  refine mul_of fun j hj => ?_
  rw [len_slc, List.length_append, List.length_singleton] at hj
  by_cases e : j = s.length
  · subst e
    have eo : tof (.slc (s ++ [y])) (s.length : Nat) = D.i (D.fld y 0) := by unfold tof; rw [xs_get_new]
    have ec : tco (.slc (s ++ [y])) (s.length : Nat) = D.i (D.fld y 1) := by unfold tco; rw [xs_get_new]
    refine badM_of (by omega) (fun hk => ?_) (by omega) (by omega)
    rw [eo, show ((s.length : Int) - 1) = ((s.length - 1 : Nat) : Int) by omega]
    unfold tof
    rw [xs_get_app (by omega)]
    exact hlt _ (by omega)
  · have f := badM_facts (mul_at h (show (j : Int) < D.len (.slc s) by rw [len_slc]; omega))
    have eo : ∀ i : Nat, i ≤ j → tof (.slc (s ++ [y])) (i : Nat) = tof (.slc s) (i : Nat) := fun i hi => by unfold tof; rw [xs_get_app (by omega)]
    have ec : tco (.slc (s ++ [y])) (j : Nat) = tco (.slc s) (j : Nat) := by unfold tco; rw [xs_get_app (by omega)]
    refine badM_of (by rw [eo j (by omega)]; omega) (fun hk => ?_) (by omega) (by omega)
    rw [eo j (by omega), show ((j : Int) - 1) = ((j - 1 : Nat) : Int) by omega, eo (j - 1) (by omega), show ((j - 1 : Nat) : Int) = ((j : Int) - 1) by omega]
    exact f.2.1 hk

theorem corn_facts {R : Nat} {goal : D} {c : Int} (h : termsB goal c 9 = true) : ∀ k : Nat, (k : Int) ≤ D.len goal →
    mulB (.slc (cornL R goal k)) = true ∧ (cornL R goal k).length ≤ k ∧ (∀ x ∈ cornL R goal k, (R : Int) ≤ D.i (D.fld x 0) ∧ D.i (D.fld x 0) < R + c ∧ ∀ t : Nat, k ≤ t → (t : Int) < D.len goal → D.i (D.fld x 0) < R + tof goal t) := by
  intro k
  induction k with
  | zero => intro _; exact ⟨rfl, Nat.le_refl _, fun x hx => by cases hx⟩
  | succ k ih =>
    intro hk
    obtain ⟨h1, h2, h3⟩ := ih (by omega)
    have f := badT_facts (terms_at h (show (k : Int) < D.len goal by omega))
    have e : cornL R goal (k + 1) = cornS R goal (cornL R goal k) k := rfl
    rw [e, cornS]
    cases hc : iLt 0 (tco goal k) with
    | false => exact ⟨h1, by simp only [cond_false]; omega, fun x hx => ⟨(h3 x hx).1, (h3 x hx).2.1, fun t ht hl => (h3 x hx).2.2 t (by omega) hl⟩⟩
    | true =>
      rw [iLt_iff] at hc
      simp only [cond_true]
      refine ⟨mul_snoc h1 (fun j hj => ?_) ?_ ?_ ?_, by rw [List.length_append, List.length_singleton]; omega, fun x hx => ?_⟩
      · have hm : D.el (.slc (cornL R goal k)) (j : Int) ∈ cornL R goal k := el_mem (d := .slc (cornL R goal k)) (by rw [len_slc]; omega)
        have := (h3 _ hm).2.2 k (Nat.le_refl _) (by omega)
        unfold tof
        simp only [fld0, i_int]
        exact this
      · show 0 ≤ (R : Int) + tof goal k
        omega
      · show 1 ≤ tco goal k
        omega
      · show tco goal k ≤ _
        omega
      · rcases List.mem_append.mp hx with hx | hx
        · exact ⟨(h3 x hx).1, (h3 x hx).2.1, fun t ht hl => (h3 x hx).2.2 t (by omega) hl⟩
        · rw [List.mem_singleton.mp hx]
          simp only [fld0, i_int]
          refine ⟨by omega, by omega, fun t ht hl => ?_⟩
          have := terms_inc h (show k < t by omega) hl
          omega

/-- A leaf of a law. -/
structure LF (s : List D) : Prop where
  mul : mulB (.slc s) = true
  len : s.length ≤ 4
  big : ∀ x ∈ s, D.i (D.fld x 0) ≤ 1000
  fl : ∀ x ∈ s, Fl x
theorem LF.cn {s : List D} (h : LF s) {den : D} : CN 1000 (leafC s den) := by
  have := h.len
  exact ⟨by show D.len (.slc []) ≤ 1000; rw [len_slc, List.length_nil]; omega, by show D.len (.slc s) ≤ 1000; rw [len_slc]; omega, fun x hx => by have := h.big x hx; omega, (fun x hx => by cases hx), h.fl⟩
theorem LF.lc {s : List D} (h : LF s) {m : D} {c : Nat} {rows goal : List D} {k : Int} {box : List Int} (hm : SM m c rows goal k box) {v : Int} (h0 : 0 ≤ v) (h1 : v ≤ 1024) : LC m [] (leafC s (.int v)) := by
  have := h.len
  have hM := modB_facts hm.mv
  refine ⟨hm.mo, hm.mv, (fun x hx => by cases hx), ?_, h.mul, by show D.len (.slc s) ≤ _; rw [len_slc]; omega, h0, h1, fun k hk => ?_⟩
  · rw [List.length_nil]; omega
  · have hk : (k : Int) < D.len (.slc s) := hk
    rw [len_slc] at hk
    have := h.big _ (getD_mem (d := .und) (show k < s.length by omega))
    show D.i (D.fld (s.getD k .und) 0) ≤ _
    omega
theorem corn_fl {R : Nat} {goal : List D} (h : ∀ x ∈ goal, Fl x) : ∀ k, k ≤ goal.length → ∀ x ∈ cornL R (.slc goal) k, Fl x := by
  intro k
  induction k with
  | zero => intro _ x hx; cases hx
  | succ k ih =>
    intro hk
    have e : cornL R (.slc goal) (k + 1) = cornS R (.slc goal) (cornL R (.slc goal) k) k := rfl
    rw [e, cornS]
    cases iLt 0 (tco (.slc goal) k) with
    | false => exact ih (by omega)
    | true =>
      refine fl_snoc (ih (by omega)) ?_
      obtain ⟨a, b, h1⟩ := h _ (el_mem (d := .slc goal) (i := k) (by rw [len_slc]; omega))
      rw [h1]
      exact ⟨_, _, rfl⟩
theorem corn_lf {R c : Nat} {goal : List D} (h : termsB (.slc goal) c 9 = true) (hgf : ∀ x ∈ goal, Fl x) (hc : c ≤ 4) (hR : R ≤ 6) : LF (cornL R (.slc goal) goal.length) := by
  have hl := terms_len h (by omega)
  rw [len_slc] at hl
  have f := corn_facts (R := R) h goal.length (by rw [len_slc]; omega)
  exact ⟨f.1, by omega, fun x hx => by have := f.2.2 x hx; omega, corn_fl hgf _ (Nat.le_refl _)⟩
theorem one_lf {o w : Int} (h0 : 0 ≤ o) (h1 : o ≤ 1000) (h2 : 1 ≤ w) (h3 : w ≤ 100) : LF [tm o w] :=
  ⟨mul_snoc (s := []) (y := tm o w) rfl (fun j hj => by cases hj) h0 h2 (by show w ≤ _; omega), by simp, fun x hx => by rw [List.mem_singleton.mp hx]; exact h1, fun x hx => by rw [List.mem_singleton.mp hx]; exact ⟨_, _, rfl⟩⟩

section
variable {n : Nat} {Q : List D → Prop}

theorem corner_wp {m : D} {c : Nat} {rows goal : List D} {k : Int} {box : List Int} (hm : SM m c rows goal k box) (hn : 100 ≤ n) (h : Q [leafC (cornL rows.length (.slc goal) goal.length) (.int 1)]) : wpF Try.prog A n 58 [m] Q := by
  obtain ⟨p, rfl⟩ : ∃ p, n = p + 1 := ⟨n - 1, by omega⟩
  rw [E58]
  have hg := hm.goal
  have hc := hm.cols
  have hfew := hm.few
  have hgl := terms_len hg (by omega)
  rw [len_slc] at hgl
  have e1 : D.fld m 1 = .slc (rows ++ boxR box c) := by rw [hm.eq]; rfl
  have e0 : D.fld m 0 = .int (c : Int) := by rw [hm.eq]; rfl
  have e2 : D.fld m 2 = .slc goal := by rw [hm.eq]; rfl
  rw [e2, len_slc]
  refine ⟨trivial, ?_⟩
  refine fold_loop (L := fun m0 t s => L58_3 p m0 (.slc goal) (.int (goal.length : Int)) t m (.agg [.int 0, .int 0, .slc [], .int 0, .slc [], .int 0]) (leafC s (.int 1)) Q) (step := cornS rows.length (.slc goal)) (s0 := []) (N := goal.length) (by omega) (fun m1 t ht hw hg2 => ?_) (fun m1 => ?_) p 0 (by omega) (by omega)
  · rw [L58_3_eq]
    simp only [i_int, len_slc]
    rw [hw, e1, e0, len_slc, hm.rlen, i_int]
    have f := badT_facts (terms_at hg (show (t : Int) < D.len (.slc goal) by rw [len_slc]; omega))
    have hf := (corn_facts (R := rows.length) hg t (by rw [len_slc]; omega)).2.1
    unfold cornL at hf
    simp only [iter] at hg2
    revert hg2 hf
    generalize iter (cornS rows.length (.slc goal)) [] t = z
    intro hg2 hf
    unfold cornS at hg2
    have eo : D.i (D.fld (D.el (.slc goal) (t : Int)) 0) = tof (.slc goal) t := rfl
    have ec : D.i (D.fld (D.el (.slc goal) (t : Int)) 1) = tco (.slc goal) t := rfl
    rw [eo, ec, wrap_id (show -9223372036854775808 ≤ ((rows.length + c : Nat) : Int) - (c : Int) by omega) (by omega), wrap_id (by omega) (by omega)]
    rw [show ((rows.length + c : Nat) : Int) - (c : Int) + tof (.slc goal) t = (rows.length : Int) + tof (.slc goal) t by omega]
    refine cLt (fun _ => ⟨by omega, trivial, ?_⟩) fun c => by omega
    refine cnd (fun c1 => ?_) fun c1 => ?_
    · rw [c1, cond_true] at hg2
      refine ⟨?_, trivial, hg2⟩
      show room (((D.xs (.slc z)).length : Int) + _) 16
      unfold room; rw [xs_slc]; simp only [List.length_singleton]; omega
    · rw [c1, cond_false] at hg2
      exact hg2
  · rw [L58_3_eq]
    simp only [i_int]
    refine cLt (fun c => by omega) fun _ => ⟨trivial, h⟩

/-- Cases that are moved. -/
def shT (rows : Int) (x : D) : D := cond (iLe rows (D.i (D.fld x 0))) (.agg [.int (IntKind.wrap .i64 (D.i (D.fld x 0) + 1)), D.fld x 1]) x
def mvC (by_ rows : Int) (c : D) : D := .agg [cond (iEq (cL c) (-1)) (D.fld c 0) (.int (IntKind.wrap .i64 (cL c + by_))), cond (iEq (cL c) (-1)) (D.fld c 1) (.int (IntKind.wrap .i64 (cR c + by_))), .slc (D.xs (D.fld c 2)), D.fld c 3, .slc ((D.xs (D.fld c 4)).map (shT rows)), D.fld c 5]
theorem mv_cn {N b r : Int} {c : D} (h : CN N c) : CN N (mvC b r c) := by
  refine cn_agg h.form ?_ (fun x hx => ?_) h.flf fun x hx => ?_
  · rw [len_slc, List.length_map]; exact h.mul
  · rw [xs_slc] at hx
    obtain ⟨y, hy, rfl⟩ := List.mem_map.mp hx
    unfold shT
    cases iLe r (D.i (D.fld y 0)) with
    | true =>
      simp only [cond_true, fld0, i_int]
      exact (wrap_rng _).2
    | false => exact h.big y hy
  · rw [xs_slc] at hx
    obtain ⟨y, hy, rfl⟩ := List.mem_map.mp hx
    obtain ⟨a, b, e⟩ := h.flm y hy
    unfold shT
    cases iLe r (D.i (D.fld y 0)) with
    | true => rw [e]; exact ⟨_, _, rfl⟩
    | false => exact ⟨a, b, e⟩

theorem map_take_snoc {f : D → D} {l : List D} {k : Nat} (h : k < l.length) : (l.take (k + 1)).map f = (l.take k).map f ++ [f (l.getD k .und)] := by
  rw [take_snoc (d := .und) h, List.map_append]; rfl

theorem moved_wp {d : D} {b r : Int} (hl : (D.xs d).length ≤ 1000) (hc : ∀ c ∈ D.xs d, CN 1100000 c) (hn : 1100200 ≤ n) (h : Q [.slc ((D.xs d).map (mvC b r))]) : wpF Try.prog A n 107 [d, .int b, .int r] Q := by
  obtain ⟨p, rfl⟩ : ∃ p, n = p + 1 := ⟨n - 1, by omega⟩
  rw [E107]
  obtain ⟨l, hlist⟩ : ∃ l, D.xs d = l := ⟨_, rfl⟩
  have hdl : D.len d = (l.length : Nat) := by rw [← hlist]; rfl
  have hde : ∀ k : Nat, D.el d (k : Int) = l.getD k .und := fun k => by rw [← hlist]; simp [D.el]
  rw [hlist] at hl hc h
  rw [hdl]
  have key : ∀ (m0 k : Nat), k ≤ l.length → l.length - k < m0 → L107_3 p m0 (.int b) (.int r) d (.int (l.length : Int)) (.int (k : Int)) (.slc ((l.take k).map (mvC b r))) Q := by
    intro m0
    induction m0 with
    | zero => intro k _ h; omega
    | succ m0 ih =>
      intro k h1 h2
      rw [L107_3_eq]
      simp only [i_int]
      rw [hdl, hde]
      refine cLt (fun hk => ⟨by omega, trivial, ?_⟩) fun hk => ?_
      · have hN := hc _ (getD_mem (d := .und) (show k < l.length by omega))
        have ih := ih (k + 1) (by omega) (by omega)
        rw [map_take_snoc (by omega)] at ih
        revert ih hN
        generalize l.getD k .und = c
        intro hN ih
        obtain ⟨M, hM⟩ : ∃ M : Nat, (D.xs (D.fld c 4)).length = M := ⟨_, rfl⟩
        have hM2 : D.len (D.fld c 4) = M := by rw [← hM]; rfl
        have hM3 := hN.mul
        have hF : D.len (D.fld c 2) = ((D.xs (D.fld c 2)).length : Nat) := rfl
        have hF3 := hN.form
        have hlt : ((l.take k).map (mvC b r)).length ≤ 1000 := by rw [List.length_map]; have := List.length_take_le k l; omega
        have inner : ∀ x y : D, x = cond (iEq (cL c) (-1)) (D.fld c 0) (.int (IntKind.wrap .i64 (cL c + b))) → y = cond (iEq (cL c) (-1)) (D.fld c 1) (.int (IntKind.wrap .i64 (cR c + b))) → ∀ (m1 t : Nat), t ≤ M → M - t < m1 →
            L107_10 p m0 m1 (.int b) (.int r) d (.int (l.length : Int)) (.int (k : Int)) (D.fld c 4) (.int (M : Int)) (.int (t : Int)) (.slc ((l.take k).map (mvC b r))) (.agg [x, y, .slc (D.xs (D.fld c 2)), D.fld c 3, D.fld c 4, D.fld c 5]) (.slc (((D.xs (D.fld c 4)).take t).map (shT r))) Q := by
          intro x y hx hy m1
          induction m1 with
          | zero => intro t _ h; omega
          | succ m1 ihm =>
            intro t h3 h4
            rw [L107_10_eq]
            simp only [i_int, xs_slc, fld0, fldS]
            rw [hM2]
            have hw : IntKind.wrap .i64 ((t : Int) + 1) = ((t + 1 : Nat) : Int) := by rw [wrap_id (by omega) (by omega)]; omega
            have htl : (((D.xs (D.fld c 4)).take t).map (shT r)).length ≤ M := by rw [List.length_map]; have := List.length_take_le' t (D.xs (D.fld c 4)); omega
            refine cLt (fun ht => ⟨by omega, trivial, ?_⟩) fun ht => ?_
            · have ihm := ihm (t + 1) (by omega) (by omega)
              rw [map_take_snoc (by omega)] at ihm
              rw [hw]
              have hel : D.el (D.fld c 4) (t : Int) = (D.xs (D.fld c 4)).getD t .und := by simp [D.el]
              rw [hel]
              revert ihm
              generalize (D.xs (D.fld c 4)).getD t .und = z
              intro ihm
              unfold shT at ihm ⊢
              refine cnd (fun c1 => ?_) fun c1 => ?_
              · rw [c1, cond_true] at ihm
                refine ⟨trivial, ?_, ihm⟩
                unfold shT at htl
                unfold room; rw [List.length_singleton]; omega
              · rw [c1, cond_false] at ihm
                refine ⟨?_, ihm⟩
                unfold shT at htl
                unfold room; rw [List.length_singleton]; omega
            · have e : t = M := by omega
              subst e
              refine ⟨trivial, by unfold room; rw [List.length_singleton]; omega, ?_⟩
              rw [wrap_id (by omega) (by omega), show ((k : Int) + 1) = ((k + 1 : Nat) : Int) by omega]
              rw [show (D.xs (D.fld c 4)).take t = D.xs (D.fld c 4) by rw [← hM, List.take_length], hx, hy]
              exact ih
        refine cNe (fun c1 => ?_) fun c1 => ?_
        · have c1 : ¬ cL c = -1 := c1
          rw [hM2]
          refine ⟨trivial, trivial, by unfold room; omega, trivial, ?_⟩
          exact inner _ _ (by rw [iEq_not.mpr c1]; rfl) (by rw [iEq_not.mpr c1]; rfl) p 0 (by omega) (by omega)
        · have c1 : cL c = -1 := c1
          rw [hM2]
          refine ⟨by unfold room; omega, trivial, ?_⟩
          exact inner _ _ (by rw [iEq_iff.mpr c1]; rfl) (by rw [iEq_iff.mpr c1]; rfl) p 0 (by omega) (by omega)
      · have e : k = l.length := by omega
        subst e
        rw [List.take_length]
        exact h
  exact key p 0 (by omega) (by omega)

/-- What a split of two bounds is. -/
def rootC (m form at_ x : D) : D := .agg [.int 1, .int (1 + D.len (cs x)), .slc (D.xs form), at_, .slc [], .int 0]
def joinB (m form at_ x y : D) : D := .agg [.slc ([rootC m form at_ x] ++ (D.xs (cs x)).map (mvC 1 (D.len (D.fld m 1))) ++ (D.xs (cs y)).map (mvC (1 + D.len (cs x)) (D.len (D.fld m 1)))), .int (minmax true (D.i (D.fld x 1)) (D.i (D.fld y 1)))]
def noB : D := .agg [.slc [], .int 0]
def joinE (m form at_ x y : D) : Int := cond (modB m) (cond (formB m form (D.i at_)) (cond (bndB m x) (cond (bndB m y) (cond (iLt 1000 (1 + D.len (cs x) + D.len (cs y))) 4 0) 10) 10) 10) 33
def joinV (m form at_ x y : D) : D := cond (iEq (joinE m form at_ x y) 0) (joinB m form at_ x y) noB

theorem bnd_app {N : Int} {m form at_ x y : D} (hx : BN N x) (hy : BN N y) (hf : D.len form ≤ N) (hff : ∀ x ∈ D.xs form, Fl x) (h1 : 1 + D.len (cs x) + D.len (cs y) ≤ N) : BN N (joinB m form at_ x y) := by
  have lx : D.len (cs x) = ((D.xs (cs x)).length : Nat) := rfl
  have ly : D.len (cs y) = ((D.xs (cs y)).length : Nat) := rfl
  refine bn_agg ?_ fun c hc => ?_
  · rw [List.length_append, List.length_append, List.length_singleton, List.length_map, List.length_map]; omega
  · rcases List.mem_append.mp hc with hc | hc
    · rcases List.mem_append.mp hc with hc | hc
      · rw [List.mem_singleton.mp hc]
        exact cn_agg hf (by rw [len_slc, List.length_nil]; omega) (fun x hx => by cases hx) hff fun x hx => by cases hx
      · obtain ⟨d, hd, rfl⟩ := List.mem_map.mp hc
        exact mv_cn (hx.each d hd)
    · obtain ⟨d, hd, rfl⟩ := List.mem_map.mp hc
      exact mv_cn (hy.each d hd)

theorem joinE_ok {m form at_ x y : D} (h : joinE m form at_ x y = 0) : modB m = true ∧ formB m form (D.i at_) = true ∧ bndB m x = true ∧ bndB m y = true ∧ 1 + D.len (cs x) + D.len (cs y) ≤ 1000 := by
  unfold joinE at h
  cases h1 : modB m with
  | false => rw [h1] at h; cases h
  | true =>
    rw [h1] at h
    cases h2 : formB m form (D.i at_) with
    | false => rw [h2] at h; cases h
    | true =>
      rw [h2] at h
      cases h3 : bndB m x with
      | false => rw [h3] at h; cases h
      | true =>
        rw [h3] at h
        cases h4 : bndB m y with
        | false => rw [h4] at h; cases h
        | true =>
          rw [h4] at h
          cases h5 : iLt 1000 (1 + D.len (cs x) + D.len (cs y)) with
          | true => rw [h5] at h; cases h
          | false => rw [iLt_not] at h5; exact ⟨rfl, rfl, rfl, rfl, by omega⟩

theorem join'_wp {m form x y : D} {at_ : Int} (hm : Mo m) (hf : D.len form ≤ 1100000) (hx : BN 1100000 x) (hy : BN 1100000 y) (hn : 1100700 ≤ n) (h : Q [joinV m form (.int at_) x y, .int (joinE m form (.int at_) x y)]) : wpF Try.prog A n 62 [m, form, .int at_, x, y] Q := by
  obtain ⟨p, rfl⟩ : ∃ p, n = p + 1 := ⟨n - 1, by omega⟩
  rw [E62]
  unfold joinV at h
  unfold joinE at h
  refine model'_wp hm (by omega) ?_
  rw [rs0, b_bool]
  refine cNot (fun c => ⟨trivial, by rw [c] at h; exact h⟩) fun c1 => ?_
  rw [c1, cond_true] at h
  refine form'_wp hf (by omega) ?_
  rw [rs0, b_bool, i_int]
  refine cNot (fun c => ⟨trivial, by rw [i_int, c] at h; exact h⟩) fun c2 => ?_
  rw [i_int, c2, cond_true] at h
  refine bound'_wp hm (hx.bx (by omega)).o (by omega) ?_
  rw [rs0, b_bool]
  refine cNot (fun c => ⟨trivial, by rw [c] at h; exact h⟩) fun c3 => ?_
  rw [c3, cond_true] at h
  refine bound'_wp hm (hy.bx (by omega)).o (by omega) ?_
  rw [rs0, b_bool]
  refine cNot (fun c => ⟨trivial, by rw [c] at h; exact h⟩) fun c4 => ?_
  rw [c4, cond_true] at h
  have lx := bnd_len c3
  have ly := bnd_len c4
  show cond (iLt 1000 (IntKind.wrap .i64 (IntKind.wrap .i64 (1 + D.len (cs x)) + D.len (cs y)))) _ _
  have ex : D.len (D.fld x 0) = D.len (cs x) := rfl
  rw [ex, wrap_id (show -9223372036854775808 ≤ 1 + D.len (cs x) by omega) (by omega), wrap_id (show -9223372036854775808 ≤ 1 + D.len (cs x) + D.len (cs y) by omega) (by omega)]
  refine cLt (fun c => ⟨trivial, by rw [iLt_iff.mpr c] at h; exact h⟩) fun c5 => ?_
  rw [iLt_not.mpr c5, cond_false] at h
  have h : Q [joinB m form (.int at_) x y, .int 0] := h
  have hM := modB_facts c1
  have hfl : D.len form = ((D.xs form).length : Nat) := rfl
  have lx2 : D.len (cs x) = ((D.xs (cs x)).length : Nat) := rfl
  have ly2 : D.len (cs y) = ((D.xs (cs y)).length : Nat) := rfl
  have hE := hx.each
  have hE2 := hy.each
  refine ⟨by unfold room; omega, trivial, ?_⟩
  refine moved_wp (by show (D.xs (cs x)).length ≤ 1000; omega) hE (by omega) ?_
  simp only [rs0, xs_slc]
  refine ⟨?_, trivial, moved_wp (by show (D.xs (cs y)).length ≤ 1000; omega) hE2 (by omega) ?_⟩
  · unfold room; rw [List.length_map, List.length_singleton]
    show (((1 : Nat) : Int) + ((D.xs (cs x)).length : Int)) * 80 ≤ 70368744177664
    omega
  · simp only [rs0, xs_slc]
    refine ⟨?_, trivial, trivial, h⟩
    unfold room; rw [List.length_map, List.length_append, List.length_singleton, List.length_map]
    show (((1 + (D.xs (cs x)).length : Nat) : Int) + ((D.xs (cs y)).length : Int)) * 80 ≤ 70368744177664
    omega
end
end Go.Ab

/- The law's bounds: made ones, spoilt ones. -/
namespace Go.Ab
open Go.Proofs
attribute [local irreducible] wpF

/-- A law's bound that is a leaf. -/
def baseW (n : Nat) (d m : D) (Q : List D → Prop) : Prop :=
  (wpF Try.prog A n 58 [m] fun r1 =>
 (True ∧ (wpF Try.prog A n 18 [d, (D.int (9 : Int))] fun r2 =>
 (cond (iEq (D.i (rs r2 0)) (0 : Int))
 (wpF Try.prog A n 18 [(rs r2 1), (D.int (3 : Int))] fun r3 =>
 (True ∧ (wpF Try.prog A n 59 [m, (D.slc ([] : List D)), (D.agg [(D.fld (rs r1 0) 0), (D.fld (rs r1 0) 1), (D.fld (rs r1 0) 2), (D.fld (rs r1 0) 3), (D.fld (rs r1 0) 4), (rs r3 0)])] fun r4 =>
 (wpF Try.prog A n 18 [(rs r3 1), (D.int (3 : Int))] fun r5 =>
 (wpF Try.prog A n 18 [(rs r5 1), (D.int (8 : Int))] fun r6 =>
 ((7 : Int) ≠ (0 : Int) ∧ (True ∧ (Q [(D.agg [(D.slc [(D.agg [(D.fld (rs r1 0) 0), (D.fld (rs r1 0) 1), (D.fld (rs r1 0) 2), (D.fld (rs r1 0) 3), (D.fld (rs r1 0) 4), (rs r3 0)])]), (D.int (IntKind.wrap .i64 ((IntKind.wrap .i64 ((D.i (rs r4 0)) + (D.i (rs r5 0)))) - (IntKind.wrap .i64 (Int.tdiv (D.i (rs r6 0)) (7 : Int))))))]), (rs r6 1)]))))))))
 (cond (iEq (D.i (rs r2 0)) (1 : Int))
 (cond (iLt (0 : Int) (D.len (D.fld m 1)))
 (wpF Try.prog A n 18 [(rs r2 1), (D.int (IntKind.wrap .i64 ((D.len (D.fld m 1)) + (1 : Int))))] fun r7 =>
 (wpF Try.prog A n 18 [(rs r7 1), (D.int (4 : Int))] fun r8 =>
 (True ∧ (wpF Try.prog A n 59 [m, (D.slc ([] : List D)), (D.agg [(D.fld (rs r1 0) 0), (D.fld (rs r1 0) 1), (D.fld (rs r1 0) 2), (D.fld (rs r1 0) 3), (D.slc [(D.agg [(rs r7 0), (D.int (IntKind.wrap .i64 ((1 : Int) + (D.i (rs r8 0)))))])]), (D.fld (rs r1 0) 5)])] fun r9 =>
 (wpF Try.prog A n 18 [(rs r8 1), (D.int (3 : Int))] fun r10 =>
 (wpF Try.prog A n 18 [(rs r10 1), (D.int (8 : Int))] fun r11 =>
 ((7 : Int) ≠ (0 : Int) ∧ (True ∧ (Q [(D.agg [(D.slc [(D.agg [(D.fld (rs r1 0) 0), (D.fld (rs r1 0) 1), (D.fld (rs r1 0) 2), (D.fld (rs r1 0) 3), (D.slc [(D.agg [(rs r7 0), (D.int (IntKind.wrap .i64 ((1 : Int) + (D.i (rs r8 0)))))])]), (D.fld (rs r1 0) 5)])]), (D.int (IntKind.wrap .i64 ((IntKind.wrap .i64 ((D.i (rs r9 0)) + (D.i (rs r10 0)))) - (IntKind.wrap .i64 (Int.tdiv (D.i (rs r11 0)) (7 : Int))))))]), (rs r11 1)])))))))))
 (wpF Try.prog A n 59 [m, (D.slc ([] : List D)), (rs r1 0)] fun r12 =>
 (wpF Try.prog A n 18 [(rs r2 1), (D.int (3 : Int))] fun r13 =>
 (wpF Try.prog A n 18 [(rs r13 1), (D.int (8 : Int))] fun r14 =>
 ((7 : Int) ≠ (0 : Int) ∧ (True ∧ (Q [(D.agg [(D.slc [(rs r1 0)]), (D.int (IntKind.wrap .i64 ((IntKind.wrap .i64 ((D.i (rs r12 0)) + (D.i (rs r13 0)))) - (IntKind.wrap .i64 (Int.tdiv (D.i (rs r14 0)) (7 : Int))))))]), (rs r14 1)])))))))
 (wpF Try.prog A n 59 [m, (D.slc ([] : List D)), (rs r1 0)] fun r15 =>
 (wpF Try.prog A n 18 [(rs r2 1), (D.int (3 : Int))] fun r16 =>
 (wpF Try.prog A n 18 [(rs r16 1), (D.int (8 : Int))] fun r17 =>
 ((7 : Int) ≠ (0 : Int) ∧ (True ∧ (Q [(D.agg [(D.slc [(rs r1 0)]), (D.int (IntKind.wrap .i64 ((IntKind.wrap .i64 ((D.i (rs r15 0)) + (D.i (rs r16 0)))) - (IntKind.wrap .i64 (Int.tdiv (D.i (rs r17 0)) (7 : Int))))))]), (rs r17 1)])))))))))))

section
variable {n : Nat} {Q : List D → Prop}

theorem leafB_bn {s : List D} {den t : D} (h : LF s) : BN 1000 (.agg [.slc [leafC s den], t]) :=
  bn_agg (by simp) fun c hc => by rw [List.mem_singleton.mp hc]; exact h.cn

theorem base_wp {d m : D} {c : Nat} {rows goal : List D} {k : Int} {box : List Int} (hm : SM m c rows goal k box) (hd : Dk d) (hn : 1100300 ≤ n) (h : ∀ b d', BN 1000 b → Dk d' → Q [b, d']) : baseW n d m Q := by
  have hR := hm.few
  have hc := hm.cols
  have lf := corn_lf (R := rows.length) hm.goal hm.gfl hc hR
  refine corner_wp hm (by omega) ?_
  rw [rs0]
  have e1 : D.fld m 1 = .slc (rows ++ boxR box c) := by rw [hm.eq]; rfl
  refine ⟨trivial, next_wp (by omega) hd (by omega) (by omega) fun v d1 hv0 hv1 hd1 => ?_⟩
  simp only [rs0, rsS, i_int]
  have fin : ∀ (s : List D) (den : Int) (d : D) (r3 : D), LF s → 0 ≤ den → den ≤ 2 → Dk d → wpF Try.prog A n 59 [m, .slc [], leafC s (.int den)] fun r4 =>
      wpF Try.prog A n 18 [d, (D.int (3 : Int))] fun r5 =>
      wpF Try.prog A n 18 [(rs r5 1), (D.int (8 : Int))] fun r6 =>
      ((7 : Int) ≠ (0 : Int) ∧ (True ∧ (Q [(D.agg [(D.slc [leafC s (.int den)]), (D.int (IntKind.wrap .i64 ((IntKind.wrap .i64 ((D.i (rs r4 0)) + (D.i (rs r5 0)))) - (IntKind.wrap .i64 (Int.tdiv (D.i (rs r6 0)) (7 : Int))))))]), (rs r6 1)]))) := by
    intro s den d r3 hs h0 h1 hd
    refine leafv'_wp (hs.lc hm h0 (by omega)) (by omega) ?_
    refine next_wp (by omega) hd (by omega) (by omega) fun v d1 hv0 hv1 hd1 => ?_
    simp only [rs0, rsS]
    refine next_wp (by omega) hd1 (by omega) (by omega) fun w d2 hw0 hw1 hd2 => ?_
    simp only [rs0, rsS]
    exact ⟨by omega, trivial, h _ _ (leafB_bn hs) hd2⟩
  refine cEq (fun _ => ?_) fun _ => cEq (fun _ => ?_) fun _ => fin _ 1 _ .und lf (by omega) (by omega) hd1
  · refine next_wp (by omega) hd1 (by omega) (by omega) fun w d2 hw0 hw1 hd2 => ?_
    simp only [rs0, rsS]
    exact ⟨trivial, fin _ w _ .und lf hw0 (by omega) hd2⟩
  · have e2 : D.len (D.fld m 1) = ((rows.length + c : Nat) : Int) := by rw [e1, len_slc, hm.rlen]
    refine cLt (fun _ => ?_) fun _ => fin _ 1 _ .und lf (by omega) (by omega) hd1
    rw [e2, wrap_id (by omega) (by omega)]
    refine next_wp (by omega) hd1 (by omega) (by omega) fun o d2 ho0 ho1 hd2 => ?_
    simp only [rs0, rsS]
    refine next_wp (by omega) hd2 (by omega) (by omega) fun w d3 hw0 hw1 hd3 => ?_
    simp only [rs0, rsS, i_int]
    rw [wrap_id (show -9223372036854775808 ≤ 1 + w by omega) (by omega)]
    exact ⟨trivial, fin [tm o (1 + w)] 1 _ .und (one_lf ho0 (by omega) (by omega) (by omega)) (by omega) (by omega) hd3⟩

/-- A law's bound. -/
theorem lbound_wp {m : D} {c : Nat} {rows goal : List D} {k : Int} {box : List Int} (hm : SM m c rows goal k box) : ∀ (deep : Nat), deep ≤ 3 → ∀ {n : Nat} {Q : List D → Prop} {d : D}, Dk d → 1101000 + deep ≤ n → (∀ b d', BN 1000 b → Dk d' → Q [b, d']) → wpF Try.prog A n 49 [d, m, .int (deep : Int)] Q := by
  have hc := hm.cols
  have e0 : D.fld m 0 = .int (c : Int) := by rw [hm.eq]; rfl
  intro deep
  induction deep with
  | zero =>
    intro _ n Q d hd hn h
    obtain ⟨p, rfl⟩ : ∃ p, n = p + 1 := ⟨n - 1, by omega⟩
    rw [E49]
    refine cEq (fun _ => ?_) fun c => absurd rfl c
    exact base_wp hm hd (by omega) h
  | succ deep ih =>
    intro h3 n Q d hd hn h
    obtain ⟨p, rfl⟩ : ∃ p, n = p + 1 := ⟨n - 1, by omega⟩
    rw [E49]
    have ez : D.i (.int ((deep + 1 : Nat) : Int)) = (deep : Int) + 1 := by rw [i_int]; omega
    rw [ez]
    refine cEq (fun c => by omega) fun _ => ?_
    refine cEq (fun _ => ?_) fun _ => ?_
    · exact base_wp hm hd (by omega) h
    · refine next_wp (by omega) hd (by omega) (by omega) fun v d1 hv0 hv1 hd1 => ?_
      simp only [rs0, rsS]
      refine cEq (fun _ => ?_) fun _ => ?_
      · exact base_wp hm hd1 (by omega) h
      · rw [e0]
        refine tterms_wp hd1 (by omega) (by omega) (by omega) fun s d2 hs hsf hd2 => ?_
        simp only [rs0, rsS]
        refine next_wp (by omega) hd2 (by omega) (by omega) fun a d3 ha0 ha1 hd3 => ?_
        simp only [rs0, rsS, i_int]
        rw [show (deep : Int) + 1 - 1 = (deep : Int) by omega, wrap_id (show -9223372036854775808 ≤ (deep : Int) by omega) (by omega), wrap_id (show -9223372036854775808 ≤ a - 3 by omega) (by omega)]
        refine ih (by omega) hd3 (by omega) fun x d4 hx hd4 => ?_
        simp only [rs0, rsS]
        refine ih (by omega) hd4 (by omega) fun y d5 hy hd5 => ?_
        simp only [rs0, rsS]
        have hsl := terms_len hs (by omega)
        refine join'_wp hm.mo (by omega) (hx.mono (by omega)) (hy.mono (by omega)) (by omega) ?_
        simp only [rs0]
        refine ⟨trivial, trivial, h _ _ ?_ hd5⟩
        unfold joinV
        cases hj : iEq (joinE m (.slc s) (.int (a - 3)) x y) 0 with
        | true =>
          rw [iEq_iff] at hj
          have f := joinE_ok hj
          exact bnd_app hx hy (by omega) hsf f.2.2.2.2
        | false => exact bn_agg (by simp) fun c hc => by cases hc

/-- A bound, with something changed. -/
theorem spoilt_wp {N : Int} {b d : D} (hb : BN N b) (hN : N ≤ 1100) (hN0 : 10 ≤ N) (hd : Dk d) (hn : 100 ≤ n) (h : ∀ b d', BN (N + 1) b → Dk d' → Q [b, d']) : wpF Try.prog A n 50 [d, b] Q := by
  obtain ⟨p, rfl⟩ : ∃ p, n = p + 1 := ⟨n - 1, by omega⟩
  rw [E50]
  have e : D.fld b 0 = cs b := rfl
  rw [e]
  have hc0 := hb.cases
  have he0 := hb.each
  obtain ⟨L, hL⟩ : ∃ L, D.xs (cs b) = L := ⟨_, rfl⟩
  have hLl : D.len (cs b) = (L.length : Nat) := by rw [← hL]; rfl
  rw [hL] at he0
  rw [hL, len_slc, xs_slc]
  have hsame : ∀ t : D, BN (N + 1) (.agg [.slc L, t]) := fun t => bn_agg (by omega) fun c hc => (he0 c hc).mono (by omega)
  refine ⟨by unfold room; omega, trivial, cEq (fun _ => ⟨trivial, h _ _ (hsame _) hd⟩) fun hne => ?_⟩
  refine next_wp (by omega) hd (by omega) (by omega) fun i d1 hi0 hi1 hd1 => ?_
  simp only [rs0, rsS, i_int]
  refine ⟨by omega, next_wp (by omega) hd1 (by omega) (by omega) fun v d2 hv0 hv1 hd2 => ?_⟩
  simp only [rs0, rsS, i_int]
  have hcn : CN N (L.getD i.toNat .und) := he0 _ (getD_mem (by omega))
  revert hcn
  generalize L.getD i.toNat .und = c
  intro hcn
  have hset : ∀ (x t : D), CN (N + 1) x → BN (N + 1) (.agg [.slc (L.set i.toNat x), t]) := fun x t hx => bn_agg (by rw [List.length_set]; omega) fun c hc => by
    rcases List.mem_or_eq_of_mem_set hc with hc | hc
    · exact (he0 c hc).mono (by omega)
    · rw [hc]; exact hx
  have f1 := hcn.form
  have f2 := hcn.mul
  have f3 := hcn.big
  have f4 := hcn.flf
  have f5 := hcn.flm
  have g1 : D.len (D.fld c 2) = ((D.xs (D.fld c 2)).length : Nat) := rfl
  have g2 : D.len (D.fld c 4) = ((D.xs (D.fld c 4)).length : Nat) := rfl
  refine cEq (fun _ => ?_) fun _ => cEq (fun _ => ?_) fun _ => cEq (fun _ => ?_) fun _ => cEq (fun _ => ?_) fun _ => cEq (fun _ => ?_) fun _ => cEq (fun _ => ?_) fun _ => cEq (fun _ => ?_) fun _ => cEq (fun _ => ?_) fun _ => cEq (fun _ => ?_) fun _ => ?_
  · refine next_wp (by omega) hd2 (by omega) (by omega) fun w d3 hw0 hw1 hd3 => ?_
    simp only [rs0, rsS]
    exact ⟨trivial, trivial, h _ _ (hsame _) hd3⟩
  · rw [wrap_id (by omega) (by omega)]
    refine next_wp (by omega) hd2 (by omega) (by omega) fun w d3 hw0 hw1 hd3 => ?_
    simp only [rs0, rsS]
    exact ⟨trivial, trivial, h _ _ (hset _ _ (cn_agg (by omega) (by omega) f3 f4 f5)) hd3⟩
  · rw [wrap_id (by omega) (by omega)]
    refine next_wp (by omega) hd2 (by omega) (by omega) fun w d3 hw0 hw1 hd3 => ?_
    simp only [rs0, rsS]
    exact ⟨trivial, trivial, h _ _ (hset _ _ (cn_agg (by omega) (by omega) f3 f4 f5)) hd3⟩
  · refine next_wp (by omega) hd2 (by omega) (by omega) fun w d3 hw0 hw1 hd3 => ?_
    simp only [rs0, rsS]
    exact ⟨trivial, trivial, h _ _ (hset _ _ (cn_agg (by omega) (by omega) f3 f4 f5)) hd3⟩
  · refine next_wp (by omega) hd2 (by omega) (by omega) fun w d3 hw0 hw1 hd3 => ?_
    simp only [rs0, rsS, i_int]
    exact ⟨⟨hw0, by rw [len_slc]; exact hw1⟩, trivial, trivial, h _ _ (hset _ _ (cn_agg (by omega) (by omega) f3 f4 f5)) hd3⟩
  · refine ⟨by unfold room; omega, next_wp (by omega) hd2 (by omega) (by omega) fun w d3 hw0 hw1 hd3 => ?_⟩
    simp only [rs0, rsS]
    refine next_wp (by omega) hd3 (by omega) (by omega) fun z d4 hz0 hz1 hd4 => ?_
    simp only [rs0, rsS, i_int]
    refine ⟨⟨hz0, by rw [len_slc]; exact hz1⟩, by unfold room; rw [List.length_singleton]; omega, trivial, trivial, h _ _ (hset _ _ (cn_agg (by omega) ?_ ?_ f4 ?_)) hd4⟩
    · rw [len_slc, List.length_append, List.length_singleton]; omega
    · intro x hx
      rw [xs_slc] at hx
      rcases List.mem_append.mp hx with hx | hx
      · exact f3 x hx
      · rw [List.mem_singleton.mp hx, fld0, i_int]; omega
    · rw [xs_slc]
      refine fl_snoc f5 ?_
      have e : ∃ v, List.getD (D.xs (D.slc [(D.int (1 : Int)), (D.int (0 : Int)), (D.int (1073741824 : Int)), (D.int (1073741825 : Int)), (D.int (-1 : Int))])) z.toNat D.und = .int v := by
        obtain ⟨j, hj⟩ : ∃ j, z.toNat = j := ⟨_, rfl⟩
        rw [hj]
        have : j < 5 := by omega
        match j, this with
        | 0, _ => exact ⟨_, rfl⟩
        | 1, _ => exact ⟨_, rfl⟩
        | 2, _ => exact ⟨_, rfl⟩
        | 3, _ => exact ⟨_, rfl⟩
        | 4, _ => exact ⟨_, rfl⟩
      obtain ⟨v, e⟩ := e
      rw [e]
      exact ⟨_, _, rfl⟩
  · refine ⟨by unfold room; omega, next_wp (by omega) hd2 (by omega) (by omega) fun w d3 hw0 hw1 hd3 => ?_⟩
    simp only [rs0, rsS]
    refine ⟨by unfold room; rw [List.length_singleton]; omega, trivial, trivial, h _ _ (hset _ _ (cn_agg ?_ (by omega) f3 ?_ f5)) hd3⟩
    · rw [len_slc, List.length_append, List.length_singleton]; omega
    · rw [xs_slc]
      exact fl_snoc f4 ⟨_, _, rfl⟩
  · rw [wrap_id (by omega) (by omega)]
    refine ⟨by omega, trivial, trivial, h _ _ (bn_agg ?_ fun c hc => ?_) hd2⟩
    · rw [List.length_drop, List.length_take]; omega
    · exact (he0 c (List.mem_of_mem_take (List.mem_of_mem_drop hc))).mono (by omega)
  · refine ⟨by unfold room; rw [List.length_singleton]; omega, trivial, trivial, h _ _ (bn_agg ?_ fun c hc => ?_) hd2⟩
    · rw [List.length_append, List.length_singleton]; omega
    · rcases List.mem_append.mp hc with hc | hc
      · exact (he0 c hc).mono (by omega)
      · rw [List.mem_singleton.mp hc]
        exact cn_agg (by rw [len_slc, List.length_nil]; omega) (by rw [len_slc, List.length_nil]; omega) (fun x hx => by cases hx) (fun x hx => by cases hx) fun x hx => by cases hx
  · exact ⟨trivial, h _ _ (hsame _) hd2⟩

/-- The example. -/
def halfM : D := .agg [.int 1, .slc [.agg [.slc [.agg [.int 0, .int 2]], .int 3]], .slc [.agg [.int 0, .int 1]], .int 0]
def halfB (t : Int) : D := .agg [.slc [.agg [.int (-1), .int (-1), .slc [], .int 0, .slc [.agg [.int 0, .int 1]], .int 2]], .int t]
theorem half_mo : Mo halfM := by
  refine ⟨by show (1 : Int) ≤ _; omega, fun i hi => ?_, by show (1 : Int) ≤ _; omega⟩
  have hi : (i : Int) < 1 := hi
  have e : i = 0 := by omega
  subst e
  show (1 : Int) ≤ _
  omega
theorem half_bn (t : Int) : BN 10 (halfB t) := by
  refine bn_agg (by simp) fun c hc => ?_
  rw [List.mem_singleton.mp hc]
  refine cn_agg (by rw [len_slc, List.length_nil]; omega) (by rw [len_slc, List.length_singleton]; omega) (fun x hx => ?_) (fun x hx => by cases hx) fun x hx => ?_
  · rw [xs_slc] at hx
    rw [List.mem_singleton.mp hx, fld0, i_int]
    omega
  · rw [xs_slc] at hx
    rw [List.mem_singleton.mp hx]
    exact ⟨_, _, rfl⟩
theorem half_good : chkV halfM (halfB 1) = 0 := by decide
theorem half_bad : chkV halfM (halfB 0) = 37 := by decide
theorem half_one : casesN (halfB 1) = 1 := by decide

theorem awake_wp (hn : 1100900 ≤ n) (h : Q [.bool true]) : wpF Try.prog A n 47 [] Q := by
  obtain ⟨p, rfl⟩ : ∃ p, n = p + 2 := ⟨n - 2, by omega⟩
  have e : wpF Try.prog A (p + 2) 47 [] Q = _ := E47 (p + 1) Q
  rw [e, E88]
  refine ⟨trivial, trivial, trivial, trivial, trivial, trivial, trivial, ?_⟩
  simp only [rs0, rsS]
  refine check_wp (m := halfM) (b := halfB 1) half_mo ((half_bn 1).bx (by omega)) (by omega) ?_
  rw [half_good]
  simp only [rs0, i_int]
  refine cEq (fun _ => ?_) fun c => absurd rfl c
  refine check_wp (m := halfM) (b := halfB 0) half_mo ((half_bn 0).bx (by omega)) (by omega) ?_
  rw [half_bad]
  simp only [rs0, i_int]
  refine cEq (fun _ => ?_) fun c => absurd rfl c
  refine cases_wp (b := halfB 1) (by show (1 : Int) ≤ _; omega) (by omega) ?_
  rw [half_one]
  exact h
end
end Go.Ab

/- Bounds and models that are arguments; the law of checks. -/
namespace Go.Ab
open Go.Proofs
attribute [local irreducible] wpF

def TermOk (x : D) : Prop := ∃ a b : Int, x = .agg [.int a, .int b] ∧ inI a ∧ inI b
def TermsOk (N : Nat) (l : List D) : Prop := l.length ≤ N ∧ ∀ x ∈ l, TermOk x
def CaseOk (N : Nat) (c : D) : Prop := ∃ (l r t d : Int) (f rs : List D), c = .agg [.int l, .int r, .slc f, .int t, .slc rs, .int d] ∧ TermsOk N f ∧ TermsOk N rs
def BoundOk (N : Nat) (b : D) : Prop := ∃ (l : List D) (t : Int), b = .agg [.slc l, .int t] ∧ l.length ≤ N ∧ ∀ c ∈ l, CaseOk N c
def RowD (N : Nat) (x : D) : Prop := ∃ (l : List D) (t : Int), x = .agg [.slc l, .int t] ∧ TermsOk N l
def ModelOk (N : Nat) (m : D) : Prop := ∃ (c k : Int) (rows goal : List D), m = .agg [.int c, .slc rows, .slc goal, .int k] ∧ rows.length ≤ N ∧ (∀ x ∈ rows, RowD N x) ∧ TermsOk N goal

theorem tk3 : tk Try.prog 3 = .int .i64 := by kernel_rfl
theorem tk138 : tk Try.prog 138 = .struct [(3, 0), (3, 1)] := by kernel_rfl
theorem tk80 : tk Try.prog 80 = .slc 138 := by kernel_rfl
theorem tk100 : tk Try.prog 100 = .struct [(80, 0), (3, 1)] := by kernel_rfl
theorem tk79 : tk Try.prog 79 = .slc 100 := by kernel_rfl
theorem tk82 : tk Try.prog 82 = .struct [(3, 0), (79, 1), (80, 2), (3, 3)] := by kernel_rfl
theorem tk94 : tk Try.prog 94 = .struct [(3, 0), (3, 1), (80, 2), (3, 3), (80, 4), (3, 5)] := by kernel_rfl
theorem tk76 : tk Try.prog 76 = .slc 94 := by kernel_rfl
theorem tk78 : tk Try.prog 78 = .struct [(76, 0), (3, 1)] := by kernel_rfl

theorem raw_term {x : D} {b : Nat} (h : Raw Try.prog 138 x b) : TermOk x := by
  obtain ⟨ds, rfl, hl, hf⟩ := h.fields tk138
  match ds, hl with
  | [p, q], _ =>
    obtain ⟨a, ha, h1⟩ := (hf 0 3 0 rfl).num tk3
    obtain ⟨c, hc, h2⟩ := (hf 1 3 1 rfl).num tk3
    have ha : p = .int a := ha
    have hc : q = .int c := hc
    exact ⟨a, c, by rw [ha, hc], h1, h2⟩
theorem raw_terms {x : D} {b : Nat} (h : Raw Try.prog 80 x b) : ∃ l, x = .slc l ∧ TermsOk b l := by
  obtain ⟨l, rfl, hl, hf⟩ := h.slice tk80
  exact ⟨l, rfl, hl, fun y hy => raw_term (hf y hy)⟩
theorem raw_row {x : D} {b : Nat} (h : Raw Try.prog 100 x b) : RowD b x := by
  obtain ⟨ds, rfl, hl, hf⟩ := h.fields tk100
  match ds, hl with
  | [p, q], _ =>
    obtain ⟨l, ha, h1⟩ := raw_terms (hf 0 80 0 rfl)
    obtain ⟨c, hc, h2⟩ := (hf 1 3 1 rfl).num tk3
    have ha : p = .slc l := ha
    have hc : q = .int c := hc
    exact ⟨l, c, by rw [ha, hc], h1⟩
theorem raw_model {x : D} {b : Nat} (h : Raw Try.prog 82 x b) : ModelOk b x := by
  obtain ⟨ds, rfl, hl, hf⟩ := h.fields tk82
  match ds, hl with
  | [p, q, r, s], _ =>
    obtain ⟨c, hp, _⟩ := (hf 0 3 0 rfl).num tk3
    obtain ⟨rows, hq, h1, h2⟩ := (hf 1 79 1 rfl).slice tk79
    obtain ⟨goal, hr, h3⟩ := raw_terms (hf 2 80 2 rfl)
    obtain ⟨k, hs, _⟩ := (hf 3 3 3 rfl).num tk3
    have hp : p = .int c := hp
    have hq : q = .slc rows := hq
    have hr : r = .slc goal := hr
    have hs : s = .int k := hs
    exact ⟨c, k, rows, goal, by rw [hp, hq, hr, hs], h1, fun x hx => raw_row (h2 x hx), h3⟩
theorem raw_case {x : D} {b : Nat} (h : Raw Try.prog 94 x b) : CaseOk b x := by
  obtain ⟨ds, rfl, hl, hf⟩ := h.fields tk94
  match ds, hl with
  | [p, q, r, s, t, u], _ =>
    obtain ⟨l, hp, _⟩ := (hf 0 3 0 rfl).num tk3
    obtain ⟨rr, hq, _⟩ := (hf 1 3 1 rfl).num tk3
    obtain ⟨f, hr, h1⟩ := raw_terms (hf 2 80 2 rfl)
    obtain ⟨a, hs, _⟩ := (hf 3 3 3 rfl).num tk3
    obtain ⟨rs, ht, h2⟩ := raw_terms (hf 4 80 4 rfl)
    obtain ⟨d, hu, _⟩ := (hf 5 3 5 rfl).num tk3
    have hp : p = .int l := hp
    have hq : q = .int rr := hq
    have hr : r = .slc f := hr
    have hs : s = .int a := hs
    have ht : t = .slc rs := ht
    have hu : u = .int d := hu
    exact ⟨l, rr, a, d, f, rs, by rw [hp, hq, hr, hs, ht, hu], h1, h2⟩
theorem raw_bound {x : D} {b : Nat} (h : Raw Try.prog 78 x b) : BoundOk b x := by
  obtain ⟨ds, rfl, hl, hf⟩ := h.fields tk78
  match ds, hl with
  | [p, q], _ =>
    obtain ⟨l, ha, h1, h2⟩ := (hf 0 76 0 rfl).slice tk76
    obtain ⟨c, hc, _⟩ := (hf 1 3 1 rfl).num tk3
    have ha : p = .slc l := ha
    have hc : q = .int c := hc
    exact ⟨l, c, by rw [ha, hc], h1, fun y hy => raw_case (h2 y hy)⟩

theorem TermOk.of {x : D} (h : TermOk x) : D.i (D.fld x 0) ≤ 9223372036854775807 := by
  obtain ⟨a, b, rfl, h1, _⟩ := h
  exact h1.2
theorem TermOk.fl {x : D} (h : TermOk x) : Fl x := by
  obtain ⟨a, b, rfl, _⟩ := h
  exact ⟨a, b, rfl⟩
theorem BoundOk.bn {N : Nat} {b : D} (h : BoundOk N b) : BN (N : Int) b := by
  obtain ⟨l, t, rfl, h1, h2⟩ := h
  refine bn_agg (by omega) fun c hc => ?_
  obtain ⟨p, q, t, d, f, r, rfl, hf, hr⟩ := h2 c hc
  have := hf.1
  have := hr.1
  exact cn_agg (by rw [len_slc]; omega) (by rw [len_slc]; omega) (fun x hx => (hr.2 x hx).of) (fun x hx => (hf.2 x hx).fl) fun x hx => (hr.2 x hx).fl
theorem ModelOk.mo {N : Nat} {m : D} (h : ModelOk N m) (hN : N ≤ 1100000) : Mo m := by
  obtain ⟨c, k, rows, goal, rfl, h1, h2, h3⟩ := h
  refine ⟨by show D.len (.slc rows) ≤ _; rw [len_slc]; omega, fun i hi => ?_, by have := h3.1; show D.len (.slc goal) ≤ _; rw [len_slc]; omega⟩
  have hm : D.el (.slc rows) (i : Int) ∈ rows := el_mem (d := .slc rows) hi
  obtain ⟨l, t, e, hl⟩ := h2 _ hm
  show D.len (D.fld (D.el (.slc rows) (i : Int)) 0) ≤ _
  rw [e]
  have := hl.1
  show D.len (.slc l) ≤ _
  rw [len_slc]; omega

section
variable {n : Nat}

theorem checks_wp {raw rm : D} {l : List Int} (hr : BN 1100000 raw) (hm : Mo rm) (hl : l.length ≤ 2000000) (hn : 1102000 ≤ n) : wpF Try.prog A n 10 [raw, rm, lst l] (fun r => r = [.bool true]) := by
  obtain ⟨p, rfl⟩ : ∃ p, n = p + 1 := ⟨n - 1, by omega⟩
  rw [E10]
  refine cLt (fun _ => awake_wp (by omega) rfl) fun _ => cLt (fun _ => awake_wp (by omega) rfl) fun _ => ?_
  refine new_wp (by omega) hl fun d hd => ?_
  rw [rs0]
  refine boxed_wp hd (by omega) fun m d1 c rows goal k box hs hd1 => ?_
  simp only [rs0, rsS]
  refine ⟨trivial, lbound_wp hs 3 (by omega) hd1 (by omega) fun b1 d2 hb1 hd2 => ?_⟩
  simp only [rs0, rsS]
  refine ⟨trivial, spoilt_wp hb1 (by omega) (by omega) hd2 (by omega) fun b2 d3 hb2 hd3 => ?_⟩
  simp only [rs0, rsS]
  refine spoilt_wp hb1 (by omega) (by omega) hd3 (by omega) fun b3 d4 hb3 hd4 => ?_
  simp only [rs0, rsS]
  refine spoilt_wp hb3 (by omega) (by omega) hd4 (by omega) fun b4 d5 hb4 hd5 => ?_
  simp only [rs0]
  have hall : ∀ x ∈ [b1, b2, b4, raw], BN 1100000 x := fun x hx => by
    simp only [List.mem_cons, List.not_mem_nil, or_false] at hx
    rcases hx with rfl | rfl | rfl | rfl
    · exact hb1.mono (by omega)
    · exact hb2.mono (by omega)
    · exact hb4.mono (by omega)
    · exact hr
  revert hall
  have h4 : [b1, b2, b4, raw].length = 4 := rfl
  revert h4
  generalize [b1, b2, b4, raw] = xs
  intro h4 hall
  rw [len_slc, h4]
  refine all_loop (L := fun m0 t => L10_7 p m0 (.int ((4 : Nat) : Int)) t rm m (.slc xs) (fun r => r = [.bool true])) (bad := fun _ => false) (N := 4) (F := False) (by omega) (fun m0 t ht hw hb hg => ?_) (fun hb => by rw [anyB_false fun _ _ => rfl] at hb; cases hb) (fun hg m0 => ?_) p 0 (by omega) (by omega) (by omega)
  · rw [L10_7_eq]
    simp only [i_int, xs_slc, len_slc, toNat_nat]
    rw [hw, h4]
    have hx := hall _ (getD_mem (d := .und) (show t < xs.length by omega))
    revert hx
    generalize xs.getD t D.und = x
    intro hx
    have hbx := hx.bx (by omega)
    refine cLt (fun _ => ⟨by omega, trivial, ?_⟩) fun c => by omega
    refine bound_wp hs.mo hbx.o (by omega) (bound'_wp hs.mo hbx.o (by omega) ?_)
    rw [rs0, rs0, b_bool, b_bool, hs.mv, Bool.true_and]
    refine cNot (fun c => by rw [bEq_iff.mpr rfl] at c; cases c) fun _ => ?_
    refine check_wp hs.mo hbx (by omega) (check'_wp hs.mo hbx (by omega) ?_)
    refine cNe (fun c => absurd rfl c) fun _ => ?_
    refine cases_wp hbx.o.cases (by omega) (cases'_wp hbx.o.cases (by omega) ?_)
    refine cNe (fun c => absurd rfl c) fun _ => ?_
    refine check_wp hm hbx (by omega) (check'_wp hm hbx (by omega) ?_)
    refine cNe (fun c => absurd rfl c) fun _ => hg rfl
  · rw [L10_7_eq]
    simp only [i_int]
    refine cLt (fun c => by omega) fun _ => awake_wp (by omega) rfl
end
end Go.Ab

/- Splits of two bounds: both answers are one; the law of joins. -/
namespace Go.Ab
open Go.Proofs
attribute [local irreducible] wpF

def pre34 (f : D → D) (l : List D) (i : Nat) : List D := (l.take i).map f ++ l.drop i
theorem pre_len (f : D → D) (l : List D) (i : Nat) : (pre34 f l i).length = l.length := by
  simp only [pre34, List.length_append, List.length_map, List.length_take, List.length_drop]; omega
theorem drop_cons {l : List D} {i : Nat} (h : i < l.length) : l.drop i = l.getD i .und :: l.drop (i + 1) := by
  rw [List.drop_eq_getElem_cons h]
  simp [List.getD, h]
theorem pre_get {f : D → D} {l : List D} {i : Nat} (h : i < l.length) : (pre34 f l i).getD i .und = l.getD i .und := by
  unfold pre34
  simp only [List.getD]
  rw [List.getElem?_append_right (by rw [List.length_map, List.length_take]; omega)]
  simp [List.length_take, Nat.min_eq_left (Nat.le_of_lt h)]
theorem pre_set {f : D → D} {l : List D} {i : Nat} (h : i < l.length) : (pre34 f l i).set i (f (l.getD i .und)) = pre34 f l (i + 1) := by
  unfold pre34
  have e : ((l.take i).map f).length = i := by rw [List.length_map, List.length_take]; omega
  rw [drop_cons h, map_take_snoc h, List.set_append, if_neg (by omega), e, Nat.sub_self, List.set_cons_zero, List.append_assoc]
  rfl
theorem pre_same {f : D → D} {l : List D} {i : Nat} (h : i < l.length) (hf : f (l.getD i .und) = l.getD i .und) : pre34 f l (i + 1) = pre34 f l i := by
  unfold pre34
  rw [drop_cons h, map_take_snoc h, hf, List.append_assoc]
  rfl
theorem pre_zero (f : D → D) (l : List D) : pre34 f l 0 = l := rfl
theorem pre_all (f : D → D) (l : List D) : pre34 f l l.length = l.map f := by simp [pre34]

section
variable {n : Nat} {Q : List D → Prop}

theorem clone_wp {d : D} (hl : D.len d ≤ 1100000) (hn : 1 ≤ n) (h : Q [.slc (D.xs d)]) : wpF Try.prog A n 105 [d] Q := by
  obtain ⟨p, rfl⟩ : ∃ p, n = p + 1 := ⟨n - 1, by omega⟩
  rw [E105]
  have e : D.len d = ((D.xs d).length : Nat) := rfl
  intro b hb
  refine cnd (fun c => ?_) fun _ => ⟨?_, h⟩
  · have h0 := hb c
    have : D.xs d = [] := List.length_eq_zero_iff.mp (by omega)
    rw [this] at h
    exact h
  · unfold room; rw [List.length_nil]; omega

theorem shifted_wp {d m : D} {b : Int} (hl : (D.xs d).length ≤ 1000) (hc : ∀ c ∈ D.xs d, CN 1100000 c) (hs : ∀ c ∈ D.xs d, iEq (cL c) (-1) = false → D.xs (D.fld c 4) = []) (hn : 1100200 ≤ n) (h : Q [.slc ((D.xs d).map (mvC b (D.len (D.fld m 1))))]) : wpF Try.prog A n 106 [m, d, .int b] Q := by
  obtain ⟨p, rfl⟩ : ∃ p, n = p + 1 := ⟨n - 1, by omega⟩
  rw [E106]
  obtain ⟨l, hlist⟩ : ∃ l, D.xs d = l := ⟨_, rfl⟩
  have hdl : D.len d = (l.length : Nat) := by rw [← hlist]; rfl
  have hde : ∀ k : Nat, D.el d (k : Int) = l.getD k .und := fun k => by rw [← hlist]; simp [D.el]
  rw [hlist] at hl hc h hs
  rw [hdl]
  obtain ⟨R, hR⟩ : ∃ R, D.len (D.fld m 1) = R := ⟨_, rfl⟩
  rw [hR] at h
  have key : ∀ (m0 k : Nat), k ≤ l.length → l.length - k < m0 → L106_3 p m0 (.int b) d (.int (l.length : Int)) (.int (k : Int)) m (.slc ((l.take k).map (mvC b R))) Q := by
    intro m0
    induction m0 with
    | zero => intro k _ h; omega
    | succ m0 ih =>
      intro k h1 h2
      rw [L106_3_eq]
      simp only [i_int]
      rw [hdl, hde]
      refine cLt (fun hk => ⟨by omega, trivial, ?_⟩) fun hk => ?_
      · have hmem : l.getD k .und ∈ l := getD_mem (d := .und) (show k < l.length by omega)
        have hN := hc _ hmem
        have hS := hs _ hmem
        have ih := ih (k + 1) (by omega) (by omega)
        rw [map_take_snoc (by omega)] at ih
        revert ih hN hS
        generalize l.getD k .und = c
        intro hN hS ih
        have hM3 := hN.mul
        have hF3 := hN.form
        have hlt : ((l.take k).map (mvC b R)).length ≤ 1000 := by rw [List.length_map]; have := List.length_take_le k l; omega
        have hwk : IntKind.wrap .i64 ((k : Int) + 1) = ((k + 1 : Nat) : Int) := by rw [wrap_id (by omega) (by omega)]; omega
        refine clone_wp hF3 (by omega) (clone_wp hM3 (by omega) ⟨trivial, trivial, leafQ_wp (by omega) ?_⟩)
        simp only [rs0, b_bool, xs_slc]
        have eL : cL (.agg [D.fld c 0, D.fld c 1, .slc (D.xs (D.fld c 2)), D.fld c 3, .slc (D.xs (D.fld c 4)), D.fld c 5]) = cL c := rfl
        rw [eL, hwk]
        refine cnd (fun c1 => ?_) fun c1 => ?_
        · obtain ⟨r, hr⟩ : ∃ r, D.xs (D.fld c 4) = r := ⟨_, rfl⟩
          have hrl : D.len (D.fld c 4) = (r.length : Nat) := by rw [← hr]; rfl
          unfold mvC at ih
          rw [c1, cond_true, cond_true, hr] at ih
          rw [hr, len_slc]
          have inner : ∀ (m1 t : Nat), t ≤ r.length → r.length - t < m1 →
              L106_8 p m0 m1 (.int b) d (.int (l.length : Int)) (.int (k : Int)) (.int (r.length : Int)) (.int (t : Int)) m (.slc ((l.take k).map (mvC b R))) (.agg [D.fld c 0, D.fld c 1, .slc (D.xs (D.fld c 2)), D.fld c 3, .slc (pre34 (shT R) r t), D.fld c 5]) Q := by
            intro m1
            induction m1 with
            | zero => intro t _ h; omega
            | succ m1 ihm =>
              intro t h3 h4
              rw [L106_8_eq]
              simp only [i_int, xs_slc, fld0, fldS, len_slc, toNat_nat]
              rw [hR, hwk, pre_len]
              refine cLt (fun ht => ⟨by omega, ?_⟩) fun ht => ?_
              · have ihm := ihm (t + 1) (by omega) (by omega)
                rw [wrap_id (by omega) (by omega), show ((t : Int) + 1) = ((t + 1 : Nat) : Int) by omega, pre_get (by omega)]
                refine cnd (fun c2 => ⟨by omega, by omega, trivial, ?_⟩) fun c2 => ?_
                · have e : shT R (r.getD t .und) = .agg [.int (IntKind.wrap .i64 (D.i (D.fld (r.getD t .und) 0) + 1)), D.fld (r.getD t .und) 1] := by unfold shT; rw [c2]; rfl
                  rw [← e, pre_set (by omega)]
                  exact ihm
                · have e : shT R (r.getD t .und) = r.getD t .und := by unfold shT; rw [c2]; rfl
                  rw [pre_same (by omega) e] at ihm
                  exact ihm
              · have e : t = r.length := by omega
                subst e
                rw [pre_all]
                refine ⟨by unfold room; rw [List.length_singleton]; omega, ?_⟩
                unfold mvC
                exact ih
          have := inner p 0 (by omega) (by omega)
          rw [pre_zero] at this
          exact this
        · unfold mvC at ih
          rw [c1, cond_false, cond_false, hS c1] at ih
          rw [hS c1]
          refine ⟨trivial, trivial, by unfold room; rw [List.length_singleton]; omega, ?_⟩
          unfold mvC
          exact ih
      · have e : k = l.length := by omega
        subst e
        rw [List.take_length]
        exact h
  exact key p 0 (by omega) (by omega)

theorem split_norows {m b : D} (h : bndB m b = true) : ∀ c ∈ D.xs (cs b), iEq (cL c) (-1) = false → D.xs (D.fld c 4) = [] := by
  intro c hc hL
  obtain ⟨k, hk, e⟩ := List.mem_iff_getElem.mp hc
  have hl : D.len (cs b) = ((D.xs (cs b)).length : Nat) := rfl
  have ec : cAs b (k : Nat) = c := by
    show D.el (cs b) (k : Int) = c
    simp [D.el, List.getD, hk, e]
  rcases bnd_case h (show (k : Int) < D.len (cs b) by omega) with ⟨c1, _⟩ | ⟨_, c2, _⟩
  · rw [ec, hL] at c1; cases c1
  · have f := split_facts c2
    rw [ec] at f
    have e2 : D.len (D.fld c 4) = ((D.xs (D.fld c 4)).length : Nat) := rfl
    exact List.length_eq_zero_iff.mp (by omega)

theorem join_wp {m form x y : D} {at_ : Int} (hm : Mo m) (hf : D.len form ≤ 1100000) (hx : BN 1100000 x) (hy : BN 1100000 y) (hn : 1100700 ≤ n) (h : Q [joinV m form (.int at_) x y, .int (joinE m form (.int at_) x y)]) : wpF Try.prog A n 61 [m, form, .int at_, x, y] Q := by
  obtain ⟨p, rfl⟩ : ∃ p, n = p + 1 := ⟨n - 1, by omega⟩
  rw [E61]
  unfold joinV at h
  unfold joinE at h
  refine model_wp hm (by omega) ?_
  rw [rs0, b_bool]
  refine cNot (fun c => ⟨trivial, by rw [c] at h; exact h⟩) fun c1 => ?_
  rw [c1, cond_true] at h
  refine form_wp hf (by omega) ?_
  rw [rs0, b_bool, i_int]
  refine cNot (fun c => ⟨trivial, by rw [i_int, c] at h; exact h⟩) fun c2 => ?_
  rw [i_int, c2, cond_true] at h
  refine bound_wp hm (hx.bx (by omega)).o (by omega) ?_
  rw [rs0, b_bool, c1, Bool.true_and]
  refine cNot (fun c => ⟨trivial, by rw [c] at h; exact h⟩) fun c3 => ?_
  rw [c3, cond_true] at h
  refine bound_wp hm (hy.bx (by omega)).o (by omega) ?_
  rw [rs0, b_bool, c1, Bool.true_and]
  refine cNot (fun c => ⟨trivial, by rw [c] at h; exact h⟩) fun c4 => ?_
  rw [c4, cond_true] at h
  have lx := bnd_len c3
  have ly := bnd_len c4
  show cond (iLt 1000 (IntKind.wrap .i64 (IntKind.wrap .i64 (1 + D.len (cs x)) + D.len (cs y)))) _ _
  have ex : D.len (D.fld x 0) = D.len (cs x) := rfl
  rw [ex, wrap_id (show -9223372036854775808 ≤ 1 + D.len (cs x) by omega) (by omega), wrap_id (show -9223372036854775808 ≤ 1 + D.len (cs x) + D.len (cs y) by omega) (by omega)]
  refine cLt (fun c => ⟨trivial, by rw [iLt_iff.mpr c] at h; exact h⟩) fun c5 => ?_
  rw [iLt_not.mpr c5, cond_false] at h
  have h : Q [joinB m form (.int at_) x y, .int 0] := h
  have lx2 : D.len (cs x) = ((D.xs (cs x)).length : Nat) := rfl
  have ly2 : D.len (cs y) = ((D.xs (cs y)).length : Nat) := rfl
  refine clone_wp hf (by omega) ⟨trivial, ?_⟩
  rw [rs0]
  refine shifted_wp (by show (D.xs (cs x)).length ≤ 1000; omega) hx.each (split_norows c3) (by omega) ?_
  simp only [rs0, xs_slc]
  refine ⟨?_, trivial, shifted_wp (by show (D.xs (cs y)).length ≤ 1000; omega) hy.each (split_norows c4) (by omega) ?_⟩
  · unfold room; rw [List.length_map, List.length_singleton]
    show (((1 : Nat) : Int) + ((D.xs (cs x)).length : Int)) * 80 ≤ 70368744177664
    omega
  · simp only [rs0, xs_slc]
    refine ⟨?_, trivial, trivial, h⟩
    unfold room; rw [List.length_map, List.length_append, List.length_singleton, List.length_map]
    show (((1 + (D.xs (cs x)).length : Nat) : Int) + ((D.xs (cs y)).length : Int)) * 80 ≤ 70368744177664
    omega

theorem same_wp {d : D} (hl : D.len d ≤ 1100000) (hf : ∀ x ∈ D.xs d, Fl x) (hn : 1100100 ≤ n) (h : Q [.bool true]) : wpF Try.prog A n 108 [d, d] Q := by
  obtain ⟨p, rfl⟩ : ∃ p, n = p + 1 := ⟨n - 1, by omega⟩
  rw [E108]
  refine cNe (fun c => absurd rfl c) fun _ => ?_
  have hd : D.len d = ((D.xs d).length : Nat) := rfl
  rw [hd]
  refine all_loop (L := fun m0 k => L108_4 p m0 d d (.int ((D.xs d).length : Int)) k Q) (bad := fun _ => false) (N := (D.xs d).length) (F := False) (by omega) (fun m0 k hk hw hb hg => ?_) (fun hb => by rw [anyB_false fun _ _ => rfl] at hb; cases hb) (fun hg m0 => ?_) p 0 (by omega) (by omega) (by omega)
  · rw [L108_4_eq]
    simp only [i_int]
    rw [hw]
    refine cLt (fun _ => ⟨by omega, by omega, ?_⟩) fun c => by omega
    obtain ⟨a, b, e⟩ := hf _ (el_mem (d := d) (i := k) (by omega))
    rw [e]
    have es : D.same 8 (tm a b) (tm a b) = true := by simp [D.same, D.same.sames, tm]
    rw [es]
    exact hg rfl
  · rw [L108_4_eq]
    simp only [i_int]
    exact cLt (fun c => by omega) fun _ => h

theorem sameB_wp {a : D} (ha : BN 1100000 a) (hn : 1100300 ≤ n) (h : Q [.bool true]) : wpF Try.prog A n 63 [a, a] Q := by
  obtain ⟨p, rfl⟩ : ∃ p, n = p + 1 := ⟨n - 1, by omega⟩
  rw [E63]
  refine cNe (fun c => absurd rfl c) fun _ => cNe (fun c => absurd rfl c) fun _ => ?_
  have hd : D.len (D.fld a 0) = ((D.xs (cs a)).length : Nat) := rfl
  have hc := ha.cases
  have hc2 : D.len (cs a) = ((D.xs (cs a)).length : Nat) := rfl
  rw [hd]
  refine all_loop (L := fun m0 k => L63_4 p m0 (D.fld a 0) (.int ((D.xs (cs a)).length : Int)) k a Q) (bad := fun _ => false) (N := (D.xs (cs a)).length) (F := False) (by omega) (fun m0 k hk hw hb hg => ?_) (fun hb => by rw [anyB_false fun _ _ => rfl] at hb; cases hb) (fun hg m0 => ?_) p 0 (by omega) (by omega) (by omega)
  · rw [L63_4_eq]
    simp only [i_int]
    rw [hw, hd]
    have hcn := ha.each _ (el_mem (d := cs a) (i := k) (by omega))
    refine cLt (fun _ => ⟨by omega, trivial, by omega, trivial, ?_⟩) fun c => by omega
    refine cNe (fun c => absurd rfl c) fun _ => cNe (fun c => absurd rfl c) fun _ => cNe (fun c => absurd rfl c) fun _ => cNe (fun c => absurd rfl c) fun _ => ?_
    refine same_wp hcn.form hcn.flf (by omega) ?_
    rw [rs0, b_bool]
    refine same_wp hcn.mul hcn.flm (by omega) ?_
    rw [rs0, b_bool]
    exact hg rfl
  · rw [L63_4_eq]
    simp only [i_int]
    exact cLt (fun c => by omega) fun _ => h

theorem joinV_bn {m form at_ x y : D} (hx : BN 1100000 x) (hy : BN 1100000 y) (hf : D.len form ≤ 1100000) (hff : ∀ x ∈ D.xs form, Fl x) : BN 1100000 (joinV m form at_ x y) := by
  unfold joinV
  cases hj : iEq (joinE m form at_ x y) 0 with
  | true =>
    rw [iEq_iff] at hj
    have f := joinE_ok hj
    exact bnd_app hx hy hf hff (by omega)
  | false => exact bn_agg (by simp) fun c hc => by cases hc

theorem pairs_wp {m d : D} {s xs : List D} {a : Int} (hm : Mo m) (hs : s.length ≤ 100) (hsf : ∀ x ∈ s, Fl x) (hd : Dk d) (h3 : xs.length = 3) (hx : ∀ q ∈ xs, ∃ x y, q = .agg [x, y] ∧ BN 1100000 x ∧ BN 1100000 y) (hn : 1102000 ≤ n) :
    L13_10 n n (.int a) (.int (3 : Int)) (.int 0) m d (.slc s) (.slc xs) (fun r => r = [.bool true]) := by
  have key : ∀ (m0 k : Nat) (d : D), k ≤ 3 → 3 - k < m0 → Dk d → L13_10 n m0 (.int a) (.int (3 : Int)) (.int (k : Int)) m d (.slc s) (.slc xs) (fun r => r = [.bool true]) := by
    intro m0
    induction m0 with
    | zero => intro k d _ h; omega
    | succ m0 ih =>
      intro k d h1 h2 hd
      rw [L13_10_eq]
      simp only [i_int, len_slc, xs_slc, toNat_nat]
      refine cLt (fun hk => ⟨by omega, trivial, ?_⟩) fun hk => awake_wp (by omega) rfl
      refine next_wp (by omega) hd (by omega) (by omega) fun v d1 hv0 hv1 hd1 => ?_
      simp only [rs0, rsS, i_int]
      obtain ⟨x, y, e, hbx, hby⟩ := hx _ (getD_mem (d := .und) (show k < xs.length by omega))
      rw [e]
      have h2l : [D.int a, D.int (IntKind.wrap .i64 (v - 4))].length = 2 := rfl
      have hall : ∀ z ∈ [D.int a, D.int (IntKind.wrap .i64 (v - 4))], ∃ t, z = D.int t := fun z hz => by
        simp only [List.mem_cons, List.not_mem_nil, or_false] at hz
        rcases hz with rfl | rfl
        · exact ⟨_, rfl⟩
        · exact ⟨_, rfl⟩
      revert h2l hall
      generalize [D.int a, D.int (IntKind.wrap .i64 (v - 4))] = ats
      intro h2l hall
      rw [h2l]
      have ih := ih (k + 1) d1 (by omega) (by omega) hd1
      refine all_loop (L := fun m1 t => L13_13 n m0 m1 (.int a) (.int (3 : Int)) (.int (k : Int)) (.int ((2 : Nat) : Int)) t m (.agg [x, y]) d1 (.slc s) (.slc xs) (.slc ats) (fun r => r = [.bool true])) (bad := fun _ => false) (N := 2) (F := False) (by omega) (fun m1 t ht hw hb hg => ?_) (fun hb => by rw [anyB_false fun _ _ => rfl] at hb; cases hb) (fun hg m1 => ?_) n 0 (by omega) (by omega) (by omega)
      · rw [L13_13_eq]
        simp only [i_int, len_slc, xs_slc, toNat_nat, fs_agg]
        rw [hw, h2l]
        obtain ⟨w, ew⟩ := hall _ (getD_mem (d := .und) (show t < ats.length by omega))
        rw [ew]
        refine cLt (fun _ => ⟨by omega, by omega, by omega, ?_⟩) fun c => by omega
        have e0 : [x, y].getD (Int.toNat 0) D.und = x := rfl
        have e1 : [x, y].getD (Int.toNat 1) D.und = y := rfl
        rw [e0, e1]
        refine join_wp hm (by rw [len_slc]; omega) hbx hby (by omega) ⟨trivial, by omega, by omega, ?_⟩
        refine join'_wp hm (by rw [len_slc]; omega) hbx hby (by omega) ⟨trivial, ?_⟩
        simp only [rs0, rsS, i_int]
        refine cNe (fun c => absurd rfl c) fun _ => ?_
        refine sameB_wp (joinV_bn hbx hby (by rw [len_slc]; omega) hsf) (by omega) ?_
        rw [rs0, b_bool]
        exact hg rfl
      · rw [L13_13_eq]
        simp only [i_int]
        refine cLt (fun c => by omega) fun _ => ?_
        rw [wrap_id (by omega) (by omega), show ((k : Int) + 1) = ((k + 1 : Nat) : Int) by omega]
        exact ih
  exact key n 0 d (by omega) (by omega) hd

theorem joins_wp {raw : D} {l : List Int} {a : Int} (hr : BN 1100000 raw) (hl : l.length ≤ 2000000) (hn : 1102001 ≤ n) : wpF Try.prog A n 13 [raw, lst l, .int a] (fun r => r = [.bool true]) := by
  obtain ⟨p, rfl⟩ : ∃ p, n = p + 1 := ⟨n - 1, by omega⟩
  rw [E13]
  refine cLt (fun _ => awake_wp (by omega) rfl) fun _ => ?_
  refine new_wp (by omega) hl fun d hd => ?_
  rw [rs0]
  refine boxed_wp hd (by omega) fun m d1 c rows goal k box hs hd1 => ?_
  simp only [rs0, rsS]
  have hc := hs.cols
  have e0 : D.fld m 0 = .int (c : Int) := by rw [hs.eq]; rfl
  rw [e0]
  refine ⟨trivial, lbound_wp hs 2 (by omega) hd1 (by omega) fun b1 d2 hb1 hd2 => ?_⟩
  simp only [rs0, rsS]
  refine lbound_wp hs 2 (by omega) hd2 (by omega) fun b2 d3 hb2 hd3 => ?_
  simp only [rs0, rsS]
  refine ⟨trivial, trivial, next_wp (by omega) hd3 (by omega) (by omega) fun v d4 hv0 hv1 hd4 => ?_⟩
  simp only [rs0, rsS, i_int]
  have fin : ∀ (x d : D), BN 1100000 x → Dk d → wpF Try.prog A p 18 [d, (D.int (6 : Int))] fun r8 =>
      ((5 : Int) ≠ (0 : Int) ∧ (wpF Try.prog A p 60 [(rs r8 1), (D.int (IntKind.wrap .i64 ((c : Int) + (IntKind.wrap .i64 (Int.tdiv (D.i (rs r8 0)) (5 : Int))))))] fun r9 =>
      (L13_10 p p (.int a) (D.int (D.len (D.slc [(D.agg [x, b2]), (D.agg [raw, b2]), (D.agg [x, raw])]))) (D.int (0 : Int)) m (rs r9 1) (rs r9 0) (D.slc [(D.agg [x, b2]), (D.agg [raw, b2]), (D.agg [x, raw])]) (fun r => r = [.bool true])))) := by
    intro x d hx hd
    refine next_wp (by omega) hd (by omega) (by omega) fun w d5 hw0 hw1 hd5 => ?_
    simp only [rs0, rsS, i_int]
    have ht0 : 0 ≤ Int.tdiv w 5 := Int.tdiv_nonneg hw0 (by omega)
    have ht1 : Int.tdiv w 5 ≤ 1 := by
      rw [Int.tdiv_eq_ediv_of_nonneg hw0]; omega
    rw [wrap_id (show -9223372036854775808 ≤ Int.tdiv w 5 by omega) (by omega), wrap_id (show -9223372036854775808 ≤ (c : Int) + Int.tdiv w 5 by omega) (by omega)]
    refine ⟨by omega, tterms_wp hd5 (by omega) (by omega) (by omega) fun s d6 hs6 hsf hd6 => ?_⟩
    simp only [rs0, rsS]
    have hsl := terms_len hs6 (by omega)
    rw [len_slc] at hsl
    refine pairs_wp (m := m) hs.mo (by omega) hsf hd6 rfl (fun q hq => ?_) (by omega)
    simp only [List.mem_cons, List.not_mem_nil, or_false] at hq
    rcases hq with rfl | rfl | rfl
    · exact ⟨_, _, rfl, hx, hb2.mono (by omega)⟩
    · exact ⟨_, _, rfl, hr, hb2.mono (by omega)⟩
    · exact ⟨_, _, rfl, hx, hr⟩
  refine cEq (fun _ => ?_) fun _ => fin _ _ (hb1.mono (by omega)) hd4
  refine spoilt_wp hb1 (by omega) (by omega) hd4 (by omega) fun b3 d5 hb3 hd5 => ?_
  simp only [rs0, rsS]
  exact ⟨trivial, fin _ _ (hb3.mono (by omega)) hd5⟩
end
end Go.Ab

/- Accepted bounds are right: no numbers that obey the model have a greater value. -/
namespace Go.Ab
open Go.Proofs
attribute [local irreducible] wpF

/-- Products of two lists, summed up. -/
def dl : List Int → List Int → Int
  | a :: s, b :: x => a * b + dl s x
  | _, _ => 0
theorem dl_set : ∀ (s x : List Int) (j : Nat) (v : Int), j < s.length → s.length = x.length → dl (s.set j v) x = dl s x + (v - s.getD j 0) * x.getD j 0
  | [], _, _, _, h, _ => by simp at h
  | a :: s, [], _, _, _, h => by simp at h
  | a :: s, b :: x, 0, v, _, _ => by
    simp only [List.set_cons_zero, dl, List.getD, List.getElem?_cons_zero, Option.getD_some]
    rw [Int.sub_mul]; omega
  | a :: s, b :: x, j + 1, v, h, hl => by
    have h1 : j < s.length := by simpa using h
    have h2 : s.length = x.length := by simpa using hl
    have := dl_set s x j v h1 h2
    simp only [List.set_cons_succ, dl, List.getD, List.getElem?_cons_succ] at this ⊢
    rw [this]; omega
theorem dl_zero : ∀ (N : Nat) (x : List Int), dl (List.replicate N 0) x = 0
  | 0, x => by simp [dl]
  | N + 1, [] => by simp [dl, List.replicate_succ]
  | N + 1, b :: x => by simp [dl, List.replicate_succ, dl_zero N x]
theorem dl_nonneg : ∀ (s x : List Int), (∀ i : Nat, 0 ≤ s.getD i 0) → (∀ v ∈ x, 0 ≤ v) → 0 ≤ dl s x
  | [], _, _, _ => by simp [dl]
  | a :: s, [], _, _ => by simp [dl]
  | a :: s, b :: x, h1, h2 => by
    have e1 := h1 0
    simp only [List.getD, List.getElem?_cons_zero, Option.getD_some] at e1
    have e2 := h2 b (by simp)
    have e3 := dl_nonneg s x (fun i => by have := h1 (i + 1); simpa [List.getD] using this) fun v hv => h2 v (by simp [hv])
    have e4 := Int.mul_nonneg e1 e2
    simp only [dl]
    omega

def dotN (l : D) (x : List Int) (k : Nat) : Int := iter (fun s t => s + tco l (t : Nat) * x.getD (tof l (t : Nat)).toNat 0) 0 k
def dot (l : D) (x : List Int) : Int := dotN l x (D.len l).toNat
theorem dotN_succ (l : D) (x : List Int) (k : Nat) : dotN l x (k + 1) = dotN l x k + tco l k * x.getD (tof l k).toNat 0 := rfl

theorem row_dl {cols : Int} {x : D} (hx : RowOk cols x) {c : Int} (hc : 1 ≤ c) (hc2 : c ≤ 1073741824) {s X : List Int} {B : Int} (hs : Bd s B) (hB : 0 ≤ B) (hB2 : B ≤ 4000000000000000000) (hl : (s.length : Int) = cols) (hX : s.length = X.length) :
    dl (rowS x c s) X = dl s X + c * dot (D.fld x 0) X := by
  have hl0 := ln0 (D.fld x 0)
  have key : ∀ k : Nat, (k : Int) ≤ D.len (D.fld x 0) → (dl (iter (inRow x c) s k) X = dl s X + c * dotN (D.fld x 0) X k ∧ ∀ j : Nat, k ≤ j → (j : Int) < D.len (D.fld x 0) → -B ≤ (iter (inRow x c) s k).getD (tof (D.fld x 0) j).toNat 0 ∧ (iter (inRow x c) s k).getD (tof (D.fld x 0) j).toNat 0 ≤ B) := by
    intro k
    induction k with
    | zero =>
      intro _
      refine ⟨?_, fun j _ _ => hs _⟩
      show dl s X = dl s X + c * 0
      omega
    | succ k ih =>
      intro hk
      obtain ⟨i1, i2⟩ := ih (by omega)
      have hzl := row_len x c s k
      simp only [iter]
      generalize iter (inRow x c) s k = z at i1 i2 hzl
      have f := badT_facts (terms_at hx.terms (show (k : Int) < D.len (D.fld x 0) by omega))
      have hm := mul_bd hc hc2 f.2.2.2.1 f.2.2.2.2.1
      have ho := i2 k (Nat.le_refl _) (by omega)
      unfold inRow
      rw [wrap_id (show -9223372036854775808 ≤ c * tco (D.fld x 0) k by omega) (by omega), wrap_id (by omega) (by omega)]
      refine ⟨?_, fun j hj hj2 => ?_⟩
      · rw [dl_set _ _ _ _ (by omega) (by omega), i1, dotN_succ, Int.mul_add, show z.getD (tof (D.fld x 0) ↑k).toNat 0 + c * tco (D.fld x 0) ↑k - z.getD (tof (D.fld x 0) ↑k).toNat 0 = c * tco (D.fld x 0) ↑k by omega, Int.mul_assoc]
        omega
      · have hlt := terms_inc hx.terms (show k < j by omega) hj2
        rw [set_get, if_neg (by omega)]
        exact i2 j (by omega) hj2
  exact (key (D.len (D.fld x 0)).toNat (by omega)).1

def sat (l : List D) (X : List Int) : Prop := ∀ r ∈ l, dot (D.fld r 0) X ≤ D.i (D.fld r 1)
def feas (m : D) (X : List Int) : Prop := ∀ k : Nat, (k : Int) < D.len (D.fld m 1) → dot (D.fld (D.el (D.fld m 1) k) 0) X ≤ D.i (D.fld (D.el (D.fld m 1) k) 1)
theorem rowAt_sat {m : D} {ab : List D} {X : List Int} (hm : feas m X) (ha : sat ab X) {k : Int} (h0 : 0 ≤ k) (h1 : k < D.len (D.fld m 1) + ab.length) : dot (D.fld (rowAt m ab k) 0) X ≤ D.i (D.fld (rowAt m ab k) 1) := by
  unfold rowAt
  cases hc : iLt k (D.len (D.fld m 1)) with
  | true =>
    rw [iLt_iff] at hc
    obtain ⟨j, rfl⟩ : ∃ j : Nat, k = j := ⟨k.toNat, by omega⟩
    exact hm j hc
  | false =>
    rw [iLt_not] at hc
    obtain ⟨j, hj⟩ : ∃ j : Nat, k - D.len (D.fld m 1) = j := ⟨(k - D.len (D.fld m 1)).toNat, by omega⟩
    rw [cond_false, hj]
    exact ha _ (el_mem (d := .slc ab) (i := j) (by rw [len_slc]; omega))

theorem sum_le {m : D} {ab : List D} {c : D} {X : List Int} (hC : LC m ab c) (ho : outB m ab (D.fld c 4) = false) (hf : feas m X) (ha : sat ab X) (hX : X.length = (D.i (D.fld m 0)).toNat) :
    ∀ k : Nat, (k : Int) ≤ D.len (D.fld c 4) → dl (sumS34 m ab (D.fld c 4) k).1 X ≤ (sumS34 m ab (D.fld c 4) k).2 ∧ -(k * 1125899906842624 : Int) ≤ (sumS34 m ab (D.fld c 4) k).2 ∧ (sumS34 m ab (D.fld c 4) k).2 ≤ k * 1125899906842624 := by
  have hr := row_ok hC.mo hC.mv
  have h4 := mul_len hC.mul ho hC.tot
  have hM := modB_facts hC.mv
  intro k
  induction k with
  | zero =>
    intro _
    refine ⟨?_, by show _ ≤ (0 : Int); omega, by show (0 : Int) ≤ _; omega⟩
    show dl (List.replicate _ 0) X ≤ 0
    rw [dl_zero]; omega
  | succ k ih =>
    intro hk
    obtain ⟨i1, i2, i3⟩ := ih (by omega)
    have hk' : (k : Int) < D.len (D.fld c 4) := by omega
    have f := badM_facts (mul_at hC.mul hk')
    have g := out_at ho hk'
    have hb := sum_bd hr hC.abv hC.mul ho hC.tot k (by omega)
    have hlen := sum_len m ab (D.fld c 4) k
    have e : sumS34 m ab (D.fld c 4) (k + 1) = mulS m ab (D.fld c 4) (sumS34 m ab (D.fld c 4) k) k := rfl
    rw [e]
    unfold mulS
    have ro := rowAt_ok hr hC.abv f.1 g
    have rs := rowAt_sat hf ha f.1 g
    revert ro rs
    generalize rowAt m ab (tof (D.fld c 4) k) = x
    intro ro rs
    have hm := mul_bd f.2.2.1 f.2.2.2 ro.lo ro.hi
    have e2 : ((k + 1 : Nat) : Int) * 1125899906842624 = (k : Int) * 1125899906842624 + 1125899906842624 := by omega
    rw [wrap_id (show -9223372036854775808 ≤ tco (D.fld c 4) k * D.i (D.fld x 1) by omega) (by omega), wrap_id (by omega) (by omega), e2]
    refine ⟨?_, by simp only; omega, by simp only; omega⟩
    simp only
    rw [row_dl ro f.2.2.1 f.2.2.2 hb (by omega) (by omega) (by omega) (by omega)]
    have : tco (D.fld c 4) k * dot (D.fld x 0) X ≤ tco (D.fld c 4) k * D.i (D.fld x 1) := Int.mul_le_mul_of_nonneg_left rs (by omega)
    omega

theorem goal_dl {m : D} {cols den : Int} (h : termsB (D.fld m 2) cols 16777216 = true) (hd : 0 ≤ den) (hd2 : den ≤ 1024) {s X : List Int} (hs : (s.length : Int) = cols) (hX : s.length = X.length) (hb : Bd s 450359962737049600) :
    ∀ k : Nat, (k : Int) ≤ D.len (D.fld m 2) → dl (iter (goalS m den) s k) X = dl s X - den * dotN (D.fld m 2) X k := by
  intro k
  induction k with
  | zero =>
    intro _
    show dl s X = dl s X - den * 0
    omega
  | succ k ih =>
    intro hk
    have ih := ih (by omega)
    have hg := goal_get h hd hd2 hs hb k (by omega)
    have hl := goal_len m den s k
    simp only [iter]
    generalize iter (goalS m den) s k = z at ih hl hg
    have f := badT_facts (terms_at h (show (k : Int) < D.len (D.fld m 2) by omega))
    have p1 : den * tco (D.fld m 2) k ≤ den * 16777216 := Int.mul_le_mul_of_nonneg_left f.2.2.2.2.1 hd
    have p2 : den * (-16777216) ≤ den * tco (D.fld m 2) k := Int.mul_le_mul_of_nonneg_left f.2.2.2.1 hd
    have h0 := hg (tof (D.fld m 2) k).toNat
    unfold goalS
    rw [wrap_id (show -9223372036854775808 ≤ den * tco (D.fld m 2) k by omega) (by omega), wrap_id (by omega) (by omega)]
    rw [dl_set _ _ _ _ (by omega) (by omega), ih, dotN_succ, Int.mul_add, show z.getD (tof (D.fld m 2) ↑k).toNat 0 - den * tco (D.fld m 2) ↑k - z.getD (tof (D.fld m 2) ↑k).toNat 0 = - (den * tco (D.fld m 2) ↑k) by omega, Int.neg_mul, Int.mul_assoc]
    omega

theorem flo_le {r den v : Int} (hd : 0 < den) (h : den * v ≤ r) (h0 : -450359962737049600 ≤ r) (h1 : r ≤ 450359962737049600) : v ≤ flo r den ∧ -450359962737049601 ≤ flo r den ∧ flo r den ≤ 450359962737049600 := by
  have e := Int.mul_tdiv_add_tmod r den
  have b1 := Int.lt_tmod_of_pos r hd
  have b2 := Int.tmod_lt_of_pos r hd
  unfold flo
  revert e b1 b2
  generalize Int.tdiv r den = q
  generalize Int.tmod r den = t
  intro e b1 b2
  have q1 : q ≤ 450359962737049600 := by
    apply Int.not_lt.mp
    intro hq
    have := Int.mul_le_mul_of_nonneg_left (show 450359962737049601 ≤ q by omega) (show 0 ≤ den by omega)
    omega
  have q2 : -450359962737049600 ≤ q := by
    apply Int.not_lt.mp
    intro hq
    have := Int.mul_le_mul_of_nonneg_left (show q ≤ -450359962737049601 by omega) (show 0 ≤ den by omega)
    omega
  rw [wrap_id (show -9223372036854775808 ≤ q by omega) (by omega), wrap_id (show -9223372036854775808 ≤ q - 1 by omega) (by omega)]
  cases hc : iLt t 0 with
  | true =>
    rw [iLt_iff] at hc
    simp only [cond_true]
    refine ⟨?_, by omega, by omega⟩
    apply Int.not_lt.mp
    intro hq
    have := Int.mul_le_mul_of_nonneg_left (show q ≤ v by omega) (show 0 ≤ den by omega)
    omega
  | false =>
    rw [iLt_not] at hc
    simp only [cond_false]
    refine ⟨?_, by omega, by omega⟩
    apply Int.not_lt.mp
    intro hq
    have := Int.mul_le_mul_of_nonneg_left (show q + 1 ≤ v by omega) (show 0 ≤ den by omega)
    rw [Int.mul_add] at this
    omega

/-- A leaf that proves something proves it. -/
theorem leaf_sound {m : D} {ab : List D} {c : D} {X : List Int} (hC : LC m ab c) (hf : feas m X) (ha : sat ab X) (hX : X.length = (D.i (D.fld m 0)).toNat) (hX0 : ∀ v ∈ X, 0 ≤ v)
    (hok : (leafV m ab c).2.1 = true) : (leafV m ab c).2.2 = false ∧ D.i (D.fld m 3) + dot (D.fld m 2) X ≤ (leafV m ab c).1 := by
  have hM := modB_facts hC.mv
  have hl0 := ln0 (D.fld c 4)
  have hg0 := ln0 (D.fld m 2)
  unfold leafV at hok ⊢
  cases ho : outB m ab (D.fld c 4) with
  | true => rw [ho] at hok; cases hok
  | false =>
    rw [ho, cond_false] at hok
    rw [cond_false]
    have h4 := mul_len hC.mul ho hC.tot
    have hs := sum_le hC ho hf ha hX (D.len (D.fld c 4)).toNat (by omega)
    have hb := sums_bd hC ho
    have hlen := sum_len m ab (D.fld c 4) (D.len (D.fld c 4)).toNat
    revert hok hs hb hlen
    generalize sumS34 m ab (D.fld c 4) (D.len (D.fld c 4)).toNat = S
    obtain ⟨s, r⟩ := S
    intro hok hs hb hlen
    simp only at hok hs hb hlen ⊢
    cases hsh : shortB m (cDen c) s with
    | true => rw [hsh] at hok; cases hok
    | false =>
      rw [hsh, cond_false] at hok
      rw [cond_false]
      have d0 := hC.d0
      have d1 := hC.d1
      have gg := goal_get hM.2.2.1 d0 d1 (s := s) (by omega) hb (D.len (D.fld m 2)).toNat (by omega)
      have gd := goal_dl hM.2.2.1 d0 d1 (s := s) (X := X) (by omega) (by omega) hb (D.len (D.fld m 2)).toNat (by omega)
      have gl := goal_len m (cDen c) s (D.len (D.fld m 2)).toNat
      have hz : 0 ≤ dl (iter (goalS m (cDen c)) s (D.len (D.fld m 2)).toNat) X := by
        refine dl_nonneg _ _ (fun i => ?_) hX0
        rw [(gg i).1]
        by_cases hi : i < s.length
        · unfold shortB at hsh
          have := anyB_all hsh (show i < (D.i (D.fld m 0)).toNat by omega)
          rw [iLt_not] at this
          unfold coefOf at this
          omega
        · have := (gg i).1
          have e1 : (iter (goalS m (cDen c)) s (D.len (D.fld m 2)).toNat).getD i 0 = 0 := by
            simp [List.getD, List.getElem?_eq_none (show (iter (goalS m (cDen c)) s (D.len (D.fld m 2)).toNat).length ≤ i by omega)]
          omega
      have hd : cDen c * dot (D.fld m 2) X ≤ r := by
        unfold dot
        omega
      have e2 : ((D.len (D.fld c 4)).toNat : Int) = D.len (D.fld c 4) := by omega
      have hm4 : ((D.len (D.fld c 4)).toNat : Int) * 1125899906842624 ≤ 450359962737049600 := by omega
      cases hden : iLt 0 (cDen c) with
      | true =>
        rw [hden, cond_true] at hok
        rw [iLt_iff] at hden
        have fl := flo_le (v := dot (D.fld m 2) X) hden hd (by omega) (by omega)
        rw [cond_true]
        refine ⟨rfl, ?_⟩
        simp only
        rw [wrap_id (by omega) (by omega)]
        omega
      | false =>
        rw [iLt_not] at hden
        have e0 : cDen c = 0 := by omega
        rw [e0, Int.zero_mul] at hd
        rw [show iLt 0 (cDen c) = false from iLt_not.mpr (by omega), iLt_not.mpr (show ¬ r < 0 by omega)] at hok
        cases hok

/-- The numbers of a split's other side. -/
theorem neg_dot {l : D} {cols M : Int} (hM : M ≤ 4000000000) (h : termsB l cols M = true) (X : List Int) : dot (.slc (negL l (D.len l).toNat)) X = - dot l X := by
  have hl := ln0 l
  obtain ⟨N, hN⟩ : ∃ N : Nat, D.len l = N := ⟨(D.len l).toNat, by omega⟩
  unfold dot
  rw [len_slc, neg_len, hN, toNat_nat, toNat_nat]
  have key : ∀ k : Nat, k ≤ N → dotN (.slc (negL l N)) X k = - dotN l X k := by
    intro k
    induction k with
    | zero => intro _; rfl
    | succ k ih =>
      intro hk
      have f := badT_facts (terms_at h (show (k : Int) < D.len l by omega))
      rw [dotN_succ, dotN_succ, ih (by omega), neg_of (by omega), neg_co (by omega), wrap_id (by omega) (by omega), show 0 - tco l k = - tco l k by omega, Int.neg_mul]
      omega
  exact key N (Nat.le_refl _)

theorem nameS_facts {N : Int} {nm nm' : List Bool} {z : Int} (h : nameS N nm z = some nm') : z < N ∧ nm.getD z.toNat false = false ∧ nm' = nm.set z.toNat true := by
  unfold nameS at h
  cases h1 : iLe N z with
  | true => rw [h1] at h; cases h
  | false =>
    rw [h1, cond_false] at h
    rw [iLe_not] at h1
    cases h2 : nm.getD z.toNat false with
    | true => rw [h2] at h; cases h
    | false =>
      rw [h2] at h
      simp only [cond_false, Option.some.injEq] at h
      exact ⟨by omega, rfl, h.symm⟩

/-- Some leaf's rows are obeyed. -/
theorem reach {m b : D} (hb : Bo b) (hv : bndB m b = true) (X : List Int) : ∃ k : Nat, (k : Int) < D.len (cs b) ∧ iEq (cL (cAs b k)) (-1) = true ∧ sat (rowsOf b k) X := by
  have hN := bnd_len hv
  obtain ⟨N, hNe⟩ : ∃ N : Nat, D.len (cs b) = N := ⟨(D.len (cs b)).toNat, by omega⟩
  have hN' : (D.len (cs b)).toNat = N := by omega
  have hv' := hv
  unfold bndB at hv'
  rw [Bool.and_eq_true] at hv'
  cases hn : namesO m b with
  | none => rw [hn] at hv'; cases hv'.2
  | some last =>
    have key : ∀ (f k i : Nat) (nm : List Bool), N - k = f → k ≤ i → i < N → iterO (vS m b) (List.replicate N false) k = some nm → (i = 0 ∨ nm.getD i false = true) → sat ((abv b k).getD i []) X → ∃ k : Nat, (k : Int) < D.len (cs b) ∧ iEq (cL (cAs b k)) (-1) = true ∧ sat (rowsOf b k) X := by
      intro f
      induction f with
      | zero => intro k i nm h1 h2 h3; omega
      | succ f ih =>
        intro k i nm h1 h2 h3 hnm hi hsat
        unfold namesO at hn
        rw [hN'] at hn
        obtain ⟨u, v, hu, hs⟩ := iterO_some hn k (by omega)
        rw [hnm] at hu
        injection hu with hu
        subst hu
        have hnl := iter_len hnm
        have hal := abv_len b k
        have hstep : iterO (vS m b) (List.replicate N false) (k + 1) = some v := by
          show (iterO (vS m b) (List.replicate N false) k).bind (fun t => vS m b t k) = some v
          rw [hnm]
          exact hs
        have e : abv b (k + 1) = aS b (abv b k) k := rfl
        rcases bnd_case hv (show (k : Int) < D.len (cs b) by omega) with ⟨c, _⟩ | ⟨c, c3, c4, c5⟩
        · by_cases hik : i = k
          · subst hik
            refine ⟨i, by omega, c, ?_⟩
            unfold rowsOf
            rw [abv_stable hv (D.len (cs b)).toNat (by omega) (show i ≤ _ by omega)]
            exact hsat
          · rw [vS_leaf c] at hs
            cases hlf : leafB (cAs b k) with
            | false => rw [hlf] at hs; cases hs
            | true =>
              rw [hlf] at hs
              simp only [cond_true, Option.some.injEq] at hs
              subst hs
              refine ih (k + 1) i nm (by omega) (by omega) h3 hstep hi ?_
              rw [e, aS, c, cond_true]
              exact hsat
        · rw [vS_split c, c3, cond_true, Option.bind_eq_some_iff] at hs
          obtain ⟨nm1, g1, g2⟩ := hs
          obtain ⟨a1, a2, a3⟩ := nameS_facts g1
          obtain ⟨b1, b2, b3⟩ := nameS_facts g2
          have fs := split_facts c3
          have hne : (cL (cAs b k)).toNat ≠ (cR (cAs b k)).toNat := fun he => by
            rw [a3, ← he, getD_set_eq' (by omega)] at b2
            cases b2
          rw [a3, getD_set_ne' hne] at b2
          by_cases hik : i = k
          · subst hik
            have ff := form_facts fs.1
            have hfl := hb.form i (by omega)
            have hsp : dot (D.fld (sideL (cAs b i)) 0) X ≤ D.i (D.fld (sideL (cAs b i)) 1) ∨ dot (D.fld (sideR (cAs b i)) 0) X ≤ D.i (D.fld (sideR (cAs b i)) 1) := by
              have e1 : D.i (D.fld (sideR (cAs b i)) 1) = - cAt (cAs b i) - 1 := by
                show IntKind.wrap .i64 (IntKind.wrap .i64 (0 - cAt (cAs b i)) - 1) = _
                rw [wrap_id (show -9223372036854775808 ≤ 0 - cAt (cAs b i) by omega) (by omega), wrap_id (by omega) (by omega)]
                omega
              have e2 : dot (D.fld (sideR (cAs b i)) 0) X = - dot (D.fld (cAs b i) 2) X := neg_dot (by omega) ff.1 X
              have e3 : dot (D.fld (sideL (cAs b i)) 0) X = dot (D.fld (cAs b i) 2) X := rfl
              have e4 : D.i (D.fld (sideL (cAs b i)) 1) = cAt (cAs b i) := rfl
              rw [e1, e2, e3, e4]
              omega
            have app : ∀ y : D, dot (D.fld y 0) X ≤ D.i (D.fld y 1) → sat ((abv b i).getD i [] ++ [y]) X := fun y hy r hr => by
              rcases List.mem_append.mp hr with hr | hr
              · exact hsat r hr
              · rw [List.mem_singleton.mp hr]; exact hy
            rcases hsp with hl | hr
            · refine ih (i + 1) (cL (cAs b i)).toNat v (by omega) (by omega) (by omega) hstep (Or.inr ?_) ?_
              · rw [b3, getD_set_ne' (Ne.symm hne), a3, getD_set_eq' (by omega)]
              · rw [e, aS, c, cond_false, getD_set_ne' (Ne.symm hne), getD_set_eq' (by omega)]
                exact app _ hl
            · refine ih (i + 1) (cR (cAs b i)).toNat v (by omega) (by omega) (by omega) hstep (Or.inr ?_) ?_
              · rw [b3, getD_set_eq' (by rw [a3, List.length_set]; omega)]
              · rw [e, aS, c, cond_false, getD_set_eq' (by rw [List.length_set]; omega)]
                exact app _ hr
          · have hi' : nm.getD i false = true := by
              rcases hi with hi | hi
              · omega
              · exact hi
            have n1 : (cL (cAs b k)).toNat ≠ i := fun he => by rw [he, hi'] at a2; cases a2
            have n2 : (cR (cAs b k)).toNat ≠ i := fun he => by rw [he, hi'] at b2; cases b2
            refine ih (k + 1) i v (by omega) (by omega) h3 hstep (Or.inr ?_) ?_
            · rw [b3, getD_set_ne' n2, a3, getD_set_ne' n1]
              exact hi'
            · rw [e, aS, c, cond_false, getD_set_ne' n2, getD_set_ne' n1]
              exact hsat
    have h0 : (abv b 0).getD 0 [] = [] := by
      simp only [abv, iter, List.getD]
      rw [List.getElem?_replicate]
      split <;> rfl
    refine key N 0 0 _ rfl (Nat.le_refl _) (by omega) rfl (Or.inl rfl) ?_
    rw [h0]
    intro r hr
    cases hr

/-- An accepted bound is a bound. -/
theorem sound {m b : D} (hm : Mo m) (hb : Bx b) (h : chkV m b = 0) {X : List Int} (hf : feas m X) (hX : X.length = (D.i (D.fld m 0)).toNat) (hX0 : ∀ v ∈ X, 0 ≤ v) : D.i (D.fld m 3) + dot (D.fld m 2) X ≤ D.i (D.fld b 1) := by
  unfold chkV at h
  cases hmv : modB m with
  | false => rw [hmv] at h; cases h
  | true =>
    rw [hmv, cond_true] at h
    cases hv : bndB m b with
    | false => rw [hv] at h; cases h
    | true =>
      rw [hv, cond_true] at h
      cases hl : anyB (longB m b) (D.len (cs b)).toNat with
      | true => rw [hl] at h; cases h
      | false =>
        rw [hl, cond_false] at h
        cases hc : anyB (badC m b) (D.len (cs b)).toNat with
        | true => rw [hc] at h; cases h
        | false =>
          obtain ⟨k, hk, hlf, hs⟩ := reach hb.o hv X
          have hbad := anyB_all hc (show k < (D.len (cs b)).toNat by omega)
          have hlong := anyB_all hl (show k < (D.len (cs b)).toNat by omega)
          unfold badC badV at hbad
          rw [hlf, Bool.true_and, Bool.or_eq_false_iff] at hbad
          have hok : (leafV m (rowsOf b k) (cAs b k)).2.1 = true := by simpa using hbad.1
          have hls := leaf_sound (lc_of hm hmv hb hv hk hlong hlf) hf hs hX hX0 hok
          rw [hls.1, Bool.not_false, Bool.true_and, iLt_not] at hbad
          omega
end Go.Ab

/- The law of accepted bounds: no numbers of the box have a greater value. -/
namespace Go.Ab
open Go.Proofs
attribute [local irreducible] wpF

theorem el_of {X : List Int} {v : Int} (h0 : 0 ≤ v) (h1 : v < X.length) : D.el (lst X) v = .int (X.getD v.toNat 0) := by
  obtain ⟨j, rfl⟩ : ∃ j : Nat, v = j := ⟨v.toNat, by omega⟩
  rw [el_lst _ _ (by omega), toNat_nat]
theorem dot_step {l : D} {c : Nat} {X : List Int} (h : termsB l c 9 = true) (hX : X.length = c) (hv : ∀ v ∈ X, 0 ≤ v ∧ v ≤ 3) {t : Nat} (ht : (t : Int) < D.len l) :
    -27 ≤ tco l t * X.getD (tof l t).toNat 0 ∧ tco l t * X.getD (tof l t).toNat 0 ≤ 27 := by
  have f := badT_facts (terms_at h ht)
  have hx := hv _ (getD_mem (d := 0) (show (tof l t).toNat < X.length by omega))
  have e1 := Int.mul_le_mul_of_nonneg_right f.2.2.2.2.1 hx.1
  have e2 := Int.mul_le_mul_of_nonneg_right f.2.2.2.1 hx.1
  omega
theorem dot_bd {l : D} {c : Nat} {X : List Int} (h : termsB l c 9 = true) (hX : X.length = c) (hv : ∀ v ∈ X, 0 ≤ v ∧ v ≤ 3) : ∀ t : Nat, (t : Int) ≤ D.len l → -(27 * (t : Int)) ≤ dotN l X t ∧ dotN l X t ≤ 27 * (t : Int) := by
  intro t
  induction t with
  | zero => intro _; exact ⟨by show _ ≤ (0 : Int); omega, by show (0 : Int) ≤ _; omega⟩
  | succ t ih =>
    intro ht
    have := ih (by omega)
    have := dot_step h hX hv (show (t : Int) < D.len l by omega)
    rw [dotN_succ]
    omega

def wgt (t : Nat) : Int := [64, 16, 4, 1].getD t 0
def wt (X : List Int) : Int := X.getD 0 0 * 64 + X.getD 1 0 * 16 + X.getD 2 0 * 4 + X.getD 3 0
theorem wt_set {X : List Int} {t : Nat} {v : Int} (ht : t < 4) (hX : t < X.length) : wt (X.set t v) = wt X + (v - X.getD t 0) * wgt t := by
  unfold wt
  match t, ht with
  | 0, _ => rw [getD_set_eq' hX, getD_set_ne' (by omega), getD_set_ne' (by omega), getD_set_ne' (by omega)]; show _ = _ + (v - _) * 64; omega
  | 1, _ => rw [getD_set_eq' hX, getD_set_ne' (by omega), getD_set_ne' (by omega), getD_set_ne' (by omega)]; show _ = _ + (v - _) * 16; omega
  | 2, _ => rw [getD_set_eq' hX, getD_set_ne' (by omega), getD_set_ne' (by omega), getD_set_ne' (by omega)]; show _ = _ + (v - _) * 4; omega
  | 3, _ => rw [getD_set_eq' hX, getD_set_ne' (by omega), getD_set_ne' (by omega), getD_set_ne' (by omega)]; show _ = _ + (v - _) * 1; omega
theorem getD_le {X : List Int} (hv : ∀ v ∈ X, 0 ≤ v ∧ v ≤ 3) (t : Nat) : 0 ≤ X.getD t 0 ∧ X.getD t 0 ≤ 3 := by
  by_cases h : t < X.length
  · exact hv _ (getD_mem h)
  · simp only [List.getD]; rw [List.getElem?_eq_none (by omega)]; simp
theorem wt_bd {X : List Int} (hv : ∀ v ∈ X, 0 ≤ v ∧ v ≤ 3) : 0 ≤ wt X ∧ wt X ≤ 255 := by
  unfold wt
  have h0 := getD_le hv 0
  have h1 := getD_le hv 1
  have h2 := getD_le hv 2
  have h3 := getD_le hv 3
  omega

section
variable {n : Nat} {Q : List D → Prop}

theorem value_wp {m : D} {c : Nat} {rows goal : List D} {k : Int} {box : List Int} (hm : SM m c rows goal k box) {X : List Int} (hX : X.length = c) (hv : ∀ v ∈ X, 0 ≤ v ∧ v ≤ 3) (hn : 100 ≤ n)
    (hbad : Q [.int 0, .bool false]) (hgood : feas m X → Q [.int (k + dot (.slc goal) X), .bool true]) : wpF Try.prog A n 57 [m, lst X] Q := by
  obtain ⟨p, rfl⟩ : ∃ p, n = p + 1 := ⟨n - 1, by omega⟩
  rw [E57]
  have hc := hm.cols
  have hfew := hm.few
  have k0 := hm.k0
  have k1 := hm.k1
  have e0 : D.fld m 0 = .int (c : Int) := by rw [hm.eq]; rfl
  have e1 : D.fld m 1 = .slc (rows ++ boxR box c) := by rw [hm.eq]; rfl
  have e2 : D.fld m 2 = .slc goal := by rw [hm.eq]; rfl
  have e3 : D.fld m 3 = .int k := by rw [hm.eq]; rfl
  have hall := hm.all
  have hrl := hm.rlen
  have hg := hm.goal
  have hgl := terms_len hg (by omega)
  rw [len_slc] at hgl
  unfold feas at hgood
  rw [e1] at hgood
  rw [e0, len_lst, i_int]
  refine cNe (fun c => by omega) fun _ => ?_
  -- the goal
  have third : (∀ t : Nat, (t : Int) < D.len (.slc (rows ++ boxR box c)) → dot (D.fld (D.el (.slc (rows ++ boxR box c)) t) 0) X ≤ D.i (D.fld (D.el (.slc (rows ++ boxR box c)) t) 1)) → L57_23 p p (lst X) (.int k) (.slc goal) (.int (goal.length : Int)) (.int 0) Q := by
    intro hf
    have hq := hgood hf
    have key : ∀ (m0 t : Nat), t ≤ goal.length → goal.length - t < m0 → L57_23 p m0 (lst X) (.int (k + dotN (.slc goal) X t)) (.slc goal) (.int (goal.length : Int)) (.int (t : Int)) Q := by
      intro m0
      induction m0 with
      | zero => intro t _ h; omega
      | succ m0 ih =>
        intro t h1 h2
        rw [L57_23_eq]
        simp only [i_int, len_slc, len_lst]
        refine cLt (fun ht => ⟨by omega, trivial, ?_⟩) fun ht => ?_
        · have hd : (t : Int) < D.len (.slc goal) := by rw [len_slc]; omega
          have f := badT_facts (terms_at hg hd)
          have b1 := dot_bd hg hX hv t (by omega)
          have b2 := dot_step hg hX hv hd
          have ih := ih (t + 1) (by omega) (by omega)
          rw [dotN_succ] at ih
          have eo : D.i (D.fld (D.el (.slc goal) (t : Int)) 0) = tof (.slc goal) t := rfl
          have ec : D.i (D.fld (D.el (.slc goal) (t : Int)) 1) = tco (.slc goal) t := rfl
          rw [eo, ec, el_of f.1 (by omega), i_int]
          rw [wrap_id (show -9223372036854775808 ≤ tco (.slc goal) t * X.getD (tof (.slc goal) t).toNat 0 by omega) (by omega), wrap_id (show -9223372036854775808 ≤ k + dotN (.slc goal) X t + tco (.slc goal) t * X.getD (tof (.slc goal) t).toNat 0 by omega) (by omega), wrap_id (by omega) (by omega), show ((t : Int) + 1) = ((t + 1 : Nat) : Int) by omega, Int.add_assoc]
          exact ⟨by omega, ih⟩
        · have e : t = goal.length := by omega
          subst e
          unfold dot at hq
          rw [len_slc, toNat_nat] at hq
          exact hq
    have := key p 0 (by omega) (by omega)
    rw [show dotN (.slc goal) X 0 = 0 from rfl, Int.add_zero] at this
    exact this
  -- the rows
  have second : L57_10 p p (lst X) (.slc (rows ++ boxR box c)) (.int ((rows ++ boxR box c).length : Int)) (.int 0) m Q := by
    refine all_loop (L := fun m0 t => L57_10 p m0 (lst X) (.slc (rows ++ boxR box c)) (.int ((rows ++ boxR box c).length : Int)) t m Q) (bad := fun t => iLt (D.i (D.fld (D.el (.slc (rows ++ boxR box c)) (t : Nat)) 1)) (dot (D.fld (D.el (.slc (rows ++ boxR box c)) (t : Nat)) 0) X)) (N := (rows ++ boxR box c).length) (F := Q [.int 0, .bool false]) (by omega) (fun m0 t ht hw hb hgo => ?_) (fun _ => hbad) (fun hgo m0 => ?_) p 0 (by omega) (by omega) (by omega)
    · rw [L57_10_eq]
      simp only [i_int, len_slc]
      obtain ⟨s, mo, e, h1, h2, h3⟩ := hall _ (el_mem (d := .slc (rows ++ boxR box c)) (i := t) (by rw [len_slc]; omega))
      rw [e] at hb hgo ⊢
      simp only [fld0, fldS, i_int] at hb hgo ⊢
      have hsl := terms_len h1 (by omega)
      rw [len_slc] at hsl ⊢
      refine cLt (fun _ => ⟨by omega, trivial, ?_⟩) fun c => by omega
      have key : ∀ (m1 j : Nat), j ≤ s.length → s.length - j < m1 → L57_14 p m0 m1 (lst X) (.int (dotN (.slc s) X j)) (.slc (rows ++ boxR box c)) (.int ((rows ++ boxR box c).length : Int)) (.int (t : Int)) (.slc s) (.int (s.length : Int)) (.int (j : Int)) m (.agg [.slc s, .int mo]) Q := by
        intro m1
        induction m1 with
        | zero => intro j _ h; omega
        | succ m1 ih =>
          intro j g1 g2
          rw [L57_14_eq]
          simp only [i_int, len_slc, len_lst, fld0, fldS]
          refine cLt (fun hj => ⟨by omega, trivial, ?_⟩) fun hj => ?_
          · have hd : (j : Int) < D.len (.slc s) := by rw [len_slc]; omega
            have f := badT_facts (terms_at h1 hd)
            have b1 := dot_bd h1 hX hv j (by omega)
            have b2 := dot_step h1 hX hv hd
            have ih := ih (j + 1) (by omega) (by omega)
            rw [dotN_succ] at ih
            have eo : D.i (D.fld (D.el (.slc s) (j : Int)) 0) = tof (.slc s) j := rfl
            have ec : D.i (D.fld (D.el (.slc s) (j : Int)) 1) = tco (.slc s) j := rfl
            rw [eo, ec, el_of f.1 (by omega), i_int]
            rw [wrap_id (show -9223372036854775808 ≤ tco (.slc s) j * X.getD (tof (.slc s) j).toNat 0 by omega) (by omega), wrap_id (show -9223372036854775808 ≤ dotN (.slc s) X j + tco (.slc s) j * X.getD (tof (.slc s) j).toNat 0 by omega) (by omega), wrap_id (by omega) (by omega), show ((j : Int) + 1) = ((j + 1 : Nat) : Int) by omega]
            exact ⟨by omega, ih⟩
          · have e : j = s.length := by omega
            subst e
            unfold dot at hb hgo
            rw [len_slc, toNat_nat] at hb hgo
            rw [hw]
            exact cnd (fun c => hb c) fun c => hgo c
      exact key p 0 (by omega) (by omega)
    · rw [L57_10_eq]
      simp only [i_int]
      rw [e2, e3, len_slc]
      refine cLt (fun c => by omega) fun _ => third fun t ht => ?_
      rw [len_slc] at ht
      have := anyB_all hgo (show t < (rows ++ boxR box c).length by omega)
      rw [iLt_not] at this
      omega
  -- the numbers
  rw [hX]
  refine all_loop (L := fun m0 t => L57_4 p m0 (lst X) (lst X) (.int (c : Int)) t m Q) (bad := fun _ => false) (N := c) (F := False) (by omega) (fun m0 t ht hw hb hgo => ?_) (fun hb => by rw [anyB_false fun _ _ => rfl] at hb; cases hb) (fun hgo m0 => ?_) p 0 (by omega) (by omega) (by omega)
  · rw [L57_4_eq]
    simp only [i_int, len_lst]
    have := getD_le hv t
    rw [hw, el_lst _ _ (by omega), i_int]
    exact cLt (fun _ => ⟨by omega, cLt (fun c => by omega) fun _ => cLt (fun c => by omega) fun _ => hgo rfl⟩) fun c => by omega
  · rw [L57_4_eq]
    simp only [i_int]
    rw [e1, len_slc]
    exact cLt (fun c => by omega) fun _ => second

theorem count_wp {m b : D} {c : Nat} {rows goal : List D} {k : Int} {box : List Int} (hm : SM m c rows goal k box) (hb : Bx b) (hchk : chkV m b = 0) (hn : 1101000 ≤ n) :
    ∀ (m0 : Nat) (X : List Int), X.length = c → (∀ v ∈ X, 0 ≤ v ∧ v ≤ 3) → 256 - wt X < m0 → L11_9 n m0 (lst box) m b (lst X) (fun r => r = [.bool true]) := by
  have hc := hm.cols
  have e0 : D.fld m 0 = .int (c : Int) := by rw [hm.eq]; rfl
  have e2 : D.fld m 2 = .slc goal := by rw [hm.eq]; rfl
  have e3 : D.fld m 3 = .int k := by rw [hm.eq]; rfl
  have hbl := hm.len
  intro m0
  induction m0 with
  | zero => intro X _ hv h; have := wt_bd hv; omega
  | succ m0 ih =>
    intro X hX hv hf
    rw [L11_9_eq]
    have inner : ∀ (j : Nat), j ≤ c → ∀ (m1 : Nat) (Y : List Int), j < m1 → Y.length = c → (∀ v ∈ Y, 0 ≤ v ∧ v ≤ 3) → (1 ≤ j → wt X + 1 ≤ wt Y + wgt (j - 1)) → L11_13 n m0 m1 (lst box) (.int ((j : Int) - 1)) m b (lst Y) (fun r => r = [.bool true]) := by
      intro j
      induction j with
      | zero =>
        intro _ m1 Y h1 hY hYv hw
        obtain ⟨q, rfl⟩ : ∃ q, m1 = q + 1 := ⟨m1 - 1, by omega⟩
        rw [L11_13_eq]
        simp only [i_int]
        exact cLe (fun c => by omega) fun _ => cLt (fun _ => awake_wp (by omega) rfl) fun c => by omega
      | succ j ihj =>
        intro hjc m1 Y h1 hY hYv hw
        obtain ⟨q, rfl⟩ : ∃ q, m1 = q + 1 := ⟨m1 - 1, by omega⟩
        have hw1 := hw (by omega)
        clear hw
        rw [show j + 1 - 1 = j by omega] at hw1
        rw [show (((j + 1 : Nat) : Int) - 1) = (j : Int) by omega]
        rw [L11_13_eq]
        simp only [i_int, len_lst, toNat_nat]
        have hy := getD_le hYv j
        have hbx := hm.box _ (getD_mem (d := 0) (show j < box.length by omega))
        have eg : List.getD (D.xs (lst Y)) j D.und = .int (Y.getD j 0) := by simp [lst, D.xs, List.getD, show j < Y.length by omega]
        rw [eg, el_lst _ _ (by omega)]
        simp only [i_int]
        have mem_set : ∀ z : Int, 0 ≤ z → z ≤ 3 → ∀ v ∈ Y.set j z, 0 ≤ v ∧ v ≤ 3 := fun z h0 h3 v hz => by
          rcases List.mem_or_eq_of_mem_set hz with hz | hz
          · exact hYv v hz
          · rw [hz]; exact ⟨h0, h3⟩
        refine cLe (fun _ => ⟨by omega, by omega, cLe (fun hle => ?_) fun hle => ?_⟩) fun c => by omega
        · refine ⟨by omega, trivial, ?_⟩
          rw [wrap_id (by omega) (by omega), lst_set34]
          refine ihj (by omega) q _ (by omega) (by rw [List.length_set]; exact hY) (mem_set 0 (by omega) (by omega)) fun hj1 => ?_
          rw [wt_set (by omega) (by omega)]
          have hj4 : j < 4 := by omega
          revert hw1 hy
          generalize Y.getD j 0 = y
          intro hw1 hy
          match j, hj1, hj4 with
          | 1, _, _ =>
            have hw : wt X + 1 ≤ wt Y + 16 := hw1
            show wt X + 1 ≤ wt Y + (0 - y) * 16 + 64
            omega
          | 2, _, _ =>
            have hw : wt X + 1 ≤ wt Y + 4 := hw1
            show wt X + 1 ≤ wt Y + (0 - y) * 4 + 16
            omega
          | 3, _, _ =>
            have hw : wt X + 1 ≤ wt Y + 1 := hw1
            show wt X + 1 ≤ wt Y + (0 - y) * 1 + 4
            omega
        · refine cLt (fun c => by omega) fun _ => ⟨by omega, by omega, trivial, ?_⟩
          rw [wrap_id (by omega) (by omega), lst_set34]
          refine ih _ (by rw [List.length_set]; exact hY) (mem_set _ (by omega) (by omega)) ?_
          rw [wt_set (by omega) (by omega), show Y.getD j 0 + 1 - Y.getD j 0 = 1 by omega, Int.one_mul]
          omega
    have go : L11_13 n m0 n (lst box) (.int ((c : Int) - 1)) m b (lst X) (fun r => r = [.bool true]) := by
      refine inner c (Nat.le_refl _) n X (by omega) hX hv fun h1 => ?_
      have : c = 1 ∨ c = 2 ∨ c = 3 ∨ c = 4 := by omega
      rcases this with h | h | h | h <;> subst h
      · show _ ≤ wt X + 64; omega
      · show _ ≤ wt X + 16; omega
      · show _ ≤ wt X + 4; omega
      · show _ ≤ wt X + 1; omega
    rw [e0, i_int, wrap_id (show -9223372036854775808 ≤ (c : Int) - 1 by omega) (by omega)]
    refine value_wp hm hX hv (by omega) go fun hfe => ?_
    have hs := sound hm.mo hb hchk hfe (by rw [e0, i_int]; omega) fun v hv' => (hv v hv').1
    rw [e2, e3, i_int] at hs
    refine cLt (fun c => ?_) fun _ => go
    have c : D.i (D.fld b 1) < k + dot (.slc goal) X := c
    omega

theorem sound_wp {l : List Int} (hl : l.length ≤ 2000000) (hn : 1102001 ≤ n) : wpF Try.prog A n 11 [lst l] (fun r => r = [.bool true]) := by
  obtain ⟨p, rfl⟩ : ∃ p, n = p + 1 := ⟨n - 1, by omega⟩
  rw [E11]
  refine new_wp (by omega) hl fun d hd => ?_
  rw [rs0]
  refine boxed_wp hd (by omega) fun m d1 c rows goal k box hs hd1 => ?_
  simp only [rs0, rsS]
  have hc := hs.cols
  have e0 : D.fld m 0 = .int (c : Int) := by rw [hs.eq]; rfl
  have fin : ∀ b : D, BN 1100000 b → wpF Try.prog A p 53 [m, b] fun r6 =>
      (cond (!(iEq (D.i (rs r6 0)) (0 : Int))) (wpF Try.prog A p 47 [] fun r7 => ([rs r7 0] = [.bool true]))
      ((0 ≤ (D.i (D.fld m 0)) ∧ (D.i (D.fld m 0)) ≤ (D.i (D.fld m 0)) ∧ room (D.i (D.fld m 0)) 8) ∧ (L11_9 p p (lst box) m b (D.slc (List.replicate (Int.toNat (D.i (D.fld m 0))) (D.int (0 : Int)))) (fun r => r = [.bool true])))) := by
    intro b hb
    have hbx := hb.bx (by omega)
    refine check_wp hs.mo hbx (by omega) ?_
    simp only [rs0, i_int]
    refine cNe (fun _ => awake_wp (by omega) rfl) fun hz => ?_
    rw [e0, i_int]
    refine ⟨⟨by omega, by omega, by unfold room; omega⟩, ?_⟩
    have e : D.slc (List.replicate (Int.toNat (c : Int)) (D.int 0)) = lst (List.replicate c 0) := by simp [lst]
    rw [e]
    have hz3 : ∀ v ∈ List.replicate c (0 : Int), 0 ≤ v ∧ v ≤ 3 := fun v hv => by rw [(List.mem_replicate.mp hv).2]; omega
    have := wt_bd hz3
    exact count_wp hs hbx hz (by omega) p _ (by simp) hz3 (by omega)
  refine ⟨trivial, lbound_wp hs 3 (by omega) hd1 (by omega) fun b1 d2 hb1 hd2 => ?_⟩
  simp only [rs0, rsS]
  refine ⟨trivial, next_wp (by omega) hd2 (by omega) (by omega) fun v d3 hv0 hv1 hd3 => ?_⟩
  simp only [rs0, rsS, i_int]
  refine cEq (fun _ => ?_) fun _ => fin _ (hb1.mono (by omega))
  refine spoilt_wp hb1 (by omega) (by omega) hd3 (by omega) fun b2 d4 hb2 hd4 => ?_
  simp only [rs0]
  exact ⟨trivial, fin _ (hb2.mono (by omega))⟩
end
end Go.Ab

/- Bounds that are one leaf; the law of weaker bounds. -/
namespace Go.Ab
open Go.Proofs
attribute [local irreducible] wpF

theorem one_bnd {m b : D} (h1 : D.len (cs b) = 1) (hL : iEq (cL (cAs b (0 : Nat))) (-1) = true) (hf : leafB (cAs b (0 : Nat)) = true) : bndB m b = true := by
  unfold bndB namesO
  rw [h1]
  have e : iterO (vS m b) (List.replicate (Int.toNat 1) false) (Int.toNat 1) = some [false] := by
    show vS m b [false] 0 = some [false]
    rw [vS_leaf hL, hf]
    rfl
  rw [e]
  decide
theorem one_leaf {m b : D} (h1 : D.len (cs b) = 1) (h : bndB m b = true) : iEq (cL (cAs b (0 : Nat))) (-1) = true ∧ leafB (cAs b (0 : Nat)) = true := by
  rcases bnd_case h (show ((0 : Nat) : Int) < D.len (cs b) by omega) with h | ⟨_, c, c1, _⟩
  · exact h
  · have := split_gt c
    omega
theorem one_rows {m b : D} (h : bndB m b = true) (h1 : D.len (cs b) = 1) : rowsOf b 0 = [] := by
  unfold rowsOf
  rw [abv_stable hv (D.len (cs b)).toNat (by omega) (show 0 ≤ _ by omega)]
  simp only [abv, iter, List.getD]
  rw [List.getElem?_replicate]
  split <;> rfl
  where hv := h
theorem one_chk {m b : D} (hmv : modB m = true) (h : bndB m b = true) (h1 : D.len (cs b) = 1) : chkV m b = cond (badV b (leafV m [] (cAs b (0 : Nat)))) 37 0 := by
  have hM := modB_facts hmv
  have hl := one_leaf h1 h
  have hr := one_rows h h1
  unfold chkV
  rw [hmv, h, h1]
  have e1 : anyB (longB m b) (Int.toNat 1) = false := anyB_false fun i hi => by
    have : i = 0 := by omega
    subst this
    unfold longB
    rw [hr, List.length_nil, iLt_not]
    omega
  have e2 : anyB (badC m b) (Int.toNat 1) = badV b (leafV m [] (cAs b (0 : Nat))) := by
    have e3 : badC m b 0 = badV b (leafV m [] (cAs b (0 : Nat))) := by
      unfold badC
      rw [hl.1, hr, Bool.true_and]
    rw [← e3]
    show (List.range 1).any (badC m b) = _
    simp [List.range_succ]
  rw [e1, e2]
  rfl

/-- Rows behind those that a leaf names change nothing. -/
theorem rowAt_ext {c g k : D} {R ext ab ab' : List D} {t : Int} (h0 : 0 ≤ t) (ht : t < R.length) : rowAt (.agg [c, .slc (R ++ ext), g, k]) ab t = rowAt (.agg [c, .slc R, g, k]) ab' t := by
  unfold rowAt
  simp only [fld0, fldS, len_slc]
  rw [iLt_iff.mpr (show t < ((R ++ ext).length : Nat) by rw [List.length_append]; omega), iLt_iff.mpr ht]
  obtain ⟨j, rfl⟩ : ∃ j : Nat, t = j := ⟨t.toNat, by omega⟩
  simp only [cond_true]
  show (R ++ ext).getD j .und = R.getD j .und
  simp only [List.getD]
  rw [List.getElem?_append_left (by omega)]
theorem sum_ext {c g k l : D} {R ext ab ab' : List D} (hl : ∀ t : Nat, (t : Int) < D.len l → 0 ≤ tof l t ∧ tof l t < R.length) : ∀ j : Nat, (j : Int) ≤ D.len l → sumS34 (.agg [c, .slc (R ++ ext), g, k]) ab l j = sumS34 (.agg [c, .slc R, g, k]) ab' l j := by
  intro j
  induction j with
  | zero => intro _; rfl
  | succ j ih =>
    intro hj
    have e1 : sumS34 (.agg [c, .slc (R ++ ext), g, k]) ab l (j + 1) = mulS (.agg [c, .slc (R ++ ext), g, k]) ab l (sumS34 (.agg [c, .slc (R ++ ext), g, k]) ab l j) j := rfl
    have e2 : sumS34 (.agg [c, .slc R, g, k]) ab' l (j + 1) = mulS (.agg [c, .slc R, g, k]) ab' l (sumS34 (.agg [c, .slc R, g, k]) ab' l j) j := rfl
    have f := hl j (by omega)
    rw [e1, e2, ih (by omega)]
    unfold mulS
    rw [rowAt_ext (ab' := ab') f.1 f.2]
theorem out_of {m l : D} {ab : List D} (h : ∀ t : Nat, (t : Int) < D.len l → tof l t < D.len (D.fld m 1)) : outB m ab l = false := by
  have h0 := ln0 l
  refine anyB_false fun i hi => ?_
  have := h i (by omega)
  rw [iLe_not]
  omega
theorem leaf_ext {c g k x : D} {R ext ab ab' : List D} (hl : ∀ t : Nat, (t : Int) < D.len (D.fld x 4) → 0 ≤ tof (D.fld x 4) t ∧ tof (D.fld x 4) t < R.length) : leafV (.agg [c, .slc (R ++ ext), g, k]) ab x = leafV (.agg [c, .slc R, g, k]) ab' x := by
  have h0 := ln0 (D.fld x 4)
  unfold leafV
  rw [out_of fun t ht => ?_, out_of fun t ht => ?_, sum_ext (ab' := ab') hl _ (by omega)]
  · rfl
  · have := hl t ht
    simp only [fld0, fldS, len_slc]
    omega
  · have := hl t ht
    simp only [fld0, fldS, len_slc]
    rw [List.length_append]
    omega

theorem sum2_bd {m : D} {ab : List D} {c : D} (hC : LC m ab c) (ho : outB m ab (D.fld c 4) = false) :
    ∀ k : Nat, (k : Int) ≤ D.len (D.fld c 4) → -(k * 1125899906842624 : Int) ≤ (sumS34 m ab (D.fld c 4) k).2 ∧ (sumS34 m ab (D.fld c 4) k).2 ≤ k * 1125899906842624 := by
  have hr := row_ok hC.mo hC.mv
  have h4 := mul_len hC.mul ho hC.tot
  intro k
  induction k with
  | zero =>
    intro _
    exact ⟨by show _ ≤ (0 : Int); omega, by show (0 : Int) ≤ _; omega⟩
  | succ k ih =>
    intro hk
    obtain ⟨i2, i3⟩ := ih (by omega)
    have hk' : (k : Int) < D.len (D.fld c 4) := by omega
    have f := badM_facts (mul_at hC.mul hk')
    have g := out_at ho hk'
    have e : sumS34 m ab (D.fld c 4) (k + 1) = mulS m ab (D.fld c 4) (sumS34 m ab (D.fld c 4) k) k := rfl
    rw [e]
    unfold mulS
    have ro := rowAt_ok hr hC.abv f.1 g
    revert ro
    generalize rowAt m ab (tof (D.fld c 4) k) = x
    intro ro
    have hm := mul_bd f.2.2.1 f.2.2.2 ro.lo ro.hi
    have e2 : ((k + 1 : Nat) : Int) * 1125899906842624 = (k : Int) * 1125899906842624 + 1125899906842624 := by omega
    rw [wrap_id (show -9223372036854775808 ≤ tco (D.fld c 4) k * D.i (D.fld x 1) by omega) (by omega), wrap_id (by omega) (by omega), e2]
    exact ⟨by simp only; omega, by simp only; omega⟩
theorem leafV_bd {m : D} {ab : List D} {c : D} (hC : LC m ab c) : -500000000000000000 ≤ (leafV m ab c).1 ∧ (leafV m ab c).1 ≤ 500000000000000000 := by
  have hM := modB_facts hC.mv
  have hl0 := ln0 (D.fld c 4)
  unfold leafV
  cases ho : outB m ab (D.fld c 4) with
  | true => exact ⟨by show _ ≤ (0 : Int); omega, by show (0 : Int) ≤ _; omega⟩
  | false =>
    have h4 := mul_len hC.mul ho hC.tot
    have hs := sum2_bd hC ho (D.len (D.fld c 4)).toNat (by omega)
    rw [cond_false]
    revert hs
    generalize sumS34 m ab (D.fld c 4) (D.len (D.fld c 4)).toNat = S
    obtain ⟨s, r⟩ := S
    intro hs
    simp only at hs ⊢
    have e2 : ((D.len (D.fld c 4)).toNat : Int) = D.len (D.fld c 4) := by omega
    have hm4 : ((D.len (D.fld c 4)).toNat : Int) * 1125899906842624 ≤ 450359962737049600 := by omega
    cases shortB m (cDen c) s with
    | true => exact ⟨by show _ ≤ (0 : Int); omega, by show (0 : Int) ≤ _; omega⟩
    | false =>
      rw [cond_false]
      cases hd : iLt 0 (cDen c) with
      | true =>
        rw [iLt_iff] at hd
        have d1 := hC.d1
        have hlow : cDen c * (-450359962737049600) ≤ r := by omega
        have fl := flo_le (v := -450359962737049600) hd hlow (by omega) (by omega)
        rw [cond_true]
        simp only
        rw [wrap_id (by omega) (by omega)]
        omega
      | false =>
        rw [cond_false]
        cases iLt r 0 <;> exact ⟨by show _ ≤ (0 : Int); omega, by show (0 : Int) ≤ _; omega⟩

/-- What the rows of a corner sum up to. -/
theorem sum_app {m : D} {ab s : List D} {y : D} : ∀ k : Nat, k ≤ s.length → sumS34 m ab (.slc (s ++ [y])) k = sumS34 m ab (.slc s) k := by
  intro k
  induction k with
  | zero => intro _; rfl
  | succ k ih =>
    intro hk
    have e1 : sumS34 m ab (.slc (s ++ [y])) (k + 1) = mulS m ab (.slc (s ++ [y])) (sumS34 m ab (.slc (s ++ [y])) k) k := rfl
    have e2 : sumS34 m ab (.slc s) (k + 1) = mulS m ab (.slc s) (sumS34 m ab (.slc s) k) k := rfl
    rw [e1, e2, ih (by omega)]
    unfold mulS tof tco
    rw [xs_get_app (by omega)]
theorem boxR_get {box : List Int} {c o : Nat} (h : o < c) : (boxR box c).getD o .und = .agg [.slc [tm (o : Int) 1], .int (box.getD o 0)] := by
  simp [boxR, List.getD, h]
theorem corn_sum {R ext goal : List D} {c : Nat} {kk : D} {box : List Int} (hg : termsB (.slc goal) c 9 = true) : ∀ k : Nat, k ≤ goal.length →
    (sumS34 (.agg [.int (c : Int), .slc (R ++ boxR box c ++ ext), .slc goal, kk]) [] (.slc (cornL R.length (.slc goal) k)) (cornL R.length (.slc goal) k).length).1.length = c ∧
    ∀ i : Nat, (sumS34 (.agg [.int (c : Int), .slc (R ++ boxR box c ++ ext), .slc goal, kk]) [] (.slc (cornL R.length (.slc goal) k)) (cornL R.length (.slc goal) k).length).1.getD i 0 = (if 0 < coefUp (.slc goal) i k then coefUp (.slc goal) i k else 0) := by
  obtain ⟨m, hm⟩ : ∃ m, D.agg [.int (c : Int), .slc (R ++ boxR box c ++ ext), .slc goal, kk] = m := ⟨_, rfl⟩
  rw [hm]
  intro k
  induction k with
  | zero =>
    intro _
    have e : sumS34 m [] (.slc (cornL R.length (.slc goal) 0)) (cornL R.length (.slc goal) 0).length = (List.replicate (D.i (D.fld m 0)).toNat 0, 0) := rfl
    rw [e]
    refine ⟨by rw [← hm]; simp [fld0, i_int], fun i => ?_⟩
    show (List.replicate _ (0 : Int)).getD i 0 = if 0 < (0 : Int) then 0 else 0
    simp only [List.getD, List.getElem?_replicate]
    split <;> rfl
  | succ k ih =>
    intro hk
    obtain ⟨i1, i2⟩ := ih (by omega)
    have hd : (k : Int) < D.len (.slc goal) := by rw [len_slc]; omega
    have f := badT_facts (terms_at hg hd)
    have e : cornL R.length (.slc goal) (k + 1) = cornS R.length (.slc goal) (cornL R.length (.slc goal) k) k := rfl
    have ec : ∀ i : Int, coefUp (.slc goal) i (k + 1) = cond (iEq (tof (.slc goal) (k : Nat)) i) (tco (.slc goal) (k : Nat)) (coefUp (.slc goal) i k) := fun i => rfl
    have hz : coefUp (.slc goal) (tof (.slc goal) k) k = 0 := coef_none k fun t ht => by
      have := terms_inc hg ht hd
      omega
    rw [e, cornS]
    cases hc : iLt 0 (tco (.slc goal) k) with
    | false =>
      rw [iLt_not] at hc
      rw [cond_false]
      refine ⟨i1, fun i => ?_⟩
      rw [i2, ec]
      by_cases hi : tof (.slc goal) k = i
      · rw [iEq_iff.mpr hi, cond_true, ← hi, hz, if_neg (by omega), if_neg hc]
      · rw [iEq_not.mpr hi, cond_false]
    | true =>
      rw [iLt_iff] at hc
      rw [cond_true]
      obtain ⟨L, hL⟩ : ∃ L, cornL R.length (.slc goal) k = L := ⟨_, rfl⟩
      rw [hL] at i1 i2 ⊢
      rw [List.length_append, List.length_singleton]
      obtain ⟨y, hy⟩ : ∃ y, D.agg [.int ((R.length : Int) + tof (.slc goal) k), D.fld (D.el (.slc goal) (k : Int)) 1] = y := ⟨_, rfl⟩
      rw [hy]
      have e3 : sumS34 m [] (.slc (L ++ [y])) (L.length + 1) = mulS m [] (.slc (L ++ [y])) (sumS34 m [] (.slc (L ++ [y])) L.length) L.length := rfl
      rw [e3, sum_app L.length (Nat.le_refl _)]
      unfold mulS
      have eo : tof (.slc (L ++ [y])) (L.length : Nat) = R.length + tof (.slc goal) k := by unfold tof; rw [xs_get_new, ← hy]; rfl
      have et : tco (.slc (L ++ [y])) (L.length : Nat) = tco (.slc goal) k := by
        show D.i (D.fld (D.el (.slc (L ++ [y])) (L.length : Nat)) 1) = _
        rw [xs_get_new, ← hy]; rfl
      obtain ⟨o, ho⟩ : ∃ o : Nat, tof (.slc goal) k = o := ⟨(tof (.slc goal) k).toNat, by omega⟩
      have er : rowAt m [] (R.length + tof (.slc goal) k) = .agg [.slc [tm (o : Int) 1], .int (box.getD o 0)] := by
        unfold rowAt
        rw [← hm]
        simp only [fld0, fldS, len_slc]
        rw [iLt_iff.mpr (by rw [List.length_append, List.length_append, boxR_len]; omega), cond_true, ho]
        have e5 : ((R.length : Int) + (o : Int)) = ((R.length + o : Nat) : Int) := by omega
        rw [e5]
        show (R ++ boxR box c ++ ext).getD (R.length + o) .und = _
        have hbl := boxR_len box c
        have e6 : (R ++ boxR box c ++ ext).getD (R.length + o) .und = (boxR box c).getD o .und := by
          simp only [List.getD]
          rw [List.getElem?_append_left (by rw [List.length_append]; omega), List.getElem?_append_right (by omega), Nat.add_sub_cancel_left]
        rw [e6, boxR_get (by omega)]
      rw [eo, et, er]
      simp only
      have i2o := i2 o
      rw [show coefUp (.slc goal) (o : Int) k = 0 by rw [← ho]; exact hz, if_neg (by omega)] at i2o
      have hS : rowS (.agg [.slc [tm (o : Int) 1], .int (box.getD o 0)]) (tco (.slc goal) k) (sumS34 m [] (.slc L) L.length).1 = (sumS34 m [] (.slc L) L.length).1.set o (tco (.slc goal) k) := by
        show (sumS34 m [] (.slc L) L.length).1.set (o : Int).toNat (IntKind.wrap .i64 ((sumS34 m [] (.slc L) L.length).1.getD (o : Int).toNat 0 + IntKind.wrap .i64 (tco (.slc goal) k * 1))) = _
        rw [toNat_nat, i2o, Int.mul_one, wrap_id (show -9223372036854775808 ≤ tco (.slc goal) k by omega) (by omega), Int.zero_add, wrap_id (by omega) (by omega)]
      rw [hS]
      refine ⟨by rw [List.length_set]; exact i1, fun i => ?_⟩
      rw [set_get, ec, ho]
      by_cases hi : o = i
      · subst hi
        rw [if_pos ⟨rfl, by omega⟩, iEq_iff.mpr rfl, cond_true, if_pos hc]
      · rw [if_neg (by omega), iEq_not.mpr (by omega), cond_false]
        exact i2 i

theorem corn_ok {R ext goal : List D} {c : Nat} {k : Int} {box : List Int} (hg : termsB (.slc goal) c 9 = true) :
    (leafV (.agg [.int (c : Int), .slc (R ++ boxR box c ++ ext), .slc goal, .int k]) [] (leafC (cornL R.length (.slc goal) goal.length) (.int 1))).2 = (true, false) := by
  have hs := corn_sum (R := R) (ext := ext) (kk := .int k) (box := box) hg goal.length (Nat.le_refl _)
  have cf := corn_facts (R := R.length) hg goal.length (by rw [len_slc]; omega)
  unfold leafV
  have e4 : D.fld (leafC (cornL R.length (.slc goal) goal.length) (.int 1)) 4 = .slc (cornL R.length (.slc goal) goal.length) := rfl
  have e5 : cDen (leafC (cornL R.length (.slc goal) goal.length) (.int 1)) = 1 := rfl
  rw [e4, e5, len_slc, toNat_nat]
  rw [out_of fun t ht => ?_, cond_false]
  · have hsh : shortB (.agg [.int (c : Int), .slc (R ++ boxR box c ++ ext), .slc goal, .int k]) 1 (sumS34 (.agg [.int (c : Int), .slc (R ++ boxR box c ++ ext), .slc goal, .int k]) [] (.slc (cornL R.length (.slc goal) goal.length)) (cornL R.length (.slc goal) goal.length).length).1 = false := by
      refine anyB_false fun i hi => ?_
      rw [hs.2 i, iLt_not]
      have : coefOf (D.fld (.agg [.int (c : Int), .slc (R ++ boxR box c ++ ext), .slc goal, .int k]) 2) i = coefUp (.slc goal) i goal.length := by
        simp only [fld0, fldS]
        unfold coefOf
        rw [len_slc, toNat_nat]
      rw [this]
      split <;> omega
    rw [hsh, cond_false]
    rfl
  · simp only [fld0, fldS, len_slc]
    have hm := el_mem (d := .slc (cornL R.length (.slc goal) goal.length)) ht
    have := (cf.2.2 _ hm).2.1
    unfold tof
    rw [List.length_append, List.length_append, boxR_len]
    omega

section
variable {n : Nat}
theorem cornB_bn {s : List D} (h : LF s) (t : D) : BN 1000 (.agg [.slc [leafC s (.int 1)], t]) := leafB_bn h
theorem lf_leaf {s : List D} (h : LF s) (t : D) : iEq (cL (cAs (.agg [.slc [leafC s (.int 1)], t]) (0 : Nat))) (-1) = true ∧ leafB (cAs (.agg [.slc [leafC s (.int 1)], t]) (0 : Nat)) = true := by
  have e : cAs (.agg [.slc [leafC s (.int 1)], t]) (0 : Nat) = leafC s (.int 1) := rfl
  rw [e]
  refine ⟨rfl, ?_⟩
  simp only [leafB, Bool.and_eq_true, iEq_iff, iLe_iff]
  exact ⟨rfl, rfl, rfl, by show (0 : Int) ≤ 1; omega, by show (1 : Int) ≤ 1024; omega, h.mul⟩
theorem cornB_chk {m : D} {s : List D} (h : LF s) (hmv : modB m = true) (t : Int) : chkV m (.agg [.slc [leafC s (.int 1)], .int t]) = cond (badV (.agg [.slc [leafC s (.int 1)], .int t]) (leafV m [] (leafC s (.int 1)))) 37 0 := by
  have hl := lf_leaf h (.int t)
  exact one_chk hmv (one_bnd rfl hl.1 hl.2) rfl

theorem weaker_wp {l : List Int} (hl : l.length ≤ 2000000) (hn : 1102001 ≤ n) : wpF Try.prog A n 12 [lst l] (fun r => r = [.bool true]) := by
  obtain ⟨p, rfl⟩ : ∃ p, n = p + 1 := ⟨n - 1, by omega⟩
  rw [E12]
  refine new_wp (by omega) hl fun d hd => ?_
  rw [rs0]
  refine boxed_wp hd (by omega) fun m d1 c rows goal k box hs hd1 => ?_
  simp only [rs0, rsS]
  have hc := hs.cols
  have hfew := hs.few
  have hg := hs.goal
  have k0 := hs.k0
  have k1 := hs.k1
  have e0 : D.fld m 0 = .int (c : Int) := by rw [hs.eq]; rfl
  have e1 : D.fld m 1 = .slc (rows ++ boxR box c) := by rw [hs.eq]; rfl
  have e2 : D.fld m 2 = .slc goal := by rw [hs.eq]; rfl
  have e3 : D.fld m 3 = .int k := by rw [hs.eq]; rfl
  have lf := corn_lf (R := rows.length) hg hs.gfl hc hfew
  have lc := lf.lc hs (v := 1) (by omega) (by omega)
  have bd := leafV_bd lc
  refine ⟨trivial, corner_wp hs (by omega) ⟨trivial, leafv'_wp lc (by omega) ?_⟩⟩
  have hok : (leafV m [] (leafC (cornL rows.length (.slc goal) goal.length) (.int 1))).2 = (true, false) := by
    have := corn_ok (R := rows) (ext := []) (k := k) (box := box) hg
    rw [List.append_nil] at this
    rw [hs.eq]
    exact this
  have chk := cornB_chk lf hs.mv
  have ext : ∀ x : D, leafV (.agg [.int (c : Int), .slc (rows ++ boxR box c ++ [x]), .slc goal, .int k]) [] (leafC (cornL rows.length (.slc goal) goal.length) (.int 1)) = leafV m [] (leafC (cornL rows.length (.slc goal) goal.length) (.int 1)) := fun x => by
    rw [hs.eq]
    refine leaf_ext fun t ht => ?_
    have cf := corn_facts (R := rows.length) hg goal.length (by rw [len_slc]; omega)
    have hm := el_mem (d := .slc (cornL rows.length (.slc goal) goal.length)) ht
    have := (cf.2.2 _ hm)
    show 0 ≤ D.i (D.fld _ 0) ∧ D.i (D.fld _ 0) < _
    rw [List.length_append, boxR_len]
    refine ⟨Int.le_trans (by omega) this.1, Int.lt_of_lt_of_le this.2.1 (by omega)⟩
  have chk2 : ∀ (x : D) (t : Int), modB (.agg [.int (c : Int), .slc (rows ++ boxR box c ++ [x]), .slc goal, .int k]) = true → _ := fun x t hy => cornB_chk lf hy t
  revert bd hok chk ext chk2
  generalize hv : leafV m [] (leafC (cornL rows.length (.slc goal) goal.length) (.int 1)) = v
  obtain ⟨v, ok, none⟩ := v
  intro bd hok chk ext chk2
  simp only [Prod.mk.injEq] at hok
  obtain ⟨rfl, rfl⟩ := hok
  simp only [rs0, rsS, b_bool, i_int] at bd ⊢
  refine ⟨trivial, trivial, next_wp (by omega) hd1 (by omega) (by omega) fun w d2 hw0 hw1 hd2 => ?_⟩
  simp only [rs0, rsS, i_int]
  rw [e0, e1, e2, e3, xs_slc]
  refine ⟨trivial, trivial, by unfold room; rw [hs.rlen]; omega, tterms_wp hd2 (by omega) (by omega) (by omega) fun s d3 hs3 hsf hd3 => ?_⟩
  simp only [rs0, rsS]
  have hsl := terms_len hs3 (by omega)
  refine next_wp (by omega) hd3 (by omega) (by omega) fun z d4 hz0 hz1 hd4 => ?_
  simp only [rs0]
  refine ⟨by unfold room; rw [hs.rlen, List.length_singleton]; omega, trivial, trivial, trivial, ?_⟩
  simp only [hv, cond_true]
  have bb : ∀ t : Int, Bx (.agg [.slc [leafC (cornL rows.length (.slc goal) goal.length) (.int 1)], .int t]) := fun t => (leafB_bn lf).bx (by omega)
  have hbad : ∀ t : Int, badV (.agg [.slc [leafC (cornL rows.length (.slc goal) goal.length) (.int 1)], .int t]) (v, true, false) = iLt t v := fun t => by
    unfold badV
    simp only [fld0, fldS, i_int, Bool.not_true, Bool.not_false, Bool.false_or, Bool.true_and]
  refine check_wp hs.mo (bb v) (by omega) ?_
  rw [chk, hbad, iLt_not.mpr (by omega)]
  refine cEq (fun _ => ?_) fun c => absurd rfl c
  refine check_wp hs.mo (bb _) (by omega) ?_
  rw [wrap_id (show -9223372036854775808 ≤ v + w by omega) (by omega), chk, hbad, iLt_not.mpr (by omega)]
  refine cEq (fun _ => ?_) fun c => absurd rfl c
  have hrow : SR c (.agg [.slc s, .int z]) := ⟨s, z, rfl, hs3, by omega, by omega⟩
  have hall : ∀ x ∈ rows ++ boxR box c ++ [D.agg [.slc s, .int z]], SR c x := fun x hx => by
    rcases List.mem_append.mp hx with hx | hx
    · exact hs.all x hx
    · rw [List.mem_singleton.mp hx]; exact hrow
  have hlen : (rows ++ boxR box c ++ [D.agg [.slc s, .int z]]).length ≤ 11 := by rw [List.length_append, hs.rlen, List.length_singleton]; omega
  have hym : modB (.agg [.int (c : Int), .slc (rows ++ boxR box c ++ [.agg [.slc s, .int z]]), .slc goal, .int k]) = true :=
    modB_of (by omega) (by omega) (by omega) (terms_mono (by omega) (by omega) hg) ⟨by omega, by omega⟩ fun x hx => (hall x hx).row
  have hyo : Mo (.agg [.int (c : Int), .slc (rows ++ boxR box c ++ [.agg [.slc s, .int z]]), .slc goal, .int k]) := by
    refine ⟨?_, fun i hi => ?_, ?_⟩
    · show D.len (.slc _) ≤ _
      rw [len_slc]; omega
    · obtain ⟨s', mo, e, h1, _⟩ := hall _ (el_mem (d := .slc _) hi)
      show D.len (D.fld (D.el (.slc _) (i : Int)) 0) ≤ _
      rw [e]
      have := terms_len h1 (by omega)
      show D.len (.slc s') ≤ _
      omega
    · have := terms_len hg (by omega)
      show D.len (.slc goal) ≤ _
      omega
  refine check_wp hyo (bb v) (by omega) ?_
  rw [chk2 _ _ hym, ext, hbad, iLt_not.mpr (by omega)]
  refine cEq (fun _ => ?_) fun c => absurd rfl c
  refine check_wp hs.mo (bb _) (by omega) ?_
  rw [wrap_id (show -9223372036854775808 ≤ v - 1 by omega) (by omega), chk, hbad, iLt_iff.mpr (by omega)]
  refine cEq (fun _ => ?_) fun c => absurd rfl c
  exact awake_wp (by omega) rfl
end
end Go.Ab

/- The law of splits: two accepted leaves are accepted as a split. -/
namespace Go.Ab
open Go.Proofs
attribute [local irreducible] wpF

/-- A leaf whose rows are the model's is left as it is. -/
theorem mv_keep {R : Int} {c : D} (hl : ∀ t : Nat, (t : Int) < D.len (D.fld c 4) → tof (D.fld c 4) t < R) : (D.xs (D.fld c 4)).map (shT R) = D.xs (D.fld c 4) := by
  have : ∀ x ∈ D.xs (D.fld c 4), shT R x = x := fun x hx => by
    obtain ⟨k, hk, e⟩ := List.mem_iff_getElem.mp hx
    have h1 := hl k (by show (k : Int) < ((D.xs (D.fld c 4)).length : Nat); omega)
    have h2 : D.el (D.fld c 4) (k : Int) = x := by simp [D.el, List.getD, hk, e]
    unfold tof at h1
    rw [h2] at h1
    unfold shT
    rw [iLe_not.mpr (by omega)]
    rfl
  have e2 := List.map_congr_left this
  rw [e2]; simp

theorem tof_slc (l : D) (t : Int) : tof (.slc (D.xs l)) t = tof l t := rfl
theorem tco_slc (l : D) (t : Int) : tco (.slc (D.xs l)) t = tco l t := rfl
theorem sum_slc (m : D) (ab : List D) (l : D) : ∀ k, sumS34 m ab (.slc (D.xs l)) k = sumS34 m ab l k := by
  intro k
  induction k with
  | zero => rfl
  | succ k ih =>
    have e1 : sumS34 m ab (.slc (D.xs l)) (k + 1) = mulS m ab (.slc (D.xs l)) (sumS34 m ab (.slc (D.xs l)) k) k := rfl
    have e2 : sumS34 m ab l (k + 1) = mulS m ab l (sumS34 m ab l k) k := rfl
    rw [e1, e2, ih]
    rfl
theorem leafV_mv {m : D} {ab : List D} {c : D} {b R : Int} (hk : (D.xs (D.fld c 4)).map (shT R) = D.xs (D.fld c 4)) : leafV m ab (mvC b R c) = leafV m ab c := by
  unfold leafV
  have e4 : D.fld (mvC b R c) 4 = .slc (D.xs (D.fld c 4)) := by rw [← hk]; rfl
  have e5 : cDen (mvC b R c) = cDen c := rfl
  have el : D.len (.slc (D.xs (D.fld c 4))) = D.len (D.fld c 4) := rfl
  have eo : outB m ab (.slc (D.xs (D.fld c 4))) = outB m ab (D.fld c 4) := rfl
  rw [e4, e5, eo, el, sum_slc]
theorem leafB_mv {c : D} {b R : Int} (hk : (D.xs (D.fld c 4)).map (shT R) = D.xs (D.fld c 4)) (hL : iEq (cL c) (-1) = true) (h : leafB c = true) : leafB (mvC b R c) = true ∧ iEq (cL (mvC b R c)) (-1) = true := by
  have e : cL (mvC b R c) = cL c := by unfold mvC; rw [hL]; rfl
  have er : cR (mvC b R c) = cR c := by unfold mvC; rw [hL]; rfl
  have e4 : D.fld (mvC b R c) 4 = .slc (D.xs (D.fld c 4)) := by rw [← hk]; rfl
  have em : mulB (.slc (D.xs (D.fld c 4))) = mulB (D.fld c 4) := rfl
  refine ⟨?_, by rw [e]; exact hL⟩
  unfold leafB at h ⊢
  rw [er, e4, em]
  exact h

/-- Two leaves below a split. -/
structure TwoL (m form at_ x y : D) : Prop where
  mv : modB m = true
  frm : formB m form (D.i at_) = true
  lx : D.len (cs x) = 1
  ly : D.len (cs y) = 1
  bx : bndB m x = true
  by_ : bndB m y = true
  inx : ∀ t : Nat, (t : Int) < D.len (D.fld (cAs x (0 : Nat)) 4) → tof (D.fld (cAs x (0 : Nat)) 4) t < D.len (D.fld m 1)
  iny : ∀ t : Nat, (t : Int) < D.len (D.fld (cAs y (0 : Nat)) 4) → tof (D.fld (cAs y (0 : Nat)) 4) t < D.len (D.fld m 1)

theorem xs_one {d : D} (h : D.len d = 1) : D.xs d = [D.el d ((0 : Nat) : Int)] := by
  have h : (((D.xs d).length : Nat) : Int) = 1 := h
  have e : (D.xs d).length = 1 := by omega
  match hx : D.xs d, e with
  | [a], _ => simp [D.el, hx]

section
variable {m form at_ x y : D}
theorem TwoL.cases_eq (h : TwoL m form at_ x y) : cs (joinB m form at_ x y) = .slc [rootC m form at_ x, mvC 1 (D.len (D.fld m 1)) (cAs x (0 : Nat)), mvC 2 (D.len (D.fld m 1)) (cAs y (0 : Nat))] := by
  show D.slc ([rootC m form at_ x] ++ (D.xs (cs x)).map _ ++ (D.xs (cs y)).map _) = _
  rw [xs_one h.lx, xs_one h.ly, h.lx]
  rfl
theorem TwoL.kx (h : TwoL m form at_ x y) : (D.xs (D.fld (cAs x (0 : Nat)) 4)).map (shT (D.len (D.fld m 1))) = D.xs (D.fld (cAs x (0 : Nat)) 4) := mv_keep h.inx
theorem TwoL.ky (h : TwoL m form at_ x y) : (D.xs (D.fld (cAs y (0 : Nat)) 4)).map (shT (D.len (D.fld m 1))) = D.xs (D.fld (cAs y (0 : Nat)) 4) := mv_keep h.iny
theorem TwoL.c0 (h : TwoL m form at_ x y) : cAs (joinB m form at_ x y) ((0 : Nat) : Int) = rootC m form at_ x := by unfold cAs; rw [h.cases_eq]; rfl
theorem TwoL.c1 (h : TwoL m form at_ x y) : cAs (joinB m form at_ x y) ((1 : Nat) : Int) = mvC 1 (D.len (D.fld m 1)) (cAs x (0 : Nat)) := by unfold cAs; rw [h.cases_eq]; rfl
theorem TwoL.c2 (h : TwoL m form at_ x y) : cAs (joinB m form at_ x y) ((2 : Nat) : Int) = mvC 2 (D.len (D.fld m 1)) (cAs y (0 : Nat)) := by unfold cAs; rw [h.cases_eq]; rfl
theorem TwoL.l3 (h : TwoL m form at_ x y) : D.len (cs (joinB m form at_ x y)) = 3 := by rw [h.cases_eq]; rfl
theorem TwoL.v1 (h : TwoL m form at_ x y) : leafB (mvC 1 (D.len (D.fld m 1)) (cAs x (0 : Nat))) = true ∧ iEq (cL (mvC 1 (D.len (D.fld m 1)) (cAs x (0 : Nat)))) (-1) = true := leafB_mv (b := 1) h.kx (one_leaf h.lx h.bx).1 (one_leaf h.lx h.bx).2
theorem TwoL.v2 (h : TwoL m form at_ x y) : leafB (mvC 2 (D.len (D.fld m 1)) (cAs y (0 : Nat))) = true ∧ iEq (cL (mvC 2 (D.len (D.fld m 1)) (cAs y (0 : Nat)))) (-1) = true := leafB_mv (b := 2) h.ky (one_leaf h.ly h.by_).1 (one_leaf h.ly h.by_).2
theorem TwoL.root (h : TwoL m form at_ x y) : iEq (cL (rootC m form at_ x)) (-1) = false ∧ cL (rootC m form at_ x) = 1 ∧ cR (rootC m form at_ x) = 2 ∧ splitB m (rootC m form at_ x) ((0 : Nat) : Int) = true := by
  have e1 : cL (rootC m form at_ x) = 1 := rfl
  have e2 : cR (rootC m form at_ x) = 2 := by show 1 + D.len (cs x) = 2; rw [h.lx]; rfl
  refine ⟨by rw [e1]; rfl, e1, e2, ?_⟩
  unfold splitB
  rw [e1, e2]
  have ef : formB m (D.fld (rootC m form at_ x) 2) (cAt (rootC m form at_ x)) = formB m form (D.i at_) := rfl
  rw [ef, h.frm]
  rfl
theorem TwoL.names (h : TwoL m form at_ x y) : namesO m (joinB m form at_ x y) = some [false, true, true] := by
  unfold namesO
  rw [h.l3]
  have s0 : vS m (joinB m form at_ x y) [false, false, false] 0 = some [false, true, true] := by
    rw [vS_split (by rw [h.c0]; exact h.root.1), h.c0, h.root.2.2.2, h.l3, h.root.2.1, h.root.2.2.1]
    rfl
  have s1 : vS m (joinB m form at_ x y) [false, true, true] 1 = some [false, true, true] := by
    rw [vS_leaf (by rw [h.c1]; exact h.v1.2), h.c1, h.v1.1]; rfl
  have s2 : vS m (joinB m form at_ x y) [false, true, true] 2 = some [false, true, true] := by
    rw [vS_leaf (by rw [h.c2]; exact h.v2.2), h.c2, h.v2.1]; rfl
  show iterO (vS m (joinB m form at_ x y)) [false, false, false] 3 = _
  have i1 : iterO (vS m (joinB m form at_ x y)) [false, false, false] 1 = some [false, true, true] := s0
  have i2 : iterO (vS m (joinB m form at_ x y)) [false, false, false] 2 = some [false, true, true] := by
    show (iterO (vS m (joinB m form at_ x y)) [false, false, false] 1).bind (fun t => vS m (joinB m form at_ x y) t 1) = _
    rw [i1]; exact s1
  show (iterO (vS m (joinB m form at_ x y)) [false, false, false] 2).bind (fun t => vS m (joinB m form at_ x y) t 2) = _
  rw [i2]; exact s2
theorem TwoL.bnd (h : TwoL m form at_ x y) : bndB m (joinB m form at_ x y) = true := by
  unfold bndB
  rw [h.names, h.l3]
  decide
theorem TwoL.rows (h : TwoL m form at_ x y) : rowsOf (joinB m form at_ x y) 0 = [] ∧ rowsOf (joinB m form at_ x y) 1 = [sideL (rootC m form at_ x)] ∧ rowsOf (joinB m form at_ x y) 2 = [sideR (rootC m form at_ x)] := by
  have e0 : abv (joinB m form at_ x y) 0 = [[], [], []] := by
    show List.replicate (D.len (cs (joinB m form at_ x y))).toNat [] = _
    rw [h.l3]; rfl
  have e1 : abv (joinB m form at_ x y) 1 = [[], [sideL (rootC m form at_ x)], [sideR (rootC m form at_ x)]] := by
    show aS (joinB m form at_ x y) (abv (joinB m form at_ x y) 0) 0 = _
    unfold aS
    rw [e0, h.c0, h.root.1, h.root.2.1, h.root.2.2.1]
    rfl
  have l3 := h.l3
  unfold rowsOf
  rw [h.l3]
  refine ⟨?_, ?_, ?_⟩
  · rw [abv_stable h.bnd (Int.toNat 3) (by omega) (show 0 ≤ _ by omega), e0]; rfl
  · rw [abv_stable h.bnd (Int.toNat 3) (by omega) (show 1 ≤ _ by omega), e1]; rfl
  · have e2 : abv (joinB m form at_ x y) 2 = [[], [sideL (rootC m form at_ x)], [sideR (rootC m form at_ x)]] := by
      show aS (joinB m form at_ x y) (abv (joinB m form at_ x y) 1) 1 = _
      unfold aS
      rw [h.c1, h.v1.2, e1]
      rfl
    rw [abv_stable h.bnd (Int.toNat 3) (by omega) (show 2 ≤ _ by omega), e2]; rfl

theorem TwoL.cases2 (h : TwoL m form at_ x y) : casesN (joinB m form at_ x y) = 2 := by
  unfold casesN
  rw [h.l3]
  show casesS (joinB m form at_ x y) (casesS (joinB m form at_ x y) (casesS (joinB m form at_ x y) 0 0) 1) 2 = 2
  unfold casesS
  rw [h.c0, h.c1, h.c2, h.root.1, h.v1.2, h.v2.2]
  rfl

theorem bad_ok {b : D} {v : Int × (Bool × Bool)} (h : badV b v = false) : v.2.1 = true ∧ (v.2.2 = true ∨ v.1 ≤ D.i (D.fld b 1)) := by
  unfold badV at h
  rw [Bool.or_eq_false_iff, Bool.and_eq_false_iff, iLt_not] at h
  refine ⟨by simpa using h.1, ?_⟩
  rcases h.2 with h | h
  · left; simpa using h
  · right; omega
theorem bad_mono {b b' : D} {v : Int × (Bool × Bool)} (h : badV b v = false) (hb : D.i (D.fld b 1) ≤ D.i (D.fld b' 1)) : badV b' v = false := by
  obtain ⟨h1, h2⟩ := bad_ok h
  unfold badV
  rw [h1, Bool.or_eq_false_iff, Bool.and_eq_false_iff, iLt_not]
  refine ⟨rfl, ?_⟩
  rcases h2 with h2 | h2
  · left; rw [h2]; rfl
  · right; omega
theorem ok_in {m c : D} {ab : List D} (h : (leafV m ab c).2.1 = true) : outB m ab (D.fld c 4) = false := by
  unfold leafV at h
  cases ho : outB m ab (D.fld c 4) with
  | false => rfl
  | true => rw [ho] at h; cases h
theorem zero_bad {m b : D} (hmv : modB m = true) (h1 : D.len (cs b) = 1) (h : chkV m b = 0) : bndB m b = true ∧ badV b (leafV m [] (cAs b (0 : Nat))) = false ∧ ∀ t : Nat, (t : Int) < D.len (D.fld (cAs b (0 : Nat)) 4) → 0 ≤ tof (D.fld (cAs b (0 : Nat)) 4) t ∧ tof (D.fld (cAs b (0 : Nat)) 4) t < D.len (D.fld m 1) := by
  have hb : bndB m b = true := by
    unfold chkV at h
    rw [hmv, cond_true] at h
    cases hb : bndB m b with
    | true => rfl
    | false => rw [hb] at h; cases h
  have hc := one_chk hmv hb h1
  rw [h] at hc
  have hbad : badV b (leafV m [] (cAs b (0 : Nat))) = false := by
    cases he : badV b (leafV m [] (cAs b (0 : Nat))) with
    | false => rfl
    | true => rw [he] at hc; cases hc
  refine ⟨hb, hbad, fun t ht => ?_⟩
  have ho := ok_in (bad_ok hbad).1
  have hl := one_leaf h1 hb
  have hm := (leaf_facts hl.2).2.2.2.2.2
  have := out_at ho ht
  rw [List.length_nil] at this
  exact ⟨(badM_facts (mul_at hm ht)).1, by omega⟩

theorem split_chk {m form at_ x y c g k : D} {R : List D} (hm : m = .agg [c, .slc R, g, k]) (hR : R.length ≤ 300) (h : TwoL m form at_ x y) (hx : badV x (leafV m [] (cAs x (0 : Nat))) = false) (hy : badV y (leafV m [] (cAs y (0 : Nat))) = false)
    (hx0 : ∀ t : Nat, (t : Int) < D.len (D.fld (cAs x (0 : Nat)) 4) → 0 ≤ tof (D.fld (cAs x (0 : Nat)) 4) t) (hy0 : ∀ t : Nat, (t : Int) < D.len (D.fld (cAs y (0 : Nat)) 4) → 0 ≤ tof (D.fld (cAs y (0 : Nat)) 4) t) : chkV m (joinB m form at_ x y) = 0 := by
  have eR : D.len (D.fld m 1) = R.length := by rw [hm]; rfl
  have lv : ∀ (z : D) (ab : List D), (∀ t : Nat, (t : Int) < D.len (D.fld z 4) → 0 ≤ tof (D.fld z 4) t) → (∀ t : Nat, (t : Int) < D.len (D.fld z 4) → tof (D.fld z 4) t < D.len (D.fld m 1)) → leafV m ab z = leafV m [] z := fun z ab h1 h2 => by
    have := leaf_ext (c := c) (g := g) (k := k) (R := R) (ext := []) (ab := ab) (ab' := []) (x := z) fun t ht => ⟨h1 t ht, by have := h2 t ht; omega⟩
    rw [List.append_nil, ← hm] at this
    exact this
  have hmx : D.i (D.fld x 1) ≤ D.i (D.fld (joinB m form at_ x y) 1) ∧ D.i (D.fld y 1) ≤ D.i (D.fld (joinB m form at_ x y) 1) := by
    show _ ≤ minmax true (D.i (D.fld x 1)) (D.i (D.fld y 1)) ∧ _ ≤ minmax true (D.i (D.fld x 1)) (D.i (D.fld y 1))
    simp only [minmax, if_true]
    split <;> omega
  unfold chkV
  rw [h.mv, h.bnd, h.l3]
  have hlong : anyB (longB m (joinB m form at_ x y)) (Int.toNat 3) = false := by
    refine anyB_false fun i hi => ?_
    have := abv_short (joinB m form at_ x y) (D.len (cs (joinB m form at_ x y))).toNat i
    rw [h.l3] at this
    unfold longB rowsOf
    rw [h.l3, iLt_not, eR]
    omega
  have hbad : anyB (badC m (joinB m form at_ x y)) (Int.toNat 3) = false := by
    refine anyB_false fun i hi => ?_
    unfold badC
    have hi : i < 3 := hi
    match i, hi with
    | 0, _ => rw [h.c0, h.root.1]; rfl
    | 1, _ =>
      rw [h.c1, h.v1.2, Bool.true_and, h.rows.2.1, leafV_mv h.kx, lv _ _ hx0 h.inx]
      exact bad_mono hx hmx.1
    | 2, _ =>
      rw [h.c2, h.v2.2, Bool.true_and, h.rows.2.2, leafV_mv h.ky, lv _ _ hy0 h.iny]
      exact bad_mono hy hmx.2
  rw [hlong, hbad]
  rfl

theorem RowOk.rowB {cols : Int} {x : D} (h : RowOk cols x) : rowB x cols = true := by
  unfold Go.Ab.rowB
  rw [Bool.and_eq_true]
  exact ⟨h.terms, wi_of h.lo h.hi⟩
end

section
variable {n : Nat}
theorem splits_wp {l : List Int} (hl : l.length ≤ 2000000) (hn : 1102001 ≤ n) : wpF Try.prog A n 14 [lst l] (fun r => r = [.bool true]) := by
  obtain ⟨p, rfl⟩ : ∃ p, n = p + 1 := ⟨n - 1, by omega⟩
  rw [E14]
  refine new_wp (by omega) hl fun d hd => ?_
  rw [rs0]
  refine boxed_wp hd (by omega) fun m d1 c rows goal k box hs hd1 => ?_
  simp only [rs0, rsS]
  have hc := hs.cols
  have hfew := hs.few
  have hg := hs.goal
  have k0 := hs.k0
  have k1 := hs.k1
  have hgl := terms_len hg (by omega)
  have hrl := hs.rlen
  have e0 : D.fld m 0 = .int (c : Int) := by rw [hs.eq]; rfl
  have e1 : D.fld m 1 = .slc (rows ++ boxR box c) := by rw [hs.eq]; rfl
  have e2 : D.fld m 2 = .slc goal := by rw [hs.eq]; rfl
  have e3 : D.fld m 3 = .int k := by rw [hs.eq]; rfl
  rw [e0, e1, e2, e3, xs_slc]
  refine ⟨trivial, tterms_wp hd1 (by omega) (by omega) (by omega) fun s d2 hs2 hsf hd2 => ?_⟩
  simp only [rs0, rsS]
  have hsl := terms_len hs2 (by omega)
  refine next_wp (by omega) hd2 (by omega) (by omega) fun a d3 ha0 ha1 hd3 => ?_
  simp only [rs0, rsS, i_int]
  rw [wrap_id (show -9223372036854775808 ≤ a - 4 by omega) (by omega)]
  refine sides_wp (c := .agg [.und, .und, .slc s, .int (a - 4)]) (by show D.len (.slc s) ≤ _; omega) (by omega) ?_
  have frm : formB m (.slc s) (a - 4) = true := by
    unfold formB
    rw [e0, i_int, terms_mono (Int.le_refl _) (by omega) hs2, iLe_iff.mpr (by omega), iLt_iff.mpr (by omega)]
    rfl
  have okL : RowOk (D.i (D.fld m 0)) (sideL (.agg [.und, .und, .slc s, .int (a - 4)])) := sideL_ok frm (by show D.len (.slc s) ≤ _; omega)
  have okR : RowOk (D.i (D.fld m 0)) (sideR (.agg [.und, .und, .slc s, .int (a - 4)])) := sideR_ok frm (by show D.len (.slc s) ≤ _; omega)
  rw [e0, i_int] at okL okR
  simp only [rs0, rsS]
  revert okL okR
  generalize sideL (.agg [.und, .und, .slc s, .int (a - 4)]) = ra
  generalize sideR (.agg [.und, .und, .slc s, .int (a - 4)]) = rb
  intro okL okR
  refine ⟨trivial, trivial, trivial, trivial, by unfold room; omega, by unfold room; rw [List.length_singleton]; omega, by unfold room; omega, by unfold room; rw [List.length_singleton]; omega, trivial, trivial, ?_⟩
  refine lbound_wp hs 1 (by omega) hd3 (by omega) fun x d4 hx hd4 => ?_
  simp only [rs0, rsS]
  refine lbound_wp hs 1 (by omega) hd4 (by omega) fun y d5 hy hd5 => ?_
  simp only [rs0]
  have hx1 := hx.mono (show (1000 : Int) ≤ 1100000 by omega)
  have hy1 := hy.mono (show (1000 : Int) ≤ 1100000 by omega)
  have bx := hx1.bx (Int.le_refl _)
  have by_ := hy1.bx (Int.le_refl _)
  refine ⟨trivial, trivial, check'_wp hs.mo bx (by omega) ?_⟩
  refine cNe (fun _ => awake_wp (by omega) rfl) fun zx => check'_wp hs.mo by_ (by omega) ?_
  refine cNe (fun _ => awake_wp (by omega) rfl) fun zy => ?_
  have zx : chkV m x = 0 := zx
  have zy : chkV m y = 0 := zy
  have hmv := hs.mv
  have bnd_of : ∀ b, chkV m b = 0 → bndB m b = true := fun b h => by
    unfold chkV at h
    rw [hmv, cond_true] at h
    cases hb : bndB m b with
    | true => rfl
    | false => rw [hb] at h; cases h
  have lx := bnd_len (bnd_of x zx)
  have ly := bnd_len (bnd_of y zy)
  show cond (iLt 2 (IntKind.wrap .i64 (D.len (cs x) + D.len (cs y)))) _ _
  rw [wrap_id (by omega) (by omega)]
  refine cLt (fun _ => awake_wp (by omega) rfl) fun h2 => ?_
  have lx1 : D.len (cs x) = 1 := by omega
  have ly1 : D.len (cs y) = 1 := by omega
  obtain ⟨vx, gx, inx⟩ := zero_bad hmv lx1 zx
  obtain ⟨vy, gy, iny⟩ := zero_bad hmv ly1 zy
  have two : TwoL m (.slc s) (.int (a - 4)) x y := ⟨hmv, frm, lx1, ly1, vx, vy, fun t ht => (inx t ht).2, fun t ht => (iny t ht).2⟩
  have zr : chkV m (joinB m (.slc s) (.int (a - 4)) x y) = 0 := split_chk hs.eq (by omega) two gx gy (fun t ht => (inx t ht).1) fun t ht => (iny t ht).1
  have je : joinE m (.slc s) (.int (a - 4)) x y = 0 := by
    unfold joinE
    rw [hmv, i_int, frm, vx, vy, lx1, ly1]
    rfl
  have jv : joinV m (.slc s) (.int (a - 4)) x y = joinB m (.slc s) (.int (a - 4)) x y := by unfold joinV; rw [je]; rfl
  refine join_wp hs.mo (by omega) hx1 hy1 (by omega) ?_
  rw [je, jv]
  simp only [rs0, rsS, i_int]
  refine ⟨trivial, ?_⟩
  refine cEq (fun _ => ?_) fun c => absurd rfl c
  refine cEq (fun _ => ?_) fun c => absurd rfl c
  have jb : BN 1100000 (joinB m (.slc s) (.int (a - 4)) x y) := bnd_app hx1 hy1 (by omega) hsf (by omega)
  refine check_wp hs.mo (jb.bx (Int.le_refl _)) (by omega) ?_
  rw [zr]
  refine cEq (fun _ => ?_) fun c => absurd rfl c
  refine cases_wp jb.cases (by omega) ?_
  rw [two.cases2]
  refine cEq (fun _ => ?_) fun c => absurd rfl c
  -- models with a row more
  have more : ∀ (r z : D), RowOk c r → BN 1100000 z → D.len (cs z) = 1 → bndB m z = true → badV z (leafV m [] (cAs z (0 : Nat))) = false → (∀ t : Nat, (t : Int) < D.len (D.fld (cAs z (0 : Nat)) 4) → 0 ≤ tof (D.fld (cAs z (0 : Nat)) 4) t ∧ tof (D.fld (cAs z (0 : Nat)) 4) t < D.len (D.fld m 1)) →
      Mo (.agg [.int (c : Int), .slc (rows ++ boxR box c ++ [r]), .slc goal, .int k]) ∧ chkV (.agg [.int (c : Int), .slc (rows ++ boxR box c ++ [r]), .slc goal, .int k]) z = 0 := by
    intro r z hr hz lz vz gz inz
    have hlen : (rows ++ boxR box c ++ [r]).length ≤ 11 := by rw [List.length_append, hrl, List.length_singleton]; omega
    have hym : modB (.agg [.int (c : Int), .slc (rows ++ boxR box c ++ [r]), .slc goal, .int k]) = true := by
      refine modB_of (by omega) (by omega) (by omega) (terms_mono (by omega) (by omega) hg) ⟨by omega, by omega⟩ fun x hx => ?_
      rcases List.mem_append.mp hx with hx | hx
      · exact (hs.all x hx).row
      · rw [List.mem_singleton.mp hx]; exact hr.rowB
    have hyo : Mo (.agg [.int (c : Int), .slc (rows ++ boxR box c ++ [r]), .slc goal, .int k]) := by
      refine ⟨?_, fun i hi => ?_, ?_⟩
      · show D.len (.slc _) ≤ _
        rw [len_slc]; omega
      · have hmem := el_mem (d := .slc (rows ++ boxR box c ++ [r])) hi
        show D.len (D.fld (D.el (.slc _) (i : Int)) 0) ≤ _
        rcases List.mem_append.mp hmem with hx | hx
        · obtain ⟨s', mo, e, h1, _⟩ := hs.all _ hx
          rw [e]
          have := terms_len h1 (by omega)
          show D.len (.slc s') ≤ _
          omega
        · rw [List.mem_singleton.mp hx]; exact hr.len
      · show D.len (.slc goal) ≤ _
        omega
    refine ⟨hyo, ?_⟩
    have hlf := one_leaf lz vz
    rw [one_chk hym (one_bnd lz hlf.1 hlf.2) lz]
    have := leaf_ext (c := .int (c : Int)) (g := .slc goal) (k := .int k) (R := rows ++ boxR box c) (ext := [r]) (ab := []) (ab' := []) (x := cAs z (0 : Nat)) fun t ht => by
      have := inz t ht
      rw [e1, len_slc] at this
      exact this
    rw [this, ← hs.eq, gz]
    rfl
  obtain ⟨ox, cx⟩ := more ra x okL hx1 lx1 vx gx inx
  obtain ⟨oy, cy⟩ := more rb y okR hy1 ly1 vy gy iny
  refine check'_wp ox bx (by omega) ?_
  rw [cx]
  refine cEq (fun _ => ?_) fun c => absurd rfl c
  refine check'_wp oy by_ (by omega) ?_
  rw [cy]
  refine cEq (fun _ => ?_) fun c => absurd rfl c
  exact awake_wp (by omega) rfl
end
end Go.Ab
