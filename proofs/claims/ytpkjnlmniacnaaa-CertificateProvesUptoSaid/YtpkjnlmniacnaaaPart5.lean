/- Equations and plain laws of the functions that the statement reaches, part 5. Conditions: those in each theorem. -/
import Derived.Test.YtpkjnlmniacnaaaPart4
set_option linter.unusedVariables false
set_option linter.unusedSimpArgs false
/- The law's models: made ones are valid, small and boxed. -/
namespace Go.Ab
open Go.Proofs
attribute [local irreducible] wpF

def tm (o c : Int) : D := .agg [.int o, .int c]
/-- A term of numbers. -/
def Fl (x : D) : Prop := ∃ a b : Int, x = tm a b
theorem fl_snoc {s : List D} {x : D} (h : ∀ y ∈ s, Fl y) (hx : Fl x) : ∀ y ∈ s ++ [x], Fl y := fun y hy => by
  rcases List.mem_append.mp hy with hy | hy
  · exact h y hy
  · rw [List.mem_singleton.mp hy]; exact hx
theorem xs_get_app {s : List D} {x : D} {k : Nat} (hk : k < s.length) : D.el (.slc (s ++ [x])) (k : Int) = D.el (.slc s) (k : Int) := by
  show (s ++ [x]).getD k .und = s.getD k .und
  simp only [List.getD]
  rw [List.getElem?_append_left hk]
theorem xs_get_new {s : List D} {x : D} : D.el (.slc (s ++ [x])) (s.length : Int) = x := by
  show (s ++ [x]).getD s.length .und = x
  simp [List.getD]

theorem badT_mono {l : D} {c c' M M' : Int} {k : Nat} (hc : c ≤ c') (hM : M ≤ M') (h : badT l c M k = false) : badT l c' M' k = false := by
  have f := badT_facts h
  exact badT_of f.1 (by omega) f.2.2.1 (by omega) (by omega) f.2.2.2.2.2
theorem terms_mono {l : D} {c c' M M' : Int} (hc : c ≤ c') (hM : M ≤ M') (h : termsB l c M = true) : termsB l c' M' = true :=
  terms_of fun k hk => badT_mono hc hM (terms_at h hk)

theorem terms_snoc {s : List D} {k c M : Int} (h : termsB (.slc s) k M = true) (hk : 0 ≤ k) (h1 : -M ≤ c) (h2 : c ≤ M) (h3 : c ≠ 0) : termsB (.slc (s ++ [tm k c])) (k + 1) M = true := by
  refine terms_of fun j hj => ?_
  rw [len_slc, List.length_append, List.length_singleton] at hj
  by_cases e : j = s.length
  · subst e
    have eo : tof (.slc (s ++ [tm k c])) (s.length : Nat) = k := by unfold tof; rw [xs_get_new]; rfl
    have ec : tco (.slc (s ++ [tm k c])) (s.length : Nat) = c := by unfold tco; rw [xs_get_new]; rfl
    refine badT_of (by omega) (by omega) (fun h0 => ?_) (by omega) (by omega) (by omega)
    rw [eo, show ((s.length : Int) - 1) = ((s.length - 1 : Nat) : Int) by omega]
    unfold tof
    rw [xs_get_app (by omega)]
    have f := badT_facts (terms_at h (show ((s.length - 1 : Nat) : Int) < D.len (.slc s) by rw [len_slc]; omega))
    exact f.2.1
  · have f := badT_facts (terms_at h (show (j : Int) < D.len (.slc s) by rw [len_slc]; omega))
    have eo : ∀ i : Nat, i ≤ j → tof (.slc (s ++ [tm k c])) (i : Nat) = tof (.slc s) (i : Nat) := fun i hi => by unfold tof; rw [xs_get_app (by omega)]
    have ec : tco (.slc (s ++ [tm k c])) (j : Nat) = tco (.slc s) (j : Nat) := by unfold tco; rw [xs_get_app (by omega)]
    refine badT_of (by rw [eo j (by omega)]; omega) (by rw [eo j (by omega)]; omega) (fun h0 => ?_) (by omega) (by omega) (by omega)
    rw [eo j (by omega), show ((j : Int) - 1) = ((j - 1 : Nat) : Int) by omega, eo (j - 1) (by omega), show ((j - 1 : Nat) : Int) = ((j : Int) - 1) by omega]
    exact f.2.2.1 h0

theorem terms_ge {l : D} {cols M : Int} (h : termsB l cols M = true) : ∀ {k : Nat}, (k : Int) < D.len l → (k : Int) ≤ tof l k := by
  intro k
  induction k with
  | zero => intro hk; exact (badT_facts (terms_at h hk)).1
  | succ k ih =>
    intro hk
    have := terms_inc h (show k < k + 1 by omega) hk
    have := ih (by omega)
    omega
theorem terms_len {l : D} {cols M : Int} (h : termsB l cols M = true) (hc : 0 ≤ cols) : D.len l ≤ cols := by
  have hl := ln0 l
  by_cases h0 : D.len l = 0
  · omega
  · obtain ⟨k, hk⟩ : ∃ k : Nat, D.len l = k + 1 := ⟨((D.len l) - 1).toNat, by omega⟩
    have h1 := terms_ge h (show (k : Int) < D.len l by omega)
    have h2 := (badT_facts (terms_at h (show (k : Int) < D.len l by omega))).2.1
    omega

theorem terms_set {s : List D} {c M : Int} {i : Nat} {y : D} (h : termsB (.slc s) c M = true) (hi : i < s.length) (ho : D.i (D.fld y 0) = tof (.slc s) i) (h1 : -M ≤ D.i (D.fld y 1)) (h2 : D.i (D.fld y 1) ≤ M) (h3 : D.i (D.fld y 1) ≠ 0) : termsB (.slc (s.set i y)) c M = true := by
  have go : ∀ j : Nat, tof (.slc (s.set i y)) j = tof (.slc s) j := fun j => by
    show D.i (D.fld ((s.set i y).getD j .und) 0) = D.i (D.fld (s.getD j .und) 0)
    by_cases e : i = j
    · subst e
      rw [getD_set_eq' hi]; exact ho
    · rw [getD_set_ne' e]
  refine terms_of fun j hj => ?_
  rw [len_slc, List.length_set] at hj
  have f := badT_facts (terms_at h (show (j : Int) < D.len (.slc s) by rw [len_slc]; omega))
  have hc : -M ≤ tco (.slc (s.set i y)) j ∧ tco (.slc (s.set i y)) j ≤ M ∧ tco (.slc (s.set i y)) j ≠ 0 := by
    by_cases e : i = j
    · subst e
      have : tco (.slc (s.set i y)) i = D.i (D.fld y 1) := by
        show D.i (D.fld ((s.set i y).getD i .und) 1) = _
        rw [getD_set_eq' hi]
      omega
    · have : tco (.slc (s.set i y)) j = tco (.slc s) j := by
        show D.i (D.fld ((s.set i y).getD j .und) 1) = D.i (D.fld (s.getD j .und) 1)
        rw [getD_set_ne' e]
      omega
  refine badT_of (by rw [go]; exact f.1) (by rw [go]; exact f.2.1) (fun h0 => ?_) hc.1 hc.2.1 hc.2.2
  rw [go, show ((j : Int) - 1) = ((j - 1 : Nat) : Int) by omega, go, show ((j - 1 : Nat) : Int) = ((j : Int) - 1) by omega]
  exact f.2.2.1 h0

theorem take_snoc {α : Type} {l : List α} {d : α} {k : Nat} (h : k < l.length) : l.take (k + 1) = l.take k ++ [l.getD k d] := by
  rw [List.take_add_one]
  simp [List.getD, h]

theorem wi_of {x a b : Int} (h1 : a ≤ x) (h2 : x ≤ b) : wi34 x a b = true := by
  simp only [wi34, Bool.and_eq_true, iLe_iff]; exact ⟨h1, h2⟩

theorem modB_of {c : Int} {rows goal : List D} {k : Int} (h0 : 0 ≤ c) (h1 : c ≤ 300) (hr : rows.length ≤ 400) (hg : termsB (.slc goal) c 16777216 = true) (hk : -16777216 ≤ k ∧ k ≤ 16777216) (hrow : ∀ x ∈ rows, rowB x c = true) :
    modB (.agg [.int c, .slc rows, .slc goal, .int k]) = true := by
  simp only [modB, fld0, fldS, i_int, len_slc, Bool.and_eq_true, iLe_iff, Bool.not_eq_true']
  refine ⟨⟨h0, h1, by omega⟩, hg, wi_of hk.1 hk.2, anyB_false fun i hi => ?_⟩
  rw [show D.el (.slc rows) (i : Int) = rows.getD i .und from rfl, hrow _ (getD_mem (by omega))]
  rfl

/-- A small row. -/
def SR (cols : Int) (x : D) : Prop := ∃ (s : List D) (mo : Int), x = .agg [.slc s, .int mo] ∧ termsB (.slc s) cols 9 = true ∧ -50 ≤ mo ∧ mo ≤ 50
def boxR (box : List Int) (k : Nat) : List D := (List.range k).map fun (i : Nat) => D.agg [.slc [tm (i : Int) 1], .int (box.getD i 0)]

/-- A small model in its box. -/
structure SM (m : D) (c : Nat) (rows goal : List D) (k : Int) (box : List Int) : Prop where
  eq : m = .agg [.int (c : Int), .slc (rows ++ boxR box c), .slc goal, .int k]
  cols : c ≤ 4
  len : box.length = c
  few : rows.length ≤ 6
  gfl : ∀ x ∈ goal, Fl x
  rows : ∀ x ∈ rows, SR c x
  goal : termsB (.slc goal) c 9 = true
  k0 : -9 ≤ k
  k1 : k ≤ 9
  box : ∀ v ∈ box, 0 ≤ v ∧ v ≤ 3

theorem SR.row {c : Int} {x : D} (h : SR c x) : rowB x c = true := by
  obtain ⟨s, mo, rfl, h1, h2, h3⟩ := h
  unfold rowB
  rw [Bool.and_eq_true]
  exact ⟨terms_mono (by omega) (by omega) h1, wi_of (by show _ ≤ mo; omega) (by show mo ≤ _; omega)⟩
theorem boxR_succ (box : List Int) (k : Nat) : boxR box (k + 1) = boxR box k ++ [.agg [.slc [tm (k : Int) 1], .int (box.getD k 0)]] := by
  unfold boxR
  rw [List.range_succ, List.map_append]
  rfl
theorem boxR_len (box : List Int) (k : Nat) : (boxR box k).length = k := by simp [boxR]
theorem one_terms {k : Nat} {c : Int} (h : (k : Int) < c) : termsB (.slc [tm (k : Int) 1]) c 9 = true := by
  have := terms_snoc (s := []) (k := (k : Int)) (c := 1) (M := 9) rfl (by omega) (by omega) (by omega) (by omega)
  exact terms_mono (show (k : Int) + 1 ≤ c by omega) (Int.le_refl _) this
theorem box_row {box : List Int} {c k : Nat} (hl : box.length = c) (hb : ∀ v ∈ box, 0 ≤ v ∧ v ≤ 3) (hk : k ≤ c) : ∀ x ∈ boxR box k, SR c x := by
  intro x hx
  simp only [boxR, List.mem_map, List.mem_range] at hx
  obtain ⟨i, hi, rfl⟩ := hx
  have := hb _ (getD_mem (d := 0) (show i < box.length by omega))
  exact ⟨_, _, rfl, one_terms (by omega), by omega, by omega⟩
theorem SM.all {m : D} {c : Nat} {rows goal : List D} {k : Int} {box : List Int} (h : SM m c rows goal k box) : ∀ x ∈ rows ++ boxR box c, SR c x := fun x hx => by
  rcases List.mem_append.mp hx with hx | hx
  · exact h.rows x hx
  · exact box_row h.len h.box (Nat.le_refl _) x hx
theorem small_mod {c : Nat} {rows goal : List D} {k : Int} (hc : c ≤ 5) (hr : rows.length ≤ 10) (hg : termsB (.slc goal) c 9 = true) (h0 : -9 ≤ k) (h1 : k ≤ 9) (hrow : ∀ x ∈ rows, SR c x) : modB (.agg [.int (c : Int), .slc rows, .slc goal, .int k]) = true :=
  modB_of (by omega) (by omega) (by omega) (terms_mono (by omega) (by omega) hg) ⟨by omega, by omega⟩ fun x hx => (hrow x hx).row
theorem small_mo {c : Nat} {rows goal : List D} {k : Int} (hc : c ≤ 5) (hr : rows.length ≤ 10) (hg : termsB (.slc goal) c 9 = true) (hrow : ∀ x ∈ rows, SR c x) : Mo (.agg [.int (c : Int), .slc rows, .slc goal, .int k]) := by
  refine ⟨?_, fun i hi => ?_, ?_⟩
  · show D.len (.slc rows) ≤ _
    rw [len_slc]; omega
  · have hi : (i : Int) < D.len (.slc rows) := hi
    rw [len_slc] at hi
    obtain ⟨s, mo, e, h1, _⟩ := hrow _ (getD_mem (d := .und) (show i < rows.length by omega))
    show D.len (D.fld (rows.getD i .und) 0) ≤ _
    rw [e]
    have := terms_len h1 (by omega)
    show D.len (.slc s) ≤ _
    omega
  · have := terms_len hg (by omega)
    show D.len (.slc goal) ≤ _
    omega
theorem SM.rlen {m : D} {c : Nat} {rows goal : List D} {k : Int} {box : List Int} (h : SM m c rows goal k box) : (rows ++ boxR box c).length = rows.length + c := by rw [List.length_append, boxR_len]
theorem SM.mv {m : D} {c : Nat} {rows goal : List D} {k : Int} {box : List Int} (h : SM m c rows goal k box) : modB m = true := by
  have := h.few
  have := h.cols
  rw [h.eq]
  exact small_mod (by omega) (by rw [h.rlen]; omega) h.goal h.k0 h.k1 h.all
theorem SM.mo {m : D} {c : Nat} {rows goal : List D} {k : Int} {box : List Int} (h : SM m c rows goal k box) : Mo m := by
  have := h.few
  have := h.cols
  rw [h.eq]
  exact small_mo (by omega) (by rw [h.rlen]; omega) h.goal h.all

section
variable {n : Nat} {Q : List D → Prop}

theorem tterms_wp {d : D} {cols : Int} (hd : Dk d) (h0 : 0 ≤ cols) (hc : cols ≤ 10) (hn : 100 ≤ n) (h : ∀ s d', termsB (.slc s) cols 9 = true → (∀ x ∈ s, Fl x) → Dk d' → Q [.slc s, d']) : wpF Try.prog A n 65 [d, .int cols] Q := by
  obtain ⟨p, rfl⟩ : ∃ p, n = p + 1 := ⟨n - 1, by omega⟩
  rw [E65]
  have key : ∀ (m0 : Nat) (k : Int) (d : D) (s : List D), 0 ≤ k → k ≤ cols → (cols - k).toNat < m0 → Dk d → termsB (.slc s) k 9 = true → (∀ x ∈ s, Fl x) → L65_3 p m0 (.int cols) (.int k) d (.slc s) Q := by
    intro m0
    induction m0 with
    | zero => intro k d s _ _ h; omega
    | succ m0 ih =>
      intro k d s h1 h2 h3 hd hs hfl
      rw [L65_3_eq]
      simp only [i_int, xs_slc]
      have hl := terms_len hs h1
      rw [len_slc] at hl
      have go : ∀ (d : D) (s : List D), k < cols → Dk d → termsB (.slc s) (k + 1) 9 = true → (∀ x ∈ s, Fl x) → L65_3 p m0 (.int cols) (.int (IntKind.wrap .i64 (k + 1))) d (.slc s) Q := fun d s hk hd hs hfl => by
        rw [wrap_id (by omega) (by omega)]
        exact ih (k + 1) d s (by omega) (by omega) (by omega) hd hs hfl
      refine cLt (fun hk => ?_) fun hk => ?_
      · refine next_wp (by omega) hd (by omega) (by omega) fun v d1 hv0 hv1 hd1 => ?_
        simp only [rs0, rsS, i_int]
        rw [wrap_id (show -9223372036854775808 ≤ v - 9 by omega) (by omega)]
        refine cNe (fun hv => ?_) fun _ => go _ _ hk hd1 (terms_mono (by omega) (by omega) hs) hfl
        refine next_wp (by omega) hd1 (by omega) (by omega) fun w d2 hw0 hw1 hd2 => ?_
        simp only [rs0, rsS, i_int]
        refine cLt (fun _ => ⟨?_, ?_⟩) fun _ => go _ _ hk hd2 (terms_mono (by omega) (by omega) hs) hfl
        · unfold room; simp only [List.length_singleton]; omega
        · exact go _ _ hk hd2 (terms_snoc hs h1 (by omega) (by omega) hv) (fl_snoc hfl ⟨_, _, rfl⟩)
      · have e : k = cols := by omega
        subst e
        exact h s d hs hfl hd
  exact key p 0 d [] (by omega) (by omega) (by omega) hd rfl fun x hx => by cases hx

/-- A model, before it is boxed. -/
theorem mmodel_wp {d : D} {N : Int} (hd : Dk d) (hN0 : 0 ≤ N) (hN5 : N ≤ 5) (hn : 200 ≤ n) (h : ∀ (c : Nat) (rows goal : List D) (k : Int) (d' : D), (c : Int) ≤ N → rows.length ≤ 6 → (∀ x ∈ rows, SR c x) → termsB (.slc goal) c 9 = true → (∀ x ∈ goal, Fl x) → -9 ≤ k → k ≤ 9 → Dk d' → Q [.agg [.int (c : Int), .slc rows, .slc goal, .int k], d']) : wpF Try.prog A n 34 [d, .int N] Q := by
  obtain ⟨p, rfl⟩ : ∃ p, n = p + 1 := ⟨n - 1, by omega⟩
  rw [E34]
  simp only [i_int]
  rw [wrap_id (show -9223372036854775808 ≤ N + 1 by omega) (by omega)]
  refine next_wp (by omega) hd (by omega) (by omega) fun v d1 hv0 hv1 hd1 => ?_
  obtain ⟨c, rfl⟩ : ∃ c : Nat, v = c := ⟨v.toNat, by omega⟩
  simp only [rs0, rsS, i_int]
  refine next_wp (by omega) hd1 (by omega) (by omega) fun w d2 hw0 hw1 hd2 => ?_
  simp only [rs0, rsS, i_int]
  rw [wrap_id (show -9223372036854775808 ≤ w - 4 by omega) (by omega)]
  refine ⟨trivial, tterms_wp hd2 (by omega) (by omega) (by omega) fun goal d3 hg hgf hd3 => ?_⟩
  simp only [rs0, rsS, i_int]
  refine ⟨trivial, next_wp (by omega) hd3 (by omega) (by omega) fun z d4 hz0 hz1 hd4 => ?_⟩
  simp only [rs0, rsS, i_int]
  have key : ∀ (m0 : Nat) (z : Int) (d : D) (rows : List D), 0 ≤ z → (rows.length : Int) + z ≤ 6 → z.toNat < m0 → Dk d → (∀ x ∈ rows, SR c x) →
      L34_4 p m0 (.int z) d (.agg [.int 0, .slc [], .slc [], .int 0]) (.agg [.int (c : Int), .slc rows, .slc goal, .int (w - 4)]) Q := by
    intro m0
    induction m0 with
    | zero => intro z d rows _ _ h; omega
    | succ m0 ih =>
      intro z d rows h1 h2 h3 hd hrows
      rw [L34_4_eq]
      simp only [i_int, fld0, fldS, xs_slc]
      refine cLt (fun hz => ?_) fun hz => ⟨trivial, h c rows goal (w - 4) d (by omega) (by omega) hrows hg hgf (by omega) (by omega) hd⟩
      have go : ∀ (d x : D), Dk d → SR c x → L34_4 p m0 (.int (IntKind.wrap .i64 (z - 1))) d (.agg [.int 0, .slc [], .slc [], .int 0]) (.agg [.int (c : Int), .slc (rows ++ [x]), .slc goal, .int (w - 4)]) Q := fun d x hd hx => by
        rw [wrap_id (by omega) (by omega)]
        refine ih (z - 1) d (rows ++ [x]) (by omega) (by rw [List.length_append, List.length_singleton]; omega) (by omega) hd fun y hy => ?_
        rcases List.mem_append.mp hy with hy | hy
        · exact hrows y hy
        · rw [List.mem_singleton.mp hy]; exact hx
      refine tterms_wp hd (by omega) (by omega) (by omega) fun s d5 hs _ hd5 => ?_
      simp only [rs0, rsS, i_int]
      refine next_wp (by omega) hd5 (by omega) (by omega) fun mo d6 hmo0 hmo1 hd6 => ?_
      simp only [rs0, rsS, i_int]
      rw [wrap_id (show -9223372036854775808 ≤ mo - 10 by omega) (by omega)]
      refine ⟨trivial, next_wp (by omega) hd6 (by omega) (by omega) fun y d7 hy0 hy1 hd7 => ?_⟩
      simp only [rs0, rsS, i_int]
      refine cLt (fun _ => ?_) fun _ => ⟨?_, trivial, go _ _ hd7 ⟨s, mo - 10, rfl, hs, by omega, by omega⟩⟩
      · have hsl := terms_len hs (by omega)
        rw [len_slc] at hsl ⊢
        obtain ⟨S, hS⟩ : ∃ S : Nat, s.length = S := ⟨_, rfl⟩
        rw [hS]
        have inner : ∀ (m1 k : Nat) (s : List D), s.length = S → k ≤ S → S - k < m1 → termsB (.slc s) c 9 = true → L34_9 p m0 m1 (.int z) (.int (S : Int)) (.int (k : Int)) d7 (.agg [.int 0, .slc [], .slc [], .int 0]) (.agg [.int (c : Int), .slc rows, .slc goal, .int (w - 4)]) (.agg [.slc s, .int (mo - 10)]) Q := by
          intro m1
          induction m1 with
          | zero => intro k s _ _ h; omega
          | succ m1 ihm =>
            intro k s hs1 hk1 hk2 hs
            rw [L34_9_eq]
            simp only [i_int, fld0, fldS, xs_slc, len_slc]
            refine cLt (fun hk => ?_) fun hk => ?_
            · refine ⟨by omega, by omega, by omega, trivial, ?_⟩
              rw [wrap_id (by omega) (by omega), show ((k : Int) + 1) = ((k + 1 : Nat) : Int) by omega, toNat_nat]
              have f := badT_facts (terms_at hs (show (k : Int) < D.len (.slc s) by rw [len_slc]; omega))
              have ec : D.i (D.fld (List.getD s k D.und) 1) = tco (.slc s) k := rfl
              rw [ec]
              have hmm : minmax true (tco (.slc s) k) (IntKind.wrap .i64 (0 - tco (.slc s) k)) = tco (.slc s) k ∨ minmax true (tco (.slc s) k) (IntKind.wrap .i64 (0 - tco (.slc s) k)) = - tco (.slc s) k := by
                rw [wrap_id (by omega) (by omega)]
                simp only [minmax, if_true]
                split <;> omega
              refine ihm (k + 1) _ (by rw [List.length_set]; exact hs1) (by omega) (by omega) (terms_set hs (by omega) rfl ?_ ?_ ?_)
              · simp only [fld0, fldS, i_int]; omega
              · simp only [fld0, fldS, i_int]; omega
              · simp only [fld0, fldS, i_int]; omega
            · refine ⟨trivial, ?_, trivial, ?_⟩
              · unfold room; simp only [List.length_singleton]; omega
              · have hmm : minmax true (mo - 10) (IntKind.wrap .i64 (0 - (mo - 10))) = mo - 10 ∨ minmax true (mo - 10) (IntKind.wrap .i64 (0 - (mo - 10))) = 10 - mo := by
                  rw [wrap_id (by omega) (by omega)]
                  simp only [minmax, if_true]
                  split <;> omega
                exact go _ _ hd7 ⟨s, _, rfl, hs, by omega, by omega⟩
        exact inner p 0 s hS (by omega) (by omega) hs
      · unfold room; simp only [List.length_singleton]; omega
  exact key p z d4 [] hz0 (by simp only [List.length_nil]; omega) (by omega) hd4 fun x hx => by cases hx

theorem mbox_wp {d m : D} {c : Nat} (hd : Dk d) (hm : D.fld m 0 = .int (c : Int)) (hc : c ≤ 5) (hn : 100 ≤ n) (h : ∀ (box : List Int) d', box.length = c → (∀ v ∈ box, 0 ≤ v ∧ v ≤ 3) → Dk d' → Q [lst box, d']) : wpF Try.prog A n 35 [d, m] Q := by
  obtain ⟨p, rfl⟩ : ∃ p, n = p + 1 := ⟨n - 1, by omega⟩
  rw [E35, hm]
  have key : ∀ (m0 k : Nat) (d : D) (box : List Int), k ≤ c → c - k < m0 → Dk d → box.length = k → (∀ v ∈ box, 0 ≤ v ∧ v ≤ 3) → L35_3 p m0 (.int (c : Int)) (.int (k : Int)) d (lst box) Q := by
    intro m0
    induction m0 with
    | zero => intro k d box _ h; omega
    | succ m0 ih =>
      intro k d box h1 h2 hd hl hb
      rw [L35_3_eq]
      simp only [i_int]
      refine cLt (fun hk => ?_) fun hk => ?_
      · refine next_wp (by omega) hd (by omega) (by omega) fun v d1 hv0 hv1 hd1 => ?_
        simp only [rs0, rsS]
        rw [wrap_id (by omega) (by omega), show ((k : Int) + 1) = ((k + 1 : Nat) : Int) by omega]
        have e : D.slc (D.xs (lst box) ++ [.int v]) = lst (box ++ [v]) := by simp [lst, D.xs]
        have e2 : (D.xs (lst box)).length = box.length := by simp [lst, D.xs]
        rw [e, e2]
        refine ⟨by unfold room; simp only [List.length_singleton]; omega, ?_⟩
        refine ih (k + 1) d1 _ (by omega) (by omega) hd1 (by rw [List.length_append, List.length_singleton]; omega) fun x hx => ?_
        rcases List.mem_append.mp hx with hx | hx
        · exact hb x hx
        · rw [List.mem_singleton.mp hx]; omega
      · have e : k = c := by omega
        subst e
        exact h box d hl hb hd
  exact key p 0 d [] (by omega) (by omega) hd rfl fun v hv => by cases hv

theorem small_wp {c : Nat} {rows goal : List D} {k : Int} (hc : c ≤ 5) (hr : rows.length ≤ 6) (hg : termsB (.slc goal) c 9 = true) (h0 : -9 ≤ k) (h1 : k ≤ 9) (hrow : ∀ x ∈ rows, SR c x) (hn : 1100400 ≤ n) (h : Q [.bool true]) : wpF Try.prog A n 70 [.agg [.int (c : Int), .slc rows, .slc goal, .int k]] Q := by
  obtain ⟨p, rfl⟩ : ∃ p, n = p + 1 := ⟨n - 1, by omega⟩
  rw [E70]
  refine model'_wp (small_mo hc (by omega) hg hrow) (by omega) ?_
  rw [rs0, b_bool, small_mod hc (by omega) hg h0 h1 hrow]
  simp only [fld0, fldS, i_int, len_slc, Bool.not_true, cond_false]
  have hgl := terms_len hg (by omega)
  refine cLt (fun c => by omega) fun _ => cLt (fun c => by omega) fun _ => terms'_wp (by omega) (by omega) (by omega) ?_
  rw [rs0, b_bool, i_int, hg]
  simp only [Bool.not_true, cond_false]
  refine cLt (fun c => by omega) fun _ => cLt (fun c => by omega) fun _ => ?_
  refine all_loop (L := fun m0 j => L70_4 p m0 (.slc rows) (.int (rows.length : Int)) j (.agg [.int (c : Int), .slc rows, .slc goal, .int k]) Q) (bad := fun _ => false) (N := rows.length) (F := Q [.bool true]) (by omega) (fun m0 j hj hw hb hg => ?_) (fun hb => h) (fun hg m0 => ?_) p 0 (by omega) (by omega) (by omega)
  · rw [L70_4_eq]
    simp only [i_int, fld0, fldS, len_slc]
    rw [hw]
    refine cLt (fun _ => ⟨by omega, trivial, ?_⟩) fun c => by omega
    obtain ⟨s, mo, e, h2, h3, h4⟩ := hrow _ (getD_mem (d := .und) (show j < rows.length by omega))
    have e2 : D.el (.slc rows) (j : Int) = .agg [.slc s, .int mo] := e
    rw [e2]
    have hsl := terms_len h2 (by omega)
    simp only [fld0, fldS, i_int]
    refine terms'_wp (by omega) (by omega) (by omega) ?_
    rw [rs0, b_bool, i_int, h2]
    simp only [Bool.not_true, cond_false]
    exact cLt (fun c => by omega) fun _ => cLt (fun c => by omega) fun _ => hg rfl
  · rw [L70_4_eq]
    simp only [i_int]
    exact cLt (fun c => by omega) fun _ => h

end
end Go.Ab

/- The law's bounds: made ones, spoilt ones, joined ones. -/
namespace Go.Ab
open Go.Proofs
attribute [local irreducible] wpF

/-- A case whose lists are not too long. -/
structure CN (N : Int) (c : D) : Prop where
  form : D.len (D.fld c 2) ≤ N
  mul : D.len (D.fld c 4) ≤ N
  big : ∀ x ∈ D.xs (D.fld c 4), D.i (D.fld x 0) ≤ 9223372036854775807
  flf : ∀ x ∈ D.xs (D.fld c 2), Fl x
  flm : ∀ x ∈ D.xs (D.fld c 4), Fl x
structure BN (N : Int) (b : D) : Prop where
  cases : D.len (cs b) ≤ N
  each : ∀ c ∈ D.xs (cs b), CN N c
theorem CN.mono {N M : Int} {c : D} (h : CN N c) (hN : N ≤ M) : CN M c := ⟨Int.le_trans h.form hN, Int.le_trans h.mul hN, h.big, h.flf, h.flm⟩
theorem BN.mono {N M : Int} {b : D} (h : BN N b) (hN : N ≤ M) : BN M b := ⟨Int.le_trans h.cases hN, fun c hc => (h.each c hc).mono hN⟩
theorem el_mem {d : D} {i : Nat} (h : (i : Int) < D.len d) : D.el d (i : Int) ∈ D.xs d := by
  have e : D.el d (i : Int) = (D.xs d).getD i .und := by simp [D.el]
  rw [e]
  have : D.len d = ((D.xs d).length : Nat) := rfl
  exact getD_mem (by omega)
theorem BN.bx {N : Int} {b : D} (h : BN N b) (hN : N ≤ 1100000) : Bx b := by
  have at_ : ∀ i : Nat, (i : Int) < D.len (cs b) → CN N (cAs b i) := fun i hi => h.each _ (el_mem hi)
  refine ⟨⟨Int.le_trans h.cases hN, fun i hi => Int.le_trans (at_ i hi).form hN, fun i hi => Int.le_trans (at_ i hi).mul hN⟩, fun i hi k hk => ?_⟩
  exact (at_ i hi).big _ (el_mem hk)
theorem cn_agg {N : Int} {a b f t r e : D} (h1 : D.len f ≤ N) (h2 : D.len r ≤ N) (h3 : ∀ x ∈ D.xs r, D.i (D.fld x 0) ≤ 9223372036854775807) (h4 : ∀ x ∈ D.xs f, Fl x) (h5 : ∀ x ∈ D.xs r, Fl x) : CN N (.agg [a, b, f, t, r, e]) := ⟨h1, h2, h3, h4, h5⟩
theorem bn_agg {N : Int} {l : List D} {t : D} (h1 : (l.length : Int) ≤ N) (h2 : ∀ c ∈ l, CN N c) : BN N (.agg [.slc l, t]) := ⟨h1, h2⟩

/-- The corner of a boxed model. -/
def cornS (R : Nat) (goal : D) (s : List D) (k : Nat) : List D := cond (iLt 0 (tco goal k)) (s ++ [.agg [.int ((R : Int) + tof goal k), D.fld (D.el goal k) 1]]) s
def cornL (R : Nat) (goal : D) (k : Nat) : List D := iter (cornS R goal) [] k
def leafC (s : List D) (den : D) : D := .agg [.int (-1), .int (-1), .slc [], .int 0, .slc s, den]
def cornC (R : Nat) (goal : D) : D := leafC (cornL R goal (D.len goal).toNat) (.int 1)

theorem mul_of {l : D} (h : ∀ k : Nat, (k : Int) < D.len l → badM l k = false) : mulB l = true := by
  unfold mulB
  have hl := ln0 l
  rw [anyB_false fun i hi => h i (by omega)]
  rfl
theorem badM_of {l : D} {k : Nat} (h1 : 0 ≤ tof l k) (h2 : 0 < k → tof l ((k : Int) - 1) < tof l k) (h3 : 1 ≤ tco l k) (h4 : tco l k ≤ 1073741824) : badM l k = false := by
  simp only [badM, Bool.or_eq_false_iff, iLt_not, iLe_not, Bool.and_eq_false_iff]
  refine ⟨by omega, ?_, by omega, by omega⟩
  by_cases hk : 0 < k
  · right; have := h2 hk; omega
  · left; omega
/-- A leaf of a law. -/
structure LF (s : List D) : Prop where
  mul : mulB (.slc s) = true
  len : s.length ≤ 4
  big : ∀ x ∈ s, D.i (D.fld x 0) ≤ 1000
  fl : ∀ x ∈ s, Fl x
theorem LF.lc {s : List D} (h : LF s) {m : D} {c : Nat} {rows goal : List D} {k : Int} {box : List Int} (hm : SM m c rows goal k box) {v : Int} (h0 : 0 ≤ v) (h1 : v ≤ 1024) : LC m [] (leafC s (.int v)) := by
  have := h.len
  have hM := modB_facts hm.mv
  refine ⟨hm.mo, hm.mv, (fun x hx => by cases hx), ?_, h.mul, by show D.len (.slc s) ≤ _; rw [len_slc]; omega, h0, h1, fun k hk => ?_⟩
  · rw [List.length_nil]; omega
  · have hk : (k : Int) < D.len (.slc s) := hk
    rw [len_slc] at hk
    have := h.big _ (getD_mem (d := .und) (show k < s.length by omega))
    show D.i (D.fld (s.getD k .und) 0) ≤ _
    omega
section
variable {n : Nat} {Q : List D → Prop}

/-- Cases that are moved. -/
def shT (rows : Int) (x : D) : D := cond (iLe rows (D.i (D.fld x 0))) (.agg [.int (IntKind.wrap .i64 (D.i (D.fld x 0) + 1)), D.fld x 1]) x
def mvC (by_ rows : Int) (c : D) : D := .agg [cond (iEq (cL c) (-1)) (D.fld c 0) (.int (IntKind.wrap .i64 (cL c + by_))), cond (iEq (cL c) (-1)) (D.fld c 1) (.int (IntKind.wrap .i64 (cR c + by_))), .slc (D.xs (D.fld c 2)), D.fld c 3, .slc ((D.xs (D.fld c 4)).map (shT rows)), D.fld c 5]
/-- What a split of two bounds is. -/
def rootC (m form at_ x : D) : D := .agg [.int 1, .int (1 + D.len (cs x)), .slc (D.xs form), at_, .slc [], .int 0]
def joinB (m form at_ x y : D) : D := .agg [.slc ([rootC m form at_ x] ++ (D.xs (cs x)).map (mvC 1 (D.len (D.fld m 1))) ++ (D.xs (cs y)).map (mvC (1 + D.len (cs x)) (D.len (D.fld m 1)))), .int (minmax true (D.i (D.fld x 1)) (D.i (D.fld y 1)))]
def noB : D := .agg [.slc [], .int 0]
def joinE (m form at_ x y : D) : Int := cond (modB m) (cond (formB m form (D.i at_)) (cond (bndB m x) (cond (bndB m y) (cond (iLt 1000 (1 + D.len (cs x) + D.len (cs y))) 4 0) 10) 10) 10) 33
def joinV (m form at_ x y : D) : D := cond (iEq (joinE m form at_ x y) 0) (joinB m form at_ x y) noB

end
end Go.Ab

/- The law's bounds: made ones, spoilt ones. -/
namespace Go.Ab
open Go.Proofs
attribute [local irreducible] wpF

section
variable {n : Nat} {Q : List D → Prop}

/-- The example. -/
def halfM : D := .agg [.int 1, .slc [.agg [.slc [.agg [.int 0, .int 2]], .int 3]], .slc [.agg [.int 0, .int 1]], .int 0]
def halfB (t : Int) : D := .agg [.slc [.agg [.int (-1), .int (-1), .slc [], .int 0, .slc [.agg [.int 0, .int 1]], .int 2]], .int t]
theorem half_mo : Mo halfM := by
  refine ⟨by show (1 : Int) ≤ _; omega, fun i hi => ?_, by show (1 : Int) ≤ _; omega⟩
  have hi : (i : Int) < 1 := hi
  have e : i = 0 := by omega
  subst e
  show (1 : Int) ≤ _
  omega
theorem half_bn (t : Int) : BN 10 (halfB t) := by
  refine bn_agg (by simp) fun c hc => ?_
  rw [List.mem_singleton.mp hc]
  refine cn_agg (by rw [len_slc, List.length_nil]; omega) (by rw [len_slc, List.length_singleton]; omega) (fun x hx => ?_) (fun x hx => by cases hx) fun x hx => ?_
  · rw [xs_slc] at hx
    rw [List.mem_singleton.mp hx, fld0, i_int]
    omega
  · rw [xs_slc] at hx
    rw [List.mem_singleton.mp hx]
    exact ⟨_, _, rfl⟩
theorem half_good : chkV halfM (halfB 1) = 0 := by decide
theorem half_bad : chkV halfM (halfB 0) = 37 := by decide
theorem half_one : casesN (halfB 1) = 1 := by decide

theorem awake_wp (hn : 1100900 ≤ n) (h : Q [.bool true]) : wpF Try.prog A n 33 [] Q := by
  obtain ⟨p, rfl⟩ : ∃ p, n = p + 2 := ⟨n - 2, by omega⟩
  have e : wpF Try.prog A (p + 2) 33 [] Q = _ := E33 (p + 1) Q
  rw [e, E62]
  refine ⟨trivial, trivial, trivial, trivial, trivial, trivial, trivial, ?_⟩
  simp only [rs0, rsS]
  refine check_wp (m := halfM) (b := halfB 1) half_mo ((half_bn 1).bx (by omega)) (by omega) ?_
  rw [half_good]
  simp only [rs0, i_int]
  refine cEq (fun _ => ?_) fun c => absurd rfl c
  refine check_wp (m := halfM) (b := halfB 0) half_mo ((half_bn 0).bx (by omega)) (by omega) ?_
  rw [half_bad]
  simp only [rs0, i_int]
  refine cEq (fun _ => ?_) fun c => absurd rfl c
  refine cases_wp (b := halfB 1) (by show (1 : Int) ≤ _; omega) (by omega) ?_
  rw [half_one]
  exact h
end
end Go.Ab

/- Accepted bounds are right: no numbers that obey the model have a greater value. -/
namespace Go.Ab
open Go.Proofs
attribute [local irreducible] wpF

/-- Products of two lists, summed up. -/
def dl : List Int → List Int → Int
  | a :: s, b :: x => a * b + dl s x
  | _, _ => 0
theorem dl_set : ∀ (s x : List Int) (j : Nat) (v : Int), j < s.length → s.length = x.length → dl (s.set j v) x = dl s x + (v - s.getD j 0) * x.getD j 0
  | [], _, _, _, h, _ => by simp at h
  | a :: s, [], _, _, _, h => by simp at h
  | a :: s, b :: x, 0, v, _, _ => by
    simp only [List.set_cons_zero, dl, List.getD, List.getElem?_cons_zero, Option.getD_some]
    rw [Int.sub_mul]; omega
  | a :: s, b :: x, j + 1, v, h, hl => by
    have h1 : j < s.length := by simpa using h
    have h2 : s.length = x.length := by simpa using hl
    have := dl_set s x j v h1 h2
    simp only [List.set_cons_succ, dl, List.getD, List.getElem?_cons_succ] at this ⊢
    rw [this]; omega
theorem dl_zero : ∀ (N : Nat) (x : List Int), dl (List.replicate N 0) x = 0
  | 0, x => by simp [dl]
  | N + 1, [] => by simp [dl, List.replicate_succ]
  | N + 1, b :: x => by simp [dl, List.replicate_succ, dl_zero N x]
theorem dl_nonneg : ∀ (s x : List Int), (∀ i : Nat, 0 ≤ s.getD i 0) → (∀ v ∈ x, 0 ≤ v) → 0 ≤ dl s x
  | [], _, _, _ => by simp [dl]
  | a :: s, [], _, _ => by simp [dl]
  | a :: s, b :: x, h1, h2 => by
    have e1 := h1 0
    simp only [List.getD, List.getElem?_cons_zero, Option.getD_some] at e1
    have e2 := h2 b (by simp)
    have e3 := dl_nonneg s x (fun i => by have := h1 (i + 1); simpa [List.getD] using this) fun v hv => h2 v (by simp [hv])
    have e4 := Int.mul_nonneg e1 e2
    simp only [dl]
    omega

def dotN (l : D) (x : List Int) (k : Nat) : Int := iter (fun s t => s + tco l (t : Nat) * x.getD (tof l (t : Nat)).toNat 0) 0 k
def dot (l : D) (x : List Int) : Int := dotN l x (D.len l).toNat
theorem dotN_succ (l : D) (x : List Int) (k : Nat) : dotN l x (k + 1) = dotN l x k + tco l k * x.getD (tof l k).toNat 0 := rfl

theorem row_dl {cols : Int} {x : D} (hx : RowOk cols x) {c : Int} (hc : 1 ≤ c) (hc2 : c ≤ 1073741824) {s X : List Int} {B : Int} (hs : Bd s B) (hB : 0 ≤ B) (hB2 : B ≤ 4000000000000000000) (hl : (s.length : Int) = cols) (hX : s.length = X.length) :
    dl (rowS x c s) X = dl s X + c * dot (D.fld x 0) X := by
  have hl0 := ln0 (D.fld x 0)
  have key : ∀ k : Nat, (k : Int) ≤ D.len (D.fld x 0) → (dl (iter (inRow x c) s k) X = dl s X + c * dotN (D.fld x 0) X k ∧ ∀ j : Nat, k ≤ j → (j : Int) < D.len (D.fld x 0) → -B ≤ (iter (inRow x c) s k).getD (tof (D.fld x 0) j).toNat 0 ∧ (iter (inRow x c) s k).getD (tof (D.fld x 0) j).toNat 0 ≤ B) := by
    intro k
    induction k with
    | zero =>
      intro _
      refine ⟨?_, fun j _ _ => hs _⟩
      show dl s X = dl s X + c * 0
      omega
    | succ k ih =>
      intro hk
      obtain ⟨i1, i2⟩ := ih (by omega)
      have hzl := row_len x c s k
      simp only [iter]
      generalize iter (inRow x c) s k = z at i1 i2 hzl
      have f := badT_facts (terms_at hx.terms (show (k : Int) < D.len (D.fld x 0) by omega))
      have hm := mul_bd hc hc2 f.2.2.2.1 f.2.2.2.2.1
      have ho := i2 k (Nat.le_refl _) (by omega)
      unfold inRow
      rw [wrap_id (show -9223372036854775808 ≤ c * tco (D.fld x 0) k by omega) (by omega), wrap_id (by omega) (by omega)]
      refine ⟨?_, fun j hj hj2 => ?_⟩
      · rw [dl_set _ _ _ _ (by omega) (by omega), i1, dotN_succ, Int.mul_add, show z.getD (tof (D.fld x 0) ↑k).toNat 0 + c * tco (D.fld x 0) ↑k - z.getD (tof (D.fld x 0) ↑k).toNat 0 = c * tco (D.fld x 0) ↑k by omega, Int.mul_assoc]
        omega
      · have hlt := terms_inc hx.terms (show k < j by omega) hj2
        rw [set_get, if_neg (by omega)]
        exact i2 j (by omega) hj2
  exact (key (D.len (D.fld x 0)).toNat (by omega)).1

def sat (l : List D) (X : List Int) : Prop := ∀ r ∈ l, dot (D.fld r 0) X ≤ D.i (D.fld r 1)
def feas (m : D) (X : List Int) : Prop := ∀ k : Nat, (k : Int) < D.len (D.fld m 1) → dot (D.fld (D.el (D.fld m 1) k) 0) X ≤ D.i (D.fld (D.el (D.fld m 1) k) 1)
theorem rowAt_sat {m : D} {ab : List D} {X : List Int} (hm : feas m X) (ha : sat ab X) {k : Int} (h0 : 0 ≤ k) (h1 : k < D.len (D.fld m 1) + ab.length) : dot (D.fld (rowAt m ab k) 0) X ≤ D.i (D.fld (rowAt m ab k) 1) := by
  unfold rowAt
  cases hc : iLt k (D.len (D.fld m 1)) with
  | true =>
    rw [iLt_iff] at hc
    obtain ⟨j, rfl⟩ : ∃ j : Nat, k = j := ⟨k.toNat, by omega⟩
    exact hm j hc
  | false =>
    rw [iLt_not] at hc
    obtain ⟨j, hj⟩ : ∃ j : Nat, k - D.len (D.fld m 1) = j := ⟨(k - D.len (D.fld m 1)).toNat, by omega⟩
    rw [cond_false, hj]
    exact ha _ (el_mem (d := .slc ab) (i := j) (by rw [len_slc]; omega))

theorem sum_le {m : D} {ab : List D} {c : D} {X : List Int} (hC : LC m ab c) (ho : outB m ab (D.fld c 4) = false) (hf : feas m X) (ha : sat ab X) (hX : X.length = (D.i (D.fld m 0)).toNat) :
    ∀ k : Nat, (k : Int) ≤ D.len (D.fld c 4) → dl (sumS34 m ab (D.fld c 4) k).1 X ≤ (sumS34 m ab (D.fld c 4) k).2 ∧ -(k * 1125899906842624 : Int) ≤ (sumS34 m ab (D.fld c 4) k).2 ∧ (sumS34 m ab (D.fld c 4) k).2 ≤ k * 1125899906842624 := by
  have hr := row_ok hC.mo hC.mv
  have h4 := mul_len hC.mul ho hC.tot
  have hM := modB_facts hC.mv
  intro k
  induction k with
  | zero =>
    intro _
    refine ⟨?_, by show _ ≤ (0 : Int); omega, by show (0 : Int) ≤ _; omega⟩
    show dl (List.replicate _ 0) X ≤ 0
    rw [dl_zero]; omega
  | succ k ih =>
    intro hk
    obtain ⟨i1, i2, i3⟩ := ih (by omega)
    have hk' : (k : Int) < D.len (D.fld c 4) := by omega
    have f := badM_facts (mul_at hC.mul hk')
    have g := out_at ho hk'
    have hb := sum_bd hr hC.abv hC.mul ho hC.tot k (by omega)
    have hlen := sum_len m ab (D.fld c 4) k
    have e : sumS34 m ab (D.fld c 4) (k + 1) = mulS m ab (D.fld c 4) (sumS34 m ab (D.fld c 4) k) k := rfl
    rw [e]
    unfold mulS
    have ro := rowAt_ok hr hC.abv f.1 g
    have rs := rowAt_sat hf ha f.1 g
    revert ro rs
    generalize rowAt m ab (tof (D.fld c 4) k) = x
    intro ro rs
    have hm := mul_bd f.2.2.1 f.2.2.2 ro.lo ro.hi
    have e2 : ((k + 1 : Nat) : Int) * 1125899906842624 = (k : Int) * 1125899906842624 + 1125899906842624 := by omega
    rw [wrap_id (show -9223372036854775808 ≤ tco (D.fld c 4) k * D.i (D.fld x 1) by omega) (by omega), wrap_id (by omega) (by omega), e2]
    refine ⟨?_, by simp only; omega, by simp only; omega⟩
    simp only
    rw [row_dl ro f.2.2.1 f.2.2.2 hb (by omega) (by omega) (by omega) (by omega)]
    have : tco (D.fld c 4) k * dot (D.fld x 0) X ≤ tco (D.fld c 4) k * D.i (D.fld x 1) := Int.mul_le_mul_of_nonneg_left rs (by omega)
    omega

theorem goal_dl {m : D} {cols den : Int} (h : termsB (D.fld m 2) cols 16777216 = true) (hd : 0 ≤ den) (hd2 : den ≤ 1024) {s X : List Int} (hs : (s.length : Int) = cols) (hX : s.length = X.length) (hb : Bd s 450359962737049600) :
    ∀ k : Nat, (k : Int) ≤ D.len (D.fld m 2) → dl (iter (goalS m den) s k) X = dl s X - den * dotN (D.fld m 2) X k := by
  intro k
  induction k with
  | zero =>
    intro _
    show dl s X = dl s X - den * 0
    omega
  | succ k ih =>
    intro hk
    have ih := ih (by omega)
    have hg := goal_get h hd hd2 hs hb k (by omega)
    have hl := goal_len m den s k
    simp only [iter]
    generalize iter (goalS m den) s k = z at ih hl hg
    have f := badT_facts (terms_at h (show (k : Int) < D.len (D.fld m 2) by omega))
    have p1 : den * tco (D.fld m 2) k ≤ den * 16777216 := Int.mul_le_mul_of_nonneg_left f.2.2.2.2.1 hd
    have p2 : den * (-16777216) ≤ den * tco (D.fld m 2) k := Int.mul_le_mul_of_nonneg_left f.2.2.2.1 hd
    have h0 := hg (tof (D.fld m 2) k).toNat
    unfold goalS
    rw [wrap_id (show -9223372036854775808 ≤ den * tco (D.fld m 2) k by omega) (by omega), wrap_id (by omega) (by omega)]
    rw [dl_set _ _ _ _ (by omega) (by omega), ih, dotN_succ, Int.mul_add, show z.getD (tof (D.fld m 2) ↑k).toNat 0 - den * tco (D.fld m 2) ↑k - z.getD (tof (D.fld m 2) ↑k).toNat 0 = - (den * tco (D.fld m 2) ↑k) by omega, Int.neg_mul, Int.mul_assoc]
    omega

theorem flo_le {r den v : Int} (hd : 0 < den) (h : den * v ≤ r) (h0 : -450359962737049600 ≤ r) (h1 : r ≤ 450359962737049600) : v ≤ flo r den ∧ -450359962737049601 ≤ flo r den ∧ flo r den ≤ 450359962737049600 := by
  have e := Int.mul_tdiv_add_tmod r den
  have b1 := Int.lt_tmod_of_pos r hd
  have b2 := Int.tmod_lt_of_pos r hd
  unfold flo
  revert e b1 b2
  generalize Int.tdiv r den = q
  generalize Int.tmod r den = t
  intro e b1 b2
  have q1 : q ≤ 450359962737049600 := by
    apply Int.not_lt.mp
    intro hq
    have := Int.mul_le_mul_of_nonneg_left (show 450359962737049601 ≤ q by omega) (show 0 ≤ den by omega)
    omega
  have q2 : -450359962737049600 ≤ q := by
    apply Int.not_lt.mp
    intro hq
    have := Int.mul_le_mul_of_nonneg_left (show q ≤ -450359962737049601 by omega) (show 0 ≤ den by omega)
    omega
  rw [wrap_id (show -9223372036854775808 ≤ q by omega) (by omega), wrap_id (show -9223372036854775808 ≤ q - 1 by omega) (by omega)]
  cases hc : iLt t 0 with
  | true =>
    rw [iLt_iff] at hc
    simp only [cond_true]
    refine ⟨?_, by omega, by omega⟩
    apply Int.not_lt.mp
    intro hq
    have := Int.mul_le_mul_of_nonneg_left (show q ≤ v by omega) (show 0 ≤ den by omega)
    omega
  | false =>
    rw [iLt_not] at hc
    simp only [cond_false]
    refine ⟨?_, by omega, by omega⟩
    apply Int.not_lt.mp
    intro hq
    have := Int.mul_le_mul_of_nonneg_left (show q + 1 ≤ v by omega) (show 0 ≤ den by omega)
    rw [Int.mul_add] at this
    omega

/-- A leaf that proves something proves it. -/
theorem leaf_sound {m : D} {ab : List D} {c : D} {X : List Int} (hC : LC m ab c) (hf : feas m X) (ha : sat ab X) (hX : X.length = (D.i (D.fld m 0)).toNat) (hX0 : ∀ v ∈ X, 0 ≤ v)
    (hok : (leafV m ab c).2.1 = true) : (leafV m ab c).2.2 = false ∧ D.i (D.fld m 3) + dot (D.fld m 2) X ≤ (leafV m ab c).1 := by
  have hM := modB_facts hC.mv
  have hl0 := ln0 (D.fld c 4)
  have hg0 := ln0 (D.fld m 2)
  unfold leafV at hok ⊢
  cases ho : outB m ab (D.fld c 4) with
  | true => rw [ho] at hok; cases hok
  | false =>
    rw [ho, cond_false] at hok
    rw [cond_false]
    have h4 := mul_len hC.mul ho hC.tot
    have hs := sum_le hC ho hf ha hX (D.len (D.fld c 4)).toNat (by omega)
    have hb := sums_bd hC ho
    have hlen := sum_len m ab (D.fld c 4) (D.len (D.fld c 4)).toNat
    revert hok hs hb hlen
    generalize sumS34 m ab (D.fld c 4) (D.len (D.fld c 4)).toNat = S
    obtain ⟨s, r⟩ := S
    intro hok hs hb hlen
    simp only at hok hs hb hlen ⊢
    cases hsh : shortB m (cDen c) s with
    | true => rw [hsh] at hok; cases hok
    | false =>
      rw [hsh, cond_false] at hok
      rw [cond_false]
      have d0 := hC.d0
      have d1 := hC.d1
      have gg := goal_get hM.2.2.1 d0 d1 (s := s) (by omega) hb (D.len (D.fld m 2)).toNat (by omega)
      have gd := goal_dl hM.2.2.1 d0 d1 (s := s) (X := X) (by omega) (by omega) hb (D.len (D.fld m 2)).toNat (by omega)
      have gl := goal_len m (cDen c) s (D.len (D.fld m 2)).toNat
      have hz : 0 ≤ dl (iter (goalS m (cDen c)) s (D.len (D.fld m 2)).toNat) X := by
        refine dl_nonneg _ _ (fun i => ?_) hX0
        rw [(gg i).1]
        by_cases hi : i < s.length
        · unfold shortB at hsh
          have := anyB_all hsh (show i < (D.i (D.fld m 0)).toNat by omega)
          rw [iLt_not] at this
          unfold coefOf at this
          omega
        · have := (gg i).1
          have e1 : (iter (goalS m (cDen c)) s (D.len (D.fld m 2)).toNat).getD i 0 = 0 := by
            simp [List.getD, List.getElem?_eq_none (show (iter (goalS m (cDen c)) s (D.len (D.fld m 2)).toNat).length ≤ i by omega)]
          omega
      have hd : cDen c * dot (D.fld m 2) X ≤ r := by
        unfold dot
        omega
      have e2 : ((D.len (D.fld c 4)).toNat : Int) = D.len (D.fld c 4) := by omega
      have hm4 : ((D.len (D.fld c 4)).toNat : Int) * 1125899906842624 ≤ 450359962737049600 := by omega
      cases hden : iLt 0 (cDen c) with
      | true =>
        rw [hden, cond_true] at hok
        rw [iLt_iff] at hden
        have fl := flo_le (v := dot (D.fld m 2) X) hden hd (by omega) (by omega)
        rw [cond_true]
        refine ⟨rfl, ?_⟩
        simp only
        rw [wrap_id (by omega) (by omega)]
        omega
      | false =>
        rw [iLt_not] at hden
        have e0 : cDen c = 0 := by omega
        rw [e0, Int.zero_mul] at hd
        rw [show iLt 0 (cDen c) = false from iLt_not.mpr (by omega), iLt_not.mpr (show ¬ r < 0 by omega)] at hok
        cases hok

/-- The numbers of a split's other side. -/
theorem neg_dot {l : D} {cols M : Int} (hM : M ≤ 4000000000) (h : termsB l cols M = true) (X : List Int) : dot (.slc (negL l (D.len l).toNat)) X = - dot l X := by
  have hl := ln0 l
  obtain ⟨N, hN⟩ : ∃ N : Nat, D.len l = N := ⟨(D.len l).toNat, by omega⟩
  unfold dot
  rw [len_slc, neg_len, hN, toNat_nat, toNat_nat]
  have key : ∀ k : Nat, k ≤ N → dotN (.slc (negL l N)) X k = - dotN l X k := by
    intro k
    induction k with
    | zero => intro _; rfl
    | succ k ih =>
      intro hk
      have f := badT_facts (terms_at h (show (k : Int) < D.len l by omega))
      rw [dotN_succ, dotN_succ, ih (by omega), neg_of (by omega), neg_co (by omega), wrap_id (by omega) (by omega), show 0 - tco l k = - tco l k by omega, Int.neg_mul]
      omega
  exact key N (Nat.le_refl _)

theorem nameS_facts {N : Int} {nm nm' : List Bool} {z : Int} (h : nameS N nm z = some nm') : z < N ∧ nm.getD z.toNat false = false ∧ nm' = nm.set z.toNat true := by
  unfold nameS at h
  cases h1 : iLe N z with
  | true => rw [h1] at h; cases h
  | false =>
    rw [h1, cond_false] at h
    rw [iLe_not] at h1
    cases h2 : nm.getD z.toNat false with
    | true => rw [h2] at h; cases h
    | false =>
      rw [h2] at h
      simp only [cond_false, Option.some.injEq] at h
      exact ⟨by omega, rfl, h.symm⟩

/-- Some leaf's rows are obeyed. -/
theorem reach {m b : D} (hb : Bo b) (hv : bndB m b = true) (X : List Int) : ∃ k : Nat, (k : Int) < D.len (cs b) ∧ iEq (cL (cAs b k)) (-1) = true ∧ sat (rowsOf b k) X := by
  have hN := bnd_len hv
  obtain ⟨N, hNe⟩ : ∃ N : Nat, D.len (cs b) = N := ⟨(D.len (cs b)).toNat, by omega⟩
  have hN' : (D.len (cs b)).toNat = N := by omega
  have hv' := hv
  unfold bndB at hv'
  rw [Bool.and_eq_true] at hv'
  cases hn : namesO m b with
  | none => rw [hn] at hv'; cases hv'.2
  | some last =>
    have key : ∀ (f k i : Nat) (nm : List Bool), N - k = f → k ≤ i → i < N → iterO (vS m b) (List.replicate N false) k = some nm → (i = 0 ∨ nm.getD i false = true) → sat ((abv b k).getD i []) X → ∃ k : Nat, (k : Int) < D.len (cs b) ∧ iEq (cL (cAs b k)) (-1) = true ∧ sat (rowsOf b k) X := by
      intro f
      induction f with
      | zero => intro k i nm h1 h2 h3; omega
      | succ f ih =>
        intro k i nm h1 h2 h3 hnm hi hsat
        unfold namesO at hn
        rw [hN'] at hn
        obtain ⟨u, v, hu, hs⟩ := iterO_some hn k (by omega)
        rw [hnm] at hu
        injection hu with hu
        subst hu
        have hnl := iter_len hnm
        have hal := abv_len b k
        have hstep : iterO (vS m b) (List.replicate N false) (k + 1) = some v := by
          show (iterO (vS m b) (List.replicate N false) k).bind (fun t => vS m b t k) = some v
          rw [hnm]
          exact hs
        have e : abv b (k + 1) = aS b (abv b k) k := rfl
        rcases bnd_case hv (show (k : Int) < D.len (cs b) by omega) with ⟨c, _⟩ | ⟨c, c3, c4, c5⟩
        · by_cases hik : i = k
          · subst hik
            refine ⟨i, by omega, c, ?_⟩
            unfold rowsOf
            rw [abv_stable hv (D.len (cs b)).toNat (by omega) (show i ≤ _ by omega)]
            exact hsat
          · rw [vS_leaf c] at hs
            cases hlf : leafB (cAs b k) with
            | false => rw [hlf] at hs; cases hs
            | true =>
              rw [hlf] at hs
              simp only [cond_true, Option.some.injEq] at hs
              subst hs
              refine ih (k + 1) i nm (by omega) (by omega) h3 hstep hi ?_
              rw [e, aS, c, cond_true]
              exact hsat
        · rw [vS_split c, c3, cond_true, Option.bind_eq_some_iff] at hs
          obtain ⟨nm1, g1, g2⟩ := hs
          obtain ⟨a1, a2, a3⟩ := nameS_facts g1
          obtain ⟨b1, b2, b3⟩ := nameS_facts g2
          have fs := split_facts c3
          have hne : (cL (cAs b k)).toNat ≠ (cR (cAs b k)).toNat := fun he => by
            rw [a3, ← he, getD_set_eq' (by omega)] at b2
            cases b2
          rw [a3, getD_set_ne' hne] at b2
          by_cases hik : i = k
          · subst hik
            have ff := form_facts fs.1
            have hfl := hb.form i (by omega)
            have hsp : dot (D.fld (sideL (cAs b i)) 0) X ≤ D.i (D.fld (sideL (cAs b i)) 1) ∨ dot (D.fld (sideR (cAs b i)) 0) X ≤ D.i (D.fld (sideR (cAs b i)) 1) := by
              have e1 : D.i (D.fld (sideR (cAs b i)) 1) = - cAt (cAs b i) - 1 := by
                show IntKind.wrap .i64 (IntKind.wrap .i64 (0 - cAt (cAs b i)) - 1) = _
                rw [wrap_id (show -9223372036854775808 ≤ 0 - cAt (cAs b i) by omega) (by omega), wrap_id (by omega) (by omega)]
                omega
              have e2 : dot (D.fld (sideR (cAs b i)) 0) X = - dot (D.fld (cAs b i) 2) X := neg_dot (by omega) ff.1 X
              have e3 : dot (D.fld (sideL (cAs b i)) 0) X = dot (D.fld (cAs b i) 2) X := rfl
              have e4 : D.i (D.fld (sideL (cAs b i)) 1) = cAt (cAs b i) := rfl
              rw [e1, e2, e3, e4]
              omega
            have app : ∀ y : D, dot (D.fld y 0) X ≤ D.i (D.fld y 1) → sat ((abv b i).getD i [] ++ [y]) X := fun y hy r hr => by
              rcases List.mem_append.mp hr with hr | hr
              · exact hsat r hr
              · rw [List.mem_singleton.mp hr]; exact hy
            rcases hsp with hl | hr
            · refine ih (i + 1) (cL (cAs b i)).toNat v (by omega) (by omega) (by omega) hstep (Or.inr ?_) ?_
              · rw [b3, getD_set_ne' (Ne.symm hne), a3, getD_set_eq' (by omega)]
              · rw [e, aS, c, cond_false, getD_set_ne' (Ne.symm hne), getD_set_eq' (by omega)]
                exact app _ hl
            · refine ih (i + 1) (cR (cAs b i)).toNat v (by omega) (by omega) (by omega) hstep (Or.inr ?_) ?_
              · rw [b3, getD_set_eq' (by rw [a3, List.length_set]; omega)]
              · rw [e, aS, c, cond_false, getD_set_eq' (by rw [List.length_set]; omega)]
                exact app _ hr
          · have hi' : nm.getD i false = true := by
              rcases hi with hi | hi
              · omega
              · exact hi
            have n1 : (cL (cAs b k)).toNat ≠ i := fun he => by rw [he, hi'] at a2; cases a2
            have n2 : (cR (cAs b k)).toNat ≠ i := fun he => by rw [he, hi'] at b2; cases b2
            refine ih (k + 1) i v (by omega) (by omega) h3 hstep (Or.inr ?_) ?_
            · rw [b3, getD_set_ne' n2, a3, getD_set_ne' n1]
              exact hi'
            · rw [e, aS, c, cond_false, getD_set_ne' n2, getD_set_ne' n1]
              exact hsat
    have h0 : (abv b 0).getD 0 [] = [] := by
      simp only [abv, iter, List.getD]
      rw [List.getElem?_replicate]
      split <;> rfl
    refine key N 0 0 _ rfl (Nat.le_refl _) (by omega) rfl (Or.inl rfl) ?_
    rw [h0]
    intro r hr
    cases hr

/-- An accepted bound is a bound. -/
theorem sound {m b : D} (hm : Mo m) (hb : Bx b) (h : chkV m b = 0) {X : List Int} (hf : feas m X) (hX : X.length = (D.i (D.fld m 0)).toNat) (hX0 : ∀ v ∈ X, 0 ≤ v) : D.i (D.fld m 3) + dot (D.fld m 2) X ≤ D.i (D.fld b 1) := by
  unfold chkV at h
  cases hmv : modB m with
  | false => rw [hmv] at h; cases h
  | true =>
    rw [hmv, cond_true] at h
    cases hv : bndB m b with
    | false => rw [hv] at h; cases h
    | true =>
      rw [hv, cond_true] at h
      cases hl : anyB (longB m b) (D.len (cs b)).toNat with
      | true => rw [hl] at h; cases h
      | false =>
        rw [hl, cond_false] at h
        cases hc : anyB (badC m b) (D.len (cs b)).toNat with
        | true => rw [hc] at h; cases h
        | false =>
          obtain ⟨k, hk, hlf, hs⟩ := reach hb.o hv X
          have hbad := anyB_all hc (show k < (D.len (cs b)).toNat by omega)
          have hlong := anyB_all hl (show k < (D.len (cs b)).toNat by omega)
          unfold badC badV at hbad
          rw [hlf, Bool.true_and, Bool.or_eq_false_iff] at hbad
          have hok : (leafV m (rowsOf b k) (cAs b k)).2.1 = true := by simpa using hbad.1
          have hls := leaf_sound (lc_of hm hmv hb hv hk hlong hlf) hf hs hX hX0 hok
          rw [hls.1, Bool.not_false, Bool.true_and, iLt_not] at hbad
          omega
end Go.Ab

/- The law of accepted bounds: no numbers of the box have a greater value. -/
namespace Go.Ab
open Go.Proofs
attribute [local irreducible] wpF

theorem el_of {X : List Int} {v : Int} (h0 : 0 ≤ v) (h1 : v < X.length) : D.el (lst X) v = .int (X.getD v.toNat 0) := by
  obtain ⟨j, rfl⟩ : ∃ j : Nat, v = j := ⟨v.toNat, by omega⟩
  rw [el_lst _ _ (by omega), toNat_nat]
theorem dot_step {l : D} {c : Nat} {X : List Int} (h : termsB l c 9 = true) (hX : X.length = c) (hv : ∀ v ∈ X, 0 ≤ v ∧ v ≤ 3) {t : Nat} (ht : (t : Int) < D.len l) :
    -27 ≤ tco l t * X.getD (tof l t).toNat 0 ∧ tco l t * X.getD (tof l t).toNat 0 ≤ 27 := by
  have f := badT_facts (terms_at h ht)
  have hx := hv _ (getD_mem (d := 0) (show (tof l t).toNat < X.length by omega))
  have e1 := Int.mul_le_mul_of_nonneg_right f.2.2.2.2.1 hx.1
  have e2 := Int.mul_le_mul_of_nonneg_right f.2.2.2.1 hx.1
  omega
theorem dot_bd {l : D} {c : Nat} {X : List Int} (h : termsB l c 9 = true) (hX : X.length = c) (hv : ∀ v ∈ X, 0 ≤ v ∧ v ≤ 3) : ∀ t : Nat, (t : Int) ≤ D.len l → -(27 * (t : Int)) ≤ dotN l X t ∧ dotN l X t ≤ 27 * (t : Int) := by
  intro t
  induction t with
  | zero => intro _; exact ⟨by show _ ≤ (0 : Int); omega, by show (0 : Int) ≤ _; omega⟩
  | succ t ih =>
    intro ht
    have := ih (by omega)
    have := dot_step h hX hv (show (t : Int) < D.len l by omega)
    rw [dotN_succ]
    omega

def wgt (t : Nat) : Int := [64, 16, 4, 1].getD t 0
def wt (X : List Int) : Int := X.getD 0 0 * 64 + X.getD 1 0 * 16 + X.getD 2 0 * 4 + X.getD 3 0
theorem getD_le {X : List Int} (hv : ∀ v ∈ X, 0 ≤ v ∧ v ≤ 3) (t : Nat) : 0 ≤ X.getD t 0 ∧ X.getD t 0 ≤ 3 := by
  by_cases h : t < X.length
  · exact hv _ (getD_mem h)
  · simp only [List.getD]; rw [List.getElem?_eq_none (by omega)]; simp
section
variable {n : Nat} {Q : List D → Prop}

theorem value_wp {m : D} {c : Nat} {rows goal : List D} {k : Int} {box : List Int} (hm : SM m c rows goal k box) {X : List Int} (hX : X.length = c) (hv : ∀ v ∈ X, 0 ≤ v ∧ v ≤ 3) (hn : 100 ≤ n)
    (hbad : ¬ feas m X → Q [.int 0, .bool false]) (hgood : feas m X → Q [.int (k + dot (.slc goal) X), .bool true]) : wpF Try.prog A n 69 [m, lst X] Q := by
  obtain ⟨p, rfl⟩ : ∃ p, n = p + 1 := ⟨n - 1, by omega⟩
  rw [E69]
  have hc := hm.cols
  have hfew := hm.few
  have k0 := hm.k0
  have k1 := hm.k1
  have e0 : D.fld m 0 = .int (c : Int) := by rw [hm.eq]; rfl
  have e1 : D.fld m 1 = .slc (rows ++ boxR box c) := by rw [hm.eq]; rfl
  have e2 : D.fld m 2 = .slc goal := by rw [hm.eq]; rfl
  have e3 : D.fld m 3 = .int k := by rw [hm.eq]; rfl
  have hall := hm.all
  have hrl := hm.rlen
  have hg := hm.goal
  have hgl := terms_len hg (by omega)
  rw [len_slc] at hgl
  unfold feas at hgood
  rw [e1] at hgood
  rw [e0, len_lst, i_int]
  refine cNe (fun c => by omega) fun _ => ?_
  -- the goal
  have third : (∀ t : Nat, (t : Int) < D.len (.slc (rows ++ boxR box c)) → dot (D.fld (D.el (.slc (rows ++ boxR box c)) t) 0) X ≤ D.i (D.fld (D.el (.slc (rows ++ boxR box c)) t) 1)) → L69_23 p p (lst X) (.int k) (.slc goal) (.int (goal.length : Int)) (.int 0) Q := by
    intro hf
    have hq := hgood hf
    have key : ∀ (m0 t : Nat), t ≤ goal.length → goal.length - t < m0 → L69_23 p m0 (lst X) (.int (k + dotN (.slc goal) X t)) (.slc goal) (.int (goal.length : Int)) (.int (t : Int)) Q := by
      intro m0
      induction m0 with
      | zero => intro t _ h; omega
      | succ m0 ih =>
        intro t h1 h2
        rw [L69_23_eq]
        simp only [i_int, len_slc, len_lst]
        refine cLt (fun ht => ⟨by omega, trivial, ?_⟩) fun ht => ?_
        · have hd : (t : Int) < D.len (.slc goal) := by rw [len_slc]; omega
          have f := badT_facts (terms_at hg hd)
          have b1 := dot_bd hg hX hv t (by omega)
          have b2 := dot_step hg hX hv hd
          have ih := ih (t + 1) (by omega) (by omega)
          rw [dotN_succ] at ih
          have eo : D.i (D.fld (D.el (.slc goal) (t : Int)) 0) = tof (.slc goal) t := rfl
          have ec : D.i (D.fld (D.el (.slc goal) (t : Int)) 1) = tco (.slc goal) t := rfl
          rw [eo, ec, el_of f.1 (by omega), i_int]
          rw [wrap_id (show -9223372036854775808 ≤ tco (.slc goal) t * X.getD (tof (.slc goal) t).toNat 0 by omega) (by omega), wrap_id (show -9223372036854775808 ≤ k + dotN (.slc goal) X t + tco (.slc goal) t * X.getD (tof (.slc goal) t).toNat 0 by omega) (by omega), wrap_id (by omega) (by omega), show ((t : Int) + 1) = ((t + 1 : Nat) : Int) by omega, Int.add_assoc]
          exact ⟨by omega, ih⟩
        · have e : t = goal.length := by omega
          subst e
          unfold dot at hq
          rw [len_slc, toNat_nat] at hq
          exact hq
    have := key p 0 (by omega) (by omega)
    rw [show dotN (.slc goal) X 0 = 0 from rfl, Int.add_zero] at this
    exact this
  -- the rows
  have second : L69_10 p p (lst X) (.slc (rows ++ boxR box c)) (.int ((rows ++ boxR box c).length : Int)) (.int 0) m Q := by
    refine all_loop (L := fun m0 t => L69_10 p m0 (lst X) (.slc (rows ++ boxR box c)) (.int ((rows ++ boxR box c).length : Int)) t m Q) (bad := fun t => iLt (D.i (D.fld (D.el (.slc (rows ++ boxR box c)) (t : Nat)) 1)) (dot (D.fld (D.el (.slc (rows ++ boxR box c)) (t : Nat)) 0) X)) (N := (rows ++ boxR box c).length) (F := Q [.int 0, .bool false]) (by omega) (fun m0 t ht hw hb hgo => ?_) (fun hb => hbad fun hf => ?_) (fun hgo m0 => ?_) p 0 (by omega) (by omega) (by omega)
    · rw [L69_10_eq]
      simp only [i_int, len_slc]
      obtain ⟨s, mo, e, h1, h2, h3⟩ := hall _ (el_mem (d := .slc (rows ++ boxR box c)) (i := t) (by rw [len_slc]; omega))
      rw [e] at hb hgo ⊢
      simp only [fld0, fldS, i_int] at hb hgo ⊢
      have hsl := terms_len h1 (by omega)
      rw [len_slc] at hsl ⊢
      refine cLt (fun _ => ⟨by omega, trivial, ?_⟩) fun c => by omega
      have key : ∀ (m1 j : Nat), j ≤ s.length → s.length - j < m1 → L69_14 p m0 m1 (lst X) (.int (dotN (.slc s) X j)) (.slc (rows ++ boxR box c)) (.int ((rows ++ boxR box c).length : Int)) (.int (t : Int)) (.slc s) (.int (s.length : Int)) (.int (j : Int)) m (.agg [.slc s, .int mo]) Q := by
        intro m1
        induction m1 with
        | zero => intro j _ h; omega
        | succ m1 ih =>
          intro j g1 g2
          rw [L69_14_eq]
          simp only [i_int, len_slc, len_lst, fld0, fldS]
          refine cLt (fun hj => ⟨by omega, trivial, ?_⟩) fun hj => ?_
          · have hd : (j : Int) < D.len (.slc s) := by rw [len_slc]; omega
            have f := badT_facts (terms_at h1 hd)
            have b1 := dot_bd h1 hX hv j (by omega)
            have b2 := dot_step h1 hX hv hd
            have ih := ih (j + 1) (by omega) (by omega)
            rw [dotN_succ] at ih
            have eo : D.i (D.fld (D.el (.slc s) (j : Int)) 0) = tof (.slc s) j := rfl
            have ec : D.i (D.fld (D.el (.slc s) (j : Int)) 1) = tco (.slc s) j := rfl
            rw [eo, ec, el_of f.1 (by omega), i_int]
            rw [wrap_id (show -9223372036854775808 ≤ tco (.slc s) j * X.getD (tof (.slc s) j).toNat 0 by omega) (by omega), wrap_id (show -9223372036854775808 ≤ dotN (.slc s) X j + tco (.slc s) j * X.getD (tof (.slc s) j).toNat 0 by omega) (by omega), wrap_id (by omega) (by omega), show ((j : Int) + 1) = ((j + 1 : Nat) : Int) by omega]
            exact ⟨by omega, ih⟩
          · have e : j = s.length := by omega
            subst e
            unfold dot at hb hgo
            rw [len_slc, toNat_nat] at hb hgo
            rw [hw]
            exact cnd (fun c => hb c) fun c => hgo c
      exact key p 0 (by omega) (by omega)
    · rw [anyB_false fun t ht => iLt_not.mpr (by
        have := hf t (by rw [e1, len_slc]; omega)
        rw [e1] at this
        omega)] at hb
      cases hb
    · rw [L69_10_eq]
      simp only [i_int]
      rw [e2, e3, len_slc]
      refine cLt (fun c => by omega) fun _ => third fun t ht => ?_
      rw [len_slc] at ht
      have := anyB_all hgo (show t < (rows ++ boxR box c).length by omega)
      rw [iLt_not] at this
      omega
  -- the numbers
  rw [hX]
  refine all_loop (L := fun m0 t => L69_4 p m0 (lst X) (lst X) (.int (c : Int)) t m Q) (bad := fun _ => false) (N := c) (F := False) (by omega) (fun m0 t ht hw hb hgo => ?_) (fun hb => by rw [anyB_false fun _ _ => rfl] at hb; cases hb) (fun hgo m0 => ?_) p 0 (by omega) (by omega) (by omega)
  · rw [L69_4_eq]
    simp only [i_int, len_lst]
    have := getD_le hv t
    rw [hw, el_lst _ _ (by omega), i_int]
    exact cLt (fun _ => ⟨by omega, cLt (fun c => by omega) fun _ => cLt (fun c => by omega) fun _ => hgo rfl⟩) fun c => by omega
  · rw [L69_4_eq]
    simp only [i_int]
    rw [e1, len_slc]
    exact cLt (fun c => by omega) fun _ => second

end
end Go.Ab

/- Boxes: which are right: both answers are one. -/
namespace Go.Ab
open Go.Proofs
attribute [local irreducible] wpF

/-- A model as it is drawn, before it is boxed. -/
structure DM (m : D) (c : Nat) (rows goal : List D) (k : Int) : Prop where
  eq : m = .agg [.int (c : Int), .slc rows, .slc goal, .int k]
  cols : c ≤ 5
  few : rows.length ≤ 6
  gfl : ∀ x ∈ goal, Fl x
  rows : ∀ x ∈ rows, SR c x
  goal : termsB (.slc goal) c 9 = true
  k0 : -9 ≤ k
  k1 : k ≤ 9

/-- A box that fits. -/
def boxOk (c : Nat) (most : List Int) : Prop := c ≤ 4 ∧ most.length = c ∧ ∀ v ∈ most, 0 ≤ v ∧ v ≤ 3
def noM : D := .agg [.int 0, .slc [], .slc [], .int 0]
def boxM (c : Nat) (rows goal : List D) (k : Int) (box : List Int) : D := .agg [.int (c : Int), .slc (rows ++ boxR box c), .slc goal, .int k]

theorem DM.sm {m : D} {c : Nat} {rows goal : List D} {k : Int} {box : List Int} (h : DM m c rows goal k) (hb : boxOk c box) : SM (boxM c rows goal k box) c rows goal k box :=
  ⟨rfl, hb.1, hb.2.1, h.few, h.gfl, h.rows, h.goal, h.k0, h.k1, hb.2.2⟩

section
variable {n : Nat} {Q : List D → Prop}

theorem cloneT_wp {d : D} (hl : D.len d ≤ 1100000) (hn : 1 ≤ n) (h : Q [.slc (D.xs d)]) : wpF Try.prog A n 118 [d] Q := by
  obtain ⟨p, rfl⟩ : ∃ p, n = p + 1 := ⟨n - 1, by omega⟩
  rw [E118]
  have e : D.len d = ((D.xs d).length : Nat) := rfl
  intro b hb
  refine cnd (fun c => ?_) fun _ => ⟨?_, h⟩
  · have h0 := hb c
    have : D.xs d = [] := List.length_eq_zero_iff.mp (by omega)
    rw [this] at h
    exact h
  · unfold room; rw [List.length_nil]; omega

theorem cloneI_wp {d : D} (hl : D.len d ≤ 1100000) (hn : 1 ≤ n) (h : Q [.slc (D.xs d)]) : wpF Try.prog A n 115 [d] Q := by
  obtain ⟨p, rfl⟩ : ∃ p, n = p + 1 := ⟨n - 1, by omega⟩
  rw [E115]
  have e : D.len d = ((D.xs d).length : Nat) := rfl
  intro b hb
  refine cnd (fun c => ?_) fun _ => ⟨?_, h⟩
  · have h0 := hb c
    have : D.xs d = [] := List.length_eq_zero_iff.mp (by omega)
    rw [this] at h
    exact h
  · unfold room; rw [List.length_nil]; omega

/-- A search in numbers. -/
theorem hasI_wp {z : List Int} {f : Nat} {p : Int → Bool} (hz : z.length ≤ 1000000) (hn : 1000100 ≤ n)
    (hcall : ∀ (q : Nat) (v : Int) (Q : List D → Prop), 10 ≤ q → Q [.bool (p v)] → dynH A (wpF Try.prog A q) (.fn f []) [.imm 3] [.val 4 .imm] [.int v] Q) (h : Q [.bool (anyB (fun i => p (z.getD i 0)) z.length)]) : wpF Try.prog A n 79 [lst z, .fn f []] Q := by
  obtain ⟨q, rfl⟩ : ∃ q, n = q + 2 := ⟨n - 2, by omega⟩
  rw [E79, E135]
  refine found_loop (Q := Q) (x1 := .fn f []) (N := z.length) (p := fun i => p (z.getD i 0)) (L := L135_2 q) (call := fun x1 e Q => dynH A (wpF Try.prog A q) x1 [.imm 3] [.val 4 .imm] [e] Q) (fun m0 x0 x1 x7 x8 Q => L135_2_eq q m0 x0 x1 x7 x8 Q) (len_lst z) (by omega)
    (fun i hi Q hQ => ?_) (by omega) h
  rw [el_lst _ _ hi]
  exact hcall q _ Q (by omega) hQ

/-- The program's test of small models. -/
theorem smallP_wp {m : D} {c : Nat} {rows goal : List D} {k : Int} (hm : DM m c rows goal k) (hn : 1100400 ≤ n) (h : Q [.bool true]) : wpF Try.prog A n 116 [m] Q := by
  obtain ⟨p, rfl⟩ : ∃ p, n = p + 2 := ⟨n - 2, by omega⟩
  rw [E116, E165, hm.eq]
  have hc := hm.cols
  have hr := hm.few
  have k0 := hm.k0
  have k1 := hm.k1
  have hg := hm.goal
  have hgl := terms_len hg (by omega)
  simp only [fld0, fldS, i_int, len_slc]
  refine cLe (fun _ => ?_) fun c => by omega
  refine cLe (fun _ => ?_) fun c => by omega
  refine cLe (fun _ => ?_) fun c => by omega
  refine terms_wp (by omega) (by omega) (by omega) ?_
  rw [rs0, b_bool, i_int, hg, cond_true]
  refine within34_wp (by omega) (by omega) ?_
  rw [rs0, b_bool, i_int, wi_of (by omega) (by omega), cond_true]
  obtain ⟨q, rfl⟩ : ∃ q, p = q + 2 := ⟨p - 2, by omega⟩
  rw [E207, E210]
  refine found_loop (Q := fun r => (fun r1 => Q [rs r1 0]) [.bool (!D.b (rs r 0))]) (x1 := .fn 208 [.ptr (.agg [.int (c : Int), .slc rows, .slc goal, .int k]), .ptr (.int 9), .ptr (.int 50)]) (N := rows.length) (p := fun _ => false) (L := L210_2 q) (call := fun x1 e Q => dynH A (wpF Try.prog A q) x1 [.imm 129] [.val 4 .imm] [e] Q) (fun m0 x0 x1 x7 x8 Q => L210_2_eq q m0 x0 x1 x7 x8 Q) (len_slc rows) (by omega)
    (fun i hi Q hQ => ⟨⟨rfl, rfl, rfl, rfl⟩, ?_⟩) (by omega) ?_
  · obtain ⟨u, rfl⟩ : ∃ u, q = u + 1 := ⟨q - 1, by omega⟩
    show wpF Try.prog A (u + 1) 208 [D.el (.slc rows) (i : Int), .agg [.int (c : Int), .slc rows, .slc goal, .int k], .int 9, .int 50] Q
    rw [E208]
    obtain ⟨s, mo, e, h4, h5, h6⟩ := hm.rows _ (getD_mem (d := .und) (show i < rows.length by omega))
    have e2 : D.el (.slc rows) (i : Int) = .agg [.slc s, .int mo] := e
    have hsl := terms_len h4 (by omega)
    rw [e2]
    simp only [fld0, fldS]
    refine terms_wp (by omega) (by omega) (by omega) ?_
    rw [rs0, b_bool, i_int, h4]
    simp only [Bool.not_true, cond_false]
    refine within34_wp (by omega) (by omega) ?_
    rw [rs0, b_bool, i_int, wi_of (by omega) (by omega)]
    exact hQ
  · rw [anyB_false fun _ _ => rfl, rs0, b_bool]
    exact h

/-- The program's boxed models. -/
theorem boxP_wp {m : D} {c : Nat} {rows goal : List D} {k : Int} {most : List Int} (hm : DM m c rows goal k) (hl : most.length ≤ 1000) (hn : 1100500 ≤ n)
    (hbad : ¬ boxOk c most → Q [noM, .int 33]) (hgood : boxOk c most → Q [boxM c rows goal k most, .int 0]) : wpF Try.prog A n 67 [m, lst most] Q := by
  obtain ⟨p, rfl⟩ : ∃ p, n = p + 1 := ⟨n - 1, by omega⟩
  rw [E67]
  refine smallP_wp hm (by omega) ?_
  have hc := hm.cols
  have hr := hm.few
  have hg := hm.goal
  have hgl := terms_len hg (by omega)
  rw [len_slc] at hgl
  rw [rs0, b_bool, hm.eq]
  simp only [fld0, fldS, i_int, xs_slc, len_slc, len_lst, Bool.not_true, cond_false]
  refine cLt (fun c4 => ⟨trivial, hbad fun h => by have := h.1; omega⟩) fun c4 => cNe (fun c5 => ⟨trivial, hbad fun h => by have := h.2.1; omega⟩) fun c5 => ?_
  refine hasI_wp (p := fun v => iLt v 0 || iLt 3 v) (by omega) (by omega) (fun q v Q hq hQ => ⟨⟨rfl, rfl, rfl, rfl⟩, ?_⟩) ?_
  · obtain ⟨u, rfl⟩ : ∃ u, q = u + 1 := ⟨q - 1, by omega⟩
    show wpF Try.prog A (u + 1) 117 [.int v] Q
    rw [E117, i_int]
    refine cnd (fun c => ?_) fun c => ?_
    · rw [c, Bool.true_or] at hQ; exact hQ
    · rw [c, Bool.false_or] at hQ; exact hQ
  rw [rs0, b_bool]
  refine cnd (fun hany => ⟨trivial, hbad fun h => ?_⟩) fun hany => ?_
  · rw [anyB_false fun i hi => ?_] at hany
    · cases hany
    · have := h.2.2 _ (getD_mem (d := 0) hi)
      show (iLt (most.getD i 0) 0 || iLt 3 (most.getD i 0)) = false
      rw [iLt_not.mpr (by omega), iLt_not.mpr (by omega)]
      rfl
  have hok : boxOk c most := ⟨by omega, by omega, fun v hv => by
    obtain ⟨i, hi, rfl⟩ := List.getElem_of_mem hv
    have := anyB_all hany hi
    simp only [List.getD_eq_getElem?_getD, List.getElem?_eq_getElem hi, Option.getD_some, Bool.or_eq_false_iff, iLt_not] at this
    omega⟩
  have h := hgood hok
  refine cloneT_wp (by rw [len_slc]; omega) (by omega) ⟨trivial, ?_⟩
  rw [rs0, xs_slc]
  have second : ∀ (m0 j : Nat), j ≤ c → c - j < m0 → L67_10 p m0 (lst most) (.int (most.length : Int)) (.int (j : Int)) (.agg [.int 0, .slc [], .slc [], .int 0]) (.agg [.int (c : Int), .slc (rows ++ boxR most j), .slc goal, .int k]) Q := by
    intro m0
    induction m0 with
    | zero => intro j _ h; omega
    | succ m0 ih =>
      intro j h2 h3
      rw [L67_10_eq]
      simp only [fld0, fldS, i_int, xs_slc, len_lst]
      refine cLt (fun hj => ⟨by omega, ?_⟩) fun hj => ?_
      · rw [el_lst _ _ (by omega)]
        have hl := boxR_len most j
        refine ⟨by unfold room; rw [List.length_append, hl, List.length_singleton]; omega, trivial, ?_⟩
        rw [wrap_id (by omega) (by omega), show ((j : Int) + 1) = ((j + 1 : Nat) : Int) by omega, List.append_assoc]
        have e : boxR most j ++ [.agg [.slc [.agg [.int (j : Int), .int 1]], .int (most.getD j 0)]] = boxR most (j + 1) := (boxR_succ most j).symm
        rw [e]
        exact ih (j + 1) (by omega) (by omega)
      · have e : j = c := by omega
        subst e
        exact ⟨trivial, h⟩
  have first : ∀ (m0 j : Nat), j ≤ rows.length → rows.length - j < m0 → L67_5 p m0 (lst most) (.slc rows) (.int (rows.length : Int)) (.int (j : Int)) (.agg [.int 0, .slc [], .slc [], .int 0]) (.agg [.int (c : Int), .slc (rows.take j), .slc goal, .int k]) Q := by
    intro m0
    induction m0 with
    | zero => intro j _ h; omega
    | succ m0 ih =>
      intro j h2 h3
      rw [L67_5_eq]
      simp only [fld0, fldS, i_int, xs_slc, len_slc]
      refine cLt (fun hj => ⟨by omega, trivial, ?_⟩) fun hj => ?_
      · obtain ⟨s, mo, e, h4, h5, h6⟩ := hm.rows _ (getD_mem (d := .und) (show j < rows.length by omega))
        have e2 : D.el (.slc rows) (j : Int) = .agg [.slc s, .int mo] := e
        have hsl := terms_len h4 (by omega)
        rw [len_slc] at hsl
        rw [e2]
        simp only [fld0, fldS]
        refine cloneT_wp (by rw [len_slc]; omega) (by omega) ?_
        rw [rs0, xs_slc]
        have hl := List.length_take_le j rows
        refine ⟨by unfold room; rw [List.length_singleton]; omega, trivial, ?_⟩
        rw [wrap_id (by omega) (by omega), show ((j : Int) + 1) = ((j + 1 : Nat) : Int) by omega]
        have := ih (j + 1) (by omega) (by omega)
        rw [take_snoc (d := .und) (by omega), e] at this
        exact this
      · have e : j = rows.length := by omega
        subst e
        rw [List.take_length, len_lst]
        have := second p 0 (by omega) (by omega)
        rw [show boxR most 0 = [] from rfl, List.append_nil] at this
        exact this
  exact first p 0 (by omega) (by omega)

/-- The document's boxed models. -/
theorem boxR_wp {m : D} {c : Nat} {rows goal : List D} {k : Int} {most : List Int} (hm : DM m c rows goal k) (hl : most.length ≤ 1000) (hn : 1100500 ≤ n)
    (hbad : ¬ boxOk c most → Q [noM, .int 33]) (hgood : boxOk c most → Q [boxM c rows goal k most, .int 0]) : wpF Try.prog A n 38 [m, lst most] Q := by
  obtain ⟨p, rfl⟩ : ∃ p, n = p + 1 := ⟨n - 1, by omega⟩
  rw [E38, hm.eq]
  have hc := hm.cols
  have hr := hm.few
  have hg := hm.goal
  refine small_wp hm.cols hr hg hm.k0 hm.k1 hm.rows (by omega) ?_
  have hgl := terms_len hg (by omega)
  rw [len_slc] at hgl
  rw [rs0, b_bool]
  simp only [fld0, fldS, i_int, xs_slc, len_slc, len_lst, Bool.not_true, cond_false]
  refine cLt (fun c4 => ⟨trivial, hbad fun h => by have := h.1; omega⟩) fun c4 => cNe (fun c5 => ⟨trivial, hbad fun h => by have := h.2.1; omega⟩) fun c5 => ⟨by unfold room; omega, trivial, ?_⟩
  have second : ∀ (m0 j : Nat), j ≤ c → c - j < m0 → (∀ i, i < j → 0 ≤ most.getD i 0 ∧ most.getD i 0 ≤ 3) → L38_10 p m0 (lst most) (.int (most.length : Int)) (.int (j : Int)) (.agg [.int 0, .slc [], .slc [], .int 0]) (.agg [.int (c : Int), .slc (rows ++ boxR most j), .slc goal, .int k]) Q := by
    intro m0
    induction m0 with
    | zero => intro j _ h; omega
    | succ m0 ih =>
      intro j h2 h3 hv
      rw [L38_10_eq]
      simp only [fld0, fldS, i_int, xs_slc, len_lst]
      refine cLt (fun hj => ⟨by omega, ?_⟩) fun hj => ?_
      · have hj' : j < most.length := by omega
        rw [el_lst _ _ hj', i_int]
        refine cLt (fun c => ⟨trivial, hbad fun h => by have := h.2.2 _ (getD_mem (d := 0) hj'); omega⟩) fun c1 => cLt (fun c => ⟨trivial, hbad fun h => by have := h.2.2 _ (getD_mem (d := 0) hj'); omega⟩) fun c2 => ?_
        have hl := boxR_len most j
        refine ⟨by unfold room; rw [List.length_append, hl, List.length_singleton]; omega, trivial, ?_⟩
        rw [wrap_id (by omega) (by omega), show ((j : Int) + 1) = ((j + 1 : Nat) : Int) by omega, List.append_assoc]
        have e : boxR most j ++ [.agg [.slc [.agg [.int (j : Int), .int 1]], .int (most.getD j 0)]] = boxR most (j + 1) := (boxR_succ most j).symm
        rw [e]
        refine ih (j + 1) (by omega) (by omega) fun i hi => ?_
        by_cases e : i = j
        · subst e; omega
        · exact hv i (by omega)
      · have e : j = c := by omega
        subst e
        refine ⟨trivial, hgood ⟨by omega, by omega, fun v hv' => ?_⟩⟩
        obtain ⟨i, hi, rfl⟩ := List.getElem_of_mem hv'
        have := hv i (by omega)
        simpa only [List.getD_eq_getElem?_getD, List.getElem?_eq_getElem hi, Option.getD_some] using this
  have first : ∀ (m0 j : Nat), j ≤ rows.length → rows.length - j < m0 → L38_5 p m0 (lst most) (.slc rows) (.int (rows.length : Int)) (.int (j : Int)) (.agg [.int 0, .slc [], .slc [], .int 0]) (.agg [.int (c : Int), .slc (rows.take j), .slc goal, .int k]) Q := by
    intro m0
    induction m0 with
    | zero => intro j _ h; omega
    | succ m0 ih =>
      intro j h2 h3
      rw [L38_5_eq]
      simp only [fld0, fldS, i_int, xs_slc, len_slc]
      refine cLt (fun hj => ⟨by omega, trivial, ?_⟩) fun hj => ?_
      · obtain ⟨s, mo, e, h4, h5, h6⟩ := hm.rows _ (getD_mem (d := .und) (show j < rows.length by omega))
        have e2 : D.el (.slc rows) (j : Int) = .agg [.slc s, .int mo] := e
        have hsl := terms_len h4 (by omega)
        rw [len_slc] at hsl
        rw [e2]
        simp only [fld0, fldS, xs_slc]
        have hl := List.length_take_le j rows
        refine ⟨by unfold room; omega, by unfold room; rw [List.length_singleton]; omega, trivial, ?_⟩
        rw [wrap_id (by omega) (by omega), show ((j : Int) + 1) = ((j + 1 : Nat) : Int) by omega]
        have := ih (j + 1) (by omega) (by omega)
        rw [take_snoc (d := .und) (by omega), e] at this
        exact this
      · have e : j = rows.length := by omega
        subst e
        rw [List.take_length, len_lst]
        have := second p 0 (by omega) (by omega) fun i hi => by omega
        rw [show boxR most 0 = [] from rfl, List.append_nil] at this
        exact this
  exact first p 0 (by omega) (by omega)
end
end Go.Ab
