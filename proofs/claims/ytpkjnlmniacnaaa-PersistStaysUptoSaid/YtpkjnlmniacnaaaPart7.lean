/- Equations and plain laws of the functions that the statement reaches, part 7. Conditions: those in each theorem. -/
import Derived.Test.YtpkjnlmniacnaaaPart6
set_option linter.unusedVariables false
set_option linter.unusedSimpArgs false
/- A line that fits stays: what is counted, and that no line before it is one that was not counted. -/
namespace Go.Ab
open Go.Proofs
attribute [local irreducible] wpF

theorem nodup_len : ∀ (L T : List Int), L.Nodup → (∀ x ∈ L, x ∈ T) → L.length ≤ T.length
  | [], T, _, _ => Nat.zero_le _
  | a :: L, T, h, hs => by
    have h1 := List.nodup_cons.1 h
    have ha := hs a (by simp)
    have := nodup_len L (T.erase a) h1.2 fun x hx => (List.mem_erase_of_ne fun (e : x = a) => h1.1 (e ▸ hx)).2 (hs x (List.mem_cons_of_mem _ hx))
    have h2 := List.length_erase_of_mem ha
    have h3 := List.length_pos_of_mem ha
    simp only [List.length_cons]
    omega

/-- A line is there, and all before it are counted. -/
def Kept (T x : List Int) (m : Int) : Prop := ∃ p, p < x.length ∧ x.getD p 0 = m ∧ ∀ j, j < p → x.getD j 0 ∈ T

theorem kept_far {T x : List Int} {q m : Int} {at' p : Nat} (hat : at' < x.length) (hp : p < at') (h1 : x.getD p 0 = m) (h2 : ∀ j, j < p → x.getD j 0 ∈ T) (hq : q ∈ T) : Kept T (q :: x.eraseIdx at') m := by
  refine ⟨p + 1, ?_, ?_, fun j hj => ?_⟩
  · rw [List.length_cons, List.length_eraseIdx, if_pos hat]; omega
  · rw [List.getD_cons_succ, gd_erase, if_pos hp]; exact h1
  · cases j with
    | zero => exact hq
    | succ j =>
      rw [List.getD_cons_succ, gd_erase, if_pos (by omega)]
      exact h2 j (by omega)
theorem kept_hit {T x : List Int} {q m : Int} {at' : Nat} (hat : at' < x.length) (hx : x.getD at' 0 = q) (hm : m ≠ q) (hq : q ∈ T) (h : Kept T x m) : Kept T (q :: x.eraseIdx at') m := by
  obtain ⟨p, p1, p2, p3⟩ := h
  rcases Nat.lt_trichotomy p at' with h | h | h
  · exact kept_far hat h p2 p3 hq
  · exact absurd (by rw [← p2, h]; exact hx) hm
  · refine ⟨p, ?_, ?_, fun j hj => ?_⟩
    · rw [List.length_cons, List.length_eraseIdx, if_pos hat]; omega
    · obtain ⟨p, rfl⟩ : ∃ p', p = p' + 1 := ⟨p - 1, by omega⟩
      rw [List.getD_cons_succ, gd_erase, if_neg (by omega)]
      exact p2
    · cases j with
      | zero => exact hq
      | succ j =>
        rw [List.getD_cons_succ, gd_erase]
        split
        · exact p3 j (by omega)
        · exact p3 (j + 1) hj
theorem kept_miss {T x : List Int} {q m : Int} (hr : Rt x) (hT0 : ∀ y ∈ T, 0 ≤ y) (hT : T.length ≤ x.length) (hqx : q ∉ x) (hm : m ≠ q) (hq : q ∈ T) (hmT : m ∈ T) (h : Kept T x m) : Kept T (q :: x.eraseIdx (x.length - 1)) m := by
  obtain ⟨p, p1, p2, p3⟩ := h
  have hmem : ∀ y ∈ x.take p, ∃ j, j < p ∧ x.getD j 0 = y := fun y hy => by
    obtain ⟨j, hj, e⟩ := mem_gdI.1 hy
    rw [List.length_take] at hj
    refine ⟨j, by omega, ?_⟩
    rw [← e, List.getD_eq_getElem?_getD, List.getD_eq_getElem?_getD, List.getElem?_take, if_pos (by omega)]
  have hnd : (x.take p).Nodup := by
    refine List.Pairwise.imp_of_mem (fun {a b} ha hb hab => ?_) (List.Pairwise.sublist (List.take_sublist p x) hr)
    obtain ⟨j, hj, e⟩ := hmem a ha
    exact hab (e ▸ hT0 _ (p3 j hj))
  have hmL : m ∉ x.take p := fun hm' => by
    obtain ⟨j, hj, e⟩ := hmem m hm'
    exact hr.get (i := j) (j := p) (by omega) (by omega) p1 (hT0 _ (p3 j hj)) (e.trans p2.symm)
  have hqL : q ∉ x.take p := fun hq' => hqx ((List.take_sublist p x).subset hq')
  have := nodup_len (q :: m :: x.take p) T (List.nodup_cons.2 ⟨fun h => by
    rcases List.mem_cons.1 h with h | h
    · exact hm h.symm
    · exact hqL h, List.nodup_cons.2 ⟨hmL, hnd⟩⟩) fun y hy => by
    rcases List.mem_cons.1 hy with rfl | hy
    · exact hq
    · rcases List.mem_cons.1 hy with rfl | hy
      · exact hmT
      · obtain ⟨j, hj, rfl⟩ := hmem y hy
        exact p3 j hj
  simp only [List.length_cons, List.length_take] at this
  exact kept_far (by omega) (by omega) p2 p3 hq

theorem same_int {a : D} {m : Int} (h : D.same 8 a (.int m) = true) : a = .int m := by
  cases a with
  | int k =>
    have : k = m := by simpa [D.same] using h
    rw [this]
  | _ => simp [D.same] at h
theorem same_ii (a b : Int) : D.same 8 (.int a) (.int b) = decide (a = b) := rfl
theorem mapGet_put {m k : Int} {v : D} : ∀ es : List (D × D), mapGet (mapPut es (.int m) v) (.int k) = if k = m then some v else mapGet es (.int k)
  | [] => by
    simp only [mapPut, mapGet, same_ii]
    by_cases h : k = m
    · subst h; simp
    · simp [h, Ne.symm h]
  | (a, b) :: es => by
    have ih := mapGet_put (m := m) (k := k) (v := v) es
    simp only [mapPut]
    cases hs : D.same 8 a (.int m) with
    | true =>
      have := same_int hs
      subst this
      simp only [cond_true, mapGet, same_ii]
      by_cases h : k = m
      · subst h; simp
      · simp [h, Ne.symm h]
    | false =>
      simp only [cond_false, mapGet]
      rw [ih]
      by_cases h : k = m
      · subst h; rw [hs]; simp
      · simp only [if_neg h]
def cntM (es : List (D × D)) (m : Int) : Int := D.i ((mapGet es (.int m)).getD (.int 0))
theorem cntM_put {m k : Int} {v : D} {es : List (D × D)} : cntM (mapPut es (.int m) v) k = if k = m then D.i v else cntM es k := by
  unfold cntM
  rw [mapGet_put]
  split <;> rfl

/-- What is counted. -/
structure Cn (s : Nat) (al : List Int) (T : List (List Int)) : Prop where
  rng : ∀ m ∈ al, 0 ≤ m ∧ m < 20
  len : T.length = s
  row : ∀ i, i < s → (T.getD i []).Nodup ∧ (∀ m ∈ T.getD i [], 0 ≤ m) ∧ (T.getD i []).length ≤ al.length
  mem : ∀ m ∈ al, m ∈ T.getD (m.toNat % s) []
theorem Cn.old {s : Nat} {al : List Int} {T : List (List Int)} (h : Cn s al T) {v : Nat} (hv : v < 20) (hm : (v : Int) ∈ T.getD (v % s) []) : Cn s (al ++ [(v : Int)]) T := by
  refine ⟨fun m hm' => ?_, h.len, fun i hi => ?_, fun m hm' => ?_⟩
  · rcases List.mem_append.1 hm' with hm' | hm'
    · exact h.rng m hm'
    · rw [List.mem_singleton.1 hm']; omega
  · obtain ⟨a, b, c⟩ := h.row i hi
    exact ⟨a, b, by rw [List.length_append, List.length_singleton]; omega⟩
  · rcases List.mem_append.1 hm' with hm' | hm'
    · exact h.mem m hm'
    · rw [List.mem_singleton.1 hm']; exact hm
theorem Cn.new {s : Nat} {al : List Int} {T : List (List Int)} (h : Cn s al T) (hs : 0 < s) {v : Nat} (hv : v < 20) (hm : (v : Int) ∉ T.getD (v % s) []) : Cn s (al ++ [(v : Int)]) (T.set (v % s) (T.getD (v % s) [] ++ [(v : Int)])) := by
  have hlt : v % s < s := Nat.mod_lt _ hs
  have hget : ∀ i, (T.set (v % s) (T.getD (v % s) [] ++ [(v : Int)])).getD i [] = if i = v % s then T.getD (v % s) [] ++ [(v : Int)] else T.getD i [] := fun i => by
    by_cases e : i = v % s
    · subst e
      rw [if_pos rfl, gd_set (by rw [h.len]; exact hlt)]
    · rw [if_neg e]
      simp [List.getD_eq_getElem?_getD, List.getElem?_set, Ne.symm e]
  refine ⟨fun m hm' => ?_, by rw [List.length_set, h.len], fun i hi => ?_, fun m hm' => ?_⟩
  · rcases List.mem_append.1 hm' with hm' | hm'
    · exact h.rng m hm'
    · rw [List.mem_singleton.1 hm']; omega
  · rw [hget]
    obtain ⟨a, b, c⟩ := h.row i hi
    by_cases e : i = v % s
    · rw [if_pos e]
      rw [e] at a b c
      refine ⟨List.nodup_append.2 ⟨a, by simp, fun x hx y hy e => ?_⟩, fun m hm' => ?_, by rw [List.length_append, List.length_append, List.length_singleton]; omega⟩
      · rw [List.mem_singleton.1 hy] at e
        exact hm (e ▸ hx)
      · rcases List.mem_append.1 hm' with hm' | hm'
        · exact b m hm'
        · rw [List.mem_singleton.1 hm']; omega
    · rw [if_neg e]
      exact ⟨a, b, by rw [List.length_append, List.length_singleton]; omega⟩
  · rw [hget]
    rcases List.mem_append.1 hm' with hm' | hm'
    · have := h.mem m hm'
      split
      · rename_i e
        rw [e] at this
        exact List.mem_append_left _ this
      · exact this
    · rw [List.mem_singleton.1 hm', Int.toNat_natCast, if_pos rfl]
      simp

/-- A line that fits missed once at most; once it did, it is kept. -/
def Kp (s w : Nat) (al : List Int) (T S : List (List Int)) (es : List (D × D)) : Prop :=
  ∀ m ∈ al, (T.getD (m.toNat % s) []).length ≤ w → 0 ≤ cntM es m ∧ cntM es m ≤ 1 ∧ (cntM es m = 1 → Kept (T.getD (m.toNat % s) []) (S.getD (m.toNat % s) []) m)

theorem Kp.hit {s w : Nat} {al : List Int} {T S : List (List Int)} {es : List (D × D)} (h : Kp s w al T S es) (hc : Cn s al T) (hS : Cts s w S) (hs : 0 < s) {q : Nat} (hq : (q : Int) ∈ al) {at' : Nat} (hat : at' < (S.getD (q % s) []).length) (h1 : (S.getD (q % s) []).getD at' 0 = (q : Int)) :
    Kp s w al T (S.set (q % s) ((q : Int) :: (S.getD (q % s) []).eraseIdx at')) es := by
  intro m hm hf
  obtain ⟨a1, a2, a3⟩ := h m hm hf
  refine ⟨a1, a2, fun e => ?_⟩
  have hk := a3 e
  have hlt : q % s < s := Nat.mod_lt _ hs
  by_cases ei : m.toNat % s = q % s
  · rw [ei, gd_set (by rw [hS.len]; exact hlt)]
    rw [ei] at hk
    have hqT := hc.mem _ hq
    rw [Int.toNat_natCast] at hqT
    by_cases em : m = q
    · subst em
      exact ⟨0, by simp, rfl, fun j hj => by omega⟩
    · exact kept_hit hat h1 em hqT hk
  · have : (S.set (q % s) ((q : Int) :: (S.getD (q % s) []).eraseIdx at')).getD (m.toNat % s) [] = S.getD (m.toNat % s) [] := by
      simp [List.getD_eq_getElem?_getD, List.getElem?_set, Ne.symm ei]
    rw [this]
    exact hk
theorem Kp.miss {s w : Nat} {al : List Int} {T S : List (List Int)} {es : List (D × D)} (h : Kp s w al T S es) (hc : Cn s al T) (hS : Cts s w S) (hs : 0 < s) {q : Nat} (hq : (q : Int) ∈ al) (h1 : (q : Int) ∉ S.getD (q % s) []) :
    Kp s w al T (S.set (q % s) ((q : Int) :: (S.getD (q % s) []).eraseIdx ((S.getD (q % s) []).length - 1))) (mapPut es (.int q) (.int (IntKind.wrap .i64 (cntM es q + 1)))) := by
  intro m hm hf
  obtain ⟨a1, a2, a3⟩ := h m hm hf
  have hlt : q % s < s := Nat.mod_lt _ hs
  have hqT := hc.mem _ hq
  rw [Int.toNat_natCast] at hqT
  have hr := hS.row _ hlt
  rw [cntM_put]
  by_cases em : m = q
  · subst em
    rw [if_pos rfl, Int.toNat_natCast] at *
    have h0 : cntM es (q : Int) = 0 := by
      rcases (by omega : cntM es (q : Int) = 0 ∨ cntM es (q : Int) = 1) with h0 | h0
      · exact h0
      · obtain ⟨p, p1, p2, _⟩ := a3 h0
        exact absurd (mem_gdI.2 ⟨p, p1, p2⟩) h1
    rw [h0, gd_set (by rw [hS.len]; exact hlt)]
    exact ⟨by decide, by decide, fun _ => ⟨0, by simp, rfl, fun j hj => by omega⟩⟩
  · rw [if_neg em]
    refine ⟨a1, a2, fun e => ?_⟩
    have hk := a3 e
    by_cases ei : m.toNat % s = q % s
    · rw [ei, gd_set (by rw [hS.len]; exact hlt)]
      have hmT := hc.mem _ hm
      rw [ei] at hk hf hmT
      exact kept_miss hr.2 (hc.row _ hlt).2.1 (by rw [hr.1]; exact hf) h1 em hqT hmT hk
    · have : (S.set (q % s) ((q : Int) :: (S.getD (q % s) []).eraseIdx ((S.getD (q % s) []).length - 1))).getD (m.toNat % s) [] = S.getD (m.toNat % s) [] := by
        simp [List.getD_eq_getElem?_getD, List.getElem?_set, Ne.symm ei]
      rw [this]
      exact hk

section
variable {n : Nat} {Q : List D → Prop}

theorem fits_wp {s w b q : Nat} {T : List (List Int)} (hk : Okc s w b) (hs : 0 < s) (hT : T.length = s) (hn : 20 ≤ n) (h : Q [.bool (iLe (T.getD (q % s) []).length w)]) : wpF Try.prog A n 22 [cch s w b, .slc (T.map lst), .int (q : Int)] Q := by
  obtain ⟨m, rfl⟩ : ∃ m, n = m + 1 := ⟨n - 1, by omega⟩
  rw [E22]
  have hlt : q % s < s := Nat.mod_lt _ hs
  refine set_wp rfl hs hk (by omega) ?_
  rw [rs0, i_int, iLe_iff.mpr (Int.natCast_nonneg _), cond_true, len_slc, List.length_map, iLt_iff.mpr (by omega), cond_true]
  refine ⟨⟨Int.natCast_nonneg _, by omega⟩, ?_⟩
  have e : D.el (.slc (T.map lst)) ((q % s : Nat) : Int) = lst (T.getD (q % s) []) := by
    show (T.map lst).getD (q % s) .und = _
    exact gd_lst (by omega)
  rw [e, len_lst]
  exact h
theorem fits0_wp {w b : Nat} {T : D} {q : Nat} (hk : Okc 0 w b) (hn : 20 ≤ n) (h : Q [.bool false]) : wpF Try.prog A n 22 [cch 0 w b, T, .int (q : Int)] Q := by
  obtain ⟨m, rfl⟩ : ∃ m, n = m + 2 := ⟨n - 2, by omega⟩
  rw [E22, E52]
  refine ccheck_wp (by omega) hk ?_
  simp only [rs0, i_int, cch, fld0]
  rw [show iEq 0 0 = true from rfl, Bool.not_true, cond_false, iLt_not.mpr (by omega), cond_false, cond_true, show iLe 0 (-1) = false from rfl, cond_false]
  exact h

theorem last_wp {s w b : Nat} {al : List Int} {T S : List (List Int)} {es : List (D × D)} (hk : Okc s w b) (hs : 0 < s) (hc : Cn s al T) (hK : Kp s w al T S es) (hal : al.length ≤ 100) (hn : 30000 ≤ n) (h : Q [.bool true]) :
    ∀ (m0 j : Nat), al.length - j < m0 → j ≤ al.length → L5_31 n m0 (.int al.length) (.int (j : Int)) (cch s w b) (lst al) (.slc (T.map lst)) (.map es) Q := by
  intro m0
  induction m0 with
  | zero => intro j h; omega
  | succ m0 ih =>
    intro j h1 h2
    rw [L5_31_eq]
    simp only [i_int, len_lst]
    refine cLt (fun c => ⟨⟨by omega, by omega⟩, ?_⟩) fun c => awake26_wp (by omega) (by rw [rs0]; exact h)
    have hj : j < al.length := by omega
    have hmem : al.getD j 0 ∈ al := mem_gdI.2 ⟨j, hj, rfl⟩
    obtain ⟨r1, r2⟩ := hc.rng _ hmem
    simp only [toNat_nat]
    rw [xs_lst, gd_int hj]
    obtain ⟨q, hq⟩ : ∃ q : Nat, al.getD j 0 = q := ⟨(al.getD j 0).toNat, by omega⟩
    rw [hq] at hmem r2 ⊢
    have hlt : q % s < s := Nat.mod_lt _ hs
    have next := ih (j + 1) (by omega) (by omega)
    have hrest : wpF Try.prog A n 22 [cch s w b, .slc (T.map lst), .int (q : Int)] fun r12 => (D.i (D.fld (cch s w b) 0)) ≠ (0 : Int) ∧ ((0 ≤ (Int.tmod (q : Int) (D.i (D.fld (cch s w b) 0))) ∧ (Int.tmod (q : Int) (D.i (D.fld (cch s w b) 0))) < (D.len (.slc (T.map lst)))) ∧ (cond (!(bEq (D.b (rs r12 0)) (iLe (D.len (List.getD (D.xs (.slc (T.map lst))) (Int.toNat (Int.tmod (q : Int) (D.i (D.fld (cch s w b) 0)))) D.und)) (D.i (D.fld (cch s w b) 1)))))
        (Q [(D.bool false)]) (L5_31 n m0 (.int al.length) (D.int (IntKind.wrap .i64 ((j : Int) + (1 : Int)))) (cch s w b) (lst al) (.slc (T.map lst)) (.map es) Q))) := by
      refine fits_wp hk hs hc.len (by omega) ?_
      have e2 : Int.tmod (q : Int) (s : Int) = ((q % s : Nat) : Int) := rfl
      have f0 : D.fld (cch s w b) 0 = .int s := rfl
      have f1 : D.fld (cch s w b) 1 = .int w := rfl
      rw [f0, f1]
      simp only [i_int, e2, toNat_nat, xs_slc]
      rw [gd_lst (by rw [hc.len]; exact hlt), len_lst, rs0, b_bool, bEq_iff.mpr rfl, Bool.not_true, cond_false, len_slc, List.length_map, hc.len]
      refine ⟨by omega, ⟨by omega, by omega⟩, ?_⟩
      rw [wrap_id (by omega) (by omega), show (j : Int) + 1 = ((j + 1 : Nat) : Int) by omega]
      exact next
    refine fits_wp hk hs hc.len (by omega) ?_
    rw [rs0, b_bool]
    refine cLe (fun hf => ?_) fun _ => hrest
    obtain ⟨k1, k2, _⟩ := hK _ hmem (by rw [Int.toNat_natCast]; omega)
    have e : D.i ((mapGet (D.es (.map es)) (.int q)).getD (.int 0)) = cntM es q := rfl
    rw [e]
    refine cLt (fun c => by omega) fun _ => hrest

theorem uses_wp {s w b : Nat} {al : List Int} {T : List (List Int)} (hk : Okc s w b) (hs : 0 < s) (hc : Cn s al T) (hal1 : 1 ≤ al.length) (hal : al.length ≤ 100) (hn : 40000 ≤ n) (h : Q [.bool true]) :
    ∀ (m0 k : Nat) (S : List (List Int)) (d : D) (es : List (D × D)), 60 - k < m0 → k ≤ 60 → Dk d → Cts s w S → Kp s w al T S es → L5_23 n m0 (.int (k : Int)) (cch s w b) (LS S) (lst al) d (.slc (T.map lst)) (.map es) Q := by
  have hs4 : s ≤ 4 := by have := hk.2.1; omega
  have hw1 : 1 ≤ w := by have := hk.2.2.1; omega
  have hw3 : w ≤ 3 := by have := hk.2.2.2.1; omega
  have hb1 : 1 ≤ b := by have := hk.2.2.2.2.1; omega
  have hb4 : b ≤ 4 := by have := hk.2.2.2.2.2; omega
  have f2 : D.fld (cch s w b) 2 = .int b := rfl
  intro m0
  induction m0 with
  | zero => intro k S d es h; omega
  | succ m0 ih =>
    intro k S d es h1 h2 hd hS hK
    rw [L5_23_eq]
    simp only [i_int, len_lst]
    refine cLt (fun c => ?_) fun c => last_wp hk hs hc hK hal (by omega) h n 0 (by omega) (by omega)
    refine next_wp (by omega) hd (by omega) (by omega) fun v d1 v1 v2 hd1 => ?_
    simp only [rs0, rsS, i_int]
    obtain ⟨j, rfl⟩ : ∃ j : Nat, v = j := ⟨v.toNat, by omega⟩
    have hj : j < al.length := by omega
    refine ⟨⟨by omega, by omega⟩, ?_⟩
    have hrow : ∀ x ∈ S, x.length ≤ 100 := fun x hx => by
      obtain ⟨i, hi, e⟩ := List.mem_iff_getElem.1 hx
      have := (hS.row i (by rw [← hS.len]; exact hi)).1
      rw [List.getD_eq_getElem?_getD, List.getElem?_eq_getElem hi, Option.getD_some, e] at this
      omega
    refine copy_wp (by rw [hS.len]; omega) hrow (by omega) ⟨trivial, ?_⟩
    have hmem : al.getD j 0 ∈ al := mem_gdI.2 ⟨j, hj, rfl⟩
    obtain ⟨r1, r2⟩ := hc.rng _ hmem
    simp only [toNat_nat, rs0, f2]
    rw [xs_lst, gd_int hj]
    obtain ⟨q, hq⟩ : ∃ q : Nat, al.getD j 0 = q := ⟨(al.getD j 0).toNat, by omega⟩
    rw [hq] at hmem r2 ⊢
    have hqb : q * b ≤ 80 := Nat.le_trans (Nat.mul_le_mul (show q ≤ 20 by omega) hb4) (by omega)
    have ea : IntKind.wrap .i64 ((q : Int) * (b : Int)) = ((q * b : Nat) : Int) := by
      rw [show (q : Int) * (b : Int) = ((q * b : Nat) : Int) by simp, wrap_id (by omega) (by omega)]
    simp only [i_int]
    rw [ea]
    have hlt : q % s < s := Nat.mod_lt _ hs
    have hr := hS.row _ hlt
    refine use_wp (q := q) (x := S.getD (q % s) []) (by omega) hs hs4 hb1 hS.len (Nat.mul_div_cancel _ (by omega)) (by omega) rfl (by omega) (by omega) fun at' hit g1 g2 g3 => ?_
    simp only [rs0, rsS, b_bool]
    rw [wrap_id (show -9223372036854775808 ≤ (k : Int) + 1 by omega) (by omega), show (k : Int) + 1 = ((k + 1 : Nat) : Int) by omega]
    have hS' := hS.use hs g1 g2 g3
    refine cNot (fun hh => ⟨trivial, ?_⟩) fun hh => ⟨trivial, ?_⟩
    · obtain ⟨hnm, e⟩ := g3 hh
      have := hK.miss hc hS hs hmem hnm
      rw [← e] at this
      exact ih (k + 1) _ d1 _ (by omega) (by omega) hd1 hS' this
    · exact ih (k + 1) _ d1 _ (by omega) (by omega) hd1 hS' (hK.hit hc hS hs hmem g1 (g2 hh))

theorem sets_wp {s w b : Nat} {S : List (List Int)} (hk : Okc s w b) (hs : 0 < s) (hS : Cts s w S) (hn : 50000 ≤ n) (h : Q [.bool true]) :
    ∀ (m0 k : Nat) (al : List Int) (T : List (List Int)) (d : D), k < m0 → (al.length = 0 → 1 ≤ k) → al.length + k ≤ 8 → Dk d → Cn s al T → L5_9 n m0 (.int ((k : Int) - 1)) (cch s w b) (LS S) (lst al) d (.slc (T.map lst)) Q := by
  have hs4 : s ≤ 4 := by have := hk.2.1; omega
  have f0 : D.fld (cch s w b) 0 = .int s := rfl
  intro m0
  induction m0 with
  | zero => intro k al T d h; omega
  | succ m0 ih =>
    intro k al T d h1 h2 h3 hd hc
    rw [L5_9_eq]
    simp only [i_int, f0]
    refine cLe (fun c => ?_) fun c => ?_
    · refine next_wp (by omega) hd (by omega) (by omega) fun v d1 v1 v2 hd1 => ?_
      simp only [rs0, rsS, i_int]
      obtain ⟨q, rfl⟩ : ∃ q : Nat, v = q := ⟨v.toNat, by omega⟩
      have hlt : q % s < s := Nat.mod_lt _ hs
      have hltT : q % s < T.length := by rw [hc.len]; exact hlt
      have e2 : Int.tmod (q : Int) (s : Int) = ((q % s : Nat) : Int) := rfl
      rw [e2]
      simp only [toNat_nat, xs_slc]
      refine ⟨?_, by omega, ⟨by omega, by rw [len_slc, List.length_map]; omega⟩, ?_⟩
      · unfold room
        simp only [xs_lst, List.length_map, List.length_singleton]
        omega
      · have ea : D.slc (D.xs (lst al) ++ [D.int (q : Int)]) = lst (al ++ [(q : Int)]) := by
          rw [xs_lst, lst, List.map_append]; rfl
        rw [ea, gd_lst hltT, len_lst]
        have hrow := hc.row _ hlt
        have inner : ∀ (m1 j : Nat) (bb : Bool), (T.getD (q % s) []).length - j < m1 → j ≤ (T.getD (q % s) []).length → (bb = true → (q : Int) ∈ T.getD (q % s) []) → (bb = false → ∀ t, t < j → (T.getD (q % s) []).getD t 0 ≠ q) →
            L5_15 n m0 m1 (.int ((k : Int) - 1)) (.int (q : Int)) (.bool bb) (q % s) (.int ((T.getD (q % s) []).length : Int)) (.int (j : Int)) (cch s w b) (LS S) (lst (al ++ [(q : Int)])) d1 (.slc (T.map lst)) Q := by
          intro m1
          induction m1 with
          | zero => intro j bb h; omega
          | succ m1 ih1 =>
            intro j bb g1 g2 g3 g4
            rw [L5_15_eq]
            simp only [i_int, xs_slc, b_bool, f0, e2, toNat_nat]
            rw [gd_lst hltT, len_lst]
            refine cLt (fun c => ⟨⟨by omega, by omega⟩, ?_⟩) fun c => ?_
            · have hj : j < (T.getD (q % s) []).length := by omega
              rw [wrap_id (show -9223372036854775808 ≤ (j : Int) + 1 by omega) (by omega), show (j : Int) + 1 = ((j + 1 : Nat) : Int) by omega]
              rw [xs_lst, gd_int hj, i_int]
              refine cnd (fun e => ?_) fun e => ?_
              · exact ih1 (j + 1) true (by omega) (by omega) (fun _ => g3 e) (fun h => by cases h)
              · refine ih1 (j + 1) _ (by omega) (by omega) (fun hh => mem_gdI.2 ⟨j, hj, iEq_iff.mp hh⟩) fun hh t ht => ?_
                by_cases e3 : t = j
                · subst e3; exact iEq_not'.mp hh
                · exact g4 e t (by omega)
            · have hj : j = (T.getD (q % s) []).length := by omega
              rw [wrap_id (show -9223372036854775808 ≤ (k : Int) - 1 - 1 by omega) (by omega), show (k : Int) - 1 - 1 = ((k - 1 : Nat) : Int) - 1 by omega]
              refine cNot (fun e => ?_) fun e => ?_
              · refine ⟨by omega, by omega, ⟨by omega, by rw [len_slc, List.length_map]; omega⟩, ?_, ⟨by omega, by rw [len_slc, List.length_map]; omega⟩, ⟨trivial, trivial⟩, ?_⟩
                · unfold room
                  simp only [xs_lst, List.length_map, List.length_singleton]
                  omega
                · have hnm : (q : Int) ∉ T.getD (q % s) [] := fun hm => by
                    obtain ⟨t, ht, e5⟩ := mem_gdI.1 hm
                    exact g4 e t (by omega) e5
                  have eT : D.slc ((T.map lst).set (q % s) (D.slc (D.xs (lst (T.getD (q % s) [])) ++ [D.int (q : Int)]))) = .slc ((T.set (q % s) (T.getD (q % s) [] ++ [(q : Int)])).map lst) := by
                    rw [List.map_set, xs_lst, lst, List.map_append]; rfl
                  rw [eT]
                  exact ih (k - 1) _ _ d1 (by omega) (fun h => by simp at h) (by rw [List.length_append, List.length_singleton]; omega) hd1 (hc.new hs (by omega) hnm)
              · exact ih (k - 1) _ _ d1 (by omega) (fun h => by simp at h) (by rw [List.length_append, List.length_singleton]; omega) hd1 (hc.old (by omega) (g3 e))
        exact inner n 0 false (by omega) (by omega) (fun h => by cases h) fun _ t ht => by omega
    · refine uses_wp hk hs hc (by omega) (by omega) (by omega) h n 0 S d [] (by omega) (by omega) hd hS fun m hm hf => ?_
      have : cntM [] m = 0 := rfl
      rw [this]
      exact ⟨by omega, by omega, fun h => by omega⟩

theorem stays_wp (hn : 60000 ≤ n) {l : List Int} (hl : l.length ≤ 2000000) : wpF Try.prog A n 5 [lst l] fun r => r = [.bool true] := by
  obtain ⟨m, rfl⟩ : ∃ m, n = m + 1 := ⟨n - 1, by omega⟩
  rw [E5]
  refine new_wp (by omega) hl fun d hd => ?_
  rw [rs0]
  refine cache_wp (by omega) hd fun s w b d1 h1 h2 h3 h4 h5 h6 hd1 => ⟨trivial, ?_⟩
  obtain ⟨s, rfl⟩ : ∃ q : Nat, s = q := ⟨s.toNat, by omega⟩
  obtain ⟨w, rfl⟩ : ∃ q : Nat, w = q := ⟨w.toNat, by omega⟩
  obtain ⟨b, rfl⟩ : ∃ q : Nat, b = q := ⟨b.toNat, by omega⟩
  have hk : Okc s w b := ⟨h1, h2, h3, h4, h5, h6⟩
  simp only [rs0, rsS]
  refine contents_wp hk hd1 (by omega) fun S d2 hd2 hS => ⟨trivial, ?_⟩
  have f0 : D.fld (cch s w b) 0 = .int s := rfl
  simp only [rs0, rsS, f0, i_int]
  refine cEq (fun c => ?_) fun c => ?_
  · have : s = 0 := by omega
    subst this
    refine fits0_wp (q := 3) hk (by omega) ?_
    rw [rs0, b_bool, Bool.not_false, cond_true]
    exact awake26_wp (by omega) (by rw [rs0])
  · have hs : 0 < s := by omega
    refine ⟨⟨by omega, by omega, by unfold room; omega⟩, ?_⟩
    refine next_wp (by omega) hd2 (by omega) (by omega) fun v d3 v1 v2 hd3 => ?_
    simp only [rs0, rsS, toNat_nat]
    obtain ⟨k, rfl⟩ : ∃ k : Nat, v = k := ⟨v.toNat, by omega⟩
    have e : List.replicate s (D.slc ([] : List D)) = (List.replicate s ([] : List Int)).map lst := by
      rw [List.map_replicate]; rfl
    have hg : ∀ i, (List.replicate s ([] : List Int)).getD i [] = [] := fun i => by
      rw [List.getD_eq_getElem?_getD, List.getElem?_replicate]
      split <;> rfl
    rw [e, show ((k : Nat) : Int) = ((k + 1 : Nat) : Int) - 1 by omega]
    exact sets_wp (Q := fun r => r = [.bool true]) hk hs hS (by omega) rfl m (k + 1) [] _ d3 (by omega) (by omega) (by simp; omega) hd3 ⟨fun m hm => by simp at hm, by simp, fun i hi => by rw [hg]; simp, fun m hm => by simp at hm⟩

end
end Go.Ab
