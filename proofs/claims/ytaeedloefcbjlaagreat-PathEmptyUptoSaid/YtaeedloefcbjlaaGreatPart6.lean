/- Equations and plain laws of the functions that the statement reaches, part 6. Conditions: those in each theorem. -/
import Derived.Test.YtaeedloefcbjlaaGreatPart5
set_option linter.unusedVariables false
set_option linter.unusedSimpArgs false
/- Units that are chains: their certificate is right. -/
namespace Go.Ab
open Go.Proofs
attribute [local irreducible] wpF
set_option maxRecDepth 100000

theorem iter_fold {S : Type} {step : S → Nat → S} {g : S → Int × Int → S} {t : List (Int × Int)} (h : ∀ s k, k < t.length → step s k = g s (t.getD k (0, 0))) (s : S) : iter step s t.length = t.foldl g s := by
 have hk : ∀ k, k ≤ t.length → iter step s k = (t.take k).foldl g s := by
  intro k
  induction k with
  | zero => intro _; rfl
  | succ k ih =>
   intro hk
   have e1 : iter step s (k + 1) = step (iter step s k) k := rfl
   have e2 : t.take (k + 1) = t.take k ++ [t.getD k (0, 0)] := by
    rw [List.getD_eq_getElem?_getD, List.getElem?_eq_getElem (by omega), List.take_succ_eq_append_getElem (by omega)]; rfl
   rw [e1, e2, List.foldl_append, ih (by omega), h _ k (by omega)]
   rfl
 rw [hk _ (Nat.le_refl _), List.take_length]

/-- One term. -/
def stP (c : Int) (s : List Int) (p : Int × Int) : List Int := s.set p.1.toNat (IntKind.wrap .i64 (s.getD p.1.toNat 0 + IntKind.wrap .i64 (c * p.2)))
theorem st_fold {c : Int} {f : Nat → Int} {s : List Int} (hs : ∀ j, -1000000000000 ≤ s.getD j 0 ∧ s.getD j 0 ≤ 1000000000000) (hc : ∀ j, -1000000 ≤ c * f j ∧ c * f j ≤ 1000000) : ∀ k, k ≤ s.length →
  ((tmP f k).foldl (stP c) s).length = s.length ∧ ∀ j, ((tmP f k).foldl (stP c) s).getD j 0 = s.getD j 0 + (if j < k then c * f j else 0)
 | 0, _ => ⟨rfl, fun j => by rw [if_neg (by omega), Int.add_zero]; rfl⟩
 | k + 1, hk => by
  obtain ⟨h1, h2⟩ := st_fold hs hc k (by omega)
  rw [tmP_succ, List.foldl_append]
  cases e : iEq (f k) 0 with
  | true =>
   rw [cond_true]
   refine ⟨h1, fun j => ?_⟩
   show ((tmP f k).foldl (stP c) s).getD j 0 = _
   rw [h2 j]
   by_cases hj : j < k
   ·rw [if_pos hj, if_pos (by omega)]
   ·rw [if_neg hj]
    by_cases hj2 : j = k
    ·subst hj2
     rw [if_pos (by omega), iEq_iff.mp e, Int.mul_zero]
    ·rw [if_neg (by omega)]
  | false =>
   rw [cond_false]
   generalize (tmP f k).foldl (stP c) s = S at h1 h2 ⊢
   show (stP c S ((k : Int), f k)).length = _ ∧ ∀ j, (stP c S ((k : Int), f k)).getD j 0 = _
   unfold stP
   simp only [toNat_nat]
   have hsk := hs k
   have hck := hc k
   refine ⟨by rw [List.length_set]; exact h1, fun j => ?_⟩
   have hk2 : S.getD k 0 = s.getD k 0 := by rw [h2 k, if_neg (Nat.lt_irrefl k), Int.add_zero]
   rw [set_get, hk2, wrap_id (x := c * f k) (by omega) (by omega), wrap_id (by omega) (by omega)]
   by_cases hj : k = j
   ·subst hj
    rw [if_pos ⟨rfl, by rw [h1]; omega⟩, if_pos (by omega)]
   ·rw [if_neg (fun h => hj h.1), h2 j]
    by_cases hj2 : j < k
    ·rw [if_pos hj2, if_pos (by omega)]
    ·rw [if_neg hj2, if_neg (by omega)]

theorem row_fold {t : List (Int × Int)} {m : D} {c : Int} {s : List Int} : rowS (.agg [tmL t, m]) c s = t.foldl (stP c) s := by
 unfold rowS
 have e0 : D.fld (.agg [tmL t, m]) 0 = tmL t := rfl
 have e : (D.len (D.fld (.agg [tmL t, m]) 0)).toNat = t.length := by rw [e0, tm_len]; rfl
 rw [e]
 refine iter_fold (fun s k hk => ?_) s
 unfold inRow stP
 rw [e0, tm_of hk, tm_co hk]

theorem coef_tm {f : Nat → Int} {N i : Nat} (hi : i < N) : coefOf (tmL (tmP f N)) (i : Int) = f i := by
 unfold coefOf coefUp
 have e : (D.len (tmL (tmP f N))).toNat = (tmP f N).length := by rw [tm_len]; rfl
 rw [e, iter_fold (g := fun c p => cond (iEq p.1 (i : Int)) p.2 c) (fun s k hk => by rw [tm_of hk, tm_co hk])]
 have hk : ∀ k, (tmP f k).foldl (fun (c : Int) p => cond (iEq p.1 (i : Int)) p.2 c) 0 = if i < k then f i else 0 := by
  intro k
  induction k with
  | zero => rw [if_neg (by omega)]; rfl
  | succ k ih =>
   rw [tmP_succ, List.foldl_append, ih]
   cases e : iEq (f k) 0 with
   | true =>
    show (if i < k then f i else 0) = _
    by_cases h : i < k
    ·rw [if_pos h, if_pos (by omega)]
    ·rw [if_neg h]
     by_cases h2 : i = k
     ·subst h2; rw [if_pos (by omega), iEq_iff.mp e]
     ·rw [if_neg (by omega)]
   | false =>
    show cond (iEq (k : Int) (i : Int)) (f k) (if i < k then f i else 0) = _
    by_cases h2 : i = k
    ·subst h2
     rw [iEq_iff.mpr rfl, cond_true, if_pos (by omega)]
    ·rw [iEq_not.mpr (by omega), cond_false]
     by_cases h : i < k
     ·rw [if_pos h, if_pos (by omega)]
     ·rw [if_neg h, if_neg (by omega)]
 rw [hk, if_pos hi]

def accC (ws : List Int) (K j : Nat) : Int := (if j < K then suf ws j else 0) - (if j + 1 < K then suf ws (j + 1) else 0)
def muP (ws : List Int) (e : Int) (S : List Int × Int) (p : Int × Int) : List Int × Int :=
 (rowS (rowAt (mdl ws e) [] p.1) p.2 S.1, IntKind.wrap .i64 (S.2 + IntKind.wrap .i64 (p.2 * D.i (D.fld (rowAt (mdl ws e) [] p.1) 1))))

theorem row_at {ws : List Int} {e : Int} {i : Nat} (hi : i < ws.length) : rowAt (mdl ws e) [] (((2 * i : Nat) : Int)) = rowA ws.length i := by
 unfold rowAt
 have h0 : ws.length ≠ 0 := by omega
 rw [md1, len_slc, rowsUp_len h0, iLt_iff.mpr (by omega)]
 exact rowsUp_at h0 (by omega)

theorem mu_fold {ws : List Int} {e : Int} (hW : Ws ws e) : ∀ K, K ≤ ws.length →
  ((entP ws K).foldl (muP ws e) (List.replicate ws.length 0, 0)).1.length = ws.length ∧ (∀ j, j < ws.length → ((entP ws K).foldl (muP ws e) (List.replicate ws.length 0, 0)).1.getD j 0 = accC ws K j)
    ∧ ((entP ws K).foldl (muP ws e) (List.replicate ws.length 0, 0)).2 = if 0 < K then suf ws 0 else 0
 | 0, _ => ⟨List.length_replicate, fun j hj => by
   unfold accC
   rw [if_neg (by omega), if_neg (by omega)]
   show (List.replicate ws.length (0 : Int)).getD j 0 = _
   rw [List.getD_eq_getElem?_getD, List.getElem?_replicate, if_pos hj]; rfl, rfl⟩
 | K + 1, hK => by
  obtain ⟨h1, h2, h3⟩ := mu_fold hW K (by omega)
  have sK := suf_bd hW K
  have s0 := suf_bd hW 0
  rw [entP_succ, List.foldl_append]
  generalize hS : (entP ws K).foldl (muP ws e) (List.replicate ws.length 0, 0) = S at h1 h2 h3 ⊢
  cases ez : iEq (suf ws K) 0 with
  | true =>
   have z := iEq_iff.mp ez
   refine ⟨h1, fun j hj => ?_, ?_⟩
   ·show S.1.getD j 0 = _
    rw [h2 j hj]
    unfold accC
    by_cases a : j < K
    ·rw [if_pos a, if_pos (show j < K + 1 by omega)]
     by_cases b : j + 1 < K
     ·rw [if_pos b, if_pos (show j + 1 < K + 1 by omega)]
     ·rw [if_neg b, if_pos (show j + 1 < K + 1 by omega), show j + 1 = K by omega, z]
    ·rw [if_neg a, if_neg (show ¬ j + 1 < K by omega), if_neg (show ¬ j + 1 < K + 1 by omega)]
     by_cases b : j = K
     ·subst b; rw [if_pos (by omega), z]
     ·rw [if_neg (by omega)]
   ·show S.2 = _
    rw [h3, if_pos (show 0 < K + 1 by omega)]
    by_cases a : 0 < K
    ·rw [if_pos a]
    ·have : K = 0 := by omega
     subst this
     rw [if_neg (by omega), z]
  | false =>
   show (muP ws e S (((2 * K : Nat) : Int), suf ws K)).1.length = _ ∧ (∀ j, j < ws.length → (muP ws e S (((2 * K : Nat) : Int), suf ws K)).1.getD j 0 = _) ∧ (muP ws e S (((2 * K : Nat) : Int), suf ws K)).2 = _
   unfold muP
   simp only
   rw [row_at (by omega)]
   unfold rowA
   rw [row_fold]
   have hc : ∀ j, -1000000 ≤ suf ws K * flC ws.length K j ∧ suf ws K * flC ws.length K j ≤ 1000000 := fun j => by
    unfold flC
    split
    ·omega
    ·split
     ·split <;> omega
     ·omega
   have hs : ∀ j, -1000000000000 ≤ S.1.getD j 0 ∧ S.1.getD j 0 ≤ 1000000000000 := fun j => by
    by_cases hj : j < ws.length
    ·rw [h2 j hj]
     have a := suf_bd hW j
     have b := suf_bd hW (j + 1)
     unfold accC
     split <;> split <;> omega
    ·rw [List.getD_eq_getElem?_getD, List.getElem?_eq_none (by omega)]; simp
   obtain ⟨f1, f2⟩ := st_fold hs hc ws.length (by omega)
   refine ⟨by rw [f1]; exact h1, fun j hj => ?_, ?_⟩
   ·rw [f2 j, if_pos hj, h2 j hj]
    unfold accC flC
    by_cases a : j < K
    ·rw [if_pos a, if_pos (show j < K + 1 by omega), if_pos (show j + 1 < K + 1 by omega), if_neg (show ¬ j = K by omega)]
     by_cases b : j + 1 < K
     ·rw [if_pos b, if_neg (show ¬ j + 1 = K by omega)]; omega
     ·rw [if_neg b, if_pos (show j + 1 = K by omega), if_neg (show ¬ K = ws.length by omega), show j + 1 = K by omega]; omega
    ·rw [if_neg a, if_neg (show ¬ j + 1 < K by omega), if_neg (show ¬ j + 1 < K + 1 by omega)]
     by_cases b : j = K
     ·subst b; rw [if_pos rfl, if_pos (by omega)]; omega
     ·rw [if_neg b, if_neg (show ¬ j < K + 1 by omega), if_neg (show ¬ j + 1 = K by omega)]; omega
   ·have e1 : D.i (D.fld (.agg [tmL (tmP (flC ws.length K) ws.length), .int (flM ws.length K)]) 1) = flM ws.length K := rfl
    rw [e1, h3, if_pos (show 0 < K + 1 by omega)]
    unfold flM
    by_cases a : K = 0
    ·subst a
     rw [if_neg (by omega), if_pos (Or.inl rfl), Int.mul_one, wrap_id (x := suf ws 0) (by omega) (by omega), wrap_id (by omega) (by omega)]
     omega
    ·rw [if_pos (by omega), if_neg (by omega), Int.mul_zero]
     rw [show IntKind.wrap .i64 (0 : Int) = 0 by rfl, wrap_id (by omega) (by omega)]
     omega

theorem leaf4 (l : List (Int × Int)) : D.fld (leafD l) 4 = tmL l := rfl
theorem bnd_one (ws : List Int) (e : Int) : D.len (cs (bnd ws e)) = 1 := rfl
theorem bnd_at (ws : List Int) (e : Int) : cAs (bnd ws e) ((0 : Nat) : Int) = leafD (entP ws ws.length) := rfl
theorem bnd_rows (ws : List Int) (e : Int) : rowsOf (bnd ws e) 0 = [] := rfl
theorem bnd_bx {ws : List Int} {e : Int} (hW : Ws ws e) : Bx (bnd ws e) := by
 have hN := hW.len
 have hl := entP_len ws ws.length
 have i0 : ∀ i : Nat, (i : Int) < D.len (cs (bnd ws e)) → i = 0 := fun i hi => by rw [bnd_one] at hi; omega
 refine ⟨⟨by rw [bnd_one]; omega, fun i hi => ?_, fun i hi => ?_⟩, fun i hi k hk => ?_⟩
 ·have := i0 i hi
  subst this
  rw [bnd_at]
  show D.len (.slc []) ≤ 1100000
  rw [len_slc]; simp
 ·have := i0 i hi
  subst this
  rw [bnd_at, leaf4, tm_len]; omega
 ·have := i0 i hi
  subst this
  rw [bnd_at, leaf4] at hk ⊢
  rw [tm_len] at hk
  have hk' : k < (entP ws ws.length).length := by omega
  rw [tm_of hk']
  obtain ⟨j, h1, h2, _⟩ := entP_mem (getD_in (d := (0, 0)) hk')
  rw [h2]
  show ((2 * j : Nat) : Int) ≤ 9223372036854775807
  omega
theorem ent_mul {ws : List Int} {e : Int} (hW : Ws ws e) : mulB (tmL (entP ws ws.length)) = true := by
 have hN := hW.len
 unfold mulB
 rw [anyB_false fun k hk => ?_]
 ·rfl
 ·have hk' : k < (entP ws ws.length).length := by rw [tm_len] at hk; simpa using hk
  obtain ⟨j, h1, h2, h3⟩ := entP_mem (getD_in (d := (0, 0)) hk')
  have sj := suf_bd hW j
  unfold badM
  have a1 : tof (tmL (entP ws ws.length)) (k : Int) = ((2 * j : Nat) : Int) := by rw [tm_of hk', h2]
  have a2 : tco (tmL (entP ws ws.length)) (k : Int) = suf ws j := by rw [tm_co hk', h2]
  rw [a1, a2, iLt_not.mpr (show ¬ ((2 * j : Nat) : Int) < 0 by omega), iLt_not.mpr (show ¬ suf ws j < 1 by omega), iLt_not.mpr (show ¬ 1073741824 < suf ws j by omega)]
  by_cases k0 : k = 0
  ·subst k0; rfl
  ·have e1 : ((k : Int) - 1) = ((k - 1 : Nat) : Int) := by omega
   have hp := List.pairwise_iff_getElem.mp (entP_inc ws ws.length) (k - 1) k (by omega) hk' (by omega)
   have a3 : tof (tmL (entP ws ws.length)) ((k : Int) - 1) < ((2 * j : Nat) : Int) := by
    rw [← a1, e1, tm_of hk', tm_of (by omega)]
    simpa [List.getD_eq_getElem?_getD, List.getElem?_eq_getElem hk', List.getElem?_eq_getElem (show k - 1 < (entP ws ws.length).length by omega)] using hp
   rw [iLe_not.mpr (show ¬ ((2 * j : Nat) : Int) ≤ tof (tmL (entP ws ws.length)) ((k : Int) - 1) by omega)]
   simp
theorem bnd_right {ws : List Int} {e : Int} (hW : Ws ws e) : bndB (mdl ws e) (bnd ws e) = true := by
 unfold bndB
 rw [bnd_one]
 have hl : leafB (cAs (bnd ws e) ((0 : Nat) : Int)) = true := by
  rw [bnd_at]
  unfold leafB
  rw [leaf4, ent_mul hW]
  rfl
 have hn : namesO (mdl ws e) (bnd ws e) = some [false] := by
  have e0 : namesO (mdl ws e) (bnd ws e) = (some [false]).bind fun t => vS (mdl ws e) (bnd ws e) t 0 := rfl
  rw [e0]
  show vS (mdl ws e) (bnd ws e) [false] 0 = some [false]
  rw [vS_leaf (by rw [bnd_at]; rfl), hl]
  rfl
 rw [hn]
 rfl

theorem leaf_val {ws : List Int} {e : Int} (hW : Ws ws e) : leafV (mdl ws e) [] (leafD (entP ws ws.length)) = (suf ws 0 + e, true, false) := by
 have hN := hW.len
 have he := hW.e
 have s0 := suf_bd hW 0
 have hsum : sumS34 (mdl ws e) [] (tmL (entP ws ws.length)) (D.len (tmL (entP ws ws.length))).toNat = (entP ws ws.length).foldl (muP ws e) (List.replicate ws.length 0, 0) := by
  unfold sumS34
  have e1 : (D.len (tmL (entP ws ws.length))).toNat = (entP ws ws.length).length := by rw [tm_len]; rfl
  rw [e1, md0, i_int, toNat_nat]
  refine iter_fold (fun s k hk => ?_) _
  unfold mulS muP
  rw [tm_of hk, tm_co hk]
 obtain ⟨f1, f2, f3⟩ := mu_fold hW ws.length (Nat.le_refl _)
 unfold leafV
 rw [leaf4, hsum]
 have hd : cDen (leafD (entP ws ws.length)) = 1 := rfl
 have ho : outB (mdl ws e) [] (tmL (entP ws ws.length)) = false := by
  unfold outB
  refine anyB_false fun k hk => ?_
  have hk' : k < (entP ws ws.length).length := by rw [tm_len] at hk; simpa using hk
  obtain ⟨j, h1, h2, _⟩ := entP_mem (getD_in (d := (0, 0)) hk')
  rw [tm_of hk', h2, md1, len_slc, rowsUp_len (by omega)]
  refine iLe_not.mpr ?_
  simp only [List.length_nil]
  omega
 rw [ho, hd, cond_false]
 have hsh : shortB (mdl ws e) 1 ((entP ws ws.length).foldl (muP ws e) (List.replicate ws.length 0, 0)).1 = false := by
  unfold shortB
  rw [md0, md2, i_int, toNat_nat]
  refine anyB_false fun j hj => iLt_not.mpr ?_
  rw [f2 j hj]
  unfold goalP
  rw [coef_tm (f := fun j => ws.getD j 0) hj, Int.one_mul]
  have st := suf_step hj
  unfold accC
  rw [if_pos hj]
  by_cases a : j + 1 < ws.length
  ·rw [if_pos a]; omega
  ·rw [if_neg a]
   have := suf_end (ws := ws) (j := j + 1) (by omega)
   omega
 rw [hsh, cond_false, iLt_iff.mpr (show (0 : Int) < 1 by omega), cond_true, f3, md3, i_int]
 have hr : (if 0 < ws.length then suf ws 0 else 0) = suf ws 0 := by
  by_cases a : 0 < ws.length
  ·rw [if_pos a]
  ·rw [if_neg a, suf_end (by omega)]
 have hf : flo (suf ws 0) 1 = suf ws 0 := by
  unfold flo
  rw [Int.tmod_one, Int.tdiv_one, iLt_not.mpr (by omega), cond_false, wrap_id (by omega) (by omega)]
 rw [hr, hf, wrap_id (by omega) (by omega), Int.add_comm]

theorem chk_ok {ws : List Int} {e : Int} (hW : Ws ws e) : chkV (mdl ws e) (bnd ws e) = 0 := by
 have hN := hW.len
 unfold chkV
 rw [mdl_ok hW, bnd_right hW, cond_true, cond_true, bnd_one]
 have i0 : ∀ i, i < (1 : Int).toNat → i = 0 := fun i hi => by
  have : i < 1 := hi
  omega
 rw [anyB_false fun i hi => ?_, anyB_false fun i hi => ?_]
 ·rfl
 ·have := i0 i hi
  subst this
  unfold badC badV
  rw [bnd_at, bnd_rows, leaf_val hW]
  have e1 : D.i (D.fld (bnd ws e) 1) = suf ws 0 + e := rfl
  rw [e1]
  simp only
  rw [iLt_not.mpr (by omega)]
  simp
 ·have := i0 i hi
  subst this
  unfold longB
  have := rowsUp_le ws.length (ws.length + 1)
  rw [bnd_rows, md1, len_slc]
  refine iLt_not.mpr ?_
  simp only [List.length_nil]
  omega
end Go.Ab

/- Units that are chains: the certificate, the value of all ones, the law. -/
namespace Go.Ab
open Go.Proofs
attribute [local irreducible] wpF
set_option maxRecDepth 100000

def sumF (f : Nat → Int) : Nat → Int
 | 0 => 0
 | k + 1 => sumF f k + f k
def sumP (l : List (Int × Int)) : Int := (l.map fun p => p.2).sum
theorem sumP_app (a b : List (Int × Int)) : sumP (a ++ b) = sumP a + sumP b := by unfold sumP; rw [List.map_append, List.sum_append]
theorem sumP_tm (f : Nat → Int) : ∀ k, sumP (tmP f k) = sumF f k
 | 0 => rfl
 | k + 1 => by
  rw [tmP_succ, sumP_app, sumP_tm f k, sumF]
  cases e : iEq (f k) 0 with
  | true => rw [iEq_iff.mp e]; rfl
  | false =>
   show sumF f k + (f k + 0) = _
   rw [Int.add_zero]
theorem sumP_neg : ∀ l, sumP (negP l) = -sumP l
 | [] => rfl
 | p :: l => by
  have := sumP_neg l
  show -p.2 + sumP (negP l) = -(p.2 + sumP l)
  omega
theorem sumP_step {t : List (Int × Int)} {i : Nat} (h : i < t.length) : sumP (t.take (i + 1)) = sumP (t.take i) + (t.getD i (0, 0)).2 := by
 rw [List.getD_eq_getElem?_getD, List.getElem?_eq_getElem h, List.take_succ_eq_append_getElem h, sumP_app]
 show _ = _ + (t[i]).2
 have : sumP [t[i]] = t[i].2 := by unfold sumP; simp
 rw [this]
theorem sumP_bd {t : List (Int × Int)} (h : ∀ p ∈ t, -1000000 ≤ p.2 ∧ p.2 ≤ 1000000) : ∀ i, i ≤ t.length → -1000000 * (i : Int) ≤ sumP (t.take i) ∧ sumP (t.take i) ≤ 1000000 * (i : Int)
 | 0, _ => by simp [sumP]
 | i + 1, hi => by
  have := sumP_bd h i (by omega)
  have := h _ (getD_in (d := (0, 0)) (show i < t.length by omega))
  rw [sumP_step (by omega)]
  omega
theorem flC_sum {N k : Nat} (hN : N ≠ 0) (hk : k ≤ N) : sumF (flC N k) N = flM N k := by
 have h : ∀ m, m ≤ N → sumF (flC N k) m = (if k < m then 1 else 0) + (if 1 ≤ k ∧ k ≤ m then (if k = N then 1 else -1) else 0) := by
  intro m
  induction m with
  | zero => intro _; rw [if_neg (by omega), if_neg (by omega)]; rfl
  | succ m ih =>
   intro hm
   rw [sumF, ih (by omega)]
   unfold flC
   by_cases a : m = k
   ·subst a
    rw [if_neg (show ¬ m < m by omega), if_pos rfl, if_pos (show m < m + 1 by omega)]
    by_cases b : 1 ≤ m
    ·rw [if_pos (show 1 ≤ m ∧ m ≤ m by omega), if_pos (show 1 ≤ m ∧ m ≤ m + 1 by omega)]; omega
    ·rw [if_neg (show ¬ (1 ≤ m ∧ m ≤ m) by omega), if_neg (show ¬ (1 ≤ m ∧ m ≤ m + 1) by omega)]; omega
   ·rw [if_neg a]
    by_cases b : m + 1 = k
    ·rw [if_pos b, if_neg (show ¬ k < m by omega), if_neg (show ¬ (1 ≤ k ∧ k ≤ m) by omega), if_neg (show ¬ k < m + 1 by omega), if_pos (show 1 ≤ k ∧ k ≤ m + 1 by omega)]; omega
    ·rw [if_neg b]
     by_cases c : k < m
     ·rw [if_pos c, if_pos (show k < m + 1 by omega)]
      by_cases d : 1 ≤ k
      ·rw [if_pos (show 1 ≤ k ∧ k ≤ m by omega), if_pos (show 1 ≤ k ∧ k ≤ m + 1 by omega)]; omega
      ·rw [if_neg (show ¬ (1 ≤ k ∧ k ≤ m) by omega), if_neg (show ¬ (1 ≤ k ∧ k ≤ m + 1) by omega)]; omega
     ·rw [if_neg c, if_neg (show ¬ k < m + 1 by omega), if_neg (show ¬ (1 ≤ k ∧ k ≤ m) by omega), if_neg (show ¬ (1 ≤ k ∧ k ≤ m + 1) by omega)]; omega
 rw [h N (Nat.le_refl _)]
 unfold flM
 by_cases a : k = N
 ·subst a
  rw [if_neg (by omega), if_pos (by omega), if_pos rfl, if_pos (Or.inr rfl)]; rfl
 ·rw [if_pos (by omega)]
  by_cases b : k = 0
  ·rw [if_neg (by omega), if_pos (Or.inl b)]; rfl
  ·rw [if_pos (by omega), if_neg a, if_neg (by omega)]; rfl
theorem suf_sum (ws : List Int) : ∀ k, k ≤ ws.length → sumF (fun j => ws.getD j 0) k + suf ws k = suf ws 0
 | 0, _ => by rw [sumF, Int.zero_add]
 | k + 1, hk => by
  have := suf_sum ws k (by omega)
  have := suf_step (show k < ws.length by omega)
  rw [sumF]
  omega

def ones (n : Nat) : D := .slc (List.replicate n (.int 1))
theorem on_len (n : Nat) : D.len (ones n) = (n : Int) := by simp [ones, len_slc]
theorem on_el {n : Nat} {i : Int} (h0 : 0 ≤ i) (h : i < (n : Int)) : D.el (ones n) i = .int 1 := by
 simp only [D.el, ones, D.xs]
 rw [List.getD_eq_getElem?_getD, List.getElem?_replicate, if_pos (by omega)]; rfl

section
variable {n : Nat} {Q : List D → Prop}

theorem prove_wp {ws : List Int} {e : Int} (hW : Ws ws e) (hn : 1101000 ≤ n) (h : Q [bnd ws e, .int 0]) : wpF Tryz.prog A n 7 [chU ws.length, chC ws e] Q := by
 have hN := hW.len
 obtain ⟨p, rfl⟩ : ∃ p, n = p + 2 := ⟨n - 2, by omega⟩
 rw [E7]
 refine most_wp hW (by omega) ?_
 rw [rsS, rs0, rs0, i_int]
 refine cNe (fun c => absurd rfl c) fun _ => modl_wp hW (by omega) ⟨trivial, ?_⟩
 rw [rsS, rs0, rs0, i_int]
 refine cNe (fun c => absurd rfl c) fun _ => cols_wp hN (by omega) (dead_wp hN (by omega) ?_)
 rw [rs0, rs0, u5, len_slc, L7_11_eq]
 simp only [i_int]
 refine cLt (fun c => absurd c (by simp)) fun _ => build_wp hW (by omega) ⟨trivial, ?_⟩
 have e1 : D.agg [D.fld (rs [prv ws e [leafD (entP ws ws.length)]] 0) 4, .int (suf ws 0 + e)] = bnd ws e := rfl
 rw [e1]
 refine check_wp (mdl_mo hW) (bnd_bx hW) (by omega) ?_
 rw [chk_ok hW, rs0, i_int]
 exact cNe (fun c => absurd rfl c) fun _ => ⟨trivial, h⟩

/-- One row, with all ones. -/
theorem val_row {N p m i : Nat} {r md : D} {t : List (Int × Int)} {rows : List D} (hr : D.fld r 0 = tmL t) (hN : N ≤ 100) (ht : t.length ≤ 1000) (hb : ∀ q ∈ t, (0 ≤ q.1 ∧ q.1 < (N : Int)) ∧ -1000000 ≤ q.2 ∧ q.2 ≤ 1000000) (hs : sumP t ≤ D.i (D.fld r 1)) (hn : 1100 ≤ p)
  (h : L8_10 p m (ones N) (.slc rows) (.int (rows.length : Int)) (.int (IntKind.wrap .i64 ((i : Int) + 1))) md Q) : L8_14 p m p (ones N) (.int 0) (.slc rows) (.int (rows.length : Int)) (.int (i : Int)) (D.fld r 0) (.int (D.len (D.fld r 0))) (.int 0) md r Q := by
 rw [hr, tm_len]
 refine up_loop (L := fun q k => L8_14 p m q (ones N) (.int (sumP (t.take k))) (.slc rows) (.int (rows.length : Int)) (.int (i : Int)) (tmL t) (.int (t.length : Int)) (.int (k : Int)) md r Q) (N := t.length) (fun q k hk hL => ?_) (fun q => ?_) p 0 (by omega) (by omega)
 ·rw [L8_14_eq]
  obtain ⟨b1, b2⟩ := hb _ (getD_in (d := (0, 0)) hk)
  have b3 := sumP_bd (fun p hp => (hb p hp).2) k (by omega)
  have f0 : D.fld (tmD (t.getD k (0, 0))) 0 = .int (t.getD k (0, 0)).1 := rfl
  have f1 : D.fld (tmD (t.getD k (0, 0))) 1 = .int (t.getD k (0, 0)).2 := rfl
  simp only [i_int]
  rw [tm_el hk, f0, f1, tm_len, on_len, wr1 (k := k) (by omega)]
  simp only [i_int]
  rw [on_el b1.1 b1.2, i_int, Int.mul_one, wrap_id (x := (t.getD k (0, 0)).2) (by omega) (by omega), wrap_id (x := sumP (t.take k) + (t.getD k (0, 0)).2) (by omega) (by omega), ← sumP_step hk]
  exact cLt (fun _ => ⟨⟨by omega, by omega⟩, trivial, ⟨by omega, by omega⟩, hL⟩) fun c => by omega
 ·rw [L8_14_eq, List.take_length]
  simp only [i_int]
  exact cLt (fun c => by omega) fun _ => cLt (fun c => by omega) fun _ => h

theorem value_wp {ws : List Int} {e : Int} (hW : Ws ws e) (hn : 1200 ≤ n) (h : Q [.int (suf ws 0 + e), .bool true]) : wpF Tryz.prog A n 8 [mdl ws e, ones ws.length] Q := by
 have hN := hW.len
 have he := hW.e
 obtain ⟨p, rfl⟩ : ∃ p, n = p + 1 := ⟨n - 1, by omega⟩
 rw [E8, on_len, md0, i_int]
 refine cNe (fun c => absurd rfl c) fun _ => ?_
 refine up_loop (L := fun q k => L8_4 p q (ones ws.length) (ones ws.length) (.int (ws.length : Int)) (.int (k : Int)) (mdl ws e) Q) (N := ws.length) (fun q k hk hL => ?_) (fun q => ?_) p 0 (by omega) (by omega)
 ·rw [L8_4_eq]
  simp only [i_int]
  rw [on_len, on_el (by omega) (by omega), i_int, wr1 (k := k) (by omega)]
  exact cLt (fun _ => ⟨⟨by omega, by omega⟩, cLt (fun c => by omega) fun _ => cLt (fun c => by omega) fun _ => hL⟩) fun c => by omega
 ·rw [L8_4_eq]
  simp only [i_int]
  refine cLt (fun c => by omega) fun _ => ?_
  rw [md1, len_slc]
  have hrl := rowsUp_le ws.length (ws.length + 1)
  refine up_loop (L := fun q k => L8_10 p q (ones ws.length) (.slc (rowsUp ws.length (ws.length + 1))) (.int ((rowsUp ws.length (ws.length + 1)).length : Int)) (.int (k : Int)) (mdl ws e) Q) (N := (rowsUp ws.length (ws.length + 1)).length) (fun q k hk hL => ?_) (fun q => ?_) p 0 (by omega) (by omega)
  ·rw [L8_10_eq]
   simp only [i_int]
   have hmem : D.el (.slc (rowsUp ws.length (ws.length + 1))) (k : Int) ∈ rowsUp ws.length (ws.length + 1) := getD_in hk
   generalize hr : D.el (.slc (rowsUp ws.length (ws.length + 1))) (k : Int) = r at hmem ⊢
   rw [len_slc]
   refine cLt (fun _ => ⟨⟨by omega, by omega⟩, trivial, ?_⟩) fun c => by omega
   have hN0 : ws.length ≠ 0 := fun h0 => by rw [h0, rowsUp_zero] at hmem; cases hmem
   rw [← wr1 (k := k) (by omega)] at hL
   obtain ⟨i, hi, hx⟩ := rowsUp_mem hmem
   have hl := tmP_len (flC ws.length i) ws.length
   have hsum := flC_sum hN0 (show i ≤ ws.length by omega)
   rcases hx with hx | hx
   ·subst hx
    refine val_row (t := tmP (flC ws.length i) ws.length) rfl (by omega) (by omega) (fun q hq => ?_) ?_ (by omega) hL
    ·obtain ⟨j, h1, h2, _⟩ := tmP_mem hq
     have := flC_rng ws.length i j
     subst h2
     exact ⟨⟨by show (0 : Int) ≤ (j : Int); omega, by show (j : Int) < (ws.length : Int); omega⟩, by show -1000000 ≤ flC ws.length i j; omega, by show flC ws.length i j ≤ 1000000; omega⟩
    ·rw [sumP_tm, hsum]; exact Int.le_refl _
   ·subst hx
    refine val_row (t := negP (tmP (flC ws.length i) ws.length)) rfl (by omega) (by unfold negP; rw [List.length_map]; omega) (fun q hq => ?_) ?_ (by omega) hL
    ·obtain ⟨q', hq', h2⟩ := neg_mem hq
     obtain ⟨j, h1, h3, _⟩ := tmP_mem hq'
     have := flC_rng ws.length i j
     subst h2; subst h3
     exact ⟨⟨by show (0 : Int) ≤ (j : Int); omega, by show (j : Int) < (ws.length : Int); omega⟩, by show -1000000 ≤ -flC ws.length i j; omega, by show -flC ws.length i j ≤ 1000000; omega⟩
    ·rw [sumP_neg, sumP_tm, hsum]; exact Int.le_refl _
  ·rw [L8_10_eq]
   simp only [i_int]
   refine cLt (fun c => by omega) fun _ => ?_
   rw [md2, md3, tm_len]
   have hl := tmP_len (fun j => ws.getD j 0) ws.length
   have hb : ∀ q ∈ goalP ws, (0 ≤ q.1 ∧ q.1 < (ws.length : Int)) ∧ -1000000 ≤ q.2 ∧ q.2 ≤ 1000000 := fun q hq => by
    obtain ⟨j, h1, h2, _⟩ := tmP_mem hq
    have := hW.w j h1
    subst h2
    exact ⟨⟨by show (0 : Int) ≤ (j : Int); omega, by show (j : Int) < (ws.length : Int); omega⟩, by show -1000000 ≤ ws.getD j 0; omega, by show ws.getD j 0 ≤ 1000000; omega⟩
   have hl' : (goalP ws).length ≤ 40 := Nat.le_trans hl hN
   have e0 : D.int e = .int (e + sumP ((goalP ws).take 0)) := by show _ = D.int (e + 0); rw [Int.add_zero]
   rw [e0]
   refine up_loop (L := fun q k => L8_23 p q (ones ws.length) (.int (e + sumP ((goalP ws).take k))) (tmL (goalP ws)) (.int ((goalP ws).length : Int)) (.int (k : Int)) Q) (N := (goalP ws).length) (fun q k hk hL => ?_) (fun q => ?_) p 0 (by omega) (by omega)
   ·rw [L8_23_eq]
    obtain ⟨b1, b2⟩ := hb _ (getD_in (d := (0, 0)) hk)
    have b3 := sumP_bd (fun p hp => (hb p hp).2) k (by omega)
    have f0 : D.fld (tmD ((goalP ws).getD k (0, 0))) 0 = .int ((goalP ws).getD k (0, 0)).1 := rfl
    have f1 : D.fld (tmD ((goalP ws).getD k (0, 0))) 1 = .int ((goalP ws).getD k (0, 0)).2 := rfl
    simp only [i_int]
    rw [tm_el hk, f0, f1, tm_len, on_len, wr1 (k := k) (by omega)]
    simp only [i_int]
    rw [on_el b1.1 b1.2, i_int, Int.mul_one, wrap_id (x := ((goalP ws).getD k (0, 0)).2) (by omega) (by omega), wrap_id (x := e + sumP ((goalP ws).take k) + ((goalP ws).getD k (0, 0)).2) (by omega) (by omega), Int.add_assoc, ← sumP_step hk]
    exact cLt (fun _ => ⟨⟨by omega, by omega⟩, trivial, ⟨by omega, by omega⟩, hL⟩) fun c => by omega
   ·rw [L8_23_eq, List.take_length]
    simp only [i_int]
    refine cLt (fun c => by omega) fun _ => ?_
    have s1 := suf_sum ws ws.length (Nat.le_refl _)
    rw [suf_end (Nat.le_refl _), Int.add_zero] at s1
    unfold goalP
    rw [sumP_tm, s1, Int.add_comm]
    exact h

theorem ws0 : Ws [] 7 := ⟨by simp, fun i h => absurd h (by simp), by omega, by omega⟩
theorem ws1 : Ws [7] 2 := ⟨by simp, fun i h => by
 have : i = 0 := by simpa using h
 subst this
 show (0 : Int) ≤ 7 ∧ (7 : Int) ≤ 255
 omega, by omega, by omega⟩
theorem awake_wp (hn : 1101100 ≤ n) (h : Q [.bool true]) : wpF Tryz.prog A n 4 [] Q := by
 obtain ⟨p, rfl⟩ : ∃ p, n = p + 1 := ⟨n - 1, by omega⟩
 rw [E4]
 refine ⟨trivial, trivial, ?_⟩
 refine most_wp ws0 (by omega) ?_
 refine modl_wp ws0 (by omega) ⟨trivial, trivial, ?_⟩
 refine most_wp ws1 (by omega) ?_
 exact h
end
end Go.Ab

/- Units that are chains: the law. -/
namespace Go.Ab
open Go.Proofs
attribute [local irreducible] wpF
set_option maxRecDepth 100000

def unitU (k : Nat) : D := .agg [.str ByteArray.empty, .slc ((List.range k).map nodeC), .slc [], .slc [], .slc [], .slc [], .slc [], .slc [], .slc [], .slc []]
def costU (l : List Int) (k : Nat) : D := .agg [.slc ((l.take k).map fun w => .slc [.int w]), .slc []]

theorem path_wp {n : Nat} {l : List Int} (hl : ∀ x ∈ l, 0 ≤ x ∧ x ≤ 255) (hn : 1102000 ≤ n) : wpF Tryz.prog A n 3 [.slc (l.map .int)] fun r => r = [.bool true] := by
 obtain ⟨p, rfl⟩ : ∃ p, n = p + 1 := ⟨n - 1, by omega⟩
 have hlen : D.len (.slc (l.map .int)) = (l.length : Int) := by rw [len_slc, List.length_map]
 rw [E3, hlen]
 refine cLt (fun _ => awake_wp (by omega) rfl) fun c => ?_
 have hN : l.length ≤ 40 := by omega
 have hw : ∀ i, i < l.length → 0 ≤ l.getD i 0 ∧ l.getD i 0 ≤ 255 := fun i hi => hl _ (getD_in hi)
 have hW : Ws l 5 := ⟨hN, hw, by omega⟩
 have hsum : ∀ k, k ≤ l.length → 0 ≤ (l.take k).sum ∧ (l.take k).sum ≤ 255 * (k : Int) := by
  intro k
  induction k with
  | zero => intro _; simp
  | succ k ih =>
   intro hk
   have a := ih (by omega)
   have b := hw k (by omega)
   rw [List.getD_eq_getElem?_getD, List.getElem?_eq_getElem (by omega)] at b
   simp only [Option.getD_some] at b
   rw [List.take_succ_eq_append_getElem (by omega), List.sum_append]
   simp only [List.sum_cons, List.sum_nil]
   omega
 have stp : ∀ k, k < l.length → (l.take k).sum + l.getD k 0 = (l.take (k + 1)).sum ∧ l.take (k + 1) = l.take k ++ [l.getD k 0] := fun k hk => by
  have e : l.getD k 0 = l[k] := by rw [List.getD_eq_getElem?_getD, List.getElem?_eq_getElem hk]; rfl
  rw [e, List.take_succ_eq_append_getElem hk, List.sum_append]
  simp
 refine up_loop (L := fun q k => L3_7 p q (.slc (l.map .int)) (.int (l.take k).sum) (.slc (l.map .int)) (.int (l.length : Int)) (.int (k : Int)) (unitU k) (costU l k) fun r => r = [.bool true]) (N := l.length) (fun q k hk hL => ?_) (fun q => ?_) p 0 (by omega) (by omega)
 ·rw [L3_7_eq]
  have e0 : D.el (.slc (l.map .int)) (k : Int) = .int (l.getD k 0) := el_map D.int l k 0 hk
  obtain ⟨s1, s2⟩ := stp k hk
  have b1 := hsum k (by omega)
  have b2 := hw k hk
  simp only [i_int]
  rw [e0, i_int, hlen, wr1 (k := k) (by omega), wrap_id (x := l.getD k 0) (by omega) (by omega), wrap_id (x := (l.take k).sum + l.getD k 0) (by omega) (by omega), s1]
  have g1 : D.fld (unitU k) 1 = .slc ((List.range k).map nodeC) := rfl
  have g2 : D.fld (costU l k) 0 = .slc ((l.take k).map fun w => .slc [.int w]) := rfl
  have e1 : unitU (k + 1) = .agg [D.fld (unitU k) 0, .slc (D.xs (D.fld (unitU k) 1) ++ [.agg [.int 0, .int 0, .slc [.int ((k + 1 : Nat) : Int)], .slc []]]), D.fld (unitU k) 2, D.fld (unitU k) 3, D.fld (unitU k) 4, D.fld (unitU k) 5, D.fld (unitU k) 6, D.fld (unitU k) 7, D.fld (unitU k) 8, D.fld (unitU k) 9] := by
   unfold unitU
   rw [rng_succ]; rfl
  have e2 : costU l (k + 1) = .agg [.slc (D.xs (D.fld (costU l k) 0) ++ [.slc [.int (l.getD k 0)]]), D.fld (costU l k) 1] := by
   unfold costU
   rw [s2, List.map_append]; rfl
  rw [e1, e2] at hL
  refine cLt (fun _ => ⟨⟨by omega, by omega⟩, ?_, trivial, ?_, trivial, hL⟩) fun c => by omega
  ·rw [g1, xs_slc]; unfold room; simp; omega
  ·rw [g2, xs_slc]; unfold room; simp; omega
 ·rw [L3_7_eq]
  simp only [i_int]
  have g1 : D.fld (unitU l.length) 1 = .slc ((List.range l.length).map nodeC) := rfl
  have g2 : D.fld (costU l l.length) 0 = .slc ((l.take l.length).map fun w => .slc [.int w]) := rfl
  have e1 : D.agg [D.fld (unitU l.length) 0, .slc (D.xs (D.fld (unitU l.length) 1) ++ [.agg [.int 0, .int 0, .slc [], .slc []]]), D.fld (unitU l.length) 2, D.fld (unitU l.length) 3, D.fld (unitU l.length) 4, D.fld (unitU l.length) 5, D.fld (unitU l.length) 6, D.fld (unitU l.length) 7, D.fld (unitU l.length) 8, D.fld (unitU l.length) 9] = chU l.length := rfl
  have e2 : D.agg [.slc (D.xs (D.fld (costU l l.length) 0) ++ [.slc [.int 5]]), D.fld (costU l l.length) 1] = chC l 5 := by
   rw [g2, List.take_length]; rfl
  rw [e1, e2]
  refine cLt (fun c => by omega) fun _ => ⟨by rw [g1, xs_slc]; unfold room; simp; omega, trivial, by rw [g2, xs_slc]; unfold room; simp; omega, trivial, ?_⟩
  refine most_wp hW (by omega) (modl_wp hW (by omega) ⟨trivial, prove_wp hW (by omega) ⟨trivial, ?_⟩⟩)
  rw [hlen, toNat_nat, len_slc, List.length_replicate]
  refine ⟨⟨by omega, by omega, by unfold room; omega⟩, ?_⟩
  simp only [rs0, rsS]
  have e3 : D.slc (List.replicate l.length (.int 0)) = .slc (mixL (fun _ => .int 1) (fun _ => .int 0) l.length 0) := by rw [mix_zero, rng_const]
  rw [e3, List.take_length]
  refine up_loop (L := fun q k => L3_20 p q (.int l.sum) (.int (suf l 0 + 5)) (.int 0) (.int 0) (.int 0) (.int (l.length : Int)) (.int (k : Int)) (mdl l 5) (bnd l 5) (.slc (mixL (fun _ => .int 1) (fun _ => .int 0) l.length k)) fun r => r = [.bool true]) (N := l.length) (fun q k hk hL => ?_) (fun q => ?_) p 0 (by omega) (by omega)
  ·rw [L3_20_eq]
   simp only [i_int, toNat_nat, xs_slc, len_slc, mix_len]
   rw [mix_set (g := fun _ => D.int 1), wr1 (k := k) (by omega)]
   exact cLt (fun _ => ⟨⟨by omega, by omega⟩, trivial, hL⟩) fun c => by omega
  ·rw [L3_20_eq, mix_all, rng_const]
   simp only [i_int]
   refine cLt (fun c => by omega) fun _ => value_wp hW (by omega) ?_
   have e4 : suf l 0 = l.sum := rfl
   have s0 := suf_bd hW 0
   have e5 : D.i (D.fld (bnd l 5) 1) = suf l 0 + 5 := rfl
   simp only [rs0, rsS, i_int, b_bool, cond_true]
   rw [e5, ← e4, wrap_id (by omega) (by omega)]
   refine cEq (fun _ => cEq (fun _ => cEq (fun _ => cEq (fun _ => cEq (fun _ => cEq (fun _ => ?_) fun c => absurd rfl c) fun c => absurd rfl c) fun c => absurd rfl c) fun c => absurd rfl c) fun c => absurd rfl c) fun c => absurd rfl c
   refine check'_wp (mdl_mo hW) (bnd_bx hW) (by omega) ?_
   rw [chk_ok hW, rs0, i_int]
   exact cEq (fun _ => awake_wp (by omega) rfl) fun c => absurd rfl c
end Go.Ab
