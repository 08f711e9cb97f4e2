/- The abstraction layer, part 2: rules that read a program as plain data, and that they are sound. Conditions: those in each theorem. -/
import Derived.Test.YtaeedloefcbjlaaGreatAbsPart1
import Derived.Laws.Cover3
import Derived.Laws.MakeOwn
set_option linter.unusedVariables false
set_option linter.unusedSimpArgs false
/- Elements, lengths, parts of slices. -/
namespace Go.Ab
variable {P : Program} {A : Ann}

theorem loc_append (q : Pth) : ∀ (p : Pth) (lc : Option (Nat × Nat)) (t : Nat) (L : Lt) (x : Nat × Nat) (u : Nat), Lt.loc P lc t L p = some x → tyAt P t p = some u →
  Lt.loc P lc t L (p ++ q) = Lt.loc P (some x) u (L.sub p) q ∧ tyAt P t (p ++ q) = tyAt P u q := by
 intro p
 induction p with
 | nil =>
  intro lc t L x u h1 h2
  simp only [Lt.loc, tyAt, Option.some.injEq] at h1 h2
  subst h1 h2
  exact ⟨rfl, rfl⟩
 | cons z p ih =>
  intro lc t L x u h1 h2
  cases z with
  | fld i =>
   simp only [List.cons_append, Lt.loc, tyAt, Lt.sub] at h1 h2 ⊢
   split at h2 <;> try contradiction
   rename_i hk'
   rw [hk'] at h1
   simp only at h1
   split at h2 <;> try contradiction
   rename_i hj'
   rw [hj'] at h1
   exact ih _ _ _ _ _ h1 h2
  | idx i =>
   cases L <;> simp only [List.cons_append, Lt.loc, tyAt, reduceCtorEq, Lt.sub, Lt.el] at h1 h2 ⊢
   split at h2 <;> try contradiction
   rename_i hk'
   rw [hk'] at h1
   simp only at h1
   split at h1 <;> try contradiction
   rename_i hi
   simp only [if_pos hi]
   exact ih _ _ _ _ _ h1 h2
  | arr i =>
   simp only [List.cons_append, Lt.loc, tyAt, Lt.sub] at h1 h2 ⊢
   split at h2 <;> try contradiction
   rename_i hk'
   rw [hk'] at h1
   simp only at h1
   split at h2 <;> try contradiction
   rename_i hi
   simp only [if_pos hi] at h1 ⊢
   exact ih _ _ _ _ _ h1 h2

/-- The element of a slice whose header lies at 'p'. -/
theorem loc_idx : ∀ (p : Pth) (lc : Option (Nat × Nat)) (t : Nat) (L : Lt) (u e : Nat) (b off cap : Nat) (ks : List Lt) (i : Nat), tyAt P t p = some u → tk P u = .slc e → L.sub p = .slc b off cap ks → i < ks.length →
  (∀ (P' : Prop), (Lt.loc P lc t L p = none → p ≠ [] → P') → P' ∨ True) →
  Lt.loc P lc t L (p ++ [.idx i]) = some (b, off + i * P.cellsOf e) ∧ tyAt P t (p ++ [.idx i]) = some e := by
 intro p
 induction p with
 | nil =>
  intro lc t L u e b off cap ks i h1 h2 h3 h4 _
  simp only [tyAt, Option.some.injEq] at h1
  subst h1
  simp only [Lt.sub] at h3
  subst h3
  simp only [List.nil_append, Lt.loc, h2, if_pos h4, tyAt, and_self]
 | cons z p ih =>
  intro lc t L u e b off cap ks i h1 h2 h3 h4 hh
  cases z with
  | fld j =>
   simp only [List.cons_append, Lt.loc, tyAt, Lt.sub] at h1 h3 ⊢
   split at h1 <;> try contradiction
   rename_i hk'
   split at h1 <;> try contradiction
   rename_i hj'
   exact ih _ _ _ _ _ _ _ _ _ _ h1 h2 h3 h4 (fun _ _ => .inr trivial)
  | idx k =>
   cases L with
   | slc b' off' cap' ks' =>
    simp only [List.cons_append, Lt.loc, tyAt, Lt.sub, Lt.el] at h1 h3 ⊢
    split at h1 <;> try contradiction
    rename_i hk'
    by_cases hi : k < ks'.length
    ·simp only [if_pos hi]
     exact ih _ _ _ _ _ _ _ _ _ _ h1 h2 h3 h4 (fun _ _ => .inr trivial)
    ·rw [List.getD_eq_getElem?_getD, List.getElem?_eq_none (by omega)] at h3
     simp [leaf_sub] at h3
   | _ => simp [Lt.sub, Lt.el, leaf_sub] at h3
  | arr k => simp [Lt.sub, leaf_sub] at h3

section
variable {X0 Y0 : Nat → Prop} {w0 : World} {g : St} {ph : Nat → Ph} {a : Act} {w : World} {o : Oper} {K : Dl → Prop}

theorem rep_slc_inv {X : Nat → Prop} {t e : Nat} {v : Value} {d : D} (hk : tk P t = .slc e) (h : RepV P A X w t v d) :
  (∃ p, v = .slice p 0 0 ∧ d = .slc []) ∨ ∃ (b off cap : Nat) (xs : List D) (css : Nat → List Value), v = .slice (some ⟨b, off, none⟩) xs.length cap ∧ d = .slc xs ∧ ¬ X b ∧ b < w.heap.size ∧ xs.length ≤ cap ∧
   (∀ i, i < xs.length → (css i).length = P.cellsOf e) ∧ (∀ i, i < xs.length → Row w b (off + i * P.cellsOf e) (css i)) ∧ (∀ i, i < xs.length → Rep P A X w e (css i) (xs.getD i .und)) := by
 obtain ⟨cs, hr, hv⟩ := h
 cases hr with
 | slcN h => exact .inl ⟨_, hv.trans (mkV_one (by rw [h]; rfl)), rfl⟩
 | slc h h1 h2 h3 h4 h5 h6 =>
  rw [hk] at h
  injection h with h
  subst h
  exact .inr ⟨_, _, _, _, _, hv.trans (mkV_one (by rw [hk]; rfl)), rfl, h1, h2, h3, h4, h5, h6⟩
 | _ => simp_all

theorem run_index {t e b off n cap : Nat} {k : IntKind} {i : Int} {x ix : Operand} (hk : tk P t = .slc e) (ho : o.op = .indexAddr t x ix) (hx : a.eval x = .slice (some ⟨b, off, none⟩) n cap) (hi : a.eval ix = .int k i)
  (h0 : 0 ≤ i) (h1 : i < n) (hne : tk P e ≠ .other) : (execOp a.eval o).run P w = .ok (.value (.pointer (some ⟨b, off + i.toNat * P.cellsOf e, none⟩))) w := by
 simp [execOp, ho, hx, hi, Instr.indexAt, run_underlying (und_slc hk), asIntOf, h0, h1, run_sizeOf hne, addr_add]

theorem step_indexAddr {t : Nat} {x ix : Operand} (W : WF P) (ho : o.op = .indexAddr t x ix) (R : RelA P A X0 Y0 w0 g ph a w)
  (h : indexD P (lookO g.ob) t (g.av x) (g.av ix) (onV K)) : Does P o a w (Out P A X0 Y0 w0 g a K) := by
 have hx := AVR.eval R x
 unfold indexD at h
 split at h <;> try contradiction
 ·rename_i e hk
  split at h <;> try contradiction
  rename_i n hn
  obtain ⟨k, hi⟩ := intOf_eval W R hn
  have immCase : ∀ (X1 : Nat → Prop) (d : D), (∀ b, X1 b → Xof X0 (lookO g.ob) ph b) → (∀ b, Xof X0 (lookO g.ob) ph b → X1 b) → RepV P A X1 w t (a.eval x) d → (0 ≤ n ∧ n < d.len) ∧ onV K (.iptr e (d.el n)) → Does P o a w (Out P A X0 Y0 w0 g a K) := by
   intro X1 d hX1 hX2 hr ⟨⟨h0, h1⟩, hK⟩
   rcases rep_slc_inv hk hr with ⟨_, e1, rfl⟩ | ⟨b, off, cap, xs, css, e1, rfl, g1, g2, g3, g4, g5, g6⟩
   ·simp [D.len, D.xs] at h1; omega
   ·have hlt : n.toNat < xs.length := by simp [D.len, D.xs] at h1; omega
    have hR := g6 n.toNat hlt
    refine Does.value (run_index hk ho e1 hi h0 (by omega) hR.tk_ne) (Out.pure R hK ?_)
    exact ⟨b, _, _, rfl, fun hb => g1 (hX2 b hb), g2, g5 _ hlt, hR.anti fun b _ hb => hX2 b hb⟩
  split at h <;> try contradiction
  ·rename_i u d hav
   rw [cond_eq] at h
   split at h <;> try contradiction
   rename_i hku
   rw [hav] at hx
   exact immCase _ d (fun _ h => h) (fun _ h => h) (RepV.kind W hx (sameK_eq hku).symm) h
  ·rename_i q p u hav
   rw [cond_eq] at h
   split at h <;> try contradiction
   rename_i hku
   split at h <;> try contradiction
   rename_i y hy
   rw [hav] at hx
   obtain ⟨_, hx2⟩ := hx y hy
   have hok := ob_ok R hy
   split at h <;> try contradiction
   ·rename_i hs
    -- what is owned no more
    obtain ⟨u', hu, hk', h3⟩ := hx2 (not_it_of_get hs (by simp))
    have hkk : tk P u' = .slc e := (hk'.trans (sameK_eq hku).symm).trans hk
    rcases h3 with h3 | ⟨rfl, hrb, hv⟩
    ·exfalso
     obtain ⟨cs', hO⟩ := hok.own.sub W p hs hu h3
     rw [(hO.leaf_of_imm).1] at h3
     simp [Lt.hv] at h3
    ·simp only [tyAt, Option.some.injEq, Sh.get] at hu hs
     subst hu
     refine immCase _ y.d (fun _ h => h) (fun _ h => h) ?_ h
     have := hok.own
     rw [hs] at this
     exact RepV.kind W ⟨_, this.leaf_of_imm.2, hv⟩ (hk'.trans (sameK_eq hku).symm)
   ·rename_i s' ex hs
    obtain ⟨⟨h0, h1⟩, hK⟩ := h
    obtain ⟨u', hu, hk', h3⟩ := hx2 (not_it_of_get hs (by simp))
    have hkk : tk P u' = .slc e := (hk'.trans (sameK_eq hku).symm).trans hk
    have hsub : ∃ cs', Own P A (Xof X0 (lookO g.ob) ph) w ((ph q).L.sub p) (.slc s' ex) u' cs' (y.d.get p) ∧ ((ph q).L.sub p).hv = some (a.eval x) := by
     rcases h3 with h3 | ⟨rfl, hrb, hv⟩
     ·obtain ⟨cs', hO⟩ := hok.own.sub W p hs hu h3
      exact ⟨cs', hO, h3⟩
     ·simp only [tyAt, Option.some.injEq, Sh.get] at hu hs
      subst hu
      have := hok.own
      rw [hs] at this
      exact ⟨_, this, by rw [Lt.sub, this.slc_hv, hv]⟩
    obtain ⟨cs', hO, hh⟩ := hsub
    generalize hL : (ph q).L.sub p = L at hO hh
    generalize hd : y.d.get p = dd at hO h1
    cases hO with
    | nil => simp [D.len, D.xs] at h1; omega
    | slc h' hb g1 g2 g3 g4 =>
     rename_i e' b off cap E c kids xs
     rw [hkk] at h'
     injection h' with h'
     subst h'
     have hlt : n.toNat < xs.length := by simp [D.len, D.xs] at h1; omega
     simp only [Lt.hv, Option.some.injEq] at hh
     have hne : tk P e ≠ .other := by
      by_cases hg : elS s' ex n.toNat = .gone
      ·have := g4 n.toNat hlt
       rw [hg] at this
       exact W.elem u' e hkk
      ·exact (g4 n.toNat hlt).tk_ne hg
     refine Does.value (run_index hk ho hh.symm hi h0 (by rw [g1]; simp [D.len, D.xs] at h1; omega) hne) (Out.pure R hK ?_)
     intro x2 hx3
     rw [hy] at hx3
     injection hx3 with hx3
     subst hx3
     obtain ⟨l1, l2⟩ := loc_idx p (ph q).root y.t (ph q).L u' e b off cap kids n.toNat hu hkk hL (by omega) (fun _ _ => .inr trivial)
     exact ⟨b, _, e, rfl, l1, l2, rfl⟩
 ·rename_i m e hk
  split at h <;> try contradiction
  rename_i n hn
  obtain ⟨k, hi⟩ := intOf_eval W R hn
  have hne := (W.arr _ _ _ hk).2
  have hrun : ∀ b o1, a.eval x = .pointer (some ⟨b, o1, none⟩) → 0 ≤ n → n < m → (execOp a.eval o).run P w = .ok (.value (.pointer (some ⟨b, o1 + n.toNat * P.cellsOf e, none⟩))) w := by
   intro b o1 e1 h0 h1
   simp [execOp, ho, e1, hi, Instr.indexAt, run_underlying (und_arr hk), asIntOf, Instr.sureAddr, h0, h1, run_sizeOf hne, addr_add]
  split at h <;> try contradiction
  ·rename_i u d hav
   rw [cond_eq] at h
   split at h <;> try contradiction
   rename_i hku
   obtain ⟨⟨h0, h1⟩, hK⟩ := h
   rw [hav] at hx
   obtain ⟨b, o1, cs, e1, e2, e3, e4, e5⟩ := hx
   refine Does.value (hrun b o1 e1 h0 h1) (Out.pure R hK ?_)
   have hR := e5.kind W.kind (sameK_eq hku).symm
   cases hR with
   | arr h' hc hd hf =>
    rename_i n1 e1' ds
    rw [hk] at h'
    injection h' with h' h''
    subst h' h''
    have hlt : n.toNat < m := by omega
    refine ⟨b, o1 + n.toNat * P.cellsOf e, _, rfl, e2, e3, e4.sub ?_, hf _ hlt⟩
    have := Nat.mul_le_mul_right (P.cellsOf e) (show n.toNat + 1 ≤ m from hlt)
    rw [Nat.add_mul, ← (W.arr _ _ _ hk).1, ← hc] at this
    simpa using this
   | _ => simp_all
  ·rename_i q p u hav
   rw [cond_eq] at h
   split at h <;> try contradiction
   rename_i hku
   split at h <;> try contradiction
   rename_i y hy
   obtain ⟨⟨h0, h1⟩, hK⟩ := h
   rw [hav] at hx
   obtain ⟨b, o1, u', e1, e2, e3, e4⟩ := hx y hy
   refine Does.value (hrun b o1 e1 h0 h1) (Out.pure R hK ?_)
   intro x2 hx2
   rw [hy] at hx2
   injection hx2 with hx2
   subst hx2
   have htk : tk P u' = .arr m e := (e4.trans (sameK_eq hku).symm).trans hk
   have hlt : n.toNat < m := by omega
   obtain ⟨g1, g2⟩ := loc_append (P := P) [.arr n.toNat] p _ _ _ _ _ e2 e3
   exact ⟨b, o1 + n.toNat * P.cellsOf e, e, rfl, by rw [g1]; simp only [Lt.loc, htk, if_pos hlt, Option.map_some], by rw [g2]; simp only [tyAt, htk, if_pos hlt], rfl⟩

end
end Go.Ab

/- Comparisons, lengths, least ones, parts of slices, interfaces. -/
namespace Go.Ab
variable {P : Program} {A : Ann}
section
variable {X0 Y0 : Nat → Prop} {w0 : World} {g : St} {ph : Nat → Ph} {a : Act} {w : World} {o : Oper} {K : Dl → Prop}

theorem step_bool {op : BinOp} {tx ty : Nat} {x y : Operand} (W : WF P) (ho : o.op = .binOp op tx x y ty) (R : RelA P A X0 Y0 w0 g ph a w) (hk : tk P tx = .bool) (hB : isB P P.rt.bool = true)
  (h : match St.data P (lookO g.ob) tx (g.av x), St.data P (lookO g.ob) tx (g.av y) with
  | some a, some b => match (generalizing := false) op with
   | .eql => onV K (.imm P.rt.bool (.bool (decide (a.b = b.b))))
   | .neq => onV K (.imm P.rt.bool (.bool (!decide (a.b = b.b))))
   | _ => False
  | _, _ => False) : Does P o a w (Out P A X0 Y0 w0 g a K) := by
 split at h <;> try contradiction
 rename_i dx dy hx hy
 obtain ⟨m, e1, rfl⟩ := slot_bool W R hk hx
 obtain ⟨n, e2, rfl⟩ := slot_bool W R hk hy
 have hb : (m == n) = decide (m = n) := by rw [Bool.eq_iff_iff]; simp
 cases op <;> try exact (show False from h).elim
 ·refine Does.value (v := .bool (decide (m = n))) (w' := w) ?_ (Out.pure R h (rep_bool (isB_eq hB)))
  simp [execOp, ho, e1, e2, eqGuard, binOp, run_equal_bool w tx m n (und_bool hk), hb]
 ·refine Does.value (v := .bool (!decide (m = n))) (w' := w) ?_ (Out.pure R h (rep_bool (isB_eq hB)))
  simp [execOp, ho, e1, e2, eqGuard, binOp, run_equal_bool w tx m n (und_bool hk), hb]

theorem step_nilEq {op : BinOp} {tx ty e : Nat} {x y : Operand} (W : WF P) (ho : o.op = .binOp op tx x y ty) (R : RelA P A X0 Y0 w0 g ph a w) (hk : tk P tx = .slc e) (hB : isB P P.rt.bool = true)
  (h : match St.data P (lookO g.ob) tx (g.av x), g.av y with
  | some a, .con (.slice none 0 0) => match (generalizing := false) op with
   | .eql => ∀ b : Bool, (b = true → a.len = 0) → onV K (.imm P.rt.bool (.bool b))
   | .neq => ∀ b : Bool, (b = true → a.len = 0) → onV K (.imm P.rt.bool (.bool (!b)))
   | _ => False
  | _, _ => False) : Does P o a w (Out P A X0 Y0 w0 g a K) := by
 have hyr := AVR.eval R y
 split at h <;> try contradiction
 rename_i dx hx hy
 rw [hy] at hyr
 have e2 : a.eval y = .slice none 0 0 := hyr
 obtain ⟨X1, _, hr⟩ := slot_rep W R hx
 obtain ⟨ad, l, c, e1, hlen⟩ : ∃ (ad : Option Addr) (l c : Nat), a.eval x = .slice ad l c ∧ (ad.isNone = true → dx.len = 0) := by
  rcases rep_slc_inv hk hr with ⟨p, e1, rfl⟩ | ⟨b, off, cap, xs, css, e1, rfl, _⟩
  ·exact ⟨_, _, _, e1, fun _ => rfl⟩
  ·exact ⟨_, _, _, e1, fun h => by simp at h⟩
 cases op <;> try exact (show False from h).elim
 ·refine Does.value (v := .bool ad.isNone) (w' := w) ?_ (Out.pure R (h ad.isNone hlen) (rep_bool (isB_eq hB)))
  simp [execOp, ho, e1, e2, eqGuard, binOp, run_equal_slice_nil w tx e ad l c (und_slc hk)]
 ·refine Does.value (v := .bool (!ad.isNone)) (w' := w) ?_ (Out.pure R (h ad.isNone hlen) (rep_bool (isB_eq hB)))
  simp [execOp, ho, e1, e2, eqGuard, binOp, run_equal_slice_nil w tx e ad l c (und_slc hk)]

theorem run_getMap {r k : Nat} {x : Array MapEntry} (h : w.heap[r]? = some (.map x k)) : (getObj r).run P w = .ok (.map x k) w := by simp [getObj, Sem.run, h]
theorem run_setMap {r k : Nat} {x : Array MapEntry} {y : Go.Obj} (h : w.heap[r]? = some (.map x k)) : (setObj r y).run P w = .ok () { w with heap := w.heap.setIfInBounds r y } := by simp [setObj, Sem.run, h]
theorem step_len {c : Call} {t : Nat} {x : Operand} (W : WF P) (ho : o.op = .call c) (hc : c.callee = .builtin .len) (ht : c.argTypes.toList = [t]) (hxs : c.args.toList = [x]) (R : RelA P A X0 Y0 w0 g ph a w)
  (h : lenD P (lookO g.ob) t (g.av x) (onV K) o.type) : Does P o a w (Out P A X0 Y0 w0 g a K) := by
 have hat : c.argTypes = #[t] := by rw [← Array.toList_inj]; exact ht
 have hxa : c.args = #[x] := by rw [← Array.toList_inj]; exact hxs
 unfold lenD at h
 split at h <;> try contradiction
 rename_i d hd
 rw [cond_eq] at h
 split at h <;> try contradiction
 rename_i hI
 obtain ⟨X1, _, hr⟩ := slot_rep W R hd
 split at h <;> try contradiction
 ·rename_i e hk
  rcases rep_slc_inv hk hr with ⟨p, e1, rfl⟩ | ⟨b, off, cap, xs, css, e1, rfl, _⟩
  ·refine Does.value (v := .int .i64 (0 : Nat)) (w' := w) ?_ (Out.pure R h (rep_int (isI_eq hI)))
   simp [execOp, ho, resolve, hc, hat, hxa, invoke, builtin, Builtin.len_, e1, run_underlying (und_slc hk), goInt]
  ·refine Does.value (v := .int .i64 xs.length) (w' := w) ?_ (Out.pure R h (rep_int (isI_eq hI)))
   simp [execOp, ho, resolve, hc, hat, hxa, invoke, builtin, Builtin.len_, e1, run_underlying (und_slc hk), goInt]
 ·rename_i k e hk
  obtain ⟨cs, hr, hv⟩ := hr
  cases hr with
  | mapN h' =>
   refine Does.value (v := .int .i64 (0 : Nat)) (w' := w) ?_ (Out.pure R h (rep_int (isI_eq hI)))
   rw [mkV_one (by rw [hk]; rfl)] at hv
   simp [execOp, ho, resolve, hc, hat, hxa, invoke, builtin, Builtin.len_, hv, run_underlying (und_map hk), goInt]
  | map h' hx' hb hl =>
   rename_i k' e' r clock es l ck ce _ _ _ _
   refine Does.value (v := .int .i64 l.length) (w' := w) ?_ (Out.pure R h (rep_int (isI_eq hI)))
   rw [mkV_one (by rw [hk]; rfl)] at hv
   simp [execOp, ho, resolve, hc, hat, hxa, invoke, builtin, Builtin.len_, hv, run_underlying (und_map hk), goInt, run_getMap hb, hl]
  | _ => simp_all
 ·rename_i hk
  obtain ⟨cs, hr, hv⟩ := hr
  cases hr with
  | str h' =>
   rename_i s
   refine Does.value (v := .int .i64 s.size) (w' := w) ?_ (Out.pure R h (rep_int (isI_eq hI)))
   rw [mkV_one (by rw [hk]; rfl)] at hv
   simp [execOp, ho, resolve, hc, hat, hxa, invoke, builtin, Builtin.len_, hv, run_underlying (und_str hk), goInt]
  | _ => simp_all

theorem step_makeFunc {f : Nat} {first caps : Array Operand} (ho : o.op = .makeFunc (.func f) first caps) (hf : Nat.beq first.size 0 = true) (R : RelA P A X0 Y0 w0 g ph a w)
  (hfl : ∀ x ∈ caps.toList, (g.av x).flatA = true) (h : K { v := .clo f (caps.toList.map g.av) }) : Does P o a w (Out P A X0 Y0 w0 g a K) := by
 have h0 : first = #[] := by have := beq_iff.1 hf; exact Array.eq_empty_of_size_eq_zero this
 refine Does.value (v := .func (.func f) #[] (caps.map a.eval)) (w' := w) (by simp [execOp, ho, h0, Instr.makeFunc]) (Out.pure R h ?_)
 refine ⟨_, rfl, by simp, fun i av hi => ?_⟩
 simp only [List.getElem?_map, Option.map_eq_some_iff, Array.getElem?_toList] at hi
 obtain ⟨x, hx, rfl⟩ := hi
 have := (AVR.eval R x).one (hfl x (by rw [Array.mem_toList_iff]; exact Array.mem_of_getElem? hx))
 simpa [Array.getD_eq_getD_getElem?, hx] using this

def AV.fixed : AV → Bool
 | .val _ _ _ => false
 | .old _ _ _ => false
 | _ => true
theorem data_imm (W : WF P) {X : Nat → Prop} {ob : Nat → Option Obj} {t : Nat} {av : AV} {d : D} {v : Value} (h : AVR1 P A X w ob ph av v) (hd : St.data P ob t av = some d)
  (hv : av.fixed = true) : RepV P A X w t v d := by
 cases av with
 | imm u d' =>
  simp only [St.data, cond_eq] at hd
  split at hd <;> try contradiction
  rename_i hk
  simp only [Option.some.injEq] at hd
  subst hd
  exact RepV.kind W h (sameK_eq hk).symm
 | con c =>
  have : v = c := h
  subst this
  exact conD_rep hd
 | nils u =>
  simp only [St.data, cond_eq] at hd
  split at hd <;> try contradiction
  rename_i hk
  simp only [Option.some.injEq] at hd
  subst hd
  obtain ⟨rfl, e, he⟩ := h
  have := (sameK_eq hk).trans he
  exact ⟨_, .slcN this, (mkV_one (by rw [this]; rfl)).symm⟩
 | val => simp [AV.fixed] at hv
 | old => simp [AV.fixed] at hv
 | _ => simp [St.data] at hd

theorem val_imm (W : WF P) {X : Nat → Prop} {ob : Nat → Option Obj} {t q : Nat} {p : Pth} {x : Obj} {v : Value} (ho : OkObj P A X w x (ph q)) (hq : ob q = some x) (h : AVR1 P A X w ob ph (.val q p t) v) (hs : x.sh.get p = some .imm) :
  RepV P A X w t v (x.d.get p) := by
 obtain ⟨_, hx2⟩ := h x hq
 obtain ⟨u', hu, hk', h3⟩ := hx2 (not_it_of_get hs (by simp))
 rcases h3 with h3 | ⟨rfl, hrb, hv⟩
 ·exfalso
  obtain ⟨cs', hO⟩ := ho.own.sub W p hs hu h3
  rw [(hO.leaf_of_imm).1] at h3
  simp [Lt.hv] at h3
 ·simp only [tyAt, Option.some.injEq, Sh.get] at hu hs
  subst hu
  have := ho.own
  rw [hs] at this
  exact RepV.kind W ⟨_, this.leaf_of_imm.2, hv⟩ hk'

theorem isIfc_eq {t : Nat} (h : isIfc P t = true) : tk P t = .ifc := by
 unfold isIfc at h
 split at h
 ·assumption
 ·cases h

theorem step_makeInterface {t : Nat} {x : Operand} (W : WF P) (ho : o.op = .makeInterface t x) (R : RelA P A X0 Y0 w0 g ph a w) (h : match St.data P (lookO g.ob) t (g.av x), tk P t with
  | some _, .ifc => False
  | some _, .other => False
  | some d, _ => cond (isIfc P o.type) (match g.av x with
   | .val _ _ _ => False
   | .old _ _ _ => False
   | _ => K { v := .imm o.type (.ifc t d) }) False
  | none, _ => False) : Does P o a w (Out P A X0 Y0 w0 g a K) := by
 cases hd : St.data P (lookO g.ob) t (g.av x) with
 | none => rw [hd] at h; exact h.elim
 | some d =>
  rw [hd] at h
  by_cases h1 : tk P t = .ifc
  ·rw [h1] at h; exact h.elim
  ·by_cases h2 : tk P t = .other
   ·rw [h2] at h; exact h.elim
   ·have h' : cond (isIfc P o.type) (match g.av x with
     | .val _ _ _ => False
     | .old _ _ _ => False
     | _ => K { v := .imm o.type (.ifc t d) }) False := by
     revert h
     cases hk : tk P t <;> simp_all
    rw [cond_eq] at h'
    split at h' <;> try contradiction
    rename_i hi
    have hr : RepV P A (Xof X0 (lookO g.ob) ph) w t (a.eval x) d := by
     refine data_imm W ((AVR.eval R x).one (data_flat hd)) hd ?_
     cases hav : g.av x <;> first | rfl | (rw [hav] at h'; exact h'.elim)
    have hK : K { v := .imm o.type (.ifc t d) } := by
     revert h'
     cases g.av x <;> simp
    obtain ⟨dd, hdd, _⟩ := und_of_tk h2
    refine Does.value (v := .iface t (a.eval x)) (w' := w) ?_ (Out.pure R hK ?_)
    ·have := tk_of_und (k := tk P t) rfl h2
     rw [hdd] at this
     cases dd <;> simp_all [execOp, Instr.makeInterface, run_underlying hdd]
    ·obtain ⟨cs, hr, hv⟩ := hr
     exact ⟨_, .ifc (isIfc_eq hi) h1 hr, by rw [hv, mkV_one (by rw [isIfc_eq hi]; rfl)]⟩

theorem step_slice {t : Nat} {x : Operand} {lo hi : Option Operand} (W : WF P) (ho : o.op = .slice t x lo hi none) (R : RelA P A X0 Y0 w0 g ph a w)
  (h : bothI P g.av lo fun l => bothI P g.av hi fun h => sliceOfD P (lookO g.ob) t (g.av x) l h (onV K)) : Does P o a w (Out P A X0 Y0 w0 g a K) := by
 have both : ∀ {z : Option Operand} {F : Option Int → Prop}, bothI P g.av z F → ∃ n, F n ∧ (∀ y, z = some y → ∃ k m, a.eval y = .int k m ∧ n = some m) ∧ (z = none → n = none) := by
  intro z F hF
  cases z with
  | none => exact ⟨none, hF, by simp, by simp⟩
  | some y =>
   simp only [bothI] at hF
   split at hF <;> try contradiction
   rename_i n hn
   obtain ⟨k, hk⟩ := intOf_eval W R hn
   exact ⟨_, hF, fun y' e => by injection e with e; subst e; exact ⟨k, n, hk, rfl⟩, by simp⟩
 obtain ⟨l, h, hl1, hl2⟩ := both h
 obtain ⟨u, h, hu1, hu2⟩ := both h
 unfold sliceOfD at h
 split at h <;> try contradiction
 rename_i e d hk hd
 obtain ⟨hr, h0, h1, h2, hK⟩ : RepV P A (Xof X0 (lookO g.ob) ph) w t (a.eval x) d ∧ 0 ≤ l.getD 0 ∧ l.getD 0 ≤ u.getD d.len ∧ u.getD d.len ≤ d.len ∧ onV K (.imm t (.slc ((d.xs.take (u.getD d.len).toNat).drop (l.getD 0).toNat))) := by
  have hx := AVR.eval R x
  simp only at h
  split at h
  ·rename_i q p t' hav
   split at h <;> try contradiction
   rename_i y hy
   split at h <;> try contradiction
   rename_i hs
   rw [hav] at hx hd
   have hR := val_imm W (ob_ok R hy) hy hx hs
   simp only [St.data, cond_eq] at hd
   split at hd <;> try contradiction
   rename_i hkk
   rw [hy] at hd
   simp only [hs, Sh.plain, if_true, Option.some.injEq] at hd
   rw [← hd] at h ⊢
   exact ⟨RepV.kind W hR (sameK_eq hkk).symm, h.1.1, h.1.2.1, h.1.2.2, h.2⟩
  ·contradiction
  ·rename_i hn1 hn2
   refine ⟨data_imm W (hx.one (data_flat hd)) hd ?_, h.1.1, h.1.2.1, h.1.2.2, h.2⟩
   cases hav : g.av x <;> first | rfl | exact (hn1 _ _ _ hav).elim | exact (hn2 _ _ _ hav).elim
 have hne := W.elem _ _ hk
 obtain ⟨ad, cap, e1, hcap, hcell⟩ : ∃ (ad : Option Addr) (cap : Nat), a.eval x = .slice ad d.xs.length cap ∧ d.xs.length ≤ cap ∧
   ∀ (i n : Nat), i + n ≤ d.xs.length → RepV P A (Xof X0 (lookO g.ob) ph) w t (.slice (if cap = i then ad else ad.map (·.add (i * P.cellsOf e))) n (cap - i)) (.slc ((d.xs.drop i).take n)) := by
  have h1c : ∀ v, mkV P t [v] = v := fun v => mkV_one (by rw [hk]; rfl)
  rcases rep_slc_inv hk hr with ⟨p, e1, rfl⟩ | ⟨b, off, cap, xs, css, e1, rfl, g1, g2, g3, g4, g5, g6⟩
  ·refine ⟨p, 0, e1, Nat.le_refl _, fun i n hi => ?_⟩
   simp only [D.xs, List.length_nil, Nat.le_zero, Nat.add_eq_zero_iff] at hi
   obtain ⟨rfl, rfl⟩ := hi
   exact ⟨[.slice p 0 0], .slcN hk, by simp [h1c]⟩
  ·refine ⟨_, cap, e1, g3, fun i n hi => ?_⟩
   simp only [D.xs] at hi ⊢
   have hlen : ((xs.drop i).take n).length = n := by simp; omega
   by_cases hci : cap = i
   ·have hn : n = 0 := by omega
    subst hn
    refine ⟨_, .slc (b := b) (off := off) (cap := cap - i) (xs := (xs.drop i).take 0) (css := css) hk g1 g2 (by simp) (by simp) (by simp) (by simp), by simp [h1c, hci]⟩
   ·refine ⟨_, .slc (b := b) (off := off + i * P.cellsOf e) (cap := cap - i) (xs := (xs.drop i).take n) (css := fun j => css (i + j)) hk g1 g2 (by omega) (fun j hj => g4 _ (by omega)) (fun j hj => ?_) (fun j hj => ?_), ?_⟩
    ·have := g5 (i + j) (by omega)
     rw [Nat.add_mul, ← Nat.add_assoc] at this
     exact this
    ·have := g6 (i + j) (by omega)
     rw [List.getD_eq_getElem?_getD, List.getElem?_take_of_lt (by omega), List.getElem?_drop, ← List.getD_eq_getElem?_getD]
     exact this
    ·rw [h1c, hlen, if_neg hci]
     simp [addr_add]
 have hD : d.len = d.xs.length := rfl
 obtain ⟨uN, huN⟩ : ∃ n : Nat, u.getD d.len = n := ⟨(u.getD d.len).toNat, by omega⟩
 obtain ⟨lN, hlN⟩ : ∃ n : Nat, l.getD 0 = n := ⟨(l.getD 0).toNat, by omega⟩
 rw [huN, hlN] at hK h1
 rw [hlN] at h0
 rw [huN, hD] at h2
 have hsb : (Instr.sliceBounds true d.xs.length cap (lo.map a.eval) (hi.map a.eval) none).run P w = .ok (lN, uN, cap) w := by
  have hh : (match hi.map a.eval with | some v => Instr.sliceBound v cap .sliceAcap | none => pure d.xs.length : Sem Nat).run P w = .ok uN w := by
   cases hi with
   | none => rw [hu2 rfl] at huN; simp only [Option.getD_none, hD, Int.natCast_inj] at huN; simp [huN]
   | some z =>
    obtain ⟨k, m, e2, rfl⟩ := hu1 z rfl
    simp only [Option.getD_some] at huN
    subst huN
    simp only [Option.map_some, Instr.sliceBound, e2, asIntOf, Sem.run_bind, Sem.run_pure, Result.andThen_ok]
    rw [if_pos (by omega)]
    simp
  have hl' : (match lo.map a.eval with | some v => Instr.sliceBound v uN .sliceB | none => pure 0 : Sem Nat).run P w = .ok lN w := by
   cases lo with
   | none => rw [hl2 rfl] at hlN; simp only [Option.getD_none] at hlN; simp; omega
   | some z =>
    obtain ⟨k, m, e2, rfl⟩ := hl1 z rfl
    simp only [Option.getD_some] at hlN
    subst hlN
    simp only [Option.map_some, Instr.sliceBound, e2, asIntOf, Sem.run_bind, Sem.run_pure, Result.andThen_ok]
    rw [if_pos (by omega)]
    simp
  unfold Instr.sliceBounds
  cases hi <;> cases lo <;> simp_all
 refine Does.value (v := .slice (if cap = lN then ad else ad.map (·.add (lN * P.cellsOf e))) (uN - lN) (cap - lN)) (w' := w) ?_ (Out.pure R hK ?_)
 ·simp only [execOp, ho, Instr.sliceAt, Instr.slice, Sem.run_bind, run_underlying (und_slc hk), Result.andThen_ok, e1, Option.map_none, hsb, run_sizeOf hne, Sem.run_pure]
 ·have := hcell lN (uN - lN) (by omega)
  rw [List.take_drop] at this
  have e3 : lN + (uN - lN) = uN := by omega
  rw [e3] at this
  simp only [Int.toNat_natCast]
  exact this

theorem ints_spec (W : WF P) (R : RelA P A X0 Y0 w0 g ph a w) {k : TK} : ∀ (ts : List Nat) (xs : List Operand) (ns : List Int), ints P (lookO g.ob) k ts (xs.map g.av) = some ns → ns ≠ [] →
  ∃ q, k = .int q ∧ xs.map a.eval = ns.map (Value.int q)
 | [], [], ns, h, hn => by simp only [ints, List.map_nil, Option.some.injEq] at h; exact absurd h.symm hn
 | [], x :: xs, ns, h, _ => by simp [ints] at h
 | t :: ts, [], ns, h, _ => by simp [ints] at h
 | t :: ts, x :: xs, ns, h, _ => by
  simp only [ints, List.map_cons, cond_eq] at h
  split at h <;> try contradiction
  rename_i ht
  split at h <;> try contradiction
  rename_i q d r hd hr
  simp only [Option.some.injEq] at h
  subst h
  obtain ⟨n, e, rfl⟩ := slot_int W R (by simpa using ht) hd
  refine ⟨q, rfl, ?_⟩
  rw [List.map_cons, List.map_cons, e]
  by_cases hrn : r = []
  ·subst hrn
   cases ts <;> cases xs <;> simp only [ints, List.map_cons, List.map_nil, reduceCtorEq] at hr
   ·rfl
   ·rw [cond_eq] at hr
    split at hr <;> try contradiction
    split at hr <;> simp at hr
  ·obtain ⟨q', hq, he⟩ := ints_spec W R ts xs r hr hrn
   injection hq with hq
   subst hq
   rw [he]
   rfl

theorem step_minmax {c : Call} {mx : Bool} (W : WF P) (ho : o.op = .call c) (hc : c.callee = .builtin (if mx then .max else .min)) (R : RelA P A X0 Y0 w0 g ph a w)
  (h : match ints P (lookO g.ob) (tk P o.type) c.argTypes.toList (c.args.toList.map g.av) with
   | some (a :: l) => K { v := .imm o.type (.int (foldMM mx a l)) }
   | _ => False) : Does P o a w (Out P A X0 Y0 w0 g a K) := by
 split at h <;> try contradiction
 rename_i n l hn
 obtain ⟨q, hq, he⟩ := ints_spec W R _ _ _ hn (by simp)
 have hfold : ∀ (l : List Int) (n : Int), ((l.map (Value.int q)).foldlM (if mx then Builtin.max2 else Builtin.min2) (Value.int q n)).run P w = .ok (.int q (foldMM mx n l)) w := by
  intro l
  induction l with
  | nil => intro n; simp [foldMM]
  | cons m l ih =>
   intro n
   have h2 : ((if mx then Builtin.max2 else Builtin.min2) (Value.int q n) (Value.int q m)).run P w = .ok (.int q (minmax mx n m)) w := by
    cases mx <;> simp [Builtin.max2, Builtin.min2, minmax]
   simp only [List.map_cons, List.foldlM_cons, Sem.run_bind, h2, Result.andThen_ok, foldMM]
   exact ih _
 have hargs : (c.args.map a.eval).toList = Value.int q n :: l.map (Value.int q) := by simpa using he
 refine Does.value (v := .int q (foldMM mx n l)) (w' := w) ?_ (Out.pure R h (rep_int hq))
 cases mx
 ·simp only [execOp, ho, resolve, hc, Bool.false_eq_true, if_false, Sem.run_bind, Sem.run_pure, Result.andThen_ok, invoke, builtin, Builtin.min_, hargs]
  have := hfold l n
  simp only [Bool.false_eq_true, if_false] at this
  simp [this]
 ·simp only [execOp, ho, resolve, hc, if_true, Sem.run_bind, Sem.run_pure, Result.andThen_ok, invoke, builtin, Builtin.max_, hargs]
  have := hfold l n
  simp only [if_true] at this
  simp [this]

end
end Go.Ab

/- Equality of structs; interfaces again; parts of results. -/
namespace Go.Ab
variable {P : Program} {A : Ann}

theorem run_partAt (W : WF P) {t off : Nat} {cs : List Value} (ht : tk P t ≠ .other) (hl : off + P.cellsOf t ≤ cs.length) (w : World) :
  (part t cs.toArray off).run P w = .ok (mkV P t (seg cs off (P.cellsOf t))) w := by
 unfold part
 simp only [Sem.run_bind, run_isAgg ht, Result.andThen_ok]
 by_cases ha : isAgg (tk P t) = true
 ·simp only [if_pos ha, Sem.run_bind, run_sizeOf ht, Result.andThen_ok, Sem.run_pure, mkV]
  congr 2
  apply Array.ext'
  simp [seg, List.extract_eq_take_drop]
 ·have h1 := W.one t (by simpa using ha) ht
  rw [h1] at hl ⊢
  simp only [if_neg ha]
  have : cs.toArray[off]? = some cs[off] := by simp [show off < cs.length by omega]
  rw [this]
  simp only [Sem.run_pure, mkV, if_neg ha, seg]
  rw [List.drop_eq_getElem_cons (show off < cs.length by omega)]
  rfl

/-- Flat data is compared part by part. -/
theorem run_same (W : WF P) {X X' : Nat → Prop} {w : World} : ∀ (n t : Nat) (cs cs' : List Value) (dx dy : D) (d : Nat), eqT P n t = true → Rep P A X w t cs dx → Rep P A X' w t cs' dy → n ≤ d →
  (Op.equalIn d t (mkV P t cs) (mkV P t cs')).run P w = .ok (D.same n dx dy) w
 | 0, _, _, _, _, _, _, h, _, _, _ => by simp [eqT] at h
 | n + 1, t, cs, cs', dx, dy, d, h, hx, hy, hd => by
  obtain ⟨d, rfl⟩ : ∃ e, d = e + 1 := ⟨d - 1, by omega⟩
  simp only [eqT] at h
  split at h <;> try contradiction
  ·rename_i k hk
   cases hx <;> first | (exfalso; simp_all; done) | skip
   cases hy <;> first | (exfalso; simp_all; done) | skip
   rename_i k1 n1 h1 k2 n2 h2
   rw [hk] at h1 h2
   injection h1 with h1
   injection h2 with h2
   subst h1 h2
   rw [mkV_one (by rw [hk]; rfl), mkV_one (by rw [hk]; rfl), run_equalIn_int w d t _ _ _ _ (und_int hk)]
   simp [D.same, int_beq]
  ·rename_i hk
   cases hx <;> first | (exfalso; simp_all; done) | skip
   cases hy <;> first | (exfalso; simp_all; done) | skip
   rename_i b1 _ b2 _
   rw [mkV_one (by rw [hk]; rfl), mkV_one (by rw [hk]; rfl), run_equalIn_bool w d t _ _ (und_bool hk)]
   simp only [D.same]
   congr 1
  ·rename_i hk
   cases hx <;> first | (exfalso; simp_all; done) | skip
   cases hy <;> first | (exfalso; simp_all; done) | skip
   rename_i s1 _ s2 _
   rw [mkV_one (by rw [hk]; rfl), mkV_one (by rw [hk]; rfl), run_equalIn_string w d t _ _ (und_str hk)]
   simp only [D.same]
   congr 1
   rw [Bool.eq_iff_iff]; simp
  ·rename_i fs hk
   simp only [Bool.and_eq_true, Bool.not_eq_true'] at h
   obtain ⟨⟨⟨hn, hst⟩, _⟩, hall⟩ := h
   obtain ⟨F, hF, hfs⟩ := und_struct hk
   have hFo : P.fieldsOf t = F := by simp [Program.fieldsOf, hF]
   simp only [named, hF, List.all_eq_true] at hn
   cases hx with
   | struct h1 hc hdl hf =>
    cases hy with
    | struct h1' hc' hdl' hf' =>
     rename_i fs1 ds fs2 ds'
     rw [hk] at h1 h1'
     injection h1 with h1
     injection h1' with h1'
     subst h1 h1'
     have ha : isAgg (tk P t) = true := by rw [hk]; rfl
     simp only [mkV, if_pos ha]
     rw [run_equalIn_struct w d t _ _ (by rw [hFo]; exact hF) hst, hFo]
     have main : ∀ (l : List Field) (i : Nat) (es es' : List D), (∀ f ∈ l, f.name ≠ "_") → (∀ j f, l[j]? = some f → fs[i + j]? = some (f.type, f.offset) ∧ eqT P n f.type = true) → es.length = l.length → es'.length = l.length →
       (∀ j, j < l.length → es.getD j .und = ds.getD (i + j) .und ∧ es'.getD j .und = ds'.getD (i + j) .und) → (Op.eqFields d cs.toArray cs'.toArray l).run P w = .ok (D.same.sames n es es') w := by
      intro l
      induction l with
      | nil =>
       intro i es es' _ _ h3 h4 _
       rw [List.length_eq_zero_iff.1 h3, List.length_eq_zero_iff.1 h4]
       simp [Op.eqFields, D.same.sames]
      | cons f l ih =>
       intro i es es' h1 h2 h3 h4 h5
       obtain ⟨a, es, rfl⟩ : ∃ a r, es = a :: r := by cases es with
        | nil => simp at h3
        | cons a r => exact ⟨a, r, rfl⟩
       obtain ⟨b, es', rfl⟩ : ∃ a r, es' = a :: r := by cases es' with
        | nil => simp at h4
        | cons a r => exact ⟨a, r, rfl⟩
       obtain ⟨hj, he⟩ := h2 0 f rfl
       obtain ⟨g1, g2⟩ := W.struct _ _ hk _ _ _ hj
       have ra := hf _ _ _ hj
       have rb := hf' _ _ _ hj
       have e5 := h5 0 (by simp)
       simp only [List.getD_cons_zero, Nat.add_zero] at e5
       simp only [Nat.add_zero] at ra rb
       rw [← e5.1] at ra
       rw [← e5.2] at rb
       have hs := run_same W n _ _ _ _ _ d he ra rb (by omega)
       simp only [Op.eqFields, if_pos (h1 f (by simp)), Sem.run_bind, run_partAt W g2 (by rw [hc]; exact g1), run_partAt W g2 (by rw [hc']; exact g1), Result.andThen_ok, hs, D.same.sames]
       cases hsa : D.same n a b
       ·simp
       ·simp only [Bool.not_true, Bool.false_eq_true, if_false, Bool.true_and]
        refine ih (i + 1) es es' (fun f hf => h1 f (List.mem_cons_of_mem _ hf)) (fun j f hj => ?_) (by simpa using h3) (by simpa using h4) fun j hj => ?_
        ·have := h2 (j + 1) f (by simpa using hj)
         rw [show i + 1 + j = i + (j + 1) by omega]
         exact this
        ·have := h5 (j + 1) (by simpa using hj)
         rw [show i + 1 + j = i + (j + 1) by omega]
         simpa using this
     have hlen : fs.length = F.toList.length := by rw [hfs]; simp
     simp only [D.same]
     refine main F.toList 0 ds ds' (fun f hf => by simpa using hn f hf) (fun j f hj => ?_) (by omega) (by omega) (fun j _ => by simp)
     have : fs[0 + j]? = some (f.type, f.offset) := by rw [hfs, Nat.zero_add, List.getElem?_map, hj]; rfl
     refine ⟨this, ?_⟩
     have := List.all_eq_true.1 hall _ (List.mem_of_getElem? this)
     exact this
    | _ => simp_all
   | _ => simp_all

section
variable {X0 Y0 : Nat → Prop} {w0 : World} {g : St} {ph : Nat → Ph} {a : Act} {w : World} {o : Oper} {K : Dl → Prop}

theorem step_structEq {op : BinOp} {tx ty : Nat} {x y : Operand} {fs : List (Nat × Nat)} (W : WF P) (ho : o.op = .binOp op tx x y ty) (R : RelA P A X0 Y0 w0 g ph a w) (hk : tk P tx = .struct fs) (hq : eqT P 8 tx = true) (hB : isB P P.rt.bool = true)
  (h : match St.data P (lookO g.ob) tx (g.av x), St.data P (lookO g.ob) tx (g.av y) with
  | some a, some b => match (generalizing := false) op with
   | .eql => onV K (.imm P.rt.bool (.bool (D.same 8 a b)))
   | .neq => onV K (.imm P.rt.bool (.bool (!D.same 8 a b)))
   | _ => False
  | _, _ => False) : Does P o a w (Out P A X0 Y0 w0 g a K) := by
 split at h <;> try contradiction
 rename_i dx dy hx hy
 obtain ⟨X1, _, cs, hr, e1⟩ := slot_rep W R hx
 obtain ⟨X2, _, cs', hr', e2⟩ := slot_rep W R hy
 have hs := run_same W 8 tx cs cs' dx dy 10000 hq hr hr' (by omega)
 have hg : P.eqGuardType P.depth tx = false := by
  simp only [eqT, hk, Bool.and_eq_true, Bool.not_eq_true'] at hq
  exact hq.1.2
 have ha : isAgg (tk P tx) = true := by rw [hk]; rfl
 simp only [mkV, if_pos ha] at e1 e2 hs
 cases op <;> try exact (show False from h).elim
 ·refine Does.value (v := .bool (D.same 8 dx dy)) (w' := w) ?_ (Out.pure R h (rep_bool (isB_eq hB)))
  simp only [execOp, ho, e1, e2, Sem.run_bind, run_eqGuard_agg w .eql tx x y _ _ hg, Result.andThen_ok, run_eql_struct, hs, Sem.run_pure]
 ·refine Does.value (v := .bool (!D.same 8 dx dy)) (w' := w) ?_ (Out.pure R h (rep_bool (isB_eq hB)))
  simp only [execOp, ho, e1, e2, Sem.run_bind, run_eqGuard_agg w .neq tx x y _ _ hg, Result.andThen_ok, run_neq_struct, hs, Sem.run_pure]

/-- TWO OPERANDS. -/
theorem step_binOp {op : BinOp} {tx ty : Nat} {x y : Operand} (W : WF P) (ho : o.op = .binOp op tx x y ty) (R : RelA P A X0 Y0 w0 g ph a w) (h : binD P (lookO g.ob) op tx ty o.type (g.av x) (g.av y) (onV K)) :
  Does P o a w (Out P A X0 Y0 w0 g a K) := by
 unfold binD at h
 split at h <;> try contradiction
 ·rename_i k hk
  rw [cond_eq] at h
  split at h <;> try contradiction
  rename_i hr
  split at h <;> try contradiction
  rename_i dx hx
  by_cases hs : op = .shl ∨ op = .shr
  ·have h' : match tk P ty with
     | .int _ => match St.data P (lookO g.ob) ty (g.av y) with
      | some b => shOp op k dx.i b.i fun d => onV K (.imm (resT P op o.type) d)
      | none => False
     | _ => False := by
    rcases hs with rfl | rfl <;> exact h
   split at h' <;> try contradiction
   rename_i k' hk'
   split at h' <;> try contradiction
   rename_i dy hy
   exact step_shift W ho R hk hk' hs hr hx hy h'
  ·have hs' : op ≠ .shl ∧ op ≠ .shr := ⟨fun e => hs (.inl e), fun e => hs (.inr e)⟩
   have h' : match St.data P (lookO g.ob) tx (g.av y) with
     | some b => intOp op k dx.i b.i fun d => onV K (.imm (resT P op o.type) d)
     | none => False := by
    cases op <;> first | exact h | exact absurd rfl hs'.1 | exact absurd rfl hs'.2
   split at h' <;> try contradiction
   rename_i dy hy
   exact step_int W ho R hk hs' hr hx hy h'
 ·rename_i hk
  rw [cond_eq] at h
  split at h <;> try contradiction
  rename_i hB
  exact step_bool W ho R hk hB h
 ·rename_i e hk
  rw [cond_eq] at h
  split at h <;> try contradiction
  rename_i hB
  exact step_nilEq W ho R hk hB h
 ·rename_i fs hk
  rw [cond_eq] at h
  split at h <;> try contradiction
  rename_i hB
  simp only [Bool.and_eq_true] at hB
  exact step_structEq W ho R hk hB.1 hB.2 h

end
end Go.Ab

/- New memory. -/
namespace Go.Ab
variable {P : Program} {A : Ann}

def upPh (ph : Nat → Ph) (k : Nat) (p : Ph) : Nat → Ph := fun j => if j = k then p else ph j

section
variable {X0 Y0 : Nat → Prop} {w0 : World} {g : St} {ph : Nat → Ph} {a : Act} {w : World} {o : Oper} {K : Dl → Prop}

/-- An object outlasts what only adds. -/
theorem OkObj.frame {X X' : Nat → Prop} {w w' : World} {x : Obj} {p : Ph} (hs : w.heap.size ≤ w'.heap.size) (hX : ∀ b, b < w.heap.size → X' b → X b) (hk : ∀ b, b < w.heap.size → ¬ X b → w'.heap[b]? = w.heap[b]?)
  (h : OkObj P A X w x p) (hF : ∀ b ∈ p.F, w'.heap[b]? = w.heap[b]?) : OkObj P A X' w' x p :=
 ⟨h.own.frame hs hX hk fun b hb => hF b (by simp [Ph.F, Ph.S, hb]), fun hb => by
  obtain ⟨b, E, c, h1, h2, h3⟩ := h.box hb
  exact ⟨b, E, c, h1, (hF b (by simp [Ph.F, h1])).trans h2, h3⟩, h.hdr, h.nodup, fun b hb => Nat.lt_of_lt_of_le (h.lt b hb) hs⟩

/-- New memory; what is consumed moves into it. -/
theorem RelD.fresh (R : RelA P A X0 Y0 w0 g ph a w) {dst : Nat} {x : Obj} {cons : Nat → Prop} {p : Ph} {w' : World} {v : AV} {val : Value} {os : Objs} (hw : Keeps (fun _ => False) w w')
  (h1 : upO os (lookO g.ob) dst = some x) (h2 : ∀ k, k ≠ dst → cons k → upO os (lookO g.ob) k = none) (h3 : ∀ k, k ≠ dst → ¬ cons k → upO os (lookO g.ob) k = lookO g.ob k)
  (hp : ∀ b ∈ p.F, w.heap.size ≤ b ∨ ∃ c y, cons c ∧ lookO g.ob c = some y ∧ b ∈ (ph c).F)
  (hok : (∀ b, b < w.heap.size → Xof X0 (upO os (lookO g.ob)) (upPh ph dst p) b → Xof X0 (lookO g.ob) ph b) → OkObj P A (Xof X0 (upO os (lookO g.ob)) (upPh ph dst p)) w' x p)
  (hv : (∀ b, b < w.heap.size → Xof X0 (upO os (lookO g.ob)) (upPh ph dst p) b → Xof X0 (lookO g.ob) ph b) → AVR P A (Xof X0 (upO os (lookO g.ob)) (upPh ph dst p)) w' (upO os (lookO g.ob)) (upPh ph dst p) v val) :
  RelD P A X0 Y0 w0 (look g.sl) (lookO g.ob) a.tmps { v, os, ks := [(dst, .all)] } val w' := by
 have hh : ∀ b, b < w.heap.size → w'.heap[b]? = w.heap[b]? := fun b hb => hw.block b hb id
 have hn0 : w0.heap.size ≤ w.heap.size := R.keeps.size
 have hob : ∀ k y, k ≠ dst → upO os (lookO g.ob) k = some y → lookO g.ob k = some y ∧ ¬ cons k := by
  intro k y hk hy
  by_cases hc : cons k
  ·rw [h2 k hk hc] at hy; cases hy
  ·exact ⟨by rw [← h3 k hk hc]; exact hy, hc⟩
 have hX : ∀ b, b < w.heap.size → Xof X0 (upO os (lookO g.ob)) (upPh ph dst p) b → Xof X0 (lookO g.ob) ph b := by
  rintro b hb (h | ⟨k, y, hy, hm⟩)
  ·exact .inl h
  ·by_cases hk : k = dst
   ·subst hk
    simp only [upPh, if_true] at hm
    rcases hp b hm with h | ⟨c, z, _, hz, hm⟩
    ·omega
    ·exact .inr ⟨c, z, hz, hm⟩
   ·simp only [upPh, if_neg hk] at hm
    exact .inr ⟨k, y, (hob k y hk hy).1, hm⟩
 have hO := R.objs
 refine ⟨upPh ph dst p, ⟨fun k y hy => ?_, fun k y k' y' hy hy' hkk b hb hb' => ?_, fun k y hy b hb hx => ?_, fun k y hy b hb => ?_, hO.old⟩, fun s => ?_, hv hX, R.keeps.trans hw (fun _ h => h) (fun _ _ h => h.elim)⟩
 ·by_cases hk : k = dst
  ·subst hk
   rw [h1] at hy
   injection hy with hy
   subst hy
   simp only [upPh, if_true]
   exact hok hX
  ·simp only [upPh, if_neg hk]
   have h0 := hO.ok k y (hob k y hk hy).1
   exact h0.frame hw.size hX (fun b hb _ => hh b hb) fun b hb => hh b (h0.lt b hb)
 ·have key : ∀ k y b, k ≠ dst → upO os (lookO g.ob) k = some y → b ∈ (ph k).F → b ∈ p.F → False := by
   intro k y b hk hy hb hb'
   obtain ⟨e1, e2⟩ := hob k y hk hy
   rcases hp b hb' with h | ⟨c, z, hc, hz, hm⟩
   ·have := (hO.ok k y e1).lt b hb; omega
   ·exact hO.apart k y c z e1 hz (fun e => e2 (e ▸ hc)) b hb hm
  by_cases hk : k = dst
  ·have hk' : k' ≠ dst := fun e => hkk (hk.trans e.symm)
   simp only [upPh, if_pos hk, if_neg hk'] at hb hb'
   exact key k' y' b hk' hy' hb' hb
  ·by_cases hk' : k' = dst
   ·simp only [upPh, if_neg hk, if_pos hk'] at hb hb'
    exact key k y b hk hy hb hb'
   ·simp only [upPh, if_neg hk, if_neg hk'] at hb hb'
    exact hO.apart k y k' y' (hob k y hk hy).1 (hob k' y' hk' hy').1 hkk b hb hb'
 ·by_cases hk : k = dst
  ·simp only [upPh, if_pos hk] at hb
   rcases hp b hb with h | ⟨c, z, _, hz, hm⟩
   ·have := hO.old b hx; omega
   ·exact hO.free c z hz b hm hx
  ·simp only [upPh, if_neg hk] at hb
   exact hO.free k y (hob k y hk hy).1 b hb hx
 ·by_cases hk : k = dst
  ·simp only [upPh, if_pos hk] at hb
   rcases hp b hb with h | ⟨c, z, _, hz, hm⟩
   ·exact .inr (by omega)
   ·exact hO.ours c z hz b hm
  ·simp only [upPh, if_neg hk] at hb
   exact hO.ours k y (hob k y hk hy).1 b hb
 ·refine AVR.stays hw.size hX (fun b hb _ => hh b hb) (by simp [KM.isApp]) (fun k y hy => ?_) (fun k y y' hy hy' hks _ _ b hb => ?_) (R.slots s)
  ·by_cases hk : k = dst
   ·exact .all (by simp [hk])
   ·obtain ⟨e1, e2⟩ := hob k y hk hy
    exact .same (h3 k hk e2) (by simp [upPh, hk]) fun b hb => hh b ((hO.ok k y e1).lt b hb)
  ·have hk : k ≠ dst := fun e => hks (by simp [e])
   simp only [upPh, if_neg hk]
   exact fun h => ⟨hX b hb h.1, h.2⟩

end
end Go.Ab

/- What is taken for good. -/
namespace Go.Ab
variable {P : Program} {A : Ann}

/-- The tree of a value that is taken; a nil slice is owned as one wishes. -/
def Taken (P : Program) (A : Ann) (X : Nat → Prop) (w : World) (sv : Option Sh) (t : Nat) (cs : List Value) (d : D) (L : Lt) : Prop :=
 match sv with
 | some s => Own P A X w L s t cs d
 | none => L = .nil ∧ cs = [.slice none 0 0] ∧ d = .slc [] ∧ ∃ e, tk P t = .slc e

theorem Taken.own {X : Nat → Prop} {w : World} {sv : Option Sh} {t : Nat} {cs : List Value} {d : D} {L : Lt} (h : Taken P A X w sv t cs d L) (s : Sh) (hs : sv = none → s = .imm ∨ ∃ u, s = .slc u none) (hs' : ∀ u, sv = some u → s = u) :
  ∃ L', Own P A X w L' s t cs d ∧ L'.blocks = L.blocks := by
 cases sv with
 | some u => obtain rfl := hs' u rfl; exact ⟨L, h, rfl⟩
 | none =>
  obtain ⟨rfl, rfl, rfl, e, he⟩ := h
  rcases hs rfl with rfl | ⟨u, rfl⟩
  ·exact ⟨.leaf, .imm (.slcN he), rfl⟩
  ·exact ⟨.nil, .nil he, rfl⟩

theorem Taken.length (W : WF P) {X : Nat → Prop} {w : World} {sv : Option Sh} {t : Nat} {cs : List Value} {d : D} {L : Lt} (h : Taken P A X w sv t cs d L) : cs.length = P.cellsOf t := by
 cases sv with
 | some u => exact Own.length W h
 | none => obtain ⟨_, rfl, _, e, he⟩ := h; exact (W.one' he rfl (by simp)).symm

theorem Taken.frame {X X' : Nat → Prop} {w w' : World} (hs : w.heap.size ≤ w'.heap.size) (hX : ∀ b, b < w.heap.size → X' b → X b) (hk : ∀ b, b < w.heap.size → ¬ X b → w'.heap[b]? = w.heap[b]?)
  {sv : Option Sh} {t : Nat} {cs : List Value} {d : D} {L : Lt} (h : Taken P A X w sv t cs d L) (hB : ∀ b ∈ L.blocks, w'.heap[b]? = w.heap[b]?) : Taken P A X' w' sv t cs d L := by
 cases sv with
 | some u => exact Own.frame hs hX hk h hB
 | none => exact h

section
variable {X0 Y0 : Nat → Prop} {w0 : World} {ob : Nat → Option Obj} {ph : Nat → Ph} {w : World}

theorem Rep.taken {X : Nat → Prop} {t : Nat} {v : Value} {d : D} (h : RepV P A X w t v d) : ∃ cs L, v = mkV P t cs ∧ Taken P A X w (some .imm) t cs d L ∧ L.blocks = [] := by
 obtain ⟨cs, hr, hv⟩ := h
 exact ⟨cs, .leaf, hv, Own.imm hr, rfl⟩

/-- What a slot's value is, when it is taken. -/
def TakenAt (P : Program) (A : Ann) (X : Nat → Prop) (ob : Nat → Option Obj) (ph : Nat → Ph) (w : World) (sv : Option Sh) (t : Nat) (v : Value) (d : D) (os : Objs) : Prop :=
 ∃ cs L, v = mkV P t cs ∧ Taken P A X w sv t cs d L ∧ L.blocks.Nodup ∧ sv ≠ some .gone ∧ ((os = [] ∧ L.blocks = []) ∨ ∃ o x, os = [(o, none)] ∧ ob o = some x ∧ x.box = false ∧ ∀ b ∈ L.blocks, b ∈ (ph o).F)

theorem Own.kind (W : WF P) {X : Nat → Prop} {L : Lt} {s : Sh} {t u : Nat} {cs : List Value} {d : D} (h : Own P A X w L s t cs d) (e : tk P t = tk P u) (hs : s ≠ .gone) : Own P A X w L s u cs d := by
 cases h with
 | imm h => exact .imm (h.kind W.kind e)
 | nil h => exact .nil (e ▸ h)
 | slc h a b c d f => exact .slc (e ▸ h) a b c d f
 | agg h a b c d => exact .agg (e ▸ h) (by rw [a]; exact W.kind _ _ e (by rw [h]; simp)) b c d
 | gone => exact absurd rfl hs
 | mp h a b c d f g i j => exact .mp (e ▸ h) a b c d f g i j
 | it h a => exact .it (e ▸ h) a

/-- WHAT IS TAKEN: a value's cells, its tree, and which object it was. -/
theorem takeV_spec (W : WF P) (hO : Objs' P A X0 Y0 w0.heap.size ob ph w) {t : Nat} {av : AV} {v : Value} {sv : Option Sh} {d : D} {os : Objs} (h : AVR1 P A (Xof X0 ob ph) w ob ph av v) (ht : takeV P ob t av = some (sv, d, os)) :
  TakenAt P A (Xof X0 ob ph) ob ph w sv t v d os := by
 have imm : ∀ d', RepV P A (Xof X0 ob ph) w t v d' → sv = some .imm → d = d' → os = [] → TakenAt P A (Xof X0 ob ph) ob ph w sv t v d os := fun d' hr e1 e2 e3 => by
  obtain ⟨cs, L, a1, a2, a3⟩ := Rep.taken hr
  subst e1 e2 e3
  exact ⟨cs, L, a1, a2, by rw [a3]; exact List.nodup_nil, by simp, .inl ⟨rfl, a3⟩⟩
 have nil : ∀ e, tk P t = .slc e → v = .slice none 0 0 → sv = none → d = .slc [] → os = [] → TakenAt P A (Xof X0 ob ph) ob ph w sv t v d os := by
  intro e he hv e1 e2 e3
  subst e1 e2 e3
  exact ⟨_, .nil, by rw [mkV_one (by rw [he]; rfl)]; exact hv, ⟨rfl, rfl, rfl, e, he⟩, by simp [Lt.blocks], by simp, .inl ⟨rfl, rfl⟩⟩
 cases av with
 | val o p u =>
  cases p with
  | nil =>
   simp only [takeV, cond_eq] at ht
   split at ht <;> try contradiction
   rename_i hk
   split at ht <;> try contradiction
   rename_i x hx
   split at ht <;> try contradiction
   rename_i hb
   simp only [Bool.or_eq_true, not_or, Bool.not_eq_true] at hb
   have hg : x.sh ≠ .gone := fun e => by have := hb.2; rw [e] at this; cases this
   simp only [Option.some.injEq, Prod.mk.injEq] at ht
   obtain ⟨rfl, rfl, rfl⟩ := ht
   have ho := hO.ok o x hx
   obtain ⟨g1, g2⟩ := h x hx
   have hit : x.sh ≠ .it := fun e => by obtain ⟨m, hm, _⟩ := g1 e; cases hm
   obtain ⟨u', a1, a2, a3⟩ := g2 hit
   simp only [tyAt, Option.some.injEq] at a1
   subst a1
   have hkk : tk P x.t = tk P t := a2.trans (sameK_eq hk).symm
   have hvv : v = mkV P t (ph o).cs := by
    rw [← mkV_kind hkk]
    rcases a3 with a3 | ⟨_, _, a3⟩
    ·obtain ⟨e1, e2⟩ := ho.own.header a3
     rw [e1, mkV_one e2]
    ·exact a3
   have hown : Own P A (Xof X0 ob ph) w (ph o).L x.sh t (ph o).cs x.d := ho.own.kind W hkk hg
   refine ⟨_, _, hvv, hown, ?_, by simpa using hg, ?_⟩
   ·have := ho.nodup
    simp only [Ph.F, Ph.S, List.nodup_append] at this
    exact this.2.1.1
   ·by_cases hi : x.sh.isImm = true
    ·left
     rw [if_pos hi]
     refine ⟨rfl, ?_⟩
     have := hown
     rw [isImm_iff.1 hi] at this
     rw [this.leaf_of_imm.1]
     rfl
    ·right
     rw [if_neg hi]
     exact ⟨o, x, rfl, hx, hb.1, fun b hb => by simp [Ph.F, Ph.S, hb]⟩
  | cons y p =>
   simp only [takeV, cond_eq] at ht
   split at ht <;> try contradiction
   rename_i hk
   split at ht <;> try contradiction
   rename_i x hx
   split at ht <;> try contradiction
   rename_i hs
   simp only [Option.some.injEq, Prod.mk.injEq] at ht
   obtain ⟨rfl, rfl, rfl⟩ := ht
   exact imm _ (RepV.kind W (val_imm W (hO.ok o x hx) hx h hs) (sameK_eq hk).symm) rfl rfl rfl
 | nils u =>
  simp only [takeV, cond_eq] at ht
  split at ht <;> try contradiction
  rename_i hk
  simp only [Option.some.injEq, Prod.mk.injEq] at ht
  obtain ⟨rfl, rfl, rfl⟩ := ht
  obtain ⟨hv, e, he⟩ := h
  exact nil e ((sameK_eq hk).trans he) hv rfl rfl rfl
 | imm u d' =>
  simp only [takeV, cond_eq] at ht
  split at ht <;> try contradiction
  rename_i hk
  simp only [Option.some.injEq, Prod.mk.injEq] at ht
  obtain ⟨rfl, rfl, rfl⟩ := ht
  exact imm _ (RepV.kind W h (sameK_eq hk).symm) rfl rfl rfl
 | con c =>
  have hv : v = c := h
  subst hv
  have con : ∀ d', conD P t v = some d' → some (some Sh.imm, d', ([] : Objs)) = some (sv, d, os) → TakenAt P A (Xof X0 ob ph) ob ph w sv t v d os := fun d' hc e => by
   simp only [Option.some.injEq, Prod.mk.injEq] at e
   exact imm d' (conD_rep hc) e.1.symm e.2.1.symm e.2.2.symm
  unfold takeV at ht
  split at ht <;> try contradiction
  ·split at ht <;> try contradiction
   rename_i e hk
   simp only [Option.some.injEq, Prod.mk.injEq] at ht
   obtain ⟨rfl, rfl, rfl⟩ := ht
   rename_i hc _
   injection hc with hc
   exact nil e hk hc rfl rfl rfl
  ·rename_i c' _ hc
   injection hc with hc
   subst hc
   split at ht <;> try contradiction
   rename_i d' hd
   exact con d' hd ht
 | _ => simp [takeV] at ht

end
end Go.Ab

/- Zero values; new variables. -/
namespace Go.Ab
variable {P : Program} {A : Ann}

theorem size_zero {s : ByteArray} (h : s.size = 0) : s = ByteArray.empty := by
 obtain ⟨⟨l⟩⟩ := s
 simp [ByteArray.size] at h
 subst h
 rfl

/-- A type's zero is its data. -/
theorem zero_rep {X : Nat → Prop} {w : World} : ∀ (n t : Nat) (cs : List Value), zOk P n t cs = true → Rep P A X w t cs (zD P n t)
 | 0, _, _, h => by simp [zOk] at h
 | n + 1, t, cs, h => by
  simp only [zOk] at h
  simp only [zD]
  split at h <;> rename_i hk <;> simp only [hk]
  ·split at h <;> try contradiction
   simp only [Bool.and_eq_true, decide_eq_true_eq] at h
   obtain ⟨rfl, rfl⟩ := h
   exact .int hk
  ·split at h <;> try contradiction
   exact .bool hk
  ·split at h <;> try contradiction
   rw [size_zero (beq_iff.1 h)]
   exact .str hk
  ·split at h <;> try contradiction
   exact .slcN hk
  ·simp only [Bool.and_eq_true, beq_iff, List.all_eq_true] at h
   refine .struct hk h.1 (by simp) fun j ft o hj => ?_
   rename_i fs
   have := zero_rep (X := X) (w := w) n _ _ (h.2 _ (List.mem_of_getElem? hj))
   rw [List.getD_eq_getElem?_getD, List.getElem?_map, hj]
   exact this
  ·simp only [Bool.and_eq_true, beq_iff, List.all_eq_true] at h
   refine .arr hk h.1 (by simp) fun j hj => ?_
   have := zero_rep (X := X) (w := w) n _ _ (h.2 j (by simpa using hj))
   rw [List.getD_eq_getElem?_getD, List.getElem?_replicate, if_pos hj]
   exact this
  ·split at h <;> try contradiction
   exact .ptrN hk
  ·split at h <;> try contradiction
   exact .fnN hk
  ·split at h <;> try contradiction
   exact .ifcN hk
  ·split at h <;> try contradiction
   exact .mapN hk
  ·cases h

/-- The shape of a field of a zero. -/
theorem fld_zSh {n t : Nat} {fs : List (Nat × Nat)} (hk : tk P t = .struct fs) {j ft o : Nat} (hj : fs[j]? = some (ft, o)) {u : Sh} (hu : (zSh P (n + 1) t).fld j = some u) : u = zSh P n ft := by
 simp only [zSh, hk, fld_mkAgg, Option.some.injEq] at hu
 have hl := (List.getElem?_eq_some_iff.1 hj).1
 have hgen : ∀ (l : List (Nat × Nat)) (k j ft o : Nat), l[j]? = some (ft, o) → fldL (((l.zipIdx k).map fun x => (x.2, zSh P n x.1.1)).filter fun x => !x.2.isImm) (k + j) = zSh P n ft := by
  intro l
  induction l with
  | nil => intro k j ft o h; simp at h
  | cons x l ih =>
   intro k j ft o h
   cases j with
   | zero =>
    simp only [List.getElem?_cons_zero, Option.some.injEq] at h
    subst h
    simp only [List.zipIdx_cons, List.map_cons, List.filter_cons]
    split
    ·simp [fldL_cons]
    ·rename_i hi
     have hi' : zSh P n ft = .imm := isImm_iff.1 (by simpa using hi)
     rw [hi']
     have hno : ∀ (l : List (Nat × Nat)) (m : Nat), k < m → fldL (((l.zipIdx m).map fun x => (x.2, zSh P n x.1.1)).filter fun x => !x.2.isImm) (k + 0) = .imm := by
      intro l
      induction l with
      | nil => intro m _; rfl
      | cons y l ih2 =>
       intro m hm
       simp only [List.zipIdx_cons, List.map_cons, List.filter_cons]
       split
       ·rw [fldL_cons, if_neg (by simp; omega)]
        exact ih2 (m + 1) (by omega)
       ·exact ih2 (m + 1) (by omega)
     exact hno l (k + 1) (by omega)
   | succ j =>
    simp only [List.getElem?_cons_succ] at h
    have := ih (k + 1) j ft o h
    rw [show k + 1 + j = k + (j + 1) by omega] at this
    simp only [List.zipIdx_cons, List.map_cons, List.filter_cons]
    split
    ·rw [fldL_cons, if_neg (by simp)]
     exact this
    ·exact this
 have := hgen fs 0 j ft o hj
 rw [Nat.zero_add] at this
 rw [← hu]
 exact this

/-- A zero may be owned: its slices are nil. -/
theorem zero_own (W : WF P) {X : Nat → Prop} {w : World} : ∀ (m n t : Nat) (cs : List Value), zOk P n t cs = true → ∃ L, Own P A X w L (zSh P m t) t cs (zD P n t) ∧ L.blocks = []
 | 0, n, t, cs, h => ⟨.leaf, .imm (zero_rep n t cs h), rfl⟩
 | m + 1, 0, t, cs, h => by simp [zOk] at h
 | m + 1, n + 1, t, cs, h => by
  have hr := zero_rep (A := A) (X := X) (w := w) (n + 1) t cs h
  cases hk : tk P t with
  | slc e =>
   simp only [zOk, hk] at h
   simp only [zSh, zD, hk]
   split at h <;> try contradiction
   exact ⟨.nil, .nil hk, rfl⟩
  | struct fs =>
   simp only [zOk, hk, Bool.and_eq_true, beq_iff, List.all_eq_true] at h
   have hfl : ∀ j, ∃ u, (zSh P (m + 1) t).fld j = some u := fun j => by simp only [zSh, hk, fld_mkAgg]; exact ⟨_, rfl⟩
   have hall : ∀ j, j < fs.length → ∃ L, (∀ ft o, fs[j]? = some (ft, o) → Own P A X w L (zSh P m ft) ft (seg cs o (P.cellsOf ft)) (zD P n ft)) ∧ L.blocks = [] := by
    intro j hj
    have hj' : fs[j]? = some (fs[j].1, fs[j].2) := by simp [List.getElem?_eq_getElem hj]
    obtain ⟨L, h1, h2⟩ := zero_own W m n _ _ (h.2 _ (List.mem_of_getElem? hj'))
    refine ⟨L, fun ft o hf => ?_, h2⟩
    rw [hj'] at hf
    injection hf with hf
    injection hf with e1 e2
    subst e1 e2
    exact h1
   obtain ⟨Ls, hLl, hLs⟩ := list_choice Lt.leaf fs.length hall
   obtain ⟨L, g1, _, g3, _⟩ := own_of_fields (A := A) (X := X) (w := w) (s := zSh P (m + 1) t) (cs := cs) (ds := fs.map fun x => zD P n x.1) hk hfl h.1 (by simp) (fun j => Ls.getD j .leaf) fun j ft o hj u hu => by
    have hl := (List.getElem?_eq_some_iff.1 hj).1
    have hd : (List.map (fun x => zD P n x.fst) fs).getD j D.und = zD P n ft := by rw [List.getD_eq_getElem?_getD, List.getElem?_map, hj]; rfl
    rw [fld_zSh hk hj hu, hd]
    exact (hLs j hl).1 ft o hj
   refine ⟨L, by simp only [zD, hk]; exact g1, ?_⟩
   apply List.eq_nil_iff_forall_not_mem.2
   intro b hb
   obtain ⟨j, hj, hb⟩ := g3 b hb
   rw [(hLs j hj).2] at hb
   cases hb
  | _ => simp only [zSh, hk]; exact ⟨.leaf, .imm hr, rfl⟩

end Go.Ab

/- New variables. -/
namespace Go.Ab
variable {P : Program} {A : Ann}

theorem rep_cells {X : Nat → Prop} {w : World} {t : Nat} {cs : List Value} {d : D} (h : Rep P A X w t cs d) : (mkV P t cs).cells.toList = cs := by
 by_cases ha : isAgg (tk P t) = true
 ·rw [mkV, if_pos ha]; rfl
 ·cases h <;> first | (rw [mkV_one (by simpa using ha)]; rfl) | (exfalso; simp_all [isAgg]; done)

theorem own_cells {X : Nat → Prop} {w : World} {L : Lt} {s : Sh} {t : Nat} {cs : List Value} {d : D} (h : Own P A X w L s t cs d) (hg : s ≠ .gone) : (mkV P t cs).cells.toList = cs := by
 by_cases ha : isAgg (tk P t) = true
 ·rw [mkV, if_pos ha]; rfl
 ·cases h with
  | imm h => exact rep_cells h
  | gone => exact absurd rfl hg
  | agg h => rw [h] at ha; exact absurd rfl ha
  | _ => rw [mkV_one (by simpa using ha)]; rfl

section
variable {X0 Y0 : Nat → Prop} {w0 : World} {g : St} {ph : Nat → Ph} {a : Act} {w : World} {o : Oper} {K : Dl → Prop}

/-- The world with a row more. -/
def addRow (w : World) (cs : Array Value) (E : TypeId) : World := { w with heap := w.heap.push (.cells cs E (0, 0)) }
theorem addRow_keeps (w : World) (cs : Array Value) (E : TypeId) : Keeps (fun _ => False) w (addRow w cs E) :=
 ⟨rfl, rfl, rfl, by simp [addRow], fun b hb _ => by simp only [addRow, Array.getElem?_push]; rw [if_neg (by omega)]⟩
theorem addRow_here (w : World) (cs : Array Value) (E : TypeId) : (addRow w cs E).heap[w.heap.size]? = some (.cells cs E (0, 0)) := by simp only [addRow, Array.getElem?_push, if_true]
theorem addRow_size (w : World) (cs : Array Value) (E : TypeId) : (addRow w cs E).heap.size = w.heap.size + 1 := by simp [addRow]

theorem upO_new {dst : Nat} {x : Option Obj} {os : Objs} {ob : Nat → Option Obj} (k : Nat) : upO ((dst, x) :: os) ob k = if k = dst then x else upO os ob k := by
 simp only [upO, findO]
 by_cases h : dst = k
 ·rw [if_pos h, if_pos h.symm]; rfl
 ·rw [if_neg h, if_neg (fun e => h e.symm)]

/-- What is consumed by a taking. -/
def ate (os : Objs) (k : Nat) : Prop := findO os k = some none

theorem newBox (R : RelA P A X0 Y0 w0 g ph a w) {dst t : Nat} {cs : List Value} {L : Lt} {s : Sh} {d : D} {os : Objs} (hO : Own P A (Xof X0 (lookO g.ob) ph) w L s t cs d) (hn : L.blocks.Nodup)
  (hos : ∀ k, findO os k = none ∨ findO os k = some none) (hb : ∀ b ∈ L.blocks, ∃ c y, ate os c ∧ lookO g.ob c = some y ∧ b ∈ (ph c).F) :
  RelD P A X0 Y0 w0 (look g.sl) (lookO g.ob) a.tmps (newO (lookO g.ob) dst (.ptr dst [] t) ⟨true, t, s, d⟩ os) (.pointer (some ⟨w.heap.size, 0, none⟩)) (addRow w cs.toArray t) := by
 have hlt : ∀ b ∈ L.blocks, b < w.heap.size := fun b hm => by
  obtain ⟨c, y, _, hy, hm⟩ := hb b hm
  exact (ob_ok R hy).lt b hm
 refine RelD.fresh (cons := ate os) (p := ⟨cs, some w.heap.size, L, []⟩) (x := ⟨true, t, s, d⟩) R (addRow_keeps w _ _) ?_ ?_ ?_ ?_ ?_ ?_
 ·rw [upO_new, if_pos rfl]
 ·intro k hk hc
  rw [upO_new, if_neg hk, upO, hc]
  rfl
 ·intro k hk hc
  rw [upO_new, if_neg hk, upO]
  rcases hos k with h | h
  ·rw [h]; rfl
  ·exact absurd h hc
 ·intro b hm
  simp only [Ph.F, Ph.S, Option.toList, List.append_nil, List.singleton_append, List.mem_cons] at hm
  rcases hm with rfl | hm
  ·exact .inl (Nat.le_refl _)
  ·exact .inr (hb b hm)
 ·intro hX
  refine ⟨?_, fun _ => ⟨_, t, _, rfl, addRow_here w _ _, by simp⟩, fun h => by simp at h, ?_, ?_⟩
  ·exact hO.frame (addRow_keeps w cs.toArray t).size hX (fun b hb _ => (addRow_keeps w _ _).block b hb id) fun b hm => (addRow_keeps w _ _).block b (hlt b hm) id
  ·simp only [Ph.F, Ph.S, Option.toList, List.append_nil, List.singleton_append, List.nodup_cons]
   exact ⟨fun hm => by have := hlt _ hm; omega, hn⟩
  ·intro b hm
   simp only [Ph.F, Ph.S, Option.toList, List.append_nil, List.singleton_append, List.mem_cons] at hm
   rw [addRow_size]
   rcases hm with rfl | hm
   ·omega
   ·have := hlt b hm; omega
 ·intro _ x hx
  rw [upO_new, if_pos rfl] at hx
  injection hx with hx
  subst hx
  exact ⟨w.heap.size, 0, t, rfl, by simp [upPh, Ph.root, Lt.loc], rfl, rfl⟩

theorem step_alloc {t dst : Nat} (W : WF P) (ho : o.op = .alloc t) (R : RelA P A X0 Y0 w0 g ph a w) (hg : goodT P 8 t = true)
  (h : K (newO (lookO g.ob) dst (.ptr dst [] t) ⟨true, t, zSh P 4 t, zero P t⟩ [])) : Does P o a w (Out P A X0 Y0 w0 g a K) := by
 obtain ⟨i, cs, h1, h2, h3⟩ := W.zero t hg
 obtain ⟨L, hO, hL⟩ := zero_own (A := A) (X := Xof X0 (lookO g.ob) ph) (w := w) W 4 8 t cs h3
 have hc := rep_cells (zero_rep (A := A) (X := Xof X0 (lookO g.ob) ph) (w := w) 8 t cs h3)
 have hc' : (mkV P t cs).cells = cs.toArray := by rw [← Array.toList_inj, hc]
 refine Does.value (v := .pointer (some ⟨w.heap.size, 0, none⟩)) (w' := addRow w cs.toArray t) ?_ ⟨_, h, newBox R hO (by rw [hL]; simp) (fun _ => .inl rfl) (by rw [hL]; simp)⟩
 simp [execOp, ho, Instr.alloc, zeroValue, typeInfo, h1, h2, newVar, newRow, hc', addRow]

theorem step_box {t dst : Nat} {x : Operand} {sv : Option Sh} {d : D} {os : Objs} (W : WF P) (ho : o.op = .box t x) (R : RelA P A X0 Y0 w0 g ph a w) (ht : takeV P (lookO g.ob) t (g.av x) = some (sv, d, os)) (hfl : (g.av x).flatA = true)
  (h : K (newO (lookO g.ob) dst (.ptr dst [] t) ⟨true, t, sv.getD .imm, d⟩ os)) : Does P o a w (Out P A X0 Y0 w0 g a K) := by
 obtain ⟨cs, L, hv, hT, hn, hgone, hos⟩ := takeV_spec W R.objs ((AVR.eval R x).one hfl) ht
 obtain ⟨L', hO, hL'⟩ := hT.own (sv.getD .imm) (fun e => by rw [e]; exact .inl rfl) (fun u e => by rw [e]; rfl)
 have hsg : sv.getD .imm ≠ .gone := by
  cases sv with
  | none => simp
  | some s => simpa using hgone
 have hc' : (mkV P t cs).cells = cs.toArray := by rw [← Array.toList_inj, own_cells hO hsg]
 refine Does.value (v := .pointer (some ⟨w.heap.size, 0, none⟩)) (w' := addRow w cs.toArray t) ?_ ⟨_, h, newBox R hO (by rw [hL']; exact hn) ?_ ?_⟩
 ·simp [execOp, ho, Instr.box, newVar, newRow, hv, hc', addRow]
 ·intro k
  rcases hos with ⟨rfl, _⟩ | ⟨q, y, rfl, _⟩
  ·exact .inl rfl
  ·simp only [findO]; split <;> simp
 ·intro b hb
  rw [hL'] at hb
  rcases hos with ⟨_, e⟩ | ⟨q, y, rfl, hy, _, hm⟩
  ·rw [e] at hb; cases hb
  ·exact ⟨q, y, by simp [ate, findO], hy, hm b hb⟩

end
end Go.Ab

/- Literals. -/
namespace Go.Ab
variable {P : Program} {A : Ann}

theorem foldl_set (off : Nat) : ∀ (l : List Value) (k : Nat) (cells : Array Value) (i : Nat), off + k + l.length ≤ cells.size →
  ((l.zipIdx k).foldl (fun cs (x : Value × Nat) => cs.setIfInBounds (off + x.2) x.1) cells).size = cells.size ∧
  ((l.zipIdx k).foldl (fun cs (x : Value × Nat) => cs.setIfInBounds (off + x.2) x.1) cells)[i]? = if off + k ≤ i ∧ i < off + k + l.length then l[i - (off + k)]? else cells[i]?
 | [], k, cells, i, _ => by
  refine ⟨rfl, ?_⟩
  rw [if_neg (by simp)]
  rfl
 | v :: l, k, cells, i, h => by
  simp only [List.length_cons] at h
  obtain ⟨h1, h2⟩ := foldl_set off l (k + 1) (cells.setIfInBounds (off + k) v) i (by simp; omega)
  simp only [List.zipIdx_cons, List.foldl_cons, List.length_cons]
  refine ⟨by rw [h1]; simp, ?_⟩
  rw [h2]
  by_cases e : i = off + k
  ·subst e
   rw [if_neg (by omega), if_pos (by omega)]
   simp [show off + k < cells.size by omega]
  ·by_cases e2 : off + k ≤ i ∧ i < off + k + (l.length + 1)
   ·rw [if_pos (by omega), if_pos e2]
    rw [show i - (off + k) = (i - (off + (k + 1))) + 1 by omega]
    simp
   ·rw [if_neg (by omega), if_neg e2]
    rw [Array.getElem?_setIfInBounds]
    rw [if_neg (fun h => e h.symm)]

theorem fill_splice {off : Nat} {v : Value} {cells : Array Value} (h : off + v.cells.size ≤ cells.size) :
  v.cells.zipIdx.foldl (fun cs (x : Value × Nat) => cs.setIfInBounds (off + x.2) x.1) cells = (splice cells.toList off v.cells.toList).toArray := by
 have hl : v.cells.zipIdx.foldl (fun cs (x : Value × Nat) => cs.setIfInBounds (off + x.2) x.1) cells = (v.cells.toList.zipIdx 0).foldl (fun cs (x : Value × Nat) => cs.setIfInBounds (off + x.2) x.1) cells := by
  rw [← Array.foldl_toList]
  simp
 rw [hl]
 apply Array.ext_getElem?
 intro i
 rw [(foldl_set off v.cells.toList 0 cells i (by simpa using h)).2]
 rw [List.getElem?_toArray (xs := splice cells.toList off v.cells.toList), splice_get (by simpa using h)]
 simp only [Nat.add_zero, Array.length_toList, Array.getElem?_toList]
 by_cases h1 : i < off
 ·rw [if_neg (by omega), if_pos h1]
 ·rw [if_neg h1]
  by_cases h2 : i < off + v.cells.size
  ·rw [if_pos ⟨by omega, h2⟩, if_pos h2]
  ·rw [if_neg (by omega), if_neg h2]

end Go.Ab

/- Parts of literals. -/
namespace Go.Ab
variable {P : Program} {A : Ann}

theorem nodupB_cons {a : Nat} {l : List Nat} : nodupB (a :: l) = true ↔ a ∉ l ∧ nodupB l = true := by
 simp only [nodupB, Bool.and_eq_true, Bool.not_eq_true', List.any_eq_false, beq_iff]
 constructor
 ·rintro ⟨h1, h2⟩; exact ⟨fun hm => h1 a hm rfl, h2⟩
 ·rintro ⟨h1, h2⟩; exact ⟨fun x hx e => h1 (e ▸ hx), h2⟩

theorem nodupB_append {l m : List Nat} (h : nodupB (l ++ m) = true) : nodupB l = true ∧ nodupB m = true ∧ ∀ a ∈ l, a ∉ m := by
 induction l with
 | nil => exact ⟨rfl, h, by simp⟩
 | cons a l ih =>
  rw [List.cons_append, nodupB_cons] at h
  obtain ⟨h1, h2, h3⟩ := ih h.2
  simp only [List.mem_append, not_or] at h
  refine ⟨nodupB_cons.2 ⟨h.1.1, h1⟩, h2, fun x hx => ?_⟩
  rcases List.mem_cons.1 hx with rfl | hx
  ·exact h.1.2
  ·exact h3 x hx

theorem findO_mem {os : Objs} {k : Nat} {x : Option Obj} (h : findO os k = some x) : k ∈ os.map (·.1) := by
 induction os with
 | nil => simp [findO] at h
 | cons y os ih =>
  obtain ⟨i, v⟩ := y
  simp only [findO] at h
  split at h
  ·rename_i e; subst e; simp
  ·exact List.mem_cons_of_mem _ (ih h)

theorem findO_append {l m : Objs} (k : Nat) : findO (l ++ m) k = match findO l k with
  | some x => some x
  | none => findO m k := by
 induction l with
 | nil => rfl
 | cons y l ih =>
  obtain ⟨i, v⟩ := y
  simp only [List.cons_append, findO]
  split
  ·rfl
  ·exact ih

section
variable {X0 Y0 : Nat → Prop} {w0 : World} {ob : Nat → Option Obj} {ph : Nat → Ph} {w : World}

/-- FILLING THE PLACES OF A LITERAL: 'F': types and places of the parts. -/
theorem fill_parts (W : WF P) (hO : Objs' P A X0 Y0 w0.heap.size ob ph w) {ev : Operand → Value} {av : Operand → AV} (hev : ∀ x, AVR P A (Xof X0 ob ph) w ob ph (av x) (ev x)) {F : Nat → Option (Nat × Nat)} {N M : Nat} {place : Nat → Option (Nat × Nat)}
  (hin : ∀ j t o, F j = some (t, o) → o + P.cellsOf t ≤ N ∧ j < M ∧ place j = some (o, P.cellsOf t))
  (hap : ∀ j t o k u p, F j = some (t, o) → F k = some (u, p) → j ≠ k → o + P.cellsOf t ≤ p ∨ p + P.cellsOf u ≤ o) :
  ∀ (parts : List (Nat × Operand)) (r : List (Nat × Option Sh × D)) (os : Objs), partsD P ob (fun j => (F j).map (·.1)) (parts.map fun x => (x.1, av x.2)) = some (r, os) → nodupB (parts.map (·.1)) = true → nodupB (os.map (·.1)) = true →
  ∀ (cells : List Value) (ds : List D) (S : Nat → Option Sh) (Lk : Nat → Lt), cells.length = N → ds.length = M →
   (∀ j t o, F j = some (t, o) → Taken P A (Xof X0 ob ph) w (S j) t (seg cells o (P.cellsOf t)) (ds.getD j .und) (Lk j)) →
   (∀ j, (Lk j).blocks.Nodup) → (∀ i j b, b ∈ (Lk i).blocks → b ∈ (Lk j).blocks → i = j) → (∀ j b, b ∈ (Lk j).blocks → ∀ c y, ate os c → ob c = some y → b ∉ (ph c).F) →
   ∃ (cells' : List Value) (S' : Nat → Option Sh) (Lk' : Nat → Lt), Instr.fill place cells.toArray (parts.map fun x => (x.1, ev x.2)) = some cells'.toArray ∧ cells'.length = N ∧ (putParts ds r).length = M ∧
    (∀ j t o, F j = some (t, o) → Taken P A (Xof X0 ob ph) w (S' j) t (seg cells' o (P.cellsOf t)) ((putParts ds r).getD j .und) (Lk' j)) ∧
    (∀ j, j ∉ r.map (·.1) → S' j = S j) ∧ (∀ x ∈ r, S' x.1 = x.2.1) ∧ nodupB (r.map (·.1)) = true ∧
    (∀ j, (Lk' j).blocks.Nodup) ∧ (∀ i j b, b ∈ (Lk' i).blocks → b ∈ (Lk' j).blocks → i = j) ∧
    (∀ j b, b ∈ (Lk' j).blocks → b ∈ (Lk j).blocks ∨ ∃ c y, ate os c ∧ ob c = some y ∧ b ∈ (ph c).F) ∧ (∀ k, findO os k = none ∨ findO os k = some none) ∧ r.map (·.1) = parts.map (·.1)
 | [], r, os, h, _, _, cells, ds, S, Lk, hc, hd, hT, h1, h2, _ => by
  simp only [List.map_nil, partsD, Option.some.injEq, Prod.mk.injEq] at h
  obtain ⟨rfl, rfl⟩ := h
  exact ⟨cells, S, Lk, rfl, hc, hd, hT, fun _ _ => rfl, by simp, rfl, h1, h2, fun _ _ h => .inl h, fun _ => .inl rfl, rfl⟩
 | (j, x) :: parts, r, os, h, hnp, hno, cells, ds, S, Lk, hc, hd, hT, h1, h2, h3 => by
  simp only [List.map_cons, partsD] at h
  split at h <;> try contradiction
  rename_i t ht
  split at h <;> try contradiction
  rename_i sv d os1 r2 os2 htk hpr
  simp only [Option.some.injEq, Prod.mk.injEq] at h
  obtain ⟨rfl, rfl⟩ := h
  obtain ⟨⟨t', o⟩, hF, e⟩ := Option.map_eq_some_iff.1 ht
  simp only at e
  subst e
  rw [List.map_cons, nodupB_cons] at hnp
  rw [List.map_append] at hno
  obtain ⟨n1, n2, n3⟩ := nodupB_append hno
  have hflat : (av x).flatA = true := by
   cases hx : av x <;> first | rfl | (rw [hx] at htk; simp [takeV] at htk)
  obtain ⟨cs, L, hv, hTk, hnL, hng, hos⟩ := takeV_spec W hO ((hev x).one hflat) htk
  obtain ⟨i1, i2, i3⟩ := hin j t' o hF
  have hlen := hTk.length W
  have hcells : (mkV P t' cs).cells.toList = cs := by
   cases sv with
   | none => obtain ⟨_, rfl, _, e, he⟩ := hTk; rw [mkV_one (by rw [he]; rfl)]; rfl
   | some s =>
    exact own_cells hTk (by simpa using hng)
  have hm1 : ∀ c, ate os1 c → ate (os1 ++ os2) c := fun c hc => by unfold ate at hc ⊢; rw [findO_append, hc]
  have hm2 : ∀ c, ate os2 c → ate (os1 ++ os2) c := fun c hc => by
   unfold ate at hc ⊢
   rw [findO_append]
   cases e : findO os1 c with
   | none => exact hc
   | some x => exact absurd (findO_mem hc) (n3 c (findO_mem e))
  have hLF : ∀ b ∈ L.blocks, ∃ c y, ate os1 c ∧ ob c = some y ∧ b ∈ (ph c).F := by
   intro b hb
   rcases hos with ⟨_, e⟩ | ⟨q, y, rfl, hy, _, hm⟩
   ·rw [e] at hb; cases hb
   ·exact ⟨q, y, by simp [ate, findO], hy, hm b hb⟩
  have hseg : ∀ n, n = cs.length → seg (splice cells o cs) o n = cs := fun n e => by rw [e]; exact seg_splice_same (by rw [hlen, hc]; exact i1)
  have hb0 : ∀ (k : Nat) (b : Nat), b ∈ L.blocks → b ∉ (Lk k).blocks := fun k b hb hk => by
   obtain ⟨c, y, g1, g2, g3⟩ := hLF b hb
   exact h3 k b hk c y (hm1 c g1) g2 g3
  obtain ⟨cells', S', Lk', f1, f2, f3, f4, f5, f6, f7, f8, f9, f10, f11, f12⟩ := fill_parts W hO hev hin hap parts r2 os2 hpr hnp.2 n2 (splice cells o cs) (ds.set j d) (fun k => if k = j then sv else S k) (fun k => if k = j then L else Lk k)
   (by rw [splice_length (by rw [hlen, hc]; exact i1)]; exact hc) (by simpa using hd)
   (fun k u p hF' => by
    by_cases hk : k = j
    ·subst hk
     rw [hF] at hF'
     injection hF' with hF'
     injection hF' with e1 e2
     subst e1 e2
     simp only [if_true]
     rw [hseg _ hlen.symm, getD_set_eq (by omega), if_pos rfl]
     exact hTk
    ·simp only [if_neg hk]
     have := hT k u p hF'
     rw [seg_splice_apart (by rw [hlen, hc]; exact i1) (by rw [hlen]; rcases hap k u p j t' o hF' hF hk with h | h <;> omega), getD_set_eq (by omega), if_neg hk]
     exact this)
   (fun k => by
    by_cases hk : k = j
    ·simp only [if_pos hk]; exact hnL
    ·simp only [if_neg hk]; exact h1 k)
   (fun k l b hb hb' => by
    by_cases hk : k = j
    ·by_cases hl : l = j
     ·rw [hk, hl]
     ·simp only [if_pos hk, if_neg hl] at hb hb'
      exact absurd hb' (hb0 l b hb)
    ·by_cases hl : l = j
     ·simp only [if_neg hk, if_pos hl] at hb hb'
      exact absurd hb (hb0 k b hb')
     ·simp only [if_neg hk, if_neg hl] at hb hb'
      exact h2 k l b hb hb')
   (fun k b hb c y hc' hy hm => by
    by_cases hk : k = j
    ·simp only [if_pos hk] at hb
     obtain ⟨c1, y1, g1, g2, g3⟩ := hLF b hb
     exact hO.apart c1 y1 c y g2 hy (fun e => n3 c1 (findO_mem g1) (e ▸ findO_mem hc')) b g3 hm
    ·simp only [if_neg hk] at hb
     exact h3 k b hb c y (hm2 c hc') hy hm)
  refine ⟨cells', S', Lk', ?_, f2, f3, f4, fun k hk => ?_, fun x hx => ?_, ?_, f8, f9, fun k b hb => ?_, fun k => ?_, by rw [List.map_cons, List.map_cons, f12]⟩
  ·have hsz : (mkV P t' cs).cells.size = P.cellsOf t' := by rw [← Array.length_toList, hcells, hlen]
   have hfs := fill_splice (off := o) (v := mkV P t' cs) (cells := cells.toArray) (by rw [hsz]; simpa [hc] using i1)
   rw [hcells] at hfs
   simp only [List.map_cons, Instr.fill, i3, hv, hsz]
   rw [if_neg (by simp [hc]; omega)]
   have : (fun (cs : Array Value) (x : Value × Nat) => match x with | (c, j) => cs.setIfInBounds (o + j) c) = fun cs x => cs.setIfInBounds (o + x.2) x.1 := rfl
   rw [this, hfs]
   exact f1
  ·simp only [List.map_cons, List.mem_cons, not_or] at hk
   rw [f5 k hk.2, if_neg hk.1]
  ·rcases List.mem_cons.1 hx with rfl | hx
   ·have : j ∉ r2.map (·.1) := by rw [f12]; exact hnp.1
    show S' j = sv
    rw [f5 j this, if_pos rfl]
   ·exact f6 x hx
  ·rw [List.map_cons, nodupB_cons]
   exact ⟨by rw [f12]; exact hnp.1, f7⟩
  ·rcases f10 k b hb with h | ⟨c, y, g1, g2, g3⟩
   ·by_cases hk : k = j
    ·simp only [if_pos hk] at h
     obtain ⟨c, y, g1, g2, g3⟩ := hLF b h
     exact .inr ⟨c, y, hm1 c g1, g2, g3⟩
    ·simp only [if_neg hk] at h
     exact .inl h
   ·exact .inr ⟨c, y, hm2 c g1, g2, g3⟩
  ·rw [findO_append]
   rcases hos with ⟨rfl, _⟩ | ⟨q, y, rfl, _⟩
   ·exact f11 k
   ·simp only [findO]
    split
    ·rename_i x hx
     split at hx
     ·injection hx with hx; subst hx; exact .inr rfl
     ·cases hx
    ·exact f11 k

end
end Go.Ab

/- Literals of structs, arrays, slices. -/
namespace Go.Ab
variable {P : Program} {A : Ann}

theorem fld_shParts : ∀ (r : List (Nat × Option Sh × D)) (z s : Sh), shParts z r = some s → nodupB (r.map (·.1)) = true → (∀ j, j ∉ r.map (·.1) → s.fld j = z.fld j) ∧
  (∀ x ∈ r, (∀ u, x.2.1 = some u → s.fld x.1 = some u) ∧ (x.2.1 = none → s.fld x.1 = some .imm ∨ ∃ u, s.fld x.1 = some (.slc u none)))
 | [], z, s, h, _ => by
  simp only [shParts, Option.some.injEq] at h
  subst h
  exact ⟨fun _ _ => rfl, by simp⟩
 | (j, sv, d) :: r, z, s, h, hn => by
  simp only [shParts] at h
  split at h <;> try contradiction
  rename_i u hu
  rw [List.map_cons, nodupB_cons] at hn
  obtain ⟨h1, h2⟩ := fld_shParts r z u hu hn.2
  have keep : ∀ v, u.setFld j v = some s → (∀ k, k ∉ ((j, sv, d) :: r).map (·.1) → s.fld k = z.fld k) ∧ s.fld j = some v ∧ ∀ x ∈ r, s.fld x.1 = u.fld x.1 := by
   intro v hv
   refine ⟨fun k hk => ?_, ?_, fun x hx => ?_⟩
   ·simp only [List.map_cons, List.mem_cons, not_or] at hk
    rw [Sh.setFld_fld hv, if_neg hk.1]
    exact h1 k hk.2
   ·rw [Sh.setFld_fld hv, if_pos rfl]
   ·have hne : x.1 ≠ j := fun e => hn.1 (by have := List.mem_map_of_mem (f := fun y : Nat × Option Sh × D => y.1) hx; rw [e] at this; exact this)
    rw [Sh.setFld_fld hv, if_neg hne]
  have rest : ∀ v, u.setFld j v = some s → ∀ x ∈ r, (∀ u, x.2.1 = some u → s.fld x.1 = some u) ∧ (x.2.1 = none → s.fld x.1 = some .imm ∨ ∃ u, s.fld x.1 = some (.slc u none)) := by
   intro v hv x hx
   rw [(keep v hv).2.2 x hx]
   exact h2 x hx
  split at h
  ·rename_i hf
   simp only [Option.some.injEq] at h
   subst h
   refine ⟨fun k hk => ?_, fun x hx => ?_⟩
   ·simp only [List.map_cons, List.mem_cons, not_or] at hk
    exact h1 k hk.2
   ·rcases List.mem_cons.1 hx with rfl | hx
    ·exact ⟨fun _ e => (nomatch e), fun _ => .inr ⟨_, hf⟩⟩
    ·exact h2 x hx
  ·obtain ⟨k1, k2, _⟩ := keep _ h
   refine ⟨k1, fun x hx => ?_⟩
   rcases List.mem_cons.1 hx with rfl | hx
   ·exact ⟨fun _ e => (nomatch e), fun _ => .inl k2⟩
   ·exact rest _ h x hx
  ·obtain ⟨k1, k2, _⟩ := keep _ h
   refine ⟨k1, fun x hx => ?_⟩
   rcases List.mem_cons.1 hx with rfl | hx
   ·exact ⟨fun _ e => (by injection e with e; subst e; exact k2), fun e => (nomatch e)⟩
   ·exact rest _ h x hx

end Go.Ab

/- New values that are owned. -/
namespace Go.Ab
variable {P : Program} {A : Ann}
section
variable {X0 Y0 : Nat → Prop} {w0 : World} {g : St} {ph : Nat → Ph} {a : Act} {w : World} {o : Oper} {K : Dl → Prop}

/-- A new object that is a value. -/
theorem newVal (R : RelA P A X0 Y0 w0 g ph a w) {dst t : Nat} {cs : List Value} {L : Lt} {s : Sh} {d : D} {os : Objs} {w' : World} (hw : Keeps (fun _ => False) w w')
  (hO : ∀ X' : Nat → Prop, (∀ b, b < w.heap.size → X' b → Xof X0 (lookO g.ob) ph b) → (∀ b, b < w.heap.size → X' b → ∀ c y, ate os c → lookO g.ob c = some y → b ∈ (ph c).F → b ∈ L.blocks) → Own P A X' w' L s t cs d)
  (hit : s ≠ .it) (hn : L.blocks.Nodup) (hlt : ∀ b ∈ L.blocks, b < w'.heap.size) (hos : ∀ k, findO os k = none ∨ findO os k = some none)
  (hb : ∀ b ∈ L.blocks, w.heap.size ≤ b ∨ ∃ c y, ate os c ∧ lookO g.ob c = some y ∧ b ∈ (ph c).F) :
  RelD P A X0 Y0 w0 (look g.sl) (lookO g.ob) a.tmps (newO (lookO g.ob) dst (.val dst [] t) ⟨false, t, s, d⟩ os) (mkV P t cs) w' := by
 have hF : (⟨cs, none, L, []⟩ : Ph).F = L.blocks := by simp [Ph.F, Ph.S, Option.toList]
 have e1 : ∀ k, k ≠ dst → ate os k → upO ((dst, some ⟨false, t, s, d⟩) :: os) (lookO g.ob) k = none := fun k hk hc => by
  rw [upO_new, if_neg hk, upO, hc]
  rfl
 have e2 : ∀ k, k ≠ dst → ¬ ate os k → upO ((dst, some ⟨false, t, s, d⟩) :: os) (lookO g.ob) k = lookO g.ob k := fun k hk hc => by
  rw [upO_new, if_neg hk, upO]
  rcases hos k with h | h
  ·rw [h]; rfl
  ·exact absurd h hc
 refine RelD.fresh (cons := ate os) (p := ⟨cs, none, L, []⟩) (x := ⟨false, t, s, d⟩) R hw ?_ e1 e2 ?_ ?_ ?_
 ·rw [upO_new, if_pos rfl]
 ·intro b hm
  rw [hF] at hm
  exact hb b hm
 ·intro hX
  refine ⟨hO _ hX fun b hlt hx c y hc hy hm => ?_, fun h => by simp at h, fun _ => rfl, by rw [hF]; exact hn, fun b hm => hlt b (by rw [hF] at hm; exact hm)⟩
  rcases hx with hx | ⟨k, z, hz, hk⟩
  ·exact absurd hx (R.objs.free c y hy b hm)
  ·by_cases hkd : k = dst
   ·subst hkd
    simp only [upPh, if_true, hF] at hk
    exact hk
   ·simp only [upPh, if_neg hkd] at hk
    by_cases hkc : ate os k
    ·rw [e1 k hkd hkc] at hz; cases hz
    ·rw [e2 k hkd hkc] at hz
     exact absurd hm (R.objs.apart k z c y hz hy (fun e => hkc (e ▸ hc)) b hk)
 ·intro _ x hx
  rw [upO_new, if_pos rfl] at hx
  injection hx with hx
  subst hx
  exact ⟨fun e => absurd e hit, fun _ => ⟨t, rfl, rfl, .inr ⟨rfl, by simp [upPh], by simp [upPh]⟩⟩⟩

theorem zD_mono : ∀ (n t : Nat) (cs : List Value), zOk P n t cs = true → ∀ k, n ≤ k → zD P k t = zD P n t
 | 0, t, cs, h, _, _ => by simp [zOk] at h
 | n + 1, t, cs, h, 0, hk => by omega
 | n + 1, t, cs, h, k + 1, hk => by
  have hk' : n ≤ k := by omega
  cases ht : tk P t with
  | struct fs =>
   simp only [zOk, ht, Bool.and_eq_true, List.all_eq_true] at h
   simp only [zD, ht]
   congr 1
   exact List.map_congr_left fun x hx => zD_mono n x.1 _ (h.2 x hx) k hk'
  | arr m e =>
   simp only [zOk, ht, Bool.and_eq_true, List.all_eq_true] at h
   simp only [zD, ht]
   cases m with
   | zero => rfl
   | succ m => rw [zD_mono n e _ (h.2 0 (by simp)) k hk']
  | _ => simp only [zD, ht]

theorem takeV_os {ob : Nat → Option Obj} {t : Nat} {av : AV} {sv : Option Sh} {d : D} {os : Objs} (h : takeV P ob t av = some (sv, d, os)) :
  (os = [] ∧ (sv = none ∨ sv = some .imm)) ∨ (os ≠ [] ∧ ∃ s, sv = some s ∧ s ≠ .imm) := by
 unfold takeV at h
 split at h
 ·rename_i o u
  rw [cond_eq] at h
  split at h <;> try contradiction
  split at h <;> try contradiction
  rename_i x hx
  rw [cond_eq] at h
  split at h <;> try contradiction
  simp only [Option.some.injEq, Prod.mk.injEq] at h
  obtain ⟨rfl, rfl, rfl⟩ := h
  by_cases hi : x.sh.isImm = true
  ·left
   rw [isImm_iff.1 hi]
   exact ⟨rfl, .inr rfl⟩
  ·right
   have : x.sh.isImm = false := by simpa using hi
   rw [this]
   exact ⟨by simp, _, rfl, fun e => hi (isImm_iff.2 e)⟩
 all_goals (first | (rw [cond_eq] at h; split at h <;> try contradiction) | skip)
 all_goals (first | (split at h <;> try contradiction) | skip)
 all_goals (first | (split at h <;> try contradiction) | skip)
 all_goals (first | (simp only [Option.some.injEq, Prod.mk.injEq] at h; obtain ⟨rfl, rfl, rfl⟩ := h; exact .inl ⟨rfl, by simp⟩) | skip)
 all_goals contradiction

theorem partsD_os {ob : Nat → Option Obj} {ty : Nat → Option Nat} : ∀ {l : List (Nat × AV)} {r : List (Nat × Option Sh × D)} {os : Objs}, partsD P ob ty l = some (r, os) →
  (os = [] ↔ ∀ x ∈ r, x.2.1 = none ∨ x.2.1 = some .imm)
 | [], r, os, h => by
  simp only [partsD, Option.some.injEq, Prod.mk.injEq] at h
  obtain ⟨rfl, rfl⟩ := h
  simp
 | (j, a) :: l, r, os, h => by
  simp only [partsD] at h
  split at h <;> try contradiction
  split at h <;> try contradiction
  rename_i t ht sv d os1 r2 os2 h1 h2
  simp only [Option.some.injEq, Prod.mk.injEq] at h
  obtain ⟨rfl, rfl⟩ := h
  have ih := partsD_os h2
  simp only [List.append_eq_nil_iff, List.mem_cons, forall_eq_or_imp, ih]
  rcases takeV_os h1 with ⟨e, h3⟩ | ⟨e, s, h3, h4⟩
  ·simp [e, h3]
  ·simp [e, h3, h4]

end
end Go.Ab

/- Literals of structs and arrays. -/
namespace Go.Ab
variable {P : Program} {A : Ann}

theorem zOk_struct {n t : Nat} {cs : List Value} {fs : List (Nat × Nat)} (hk : tk P t = .struct fs) (h : zOk P (n + 1) t cs = true) : cs.length = P.cellsOf t ∧ ∀ x ∈ fs, zOk P n x.1 (seg cs x.2 (P.cellsOf x.1)) = true := by
 simpa only [zOk, hk, Bool.and_eq_true, beq_iff, List.all_eq_true] using h
theorem zOk_arr {n t m e : Nat} {cs : List Value} (hk : tk P t = .arr m e) (h : zOk P (n + 1) t cs = true) : cs.length = P.cellsOf t ∧ ∀ i, i < m → zOk P n e (seg cs (i * P.cellsOf e) (P.cellsOf e)) = true := by
 simpa only [zOk, hk, Bool.and_eq_true, beq_iff, List.all_eq_true, List.mem_range] using h

theorem mapM_places : ∀ (l : List Field), (∀ f ∈ l, tk P f.type ≠ .other) → l.mapM (fun f => (P.info? f.type).map fun i => (f.offset, i.size)) = some (l.map fun f => (f.offset, P.cellsOf f.type))
 | [], _ => rfl
 | f :: l, h => by
  obtain ⟨i, hi, hs, _⟩ := info_of_tk (h f (by simp))
  simp [List.mapM_cons, mapM_places l fun f hf => h f (List.mem_cons_of_mem _ hf), hi, hs]

theorem built_struct (W : WF P) {t : Nat} {fs : List (Nat × Nat)} (hk : tk P t = .struct fs) {i : TypeInfo} (hi : P.info? t = some i) {z : Value} (hz : i.zero = some z) (parts : List (Nat × Value)) :
  P.built t parts = Instr.fill (fun j => (fs[j]?).map fun x => (x.2, P.cellsOf x.1)) z.cells parts := by
 obtain ⟨f, hf, rfl⟩ := und_struct hk
 have hm := mapM_places (P := P) f.toList fun x hx => by
  obtain ⟨j, hj, e⟩ := List.mem_iff_getElem.1 hx
  exact (W.struct t _ hk j x.type x.offset (by simp only [List.getElem?_map, List.getElem?_eq_getElem hj, e, Option.map_some])).2
 simp only [Program.built, hi, hf, hz, hm]
 congr 1
 funext j
 simp only [List.getElem?_toArray, List.getElem?_map, Option.map_map]
 rfl
theorem built_arr (W : WF P) {t n e : Nat} (hk : tk P t = .arr n e) {i : TypeInfo} (hi : P.info? t = some i) {z : Value} (hz : i.zero = some z) (parts : List (Nat × Value)) :
  P.built t parts = Instr.fill (fun j => some (j * P.cellsOf e, P.cellsOf e)) z.cells parts := by
 obtain ⟨ie, h1, h2, _⟩ := info_of_tk (W.arr t n e hk).2
 simp only [Program.built, hi, und_arr hk, hz, h1, h2]

theorem shParts_os : ∀ {r : List (Nat × Option Sh × D)} {z s : Sh}, shParts z r = some s → nodupB (r.map (·.1)) = true → s = .imm → ∀ x ∈ r, x.2.1 = none ∨ x.2.1 = some .imm
 | r, z, s, h, hn, e, x, hx => by
  obtain ⟨_, h2⟩ := fld_shParts r z s h hn
  subst e
  obtain ⟨h3, _⟩ := h2 x hx
  cases hs : x.2.1 with
  | none => exact .inl rfl
  | some u => have := h3 u hs; simp only [Sh.fld, Option.some.injEq] at this; exact .inr (by rw [← this])

section
variable {X0 Y0 : Nat → Prop} {w0 : World} {g : St} {ph : Nat → Ph} {a : Act} {w : World} {o : Oper} {K : Dl → Prop}

theorem evs (R : RelA P A X0 Y0 w0 g ph a w) : ∀ x, AVR P A (Xof X0 (lookO g.ob) ph) w (lookO g.ob) ph (g.av x) (a.eval x) := fun x => AVR.eval R x

theorem step_build_struct {t dst : Nat} {own : Bool} {parts : Array (Nat × Operand)} {fs : List (Nat × Nat)} (W : WF P) (ho : o.op = .build t parts) (R : RelA P A X0 Y0 w0 g ph a w) (hk : tk P t = .struct fs)
  (h : buildD P own (lookO g.ob) dst t (parts.toList.map fun x => (x.1, g.av x.2)) K) : Does P o a w (Out P A X0 Y0 w0 g a K) := by
 simp only [buildD, hk] at h
 split at h <;> try contradiction
 rename_i r os hr
 rw [cond_eq] at h
 split at h <;> try contradiction
 rename_i hg
 simp only [Bool.and_eq_true, List.map_map] at hg
 obtain ⟨⟨hg1, hg2⟩, hg3⟩ := hg
 obtain ⟨i, cs, z1, z2, z3⟩ := W.zero t hg1
 have hc := rep_cells (zero_rep (A := A) (X := Xof X0 (lookO g.ob) ph) (w := w) 8 t cs z3)
 have hc' : (mkV P t cs).cells = cs.toArray := by rw [← Array.toList_inj, hc]
 obtain ⟨hlen, z4⟩ := zOk_struct hk z3
 -- the fields of the zero
 let z : Sh := cond own (zSh P 4 t) .imm
 have hzf : ∀ j, ∃ u, z.fld j = some u := fun j => by
  cases own
  ·exact ⟨_, rfl⟩
  ·simp only [z, cond_true, zSh, hk, fld_mkAgg]; exact ⟨_, rfl⟩
 have hz0 : ∀ j, ∃ L, (∀ ft o, fs[j]? = some (ft, o) → Own P A (Xof X0 (lookO g.ob) ph) w L ((z.fld j).getD .imm) ft (seg cs o (P.cellsOf ft)) (zero P ft)) ∧ L.blocks = [] := by
  intro j
  cases hj : fs[j]? with
  | none => exact ⟨.leaf, by simp, rfl⟩
  | some x =>
   obtain ⟨ft, o⟩ := x
   have hzz := z4 _ (List.mem_of_getElem? hj)
   have hd : zero P ft = zD P 7 ft := zD_mono 7 ft _ hzz 8 (by omega)
   cases own
   ·refine ⟨.leaf, fun ft' o' e => ?_, rfl⟩
    injection e with e
    injection e with e1 e2
    subst e1 e2
    rw [hd]
    exact .imm (zero_rep 7 ft _ hzz)
   ·obtain ⟨L, h1, h2⟩ := zero_own (A := A) (X := Xof X0 (lookO g.ob) ph) (w := w) W 3 7 ft _ hzz
    refine ⟨L, fun ft' o' e => ?_, h2⟩
    injection e with e
    injection e with e1 e2
    subst e1 e2
    obtain ⟨u, hu⟩ := hzf j
    have : u = zSh P 3 ft := fld_zSh hk hj hu
    rw [hu, Option.getD_some, this, hd]
    exact h1
 obtain ⟨Lk, hLk⟩ := Classical.axiomOfChoice hz0
 have hr' : partsD P (lookO g.ob) (fun j => (fs[j]?).map (·.1)) (parts.toList.map fun x => (x.1, g.av x.2)) = some (r, os) := hr
 obtain ⟨cells', S', Lk', f1, f2, f3, f4, f5, f6, f7, f8, f9, f10, f11, f12⟩ := fill_parts W R.objs (ev := a.eval) (av := g.av) (evs R) (F := fun j => fs[j]?) (N := P.cellsOf t) (M := fs.length) (place := fun j => (fs[j]?).map fun x => (x.2, P.cellsOf x.1))
  (fun j ft o hj => ⟨(W.struct t fs hk j ft o hj).1, (List.getElem?_eq_some_iff.1 hj).1, by rw [hj]; rfl⟩)
  (fun j ft o k fu p hj hk' hne => by
   rcases Nat.lt_or_gt_of_ne hne with h | h
   ·exact .inl (W.order t fs hk j ft o k fu p hj hk' h)
   ·exact .inr (W.order t fs hk k fu p j ft o hk' hj h))
  parts.toList r os hr' (by simpa [Function.comp_def] using hg2) hg3 cs (fs.map fun x => zero P x.1) (fun j => some ((z.fld j).getD .imm)) Lk hlen (by simp)
  (fun j ft o hj => by
   have hd : (fs.map fun x => zero P x.1).getD j .und = zero P ft := by simp [List.getD_eq_getElem?_getD, hj]
   rw [hd]
   exact (hLk j).1 ft o hj)
  (fun j => by rw [(hLk j).2]; exact List.nodup_nil) (fun i j b hb _ => by rw [(hLk i).2] at hb; cases hb) (fun j b hb => by rw [(hLk j).2] at hb; cases hb)
 have hrun : (execOp a.eval o).run P w = .ok (.value (.agg cells'.toArray)) w := by
  have := run_build w t (parts.map fun (i, x) => (i, a.eval x)) cells'.toArray (by
   rw [built_struct W hk z1 z2, hc', ← f1]
   simp)
  simp only [execOp, ho, Sem.run_bind, this, Result.andThen_ok, Sem.run_pure]
 have hmk : mkV P t cells' = .agg cells'.toArray := by rw [mkV, if_pos (by rw [hk]; rfl)]
 have hown : ∀ s, shParts z r = some s → ∃ L, (∀ X' : Nat → Prop, (∀ b, b < w.heap.size → X' b → Xof X0 (lookO g.ob) ph b) → Own P A X' w L s t cells' (.agg (putParts (fs.map fun x => zero P x.1) r))) ∧ L.blocks.Nodup ∧ (∀ b ∈ L.blocks, ∃ j, b ∈ (Lk' j).blocks) ∧ s ≠ .it ∧ (∀ j, ∃ u, s.fld j = some u) := by
  intro s hs
  obtain ⟨s1, s2⟩ := fld_shParts r z s hs f7
  have hsf : ∀ j, ∃ u, s.fld j = some u := fun j => by
   by_cases hj : j ∈ r.map (·.1)
   ·obtain ⟨x, hx, rfl⟩ := List.mem_map.1 hj
    obtain ⟨h1, h2⟩ := s2 x hx
    cases hsv : x.2.1 with
    | none => rcases h2 hsv with h | ⟨u, h⟩ <;> exact ⟨_, h⟩
    | some u => exact ⟨_, h1 u hsv⟩
   ·rw [s1 j hj]; exact hzf j
  have hch : ∀ j, ∃ L, (∀ ft o, fs[j]? = some (ft, o) → ∀ u, s.fld j = some u → Own P A (Xof X0 (lookO g.ob) ph) w L u ft (seg cells' o (P.cellsOf ft)) ((putParts (fs.map fun x => zero P x.1) r).getD j .und)) ∧ (j < fs.length → L.blocks = (Lk' j).blocks) := by
   intro j
   cases hj : fs[j]? with
   | none => exact ⟨.leaf, by simp, fun hl => by rw [List.getElem?_eq_getElem hl] at hj; cases hj⟩
   | some x =>
    obtain ⟨ft, o⟩ := x
    obtain ⟨u, hu⟩ := hsf j
    obtain ⟨L, h1, h2⟩ := (f4 j ft o hj).own u (fun e => by
     by_cases hjr : j ∈ r.map (·.1)
     ·obtain ⟨x, hx, rfl⟩ := List.mem_map.1 hjr
      rw [f6 x hx] at e
      rcases (s2 x hx).2 e with h | ⟨v, h⟩
      ·rw [hu] at h; injection h with h; exact .inl h
      ·rw [hu] at h; injection h with h; exact .inr ⟨v, h⟩
     ·rw [f5 j hjr] at e; cases e) (fun v e => by
     by_cases hjr : j ∈ r.map (·.1)
     ·obtain ⟨x, hx, rfl⟩ := List.mem_map.1 hjr
      rw [f6 x hx] at e
      have := (s2 x hx).1 v e
      rw [hu] at this; injection this
     ·rw [f5 j hjr] at e
      injection e with e
      rw [s1 j hjr] at hu
      rw [← e, hu]; rfl)
    refine ⟨L, fun ft' o' e v hv => ?_, fun _ => h2⟩
    injection e with e
    injection e with e1 e2
    subst e1 e2
    rw [hu] at hv
    injection hv with hv
    subst hv
    exact h1
  obtain ⟨K', hK'⟩ := Classical.axiomOfChoice hch
  obtain ⟨L, g1, g2, g3, g4⟩ := own_of_fields (A := A) (X := Xof X0 (lookO g.ob) ph) (w := w) (s := s) (cs := cells') (ds := putParts (fs.map fun x => zero P x.1) r) hk hsf f2 f3 K' fun j ft o hj u hu => (hK' j).1 ft o hj u hu
  refine ⟨L, fun X' hX' => g1.frame (Nat.le_refl _) hX' (fun _ _ _ => rfl) fun _ _ => rfl, ?_, fun b hb => ?_, fun e => ?_, hsf⟩
  ·refine nodup_of_kids g4 (fun i hi => ?_) fun i j b hi hj hb hb' => ?_
   ·rw [g2 i hi, (hK' i).2 hi]; exact f8 i
   ·rw [g2 i hi, (hK' i).2 hi] at hb
    rw [g2 j hj, (hK' j).2 hj] at hb'
    exact f9 i j b hb hb'
  ·obtain ⟨j, hj, hb⟩ := g3 b hb
   rw [(hK' j).2 hj] at hb
   exact ⟨j, hb⟩
  ·obtain ⟨u, hu⟩ := hsf 0
   rw [e] at hu
   simp [Sh.fld] at hu
 have hate : ∀ b j, b ∈ (Lk' j).blocks → ∃ c y, ate os c ∧ lookO g.ob c = some y ∧ b ∈ (ph c).F := fun b j hb => by
  rcases f10 j b hb with h | h
  ·rw [(hLk j).2] at h; cases h
  ·exact h
 split at h
 ·rename_i hs
  obtain ⟨L, h1, _⟩ := hown .imm hs
  have hos : os = [] := (partsD_os hr).2 (shParts_os hs f7 rfl)
  subst hos
  refine Does.value hrun (Out.pure R h ⟨cells', (h1 _ fun _ _ h => h).leaf_of_imm.2, hmk.symm⟩)
 ·rename_i s _ hs
  obtain ⟨L, h1, h2, h3, h4, _⟩ := hown s hs
  refine Does.value hrun ⟨_, h, ?_⟩
  rw [← hmk]
  refine newVal R (Keeps.refl _ w) (fun X' hX' _ => h1 X' hX') h4 h2 (fun b hb => ?_) f11 fun b hb => ?_
  ·obtain ⟨j, hb⟩ := h3 b hb
   obtain ⟨c, y, _, hy, hm⟩ := hate b j hb
   exact (ob_ok R hy).lt b hm
  ·obtain ⟨j, hb⟩ := h3 b hb
   exact .inr (hate b j hb)
 ·exact h.elim

theorem step_build_arr {t dst n e : Nat} {own : Bool} {parts : Array (Nat × Operand)} (W : WF P) (ho : o.op = .build t parts) (R : RelA P A X0 Y0 w0 g ph a w) (hk : tk P t = .arr n e)
  (h : buildD P own (lookO g.ob) dst t (parts.toList.map fun x => (x.1, g.av x.2)) K) : Does P o a w (Out P A X0 Y0 w0 g a K) := by
 simp only [buildD, hk] at h
 split at h <;> try contradiction
 rename_i r os hr
 rw [cond_eq] at h
 split at h <;> try contradiction
 rename_i hg
 simp only [Bool.and_eq_true, List.map_map, List.isEmpty_iff] at hg
 obtain ⟨⟨hg1, hg2⟩, hos⟩ := hg
 subst hos
 obtain ⟨i, cs, z1, z2, z3⟩ := W.zero t hg1
 have hc := rep_cells (zero_rep (A := A) (X := Xof X0 (lookO g.ob) ph) (w := w) 8 t cs z3)
 have hc' : (mkV P t cs).cells = cs.toArray := by rw [← Array.toList_inj, hc]
 obtain ⟨hlen, z4⟩ := zOk_arr hk z3
 have hsz := (W.arr t n e hk).1
 have hF : ∀ j ft o, (fun j => if j < n then some (e, j * P.cellsOf e) else none) j = some (ft, o) → j < n ∧ ft = e ∧ o = j * P.cellsOf e := fun j ft o h => by
  simp only at h
  split at h
  ·rename_i hj
   injection h with h
   injection h with h1 h2
   exact ⟨hj, h1.symm, h2.symm⟩
  ·cases h
 have hty : (fun j => cond (Nat.blt j n) (some e) none) = fun j => ((if j < n then some (e, j * P.cellsOf e) else none).map (·.1)) := by
  funext j
  by_cases hj : j < n
  ·rw [if_pos hj, show Nat.blt j n = true by simpa [Nat.blt_eq] using hj]; rfl
  ·rw [if_neg hj, show Nat.blt j n = false by rw [Bool.eq_false_iff, Ne, Nat.blt_eq]; exact hj]; rfl
 rw [hty] at hr
 have hmul : ∀ j k, j < k → j * P.cellsOf e + P.cellsOf e ≤ k * P.cellsOf e := fun j k h => by
  rw [← Nat.succ_mul]; exact Nat.mul_le_mul_right _ h
 obtain ⟨cells', S', Lk', f1, f2, f3, f4, f5, f6, f7, f8, f9, f10, f11, f12⟩ := fill_parts W R.objs (ev := a.eval) (av := g.av) (evs R) (F := fun j => if j < n then some (e, j * P.cellsOf e) else none) (N := P.cellsOf t) (M := n) (place := fun j => some (j * P.cellsOf e, P.cellsOf e))
  (fun j ft o hj => by
   obtain ⟨h1, rfl, rfl⟩ := hF j ft o hj
   exact ⟨by rw [hsz]; exact hmul _ _ h1, h1, rfl⟩)
  (fun j ft o k fu p hj hk' hne => by
   obtain ⟨_, rfl, rfl⟩ := hF j ft o hj
   obtain ⟨_, rfl, rfl⟩ := hF k fu p hk'
   rcases Nat.lt_or_gt_of_ne hne with h | h
   ·exact .inl (hmul _ _ h)
   ·exact .inr (hmul _ _ h))
  parts.toList r [] hr (by simpa [Function.comp_def] using hg2) rfl cs (List.replicate n (zero P e)) (fun j => some .imm) (fun _ => .leaf) hlen (by simp)
  (fun j ft o hj => by
   obtain ⟨h1, rfl, rfl⟩ := hF j ft o hj
   have hzz := z4 j h1
   have hd : (List.replicate n (zero P ft)).getD j .und = zD P 7 ft := by
    rw [List.getD_eq_getElem?_getD, List.getElem?_replicate, if_pos h1]
    exact zD_mono 7 ft _ hzz 8 (by omega)
   rw [hd]
   exact Own.imm (zero_rep 7 ft _ hzz))
  (fun j => List.nodup_nil) (fun i j b hb _ => by simp [Lt.blocks] at hb) (fun j b hb => by simp [Lt.blocks] at hb)
 have hrun : (execOp a.eval o).run P w = .ok (.value (.agg cells'.toArray)) w := by
  have := run_build w t (parts.map fun (i, x) => (i, a.eval x)) cells'.toArray (by
   rw [built_arr W hk z1 z2, hc', ← f1]
   simp)
  simp only [execOp, ho, Sem.run_bind, this, Result.andThen_ok, Sem.run_pure]
 have hmk : mkV P t cells' = .agg cells'.toArray := by rw [mkV, if_pos (by rw [hk]; rfl)]
 have himm := (partsD_os hr).1 rfl
 refine Does.value hrun (Out.pure R h ⟨cells', .arr hk f2 f3 fun j hj => ?_, hmk.symm⟩)
 have hT := f4 j e (j * P.cellsOf e) (by simp [hj])
 have hS : S' j = none ∨ S' j = some .imm := by
  by_cases hjr : j ∈ r.map (·.1)
  ·obtain ⟨x, hx, rfl⟩ := List.mem_map.1 hjr
   rw [f6 x hx]; exact himm x hx
  ·exact .inr (f5 j hjr)
 obtain ⟨L', h1, _⟩ := hT.own .imm (fun _ => .inl rfl) (fun u e => by rcases hS with h | h <;> rw [h] at e <;> cases e; rfl)
 exact h1.leaf_of_imm.2

end
end Go.Ab

/- Literals of slices; made slices. -/
namespace Go.Ab
variable {P : Program} {A : Ann}

theorem plain_slc {s : Sh} {ex : Option (Nat × Sh)} {n : Nat} (h : (Sh.slc s ex).plain n = true) : ∃ v, Sh.slc s ex = .slc v none := by
 cases ex with
 | none => exact ⟨s, rfl⟩
 | some x => cases n <;> simp [Sh.plain] at h

/-- The cells of zeros, one behind the other. -/
theorem seg_zeros {z : Array Value} {n j : Nat} (hj : j < n) : seg ((Array.range (n * z.size)).map fun i => z[i % z.size]!).toList (j * z.size) z.size = z.toList := by
 have hm : j * z.size + z.size ≤ n * z.size := by rw [← Nat.succ_mul]; exact Nat.mul_le_mul_right _ hj
 apply List.ext_getElem?
 intro i
 by_cases hi : i < z.size
 ·rw [seg_get hi]
  have h1 : j * z.size + i < n * z.size := by omega
  have h2 : (j * z.size + i) % z.size = i := by rw [Nat.add_comm, Nat.add_mul_mod_self_right]; exact Nat.mod_eq_of_lt hi
  simp only [Array.toList_map, List.getElem?_map, Array.getElem?_toList]
  rw [Array.getElem?_range, if_pos h1]
  simp only [Option.map_some, h2]
  simp [hi]
 ·rw [List.getElem?_eq_none (by rw [seg_length (by simpa using hm)]; omega), List.getElem?_eq_none (by simpa using hi)]

theorem nodup_le : ∀ (n : Nat) (l : List Nat), l.Nodup → (∀ x ∈ l, x < n) → l.length ≤ n
 | 0, l, _, h => by
  cases l with
  | nil => simp
  | cons x l => exact absurd (h x (by simp)) (by omega)
 | n + 1, l, hn, h => by
  have h1 := nodup_le n (l.erase n) (hn.erase n) fun x hx => by
   have := (List.Nodup.mem_erase_iff hn).1 hx
   have h2 := h x this.2
   have h3 := this.1
   omega
  by_cases hm : n ∈ l
  ·have := List.length_erase_of_mem hm
   omega
  ·rw [List.erase_of_not_mem hm] at h1; omega

theorem all_given : ∀ (n : Nat) (l : List Nat), nodupB l = true → (∀ x ∈ l, x < n) → l.length = n → ∀ j, j < n → j ∈ l := by
 intro n l hn hl hlen j hj
 have hnd : l.Nodup := by
  clear hl hlen
  induction l with
  | nil => exact List.nodup_nil
  | cons a l ih => rw [nodupB_cons] at hn; exact List.nodup_cons.2 ⟨hn.1, ih hn.2⟩
 by_cases hjl : j ∈ l
 ·exact hjl
 ·exfalso
  have h2 : (j :: l).Nodup := List.nodup_cons.2 ⟨hjl, hnd⟩
  have h3 := nodup_le n _ h2 fun x hx => by
   rcases List.mem_cons.1 hx with rfl | hx
   ·exact hj
   ·exact hl x hx
  rw [List.length_cons] at h3
  omega

theorem elParts_mem : ∀ {r : List (Nat × Option Sh × D)} {x : Nat × Option Sh × D} {s : Sh}, x ∈ r → x.2.1 = some s → ∃ u, elParts r = some u ∧ (u = s ∨ u = .imm)
 | (j, none, d) :: r, x, s, hx, hs => by
  rcases List.mem_cons.1 hx with rfl | hx
  ·cases hs
  ·simp only [elParts]; exact elParts_mem hx hs
 | (j, some v, d) :: r, x, s, hx, hs => by
  simp only [elParts]
  rcases List.mem_cons.1 hx with rfl | hx
  ·injection hs with hs
   subst hs
   split
   ·rename_i u _
    rw [cond_eq]
    split
    ·exact ⟨_, rfl, .inl rfl⟩
    ·exact ⟨_, rfl, .inr rfl⟩
   ·exact ⟨_, rfl, .inl rfl⟩
  ·obtain ⟨u, hu, h⟩ := elParts_mem hx hs
   rw [hu]
   simp only [cond_eq]
   split
   ·rename_i hb
    have := Sh.eq_of_beq hb
    subst this
    exact ⟨_, rfl, h⟩
   ·exact ⟨_, rfl, .inr rfl⟩
theorem elParts_all : ∀ {r : List (Nat × Option Sh × D)} {u : Sh}, elParts r = some u → ∃ x ∈ r, ∃ s, x.2.1 = some s
 | (j, none, d) :: r, u, h => by
  simp only [elParts] at h
  obtain ⟨x, hx, s, hs⟩ := elParts_all h
  exact ⟨x, List.mem_cons_of_mem _ hx, s, hs⟩
 | (j, some v, d) :: r, u, h => ⟨(j, some v, d), by simp, v, rfl⟩

section
variable {X0 Y0 : Nat → Prop} {w0 : World} {g : St} {ph : Nat → Ph} {a : Act} {w : World} {o : Oper} {K : Dl → Prop}

theorem step_buildSlice {t dst n e : Nat} {parts : Array (Nat × Operand)} (W : WF P) (ho : o.op = .buildSlice t n parts) (R : RelA P A X0 Y0 w0 g ph a w) (hk : tk P t = .slc e)
  (h : buildSliceD P (lookO g.ob) dst t n (parts.toList.map fun x => (x.1, g.av x.2)) K) : Does P o a w (Out P A X0 Y0 w0 g a K) := by
 simp only [buildSliceD, hk] at h
 split at h <;> try contradiction
 rename_i r os hr
 rw [cond_eq] at h
 split at h <;> try contradiction
 rename_i hg
 simp only [Bool.and_eq_true, List.map_map] at hg
 obtain ⟨⟨⟨⟨⟨hg1, hg2⟩, hg3⟩, hg4⟩, hg5⟩, hg6⟩ := hg
 obtain ⟨i, cs, z1, z2, z3⟩ := W.zero e hg1
 have hzr := fun X => zero_rep (A := A) (X := X) (w := w) 8 e cs z3
 have hc := rep_cells (hzr fun _ => False)
 have hc' : (mkV P e cs).cells = cs.toArray := by rw [← Array.toList_inj, hc]
 have hlen : cs.length = P.cellsOf e := (hzr fun _ => False).length W
 have hF : ∀ j ft o, (fun j => if j < n then some (e, j * P.cellsOf e) else none) j = some (ft, o) → j < n ∧ ft = e ∧ o = j * P.cellsOf e := fun j ft o h => by
  simp only at h
  split at h
  ·rename_i hj
   injection h with h
   injection h with h1 h2
   exact ⟨hj, h1.symm, h2.symm⟩
  ·cases h
 have hty : (fun j => cond (Nat.blt j n) (some e) none) = fun j => ((if j < n then some (e, j * P.cellsOf e) else none).map (·.1)) := by
  funext j
  by_cases hj : j < n
  ·rw [if_pos hj, show Nat.blt j n = true by simpa [Nat.blt_eq] using hj]; rfl
  ·rw [if_neg hj, show Nat.blt j n = false by rw [Bool.eq_false_iff, Ne, Nat.blt_eq]; exact hj]; rfl
 have hr0 := hr
 rw [hty] at hr
 have hmul : ∀ j k, j < k → j * P.cellsOf e + P.cellsOf e ≤ k * P.cellsOf e := fun j k h => by
  rw [← Nat.succ_mul]; exact Nat.mul_le_mul_right _ h
 let zc : Array Value := (Array.range (n * P.cellsOf e)).map fun i => cs.toArray[i % cs.toArray.size]!
 have hzs : cs.toArray.size = P.cellsOf e := by simp [hlen]
 have hzc : ∀ j, j < n → seg zc.toList (j * P.cellsOf e) (P.cellsOf e) = cs := fun j hj => by
  have := seg_zeros (z := cs.toArray) (n := n) hj
  rw [hzs] at this
  simp only [zc, hzs]
  exact this
 obtain ⟨cells', S', Lk', f1, f2, f3, f4, f5, f6, f7, f8, f9, f10, f11, f12⟩ := fill_parts W R.objs (ev := a.eval) (av := g.av) (evs R) (F := fun j => if j < n then some (e, j * P.cellsOf e) else none) (N := n * P.cellsOf e) (M := n) (place := fun j => some (j * P.cellsOf e, P.cellsOf e))
  (fun j ft o hj => by
   obtain ⟨h1, rfl, rfl⟩ := hF j ft o hj
   exact ⟨hmul _ _ h1, h1, rfl⟩)
  (fun j ft o k fu p hj hk' hne => by
   obtain ⟨_, rfl, rfl⟩ := hF j ft o hj
   obtain ⟨_, rfl, rfl⟩ := hF k fu p hk'
   rcases Nat.lt_or_gt_of_ne hne with h | h
   ·exact .inl (hmul _ _ h)
   ·exact .inr (hmul _ _ h))
  parts.toList r os hr (by simpa [Function.comp_def] using hg2) hg3 zc.toList (List.replicate n (zero P e)) (fun j => some .imm) (fun _ => .leaf) (by simp [zc]) (by simp)
  (fun j ft o hj => by
   obtain ⟨h1, rfl, rfl⟩ := hF j ft o hj
   have hd : (List.replicate n (zero P ft)).getD j .und = zD P 8 ft := by
    rw [List.getD_eq_getElem?_getD, List.getElem?_replicate, if_pos h1]; rfl
   rw [hd, hzc j h1]
   exact Own.imm (hzr _))
  (fun j => List.nodup_nil) (fun i j b hb _ => by simp [Lt.blocks] at hb) (fun j b hb => by simp [Lt.blocks] at hb)
 have hrun : (execOp a.eval o).run P w = .ok (.value (.slice (some ⟨w.heap.size, 0, none⟩) n n)) (addRow w cells'.toArray e) := by
  have hfill : Instr.fill (fun i => some (i * P.cellsOf e, P.cellsOf e)) zc (parts.map fun (i, x) => (i, a.eval x)).toList = some cells'.toArray := by
   rw [← f1]; simp
  obtain ⟨ie, i1, i2, _⟩ := info_of_tk (W.elem t e hk)
  have h24 : ¬ (n * P.cellsOf e > 2 ^ 24) := by have := Nat.le_of_ble_eq_true hg4; omega
  by_cases h0 : n * P.cellsOf e = 0
  ·have harr : (Array.range (n * P.cellsOf e)).map (fun x => (#[] : Array Value)[x % (#[] : Array Value).size]!) = zc := by simp [zc, h0]
   simp only [execOp, ho, Instr.buildSlice, Sem.run_bind, run_underlying (und_slc hk), Result.andThen_ok, run_sizeOf (W.elem t e hk), if_neg h24, if_pos h0, Sem.run_pure, harr, hfill]
   simp [newRow, addRow]
  ·have harr : (Array.range (n * P.cellsOf e)).map (fun x => cs.toArray[x % cs.toArray.size]!) = zc := rfl
   have hzv : (zeroValue e).run P w = .ok (mkV P e cs) w := by simp [zeroValue, typeInfo, z1, z2]
   simp only [execOp, ho, Instr.buildSlice, Sem.run_bind, run_underlying (und_slc hk), Result.andThen_ok, run_sizeOf (W.elem t e hk), if_neg h24, if_neg h0, Sem.run_pure, hzv, hc', harr, hfill]
   simp [newRow, addRow]
 let u : Sh := (elParts r).getD .imm
 have hpl : ∀ x ∈ r, ∀ s, x.2.1 = some s → s.plain 8 = true := fun x hx s hs => by
  have := List.all_eq_true.1 hg5 x hx
  simp only [plainPart, hs] at this
  exact this
 have hlt : ∀ x ∈ r, x.1 < n := fun x hx => by
  have hx' : x.1 ∈ parts.toList.map (·.1) := by rw [← f12]; exact List.mem_map_of_mem hx
  obtain ⟨y, hy, e1⟩ := List.mem_map.1 hx'
  have : ∀ (l : List (Nat × AV)) (r : List (Nat × Option Sh × D)) (os : Objs), partsD P (lookO g.ob) (fun j => cond (Nat.blt j n) (some e) none) l = some (r, os) → ∀ y ∈ l, y.1 < n := by
   intro l
   induction l with
   | nil => intro _ _ _ y hy; cases hy
   | cons z l ih =>
    obtain ⟨jz, az⟩ := z
    intro r os hp y hy
    simp only [partsD] at hp
    split at hp <;> try contradiction
    rename_i tt htt
    rw [cond_eq] at htt
    split at htt <;> try contradiction
    rename_i hb
    split at hp <;> try contradiction
    rename_i h2
    rcases List.mem_cons.1 hy with rfl | hy
    ·rw [Nat.blt_eq] at hb; exact hb
    ·exact ih _ _ h2 y hy
  rw [← e1]
  exact this _ _ _ hr0 (y.1, g.av y.2) (List.mem_map.2 ⟨y, hy, rfl⟩)
 refine Does.value hrun ⟨_, h, ?_⟩
 have hhere := addRow_here w cells'.toArray e
 have hkeep := addRow_keeps w cells'.toArray e
 -- each element
 have hel : ∀ j, j < n → ∃ L, (∀ X' : Nat → Prop, (∀ b, b < w.heap.size → X' b → Xof X0 (lookO g.ob) ph b) → (∀ b, b < w.heap.size → X' b → ∀ c y, ate os c → lookO g.ob c = some y → b ∈ (ph c).F → u ≠ .imm) →
   Own P A X' (addRow w cells'.toArray e) L u e (seg cells' (j * P.cellsOf e) (P.cellsOf e)) ((putParts (List.replicate n (zero P e)) r).getD j .und)) ∧ (∀ b ∈ L.blocks, b ∈ (Lk' j).blocks) ∧ L.blocks.Nodup := by
  intro j hj
  have hT := f4 j e (j * P.cellsOf e) (by simp [hj])
  have hfr : ∀ (s : Sh) (L : Lt), Own P A (Xof X0 (lookO g.ob) ph) w L s e (seg cells' (j * P.cellsOf e) (P.cellsOf e)) ((putParts (List.replicate n (zero P e)) r).getD j .und) → (∀ b ∈ L.blocks, b < w.heap.size) → ∀ X' : Nat → Prop, (∀ b, b < w.heap.size → X' b → Xof X0 (lookO g.ob) ph b) →
    Own P A X' (addRow w cells'.toArray e) L s e (seg cells' (j * P.cellsOf e) (P.cellsOf e)) ((putParts (List.replicate n (zero P e)) r).getD j .und) := fun s L hO hB X' hX' =>
   hO.frame hkeep.size hX' (fun b hb _ => hkeep.block b hb id) fun b hb => hkeep.block b (hB b hb) id
  have hBl : ∀ b ∈ (Lk' j).blocks, b < w.heap.size := fun b hb => by
   rcases f10 j b hb with h | ⟨c, y, _, hy, hm⟩
   ·simp [Lt.blocks] at h
   ·exact (ob_ok R hy).lt b hm
  by_cases hjr : j ∈ r.map (·.1)
  ·obtain ⟨x, hx, hxj⟩ := List.mem_map.1 hjr
   have hSj : S' j = x.2.1 := by rw [← hxj]; exact f6 x hx
   cases hs : x.2.1 with
   | none =>
    -- a nil: as the others, if they are slices
    obtain ⟨h1, h2, h3, e', he'⟩ : Taken P A (Xof X0 (lookO g.ob) ph) w none e (seg cells' (j * P.cellsOf e) (P.cellsOf e)) ((putParts (List.replicate n (zero P e)) r).getD j .und) (Lk' j) := by rw [hSj, hs] at hT; exact hT
    have : u = .imm ∨ ∃ v, u = .slc v none := by
     cases hep : elParts r with
     | none => left; simp [u, hep]
     | some v =>
      have hu : u = v := by simp [u, hep]
      obtain ⟨y, hy, s, hs'⟩ := elParts_all hep
      obtain ⟨v', hv', hvs⟩ := elParts_mem hy hs'
      rw [hep] at hv'
      injection hv' with hv'
      subst hv'
      rcases hvs with rfl | hvs
      ·-- the shape of a taken value of this type
       have hyj : S' y.1 = some v := by rw [f6 y hy, hs']
       have hTy := f4 y.1 e (y.1 * P.cellsOf e) (by simp [hlt y hy])
       rw [hyj] at hTy
       have hpv := hpl y hy _ hs'
       rw [hu]
       have hTz : Own P A (Xof X0 (lookO g.ob) ph) w (Lk' y.1) v e _ _ := hTy
       generalize Lk' y.1 = Ly at hTz
       generalize seg cells' (y.1 * P.cellsOf e) (P.cellsOf e) = cy at hTz
       generalize (putParts (List.replicate n (zero P e)) r).getD y.1 .und = dy at hTz
       cases hTz with
       | imm => exact .inl rfl
       | nil => exact .inr ⟨_, rfl⟩
       | slc => exact .inr (plain_slc hpv)
       | agg h => rw [h] at he'; cases he'
       | gone => simp [Sh.plain] at hpv
       | mp h => rw [h] at he'; cases he'
       | it => simp [Sh.plain] at hpv
      ·left; rw [hu, hvs]
    rcases this with hu | ⟨v, hu⟩
    ·refine ⟨.leaf, fun X' _ _ => ?_, by simp [Lt.blocks], by simp [Lt.blocks]⟩
     rw [hu, h2, h3]
     exact .imm (.slcN he')
    ·refine ⟨.nil, fun X' _ _ => ?_, by simp [Lt.blocks], by simp [Lt.blocks]⟩
     rw [hu, h2, h3]
     exact .nil he'
   | some s =>
    rw [hSj, hs] at hT
    obtain ⟨v, hv, hvs⟩ := elParts_mem hx hs
    have hu : u = v := by simp [u, hv]
    rcases hvs with rfl | hvs
    ·exact ⟨Lk' j, fun X' hX' _ => by rw [hu]; exact hfr _ _ hT hBl X' hX', fun _ h => h, f8 j⟩
    ·refine ⟨.leaf, fun X' hX' hX2 => ?_, by simp [Lt.blocks], by simp [Lt.blocks]⟩
     rw [hu, hvs]
     refine .imm ((hfr _ _ hT hBl X' hX').plain (fun _ _ h => h) 8 (.inr (hpl x hx s hs)) fun b hb hXb => ?_)
     rcases f10 j b hb with h | ⟨c, y, g1, g2, g3⟩
     ·simp [Lt.blocks] at h
     ·exact hX2 b (hBl b hb) hXb c y g1 g2 g3 (hu.trans hvs)
  ·have hSj := f5 j hjr
   have hu : u = .imm := by
    rcases Bool.or_eq_true_iff.1 hg6 with h | h
    ·exact isImm_iff.1 h
    ·exfalso
     exact hjr (all_given n (r.map (·.1)) f7 (fun x hx => by obtain ⟨y, hy, rfl⟩ := List.mem_map.1 hx; exact hlt y hy) (by simpa using beq_iff.1 h) j hj)
   rw [hSj] at hT
   obtain ⟨hL, hRp⟩ := (hT : Own P A _ w _ .imm e _ _).leaf_of_imm
   exact ⟨.leaf, fun X' hX' _ => by rw [hu]; exact hfr _ _ (.imm hRp) (by simp [Lt.blocks]) X' hX', by simp [Lt.blocks], by simp [Lt.blocks]⟩
 obtain ⟨ks, hks, hkr⟩ := list_choice Lt.leaf n hel
 have hblk : ∀ b, b ∈ blocksL ks → ∃ j, j < n ∧ b ∈ (Lk' j).blocks := fun b hb => by
  obtain ⟨j, hj, hb⟩ := mem_blocksL.1 hb
  exact ⟨j, by omega, (hkr j (by omega)).2.1 b hb⟩
 have hltk : ∀ b, b ∈ blocksL ks → b < w.heap.size := fun b hb => by
  obtain ⟨j, _, hb⟩ := hblk b hb
  rcases f10 j b hb with h | ⟨c, y, _, hy, hm⟩
  ·simp [Lt.blocks] at h
  ·exact (ob_ok R hy).lt b hm
 have hkimm : u = .imm → ks = List.replicate n .leaf := by
  intro hu
  apply List.ext_getElem?
  intro j
  by_cases hj : j < n
  ·have h1 := (hkr j hj).1 (fun _ => False) (fun _ _ h => h.elim) (fun _ _ h => h.elim)
   rw [hu] at h1
   have := h1.leaf_of_imm.1
   rw [List.getElem?_replicate, if_pos hj, List.getElem?_eq_getElem (by omega)]
   rw [List.getD_eq_getElem?_getD, List.getElem?_eq_getElem (by omega)] at this
   exact congrArg some this
  ·rw [List.getElem?_eq_none (by omega), List.getElem?_eq_none (by simpa using hj)]
 have hplen : (putParts (List.replicate n (zero P e)) r).length = n := f3
 have hval : mkV P t [.slice (some ⟨w.heap.size, 0, none⟩) n n] = .slice (some ⟨w.heap.size, 0, none⟩) n n := mkV_one (by rw [hk]; rfl)
 rw [← hval]
 refine newVal R (L := .slc w.heap.size 0 n ks) hkeep (fun X' hX' hX2 => ?_) (by simp) ?_ (fun b hb => ?_) f11 fun b hb => ?_
 ·have := Own.slc (P := P) (A := A) (X := X') (w := addRow w cells'.toArray e) (t := t) (s := u) (ex := none) (b := w.heap.size) (off := 0) (cap := n) (kids := ks) (xs := putParts (List.replicate n (zero P e)) r) hk hhere (by rw [hks, hplen]) (by rw [hplen]; exact Nat.le_refl _) (by simp [f2]) fun j hj => by
   rw [hplen] at hj
   rw [Nat.zero_add]
   refine (hkr j hj).1 X' hX' fun b hb hXb c y hc hy hm hu => ?_
   have := hX2 b hb hXb c y hc hy hm
   simp only [Lt.blocks, List.mem_cons] at this
   rcases this with rfl | this
   ·omega
   ·rw [hkimm hu] at this
    obtain ⟨i, hi, hb'⟩ := mem_blocksL.1 this
    rw [List.getD_eq_getElem?_getD, List.getElem?_replicate] at hb'
    split at hb' <;> simp [Lt.blocks] at hb'
  rw [hplen] at this
  exact this
 ·simp only [Lt.blocks, List.nodup_cons]
  refine ⟨fun hb => by have := hltk _ hb; omega, nodup_blocksL_mk (fun i hi => (hkr i (by omega)).2.2) fun i j b hi hj hb hb' => f9 i j b ((hkr i (by omega)).2.1 b hb) ((hkr j (by omega)).2.1 b hb')⟩
 ·rw [addRow_size]
  simp only [Lt.blocks, List.mem_cons] at hb
  rcases hb with rfl | hb
  ·omega
  ·have := hltk _ hb; omega
 ·simp only [Lt.blocks, List.mem_cons] at hb
  rcases hb with rfl | hb
  ·exact .inl (Nat.le_refl _)
  ·right
   obtain ⟨j, _, hb⟩ := hblk b hb
   rcases f10 j b hb with h | h
   ·simp [Lt.blocks] at h
   ·exact h

end
end Go.Ab

/- Made slices and maps. -/
namespace Go.Ab
variable {P : Program} {A : Ann}
section
variable {X0 Y0 : Nat → Prop} {w0 : World} {g : St} {ph : Nat → Ph} {a : Act} {w : World} {o : Oper} {K : Dl → Prop}

theorem step_makeSlice {t dst : Nat} {x y : Operand} {l c : Int} (W : WF P) (ho : o.op = .makeSlice t x y) (R : RelA P A X0 Y0 w0 g ph a w) (hl : intOf P (g.av x) = some l) (hc : intOf P (g.av y) = some c)
  (h : makeSliceD P (lookO g.ob) dst t l c K) : Does P o a w (Out P A X0 Y0 w0 g a K) := by
 unfold makeSliceD at h
 split at h <;> try contradiction
 rename_i e hk
 rw [cond_eq] at h
 split at h <;> try contradiction
 rename_i hg
 simp only [Bool.and_eq_true, Nat.blt_eq] at hg
 obtain ⟨hg1, hg2⟩ := hg
 obtain ⟨⟨h0, h1, h2⟩, h⟩ := h
 obtain ⟨i, cs, z1, z2, z3⟩ := W.zero e hg1
 obtain ⟨i', i1, i2, i3⟩ := info_of_tk (W.elem t e hk)
 rw [z1] at i1
 injection i1 with i1
 subst i1
 obtain ⟨kl, hx⟩ := intOf_eval W R hl
 obtain ⟨kc, hy⟩ := intOf_eval W R hc
 have hzr := fun X => zero_rep (A := A) (X := X) (w := w) 8 e cs z3
 have hcc := rep_cells (hzr fun _ => False)
 have hc' : (mkV P e cs).cells = cs.toArray := by rw [← Array.toList_inj, hcc]
 have hlen : cs.length = P.cellsOf e := (hzr fun _ => False).length W
 have hb : (i.bytes : Int) * c ≤ 70368744177664 := by rw [i3, Int.mul_comm]; exact h2
 have hc63 : c ≤ 70368744177664 := by
  rw [i3] at hb
  have : (1 : Int) * c ≤ (P.bytesOf e : Int) * c := Int.mul_le_mul_of_nonneg_right (by omega) (by omega)
  omega
 have hrun := run_make (P := P) w t e i (mkV P e cs) (und_slc hk) z1 z2 kl kc l c h0 h1 (by omega) (by omega)
 rw [hc', i2] at hrun
 have hw' : w.alloc (.cells (madeCells cs.toArray (c.toNat * P.cellsOf e)) e) = addRow w (madeCells cs.toArray (c.toNat * P.cellsOf e)) e := rfl
 rw [hw'] at hrun
 have hzs : cs.toArray.size = P.cellsOf e := by simp [hlen]
 have hzc : ∀ j, j < c.toNat → seg (madeCells cs.toArray (c.toNat * P.cellsOf e)).toList (j * P.cellsOf e) (P.cellsOf e) = cs := fun j hj => by
  have := seg_zeros (z := cs.toArray) (n := c.toNat) hj
  rw [hzs] at this
  unfold madeCells
  rw [hzs]
  exact this
 have hhere := addRow_here w (madeCells cs.toArray (c.toNat * P.cellsOf e)) e
 have hkeep := addRow_keeps w (madeCells cs.toArray (c.toNat * P.cellsOf e)) e
 obtain ⟨L0, hL0⟩ : ∃ L0 : Lt, ∀ X w', ∃ L, Own P A X w' L (zSh P 4 e) e cs (zD P 8 e) ∧ L.blocks = [] := ⟨.leaf, fun X w' => zero_own W 4 8 e cs z3⟩
 have hx0 := hL0 (fun _ => True) (addRow w (madeCells cs.toArray (c.toNat * P.cellsOf e)) e)
 obtain ⟨Lz, hLz, hLb⟩ := hx0
 have hval : mkV P t [.slice (some ⟨w.heap.size, 0, none⟩) l.toNat c.toNat] = .slice (some ⟨w.heap.size, 0, none⟩) l.toNat c.toNat := mkV_one (by rw [hk]; rfl)
 refine Does.value (v := mkV P t [.slice (some ⟨w.heap.size, 0, none⟩) l.toNat c.toNat]) ?_ ⟨_, h, newVal R (L := .slc w.heap.size 0 c.toNat (List.replicate l.toNat Lz)) hkeep (fun X' _ _ => ?_) (by simp) ?_ (fun b hb => ?_) (fun _ => .inl rfl) fun b hb => ?_⟩
 ·rw [hval]
  simp only [execOp, ho, hx, hy, Sem.run_bind, hrun, Result.andThen_ok, Sem.run_pure]
 ·have hxs : (List.replicate l.toNat (zero P e)).length = l.toNat := by simp
  have := Own.slc (P := P) (A := A) (X := X') (w := addRow w (madeCells cs.toArray (c.toNat * P.cellsOf e)) e) (t := t) (s := zSh P 4 e) (ex := none) (b := w.heap.size) (off := 0) (cap := c.toNat) (kids := List.replicate l.toNat Lz) (xs := List.replicate l.toNat (zero P e)) hk hhere (by simp) (by simp; omega) (by simp [size_madeCells]) fun j hj => by
   rw [hxs] at hj
   rw [Nat.zero_add, hzc j (by omega)]
   have e1 : (List.replicate l.toNat Lz).getD j .leaf = Lz := by simp [List.getD_eq_getElem?_getD, List.getElem?_replicate, hj]
   have e2 : (List.replicate l.toNat (zero P e)).getD j .und = zD P 8 e := by simp [List.getD_eq_getElem?_getD, List.getElem?_replicate, hj, zero]
   rw [e1, e2]
   exact hLz.frame (Nat.le_refl _) (fun _ _ _ => trivial) (fun _ _ _ => rfl) fun _ _ => rfl
  rw [hxs] at this
  exact this
 ·simp only [Lt.blocks, List.nodup_cons]
  have : blocksL (List.replicate l.toNat Lz) = [] := by
   generalize l.toNat = n
   induction n with
   | zero => rfl
   | succ n ih => simp [List.replicate_succ, blocksL, ih, hLb]
  rw [this]
  simp
 ·rw [addRow_size]
  simp only [Lt.blocks, List.mem_cons] at hb
  rcases hb with rfl | hb
  ·omega
  ·obtain ⟨j, hj, hb⟩ := mem_blocksL.1 hb
   have hj' : j < l.toNat := by simpa using hj
   have e1 : (List.replicate l.toNat Lz).getD j .leaf = Lz := by simp [List.getD_eq_getElem?_getD, List.getElem?_replicate, hj']
   rw [e1, hLb] at hb
   cases hb
 ·simp only [Lt.blocks, List.mem_cons] at hb
  rcases hb with rfl | hb
  ·exact .inl (Nat.le_refl _)
  ·obtain ⟨j, hj, hb⟩ := mem_blocksL.1 hb
   have hj' : j < l.toNat := by simpa using hj
   have e1 : (List.replicate l.toNat Lz).getD j .leaf = Lz := by simp [List.getD_eq_getElem?_getD, List.getElem?_replicate, hj']
   rw [e1, hLb] at hb
   cases hb

/-- The world with an object more that is no row. -/
def addObj (w : World) (x : Go.Obj) : World := { w with heap := w.heap.push x }
theorem addObj_keeps (w : World) (x : Go.Obj) : Keeps (fun _ => False) w (addObj w x) :=
 ⟨rfl, rfl, rfl, by simp [addObj], fun b hb _ => by simp only [addObj, Array.getElem?_push]; rw [if_neg (by omega)]⟩
theorem addObj_here (w : World) (x : Go.Obj) : (addObj w x).heap[w.heap.size]? = some x := by simp only [addObj, Array.getElem?_push, if_true]
theorem addObj_size (w : World) (x : Go.Obj) : (addObj w x).heap.size = w.heap.size + 1 := by simp [addObj]

theorem step_makeMap {t dst k e : Nat} (ho : o.op = .makeMap t none) (R : RelA P A X0 Y0 w0 g ph a w) (hk : tk P t = .map k e)
  (h : K (newO (lookO g.ob) dst (.val dst [] t) ⟨false, t, .mp, .map []⟩ [])) : Does P o a w (Out P A X0 Y0 w0 g a K) := by
 have hval : mkV P t [.map (some w.heap.size)] = .map (some w.heap.size) := mkV_one (by rw [hk]; rfl)
 refine Does.value (v := mkV P t [.map (some w.heap.size)]) (w' := addObj w (.map #[] 0)) ?_ ⟨_, h, newVal R (L := .mp w.heap.size) (addObj_keeps w _) (fun X' _ _ => ?_) (by simp) (by simp [Lt.blocks]) (fun b hb => ?_) (fun _ => .inl rfl) fun b hb => ?_⟩
 ·rw [hval]
  simp [execOp, ho, Instr.makeMap, newObj, addObj, Sem.run]
 ·exact Own.mp (ck := fun _ => []) (ce := fun _ => []) hk (addObj_here w _) rfl (fun j hj => by simp at hj) (fun j hj => by simp at hj) (fun j hj => by simp at hj) (fun j hj => by simp at hj) (by simp) (by simp)
 ·simp only [Lt.blocks, List.mem_singleton] at hb
  rw [hb, addObj_size]; omega
 ·simp only [Lt.blocks, List.mem_singleton] at hb
  exact .inl (by omega)

end
end Go.Ab

/- Parts of tuples, type assertions. -/
namespace Go.Ab
variable {P : Program} {A : Ann}
section
variable {X0 Y0 : Nat → Prop} {w0 : World} {g : St} {ph : Nat → Ph} {a : Act} {w : World} {o : Oper} {K : Dl → Prop}

/-- An object gets another name. -/
theorem RelD.rename (R : RelA P A X0 Y0 w0 g ph a w) {dst k : Nat} {x : Obj} {v : Value} {av : AV} (hk : lookO g.ob k = some x)
  (hv : ∀ (X : Nat → Prop) (ob : Nat → Option Obj) (p : Nat → Ph), ob dst = some x → p dst = ph k → AVR P A X w ob p av v) :
  RelD P A X0 Y0 w0 (look g.sl) (lookO g.ob) a.tmps (newO (lookO g.ob) dst av x [(k, none)]) v w := by
 refine RelD.fresh (cons := fun c => c = k) (p := ph k) (x := x) R (Keeps.refl _ w) ?_ ?_ ?_ ?_ ?_ ?_
 ·rw [upO_new, if_pos rfl]
 ·rintro c hc rfl
  rw [upO_new, if_neg hc, upO]
  simp [findO]
 ·intro c hc hck
  rw [upO_new, if_neg hc, upO]
  simp only [findO]
  rw [if_neg (fun e => hck e.symm)]
  rfl
 ·exact fun b hb => .inr ⟨k, x, rfl, hk, hb⟩
 ·exact fun hX => (R.objs.ok k x hk).frame (Nat.le_refl _) hX (fun _ _ _ => rfl) fun _ _ => rfl
 ·exact fun _ => hv _ _ _ (by rw [upO_new, if_pos rfl]) (by simp [upPh])

theorem val_moves {X X' : Nat → Prop} {ob ob' : Nat → Option Obj} {ph ph' : Nat → Ph} {w : World} {k dst u : Nat} {x : Obj} {v : Value} (h : AVR1 P A X w ob ph (.val k [] u) v) (hk : ob k = some x) (hd : ob' dst = some x) (hp : ph' dst = ph k) :
  AVR P A X' w ob' ph' (.val dst [] u) v := by
 intro y hy
 rw [hd] at hy
 injection hy with hy
 subst hy
 obtain ⟨h1, h2⟩ := h x hk
 rw [hp]
 refine ⟨fun e => ?_, h2⟩
 obtain ⟨m, hm, _⟩ := h1 e
 cases hm
theorem ptr_moves {X X' : Nat → Prop} {ob ob' : Nat → Option Obj} {ph ph' : Nat → Ph} {w : World} {k dst u : Nat} {x : Obj} {v : Value} (h : AVR1 P A X w ob ph (.ptr k [] u) v) (hk : ob k = some x) (hd : ob' dst = some x) (hp : ph' dst = ph k) :
  AVR P A X' w ob' ph' (.ptr dst [] u) v := by
 intro y hy
 rw [hd] at hy
 injection hy with hy
 subst hy
 rw [hp]
 exact h x hk

theorem run_extract {x : Operand} {i : Nat} {vs : Array Value} (ho : o.op = .extract x i) (hx : a.eval x = .tuple vs) (hi : i < vs.size) : (execOp a.eval o).run P w = .ok (.value (vs.getD i undef)) w := by
 have : vs[i]? = some (vs.getD i undef) := by simp [hi]
 simp only [execOp, ho, hx, Instr.extract, this, Sem.run_bind, Sem.run_pure, Result.andThen_ok]

theorem step_extract {x : Operand} {i : Nat} {l : List AV} (ho : o.op = .extract x i) (R : RelA P A X0 Y0 w0 g ph a w) (hav : g.av x = .tup l) (h : match (generalizing := false) l[i]? with
  | some (.val k [] u) => match o.dst, lookO g.ob k with
   | some dst, some ob => K (newO (lookO g.ob) dst (.val dst [] u) ob [(k, none)])
   | _, _ => False
  | some (.ptr k [] u) => match o.dst, lookO g.ob k with
   | some dst, some ob => K (newO (lookO g.ob) dst (.ptr dst [] u) ob [(k, none)])
   | _, _ => False
  | some (.imm t d) => K { v := .imm t d }
  | _ => False) : Does P o a w (Out P A X0 Y0 w0 g a K) := by
 have hx := AVR.eval R x
 rw [hav] at hx
 obtain ⟨vs, hvs, hsz, hel⟩ := hx
 split at h <;> try contradiction
 ·rename_i k u hi
  split at h <;> try contradiction
  rename_i dst ob _ hk
  have hlt := (List.getElem?_eq_some_iff.1 hi).1
  refine Does.value (run_extract ho hvs (by omega)) ⟨_, h, RelD.rename R hk fun X ob' p hd hp => val_moves (hel i _ hi) hk hd hp⟩
 ·rename_i k u hi
  split at h <;> try contradiction
  rename_i dst ob _ hk
  have hlt := (List.getElem?_eq_some_iff.1 hi).1
  refine Does.value (run_extract ho hvs (by omega)) ⟨_, h, RelD.rename R hk fun X ob' p hd hp => ptr_moves (hel i _ hi) hk hd hp⟩
 ·rename_i t d hi
  have hlt := (List.getElem?_eq_some_iff.1 hi).1
  exact Does.value (run_extract ho hvs (by omega)) (Out.pure R h (hel i _ hi))

theorem run_zeroValue {t : Nat} {i : TypeInfo} {cs : List Value} (h1 : P.info? t = some i) (h2 : i.zero = some (mkV P t cs)) : (zeroValue t).run P w = .ok (mkV P t cs) w := by
 simp [zeroValue, typeInfo, h1, h2]

theorem step_typeAssert {x : Operand} {xt t : Nat} (W : WF P) (ho : o.op = .typeAssert x xt t true) (R : RelA P A X0 Y0 w0 g ph a w) (h : match (generalizing := false) g.av x, tk P t with
  | .imm _ _, .ifc => False
  | .imm s d, _ => cond (isIfc P s && goodT P 8 t && isB P P.rt.bool) (cond (d.isT t) (K { v := .tup [.imm t d.un, .imm P.rt.bool (.bool true)] }) (K { v := .tup [.imm t (zero P t), .imm P.rt.bool (.bool false)] })) False
  | _, _ => False) : Does P o a w (Out P A X0 Y0 w0 g a K) := by
 have hx := AVR.eval R x
 split at h <;> try contradiction
 rename_i s d hav hni
 rw [hav] at hx
 rw [cond_eq] at h
 split at h <;> try contradiction
 rename_i hg
 simp only [Bool.and_eq_true] at hg
 obtain ⟨⟨g1, g2⟩, g3⟩ := hg
 have hs := isIfc_eq g1
 have hB := isB_eq g3
 obtain ⟨i, zs, z1, z2, z3⟩ := W.zero t g2
 have hzr := zero_rep (A := A) (X := Xof X0 (lookO g.ob) ph) (w := w) 8 t zs z3
 have hto : tk P t ≠ .other := hzr.tk_ne
 obtain ⟨td, htd, _⟩ := und_of_tk hto
 have hnif : ∀ m, td ≠ .interface m := fun m e => by
  subst e
  have := tk_of_und (k := tk P t) rfl hto
  rw [htd] at this
  exact hni this
 have tup : ∀ (c d : AV) (u v : Value), AVR1 P A (Xof X0 (lookO g.ob) ph) w (lookO g.ob) ph c u → AVR1 P A (Xof X0 (lookO g.ob) ph) w (lookO g.ob) ph d v → AVR P A (Xof X0 (lookO g.ob) ph) w (lookO g.ob) ph (.tup [c, d]) (.tuple #[u, v]) := fun c d u v h1 h2 => by
  refine ⟨#[u, v], rfl, rfl, fun i a ha => ?_⟩
  match i, ha with
  | 0, ha => simp only [List.getElem?_cons_zero, Option.some.injEq] at ha; subst ha; exact h1
  | 1, ha => simp only [List.getElem?_cons_succ, List.getElem?_cons_zero, Option.some.injEq] at ha; subst ha; exact h2
  | i + 2, ha => simp at ha
 have hfail : ∀ vv : Value, a.eval x = vv → (vv = .nilIface ∨ ∃ u c, vv = .iface u c ∧ u ≠ t) → (execOp a.eval o).run P w = .ok (.value (.tuple #[mkV P t zs, .bool false])) w := by
  intro vv hv hc
  have hz := run_zeroValue (w := w) z1 z2
  rcases hc with rfl | ⟨u, c, rfl, hu⟩
  ·cases td <;> first
    | (exact absurd rfl (hnif _))
    | (simp [execOp, ho, hv, Instr.typeAssert, run_underlying htd, hz])
  ·cases td <;> first
    | (exact absurd rfl (hnif _))
    | (simp [execOp, ho, hv, Instr.typeAssert, run_underlying htd, hz, hu])
 obtain ⟨cs, hR, hv⟩ := hx
 rw [cond_eq] at h
 cases hR with
 | ifcN _ =>
  rw [mkV_one (by rw [hs]; rfl)] at hv
  rw [if_neg (by simp [D.isT])] at h
  exact Does.value (hfail _ hv (.inl rfl)) (Out.pure R h (tup _ _ _ _ ⟨zs, hzr, rfl⟩ (rep_bool hB)))
 | ifc hss hu hr =>
  rename_i u d' cs'
  rw [mkV_one (by rw [hs]; rfl)] at hv
  simp only [D.isT, beq_iff, D.un] at h
  by_cases e : u = t
  ·subst e
   rw [if_pos rfl] at h
   refine Does.value (v := .tuple #[mkV P u cs', .bool true]) (w' := w) ?_ (Out.pure R h (tup _ _ _ _ ⟨cs', hr, rfl⟩ (rep_bool hB)))
   cases td <;> first
    | (exact absurd rfl (hnif _))
    | (simp [execOp, ho, hv, Instr.typeAssert, run_underlying htd])
  ·rw [if_neg e] at h
   exact Does.value (hfail _ hv (.inr ⟨u, _, rfl, e⟩)) (Out.pure R h (tup _ _ _ _ ⟨zs, hzr, rfl⟩ (rep_bool hB)))
 | _ => simp_all

end
end Go.Ab

/- A store. -/
namespace Go.Ab
variable {P : Program} {A : Ann}

theorem of_cond {b : Bool} {x : Prop} (h : cond b x False) : b = true ∧ x := by
 cases b
 ·exact h.elim
 ·exact ⟨rfl, h⟩
theorem of_cond' {b : Bool} {x : Prop} (h : cond b False x) : b = false ∧ x := by
 cases b
 ·exact ⟨rfl, h⟩
 ·exact h.elim

theorem Rep.oneCell (W : WF P) {X : Nat → Prop} {w : World} {t : Nat} {cs : List Value} {d : D} (h : Rep P A X w t cs d) : ∀ v ∈ cs, v.oneCell' = true := by
 have hseg : ∀ (cs : List Value) (i o n : Nat), o ≤ i → i < o + n → o + n ≤ cs.length → ∀ v, cs[i]? = some v → v ∈ seg cs o n := fun cs i o n h1 h2 h3 v hv => by
  have : (seg cs o n)[i - o]? = some v := by rw [seg_get (by omega), show o + (i - o) = i by omega]; exact hv
  exact List.mem_of_getElem? this
 induction h with
 | struct hk hc hd hf ih =>
  rename_i t fs cs ds
  intro v hv
  obtain ⟨i, hi, e⟩ := List.mem_iff_getElem.1 hv
  obtain ⟨j, ft, o, hj, h1, h2⟩ := W.cover t fs hk i (by omega)
  exact ih j ft o hj v (hseg cs i o _ h1 h2 (by have := (W.struct t fs hk j ft o hj).1; omega) v (by rw [List.getElem?_eq_getElem hi, e]))
 | arr hk hc hd hf ih =>
  rename_i t n e cs ds
  intro v hv
  obtain ⟨i, hi, ev⟩ := List.mem_iff_getElem.1 hv
  have hsz := (W.arr t n e hk).1
  have hpos : 0 < P.cellsOf e := by
   rcases Nat.eq_zero_or_pos (P.cellsOf e) with h | h
   ·rw [h, Nat.mul_zero] at hsz; omega
   ·exact h
  have hlt : i / P.cellsOf e < n := Nat.div_lt_of_lt_mul (by rw [Nat.mul_comm]; omega)
  have h1 := Nat.div_add_mod i (P.cellsOf e)
  have h2 := Nat.mod_lt i hpos
  rw [Nat.mul_comm] at h1
  have h3 : i / P.cellsOf e * P.cellsOf e + P.cellsOf e ≤ n * P.cellsOf e := by rw [← Nat.succ_mul]; exact Nat.mul_le_mul_right _ hlt
  exact ih _ hlt v (hseg cs i _ _ (by omega) (by omega) (by omega) v (by rw [List.getElem?_eq_getElem hi, ev]))
 | ifc hk hu hr ih =>
  intro v hv
  simp only [List.mem_singleton] at hv
  subst hv
  rfl
 | _ => intro v hv; simp only [List.mem_singleton] at hv; subst hv; rfl

theorem Own.oneCell (W : WF P) {X : Nat → Prop} {w : World} {L : Lt} {s : Sh} {t : Nat} {cs : List Value} {d : D} (h : Own P A X w L s t cs d) {n : Nat} (hp : s.plain n = true) : ∀ v ∈ cs, v.oneCell' = true :=
 (h.plain (X' := fun _ => False) (fun _ _ h => h.elim) n (.inr hp) fun _ _ h => h).oneCell W

theorem Own.block (W : WF P) {X : Nat → Prop} {w : World} : ∀ (p : Pth) {L : Lt} {s s' v : Sh} {t : Nat} {cs : List Value} {d : D} {lc : Option (Nat × Nat)} {u b o : Nat}, Own P A X w L s t cs d → s.put p v = some s' → s.owes p →
  L.loc P lc t p = some (b, o) → tyAt P t p = some u → (∀ b0 o0, lc = some (b0, o0) → ∃ c E, w.heap[b0]? = some (.cells c E (0, 0)) ∧ o0 + cs.length ≤ c.size) →
  ∃ c E, w.heap[b]? = some (.cells c E (0, 0)) ∧ o + P.cellsOf u ≤ c.size
 | [], L, s, s', v, t, cs, d, lc, u, b, o, h, _, _, hl, ht, hlc => by
  simp only [Lt.loc, tyAt, Option.some.injEq] at hl ht
  subst ht
  obtain ⟨c, E, h1, h2⟩ := hlc b o hl
  exact ⟨c, E, h1, by rw [← h.length W]; exact h2⟩
 | .fld j :: p, L, s, s', v, t, cs, d, lc, u, b, o, h, hs, ho, hl, ht, hlc => by
  simp only [Sh.put] at hs
  split at hs <;> try contradiction
  rename_i sj hsj
  split at hs <;> try contradiction
  rename_i u' hpj
  simp only [Sh.owes, hsj] at ho
  simp only [tyAt, Lt.loc] at ht hl
  split at ht <;> try contradiction
  rename_i fs hk
  rw [hk] at hl
  simp only at hl
  split at ht <;> try contradiction
  rename_i ft of hj
  rw [hj] at hl
  simp only at hl
  obtain ⟨ds, rfl, hd, hc, hf⟩ := h.fields hk (Sh.fld_all hsj)
  have hb := (W.struct _ _ hk _ _ _ hj).1
  refine Own.block W p (hf j ft of hj sj hsj) hpj ho hl ht fun b0 o0 e => ?_
  cases lc with
  | none => simp at e
  | some x =>
   simp only [Option.map_some, Option.some.injEq, Prod.mk.injEq] at e
   obtain ⟨rfl, rfl⟩ := e
   obtain ⟨c, E, h1, h2⟩ := hlc _ _ rfl
   exact ⟨c, E, h1, by rw [seg_length (by omega)]; omega⟩
 | .idx i :: p, L, s, s', v, t, cs, d, lc, u, b, o, h, hs, ho, hl, ht, hlc => by
  cases h with
  | slc hk hb h1 h2 h3 h4 =>
   rename_i e s1 ex b1 off cap E c kids xs
   simp only [tyAt, Lt.loc, hk] at ht hl
   split at hl <;> try contradiction
   rename_i hi
   have hi' : i < xs.length := by omega
   have hroom : off + i * P.cellsOf e + P.cellsOf e ≤ c.size := by
    have := Nat.mul_le_mul_right (P.cellsOf e) (show i + 1 ≤ cap by omega)
    rw [Nat.add_mul] at this
    omega
   have hO := h4 i hi'
   obtain ⟨s2, hp1, ho1⟩ : ∃ s2, (elS s1 ex i).put p v = some s2 ∧ (elS s1 ex i).owes p := by
    cases ex with
    | none =>
     simp only [Sh.put] at hs
     split at hs <;> try contradiction
     rename_i s2 hs2
     exact ⟨s2, hs2, ho⟩
    | some y =>
     obtain ⟨k, si⟩ := y
     simp only [Sh.put] at hs
     simp only [Sh.owes] at ho
     obtain ⟨hki, ho⟩ := ho
     subst hki
     have he : elS s1 (some (k, si)) k = si := by simp [elS]
     split at hs <;> try contradiction
     rename_i s2 hs2
     exact ⟨s2, by rw [he]; exact hs2, by rw [he]; exact ho⟩
   exact Own.block W p hO hp1 ho1 hl ht fun b0 o0 e' => by
    simp only [Option.some.injEq, Prod.mk.injEq] at e'
    obtain ⟨rfl, rfl⟩ := e'
    exact ⟨c, E, hb, by rw [seg_length (by simpa using hroom)]; exact hroom⟩
  | nil => simp [Lt.loc] at hl
  | _ => simp [Sh.put] at hs
 | .arr i :: p, L, s, s', v, t, cs, d, lc, u, b, o, h, hs, ho, hl, ht, hlc => by
  cases s <;> simp only [Sh.put, reduceCtorEq] at hs
  split at hs <;> try contradiction
  rename_i hpi
  obtain ⟨rfl, hRp⟩ := h.leaf_of_imm
  simp only [tyAt] at ht
  split at ht <;> try contradiction
  rename_i n e hk
  split at ht <;> try contradiction
  rename_i hi
  simp only [Lt.loc, hk, if_pos hi] at hl
  cases hRp with
  | arr hk' hc hdl hf =>
   rename_i n1 e1 ds
   rw [hk'] at hk
   injection hk with hn1 he1
   subst hn1 he1
   have hroom : i * P.cellsOf e1 + P.cellsOf e1 ≤ cs.length := by
    have := Nat.mul_le_mul_right (P.cellsOf e1) (show i + 1 ≤ n1 from hi)
    rw [Nat.add_mul, ← (W.arr _ _ _ hk').1, ← hc] at this
    simpa using this
   refine Own.block W p (Own.imm (hf i hi)) hpi (imm_owes p) hl ht fun b0 o0 e' => ?_
   cases lc with
   | none => simp at e'
   | some x =>
    simp only [Option.map_some, Option.some.injEq, Prod.mk.injEq] at e'
    obtain ⟨rfl, rfl⟩ := e'
    obtain ⟨c, E, h1, h2⟩ := hlc _ _ rfl
    exact ⟨c, E, h1, by rw [seg_length hroom]; omega⟩
  | _ => simp_all

theorem loc_root (W : WF P) {p : Pth} {t u b o : Nat} {L : Lt} {lc : Option (Nat × Nat)} (hp : p.any Stp.isIdx = false) (h : L.loc P lc t p = some (b, o)) (ht : tyAt P t p = some u) : ∃ o0, lc = some (b, o0) := by
 rw [loc_noIdx p t L .leaf lc hp] at h
 rcases loc_in W p h ht with ⟨b0, o0, e, hb, _⟩ | hb
 ·exact ⟨o0, by rw [e, hb]⟩
 ·simp [Lt.blocks] at hb

section
variable {X0 Y0 : Nat → Prop} {w0 : World} {g : St} {ph : Nat → Ph} {a : Act} {w : World} {o : Oper} {K : Dl → Prop}

theorem findO_any {os : Objs} {k : Nat} (h : (os.any fun y => Nat.beq y.1 k) = false) : findO os k = none := by
 cases e : findO os k with
 | none => rfl
 | some x =>
  obtain ⟨y, hy, rfl⟩ := List.mem_map.1 (findO_mem e)
  have := List.any_eq_false.1 h y hy
  simp [beq_iff] at this

theorem step_store {t : Nat} {x y : Operand} (W : WF P) (ho : o.op = .store t x y) (R : RelA P A X0 Y0 w0 g ph a w) (h : storeD P (lookO g.ob) t (g.av x) (g.av y) K) : Does P o a w (Out P A X0 Y0 w0 g a K) := by
 have hx := AVR.eval R x
 have hy := AVR.eval R y
 unfold storeD at h
 split at h <;> try contradiction
 rename_i k p u hav
 rw [cond_eq] at h
 split at h <;> try contradiction
 rename_i hk
 split at h <;> try contradiction
 rename_i sv d os htk
 split at h <;> try contradiction
 rename_i ob hob
 split at h <;> try contradiction
 rename_i sh hput
 obtain ⟨hg, h⟩ := of_cond h
 obtain ⟨hany, h⟩ := of_cond' h
 obtain ⟨howes, h⟩ := h
 simp only [Bool.and_eq_true, Bool.or_eq_true] at hg
 obtain ⟨⟨⟨hbp, hni⟩, hni'⟩, hwk⟩ := hg
 rw [hav] at hx
 obtain ⟨b, off, u0, hva, hloc, hty, hku⟩ := hx ob hob
 have hO := R.objs.ok k ob hob
 have hkt : tk P u0 = tk P t := hku.trans (sameK_eq hk).symm
 have hflat : (g.av y).flatA = true := by
  cases hz : g.av y <;> first | rfl | (rw [hz] at htk; simp [takeV] at htk)
 obtain ⟨cs, L, hv, hT, hnL, hng, hos⟩ := takeV_spec W R.objs (hy.one hflat) htk
 have hany' : findO os k = none := findO_any (by simpa using hany)
 have hos' : ∀ c, findO os c = none ∨ findO os c = some none := by
  intro c
  rcases hos with ⟨rfl, _⟩ | ⟨q, y, rfl, _⟩
  ·exact .inl rfl
  ·simp only [findO]; split <;> simp
 have hLF : ∀ b ∈ L.blocks, ∃ c y, ate os c ∧ lookO g.ob c = some y ∧ b ∈ (ph c).F ∧ c ≠ k := by
  intro b hb
  rcases hos with ⟨_, e⟩ | ⟨q, y, rfl, hy, _, hm⟩
  ·rw [e] at hb; cases hb
  ·refine ⟨q, y, by simp [ate, findO], hy, hm b hb, fun e => ?_⟩
   subst e
   simp [findO] at hany'
 have hLk : ∀ b ∈ L.blocks, b ∉ (ph k).F := fun b hb hm => by
  obtain ⟨c, y, _, hy, hm', hne⟩ := hLF b hb
  exact R.objs.apart c y k ob hy hob hne b hm' hm
 have hLlt : ∀ b ∈ L.blocks, b < w.heap.size := fun b hb => by
  obtain ⟨c, y, _, hy, hm', _⟩ := hLF b hb
  exact (R.objs.ok c y hy).lt b hm'
 -- the value in its new shape
 let X := Xof X0 (lookO g.ob) ph
 let v := ob.sh.want p false sv
 obtain ⟨Lv, hLv1, hLv2, hLv3⟩ : ∃ Lv : Lt, (∀ X' : Nat → Prop, (∀ b, b < w.heap.size → X' b → X b) → (∀ b ∈ L.blocks, b ∉ Lv.blocks → ¬ X' b) → Own P A X' w Lv v t cs d) ∧ (∀ b ∈ Lv.blocks, b ∈ L.blocks) ∧ Lv.blocks.Nodup := by
  cases sv with
  | some s =>
   simp only [Bool.and_eq_true] at hwk
   obtain ⟨Lv, hl⟩ := Own.weakN (hT : Own P A _ w L s t cs d) 8 v hwk.2 hnL
   exact ⟨Lv, hl.own, hl.sub, hl.nodup⟩
  | none =>
   obtain ⟨rfl, rfl, rfl, e, he⟩ := hT
   have : v = .imm ∨ ∃ s, v = .slc s none := by
    have : ∀ (p : Pth) (s : Sh) (ix : Bool), s.want p ix none = .imm ∨ ∃ u, s.want p ix none = .slc u none := by
     intro p
     induction p with
     | nil => intro s ix; cases s <;> first | exact .inl rfl | skip
              rename_i s ex; cases ex <;> first | exact .inl rfl | exact .inr ⟨_, rfl⟩
     | cons z p ih =>
      intro s ix
      cases z with
      | fld j =>
       simp only [Sh.want]
       split
       ·exact ih _ _
       ·exact .inl rfl
      | idx i =>
       cases s <;> try exact .inl rfl
       rename_i s ex
       cases ex with
       | none => exact ih _ _
       | some y => exact ih _ _
      | arr i => exact ih _ _
    exact this p ob.sh false
   rcases this with e1 | ⟨s, e1⟩
   ·exact ⟨.leaf, fun X' _ _ => by rw [e1]; exact .imm (.slcN he), by simp [Lt.blocks], by simp [Lt.blocks]⟩
   ·exact ⟨.nil, fun X' _ _ => by rw [e1]; exact .nil he, by simp [Lt.blocks], by simp [Lt.blocks]⟩
 have hto : tk P t ≠ .other := by
  cases sv with
  | some s => exact Own.tk_ne (hT : Own P A _ w L s t cs d) (by simpa using hng)
  | none => obtain ⟨_, _, _, e, he⟩ := hT; rw [he]; simp
 have hone : ∀ z ∈ cs, z.oneCell' = true := by
  cases sv with
  | some s =>
   simp only [Bool.and_eq_true] at hwk
   exact Own.oneCell W (hT : Own P A _ w L s t cs d) hwk.1
  | none => obtain ⟨_, rfl, _, _⟩ := hT; simp [Value.oneCell']
 have hlen : cs.length = P.cellsOf t := hT.length W
 have hsz : P.cellsOf u0 = P.cellsOf t := W.kind _ _ hkt (hkt ▸ hto)
 have hroot : ∀ b0 o0, (ph k).root = some (b0, o0) → ∃ c E, (ph k).rb = some b0 ∧ w.heap[b0]? = some (.cells c E (0, 0)) ∧ c.toList = (ph k).cs ∧ o0 = 0 := by
  intro b0 o0 e
  unfold Ph.root at e
  cases hr : (ph k).rb with
  | none => rw [hr] at e; cases e
  | some b1 =>
   rw [hr] at e
   simp only [Option.map_some, Option.some.injEq, Prod.mk.injEq] at e
   obtain ⟨rfl, rfl⟩ := e
   have hb : ob.box = true := by
    cases hx : ob.box
    ·rw [hO.hdr hx] at hr; cases hr
    ·rfl
   obtain ⟨b2, E, c, e1, e2, e3⟩ := hO.box hb
   rw [hr] at e1
   injection e1 with e1
   subst e1
   exact ⟨c, E, rfl, e2, e3, rfl⟩
 obtain ⟨c, E, hblk, hfit⟩ := Own.block W p hO.own hput howes hloc hty fun b0 o0 e => by
  obtain ⟨c, E, _, h2, h3, rfl⟩ := hroot b0 o0 e
  exact ⟨c, E, h2, by rw [← Array.length_toList, h3]; omega⟩
 obtain ⟨w', hrun, hw⟩ := run_storeVarAt (P := P) (t := t) W hto hlen hblk (by rw [hlen, ← hsz]; exact hfit) hone
 have hbF : b ∈ (ph k).F := by
  rcases loc_in W p hloc hty with ⟨b0, o0, e, hb, _⟩ | hb
  ·obtain ⟨_, _, h1, _⟩ := hroot b0 o0 e
   rw [hb]
   simp [Ph.F, h1]
  ·simp [Ph.F, Ph.S, hb]
 have hXb : X b := .inr ⟨k, ob, hob, hbF⟩
 have hkb : ∀ b', ¬ X b' → w'.heap[b']? = w.heap[b']? := fun b' hn => hw.other b' fun e => hn (e ▸ hXb)
 let ob' : Nat → Option Obj := upO ((k, some { ob with sh, d := D.put P ob.t ob.d p d }) :: os) (lookO g.ob)
 have hobk : ob' k = some { ob with sh, d := D.put P ob.t ob.d p d } := by simp only [ob']; rw [upO_new, if_pos rfl]
 have hobn : ∀ c, c ≠ k → ate os c → ob' c = none := fun c hc ha => by
  simp only [ob']
  rw [upO_new, if_neg hc, upO, ha]
  rfl
 have hobs : ∀ c, c ≠ k → ¬ ate os c → ob' c = lookO g.ob c := fun c hc ha => by
  simp only [ob']
  rw [upO_new, if_neg hc, upO]
  rcases hos' c with h | h
  ·rw [h]; rfl
  ·exact absurd h ha
 have hob1 : ∀ c z, c ≠ k → ob' c = some z → lookO g.ob c = some z ∧ ¬ ate os c := fun c z hc hz => by
  by_cases ha : ate os c
  ·rw [hobn c hc ha] at hz; cases hz
  ·exact ⟨by rw [← hobs c hc ha]; exact hz, ha⟩
 -- the tree behind
 have hnk := hO.nodup
 have hnL' : (ph k).L.blocks.Nodup := by simp only [Ph.F, Ph.S, List.nodup_append] at hnk; exact hnk.2.1.1
 have hLn : ∀ b ∈ Lv.blocks, b ∉ (ph k).L.blocks := fun b hb hm => hLk b (hLv2 b hb) (by simp [Ph.F, Ph.S, hm])
 -- what is out of reach behind
 let X' : Nat → Prop := fun b => (X0 b ∨ ∃ c z, c ≠ k ∧ ob' c = some z ∧ b ∈ (ph c).F) ∨ b ∈ (ph k).F ∨ b ∈ Lv.blocks
 have hX'X : ∀ b, b < w.heap.size → X' b → X b := by
  rintro b _ ((h | ⟨c, z, hc, hz, hm⟩) | h | h)
  ·exact .inl h
  ·exact .inr ⟨c, z, (hob1 c z hc hz).1, hm⟩
  ·exact .inr ⟨k, ob, hob, h⟩
  ·obtain ⟨c, y, _, hy, hm, _⟩ := hLF b (hLv2 b h)
   exact .inr ⟨c, y, hy, hm⟩
 have hdrop : ∀ b ∈ L.blocks, b ∉ Lv.blocks → ¬ X' b := by
  rintro b hb hnb ((h | ⟨c, z, hc, hz, hm⟩) | h | h)
  ·obtain ⟨c, y, _, hy, hm, _⟩ := hLF b hb
   exact R.objs.free c y hy b hm h
  ·obtain ⟨c', y, ha, hy, hm', _⟩ := hLF b hb
   obtain ⟨e1, e2⟩ := hob1 c z hc hz
   exact R.objs.apart c z c' y e1 hy (fun e => e2 (e ▸ ha)) b hm hm'
  ·exact hLk b hb h
  ·exact hnb h
 have hvg : v ≠ .gone := by
  intro e
  cases sv with
  | some s =>
   simp only [Bool.and_eq_true] at hwk
   have h1 := hwk.1
   have h2 : s.weak v = true := hwk.2
   rw [e] at h2
   cases s <;> simp [Sh.weak, Sh.weakN] at h2
   simp [Sh.plain] at h1
  | none =>
   have := hLv1 (fun _ => False) (fun _ _ h => h.elim) (fun _ _ _ h => h)
   rw [e] at this
   obtain ⟨_, _, _, e', he⟩ := hT
   cases this
   have : ∀ (p : Pth) (s : Sh) (ix : Bool), s.want p ix none ≠ .gone := by
    intro p
    induction p with
    | nil => intro s ix; cases s <;> first | (simp [Sh.want]; done) | skip
             rename_i s ex; cases ex <;> simp [Sh.want]
    | cons z p ih =>
     intro s ix
     cases z with
     | fld j =>
      simp only [Sh.want]
      split
      ·exact ih _ _
      ·simp
     | idx i =>
      cases s <;> first | (simp [Sh.want]; done) | skip
      rename_i s ex
      cases ex with
      | none => exact ih _ _
      | some y => exact ih _ _
     | arr i => exact ih _ _
   exact this p ob.sh false e
 have hOv : Own P A X' w' Lv v u0 cs d := by
  refine (Own.kind W ((hLv1 X' hX'X hdrop).frame (Nat.le_of_eq hw.size.symm) (fun _ _ h => h) (fun b' hb' hn => ?_) fun b' hb' => ?_) hkt.symm hvg)
  ·exact hw.other b' fun e => by subst e; exact hn (.inr (.inl hbF))
  ·exact hw.other b' fun e => by subst e; exact hLk b' (hLv2 b' hb') hbF
 obtain ⟨L', cs', hO', hR', hN', hB', hnd', hS1, hS2⟩ := Own.put W hw hXb hX'X hOv p hO.own hput howes hty hloc hO.rows hnL' hLn hLv3
 have hlen' := hO'.length W
 let p' : Ph := ⟨cs', (ph k).rb, L', (ph k).S.filter fun b => !(L'.blocks.contains b)⟩
 have hFsub : ∀ b, b ∈ p'.F → b ∈ (ph k).F ∨ b ∈ Lv.blocks := by
  intro b' hb'
  simp only [p', Ph.F, Ph.S, List.mem_append, List.mem_filter] at hb' ⊢
  rcases hb' with h | h | ⟨h, _⟩
  ·exact .inl (.inl h)
  ·rcases hB' b' h with h | h
   ·exact .inl (.inr (.inl h))
   ·exact .inr h
  ·exact .inl (.inr h)
 have hSsup : ∀ b, b ∈ (ph k).S → b ∈ p'.S := by
  intro b' hb'
  by_cases hL' : b' ∈ L'.blocks
  ·simp only [p', Ph.S, List.mem_append]; exact .inl hL'
  ·simp only [p', Ph.S, List.mem_append, List.mem_filter]
   right
   refine ⟨?_, by simpa using hL'⟩
   simpa only [Ph.S, List.mem_append] using hb'
 have hXn : ∀ b, Xof X0 ob' (upPh ph k p') b → X' b := by
  rintro b' (h | ⟨c, z, hz, hm⟩)
  ·exact .inl (.inl h)
  ·by_cases hc : c = k
   ·subst hc
    simp only [upPh, if_true] at hm
    exact .inr (hFsub b' hm)
   ·simp only [upPh, if_neg hc] at hm
    exact .inl (.inr ⟨c, z, hc, hz, hm⟩)
 have hXnX : ∀ b, b < w.heap.size → Xof X0 ob' (upPh ph k p') b → X b := fun b' hb' h => hX'X b' hb' (hXn b' h)
 have hsizes : w.heap.size ≤ w'.heap.size := Nat.le_of_eq hw.size.symm
 have hLvlt : ∀ b ∈ Lv.blocks, b < w.heap.size := fun b' hb' => hLlt b' (hLv2 b' hb')
 have hnF : p'.F.Nodup := by
  simp only [p', Ph.F, Ph.S]
  rw [List.nodup_append]
  simp only [Ph.F, List.nodup_append] at hnk
  refine ⟨hnk.1, ?_, fun x hx y hy e => ?_⟩
  ·rw [List.nodup_append]
   refine ⟨hnd', ?_, fun x hx y hy e => ?_⟩
   ·exact List.Pairwise.filter _ hnk.2.1
   ·subst e
    simp only [List.mem_filter] at hy
    have h2 := hy.2
    simp [hx] at h2
  ·subst e
   have h2 := hFsub x (by simp only [p', Ph.F, Ph.S, List.mem_append]; exact .inr (by simpa only [List.mem_append] using hy))
   simp only [List.mem_append] at hy
   rcases hy with hy | hy
   ·rcases hB' x hy with h | h
    ·exact hnk.2.2 x hx x (by simp [Ph.S, h]) rfl
    ·exact hLk x (hLv2 x h) (by simp only [Ph.F, List.mem_append]; exact .inl hx)
   ·exact hnk.2.2 x hx x (by simpa only [Ph.S] using (List.mem_filter.1 hy).1) rfl
 refine Does.skip (w' := w') ?_ ⟨_, h, upPh ph k p', ⟨fun c z hz => ?_, fun c z c' z' hz hz' hcc b' hb' hb'' => ?_, fun c z hz b' hb' hx => ?_, fun c z hz b' hb' => ?_, R.objs.old⟩, fun s => ?_, rfl, ?_⟩
 ·have hvv : a.eval y = mkV P t cs := hv
  simp only [execOp, ho, Instr.storeAt, Instr.sureAddr, hva, Sem.run_bind, Sem.run_pure, Result.andThen_ok, hvv, hrun]
 ·by_cases hc : c = k
  ·subst hc
   have hz' : ob' c = some z := hz
   rw [hobk] at hz'
   injection hz' with hz'
   subst hz'
   simp only [upPh, if_true]
   refine ⟨hO'.frame (Nat.le_refl _) (fun b' hb' h => hXn b' h) (fun _ _ _ => rfl) (fun _ _ => rfl), fun hbx => ?_, fun hbx => hO.hdr hbx, hnF, fun b' hb' => ?_⟩
   ·obtain ⟨b0, E0, c0, h1, h2, h3⟩ := hO.box hbx
    have hrow := hR' b0 0 (by simp [Ph.root, h1])
    obtain ⟨c1, E1, h4, h5⟩ : ∃ (c1 : Array Value) (E1 : TypeId), w'.heap[b0]? = some (.cells c1 E1 (0, 0)) ∧ c1.size = P.cellsOf ob.t := by
     have hl0 : c0.size = P.cellsOf ob.t := by rw [← Array.length_toList, h3]; exact hO.own.length W
     by_cases hbb : b0 = b
     ·subst hbb
      obtain ⟨c2, c3, E2, g1, g2, g3, g4⟩ := hw.here
      rw [h2] at g1
      injection g1 with g1
      injection g1 with g1
      subst g1
      refine ⟨c3, E2, g2, ?_⟩
      rw [← Array.length_toList, g4, splice_length (by simpa using g3), Array.length_toList, hl0]
     ·exact ⟨c0, E0, (hw.other b0 hbb).trans h2, hl0⟩
    refine ⟨b0, E1, c1, h1, h4, ?_⟩
    apply List.ext_getElem?
    intro i
    by_cases hi : i < cs'.length
    ·have := hrow i hi
     rw [Nat.zero_add, cell_of_block h4] at this
     rw [Array.getElem?_toList, this]
    ·rw [List.getElem?_eq_none (by simp; omega), List.getElem?_eq_none (by show cs'.length ≤ i; omega)]
   ·rw [hw.size]
    rcases hFsub b' hb' with h | h
    ·exact hO.lt b' h
    ·exact hLvlt b' h
  ·simp only [upPh, if_neg hc]
   obtain ⟨e1, e2⟩ := hob1 c z hc hz
   have h0 := R.objs.ok c z e1
   refine h0.frame hsizes hXnX (fun b' _ hn => hkb b' hn) fun b' hb' => hw.other b' fun e => ?_
   subst e
   exact R.objs.apart c z k ob e1 hob hc b' hb' hbF
 ·have key : ∀ c z b', c ≠ k → ob' c = some z → b' ∈ (ph c).F → b' ∈ p'.F → False := by
   intro c z b' hc hz hb' hm
   obtain ⟨e1, e2⟩ := hob1 c z hc hz
   rcases hFsub b' hm with h | h
   ·exact R.objs.apart c z k ob e1 hob hc b' hb' h
   ·obtain ⟨c2, y2, ha, hy2, hm2, _⟩ := hLF b' (hLv2 b' h)
    exact R.objs.apart c z c2 y2 e1 hy2 (fun e => e2 (e ▸ ha)) b' hb' hm2
  by_cases hc : c = k
  ·have hc' : c' ≠ k := fun e => hcc (hc.trans e.symm)
   simp only [upPh, if_pos hc, if_neg hc'] at hb' hb''
   exact key c' z' b' hc' hz' hb'' hb'
  ·by_cases hc' : c' = k
   ·simp only [upPh, if_neg hc, if_pos hc'] at hb' hb''
    exact key c z b' hc hz hb' hb''
   ·simp only [upPh, if_neg hc, if_neg hc'] at hb' hb''
    exact R.objs.apart c z c' z' (hob1 c z hc hz).1 (hob1 c' z' hc' hz').1 hcc b' hb' hb''
 ·by_cases hc : c = k
  ·simp only [upPh, if_pos hc] at hb'
   rcases hFsub b' hb' with h | h
   ·exact R.objs.free k ob hob b' h hx
   ·obtain ⟨c2, y2, ha, hy2, hm2, _⟩ := hLF b' (hLv2 b' h)
    exact R.objs.free c2 y2 hy2 b' hm2 hx
  ·simp only [upPh, if_neg hc] at hb'
   exact R.objs.free c z (hob1 c z hc hz).1 b' hb' hx
 ·by_cases hc : c = k
  ·simp only [upPh, if_pos hc] at hb'
   rcases hFsub b' hb' with h | h
   ·exact R.objs.ours k ob hob b' h
   ·obtain ⟨c2, y2, ha, hy2, hm2, _⟩ := hLF b' (hLv2 b' h)
    exact R.objs.ours c2 y2 hy2 b' hm2
  ·simp only [upPh, if_neg hc] at hb'
   exact R.objs.ours c z (hob1 c z hc hz).1 b' hb'
 ·refine AVR.stays hsizes hXnX (fun b' _ hn => hkb b' hn) (by simp [KM.isApp]) (fun c z hz => ?_) (fun c z z' hz hz' _ _ _ b' hb' => ?_) (R.slots s)
  ·by_cases hc : c = k
   ·subst hc
    have hz' : ob' c = some z := hz
    have hzt : z.t = ob.t := by rw [hobk] at hz'; injection hz' with h; rw [← h]
    refine .pth p (by simp) hob hz hzt (fun e => ?_) (fun e => ?_) (fun e => ?_) (by simp [upPh, p']) (fun e => ⟨fun e2 => ?_, ?_⟩) (fun q hq => ?_) (fun q hq => ?_) (fun _ hpi b' hb' => ?_)
    ·rw [e] at hni; cases hni
    ·have : z = { ob with sh := sh, d := D.put P ob.t ob.d p d } := by rw [hobk] at hz'; injection hz' with h; exact h.symm
     rw [this] at e
     simp only at e
     rw [e] at hni'
     cases hni'
    ·cases p with
     | nil => rfl
     | cons z2 p2 =>
      exfalso
      have := hput
      rw [e] at this
      cases z2 <;> simp [Sh.put, Sh.fld] at this
    ·rcases hbp with h | h
     ·obtain ⟨b0, _, _, h1, _⟩ := hO.box h
      rw [h1] at e; cases e
     ·rw [e2] at h; simp at h
    ·simp only [upPh, if_true, p']
     exact hN' (by simp [Ph.root, e])
    ·simp only [upPh, if_true, p']
     exact hS1 q hq
    ·simp only [upPh, if_true, p']
     exact hS2 q hq
    ·refine hw.other b' fun e => ?_
     subst e
     obtain ⟨o0, e0⟩ := loc_root W hpi hloc hty
     obtain ⟨_, _, h1, _⟩ := hroot b' o0 e0
     have := hnk
     simp only [Ph.F, h1, Option.toList, List.singleton_append, List.nodup_cons] at this
     exact this.1 hb'
   ·obtain ⟨e1, e2⟩ := hob1 c z hc hz
    refine .same (hobs c hc e2) (by simp [upPh, hc]) fun b' hb' => hw.other b' fun e => ?_
    subst e
    exact R.objs.apart c z k ob e1 hob hc b' hb' hbF
  ·intro hh
   refine ⟨hXnX b' hb' hh.1, fun hm => hh.2 ?_⟩
   by_cases hc : c = k
   ·subst hc
    simp only [upPh, if_true]
    exact hSsup b' hm
   ·simp only [upPh, if_neg hc]
    exact hm
 ·refine R.keeps.trans (Y' := fun b' => b' = b) ⟨hw.os, hw.tape, hw.output, hsizes, fun b' _ hn => hw.other b' hn⟩ (fun _ h => h) fun b' hb' e => ?_
  subst e
  rcases R.objs.ours k ob hob b' hbF with h | h
  ·exact h
  ·omega

end
end Go.Ab

/- What append does. -/
namespace Go.Ab
variable {P : Program} {A : Ann}

section
variable {w : World}

theorem run_app_nil0 {t tx ty e e' : Nat} (ht : P.underlying t = some (.slice e)) (htx : P.underlying tx = some (.slice e')) {i : TypeInfo} (hi : P.info? e = some i) (base : Option Addr) (cap : Nat) :
  (Builtin.append_ #[t, tx] ty #[.slice none 0 0, .slice base 0 cap]).run P w = .ok (.slice none 0 0) w := by
 cases base <;> simp [Builtin.append_, run_underlying ht, run_underlying htx, sizeOf, typeInfo, hi, Builtin.lenOf, Builtin.firstCells, loadCells, loadCellsFrom]

theorem run_app_room {t tx ty e e' : Nat} (ht : P.underlying t = some (.slice e)) (htx : P.underlying tx = some (.slice e')) {i : TypeInfo} (hi : P.info? e = some i)
  {b off sLen sCap : Nat} {cur : Array Value} {E : TypeId} (hg : w.heap[b]? = some (.cells cur E (0, 0))) {base : Option Addr} {n c : Nat} {news : List Value} (hl : news.length = n * i.size) (hb : base = none → n = 0)
  (hnews : ∀ a, base = some a → ∀ j u, news[j]? = some u → w.cell? (a.add j) = some u) (h1 : ∀ u ∈ news, u.oneCell' = true)
  (hroom : sLen + n ≤ sCap) (hfit : off + sLen * i.size + news.length ≤ cur.size) :
  (Builtin.append_ #[t, tx] ty #[.slice (some ⟨b, off, none⟩) sLen sCap, .slice base n c]).run P w =
   .ok (.slice (some ⟨b, off, none⟩) (sLen + n) sCap) (w.setRow b (splice cur.toList (off + sLen * i.size) news).toArray) := by
 have hf : (Builtin.firstCells i.size n (.slice base n c)).run P w = .ok news.toArray w := by
  cases base with
  | none =>
   have := hb rfl
   subst this
   have : news = [] := List.eq_nil_of_length_eq_zero (by simpa using hl)
   subst this
   exact run_firstCells_none (P := P) w i.size 0 0 c
  | some a => exact run_firstCells_some (P := P) w i.size n a n c news hl (hnews a rfl)
 have hst := run_storeCells_at P b (off + sLen * i.size) E news 0 cur w hg (by simpa using hfit) h1
 simp only [Nat.add_zero] at hst
 simp [Builtin.append_, run_underlying ht, run_underlying htx, sizeOf, typeInfo, hi, Builtin.lenOf, hroom, hf, addr_add, hst, splice]

theorem run_app_grow {t tx ty e e' : Nat} (ht : P.underlying t = some (.slice e)) (htx : P.underlying tx = some (.slice e')) {i : TypeInfo} (hi : P.info? e = some i) {z : Value} (hz : i.zero = some z)
  {bs : Option Addr} {sLen sCap : Nat} {olds : List Value} (hlo : olds.length = sLen * i.size) (hbs : bs = none → sLen = 0) (holds : ∀ a, bs = some a → ∀ j v, olds[j]? = some v → w.cell? (a.add j) = some v)
  {base : Option Addr} {n c : Nat} {news : List Value} (hl : news.length = n * i.size) (hb : base = none → n = 0) (hnews : ∀ a, base = some a → ∀ j u, news[j]? = some u → w.cell? (a.add j) = some u)
  (hg : sCap < sLen + n) (h63 : ((sLen + n : Nat) : Int) ≤ 9223372036854775807) (hfit : Builtin.nextslicecap (sLen + n) sCap * i.bytes ≤ 281474976710656) :
  (Builtin.append_ #[t, tx] ty #[.slice bs sLen sCap, .slice base n c]).run P w =
   .ok (.slice (some ⟨w.heap.size, 0, none⟩) (sLen + n) (grownCap w (sLen + n) sCap e))
    (w.drew.alloc (.cells (olds.toArray ++ news.toArray ++ Builtin.zeroCells z.cells (grownCap w (sLen + n) sCap e - (sLen + n))) e)) := by
 have hn : ¬ (sLen + n ≤ sCap) := by omega
 have h63' : ¬ (9223372036854775807 < ((sLen : Int) + (n : Int))) := by omega
 have h48' : ¬ (281474976710656 < Builtin.nextslicecap (sLen + n) sCap * i.bytes) := by omega
 have hf : (Builtin.firstCells i.size n (.slice base n c)).run P w.drew = .ok news.toArray w.drew := by
  cases base with
  | none =>
   have := hb rfl
   subst this
   have : news = [] := List.eq_nil_of_length_eq_zero (by simpa using hl)
   subst this
   exact run_firstCells_none (P := P) w.drew i.size 0 0 c
  | some a => exact run_firstCells_some (P := P) w.drew i.size n a n c news hl (by simpa using hnews a rfl)
 have hfo : (Builtin.firstCells i.size sLen (.slice bs sLen sCap)).run P w.drew = .ok olds.toArray w.drew := by
  cases bs with
  | none =>
   have := hbs rfl
   subst this
   have : olds = [] := List.eq_nil_of_length_eq_zero (by simpa using hlo)
   subst this
   exact run_firstCells_none (P := P) w.drew i.size 0 0 sCap
  | some a => exact run_firstCells_some (P := P) w.drew i.size sLen a sLen sCap olds hlo (by simpa using holds a rfl)
 simp [Builtin.append_, run_underlying ht, run_underlying htx, sizeOf, typeInfo, zeroValue, hi, hz, Builtin.lenOf, hn, h63', h48', Question.forced, hf, hfo, newRow, grownCap]
 congr 2
 apply Array.ext'
 simp
end

/-- The block of a slice. -/
def Lt.rootB : Lt → Option Nat
 | .slc b _ _ _ => some b
 | _ => none

theorem rootB_mem {L : Lt} {b : Nat} (h : L.rootB = some b) : b ∈ L.blocks := by
 cases L <;> simp [Lt.rootB] at h
 subst h
 simp [Lt.blocks]

theorem oneCell_segs {news : List Value} {n c : Nat} (hl : news.length = n * c) (h : ∀ i, i < n → ∀ v ∈ seg news (i * c) c, v.oneCell' = true) : ∀ v ∈ news, v.oneCell' = true := by
 intro v hv
 obtain ⟨i, hi, e⟩ := List.mem_iff_getElem.1 hv
 have hpos : 0 < c := by
  rcases Nat.eq_zero_or_pos c with h | h
  ·rw [h, Nat.mul_zero] at hl; omega
  ·exact h
 have hlt : i / c < n := Nat.div_lt_of_lt_mul (by rw [Nat.mul_comm]; omega)
 have h1 := Nat.div_add_mod i c
 have h2 := Nat.mod_lt i hpos
 rw [Nat.mul_comm] at h1
 have h3 : i / c * c + c ≤ n * c := by rw [← Nat.succ_mul]; exact Nat.mul_le_mul_right _ hlt
 refine h _ hlt v ?_
 have : (seg news (i / c * c) c)[i - i / c * c]? = some v := by rw [seg_get (by omega), show i / c * c + (i - i / c * c) = i by omega, List.getElem?_eq_getElem hi, e]
 exact List.mem_of_getElem? this

theorem blocksL_append {a b : List Lt} : blocksL (a ++ b) = blocksL a ++ blocksL b := by
 induction a with
 | nil => rfl
 | cons x a ih => simp [blocksL, ih]

/-- APPEND, to an owned slice. -/
theorem append_core (W : WF P) {t tx ty e : Nat} (hk : tk P t = .slc e) (hkx : tk P tx = .slc e) (hgz : goodT P 8 e = true) (hpos : 0 < P.bytesOf e) {X : Nat → Prop} {w : World} {L : Lt} {cur : Sh} {v : Value} {d : D} (hO : Own P A X w L (.slc cur none) t [v] d)
  (hn : L.blocks.Nodup) (hXL : ∀ b ∈ L.blocks, X b) (hlt : ∀ b ∈ L.blocks, b < w.heap.size) {base : Option Addr} {cap2 : Nat} {ys : List D} {news : List Value} {Ks : List Lt} (hl : news.length = ys.length * P.cellsOf e) (hb : base = none → ys.length = 0)
  (hnews : ∀ a, base = some a → ∀ j u, news[j]? = some u → w.cell? (a.add j) = some u) (h1 : ∀ u ∈ news, u.oneCell' = true) (hKs : Ks.length = ys.length) (hKn : (blocksL Ks).Nodup) (hKL : ∀ b ∈ blocksL Ks, b ∉ L.blocks) (hKlt : ∀ b ∈ blocksL Ks, b < w.heap.size)
  (hroom : room ((d.xs.length : Int) + ys.length) (P.bytesOf e)) :
  ∃ v' w' L', (Builtin.append_ #[t, tx] ty #[v, .slice base ys.length cap2]).run P w = .ok v' w' ∧ Keeps (fun b => L.rootB = some b) w w' ∧
   (∀ X' : Nat → Prop, (∀ b, b < w.heap.size → X' b → X b) → (∀ b ∈ L'.blocks, b ∈ L.blocks → X' b) → (∀ i, i < ys.length → Own P A X' w (Ks.getD i .leaf) cur e (seg news (i * P.cellsOf e) (P.cellsOf e)) (ys.getD i .und)) → Own P A X' w' L' (.slc cur none) t [v'] (.slc (d.xs ++ ys))) ∧
   (∀ X' : Nat → Prop, (∀ b, b < w.heap.size → X' b → X b) → Own P A X' w' L (.slc cur none) t [v] d) ∧
   (∀ b ∈ L'.blocks, b ∈ L.blocks ∨ b ∈ blocksL Ks ∨ w.heap.size ≤ b) ∧ L'.blocks.Nodup ∧ (∀ b ∈ L'.blocks, b < w'.heap.size) := by
 obtain ⟨i, cs0, z1, z2, z3⟩ := W.zero e hgz
 obtain ⟨i', i1, i2, i3⟩ := info_of_tk (W.elem t e hk)
 rw [z1] at i1
 injection i1 with i1
 subst i1
 have hcc := rep_cells (zero_rep (A := A) (X := X) (w := w) 8 e cs0 z3)
 have hzs : (mkV P e cs0).cells.size = P.cellsOf e := by rw [← Array.length_toList, hcc]; exact (zero_rep (A := A) (X := X) (w := w) 8 e cs0 z3).length W
 have hrn : (d.xs.length + ys.length) * P.bytesOf e ≤ 70368744177664 := by
  have h2 : (((d.xs.length + ys.length) * P.bytesOf e : Nat) : Int) ≤ ((70368744177664 : Nat) : Int) := by rw [Int.natCast_mul, Int.natCast_add]; exact hroom
  exact Int.ofNat_le.1 h2
 have h63 : d.xs.length + ys.length ≤ 70368744177664 := Nat.le_trans (Nat.le_mul_of_pos_right _ hpos) hrn
 -- a row that grows
 have grown : ∀ (olds : List Value) (kids : List Lt) (sCap : Nat), olds.length = d.xs.length * P.cellsOf e → kids.length = d.xs.length → sCap < d.xs.length + ys.length → (∀ b ∈ blocksL kids, b ∈ L.blocks) → (blocksL kids).Nodup →
   (∀ X' : Nat → Prop, (∀ b, b < w.heap.size → X' b → X b) → ∀ j, j < d.xs.length → Own P A X' w (kids.getD j .leaf) cur e (seg olds (j * P.cellsOf e) (P.cellsOf e)) (d.xs.getD j .und)) →
   let gc := grownCap w (d.xs.length + ys.length) sCap e
   let w' := w.drew.alloc (.cells (olds.toArray ++ news.toArray ++ Builtin.zeroCells (mkV P e cs0).cells (gc - (d.xs.length + ys.length))) e)
   let L' := Lt.slc w.heap.size 0 gc (kids ++ Ks)
   Keeps (fun b => L.rootB = some b) w w' ∧
   (∀ X' : Nat → Prop, (∀ b, b < w.heap.size → X' b → X b) → (∀ b ∈ L'.blocks, b ∈ L.blocks → X' b) → (∀ i, i < ys.length → Own P A X' w (Ks.getD i .leaf) cur e (seg news (i * P.cellsOf e) (P.cellsOf e)) (ys.getD i .und)) → Own P A X' w' L' (.slc cur none) t [.slice (some ⟨w.heap.size, 0, none⟩) (d.xs.length + ys.length) gc] (.slc (d.xs ++ ys))) ∧
   (∀ X' : Nat → Prop, (∀ b, b < w.heap.size → X' b → X b) → Own P A X' w' L (.slc cur none) t [v] d) ∧
   (∀ b ∈ L'.blocks, b ∈ L.blocks ∨ b ∈ blocksL Ks ∨ w.heap.size ≤ b) ∧ L'.blocks.Nodup ∧ (∀ b ∈ L'.blocks, b < w'.heap.size) := by
  intro olds kids sCap ho hkl hcap hkb hkn hown gc w' L'
  have hkeep : Keeps (fun _ => False) w w' := ⟨rfl, rfl, rfl, by show w.heap.size ≤ (w.heap.push _).size; rw [Array.size_push]; exact Nat.le_succ _, fun b hb _ => heap_alloc_old w.drew _ b hb⟩
  have hsz : w'.heap.size = w.heap.size + 1 := by show (w.heap.push _).size = _; rw [Array.size_push]
  have hge : d.xs.length + ys.length ≤ gc := grownCap_ge w _ _ e
  have hfr : ∀ (X' : Nat → Prop) (K : Lt) (cs : List Value) (dd : D), Own P A X' w K cur e cs dd → (∀ b ∈ K.blocks, b < w.heap.size) → Own P A X' w' K cur e cs dd := fun X' K cs dd h hB =>
   h.frame hkeep.size (fun _ _ h => h) (fun b hb _ => hkeep.block b hb id) fun b hb => hkeep.block b (hB b hb) id
  refine ⟨hkeep.mono fun _ h => h.elim, fun X' hX' hXb hY => ?_, fun X' hX' => ?_, fun b hb => ?_, ?_, fun b hb => ?_⟩
  ·have hhere : w'.heap[w.heap.size]? = some (.cells (olds.toArray ++ news.toArray ++ Builtin.zeroCells (mkV P e cs0).cells (gc - (d.xs.length + ys.length))) e (0, 0)) := heap_alloc_new w.drew _
   have hlen : (d.xs ++ ys).length = d.xs.length + ys.length := List.length_append
   have := Own.slc (P := P) (A := A) (X := X') (w := w') (t := t) (s := cur) (ex := none) (b := w.heap.size) (off := 0) (cap := gc) (kids := kids ++ Ks) (xs := d.xs ++ ys) hk hhere (by simp [hkl, hKs]) (by rw [hlen]; exact hge) (by
     simp only [Array.size_append, List.size_toArray, size_zeroCells, hzs, ho, hl, ← Nat.add_mul]
     rw [Nat.zero_add]
     exact Nat.mul_le_mul_right _ (by omega)) fun j hj => by
    rw [hlen] at hj
    rw [Nat.zero_add]
    have hseg : ∀ (a b c : List Value) (p n : Nat), seg ((a.toArray ++ b.toArray ++ c.toArray).toList) p n = seg (a ++ b ++ c) p n := fun a b c p n => by simp
    have htl : (olds.toArray ++ news.toArray ++ Builtin.zeroCells (mkV P e cs0).cells (gc - (d.xs.length + ys.length))).toList = olds ++ news ++ (Builtin.zeroCells (mkV P e cs0).cells (gc - (d.xs.length + ys.length))).toList := by simp
    rw [htl]
    by_cases hjx : j < d.xs.length
    ·have hm : j * P.cellsOf e + P.cellsOf e ≤ olds.length := by rw [ho, ← Nat.succ_mul]; exact Nat.mul_le_mul_right _ hjx
     have e1 : seg (olds ++ news ++ (Builtin.zeroCells (mkV P e cs0).cells (gc - (d.xs.length + ys.length))).toList) (j * P.cellsOf e) (P.cellsOf e) = seg olds (j * P.cellsOf e) (P.cellsOf e) := by
      apply List.ext_getElem?
      intro q
      by_cases hq : q < P.cellsOf e
      ·rw [seg_get hq, seg_get hq, List.append_assoc, List.getElem?_append_left (by omega)]
      ·simp [seg, List.getElem?_take, hq]
     have e2 : (kids ++ Ks).getD j .leaf = kids.getD j .leaf := by simp only [List.getD_eq_getElem?_getD]; rw [List.getElem?_append_left (by omega)]
     have e3 : (d.xs ++ ys).getD j .und = d.xs.getD j .und := by simp only [List.getD_eq_getElem?_getD]; rw [List.getElem?_append_left (by omega)]
     rw [e1, e2, e3]
     exact hfr X' _ _ _ (hown X' hX' j hjx) fun b hb => hlt b (hkb b (mem_blocksL.2 ⟨j, by omega, hb⟩))
    ·have hm : (j - d.xs.length) * P.cellsOf e + P.cellsOf e ≤ news.length := by rw [hl, ← Nat.succ_mul]; exact Nat.mul_le_mul_right _ (by omega)
     have hj' : j * P.cellsOf e = olds.length + (j - d.xs.length) * P.cellsOf e := by rw [ho, ← Nat.add_mul]; congr 1; omega
     have e1 : seg (olds ++ news ++ (Builtin.zeroCells (mkV P e cs0).cells (gc - (d.xs.length + ys.length))).toList) (j * P.cellsOf e) (P.cellsOf e) = seg news ((j - d.xs.length) * P.cellsOf e) (P.cellsOf e) := by
      apply List.ext_getElem?
      intro q
      by_cases hq : q < P.cellsOf e
      ·rw [seg_get hq, seg_get hq, List.append_assoc, List.getElem?_append_right (by omega), List.getElem?_append_left (by omega)]
       congr 1
       omega
      ·simp [seg, List.getElem?_take, hq]
     have e2 : (kids ++ Ks).getD j .leaf = Ks.getD (j - d.xs.length) .leaf := by simp only [List.getD_eq_getElem?_getD]; rw [List.getElem?_append_right (by omega), hkl]
     have e3 : (d.xs ++ ys).getD j .und = ys.getD (j - d.xs.length) .und := by simp only [List.getD_eq_getElem?_getD]; rw [List.getElem?_append_right (by omega)]
     rw [e1, e2, e3]
     exact hfr X' _ _ _ (hY _ (by omega)) fun b hb => hKlt b (mem_blocksL.2 ⟨_, by omega, hb⟩)
   rw [hlen] at this
   exact this
  ·exact hO.frame hkeep.size hX' (fun b hb _ => hkeep.block b hb id) fun b hb => hkeep.block b (hlt b hb) id
  ·simp only [L', Lt.blocks, List.mem_cons, blocksL_append, List.mem_append] at hb
   rcases hb with rfl | hb | hb
   ·exact .inr (.inr (Nat.le_refl _))
   ·exact .inl (hkb b hb)
   ·exact .inr (.inl hb)
  ·simp only [L', Lt.blocks, List.nodup_cons, blocksL_append, List.mem_append, List.nodup_append]
   refine ⟨fun h => ?_, hkn, hKn, fun x hx y hy e => ?_⟩
   ·rcases h with h | h
    ·have := hlt _ (hkb _ h); omega
    ·have := hKlt _ h; omega
   ·subst e
    exact hKL x hy (hkb x hx)
  ·rw [hsz]
   simp only [L', Lt.blocks, List.mem_cons, blocksL_append, List.mem_append] at hb
   rcases hb with rfl | hb | hb
   ·omega
   ·have := hlt _ (hkb _ hb); omega
   ·have := hKlt _ hb; omega
 have hfit : ∀ sCap, sCap < d.xs.length + ys.length → Builtin.nextslicecap (d.xs.length + ys.length) sCap * i.bytes ≤ 281474976710656 := fun sCap h => growslice_fits (by omega) (by rw [i3]; omega)
 cases hO with
 | nil _ =>
  rename_i e0 he0
  simp only [D.xs, List.length_nil, Nat.zero_add] at *
  by_cases h0 : ys.length = 0
  ·have hys : ys = [] := List.eq_nil_of_length_eq_zero h0
   subst hys
   refine ⟨.slice none 0 0, w, .nil, run_app_nil0 (und_slc hk) (und_slc hkx) z1 base cap2, Keeps.refl _ w, fun X' _ _ _ => .nil hk, fun X' _ => .nil hk, by simp [Lt.blocks], by simp [Lt.blocks], by simp [Lt.blocks]⟩
  ·have hr := run_app_grow (P := P) (w := w) (ty := ty) (und_slc hk) (und_slc hkx) z1 z2 (bs := none) (sLen := 0) (sCap := 0) (olds := []) (by simp) (fun _ => rfl) (fun a h => by cases h) (base := base) (n := ys.length) (c := cap2) (news := news) (by rw [i2]; exact hl) hb hnews (by omega) (by omega) (by rw [Nat.zero_add]; exact hfit 0 (by omega))
   simp only [Nat.zero_add] at hr
   have hg := grown [] [] 0 (by simp) rfl (by omega) (by simp [blocksL]) (by simp [blocksL]) (fun X' _ j hj => by omega)
   exact ⟨_, _, _, hr, hg⟩
 | slc hk' hblk hkl hxc hcs hel =>
  rename_i e0 b off cap E c kids xs
  rw [hk'] at hk
  injection hk with hk
  subst hk
  simp only [D.xs] at *
  have hbL : b ∈ (Lt.slc b off cap kids).blocks := by simp [Lt.blocks]
  simp only [Lt.blocks, List.nodup_cons] at hn
  have hmul : ∀ j k, j < k → j * P.cellsOf e0 + P.cellsOf e0 ≤ k * P.cellsOf e0 := fun j k h => by rw [← Nat.succ_mul]; exact Nat.mul_le_mul_right _ h
  by_cases hrm : xs.length + ys.length ≤ cap
  ·-- in place
   have hfitc : off + xs.length * i.size + news.length ≤ c.size := by
    rw [i2, hl, Nat.add_assoc, ← Nat.add_mul]
    exact Nat.le_trans (Nat.add_le_add_left (Nat.mul_le_mul_right _ hrm) _) hcs
   have hr := run_app_room (P := P) (w := w) (ty := ty) (und_slc hk') (und_slc hkx) z1 hblk (off := off) (sLen := xs.length) (sCap := cap) (base := base) (n := ys.length) (c := cap2) (by rw [i2]; exact hl) hb hnews h1 hrm hfitc
   rw [i2] at hr hfitc
   let w' := w.setRow b (splice c.toList (off + xs.length * P.cellsOf e0) news).toArray
   have hhere : w'.heap[b]? = some (.cells (splice c.toList (off + xs.length * P.cellsOf e0) news).toArray E (0, 0)) := setRow_heap w b c _ E _ hblk
   have hoth : ∀ b', b' ≠ b → w'.heap[b']? = w.heap[b']? := fun b' h => setRow_other w b b' _ h
   have hsz : w'.heap.size = w.heap.size := by simp [w']
   have hsl : (splice c.toList (off + xs.length * P.cellsOf e0) news).length = c.size := by rw [splice_length (by simpa using hfitc)]; simp
   have hkids : ∀ j, j < xs.length → ∀ b' ∈ (kids.getD j .leaf).blocks, b' ≠ b := fun j hj b' hb' e => hn.1 (by subst e; exact mem_blocksL.2 ⟨j, by omega, hb'⟩)
   have hfr : ∀ (X' : Nat → Prop) (K : Lt) (cs : List Value) (dd : D), (∀ b, b < w.heap.size → X' b → X b) → Own P A X w K cur e0 cs dd → (∀ b' ∈ K.blocks, b' ≠ b) → Own P A X' w' K cur e0 cs dd := fun X' K cs dd hX' h hB =>
    h.frame (Nat.le_of_eq hsz.symm) hX' (fun b' _ hn' => hoth b' fun e => by subst e; exact hn' (hXL _ hbL)) fun b' hb' => hoth b' (hB b' hb')
   refine ⟨_, w', .slc b off cap (kids ++ Ks), hr, ⟨rfl, rfl, rfl, Nat.le_of_eq hsz.symm, fun b' _ h => hoth b' fun e => h (by subst e; rfl)⟩, fun X' hX' hXb hY => ?_, fun X' hX' => ?_, fun b' hb' => ?_, ?_, fun b' hb' => ?_⟩
   ·have hlen : (xs ++ ys).length = xs.length + ys.length := List.length_append
    have := Own.slc (P := P) (A := A) (X := X') (w := w') (t := t) (s := cur) (ex := none) (b := b) (off := off) (cap := cap) (kids := kids ++ Ks) (xs := xs ++ ys) hk' hhere (by simp [hkl, hKs]) (by rw [hlen]; exact hrm) (by simp only [List.size_toArray, hsl]; exact hcs) fun j hj => by
     rw [hlen] at hj
     by_cases hjx : j < xs.length
     ·have hm := hmul j xs.length hjx
      have e1 : seg (splice c.toList (off + xs.length * P.cellsOf e0) news).toArray.toList (off + j * P.cellsOf e0) (P.cellsOf e0) = seg c.toList (off + j * P.cellsOf e0) (P.cellsOf e0) := by
       rw [List.toList_toArray]
       exact seg_splice_apart (by simpa using hfitc) (.inl (by omega))
      have e2 : (kids ++ Ks).getD j .leaf = kids.getD j .leaf := by simp only [List.getD_eq_getElem?_getD]; rw [List.getElem?_append_left (by omega)]
      have e3 : (xs ++ ys).getD j .und = xs.getD j .und := by simp only [List.getD_eq_getElem?_getD]; rw [List.getElem?_append_left (by omega)]
      rw [e1, e2, e3]
      exact hfr X' _ _ _ hX' (hel j hjx) (hkids j hjx)
     ·have hm : (j - xs.length) * P.cellsOf e0 + P.cellsOf e0 ≤ news.length := by rw [hl]; exact hmul _ _ (by omega)
      have hj' : off + j * P.cellsOf e0 = off + xs.length * P.cellsOf e0 + (j - xs.length) * P.cellsOf e0 := by rw [Nat.add_assoc, ← Nat.add_mul]; congr 2; omega
      have e1 : seg (splice c.toList (off + xs.length * P.cellsOf e0) news).toArray.toList (off + j * P.cellsOf e0) (P.cellsOf e0) = seg news ((j - xs.length) * P.cellsOf e0) (P.cellsOf e0) := by
       rw [List.toList_toArray, hj', ← seg_seg (n := news.length) (o := off + xs.length * P.cellsOf e0) hm, seg_splice_same (by simpa using hfitc)]
      have e2 : (kids ++ Ks).getD j .leaf = Ks.getD (j - xs.length) .leaf := by simp only [List.getD_eq_getElem?_getD]; rw [List.getElem?_append_right (by omega), hkl]
      have e3 : (xs ++ ys).getD j .und = ys.getD (j - xs.length) .und := by simp only [List.getD_eq_getElem?_getD]; rw [List.getElem?_append_right (by omega)]
      rw [e1, e2, e3]
      refine (hY _ (by omega)).frame (Nat.le_of_eq hsz.symm) (fun _ _ h => h) (fun b' hlt' hn' => ?_) fun b' hb' => hoth b' fun e => ?_
      ·exact hoth b' fun e => by subst e; exact hn' (hXb b' (by simp [Lt.blocks]) hbL)
      ·subst e
       exact hKL b' (mem_blocksL.2 ⟨_, by omega, hb'⟩) hbL
    rw [hlen] at this
    exact this
   ·refine Own.slc hk' hhere hkl hxc (by simp only [List.size_toArray, hsl]; exact hcs) fun j hj => ?_
    have hm := hmul j xs.length hj
    rw [List.toList_toArray, seg_splice_apart (by simpa using hfitc) (.inl (by omega))]
    exact hfr X' _ _ _ hX' (hel j hj) (hkids j hj)
   ·simp only [Lt.blocks, List.mem_cons, blocksL_append, List.mem_append] at hb' ⊢
    rcases hb' with h | h | h
    ·exact .inl (.inl h)
    ·exact .inl (.inr h)
    ·exact .inr (.inl h)
   ·simp only [Lt.blocks, List.nodup_cons, blocksL_append, List.mem_append, List.nodup_append]
    refine ⟨fun h => ?_, hn.2, hKn, fun x hx y hy e => ?_⟩
    ·rcases h with h | h
     ·exact hn.1 h
     ·exact hKL b h hbL
    ·subst e
     exact hKL x hy (by simp only [Lt.blocks, List.mem_cons]; exact .inr hx)
   ·rw [hsz]
    simp only [Lt.blocks, List.mem_cons, blocksL_append, List.mem_append] at hb'
    rcases hb' with rfl | h | h
    ·exact hlt _ hbL
    ·exact hlt _ (by simp only [Lt.blocks, List.mem_cons]; exact .inr h)
    ·exact hKlt _ h
  ·-- a new row
   have hfitx : off + xs.length * P.cellsOf e0 ≤ c.size := Nat.le_trans (Nat.add_le_add_left (Nat.mul_le_mul_right _ hxc) _) hcs
   have hol : (seg c.toList off (xs.length * P.cellsOf e0)).length = xs.length * P.cellsOf e0 := seg_length (by simpa using hfitx)
   have hr := run_app_grow (P := P) (w := w) (ty := ty) (und_slc hk') (und_slc hkx) z1 z2 (bs := some ⟨b, off, none⟩) (sLen := xs.length) (sCap := cap) (olds := seg c.toList off (xs.length * P.cellsOf e0)) (by rw [i2]; exact hol) (fun h => by cases h) (fun a h j u hu => by
     injection h with h
     subst h
     have hj : j < xs.length * P.cellsOf e0 := by have := (List.getElem?_eq_some_iff.1 hu).1; omega
     rw [addr_add, cell_of_block hblk, ← Array.getElem?_toList, ← hu, seg_get hj]) (base := base) (n := ys.length) (c := cap2) (news := news) (by rw [i2]; exact hl) hb hnews (by omega) (by omega) (hfit cap (by omega))
   have hg := grown (seg c.toList off (xs.length * P.cellsOf e0)) kids cap hol hkl (by omega) (fun b' hb' => by simp only [Lt.blocks, List.mem_cons]; exact .inr hb') hn.2 (fun X' hX' j hj => by
    rw [seg_seg (hmul j xs.length hj)]
    exact (hel j hj).frame (Nat.le_refl _) hX' (fun _ _ _ => rfl) fun _ _ => rfl)
   exact ⟨_, _, _, hr, hg⟩

end Go.Ab

/- What is appended. -/
namespace Go.Ab
variable {P : Program} {A : Ann}

theorem flat_news (c : Nat) (css : Nat → List Value) : ∀ n, (∀ i, i < n → (css i).length = c) → ∃ news : List Value, news.length = n * c ∧ ∀ i, i < n → seg news (i * c) c = css i
 | 0, _ => ⟨[], by simp, fun i hi => by omega⟩
 | n + 1, h => by
  obtain ⟨news, h1, h2⟩ := flat_news c css n fun i hi => h i (by omega)
  have hl := h n (by omega)
  refine ⟨news ++ css n, by rw [List.length_append, h1, hl, Nat.succ_mul], fun i hi => ?_⟩
  apply List.ext_getElem?
  intro q
  by_cases hq : q < c
  ·rw [seg_get hq]
   by_cases hin : i < n
   ·have : i * c + c ≤ n * c := by rw [← Nat.succ_mul]; exact Nat.mul_le_mul_right _ hin
    rw [List.getElem?_append_left (by omega), ← h2 i hin, seg_get hq]
   ·have : i = n := by omega
    subst this
    rw [List.getElem?_append_right (by omega), h1]
    congr 1
    omega
  ·rw [List.getElem?_eq_none (by simp [seg]; omega), List.getElem?_eq_none (by rw [h i hi]; omega)]

theorem Rep.flat (W : WF P) {X X' : Nat → Prop} {w : World} : ∀ (n t : Nat) (cs : List Value) (d : D), Go.Ab.flat P n t = true → Rep P A X w t cs d → Rep P A X' w t cs d
 | 0, t, cs, d, h, _ => by simp [Go.Ab.flat] at h
 | n + 1, t, cs, d, h, hr => by
  cases hr with
  | int hk => exact .int hk
  | bool hk => exact .bool hk
  | str hk => exact .str hk
  | struct hk hc hd hf =>
   simp only [Go.Ab.flat, hk, List.all_eq_true] at h
   exact .struct hk hc hd fun j ft o hj => Rep.flat W n ft _ _ (h _ (List.mem_of_getElem? hj)) (hf j ft o hj)
  | arr hk hc hd hf =>
   simp only [Go.Ab.flat, hk] at h
   exact .arr hk hc hd fun j hj => Rep.flat W n _ _ _ h (hf j hj)
  | _ => simp_all [Go.Ab.flat]

section
variable {X0 Y0 : Nat → Prop} {w0 : World} {ob : Nat → Option Obj} {ph : Nat → Ph} {w : World}

/-- What is appended: where it lies, its cells, its elements. -/
structure TailAt (P : Program) (A : Ann) (X : Nat → Prop) (w : World) (s : Sh) (e : Nat) (v : Value) (ys : List D) (base : Option Addr) (cap : Nat) (news : List Value) (Ks : List Lt) : Prop where
 val : v = .slice base ys.length cap
 len : news.length = ys.length * P.cellsOf e
 nil : base = none → ys.length = 0
 cells : ∀ a, base = some a → ∀ j u, news[j]? = some u → w.cell? (a.add j) = some u
 klen : Ks.length = ys.length
 own : ∀ i, i < ys.length → Own P A X w (Ks.getD i .leaf) s e (seg news (i * P.cellsOf e) (P.cellsOf e)) (ys.getD i .und)

theorem blocksL_leaf (n : Nat) : blocksL (List.replicate n .leaf) = [] := by
 induction n with
 | zero => rfl
 | succ n ih => simp [List.replicate_succ, blocksL, ih, Lt.blocks]

theorem tail_of_rep {X : Nat → Prop} {t e : Nat} {v : Value} {d : D} (hk : tk P t = .slc e) (h : RepV P A X w t v d) : ∃ base cap news, TailAt P A X w .imm e v d.xs base cap news (List.replicate d.xs.length .leaf) := by
 rcases rep_slc_inv hk h with ⟨p, rfl, rfl⟩ | ⟨b, off, cap, xs, css, rfl, rfl, _, _, _, h4, h5, h6⟩
 ·exact ⟨p, 0, [], rfl, by simp [D.xs], fun _ => rfl, (fun a _ j u hu => by simp at hu), rfl, fun i hi => by simp [D.xs] at hi⟩
 ·obtain ⟨news, n1, n2⟩ := flat_news (P.cellsOf e) css xs.length h4
  refine ⟨some ⟨b, off, none⟩, cap, news, rfl, n1, (fun h => by cases h), fun a ha j u hu => ?_, by simp, fun i hi => ?_⟩
  ·injection ha with ha
   subst ha
   have hj := (List.getElem?_eq_some_iff.1 hu).1
   have hpos : 0 < P.cellsOf e := by
    rcases Nat.eq_zero_or_pos (P.cellsOf e) with h | h
    ·rw [h, Nat.mul_zero] at n1; omega
    ·exact h
   have hlt : j / P.cellsOf e < xs.length := Nat.div_lt_of_lt_mul (by rw [Nat.mul_comm]; omega)
   have h1 := Nat.div_add_mod j (P.cellsOf e)
   have h2 := Nat.mod_lt j hpos
   rw [Nat.mul_comm] at h1
   have h3 := h5 _ hlt (j % P.cellsOf e) (by rw [h4 _ hlt]; exact h2)
   rw [addr_add, ← hu, show off + j = off + j / P.cellsOf e * P.cellsOf e + j % P.cellsOf e by omega, h3, ← n2 _ hlt, seg_get h2]
   congr 1
  ·have e1 : (List.replicate xs.length Lt.leaf).getD i .leaf = .leaf := by
    simp only [List.getD_eq_getElem?_getD, List.getElem?_replicate]
    split <;> rfl
   rw [show (D.slc xs).xs = xs from rfl, e1, n2 i hi]
   exact .imm (h6 i hi)

theorem TailAt.mono {X X' : Nat → Prop} {s : Sh} {e : Nat} {v : Value} {ys : List D} {base : Option Addr} {cap : Nat} {news : List Value} {Ks : List Lt} (h : TailAt P A X w s e v ys base cap news Ks) (hX : ∀ b, b < w.heap.size → X' b → X b) : TailAt P A X' w s e v ys base cap news Ks :=
 ⟨h.val, h.len, h.nil, h.cells, h.klen, fun i hi => (h.own i hi).frame (Nat.le_refl _) hX (fun _ _ _ => rfl) fun _ _ => rfl⟩

/-- The elements of an owned slice. -/
theorem tail_of_own {X : Nat → Prop} {L : Lt} {s : Sh} {t e : Nat} {v : Value} {d : D} (hk : tk P t = .slc e) (h : Own P A X w L (.slc s none) t [v] d) : ∃ base cap news Ks, TailAt P A X w s e v d.xs base cap news Ks ∧ (∀ b ∈ blocksL Ks, b ∈ L.blocks) ∧ (L.blocks.Nodup → (blocksL Ks).Nodup) := by
 cases h with
 | nil _ => exact ⟨none, 0, [], [], ⟨rfl, by simp [D.xs], fun _ => rfl, (fun a h => by cases h), rfl, fun i hi => by simp [D.xs] at hi⟩, by simp [blocksL], fun _ => by simp [blocksL]⟩
 | slc hk' hb h1 h2 h3 h4 =>
  rename_i e' b off cap E c kids xs
  rw [hk] at hk'
  injection hk' with hk'
  subst hk'
  have hm : off + xs.length * P.cellsOf e ≤ c.size := Nat.le_trans (Nat.add_le_add_left (Nat.mul_le_mul_right _ h2) _) h3
  have hl : (seg c.toList off (xs.length * P.cellsOf e)).length = xs.length * P.cellsOf e := seg_length (by simpa using hm)
  refine ⟨some ⟨b, off, none⟩, cap, seg c.toList off (xs.length * P.cellsOf e), kids, ⟨rfl, hl, (fun h => by cases h), fun a ha j u hu => ?_, h1, fun i hi => ?_⟩, fun b' hb' => by simp only [Lt.blocks, List.mem_cons]; exact .inr hb', fun hn => by simp only [Lt.blocks, List.nodup_cons] at hn; exact hn.2⟩
  ·injection ha with ha
   subst ha
   have hj : j < xs.length * P.cellsOf e := by have := (List.getElem?_eq_some_iff.1 hu).1; omega
   rw [addr_add, cell_of_block hb, ← Array.getElem?_toList, ← hu, seg_get hj]
  ·have : i * P.cellsOf e + P.cellsOf e ≤ xs.length * P.cellsOf e := by rw [← Nat.succ_mul]; exact Nat.mul_le_mul_right _ hi
   rw [seg_seg this]
   exact h4 i hi

theorem val_root {X : Nat → Prop} {o u : Nat} {x : Obj} {v : Value} (ho : OkObj P A X w x (ph o)) (hx : ob o = some x) (h : AVR1 P A X w ob ph (.val o [] u) v) : x.sh ≠ .it ∧ tk P x.t = tk P u ∧ v = mkV P x.t (ph o).cs := by
 obtain ⟨g1, g2⟩ := h x hx
 have hit : x.sh ≠ .it := fun e => by obtain ⟨m, hm, _⟩ := g1 e; cases hm
 obtain ⟨u', a1, a2, a3⟩ := g2 hit
 simp only [tyAt, Option.some.injEq] at a1
 subst a1
 refine ⟨hit, a2, ?_⟩
 rcases a3 with a3 | ⟨_, _, a3⟩
 ·obtain ⟨e1, e2⟩ := ho.own.header a3
  rw [e1, mkV_one e2]
 ·exact a3

theorem Own.slc_cs {X : Nat → Prop} {L : Lt} {s : Sh} {ex : Option (Nat × Sh)} {t : Nat} {cs : List Value} {d : D} (h : Own P A X w L (.slc s ex) t cs d) : ∃ v, cs = [v] := by
 cases h with
 | nil => exact ⟨_, rfl⟩
 | slc => exact ⟨_, rfl⟩

theorem tail_spec (W : WF P) (hO : Objs' P A X0 Y0 w0.heap.size ob ph w) {t e : Nat} (hk : tk P t = .slc e) {av : AV} {v : Value} {s : Sh} {ys : List D} {os : Objs} (h : AVR1 P A (Xof X0 ob ph) w ob ph av v) (ht : appTail P ob t av = some (some s, ys, os)) :
  ∃ base cap news Ks, TailAt P A (Xof X0 ob ph) w s e v ys base cap news Ks ∧ (blocksL Ks).Nodup ∧ ((os = [] ∧ blocksL Ks = []) ∨ ∃ o x, os = [(o, none)] ∧ ob o = some x ∧ ∀ b ∈ blocksL Ks, b ∈ (ph o).S) := by
 have imm : ∀ d, RepV P A (Xof X0 ob ph) w t v d → s = .imm → ys = d.xs → os = [] → ∃ base cap news Ks, TailAt P A (Xof X0 ob ph) w s e v ys base cap news Ks ∧ (blocksL Ks).Nodup ∧ ((os = [] ∧ blocksL Ks = []) ∨ ∃ o x, os = [(o, none)] ∧ ob o = some x ∧ ∀ b ∈ blocksL Ks, b ∈ (ph o).S) := by
  intro d hr e1 e2 e3
  subst e1 e2 e3
  obtain ⟨base, cap, news, hT⟩ := tail_of_rep hk hr
  exact ⟨base, cap, news, _, hT, by rw [blocksL_leaf]; exact List.nodup_nil, .inl ⟨rfl, blocksL_leaf _⟩⟩
 have fixed : ∀ (a : AV), a = av → a.fixed = true → (match (generalizing := false) St.data P ob t a with
  | some d => some (some Sh.imm, d.xs, ([] : Objs))
  | none => none) = some (some s, ys, os) → ∃ base cap news Ks, TailAt P A (Xof X0 ob ph) w s e v ys base cap news Ks ∧ (blocksL Ks).Nodup ∧ ((os = [] ∧ blocksL Ks = []) ∨ ∃ o x, os = [(o, none)] ∧ ob o = some x ∧ ∀ b ∈ blocksL Ks, b ∈ (ph o).S) := by
  intro a ea hf hd
  subst ea
  split at hd <;> try contradiction
  rename_i d hdd
  simp only [Option.some.injEq, Prod.mk.injEq] at hd
  obtain ⟨rfl, rfl, rfl⟩ := hd
  exact imm d (data_imm W h hdd hf) rfl rfl rfl
 cases av with
 | val o p u =>
  cases p with
  | nil =>
   simp only [appTail, cond_eq] at ht
   split at ht <;> try contradiction
   rename_i hku
   split at ht <;> try contradiction
   rename_i x hx
   have ho := hO.ok o x hx
   obtain ⟨hit, htk, hv⟩ := val_root ho hx h
   have hkx : tk P x.t = .slc e := htk.trans ((sameK_eq hku).symm.trans hk)
   split at ht <;> try contradiction
   ·rename_i s' hsh
    simp only [Option.some.injEq, Prod.mk.injEq] at ht
    obtain ⟨rfl, rfl, rfl⟩ := ht
    have hown := ho.own
    rw [hsh] at hown
    obtain ⟨v', hcs⟩ := hown.slc_cs
    rw [hcs] at hown hv
    rw [mkV_one (by rw [hkx]; rfl)] at hv
    subst hv
    obtain ⟨base, cap, news, Ks, hT, hB, hN⟩ := tail_of_own hkx hown
    have hnL : (ph o).L.blocks.Nodup := by
     have := ho.nodup
     simp only [Ph.F, Ph.S, List.nodup_append] at this
     exact this.2.1.1
    refine ⟨base, cap, news, Ks, hT, hN hnL, ?_⟩
    by_cases hi : s'.isImm = true
    ·left
     rw [if_pos hi]
     refine ⟨rfl, ?_⟩
     apply List.eq_nil_iff_forall_not_mem.2
     intro b hb
     obtain ⟨i, hi', hb⟩ := mem_blocksL.1 hb
     have := hT.own i (by rw [← hT.klen]; exact hi')
     rw [isImm_iff.1 hi] at this
     rw [this.leaf_of_imm.1] at hb
     simp [Lt.blocks] at hb
    ·right
     rw [if_neg hi]
     exact ⟨o, x, rfl, hx, fun b hb => by simp only [Ph.S, List.mem_append]; exact .inl (hB b hb)⟩
   ·rename_i hsh
    simp only [Option.some.injEq, Prod.mk.injEq] at ht
    obtain ⟨rfl, rfl, rfl⟩ := ht
    exact imm _ (RepV.kind W (val_imm W ho hx h (by rw [hsh]; rfl)) (sameK_eq hku).symm) rfl rfl rfl
  | cons z p =>
   simp only [appTail, cond_eq] at ht
   split at ht <;> try contradiction
   rename_i hku
   split at ht <;> try contradiction
   rename_i x hx
   have ho := hO.ok o x hx
   split at ht <;> try contradiction
   ·rename_i hs
    simp only [Option.some.injEq, Prod.mk.injEq] at ht
    obtain ⟨rfl, rfl, rfl⟩ := ht
    exact imm _ (RepV.kind W (val_imm W ho hx h hs) (sameK_eq hku).symm) rfl rfl rfl
   ·rename_i hs
    simp only [Option.some.injEq, Prod.mk.injEq] at ht
    obtain ⟨rfl, rfl, rfl⟩ := ht
    obtain ⟨_, g2⟩ := h x hx
    obtain ⟨u', hu, hk', h3⟩ := g2 (not_it_of_get hs (by simp))
    have hku' : tk P u' = .slc e := hk'.trans ((sameK_eq hku).symm.trans hk)
    rcases h3 with h3 | ⟨h3, _⟩
    ·obtain ⟨cs', hown⟩ := ho.own.sub W _ hs hu h3
     obtain ⟨rfl, _⟩ := hown.header h3
     obtain ⟨base, cap, news, Ks, hT, hB, hN⟩ := tail_of_own hku' hown
     have hb0 : blocksL Ks = [] := by
      apply List.eq_nil_iff_forall_not_mem.2
      intro b hb
      obtain ⟨i, hi', hb⟩ := mem_blocksL.1 hb
      have := hT.own i (by rw [← hT.klen]; exact hi')
      rw [this.leaf_of_imm.1] at hb
      simp [Lt.blocks] at hb
     exact ⟨base, cap, news, Ks, hT, by rw [hb0]; exact List.nodup_nil, .inl ⟨rfl, hb0⟩⟩
    ·cases h3
 | old o u d =>
  simp only [appTail, hk, cond_eq] at ht
  split at ht <;> try contradiction
  rename_i hfl
  split at ht <;> try contradiction
  rename_i d' hd
  simp only [Option.some.injEq, Prod.mk.injEq] at ht
  obtain ⟨rfl, rfl, rfl⟩ := ht
  obtain ⟨X1, hX1, hr⟩ := data_rep (P := P) (A := A) W hO h hd
  obtain ⟨base, cap, news, hT⟩ := tail_of_rep hk hr
  refine ⟨base, cap, news, List.replicate d'.xs.length .leaf, ⟨hT.val, hT.len, hT.nil, hT.cells, hT.klen, fun i hi => ?_⟩, by rw [blocksL_leaf]; exact List.nodup_nil, .inl ⟨rfl, blocksL_leaf _⟩⟩
  obtain ⟨e1, e2⟩ := (hT.own i hi).leaf_of_imm
  rw [e1]
  exact .imm (Rep.flat W 6 e _ _ hfl e2)
 | imm u d => exact fixed _ rfl rfl ht
 | con c => exact fixed _ rfl rfl ht
 | nils u => exact fixed _ rfl rfl ht
 | _ => simp [appTail, St.data] at ht

end
end Go.Ab

/- Objects that change; holes. -/
namespace Go.Ab
variable {P : Program} {A : Ann}

section
variable {X0 Y0 : Nat → Prop} {w0 : World} {g : St} {ph : Nat → Ph} {a : Act} {w : World} {o : Oper} {K : Dl → Prop}

/-- SOME OBJECTS CHANGE; the others stay. -/
theorem RelD.upd (R : RelA P A X0 Y0 w0 g ph a w) {os : Objs} {ks : List (Nat × KM)} {v : AV} {val : Value} {w' : World} {ph' : Nat → Ph} {D : Nat → Prop}
  (hw : Keeps (fun b => ∃ k, D k ∧ ∃ x, lookO g.ob k = some x ∧ b ∈ (ph k).F) w w')
  (hsame : ∀ c, ¬ D c → upO os (lookO g.ob) c = lookO g.ob c ∧ ph' c = ph c)
  (hF : ∀ c z, D c → upO os (lookO g.ob) c = some z → ∀ b ∈ (ph' c).F, w.heap.size ≤ b ∨ ∃ k x, D k ∧ lookO g.ob k = some x ∧ b ∈ (ph k).F)
  (hap : ∀ c z c' z', D c → D c' → upO os (lookO g.ob) c = some z → upO os (lookO g.ob) c' = some z' → c ≠ c' → ∀ b ∈ (ph' c).F, b ∉ (ph' c').F)
  (hok : (∀ b, b < w.heap.size → Xof X0 (upO os (lookO g.ob)) ph' b → Xof X0 (lookO g.ob) ph b) → ∀ c z, D c → upO os (lookO g.ob) c = some z → OkObj P A (Xof X0 (upO os (lookO g.ob)) ph') w' z (ph' c))
  (hsl : (∀ b, b < w.heap.size → Xof X0 (upO os (lookO g.ob)) ph' b → Xof X0 (lookO g.ob) ph b) → ∀ s, AVR P A (Xof X0 (upO os (lookO g.ob)) ph') w' (upO os (lookO g.ob)) ph' (strike ks (look g.sl s)) (a.tmps.getD s undef))
  (hv : (∀ b, b < w.heap.size → Xof X0 (upO os (lookO g.ob)) ph' b → Xof X0 (lookO g.ob) ph b) → AVR P A (Xof X0 (upO os (lookO g.ob)) ph') w' (upO os (lookO g.ob)) ph' v val) :
  RelD P A X0 Y0 w0 (look g.sl) (lookO g.ob) a.tmps { v, os, ks } val w' := by
 have hO := R.objs
 have hn0 : w0.heap.size ≤ w.heap.size := R.keeps.size
 have hX : ∀ b, b < w.heap.size → Xof X0 (upO os (lookO g.ob)) ph' b → Xof X0 (lookO g.ob) ph b := by
  rintro b hb (h | ⟨c, z, hz, hm⟩)
  ·exact .inl h
  ·by_cases hc : D c
   ·rcases hF c z hc hz b hm with h | ⟨k, x, _, hx, h⟩
    ·omega
    ·exact .inr ⟨k, x, hx, h⟩
   ·obtain ⟨e1, e2⟩ := hsame c hc
    rw [e1] at hz
    rw [e2] at hm
    exact .inr ⟨c, z, hz, hm⟩
 have hnot : ∀ c z b, ¬ D c → lookO g.ob c = some z → b ∈ (ph c).F → ¬ ∃ k, D k ∧ ∃ x, lookO g.ob k = some x ∧ b ∈ (ph k).F := by
  rintro c z b hc hz hb ⟨k, hk, x, hx, hm⟩
  exact hO.apart c z k x hz hx (fun e => hc (e ▸ hk)) b hb hm
 refine ⟨ph', ⟨fun c z hz => ?_, fun c z c' z' hz hz' hcc b hb hb' => ?_, fun c z hz b hb hx => ?_, fun c z hz b hb => ?_, hO.old⟩, hsl hX, hv hX, R.keeps.trans hw (fun _ h => h) fun b hb => ?_⟩
 ·by_cases hc : D c
  ·exact hok hX c z hc hz
  ·obtain ⟨e1, e2⟩ := hsame c hc
   have hz0 : lookO g.ob c = some z := e1 ▸ hz
   rw [e2]
   refine (hO.ok c z hz0).frame hw.size hX (fun b hb hn => hw.block b hb ?_) fun b hb => hw.block b ((hO.ok c z hz0).lt b hb) (hnot c z b hc hz0 hb)
   rintro ⟨k, _, x, hx, hm⟩
   exact hn (.inr ⟨k, x, hx, hm⟩)
 ·have key : ∀ c z c' z' b, D c → ¬ D c' → upO os (lookO g.ob) c = some z → upO os (lookO g.ob) c' = some z' → b ∈ (ph' c).F → b ∈ (ph' c').F → False := by
   intro c z c' z' b hc hc' hz hz' hb hb'
   obtain ⟨e1, e2⟩ := hsame c' hc'
   rw [e1] at hz'
   rw [e2] at hb'
   rcases hF c z hc hz b hb with h | ⟨k, x, hk, hx, h⟩
   ·have := (hO.ok c' z' hz').lt b hb'; omega
   ·exact hO.apart c' z' k x hz' hx (fun e => hc' (e ▸ hk)) b hb' h
  by_cases hc : D c
  ·by_cases hc' : D c'
   ·exact hap c z c' z' hc hc' hz hz' hcc b hb hb'
   ·exact key c z c' z' b hc hc' hz hz' hb hb'
  ·by_cases hc' : D c'
   ·exact key c' z' c z b hc' hc hz' hz hb' hb
   ·obtain ⟨e1, e2⟩ := hsame c hc
    obtain ⟨e3, e4⟩ := hsame c' hc'
    rw [e1] at hz
    rw [e2] at hb
    rw [e3] at hz'
    rw [e4] at hb'
    exact hO.apart c z c' z' hz hz' hcc b hb hb'
 ·by_cases hc : D c
  ·rcases hF c z hc hz b hb with h | ⟨k, x, hk, hx', h⟩
   ·have := hO.old b hx; omega
   ·exact hO.free k x hx' b h hx
  ·obtain ⟨e1, e2⟩ := hsame c hc
   rw [e1] at hz
   rw [e2] at hb
   exact hO.free c z hz b hb hx
 ·by_cases hc : D c
  ·rcases hF c z hc hz b hb with h | ⟨k, x, hk, hx', h⟩
   ·exact .inr (by omega)
   ·exact hO.ours k x hx' b h
  ·obtain ⟨e1, e2⟩ := hsame c hc
   rw [e1] at hz
   rw [e2] at hb
   exact hO.ours c z hz b hb
 ·rintro ⟨k, _, x, hx, hm⟩
  rcases hO.ours k x hx b hm with h | h
  ·exact h
  ·omega

end

theorem tail_weak {X : Nat → Prop} {w : World} {s cur : Sh} {e : Nat} {v : Value} {ys : List D} {base : Option Addr} {cap : Nat} {news : List Value} {Ks : List Lt} (h : TailAt P A X w s e v ys base cap news Ks) (hn : (blocksL Ks).Nodup) (hw : s.weak cur = true) :
  ∃ Ks' : List Lt, Ks'.length = ys.length ∧ (blocksL Ks').Nodup ∧ (∀ b ∈ blocksL Ks', b ∈ blocksL Ks) ∧ ∀ X' : Nat → Prop, (∀ b, b < w.heap.size → X' b → X b) → (∀ b ∈ blocksL Ks, b ∉ blocksL Ks' → ¬ X' b) → ∀ i, i < ys.length →
   Own P A X' w (Ks'.getD i .leaf) cur e (seg news (i * P.cellsOf e) (P.cellsOf e)) (ys.getD i .und) := by
 have hnk := nodup_blocksL hn
 obtain ⟨Ks', h1, h2⟩ := list_choice Lt.leaf ys.length (R := fun i L' => Less P A X w (Ks.getD i .leaf) L' cur e (seg news (i * P.cellsOf e) (P.cellsOf e)) (ys.getD i .und)) fun i hi => (h.own i hi).weakN 8 cur hw (hnk.1 i (by rw [h.klen]; exact hi))
 have hkl := h.klen
 have hsub : ∀ i, i < ys.length → ∀ b ∈ (Ks'.getD i .leaf).blocks, b ∈ (Ks.getD i .leaf).blocks := fun i hi => (h2 i hi).sub
 refine ⟨Ks', h1, nodup_blocksL_mk (fun i hi => (h2 i (by omega)).nodup) (fun i j b hi hj hb hb' => hnk.2 i j b (by omega) (by omega) (hsub i (by omega) b hb) (hsub j (by omega) b hb')), fun b hb => ?_, fun X' hX' hB i hi => ?_⟩
 ·obtain ⟨i, hi, hb⟩ := mem_blocksL.1 hb
  exact mem_blocksL.2 ⟨i, by omega, hsub i (by omega) b hb⟩
 ·refine (h2 i hi).own X' hX' fun b hb hb2 => hB b (mem_blocksL.2 ⟨i, by omega, hb⟩) fun hb3 => ?_
  obtain ⟨j, hj, hb3⟩ := mem_blocksL.1 hb3
  have := hnk.2 i j b (by omega) (by omega) hb (hsub j (by omega) b hb3)
  subst this
  exact hb2 hb3

/-- A PLACE'S VALUE IS TAKEN OUT. -/
theorem Own.hole (W : WF P) {X : Nat → Prop} {w : World} : ∀ (p : Pth) {L : Lt} {s s' sv : Sh} {t u : Nat} {cs : List Value} {d : D}, Own P A X w L s t cs d → s.hole p = some s' → s.get p = some sv → tyAt P t p = some u → (∃ hv, (L.sub p).hv = some hv) → L.blocks.Nodup →
  ∃ L', Own P A X w L' s' t cs d ∧ (∀ b ∈ L'.blocks, b ∈ L.blocks ∧ b ∉ (L.sub p).blocks) ∧ L'.blocks.Nodup ∧
   (∀ lc q, underIdx p q = false → L'.loc P lc t q = L.loc P lc t q) ∧ (∀ q, under p q = false → (L'.sub q).hv = (L.sub q).hv)
 | [], L, s, s', sv, t, u, cs, d, h, hh, _, _, _, hn => by
  simp only [Sh.hole, Option.some.injEq] at hh
  subst hh
  exact ⟨.gone, .gone (h.length W), by simp [Lt.blocks], by simp [Lt.blocks], fun lc q hq => loc_noIdx _ _ _ _ _ (by simpa [underIdx, under] using hq), fun q hq => by simp [under] at hq⟩
 | .fld j :: p, L, s, s', sv, t, u, cs, d, h, hh, hg, ht, hv, hn => by
  simp only [Sh.hole] at hh
  split at hh <;> try contradiction
  rename_i sj hsj
  split at hh <;> try contradiction
  rename_i u' hpj
  simp only [Sh.get, hsj] at hg
  simp only [tyAt] at ht
  split at ht <;> try contradiction
  rename_i fs hk
  split at ht <;> try contradiction
  rename_i ft o hj
  obtain ⟨ds, rfl, hd', hc, hf⟩ := h.fields hk (Sh.fld_all hsj)
  have hjl := (List.getElem?_eq_some_iff.1 hj).1
  have hform := h.form hk hsj
  obtain ⟨Lj, hO, hB, hN, hS1, hS2⟩ := Own.hole W p (hf j ft o hj sj hsj) hpj hg ht hv (nodup_kid hn j)
  have hfl := Sh.setFld_fld hh
  obtain ⟨L', g1, g2, g3, g4⟩ := own_of_fields (A := A) (X := X) (w := w) (s := s') (cs := cs) (ds := ds) hk (fun k => by rw [hfl]; split; exact ⟨_, rfl⟩; exact Sh.fld_all hsj k) hc hd' (fun k => if k = j then Lj else L.kid k) fun k ft' o' hk' v hv' => by
   rw [hfl] at hv'
   by_cases e : k = j
   ·subst e
    rw [hj] at hk'
    injection hk' with hk'
    injection hk' with e1 e2
    subst e1 e2
    simp only [if_true, Option.some.injEq] at hv' ⊢
    subst hv'
    exact hO
   ·simp only [if_neg e] at hv' ⊢
    exact hf k ft' o' hk' v hv'
  have hkj : L'.kid j = Lj := by rw [g2 j hjl, if_pos rfl]
  have hko : ∀ k, k ≠ j → L'.kid k = L.kid k := fun k e => by
   by_cases hkl : k < fs.length
   ·rw [g2 k hkl, if_neg e]
   ·rw [kid_beyond g4 (by omega), kid_beyond hform (by omega)]
  have hkid : ∀ i k b, i < fs.length → k < fs.length → b ∈ (L.kid i).blocks → b ∈ (L.kid k).blocks → i = k := by
   intro i k b hi hk1 hb hb'
   rcases hform with rfl | ⟨ks, rfl, hl⟩
   ·simp [Lt.kid, Lt.blocks] at hb
   ·exact (nodup_blocksL hn).2 i k b (by omega) (by omega) hb hb'
  refine ⟨L', g1, fun b hb => ?_, ?_, fun lc q hq => ?_, fun q hq => ?_⟩
  ·obtain ⟨k, hkl, hb⟩ := g3 b hb
   by_cases e : k = j
   ·subst e
    simp only [if_true] at hb
    obtain ⟨h1, h2⟩ := hB b hb
    exact ⟨blocks_of_kid h1, h2⟩
   ·simp only [if_neg e] at hb
    exact ⟨blocks_of_kid hb, fun hb' => e (hkid k j b hkl hjl hb (sub_blocks p _ b hb'))⟩
  ·refine nodup_of_kids g4 (fun i hi => ?_) fun i k b hi hk1 hb hb' => ?_
   ·by_cases e : i = j
    ·subst e; rw [hkj]; exact hN
    ·rw [hko i e]; exact nodup_kid hn i
   ·by_cases e : i = j
    ·subst e
     by_cases e2 : k = i
     ·exact e2.symm
     ·rw [hkj] at hb
      rw [hko k e2] at hb'
      exact hkid i k b hi hk1 (hB b hb).1 hb'
    ·by_cases e2 : k = j
     ·subst e2
      rw [hkj] at hb'
      rw [hko i e] at hb
      exact hkid i k b hi hk1 hb (hB b hb').1
     ·rw [hko i e] at hb
      rw [hko k e2] at hb'
      exact hkid i k b hi hk1 hb hb'
  ·cases q with
   | nil => rfl
   | cons y q =>
    cases y with
    | fld k =>
     simp only [Lt.loc, hk]
     cases hfk : fs[k]? with
     | none => rfl
     | some x =>
      simp only
      by_cases e : k = j
      ·subst e
       rw [underIdx_cons_fld] at hq
       rw [hj] at hfk
       injection hfk with hfk
       subst hfk
       rw [hkj]
       exact hS1 _ q hq
      ·rw [hko k e]
    | idx i => rw [loc_struct g4, loc_struct hform]
    | arr i => simp only [Lt.loc, hk]
  ·cases q with
   | nil => simp only [Lt.sub]; rw [hv_struct g4, hv_struct hform]
   | cons y q =>
    cases y with
    | fld k =>
     simp only [Lt.sub]
     by_cases e : k = j
     ·subst e
      rw [hkj]
      exact hS2 q (by simpa [under] using hq)
     ·rw [hko k e]
    | idx i => simp only [Lt.sub]; rw [el_struct g4, el_struct hform]
    | arr i => simp only [Lt.sub]
 | .idx i :: p, L, s, s', sv, t, u, cs, d, h, hh, hg, ht, hv, hn => by
  cases h with
  | slc hk hb h1 h2 h3 h4 =>
   rename_i e s0 ex b off cap E c kids xs
   cases ex with
   | some x => simp [Sh.hole] at hh
   | none =>
    simp only [Sh.hole] at hh
    split at hh <;> try contradiction
    rename_i s1 hs1
    simp only [Option.some.injEq] at hh
    subst hh
    simp only [Sh.get] at hg
    simp only [tyAt, hk] at ht
    simp only [Lt.sub, Lt.el] at hv
    have hi : i < xs.length := by
     by_cases hi : i < xs.length
     ·exact hi
     ·obtain ⟨v, hv⟩ := hv
      rw [List.getD_eq_getElem?_getD, List.getElem?_eq_none (by omega)] at hv
      simp [leaf_sub, Lt.hv] at hv
    simp only [Lt.blocks, List.nodup_cons] at hn
    have hnk := nodup_blocksL hn.2
    obtain ⟨Li, hO, hB, hN, hS1, hS2⟩ := Own.hole W p (h4 i hi : Own P A X w _ s0 e _ _) hs1 hg ht hv (hnk.1 i (by omega))
    have hset : ∀ k, (kids.set i Li).getD k .leaf = if k = i then Li else kids.getD k .leaf := fun k => getD_set_eq (by omega)
    refine ⟨.slc b off cap (kids.set i Li), .slc hk hb (by simpa using h1) h2 h3 fun k hk1 => ?_, fun b' hb' => ?_, ?_, fun lc q hq => ?_, fun q hq => ?_⟩
    ·rw [hset]
     by_cases e1 : k = i
     ·subst e1
      simp only [elS, if_true]
      exact hO
     ·simp only [elS, if_neg e1]
      exact h4 k hk1
    ·simp only [Lt.blocks, List.mem_cons, Lt.sub, Lt.el] at hb' ⊢
     rcases hb' with rfl | hb'
     ·exact ⟨.inl rfl, fun hm => hn.1 (mem_blocksL.2 ⟨i, by omega, sub_blocks p _ _ hm⟩)⟩
     ·obtain ⟨k, hk1, hb'⟩ := mem_blocksL.1 hb'
      rw [List.length_set] at hk1
      rw [hset] at hb'
      by_cases e1 : k = i
      ·subst e1
       rw [if_pos rfl] at hb'
       obtain ⟨g1, g2⟩ := hB b' hb'
       exact ⟨.inr (mem_blocksL.2 ⟨k, hk1, g1⟩), g2⟩
      ·rw [if_neg e1] at hb'
       exact ⟨.inr (mem_blocksL.2 ⟨k, hk1, hb'⟩), fun hm => e1 (hnk.2 k i b' hk1 (by omega) hb' (sub_blocks p _ _ hm))⟩
    ·simp only [Lt.blocks, List.nodup_cons]
     have hmem : ∀ k b', b' ∈ ((kids.set i Li).getD k .leaf).blocks → b' ∈ (kids.getD k .leaf).blocks := fun k b' hb' => by
      rw [hset] at hb'
      by_cases e1 : k = i
      ·subst e1; rw [if_pos rfl] at hb'; exact (hB b' hb').1
      ·rw [if_neg e1] at hb'; exact hb'
     refine ⟨fun hm => ?_, nodup_blocksL_mk (fun k hk1 => ?_) fun k l b' hk1 hl1 hb1 hb2 => ?_⟩
     ·obtain ⟨k, hk1, hb'⟩ := mem_blocksL.1 hm
      rw [List.length_set] at hk1
      exact hn.1 (mem_blocksL.2 ⟨k, hk1, hmem k b hb'⟩)
     ·rw [hset]
      rw [List.length_set] at hk1
      by_cases e1 : k = i
      ·rw [if_pos e1]; exact hN
      ·rw [if_neg e1]; exact hnk.1 k hk1
     ·rw [List.length_set] at hk1 hl1
      exact hnk.2 k l b' hk1 hl1 (hmem k b' hb1) (hmem l b' hb2)
    ·cases q with
     | nil => rfl
     | cons y q =>
      cases y with
      | fld k => simp only [Lt.loc, hk]
      | idx k =>
       simp only [Lt.loc, hk, List.length_set, hset]
       by_cases e1 : k = i
       ·subst e1
        rw [underIdx_cons_idx] at hq
        simp only [if_true]
        by_cases hk1 : k < kids.length
        ·rw [if_pos hk1, if_pos hk1]
         have : underIdx p q = false := by
          simp only [underIdx, Bool.and_eq_false_iff] at hq ⊢
          exact hq
         exact hS1 _ q this
        ·rw [if_neg hk1, if_neg hk1]
       ·simp only [if_neg e1]
      | arr k => simp only [Lt.loc, hk]
    ·cases q with
     | nil => simp [Lt.sub, Lt.hv]
     | cons y q =>
      cases y with
      | fld k => simp only [Lt.sub, Lt.kid]
      | idx k =>
       simp only [Lt.sub, Lt.el, hset]
       by_cases e1 : k = i
       ·subst e1
        rw [if_pos rfl]
        exact hS2 q (by simpa [under] using hq)
       ·rw [if_neg e1]
      | arr k => simp only [Lt.sub]
  | nil => obtain ⟨v, hv⟩ := hv; simp [Lt.sub, Lt.el, leaf_sub, Lt.hv] at hv
  | _ => simp [Sh.hole] at hh
 | .arr i :: p, L, s, s', sv, t, u, cs, d, h, hh, hg, ht, hv, hn => by cases s <;> simp [Sh.hole] at hh

end Go.Ab
