/- The abstraction layer, part 4: rules that read a program as plain data, and that they are sound. Conditions: those in each theorem. -/
import Derived.Test.YtpkjnlmniacnaaaAbPart3
import Derived.Maps.RangeRun
set_option linter.unusedVariables false
set_option linter.unusedSimpArgs false
/- Objects that change; holes. -/
namespace Go.Ab
variable {P : Program} {A : Ann}

section
variable {X0 Y0 : Nat → Prop} {w0 : World} {g : St} {ph : Nat → Ph} {a : Act} {w : World} {o : Oper} {K : Dl → Prop}

/-- SOME OBJECTS CHANGE; the others stay. -/
theorem RelD.upd (R : RelA P A X0 Y0 w0 g ph a w) {os : Objs} {ks : List (Nat × KM)} {v : AV} {val : Value} {w' : World} {ph' : Nat → Ph} {D : Nat → Prop}
    (hw : Keeps (fun b => ∃ k, D k ∧ ∃ x, lookO g.ob k = some x ∧ b ∈ (ph k).F) w w')
    (hsame : ∀ c, ¬ D c → upO os (lookO g.ob) c = lookO g.ob c ∧ ph' c = ph c)
    (hF : ∀ c z, D c → upO os (lookO g.ob) c = some z → ∀ b ∈ (ph' c).F, w.heap.size ≤ b ∨ ∃ k x, D k ∧ lookO g.ob k = some x ∧ b ∈ (ph k).F)
    (hap : ∀ c z c' z', D c → D c' → upO os (lookO g.ob) c = some z → upO os (lookO g.ob) c' = some z' → c ≠ c' → ∀ b ∈ (ph' c).F, b ∉ (ph' c').F)
    (hok : (∀ b, b < w.heap.size → Xof X0 (upO os (lookO g.ob)) ph' b → Xof X0 (lookO g.ob) ph b) → ∀ c z, D c → upO os (lookO g.ob) c = some z → OkObj P A (Xof X0 (upO os (lookO g.ob)) ph') w' z (ph' c))
    (hsl : (∀ b, b < w.heap.size → Xof X0 (upO os (lookO g.ob)) ph' b → Xof X0 (lookO g.ob) ph b) → ∀ s, AVR P A (Xof X0 (upO os (lookO g.ob)) ph') w' (upO os (lookO g.ob)) ph' (strike ks (look g.sl s)) (a.tmps.getD s undef))
    (hv : (∀ b, b < w.heap.size → Xof X0 (upO os (lookO g.ob)) ph' b → Xof X0 (lookO g.ob) ph b) → AVR P A (Xof X0 (upO os (lookO g.ob)) ph') w' (upO os (lookO g.ob)) ph' v val) :
    RelD P A X0 Y0 w0 (look g.sl) (lookO g.ob) a.tmps { v, os, ks } val w' := by
  have hO := R.objs
  have hn0 : w0.heap.size ≤ w.heap.size := R.keeps.size
  have hX : ∀ b, b < w.heap.size → Xof X0 (upO os (lookO g.ob)) ph' b → Xof X0 (lookO g.ob) ph b := by
    rintro b hb (h | ⟨c, z, hz, hm⟩)
    · exact .inl h
    · by_cases hc : D c
      · rcases hF c z hc hz b hm with h | ⟨k, x, _, hx, h⟩
        · omega
        · exact .inr ⟨k, x, hx, h⟩
      · obtain ⟨e1, e2⟩ := hsame c hc
        rw [e1] at hz
        rw [e2] at hm
        exact .inr ⟨c, z, hz, hm⟩
  have hnot : ∀ c z b, ¬ D c → lookO g.ob c = some z → b ∈ (ph c).F → ¬ ∃ k, D k ∧ ∃ x, lookO g.ob k = some x ∧ b ∈ (ph k).F := by
    rintro c z b hc hz hb ⟨k, hk, x, hx, hm⟩
    exact hO.apart c z k x hz hx (fun e => hc (e ▸ hk)) b hb hm
  refine ⟨ph', ⟨fun c z hz => ?_, fun c z c' z' hz hz' hcc b hb hb' => ?_, fun c z hz b hb hx => ?_, fun c z hz b hb => ?_, hO.old⟩, hsl hX, hv hX, R.keeps.trans hw (fun _ h => h) fun b hb => ?_⟩
  · by_cases hc : D c
    · exact hok hX c z hc hz
    · obtain ⟨e1, e2⟩ := hsame c hc
      have hz0 : lookO g.ob c = some z := e1 ▸ hz
      rw [e2]
      refine (hO.ok c z hz0).frame hw.size hX (fun b hb hn => hw.block b hb ?_) fun b hb => hw.block b ((hO.ok c z hz0).lt b hb) (hnot c z b hc hz0 hb)
      rintro ⟨k, _, x, hx, hm⟩
      exact hn (.inr ⟨k, x, hx, hm⟩)
  · have key : ∀ c z c' z' b, D c → ¬ D c' → upO os (lookO g.ob) c = some z → upO os (lookO g.ob) c' = some z' → b ∈ (ph' c).F → b ∈ (ph' c').F → False := by
      intro c z c' z' b hc hc' hz hz' hb hb'
      obtain ⟨e1, e2⟩ := hsame c' hc'
      rw [e1] at hz'
      rw [e2] at hb'
      rcases hF c z hc hz b hb with h | ⟨k, x, hk, hx, h⟩
      · have := (hO.ok c' z' hz').lt b hb'; omega
      · exact hO.apart c' z' k x hz' hx (fun e => hc' (e ▸ hk)) b hb' h
    by_cases hc : D c
    · by_cases hc' : D c'
      · exact hap c z c' z' hc hc' hz hz' hcc b hb hb'
      · exact key c z c' z' b hc hc' hz hz' hb hb'
    · by_cases hc' : D c'
      · exact key c' z' c z b hc' hc hz' hz hb' hb
      · obtain ⟨e1, e2⟩ := hsame c hc
        obtain ⟨e3, e4⟩ := hsame c' hc'
        rw [e1] at hz
        rw [e2] at hb
        rw [e3] at hz'
        rw [e4] at hb'
        exact hO.apart c z c' z' hz hz' hcc b hb hb'
  · by_cases hc : D c
    · rcases hF c z hc hz b hb with h | ⟨k, x, hk, hx', h⟩
      · have := hO.old b hx; omega
      · exact hO.free k x hx' b h hx
    · obtain ⟨e1, e2⟩ := hsame c hc
      rw [e1] at hz
      rw [e2] at hb
      exact hO.free c z hz b hb hx
  · by_cases hc : D c
    · rcases hF c z hc hz b hb with h | ⟨k, x, hk, hx', h⟩
      · exact .inr (by omega)
      · exact hO.ours k x hx' b h
    · obtain ⟨e1, e2⟩ := hsame c hc
      rw [e1] at hz
      rw [e2] at hb
      exact hO.ours c z hz b hb
  · rintro ⟨k, _, x, hx, hm⟩
    rcases hO.ours k x hx b hm with h | h
    · exact h
    · omega

end

theorem tail_weak {X : Nat → Prop} {w : World} {s cur : Sh} {e : Nat} {v : Value} {ys : List D} {base : Option Addr} {cap : Nat} {news : List Value} {Ks : List Lt} (h : TailAt P A X w s e v ys base cap news Ks) (hn : (blocksL Ks).Nodup) (hw : s.weak cur = true) :
    ∃ Ks' : List Lt, Ks'.length = ys.length ∧ (blocksL Ks').Nodup ∧ (∀ b ∈ blocksL Ks', b ∈ blocksL Ks) ∧ ∀ X' : Nat → Prop, (∀ b, b < w.heap.size → X' b → X b) → (∀ b ∈ blocksL Ks, b ∉ blocksL Ks' → ¬ X' b) → ∀ i, i < ys.length →
      Own P A X' w (Ks'.getD i .leaf) cur e (seg news (i * P.cellsOf e) (P.cellsOf e)) (ys.getD i .und) := by
  have hnk := nodup_blocksL hn
  obtain ⟨Ks', h1, h2⟩ := list_choice Lt.leaf ys.length (R := fun i L' => Less P A X w (Ks.getD i .leaf) L' cur e (seg news (i * P.cellsOf e) (P.cellsOf e)) (ys.getD i .und)) fun i hi => (h.own i hi).weakN 8 cur hw (hnk.1 i (by rw [h.klen]; exact hi))
  have hkl := h.klen
  have hsub : ∀ i, i < ys.length → ∀ b ∈ (Ks'.getD i .leaf).blocks, b ∈ (Ks.getD i .leaf).blocks := fun i hi => (h2 i hi).sub
  refine ⟨Ks', h1, nodup_blocksL_mk (fun i hi => (h2 i (by omega)).nodup) (fun i j b hi hj hb hb' => hnk.2 i j b (by omega) (by omega) (hsub i (by omega) b hb) (hsub j (by omega) b hb')), fun b hb => ?_, fun X' hX' hB i hi => ?_⟩
  · obtain ⟨i, hi, hb⟩ := mem_blocksL.1 hb
    exact mem_blocksL.2 ⟨i, by omega, hsub i (by omega) b hb⟩
  · refine (h2 i hi).own X' hX' fun b hb hb2 => hB b (mem_blocksL.2 ⟨i, by omega, hb⟩) fun hb3 => ?_
    obtain ⟨j, hj, hb3⟩ := mem_blocksL.1 hb3
    have := hnk.2 i j b (by omega) (by omega) hb (hsub j (by omega) b hb3)
    subst this
    exact hb2 hb3

/-- A PLACE'S VALUE IS TAKEN OUT. -/
theorem Own.hole (W : WF P) {X : Nat → Prop} {w : World} : ∀ (p : Pth) {L : Lt} {s s' sv : Sh} {t u : Nat} {cs : List Value} {d : D}, Own P A X w L s t cs d → s.hole p = some s' → s.get p = some sv → tyAt P t p = some u → (∃ hv, (L.sub p).hv = some hv) → L.blocks.Nodup →
    ∃ L', Own P A X w L' s' t cs d ∧ (∀ b ∈ L'.blocks, b ∈ L.blocks ∧ b ∉ (L.sub p).blocks) ∧ L'.blocks.Nodup ∧
      (∀ lc q, underIdx p q = false → L'.loc P lc t q = L.loc P lc t q) ∧ (∀ q, under p q = false → (L'.sub q).hv = (L.sub q).hv)
  | [], L, s, s', sv, t, u, cs, d, h, hh, _, _, _, hn => by
    simp only [Sh.hole, Option.some.injEq] at hh
    subst hh
    exact ⟨.gone, .gone (h.length W), by simp [Lt.blocks], by simp [Lt.blocks], fun lc q hq => loc_noIdx _ _ _ _ _ (by simpa [underIdx, under] using hq), fun q hq => by simp [under] at hq⟩
  | .fld j :: p, L, s, s', sv, t, u, cs, d, h, hh, hg, ht, hv, hn => by
    simp only [Sh.hole] at hh
    split at hh <;> try contradiction
    rename_i sj hsj
    split at hh <;> try contradiction
    rename_i u' hpj
    simp only [Sh.get, hsj] at hg
    simp only [tyAt] at ht
    split at ht <;> try contradiction
    rename_i fs hk
    split at ht <;> try contradiction
    rename_i ft o hj
    obtain ⟨ds, rfl, hd', hc, hf⟩ := h.fields hk (Sh.fld_all hsj)
    have hjl := (List.getElem?_eq_some_iff.1 hj).1
    have hform := h.form hk hsj
    obtain ⟨Lj, hO, hB, hN, hS1, hS2⟩ := Own.hole W p (hf j ft o hj sj hsj) hpj hg ht hv (nodup_kid hn j)
    have hfl := Sh.setFld_fld hh
    obtain ⟨L', g1, g2, g3, g4⟩ := own_of_fields (A := A) (X := X) (w := w) (s := s') (cs := cs) (ds := ds) hk (fun k => by rw [hfl]; split; exact ⟨_, rfl⟩; exact Sh.fld_all hsj k) hc hd' (fun k => if k = j then Lj else L.kid k) fun k ft' o' hk' v hv' => by
      rw [hfl] at hv'
      by_cases e : k = j
      · subst e
        rw [hj] at hk'
        injection hk' with hk'
        injection hk' with e1 e2
        subst e1 e2
        simp only [if_true, Option.some.injEq] at hv' ⊢
        subst hv'
        exact hO
      · simp only [if_neg e] at hv' ⊢
        exact hf k ft' o' hk' v hv'
    have hkj : L'.kid j = Lj := by rw [g2 j hjl, if_pos rfl]
    have hko : ∀ k, k ≠ j → L'.kid k = L.kid k := fun k e => by
      by_cases hkl : k < fs.length
      · rw [g2 k hkl, if_neg e]
      · rw [kid_beyond g4 (by omega), kid_beyond hform (by omega)]
    have hkid : ∀ i k b, i < fs.length → k < fs.length → b ∈ (L.kid i).blocks → b ∈ (L.kid k).blocks → i = k := by
      intro i k b hi hk1 hb hb'
      rcases hform with rfl | ⟨ks, rfl, hl⟩
      · simp [Lt.kid, Lt.blocks] at hb
      · exact (nodup_blocksL hn).2 i k b (by omega) (by omega) hb hb'
    refine ⟨L', g1, fun b hb => ?_, ?_, fun lc q hq => ?_, fun q hq => ?_⟩
    · obtain ⟨k, hkl, hb⟩ := g3 b hb
      by_cases e : k = j
      · subst e
        simp only [if_true] at hb
        obtain ⟨h1, h2⟩ := hB b hb
        exact ⟨blocks_of_kid h1, h2⟩
      · simp only [if_neg e] at hb
        exact ⟨blocks_of_kid hb, fun hb' => e (hkid k j b hkl hjl hb (sub_blocks p _ b hb'))⟩
    · refine nodup_of_kids g4 (fun i hi => ?_) fun i k b hi hk1 hb hb' => ?_
      · by_cases e : i = j
        · subst e; rw [hkj]; exact hN
        · rw [hko i e]; exact nodup_kid hn i
      · by_cases e : i = j
        · subst e
          by_cases e2 : k = i
          · exact e2.symm
          · rw [hkj] at hb
            rw [hko k e2] at hb'
            exact hkid i k b hi hk1 (hB b hb).1 hb'
        · by_cases e2 : k = j
          · subst e2
            rw [hkj] at hb'
            rw [hko i e] at hb
            exact hkid i k b hi hk1 hb (hB b hb').1
          · rw [hko i e] at hb
            rw [hko k e2] at hb'
            exact hkid i k b hi hk1 hb hb'
    · cases q with
      | nil => rfl
      | cons y q =>
        cases y with
        | fld k =>
          simp only [Lt.loc, hk]
          cases hfk : fs[k]? with
          | none => rfl
          | some x =>
            simp only
            by_cases e : k = j
            · subst e
              rw [underIdx_cons_fld] at hq
              rw [hj] at hfk
              injection hfk with hfk
              subst hfk
              rw [hkj]
              exact hS1 _ q hq
            · rw [hko k e]
        | idx i => rw [loc_struct g4, loc_struct hform]
        | arr i => simp only [Lt.loc, hk]
    · cases q with
      | nil => simp only [Lt.sub]; rw [hv_struct g4, hv_struct hform]
      | cons y q =>
        cases y with
        | fld k =>
          simp only [Lt.sub]
          by_cases e : k = j
          · subst e
            rw [hkj]
            exact hS2 q (by simpa [under] using hq)
          · rw [hko k e]
        | idx i => simp only [Lt.sub]; rw [el_struct g4, el_struct hform]
        | arr i => simp only [Lt.sub]
  | .idx i :: p, L, s, s', sv, t, u, cs, d, h, hh, hg, ht, hv, hn => by
    cases h with
    | slc hk hb h1 h2 h3 h4 =>
      rename_i e s0 ex b off cap E c kids xs
      cases ex with
      | some x => simp [Sh.hole] at hh
      | none =>
        simp only [Sh.hole] at hh
        split at hh <;> try contradiction
        rename_i s1 hs1
        simp only [Option.some.injEq] at hh
        subst hh
        simp only [Sh.get] at hg
        simp only [tyAt, hk] at ht
        simp only [Lt.sub, Lt.el] at hv
        have hi : i < xs.length := by
          by_cases hi : i < xs.length
          · exact hi
          · obtain ⟨v, hv⟩ := hv
            rw [List.getD_eq_getElem?_getD, List.getElem?_eq_none (by omega)] at hv
            simp [leaf_sub, Lt.hv] at hv
        simp only [Lt.blocks, List.nodup_cons] at hn
        have hnk := nodup_blocksL hn.2
        obtain ⟨Li, hO, hB, hN, hS1, hS2⟩ := Own.hole W p (h4 i hi : Own P A X w _ s0 e _ _) hs1 hg ht hv (hnk.1 i (by omega))
        have hset : ∀ k, (kids.set i Li).getD k .leaf = if k = i then Li else kids.getD k .leaf := fun k => getD_set_eq (by omega)
        refine ⟨.slc b off cap (kids.set i Li), .slc hk hb (by simpa using h1) h2 h3 fun k hk1 => ?_, fun b' hb' => ?_, ?_, fun lc q hq => ?_, fun q hq => ?_⟩
        · rw [hset]
          by_cases e1 : k = i
          · subst e1
            simp only [elS, if_true]
            exact hO
          · simp only [elS, if_neg e1]
            exact h4 k hk1
        · simp only [Lt.blocks, List.mem_cons, Lt.sub, Lt.el] at hb' ⊢
          rcases hb' with rfl | hb'
          · exact ⟨.inl rfl, fun hm => hn.1 (mem_blocksL.2 ⟨i, by omega, sub_blocks p _ _ hm⟩)⟩
          · obtain ⟨k, hk1, hb'⟩ := mem_blocksL.1 hb'
            rw [List.length_set] at hk1
            rw [hset] at hb'
            by_cases e1 : k = i
            · subst e1
              rw [if_pos rfl] at hb'
              obtain ⟨g1, g2⟩ := hB b' hb'
              exact ⟨.inr (mem_blocksL.2 ⟨k, hk1, g1⟩), g2⟩
            · rw [if_neg e1] at hb'
              exact ⟨.inr (mem_blocksL.2 ⟨k, hk1, hb'⟩), fun hm => e1 (hnk.2 k i b' hk1 (by omega) hb' (sub_blocks p _ _ hm))⟩
        · simp only [Lt.blocks, List.nodup_cons]
          have hmem : ∀ k b', b' ∈ ((kids.set i Li).getD k .leaf).blocks → b' ∈ (kids.getD k .leaf).blocks := fun k b' hb' => by
            rw [hset] at hb'
            by_cases e1 : k = i
            · subst e1; rw [if_pos rfl] at hb'; exact (hB b' hb').1
            · rw [if_neg e1] at hb'; exact hb'
          refine ⟨fun hm => ?_, nodup_blocksL_mk (fun k hk1 => ?_) fun k l b' hk1 hl1 hb1 hb2 => ?_⟩
          · obtain ⟨k, hk1, hb'⟩ := mem_blocksL.1 hm
            rw [List.length_set] at hk1
            exact hn.1 (mem_blocksL.2 ⟨k, hk1, hmem k b hb'⟩)
          · rw [hset]
            rw [List.length_set] at hk1
            by_cases e1 : k = i
            · rw [if_pos e1]; exact hN
            · rw [if_neg e1]; exact hnk.1 k hk1
          · rw [List.length_set] at hk1 hl1
            exact hnk.2 k l b' hk1 hl1 (hmem k b' hb1) (hmem l b' hb2)
        · cases q with
          | nil => rfl
          | cons y q =>
            cases y with
            | fld k => simp only [Lt.loc, hk]
            | idx k =>
              simp only [Lt.loc, hk, List.length_set, hset]
              by_cases e1 : k = i
              · subst e1
                rw [underIdx_cons_idx] at hq
                simp only [if_true]
                by_cases hk1 : k < kids.length
                · rw [if_pos hk1, if_pos hk1]
                  have : underIdx p q = false := by
                    simp only [underIdx, Bool.and_eq_false_iff] at hq ⊢
                    exact hq
                  exact hS1 _ q this
                · rw [if_neg hk1, if_neg hk1]
              · simp only [if_neg e1]
            | arr k => simp only [Lt.loc, hk]
        · cases q with
          | nil => simp [Lt.sub, Lt.hv]
          | cons y q =>
            cases y with
            | fld k => simp only [Lt.sub, Lt.kid]
            | idx k =>
              simp only [Lt.sub, Lt.el, hset]
              by_cases e1 : k = i
              · subst e1
                rw [if_pos rfl]
                exact hS2 q (by simpa [under] using hq)
              · rw [if_neg e1]
            | arr k => simp only [Lt.sub]
    | nil => obtain ⟨v, hv⟩ := hv; simp [Lt.sub, Lt.el, leaf_sub, Lt.hv] at hv
    | _ => simp [Sh.hole] at hh
  | .arr i :: p, L, s, s', sv, t, u, cs, d, h, hh, hg, ht, hv, hn => by cases s <;> simp [Sh.hole] at hh

end Go.Ab

/- Append. -/
namespace Go.Ab
variable {P : Program} {A : Ann}

section
variable {X0 Y0 : Nat → Prop} {w0 : World} {g : St} {ph : Nat → Ph} {a : Act} {w : World} {o : Oper} {K : Dl → Prop}

theorem run_append {c : Call} {t u : Nat} {x y : Operand} {v : Value} {w' : World} (ho : o.op = .call c) (hc : c.callee = .builtin .append) (ht : c.argTypes.toList = [t, u]) (hxs : c.args.toList = [x, y])
    (h : (Builtin.append_ #[t, u] o.type #[a.eval x, a.eval y]).run P w = .ok v w') : (execOp a.eval o).run P w = .ok (.value v) w' := by
  have e1 : c.argTypes = #[t, u] := by rw [← Array.toList_inj, ht]
  have e2 : c.args = #[x, y] := by rw [← Array.toList_inj, hxs]
  simp only [execOp, ho, resolve, invoke, builtin, hc, e1, e2, Sem.run_bind, Sem.run_pure, Result.andThen_ok, List.map_toArray, List.map_cons, List.map_nil, h]

theorem val_loc {X : Nat → Prop} {k u : Nat} {p : Pth} {x : Obj} {v : Value} {s : Sh} {ob : Nat → Option Obj} (hx : ob k = some x) (h : AVR1 P A X w ob ph (.val k p u) v) (hs : x.sh.get p = some s) (hni : s ≠ .it) (hp : p ≠ [] ∨ s ≠ .imm) (ho : OkObj P A X w x (ph k)) (hl : ∃ u ex, s = .slc u ex) :
    ∃ u', tyAt P x.t p = some u' ∧ tk P u' = tk P u ∧ ((ph k).L.sub p).hv = some v := by
  obtain ⟨_, h2⟩ := h x hx
  obtain ⟨u', h3, h4, h5⟩ := h2 (not_it_of_get hs hni)
  refine ⟨u', h3, h4, ?_⟩
  rcases h5 with h5 | ⟨rfl, _, h5⟩
  · exact h5
  · obtain ⟨s', ex, rfl⟩ := hl
    simp only [Sh.get, Option.some.injEq] at hs
    have := ho.own
    rw [hs] at this
    rw [h5]
    exact this.slc_hv

/-- Slots behind an appending in place. -/
theorem app_slots {X X' : Nat → Prop} {ob ob' : Nat → Option Obj} {ph' : Nat → Ph} {w' : World} {k : Nat} {x : Obj} {d : D} (hx : ob k = some x) (hsl : ∃ s ex, x.sh = .slc s ex)
    (hother : ∀ c y, c ≠ k → ob' c = some y → ob c = some y ∧ ph' c = ph c)
    (hold : ∀ t v, AVR1 P A X w ob ph (.val k [] t) v → AVR1 P A X' w' ob' ph' (.old k t d) v)
    (hall : ∀ a v, AVR1 P A X w ob ph a v → AVR1 P A X' w' ob' ph' (strike1 [(k, .all)] a) v) {a : AV} {v : Value} (h : AVR P A X w ob ph a v) (hfr : ∀ c v, a = .con c → v = c → True) :
    AVR P A X' w' ob' ph' (strike [(k, .app d)] a) v := by
  have one : ∀ a v, AVR1 P A X w ob ph a v → AVR1 P A X' w' ob' ph' (strike1 [(k, .app d)] a) v := by
    intro a v h
    have ha := hall a v h
    simp only [strike1] at ha ⊢
    cases a with
    | ptr o p e => exact ha
    | old o t d' => exact ha
    | val o p t =>
      by_cases e : k = o
      · subst e
        simp only [fall1, beq_iff.2 rfl, cond_true]
        cases p with
        | nil => exact hold t v h
        | cons z p => trivial
      · have hb : Nat.beq k o = false := by rw [Bool.eq_false_iff, Ne, beq_iff]; exact e
        simp only [fall1, hb, cond_false]
        intro y hy
        obtain ⟨h1, h2⟩ := hother o y (fun e' => e e'.symm) hy
        obtain ⟨g1, g2⟩ := h y h1
        rw [h2]
        refine ⟨fun hit => ?_, g2⟩
        obtain ⟨m, hm, hkk, hI⟩ := g1 hit
        refine ⟨m, hm, hkk, fun z hz => ?_⟩
        by_cases hmk : m = k
        · exfalso
          subst hmk
          obtain ⟨r, rm, since, last, clock, seen, es, k', e', ck, ce, _, _, _, hmp, _⟩ := hI x hx
          obtain ⟨s, ex, hs⟩ := hsl
          rw [hs] at hmp
          cases hmp
        · have hstr : fall1 k .all (AV.val o p t) = .val o p t := by
            subst hm
            have : Nat.beq k m = false := by rw [Bool.eq_false_iff, Ne, beq_iff]; exact fun e' => hmk e'.symm
            simp [fall1, hb, this]
          rw [hstr] at ha
          obtain ⟨g3, _⟩ := ha y hy
          obtain ⟨m', hm', _, hI'⟩ := g3 hit
          rw [hm] at hm'
          injection hm' with hm' _
          injection hm' with hm'
          subst hm'
          have := hI' z hz
          rw [h2] at this
          exact this
    | dead => exact ha
    | und => exact ha
    | con c => exact ha
    | imm t d => exact ha
    | nils t => exact ha
    | iptr e d => exact ha
    | tup l => exact h.elim
    | fn f => exact ha
    | clo f l => exact h.elim
    | vptr o p t => exact ha
  by_cases hfl : a.flatA = true
  · obtain ⟨e, hf'⟩ := strike_flat [(k, KM.app d)] hfl
    rw [e]
    have h2 := one a v (h.one hfl)
    generalize strike1 [(k, KM.app d)] a = c at h2 hf'
    cases c <;> first | exact h2 | simp [AV.flatA] at hf'
  · cases a <;> first | simp [AV.flatA] at hfl; done | skip
    · rename_i l
      rw [strike_tup]
      obtain ⟨vs, h1, h2, h3⟩ := h
      refine ⟨vs, h1, by simpa using h2, fun i a ha => ?_⟩
      simp only [List.getElem?_map, Option.map_eq_some_iff] at ha
      obtain ⟨a', ha', rfl⟩ := ha
      exact one _ _ (h3 i a' ha')
    · rename_i f l
      rw [strike_clo]
      obtain ⟨vs, h1, h2, h3⟩ := h
      refine ⟨vs, h1, by simpa using h2, fun i a ha => ?_⟩
      simp only [List.getElem?_map, Option.map_eq_some_iff] at ha
      obtain ⟨a', ha', rfl⟩ := ha
      exact one _ _ (h3 i a' ha')

theorem step_append {c : Call} {t u dst : Nat} {x y : Operand} (W : WF P) (ho : o.op = .call c) (hc : c.callee = .builtin .append) (ht : c.argTypes.toList = [t, u]) (hxs : c.args.toList = [x, y]) (htu : sameK P t u = true) (R : RelA P A X0 Y0 w0 g ph a w)
    (h : appendD P (lookO g.ob) dst t (g.av x) (g.av y) K) : Does P o a w (Out P A X0 Y0 w0 g a K) := by
  unfold appendD at h
  split at h <;> try contradiction
  rename_i e s ys os hk hat
  obtain ⟨hg, h⟩ := of_cond h
  simp only [Bool.and_eq_true, Nat.blt_eq] at hg
  obtain ⟨⟨hgz, hpos⟩, hpl⟩ := hg
  have hkx : tk P u = .slc e := (sameK_eq htu).symm.trans hk
  have hfly : (g.av y).flatA = true := by
    cases hz : g.av y <;> first | rfl | (rw [hz] at hat; simp [appTail, St.data] at hat)
  obtain ⟨base, cap2, news, Ks, hT, hKn, hos⟩ := tail_spec W R.objs hk ((AVR.eval R y).one hfly) hat
  have hos' : ∀ c, findO os c = none ∨ findO os c = some none := by
    intro c
    rcases hos with ⟨rfl, _⟩ | ⟨q, z, rfl, _⟩
    · exact .inl rfl
    · simp only [findO]; split <;> simp
  have hKF : ∀ b ∈ blocksL Ks, ∃ c z, ate os c ∧ lookO g.ob c = some z ∧ b ∈ (ph c).F := by
    intro b hb
    rcases hos with ⟨_, e⟩ | ⟨q, z, rfl, hz, hm⟩
    · rw [e] at hb; cases hb
    · exact ⟨q, z, by simp [ate, findO], hz, by simp only [Ph.F, List.mem_append]; exact .inr (hm b hb)⟩
  have hKlt : ∀ b ∈ blocksL Ks, b < w.heap.size := fun b hb => by
    obtain ⟨c, z, _, hz, hm⟩ := hKF b hb
    exact (R.objs.ok c z hz).lt b hm
  have hone : ∀ v ∈ news, v.oneCell' = true := oneCell_segs hT.len fun i hi v hv => Own.oneCell W (hT.own i hi) hpl v hv
  have hey : a.eval y = .slice base ys.length cap2 := hT.val
  have hnx := norm_rel (t := t) (AVR.eval R x)
  split at h <;> try contradiction
  · -- from nothing
    rename_i u' hnm
    obtain ⟨hrm, h⟩ := h
    rw [hnm] at hnx
    obtain ⟨hvx, _⟩ : a.eval x = .slice none 0 0 ∧ _ := hnx
    obtain ⟨v', w', L', hrun, hkeep, hown, _, hB, hN, hlt⟩ := append_core (ty := o.type) (A := A) W hk hkx hgz hpos (X := Xof X0 (lookO g.ob) ph) (L := .nil) (cur := s) (v := .slice none 0 0) (d := .slc []) (Own.nil hk) (by simp [Lt.blocks]) (by simp [Lt.blocks]) (by simp [Lt.blocks]) (cap2 := cap2) hT.len hT.nil hT.cells hone hT.klen hKn (by simp [Lt.blocks]) hKlt (by simpa [D.xs] using hrm)
    have hval : mkV P t [v'] = v' := mkV_one (by rw [hk]; rfl)
    refine Does.value (v := mkV P t [v']) (run_append ho hc ht hxs (by rw [hvx, hey, hval]; exact hrun)) ⟨_, h, newVal R (L := L') (hkeep.mono fun _ h => by cases h) (fun X' hX' _ => ?_) (by simp) hN hlt hos' fun b hb => ?_⟩
    · exact hown X' hX' (fun b _ hb => by simp [Lt.blocks] at hb) fun i hi => (hT.own i hi).frame (Nat.le_refl _) hX' (fun _ _ _ => rfl) fun _ _ => rfl
    · rcases hB b hb with h | h | h
      · simp [Lt.blocks] at h
      · exact .inr (hKF b h)
      · exact .inl h
  · -- to an object
    rename_i k p u' hnm
    rw [hnm] at hnx
    rw [cond_eq] at h
    split at h <;> try contradiction
    rename_i hku
    split at h <;> try contradiction
    rename_i x0 hx0
    split at h <;> try contradiction
    rename_i cur hcur
    obtain ⟨hfit, h⟩ := of_cond h
    obtain ⟨hrm, h⟩ := h
    simp only [fitEl, Bool.and_eq_true] at hfit
    have hO := R.objs.ok k x0 hx0
    obtain ⟨uu, hty, hkuu, hhv⟩ := val_loc (ob := lookO g.ob) hx0 hnx hcur (by simp) (.inr (by simp)) hO ⟨_, _, rfl⟩
    have hkuu' : tk P uu = .slc e := hkuu.trans ((sameK_eq hku).symm.trans hk)
    obtain ⟨cs', hOs⟩ := hO.own.sub W p hcur hty hhv
    obtain ⟨rfl, _⟩ := hOs.header hhv
    have hOt : Own P A (Xof X0 (lookO g.ob) ph) w ((ph k).L.sub p) (.slc cur none) t [a.eval x] (x0.d.get p) := hOs.kind W (hkuu'.trans hk.symm) (by simp)
    have hnL : (ph k).L.blocks.Nodup := by
      have := hO.nodup
      simp only [Ph.F, Ph.S, List.nodup_append] at this
      exact this.2.1.1
    have hLF : ∀ b ∈ ((ph k).L.sub p).blocks, b ∈ (ph k).F := fun b hb => by simp only [Ph.F, Ph.S, List.mem_append]; exact .inr (.inl (sub_blocks p _ b hb))
    have hnsub : ((ph k).L.sub p).blocks.Nodup := by
      have : ∀ (p : Pth) (L : Lt), L.blocks.Nodup → (L.sub p).blocks.Nodup := by
        intro p
        induction p with
        | nil => exact fun _ h => h
        | cons z p ih =>
          intro L hL
          cases z with
          | fld j => exact ih _ (nodup_kid hL j)
          | idx i =>
            refine ih _ ?_
            cases L <;> simp only [Lt.el, Lt.blocks, List.nodup_nil] at hL ⊢
            rename_i ks
            by_cases hi : i < ks.length
            · exact (nodup_blocksL (List.nodup_cons.1 hL).2).1 i hi
            · rw [List.getD_eq_getElem?_getD, List.getElem?_eq_none (by omega)]
              simp [Lt.blocks]
          | arr i => exact ih _ (by simp [Lt.blocks])
      exact this p _ hnL
    -- elements in their new shape
    obtain ⟨Ks', hKl', hKn', hKs', hKo'⟩ := tail_weak hT hKn hfit.2
    -- what is common
    have main : (os.any fun z => Nat.beq z.1 k) = false → (∀ b ∈ blocksL Ks, b ∉ (ph k).F) ∧ findO os k = none := fun hany => by
      have h1 : findO os k = none := findO_any hany
      refine ⟨fun b hb hm => ?_, h1⟩
      rcases hos with ⟨_, e⟩ | ⟨q, z, rfl, hz, hm'⟩
      · rw [e] at hb; cases hb
      · have hqk : q ≠ k := fun e => by subst e; simp [findO] at h1
        exact R.objs.apart q z k x0 hz hx0 hqk b (by simp only [Ph.F, List.mem_append]; exact .inr (hm' b hb)) hm
    split at h
    · -- the object itself
      obtain ⟨hany, h⟩ := of_cond' h
      obtain ⟨hbx, h⟩ := of_cond' h
      obtain ⟨hKk, hfk⟩ := main hany
      simp only [Sh.get, Option.some.injEq] at hcur
      simp only [tyAt, Option.some.injEq] at hty
      subst hty
      simp only [Lt.sub] at hOt hhv hnsub
      have hLF' : ∀ b ∈ (ph k).L.blocks, b ∈ (ph k).F := hLF
      obtain ⟨v', w', L', hrun, hkeep, hown, holdv, hB, hN, hlt⟩ := append_core (ty := o.type) (A := A) W hk hkx hgz hpos hOt hnsub (fun b hb => .inr ⟨k, x0, hx0, hLF' b hb⟩) (fun b hb => hO.lt b (hLF' b hb)) (Ks := Ks') (cap2 := cap2) hT.len hT.nil hT.cells hone hKl' hKn' (fun b hb hm => hKk b (hKs' b hb) (hLF' b hm)) (fun b hb => hKlt b (hKs' b hb)) hrm
      have e00 : x0.d.get [] = x0.d := rfl
      rw [e00] at hown holdv h
      have hrb := hO.hdr hbx
      let p' : Ph := ⟨[v'], none, L', (ph k).S.filter fun b => !(L'.blocks.contains b)⟩
      let os1 : Objs := (k, some { x0 with d := .slc (x0.d.xs ++ ys) }) :: os
      let ob' := upO os1 (lookO g.ob)
      have hobk : ob' k = some { x0 with d := .slc (x0.d.xs ++ ys) } := by simp only [ob', os1]; rw [upO_new, if_pos rfl]
      have hobn : ∀ c, c ≠ k → ate os c → ob' c = none := fun c hc ha => by
        simp only [ob', os1]
        rw [upO_new, if_neg hc, upO, ha]
        rfl
      have hobs : ∀ c, c ≠ k → ¬ ate os c → ob' c = lookO g.ob c := fun c hc ha => by
        simp only [ob', os1]
        rw [upO_new, if_neg hc, upO]
        rcases hos' c with h | h
        · rw [h]; rfl
        · exact absurd h ha
      let DD : Nat → Prop := fun c => c = k ∨ ate os c
      have hDs : ∀ c z, DD c → ob' c = some z → c = k := fun c z hd hz => by
        rcases hd with h | h
        · exact h
        · by_cases hc : c = k
          · exact hc
          · rw [hobn c hc h] at hz; cases hz
      have hk' : upPh ph k p' k = p' := by simp [upPh]
      have hSsup : ∀ b, b ∈ (ph k).S → b ∈ p'.S := by
        intro b' hb'
        by_cases hL' : b' ∈ L'.blocks
        · simp only [p', Ph.S, List.mem_append]; exact .inl hL'
        · simp only [p', Ph.S, List.mem_append, List.mem_filter]
          right
          refine ⟨?_, by simpa using hL'⟩
          simpa only [Ph.S, List.mem_append] using hb'
      have hFp : ∀ b ∈ p'.F, b ∈ L'.blocks ∨ b ∈ (ph k).S := fun b hb => by
        simp only [p', Ph.F, Ph.S, Option.toList, List.nil_append, List.mem_append, List.mem_filter] at hb
        rcases hb with h | ⟨h, _⟩
        · exact .inl h
        · right; simpa only [Ph.S, List.mem_append] using h
      have hSF : ∀ b ∈ (ph k).S, b ∈ (ph k).F := fun b hb => by simp only [Ph.F, List.mem_append]; exact .inr hb
      have hF0 : ∀ b ∈ p'.F, w.heap.size ≤ b ∨ ∃ c z, DD c ∧ lookO g.ob c = some z ∧ b ∈ (ph c).F := fun b hb => by
        rcases hFp b hb with h | h
        · rcases hB b h with h | h | h
          · exact .inr ⟨k, x0, .inl rfl, hx0, hLF' b h⟩
          · obtain ⟨c, z, h1, h2, h3⟩ := hKF b (hKs' b h)
            exact .inr ⟨c, z, .inr h1, h2, h3⟩
          · exact .inl h
        · exact .inr ⟨k, x0, .inl rfl, hx0, hSF b h⟩
      -- what is out of reach
      have hXk : ∀ b ∈ p'.F, Xof X0 ob' (upPh ph k p') b := fun b hb => .inr ⟨k, _, hobk, by rw [hk']; exact hb⟩
      have hdrop : ∀ b ∈ blocksL Ks, b ∉ blocksL Ks' → ¬ Xof X0 ob' (upPh ph k p') b := by
        rintro b hb hnb (hx | ⟨c, z, hz, hm⟩)
        · obtain ⟨c, z, _, hz, hm⟩ := hKF b hb
          exact R.objs.free c z hz b hm hx
        · by_cases hc : c = k
          · subst hc
            rw [hk'] at hm
            rcases hFp b hm with h | h
            · rcases hB b h with h | h | h
              · exact hKk b hb (hLF' b h)
              · exact hnb h
              · have := hKlt b hb; omega
            · exact hKk b hb (hSF b h)
          · by_cases ha : ate os c
            · rw [hobn c hc ha] at hz; cases hz
            · rw [hobs c hc ha] at hz
              simp only [upPh, if_neg hc] at hm
              obtain ⟨c2, z2, h1, h2, h3⟩ := hKF b hb
              exact R.objs.apart c z c2 z2 hz h2 (fun e => ha (e ▸ h1)) b hm h3
      have hkeep' : Keeps (fun b => ∃ c, DD c ∧ ∃ z, lookO g.ob c = some z ∧ b ∈ (ph c).F) w w' := hkeep.mono fun b hb => ⟨k, .inl rfl, x0, hx0, hLF' b (rootB_mem hb)⟩
      have hnew : (∀ b, b < w.heap.size → Xof X0 ob' (upPh ph k p') b → Xof X0 (lookO g.ob) ph b) → OkObj P A (Xof X0 ob' (upPh ph k p')) w' { x0 with d := .slc (x0.d.xs ++ ys) } p' := fun hX => by
        refine ⟨?_, (fun hb => by simp only at hb; rw [hbx] at hb; cases hb), fun _ => rfl, ?_, fun b hb => ?_⟩
        · have := hown _ hX (fun b hb _ => hXk b (by simp only [p', Ph.F, Ph.S, Option.toList, List.nil_append, List.mem_append]; exact .inl hb)) (hKo' _ hX hdrop)
          simp only [hcur]
          exact this.kind W (hk.trans hkuu'.symm) (by simp)
        · simp only [p', Ph.F, Ph.S, Option.toList, List.nil_append, List.nodup_append]
          refine ⟨hN, List.Pairwise.filter _ ?_, fun x hx y hy e => ?_⟩
          · have := hO.nodup
            simp only [Ph.F, List.nodup_append] at this
            exact this.2.1
          · subst e
            have h2 := (List.mem_filter.1 hy).2
            simp [hx] at h2
        · rcases hFp b hb with h | h
          · exact hlt b h
          · exact Nat.lt_of_lt_of_le (hO.lt b (hSF b h)) hkeep.size
      have hcsv : (ph k).cs = [a.eval x] := by
        have h1 : ∃ z, (ph k).cs = [z] := by have := hO.own; rw [hcur] at this; exact this.slc_cs
        obtain ⟨z, hz⟩ := h1
        obtain ⟨_, _, h3⟩ := val_root hO hx0 hnx
        rw [hz, mkV_one (by rw [hkuu']; rfl)] at h3
        rw [hz, h3]
      have hall : (∀ b, b < w.heap.size → Xof X0 ob' (upPh ph k p') b → Xof X0 (lookO g.ob) ph b) → ∀ {av : AV} {v : Value}, AVR P A (Xof X0 (lookO g.ob) ph) w (lookO g.ob) ph av v → AVR P A (Xof X0 ob' (upPh ph k p')) w' ob' (upPh ph k p') (strike [(k, .all)] av) v := fun hX av v hav => by
        refine AVR.stays hkeep.size hX (fun b hb hn => hkeep.block b hb fun hr => hn (.inr ⟨k, x0, hx0, hLF' b (rootB_mem hr)⟩)) (by simp [KM.isApp]) (fun c z hz => ?_) (fun c z z' hz hz' hna hnc _ b hb hh => ?_) hav
        · by_cases hc : c = k
          · subst hc; exact .all (by simp)
          · by_cases ha : ate os c
            · rw [hobn c hc ha] at hz; cases hz
            · refine .same (hobs c hc ha) (by simp [upPh, hc]) fun b hb => hkeep.block b ?_ fun hr => ?_
              · rw [hobs c hc ha] at hz; exact (R.objs.ok c z hz).lt b hb
              · rw [hobs c hc ha] at hz; exact R.objs.apart c z k x0 hz hx0 hc b hb (hLF' b (rootB_mem hr))
        · have hc : c ≠ k := fun e => hna (by subst e; simp)
          refine ⟨hX b hb hh.1, ?_⟩
          have h2 := hh.2
          simp only [upPh, if_neg hc] at h2
          exact h2
      have hvt : mkV P x0.t [v'] = v' := mkV_one (by rw [hkuu']; rfl)
      refine Does.value (v := v') (run_append ho hc ht hxs (by rw [hey]; exact hrun)) ⟨_, h, RelD.upd (D := DD) (ph' := upPh ph k p') R hkeep' (fun c hc => ?_) (fun c z hd hz b hb => ?_) (fun c z c' z' hd hd' hz hz' hcc => ?_) (fun hX c z hd hz => ?_) (fun hX s => ?_) fun hX => ?_⟩
      · have h1 : c ≠ k := fun e => hc (.inl e)
        exact ⟨hobs c h1 fun e => hc (.inr e), by simp [upPh, h1]⟩
      · have := hDs c z hd hz
        subst this
        rw [hk'] at hb
        exact hF0 b hb
      · exact absurd ((hDs c z hd hz).trans (hDs c' z' hd' hz').symm) hcc
      · have := hDs c z hd hz
        subst this
        have hz' : ob' c = some z := hz
        rw [hobk] at hz'
        injection hz' with hz'
        subst hz'
        rw [hk']
        exact hnew hX
      · by_cases hwi : x0.sh.weak .imm = true
        · simp only [hwi, cond_true]
          refine app_slots (ob := lookO g.ob) (ph := ph) hx0 ⟨_, _, hcur⟩ (fun c z hc hz => ?_) (fun t' v2 hv2 => ?_) (fun av v2 hv2 => ?_) (R.slots s) (fun _ _ _ _ => trivial)
          · by_cases ha : ate os c
            · have hz' : ob' c = some z := hz
              rw [hobn c hc ha] at hz'; cases hz'
            · have hz' : ob' c = some z := hz
              rw [hobs c hc ha] at hz'
              exact ⟨hz', by simp [upPh, hc]⟩
          · intro z hz
            obtain ⟨_, h2, h3⟩ := val_root hO hx0 hv2
            have h4 := holdv (fun b => Xof X0 ob' (upPh ph k p') b ∧ b ∉ (upPh ph k p' k).S) fun b hb hh => hX b hb hh.1
            have h5 : (Sh.slc cur none).plain 8 = true := by
              have := hwi
              rw [hcur] at this
              simpa [Sh.weak, Sh.weakN] using this
            rw [h3, hcsv]
            refine RepV.kind W (t := x0.t) ⟨[a.eval x], ((h4.plain (fun _ _ h => h) 8 (.inr h5) fun b hb hh => hh.2 ?_).kind W.kind (hk.trans hkuu'.symm)), rfl⟩ h2
            rw [hk']
            exact hSsup b (by simp only [Ph.S, List.mem_append]; exact .inl hb)
          · have h6 := hall hX (av := av) (v := v2)
            by_cases hfl : av.flatA = true
            · have h7 := h6 hv2.all
              obtain ⟨e1, e2⟩ := strike_flat [(k, KM.all)] hfl
              rw [e1] at h7
              exact h7.one e2
            · cases av <;> first | exact hv2.elim | simp [AV.flatA] at hfl
        · have : x0.sh.weak .imm = false := by simpa using hwi
          simp only [this, cond_false]
          exact hall hX (R.slots s)
      · intro z hz
        have hz' : ob' k = some z := hz
        rw [hobk] at hz'
        injection hz' with hz'
        subst hz'
        refine ⟨(fun e => by simp only at e; rw [hcur] at e; cases e), fun _ => ⟨x0.t, rfl, hkuu'.trans (hk.symm), .inr ⟨rfl, by rw [hk'], ?_⟩⟩⟩
        rw [hk']
        exact hvt.symm
    · -- a part of an object is taken out
      rename_i hpne
      split at h <;> try contradiction
      rename_i sh hhole
      obtain ⟨hany, h⟩ := of_cond' h
      obtain ⟨hKk, hfk⟩ := main hany
      have hpn : p ≠ [] := fun e => hpne e
      obtain ⟨Lh, hOh, hBh, hNh, hS1, hS2⟩ := Own.hole W p hO.own hhole hcur hty ⟨_, hhv⟩ hnL
      obtain ⟨v', w', L', hrun, hkeep, hown, _, hB, hN, hlt⟩ := append_core (ty := o.type) (A := A) W hk hkx hgz hpos hOt hnsub (fun b hb => .inr ⟨k, x0, hx0, hLF b hb⟩) (fun b hb => hO.lt b (hLF b hb)) (Ks := Ks') (cap2 := cap2) hT.len hT.nil hT.cells hone hKl' hKn' (fun b hb hm => hKk b (hKs' b hb) (hLF b hm)) (fun b hb => hKlt b (hKs' b hb)) hrm
      let xn : Obj := ⟨false, t, .slc cur none, .slc ((x0.d.get p).xs ++ ys)⟩
      let pk : Ph := ⟨(ph k).cs, (ph k).rb, Lh, []⟩
      let pd : Ph := ⟨[v'], none, L', []⟩
      let ph' : Nat → Ph := upPh (upPh ph k pk) dst pd
      let os1 : Objs := (dst, some xn) :: (k, some { x0 with sh }) :: os
      let ob' := upO os1 (lookO g.ob)
      have hobd : ob' dst = some xn := by simp only [ob', os1]; rw [upO_new, if_pos rfl]
      have hobk : k ≠ dst → ob' k = some { x0 with sh } := fun e => by simp only [ob', os1]; rw [upO_new, if_neg e, upO_new, if_pos rfl]
      have hobn : ∀ c, c ≠ dst → c ≠ k → ate os c → ob' c = none := fun c hcd hc ha => by
        simp only [ob', os1]
        rw [upO_new, if_neg hcd, upO_new, if_neg hc, upO, ha]
        rfl
      have hobs : ∀ c, c ≠ dst → c ≠ k → ¬ ate os c → ob' c = lookO g.ob c := fun c hcd hc ha => by
        simp only [ob', os1]
        rw [upO_new, if_neg hcd, upO_new, if_neg hc, upO]
        rcases hos' c with h | h
        · rw [h]; rfl
        · exact absurd h ha
      have hpd : ph' dst = pd := by simp [ph', upPh]
      have hpk : k ≠ dst → ph' k = pk := fun e => by simp [ph', upPh, e]
      have hpo : ∀ c, c ≠ dst → c ≠ k → ph' c = ph c := fun c h1 h2 => by simp [ph', upPh, h1, h2]
      let DD : Nat → Prop := fun c => c = dst ∨ c = k ∨ ate os c
      have hDs : ∀ c z, DD c → ob' c = some z → c = dst ∨ (c ≠ dst ∧ c = k) := fun c z hd hz => by
        by_cases hcd : c = dst
        · exact .inl hcd
        · rcases hd with h | h | h
          · exact absurd h hcd
          · exact .inr ⟨hcd, h⟩
          · by_cases hc : c = k
            · exact .inr ⟨hcd, hc⟩
            · rw [hobn c hcd hc h] at hz; cases hz
      have hFd : pd.F = L'.blocks := by simp [pd, Ph.F, Ph.S, Option.toList]
      have hFk : ∀ b ∈ pk.F, b ∈ (ph k).F ∧ b ∉ ((ph k).L.sub p).blocks := fun b hb => by
        simp only [pk, Ph.F, Ph.S, List.append_nil, List.mem_append] at hb
        rcases hb with h | h
        · refine ⟨by simp only [Ph.F, List.mem_append]; exact .inl h, fun hm => ?_⟩
          have := hO.nodup
          simp only [Ph.F, List.nodup_append] at this
          exact this.2.2 b h b (by simp only [Ph.S, List.mem_append]; exact .inl (sub_blocks p _ b hm)) rfl
        · obtain ⟨h1, h2⟩ := hBh b h
          exact ⟨by simp only [Ph.F, Ph.S, List.mem_append]; exact .inr (.inl h1), h2⟩
      have hFdo : ∀ b ∈ pd.F, b ∈ ((ph k).L.sub p).blocks ∨ b ∈ blocksL Ks' ∨ w.heap.size ≤ b := fun b hb => by rw [hFd] at hb; exact hB b hb
      have hdk : ∀ b, b ∈ pd.F → b ∈ pk.F → False := fun b h1 h2 => by
        obtain ⟨h3, h4⟩ := hFk b h2
        rcases hFdo b h1 with h | h | h
        · exact h4 h
        · exact hKk b (hKs' b h) h3
        · have := hO.lt b h3; omega
      have hF0 : ∀ c z, DD c → ob' c = some z → ∀ b ∈ (ph' c).F, w.heap.size ≤ b ∨ ∃ q y, DD q ∧ lookO g.ob q = some y ∧ b ∈ (ph q).F := fun c z hd hz b hb => by
        rcases hDs c z hd hz with hc | ⟨hcd, hc⟩
        · rw [hc, hpd] at hb
          rcases hFdo b hb with h | h | h
          · exact .inr ⟨k, x0, .inr (.inl rfl), hx0, hLF b h⟩
          · obtain ⟨q, y, h1, h2, h3⟩ := hKF b (hKs' b h)
            exact .inr ⟨q, y, .inr (.inr h1), h2, h3⟩
          · exact .inl h
        · rw [hc] at hb hcd
          rw [hpk hcd] at hb
          exact .inr ⟨k, x0, .inr (.inl rfl), hx0, (hFk b hb).1⟩
      have hdrop : ∀ b ∈ blocksL Ks, b ∉ blocksL Ks' → ¬ Xof X0 ob' ph' b := by
        rintro b hb hnb (hx | ⟨c, z, hz, hm⟩)
        · obtain ⟨c, z, _, hz, hm⟩ := hKF b hb
          exact R.objs.free c z hz b hm hx
        · by_cases hcd : c = dst
          · rw [hcd, hpd] at hm
            rcases hFdo b hm with h | h | h
            · exact hKk b hb (hLF b h)
            · exact hnb h
            · have := hKlt b hb; omega
          · by_cases hc : c = k
            · rw [hc] at hm hcd
              rw [hpk hcd] at hm
              exact hKk b hb (hFk b hm).1
            · by_cases ha : ate os c
              · rw [hobn c hcd hc ha] at hz; cases hz
              · rw [hobs c hcd hc ha] at hz
                rw [hpo c hcd hc] at hm
                obtain ⟨c2, z2, h1, h2, h3⟩ := hKF b hb
                exact R.objs.apart c z c2 z2 hz h2 (fun e => ha (e ▸ h1)) b hm h3
      have hkeep' : Keeps (fun b => ∃ c, DD c ∧ ∃ z, lookO g.ob c = some z ∧ b ∈ (ph c).F) w w' := hkeep.mono fun b hb => ⟨k, .inr (.inl rfl), x0, hx0, hLF b (rootB_mem hb)⟩
      have hkb : ∀ b, b < w.heap.size → b ∉ ((ph k).L.sub p).blocks → w'.heap[b]? = w.heap[b]? := fun b hb hn => hkeep.block b hb fun hr => hn (rootB_mem hr)
      have hval : mkV P t [v'] = v' := mkV_one (by rw [hk]; rfl)
      have hno : sh ≠ .it ∧ sh ≠ .mp := by
        cases p with
        | nil => exact absurd rfl hpn
        | cons z p =>
          cases z with
          | fld j =>
            simp only [Sh.hole] at hhole
            split at hhole <;> try contradiction
            split at hhole <;> try contradiction
            have hff := Sh.setFld_fld hhole j
            rw [if_pos rfl] at hff
            exact ⟨fun e => by rw [e] at hff; simp [Sh.fld] at hff, fun e => by rw [e] at hff; simp [Sh.fld] at hff⟩
          | idx i =>
            cases hs0 : x0.sh <;> rw [hs0] at hhole <;> first | (simp [Sh.hole] at hhole; done) | skip
            rename_i s1 ex
            cases ex with
            | none =>
              simp only [Sh.hole] at hhole
              split at hhole <;> try contradiction
              simp only [Option.some.injEq] at hhole
              rw [← hhole]
              exact ⟨by simp, by simp⟩
            | some _ => simp [Sh.hole] at hhole
          | arr i => cases hs0 : x0.sh <;> rw [hs0] at hhole <;> simp [Sh.hole] at hhole
      refine Does.value (v := v') (run_append ho hc ht hxs (by rw [hey]; exact hrun)) ⟨_, h, RelD.upd (D := DD) (ph' := ph') R hkeep' (fun c hc => ?_) hF0 (fun c z c' z' hd hd' hz hz' hcc b hb hb' => ?_) (fun hX c z hd hz => ?_) (fun hX s => ?_) fun hX => ?_⟩
      · have h1 : c ≠ dst := fun e => hc (.inl e)
        have h2 : c ≠ k := fun e => hc (.inr (.inl e))
        exact ⟨hobs c h1 h2 fun e => hc (.inr (.inr e)), hpo c h1 h2⟩
      · rcases hDs c z hd hz with e1 | ⟨e0, e1⟩ <;> rcases hDs c' z' hd' hz' with e2 | ⟨e3, e2⟩
        · exact hcc (e1.trans e2.symm)
        · rw [e1, hpd] at hb
          rw [e2] at e3 hb'
          rw [hpk e3] at hb'
          exact hdk b hb hb'
        · rw [e2, hpd] at hb'
          rw [e1] at e0 hb
          rw [hpk e0] at hb
          exact hdk b hb' hb
        · exact hcc (e1.trans e2.symm)
      · rcases hDs c z hd hz with e1 | ⟨e0, e1⟩
        · subst e1
          have hz' : ob' c = some z := hz
          rw [hobd] at hz'
          injection hz' with hz'
          subst hz'
          rw [hpd]
          refine ⟨hown _ hX (fun b hb _ => .inr ⟨c, xn, hobd, by rw [hpd, hFd]; exact hb⟩) (hKo' _ hX hdrop), (fun hb => by cases hb), fun _ => rfl, by rw [hFd]; exact hN, fun b hb => hlt b (by rw [hFd] at hb; exact hb)⟩
        · subst e1
          have hz' : ob' c = some z := hz
          rw [hobk e0] at hz'
          injection hz' with hz'
          subst hz'
          rw [hpk e0]
          refine ⟨hOh.frame hkeep.size hX (fun b hb hn => hkeep.block b hb fun hr => hn (.inr ⟨c, x0, hx0, hLF b (rootB_mem hr)⟩)) fun b hb => hkb b (hO.lt b ?_) (hBh b hb).2, fun hb => ?_, hO.hdr, ?_, fun b hb => Nat.lt_of_lt_of_le (hO.lt b (hFk b hb).1) hkeep.size⟩
          · simp only [Ph.F, Ph.S, List.mem_append]; exact .inr (.inl (hBh b hb).1)
          · obtain ⟨b0, E0, c0, h1, h2, h3⟩ := hO.box hb
            have hm : b0 ∈ pk.F := by simp [pk, Ph.F, h1]
            exact ⟨b0, E0, c0, h1, (hkb b0 (hO.lt b0 (hFk b0 hm).1) (hFk b0 hm).2).trans h2, h3⟩
          · have := hO.nodup
            simp only [Ph.F, Ph.S, List.nodup_append] at this
            simp only [pk, Ph.F, Ph.S, List.append_nil, List.nodup_append]
            exact ⟨this.1, hNh, fun x hx y hy => this.2.2 x hx y (by simp only [List.mem_append]; exact .inl (hBh y hy).1)⟩
      · refine AVR.stays hkeep.size hX (fun b hb hn => hkeep.block b hb fun hr => hn (.inr ⟨k, x0, hx0, hLF b (rootB_mem hr)⟩)) (by simp [KM.isApp, newO]) (fun c z hz => ?_) (fun c z z' hz hz' hna hnc _ b hb hh => ?_) (R.slots s)
        · by_cases hcd : c = dst
          · exact .all (by simp [newO, hcd])
          · by_cases hc : c = k
            · subst hc
              have hz' : ob' c = some z := hz
              rw [hobk hcd] at hz'
              injection hz' with hz'
              have hzt : z.t = x0.t := by rw [← hz']
              refine .pth p (by simp [newO]) hx0 hz hzt (not_it_of_get hcur (by simp)) (fun e => ?_) (fun e => ?_) (by rw [hpk hcd]) (fun _ => ⟨hpn, by rw [hpk hcd]⟩) (fun q hq => ?_) (fun q hq => ?_) (fun hn => absurd (by simp [newO]) hn)
              · rw [← hz'] at e; exact hno.1 e
              · exfalso
                rw [e] at hcur
                cases p with
                | nil => exact hpn rfl
                | cons z p => cases z <;> simp [Sh.get, Sh.fld] at hcur
              · rw [hpk hcd]; exact hS1 _ q hq
              · rw [hpk hcd]; exact hS2 q hq
            · by_cases ha : ate os c
              · have hz' : ob' c = some z := hz
                rw [hobn c hcd hc ha] at hz'; cases hz'
              · have hz' : ob' c = some z := hz
                rw [hobs c hcd hc ha] at hz'
                exact .same (hobs c hcd hc ha) (hpo c hcd hc) fun b hb => hkeep.block b ((R.objs.ok c z hz').lt b hb) fun hr => R.objs.apart c z k x0 hz' hx0 hc b hb (hLF b (rootB_mem hr))
        · have hcd : c ≠ dst := fun e => hna (by simp [newO, e])
          have hc : c ≠ k := fun e => hnc (by simp [newO, e])
          refine ⟨hX b hb hh.1, ?_⟩
          have h2 := hh.2
          rw [hpo c hcd hc] at h2
          exact h2
      · intro z hz
        have hz' : ob' dst = some z := hz
        rw [hobd] at hz'
        injection hz' with hz'
        subst hz'
        exact ⟨(fun e => by cases e), fun _ => ⟨t, rfl, rfl, .inr ⟨rfl, by rw [hpd], by rw [hpd]; exact hval.symm⟩⟩⟩

end
end Go.Ab

/- Maps: iteration. -/
namespace Go.Ab
variable {P : Program} {A : Ann}

section
variable {X0 Y0 : Nat → Prop} {w0 : World} {g : St} {ph : Nat → Ph} {a : Act} {w : World} {o : Oper} {K : Dl → Prop}

theorem step_range {t dst m u k e : Nat} {x : Operand} (ho : o.op = .range t x) (R : RelA P A X0 Y0 w0 g ph a w) (hk : tk P t = .map k e) (hav : g.av x = .val m [] u) (htu : sameK P t u = true) {ob : Obj} (hob : lookO g.ob m = some ob) (hsh : ob.sh = .mp) (hmd : m ≠ dst)
    (h : K (newO (lookO g.ob) dst (.val dst [.fld m] t) ⟨false, t, .it, .map ob.d.es⟩ [])) : Does P o a w (Out P A X0 Y0 w0 g a K) := by
  have hx := AVR.eval R x
  rw [hav] at hx
  have hO := R.objs.ok m ob hob
  obtain ⟨_, htk, hv⟩ := val_root hO hob hx
  have hkm : tk P ob.t = .map k e := htk.trans ((sameK_eq htu).symm.trans hk)
  have hown := hO.own
  rw [hsh] at hown
  generalize hL : (ph m).L = L at hown
  generalize hcs : (ph m).cs = cs at hown hv
  generalize hd : ob.d = d at hown
  cases hown with
  | mp hk' hr hl h1 h2 h3 h4 h5 h6 =>
    rename_i k' e' r clock es l ck ce
    rw [hk'] at hkm
    injection hkm with e1 e2
    subst e1 e2
    rw [mkV_one (by rw [hk']; rfl)] at hv
    have hrun : (execOp a.eval o).run P w = .ok (.value (.pointer (some ⟨w.heap.size, 0, none⟩))) (addObj w (.mapIter (some r) clock #[] clock)) := by
      simp [execOp, ho, Instr.range, run_underlying (und_map hk), hv, run_getMap hr, newObj, addObj, Sem.run]
    have hkeep := addObj_keeps w (.mapIter (some r) clock #[] clock)
    have hrlt : r < w.heap.size := (Array.getElem?_eq_some_iff.1 hr).1
    refine Does.value hrun ⟨_, h, RelD.fresh (cons := fun _ => False) (p := ⟨[.pointer (some ⟨w.heap.size, 0, none⟩)], none, .it w.heap.size, []⟩) (x := ⟨false, t, .it, .map ob.d.es⟩) R hkeep (by rw [upO_new, if_pos rfl]) (fun _ _ h => h.elim) (fun c hc _ => by rw [upO_new, if_neg hc]; rfl) (fun b hb => ?_) (fun hX => ?_) fun hX => ?_⟩
    · simp only [Ph.F, Ph.S, Lt.blocks, Option.toList, List.append_nil, List.nil_append, List.mem_singleton] at hb
      exact .inl (by omega)
    · refine ⟨.it hk (addObj_here w _), (fun hb => by cases hb), fun _ => rfl, by simp [Ph.F, Ph.S, Lt.blocks, Option.toList], fun b hb => ?_⟩
      simp only [Ph.F, Ph.S, Lt.blocks, Option.toList, List.append_nil, List.nil_append, List.mem_singleton] at hb
      rw [hb, addObj_size]; omega
    · intro z hz
      rw [upO_new, if_pos rfl] at hz
      injection hz with hz
      subst hz
      refine ⟨fun _ => ⟨m, rfl, rfl, fun y hy => ?_⟩, fun hn => absurd rfl hn⟩
      have hy' : y = ob := by
        have : upO [(dst, some (⟨false, t, .it, .map ob.d.es⟩ : Obj))] (lookO g.ob) m = some y := hy
        rw [upO_new, if_neg hmd] at this
        have h2 : lookO g.ob m = some y := this
        rw [hob] at h2
        injection h2 with h2
        exact h2.symm
      subst hy'
      have hpm : upPh ph dst ⟨[.pointer (some ⟨w.heap.size, 0, none⟩)], none, .it w.heap.size, []⟩ m = ph m := by simp [upPh, hmd]
      have hes : (Array.filter (fun z => !(#[] : Array Nat).contains z.born) es) = es := by rw [Array.filter_eq_self]; intro z _; simp
      have hb' : (addObj w (.mapIter (some r) clock #[] clock)).heap[r]? = some (.map es clock) := (hkeep.block r hrlt id).trans hr
      have hgl : ∀ j, (match l[j]? with | some z => z | none => (D.und, D.und)) = l.getD j (.und, .und) := fun j => by rw [List.getD_eq_getElem?_getD]; cases l[j]? <;> rfl
      have hdl : y.d.es = l := by rw [hd]; rfl
      refine ⟨w.heap.size, r, clock, clock, clock, #[], es, k', e', ck, ce, by simp [upPh], rfl, by rw [hpm, hL], hsh, hk, addObj_here w _, hb', h5, h6, ?_, fun j hj => ?_, Nat.le_refl _, rfl⟩
      · rw [hes, hl]
        show l.length = y.d.es.length
        rw [hdl]
      · have hj' : j < l.length := by rw [← hdl]; exact hj
        rw [hes]
        have hgd : y.d.es.getD j (.und, .und) = l.getD j (.und, .und) := by rw [hdl]
        show _ ∧ _ ∧ Rep P A _ _ k' (ck j) (y.d.es.getD j (.und, .und)).1 ∧ Rep P A _ _ e' (ce j) (y.d.es.getD j (.und, .und)).2
        rw [hgd]
        exact ⟨h1 j hj', h2 j hj', (h3 j hj').frame hkeep.size hX fun b hb _ => hkeep.block b hb id, (h4 j hj').frame hkeep.size hX fun b hb _ => hkeep.block b hb id⟩

/-- The entries that are left, without one. -/
theorem left_erase {es : Array MapEntry} {seen : Array Nat} {i : Nat} {z : MapEntry} (hn : (es.toList.map (·.born)).Nodup) (hz : (es.filter fun z => !seen.contains z.born)[i]? = some z) :
    (es.filter fun y => !(seen.push z.born).contains y.born).toList = (es.filter fun z => !seen.contains z.born).toList.eraseIdx i := by
  have h1 : (es.filter fun y => !(seen.push z.born).contains y.born).toList = (es.filter fun z => !seen.contains z.born).toList.filter fun y => !(y.born == z.born) := by
    simp only [Array.toList_filter, List.filter_filter]
    congr 1
    funext y
    rw [Bool.eq_iff_iff]
    simp [not_or, and_comm]
  rw [h1]
  have hnl : ((es.filter fun z => !seen.contains z.born).toList.map (·.born)).Nodup := by
    simp only [Array.toList_filter]
    exact (List.filter_sublist.map _).nodup hn
  have hz' : (es.filter fun z => !seen.contains z.born).toList[i]? = some z := by rw [Array.getElem?_toList]; exact hz
  generalize (es.filter fun z => !seen.contains z.born).toList = l at hnl hz'
  clear h1 hz hn
  induction l generalizing i with
  | nil => simp at hz'
  | cons y l ih =>
    simp only [List.map_cons, List.nodup_cons] at hnl
    cases i with
    | zero =>
      simp only [List.getElem?_cons_zero, Option.some.injEq] at hz'
      subst hz'
      simp only [List.filter_cons, beq_self_eq_true, Bool.not_true, Bool.false_eq_true, if_false, List.eraseIdx_zero, List.tail_cons]
      rw [List.filter_eq_self]
      intro x hx
      have : x.born ≠ y.born := fun e => hnl.1 (List.mem_map.2 ⟨x, hx, e⟩)
      simpa using this
    | succ i =>
      simp only [List.getElem?_cons_succ] at hz'
      have hne : y.born ≠ z.born := fun e => hnl.1 (List.mem_map.2 ⟨z, List.mem_of_getElem? hz', e.symm⟩)
      simp only [List.filter_cons, List.eraseIdx_cons_succ]
      rw [if_pos (by simpa using hne), ih hnl.2 hz']

theorem getD_eraseIdx {α : Type} {l : List α} {i j : Nat} {x : α} : (l.eraseIdx i).getD j x = l.getD (if j < i then j else j + 1) x := by
  simp only [List.getD_eq_getElem?_getD, List.getElem?_eraseIdx]
  split <;> rfl

/-- AN ITERATION'S NEXT STEP. -/
theorem Iter.step {X X' : Nat → Prop} {w' : World} {x y : Obj} {q m : Ph} {v : Value} (h : Iter P A X w x y q m v) {r rm since last clock : Nat} {seen : Array Nat} {es : Array MapEntry} {z : MapEntry} {i : Nat}
    (hr : q.L = .it r) (hh : w.heap[r]? = some (.mapIter (some rm) since seen last)) (hm : w.heap[rm]? = some (.map es clock)) (hz : (es.filter fun z => !seen.contains z.born)[i]? = some z)
    (hr' : w'.heap[r]? = some (.mapIter (some rm) since (seen.push z.born) clock)) (hoth : ∀ b, b ≠ r → w'.heap[b]? = w.heap[b]?) (hs : w.heap.size ≤ w'.heap.size) (hX : ∀ b, b < w.heap.size → X' b → X b) (hXr : X r) :
    Iter P A X' w' { x with d := .map (x.d.es.eraseIdx i) } y q m v := by
  obtain ⟨r2, rm2, since2, last2, clock2, seen2, es2, k, e, ck, ce, h1, h2, h3, h4, h5, h6, h7, h8, h9, h10, h11, h12, h13⟩ := h
  rw [hr] at h1
  injection h1 with h1
  subst h1
  rw [hh] at h6
  injection h6 with h6
  injection h6 with e1 e2 e3 e4
  injection e1 with e1
  subst e1 e2 e3 e4
  rw [hm] at h7
  injection h7 with h7
  injection h7 with e1 e2
  subst e1 e2
  have hne : rm ≠ r := fun e => by subst e; rw [hh] at hm; cases hm
  have hfr : ∀ {t cs d}, Rep P A X w t cs d → Rep P A X' w' t cs d := fun hR => hR.frame hs hX fun b _ hn => hoth b fun e => by subst e; exact hn hXr
  have hle := left_erase h9 hz
  have hil : i < (es.filter fun z => !seen.contains z.born).size := (Array.getElem?_eq_some_iff.1 hz).1
  have hsz : (es.filter fun y => !(seen.push z.born).contains y.born).size = (x.d.es.eraseIdx i).length := by
    rw [← Array.length_toList, hle, List.length_eraseIdx, List.length_eraseIdx, Array.length_toList, h10, if_pos (by omega)]
  refine ⟨r, rm, since, clock, clock, seen.push z.born, es, k, e, fun j => ck (if j < i then j else j + 1), fun j => ce (if j < i then j else j + 1), hr, h2, h3, h4, h5, hr', (hoth rm hne).trans hm, h8, h9, hsz, fun j hj => ?_, by omega, h13⟩
  have hj2 : (if j < i then j else j + 1) < x.d.es.length := by
    have h14 : j < (x.d.es.eraseIdx i).length := hj
    rw [List.length_eraseIdx, if_pos (by omega)] at h14
    split <;> omega
  have hget : (es.filter fun y => !(seen.push z.born).contains y.born)[j]? = (es.filter fun z => !seen.contains z.born)[if j < i then j else j + 1]? := by
    rw [← Array.getElem?_toList, hle, List.getElem?_eraseIdx, ← Array.getElem?_toList]
    split <;> rfl
  obtain ⟨g1, g2, g3, g4⟩ := h11 _ hj2
  rw [hget]
  show _ ∧ _ ∧ Rep P A X' w' k _ ((x.d.es.eraseIdx i).getD j (.und, .und)).1 ∧ Rep P A X' w' e _ ((x.d.es.eraseIdx i).getD j (.und, .und)).2
  rw [getD_eraseIdx]
  exact ⟨g1, g2, hfr g3, hfr g4⟩

/-- Slots behind a step of an iterator. -/
theorem it_slots {X X' : Nat → Prop} {ob ob' : Nat → Option Obj} {ph' : Nat → Ph} {w' : World} {q : Nat}
    (hval : ∀ m t v, AVR1 P A X w ob ph (.val q m t) v → AVR1 P A X' w' ob' ph' (.val q m t) v)
    (hall : ∀ a v, AVR1 P A X w ob ph a v → AVR1 P A X' w' ob' ph' (strike1 [(q, .all)] a) v) {a : AV} {v : Value} (h : AVR P A X w ob ph a v) :
    AVR P A X' w' ob' ph' (strike [(q, .it)] a) v := by
  have one : ∀ a v, AVR1 P A X w ob ph a v → AVR1 P A X' w' ob' ph' (strike1 [(q, .it)] a) v := by
    intro a v h
    have ha := hall a v h
    simp only [strike1] at ha ⊢
    cases a with
    | val o p t =>
      simp only [fall1] at ha ⊢
      by_cases e : q = o
      · subst e
        have h2 := hval p t v h
        have h3 : ∀ b : Bool, AVR1 P A X' w' ob' ph' (cond b .dead (.val q p t)) v := fun b => by
          cases b
          · exact h2
          · trivial
        exact h3 _
      · have hb : Nat.beq q o = false := by rw [Bool.eq_false_iff, Ne, beq_iff]; exact e
        simp only [hb, Bool.false_or] at ha
        exact ha
    | tup l => exact h.elim
    | clo f l => exact h.elim
    | _ => exact ha
  by_cases hfl : a.flatA = true
  · obtain ⟨e, hf'⟩ := strike_flat [(q, KM.it)] hfl
    rw [e]
    have h2 := one a v (h.one hfl)
    generalize strike1 [(q, KM.it)] a = c at h2 hf'
    cases c <;> first | exact h2 | simp [AV.flatA] at hf'
  · cases a <;> first | simp [AV.flatA] at hfl; done | skip
    · rename_i l
      rw [strike_tup]
      obtain ⟨vs, h1, h2, h3⟩ := h
      refine ⟨vs, h1, by simpa using h2, fun i a ha => ?_⟩
      simp only [List.getElem?_map, Option.map_eq_some_iff] at ha
      obtain ⟨a', ha', rfl⟩ := ha
      exact one _ _ (h3 i a' ha')
    · rename_i f l
      rw [strike_clo]
      obtain ⟨vs, h1, h2, h3⟩ := h
      refine ⟨vs, h1, by simpa using h2, fun i a ha => ?_⟩
      simp only [List.getElem?_map, Option.map_eq_some_iff] at ha
      obtain ⟨a', ha', rfl⟩ := ha
      exact one _ _ (h3 i a' ha')

theorem step_next {x : Operand} {q m t kt et : Nat} {ob om : Obj} (W : WF P) (ho : o.op = .next x false) (R : RelA P A X0 Y0 w0 g ph a w) (hav : g.av x = .val q [.fld m] t) (hk : tk P t = .map kt et) (hq : lookO g.ob q = some ob) (hm : lookO g.ob m = some om)
    (hsh : ob.sh = .it) (hB : isB P P.rt.bool = true) (h1 : ob.d.es = [] → K { v := .tup [.imm P.rt.bool (.bool false)] })
    (h2 : ∀ i, i < ob.d.es.length → K { v := .tup [.imm P.rt.bool (.bool true), .imm kt (ob.d.es.getD i (.und, .und)).1, .imm et (ob.d.es.getD i (.und, .und)).2], os := [(q, some { ob with d := .map (ob.d.es.eraseIdx i) })], ks := [(q, .it)] }) :
    Does P o a w (Out P A X0 Y0 w0 g a K) := by
  have hx := AVR.eval R x
  rw [hav] at hx
  have hBt := isB_eq hB
  obtain ⟨g1, _⟩ := hx ob hq
  obtain ⟨m', hm', htk, hI⟩ := g1 hsh
  injection hm' with hm' _
  injection hm' with hm'
  subst hm'
  have hI := hI om hm
  obtain ⟨r, rm, since, last, clock, seen, es, k, e, ck, ce, i1, i2, i3, i4, i5, i6, i7, i8, i9, i10, i11, i12, i13⟩ := id hI
  have hkk : tk P t = .map k e := htk.symm.trans i5
  rw [hk] at hkk
  injection hkk with e1 e2
  subst e1 e2
  have hO := R.objs.ok q ob hq
  have hrF : r ∈ (ph q).F := by simp [Ph.F, Ph.S, i1, Lt.blocks]
  have hown := hO.own
  rw [hsh] at hown
  have hcs : (ph q).cs = [.pointer (some ⟨r, 0, none⟩)] := by
    rw [i1] at hown
    generalize (ph q).cs = cs at hown ⊢
    generalize ob.d = d at hown
    cases hown
    rfl
  rcases run_next_at (P := P) w o.type r rm since last seen es clock i6 i7 i8 i12 with ⟨h0, hrun⟩ | ⟨z, hz, w1, hw1, hrun⟩
  · have hes : ob.d.es = [] := by
      have : (es.filter fun z => !seen.contains z.born).size = 0 := h0
      rw [i10] at this
      exact List.eq_nil_of_length_eq_zero this
    refine Does.value (v := .tuple #[.bool false]) (w' := w) (by simp only [execOp, ho, i2, Sem.run_bind, hrun, Result.andThen_ok, Sem.run_pure]) (Out.pure R (h1 hes) ?_)
    exact ⟨#[.bool false], rfl, rfl, fun i a ha => by
      match i, ha with
      | 0, ha => simp only [List.getElem?_cons_zero, Option.some.injEq] at ha; subst ha; exact rep_bool hBt
      | i + 1, ha => simp at ha⟩
  · obtain ⟨i, hi, hzi⟩ := List.mem_iff_getElem.1 hz
    have hil : i < ob.d.es.length := by rw [← i10, ← Array.length_toList]; exact hi
    have hzz : (es.filter fun z => !seen.contains z.born)[i]? = some z := by
      rw [← Array.getElem?_toList]
      have : (leftOf es seen).toList[i]? = some z := by rw [List.getElem?_eq_getElem hi, hzi]
      exact this
    have hwh : w1.heap = w.heap ∧ w1.os = w.os ∧ w1.tape = w.tape ∧ w1.output = w.output := by rcases hw1 with rfl | rfl <;> exact ⟨rfl, rfl, rfl, rfl⟩
    let w' := Go.ChangeMaps.setBlock w1 r (.mapIter (some rm) since (seen.push z.born) clock)
    have hrlt : r < w.heap.size := (Array.getElem?_eq_some_iff.1 i6).1
    have hw'r : w'.heap[r]? = some (.mapIter (some rm) since (seen.push z.born) clock) := by
      show (w1.heap.setIfInBounds r _)[r]? = _
      rw [hwh.1]
      simp [hrlt]
    have hw'o : ∀ b, b ≠ r → w'.heap[b]? = w.heap[b]? := fun b hb => by
      show (w1.heap.setIfInBounds r _)[b]? = _
      rw [hwh.1, Array.getElem?_setIfInBounds, if_neg (fun e => hb e.symm)]
    have hsz : w'.heap.size = w.heap.size := by
      show (w1.heap.setIfInBounds r _).size = _
      rw [hwh.1]
      simp
    obtain ⟨j1, j2, j3, j4⟩ := i11 i hil
    rw [hzz] at j1 j2
    simp only [Option.map_some, Option.some.injEq] at j1 j2
    have hkeep : Keeps (fun b => ∃ c, c = q ∧ ∃ y, lookO g.ob c = some y ∧ b ∈ (ph c).F) w w' := ⟨hwh.2.1, hwh.2.2.1, hwh.2.2.2, Nat.le_of_eq hsz.symm, fun b _ hn => hw'o b fun e => hn ⟨q, rfl, ob, hq, by rw [e]; exact hrF⟩⟩
    let os1 : Objs := [(q, some { ob with d := .map (ob.d.es.eraseIdx i) })]
    have hobq : upO os1 (lookO g.ob) q = some { ob with d := .map (ob.d.es.eraseIdx i) } := by simp only [os1]; rw [upO_new, if_pos rfl]
    have hobo : ∀ c, c ≠ q → upO os1 (lookO g.ob) c = lookO g.ob c := fun c hc => by simp only [os1]; rw [upO_new, if_neg hc]; rfl
    have hXr : ∀ X0', Xof X0' (lookO g.ob) ph r := fun X0' => .inr ⟨q, ob, hq, hrF⟩
    refine Does.value (v := .tuple #[.bool true, z.key, z.val]) (w' := w') (by simp only [execOp, ho, i2, Sem.run_bind, hrun, Result.andThen_ok, Sem.run_pure]; rfl) ⟨_, h2 i hil, RelD.upd (D := fun c => c = q) (ph' := ph) R hkeep (fun c hc => ⟨hobo c hc, rfl⟩) (fun c y hd hy b hb => ?_) (fun c y c' y' hd hd' _ _ hcc => absurd (hd.trans hd'.symm) hcc) (fun hX c y hd hy => ?_) (fun hX s => ?_) fun hX => ?_⟩
    · subst hd
      exact .inr ⟨c, ob, rfl, hq, hb⟩
    · subst hd
      have hy' : upO os1 (lookO g.ob) c = some y := hy
      rw [hobq] at hy'
      injection hy' with hy'
      subst hy'
      refine ⟨?_, (fun hb => ?_), hO.hdr, hO.nodup, fun b hb => by rw [hsz]; exact hO.lt b hb⟩
      · show Own P A _ w' (ph c).L ob.sh ob.t (ph c).cs _
        rw [hsh, i1, hcs]
        exact .it i5 hw'r
      · obtain ⟨b, E, c0, b1, b2, b3⟩ := hO.box hb
        have hbr : b ≠ r := fun e => by subst e; rw [i6] at b2; cases b2
        exact ⟨b, E, c0, b1, (hw'o b hbr).trans b2, b3⟩
    · refine it_slots (ob := lookO g.ob) (ph := ph) (w := w) (fun p t' v' hv' => ?_) (fun av v' hv' => ?_) (R.slots s)
      · intro y hy
        have hy' : upO os1 (lookO g.ob) q = some y := hy
        rw [hobq] at hy'
        injection hy' with hy'
        subst hy'
        obtain ⟨b1, b2⟩ := hv' ob hq
        refine ⟨fun _ => ?_, fun hn => absurd hsh hn⟩
        obtain ⟨m2, c1, c2, c3⟩ := b1 hsh
        refine ⟨m2, c1, c2, fun y2 hy2 => ?_⟩
        have hm2 : m2 ≠ q := fun e => by
          subst e
          have hy2' : upO os1 (lookO g.ob) m2 = some y2 := hy2
          rw [hobq] at hy2'
          injection hy2' with hy2'
          subst hy2'
          obtain ⟨_, _, _, _, _, _, _, _, _, _, _, _, _, _, d4, _⟩ := c3 ob hq
          rw [hsh] at d4
          cases d4
        have hy2' : lookO g.ob m2 = some y2 := by rw [← hobo m2 hm2]; exact hy2
        exact (c3 y2 hy2').step i1 i6 i7 hzz hw'r hw'o (Nat.le_of_eq hsz.symm) hX (hXr X0)
      · by_cases hfl : av.flatA = true
        · have h7 : AVR P A _ w' (upO os1 (lookO g.ob)) ph (strike [(q, .all)] av) v' := AVR.stays (Nat.le_of_eq hsz.symm) hX (fun b _ hn => hw'o b fun e => by subst e; exact hn (hXr X0)) (by simp [KM.isApp]) (fun c y hy => by
              by_cases hc : c = q
              · exact .all (by simp [hc])
              · refine .same (hobo c hc) rfl fun b hb => hw'o b fun e => ?_
                have hy' : upO os1 (lookO g.ob) c = some y := hy
                rw [hobo c hc] at hy'
                subst e
                exact R.objs.apart c y q ob hy' hq hc b hb hrF) (fun c y y' _ _ _ _ _ b hb hh => ⟨hX b hb hh.1, hh.2⟩) hv'.all
          obtain ⟨e1, e2⟩ := strike_flat [(q, KM.all)] hfl
          rw [e1] at h7
          exact h7.one e2
        · cases av <;> first | exact hv'.elim | simp [AV.flatA] at hfl
    · refine ⟨#[.bool true, z.key, z.val], rfl, rfl, fun j av hj => ?_⟩
      have hfr : ∀ {t cs d}, Rep P A (Xof X0 (lookO g.ob) ph) w t cs d → Rep P A (Xof X0 (upO os1 (lookO g.ob)) ph) w' t cs d := fun hR => hR.frame (Nat.le_of_eq hsz.symm) hX fun b _ hn => hw'o b fun e => by subst e; exact hn (hXr X0)
      match j, hj with
      | 0, hj => simp only [List.getElem?_cons_zero, Option.some.injEq] at hj; subst hj; exact rep_bool hBt
      | 1, hj => simp only [List.getElem?_cons_succ, List.getElem?_cons_zero, Option.some.injEq] at hj; subst hj; exact ⟨ck i, hfr j3, j1⟩
      | 2, hj => simp only [List.getElem?_cons_succ, List.getElem?_cons_zero, Option.some.injEq] at hj; subst hj; exact ⟨ce i, hfr j4, j2⟩
      | j + 3, hj => simp at hj

end
end Go.Ab

/- Maps: a store. -/
namespace Go.Ab
open Go.MapKept
variable {P : Program} {A : Ann}

theorem find_spec {d : TypeDesc} {k : Value} {kd vd : D} (hk : IsKey d k) : ∀ (l : List MapEntry) (ds : List (D × D)) (i : Nat), l.length = ds.length →
    (∀ j z, l[j]? = some z → IsKey d z.key ∧ (D.same 8 (ds.getD j (.und, .und)).1 kd = true ↔ z.key = k)) →
    (Instr.findNow d k l i = some none ∧ mapPut ds kd vd = ds ++ [(kd, vd)]) ∨ ∃ j z, Instr.findNow d k l i = some (some (i + j, z.val)) ∧ l[j]? = some z ∧ z.key = k ∧ mapPut ds kd vd = ds.set j (kd, vd)
  | [], [], i, _, _ => .inl ⟨rfl, rfl⟩
  | [], x :: ds, i, h, _ => by simp at h
  | z :: l, [], i, h, _ => by simp at h
  | z :: l, (a, b) :: ds, i, h, hl => by
    obtain ⟨h1, h2⟩ := hl 0 z rfl
    obtain ⟨r, hr, hiff⟩ := sameNow_of_keys hk h1
    have ha : ((a, b) :: ds).getD 0 (D.und, D.und) = (a, b) := rfl
    rw [ha] at h2
    cases r with
    | true =>
      have e : z.key = k := (hiff.1 rfl).symm
      refine .inr ⟨0, z, by simp [Instr.findNow, hr], rfl, e, ?_⟩
      simp only [mapPut, h2.2 e, cond_true, List.set_cons_zero]
    | false =>
      have hne : z.key ≠ k := fun q => by have := hiff.2 q.symm; cases this
      have hs : D.same 8 a kd = false := by
        cases e : D.same 8 a kd
        · rfl
        · exact absurd (h2.1 e) hne
      rcases find_spec (vd := vd) hk l ds (i + 1) (by simpa using h) (fun j y hy => hl (j + 1) y hy) with ⟨g1, g2⟩ | ⟨j, y, g1, g2, g3, g4⟩
      · exact .inl ⟨by simp [Instr.findNow, hr, g1], by simp only [mapPut, hs, cond_false, g2, List.cons_append]⟩
      · refine .inr ⟨j + 1, y, ?_, g2, g3, by simp only [mapPut, hs, cond_false, g4, List.set_cons_succ]⟩
        simp [Instr.findNow, hr, g1]
        omega

theorem same_key {t : Nat} {X X' : Nat → Prop} {w w' : World} {u v : Value} {a b : D} (hk : keyT P t = true) (hu : RepV P A X w t u a) (hv : RepV P A X' w' t v b) : D.same 8 a b = true ↔ u = v := by
  obtain ⟨cs, h1, h2⟩ := hu
  obtain ⟨cs', h3, h4⟩ := hv
  cases h1 with
  | int h => cases h3 <;> first | (exfalso; simp_all; done) | skip
             rw [mkV_one (by rw [h]; rfl)] at h2 h4
             rename_i k n k' n' h'
             rw [h] at h'; injection h' with h'; subst h' h2 h4
             simp [D.same]
  | bool h => cases h3 <;> first | (exfalso; simp_all; done) | skip
              rw [mkV_one (by rw [h]; rfl)] at h2 h4
              subst h2 h4
              simp [D.same]
  | str h => cases h3 <;> first | (exfalso; simp_all; done) | skip
             rw [mkV_one (by rw [h]; rfl)] at h2 h4
             subst h2 h4
             have e1 : ∀ s1 s2 : ByteArray, s1.toList = s2.toList ↔ s1 = s2 := fun s1 s2 => by rw [← bytes_beq s1 s2, beq_toListBytes]; simp
             simp [D.same, e1]
  | _ => simp_all [keyT]

theorem key_is {t : Nat} {X : Nat → Prop} {w : World} {u : Value} {a : D} (hk : keyT P t = true) (hu : RepV P A X w t u a) : ∃ d, P.underlying t = some d ∧ IsKey d u ∧ Instr.sameBits 10000 u u = true ∧ ∃ cs, cs = [u] := by
  obtain ⟨cs, h1, h2⟩ := hu
  cases h1 with
  | int h => rw [mkV_one (by rw [h]; rfl)] at h2; subst h2; exact ⟨_, und_int h, rfl, by simp [Instr.sameBits], _, rfl⟩
  | bool h => rw [mkV_one (by rw [h]; rfl)] at h2; subst h2; exact ⟨_, und_bool h, trivial, by simp [Instr.sameBits], _, rfl⟩
  | str h => rw [mkV_one (by rw [h]; rfl)] at h2; subst h2; exact ⟨_, und_str h, trivial, by simp [Instr.sameBits, bytes_beq], _, rfl⟩
  | _ => simp_all [keyT]

section
variable {X0 Y0 : Nat → Prop} {w0 : World} {g : St} {ph : Nat → Ph} {a : Act} {w : World} {o : Oper} {K : Dl → Prop}

theorem step_mapUpdate {t kt et m u : Nat} {x y z : Operand} {kd vd : D} {sv : Option Sh} {os : Objs} {ob : Obj} (W : WF P) (ho : o.op = .mapUpdate t x y z) (R : RelA P A X0 Y0 w0 g ph a w) (hk : tk P t = .map kt et) (hkey : keyT P kt = true)
    (hav : g.av x = .val m [] u) (hdk : St.data P (lookO g.ob) kt (g.av y) = some kd) (htv : takeV P (lookO g.ob) et (g.av z) = some (sv, vd, os)) (htu : sameK P t u = true) (hpl : ∀ s, sv = some s → s.plain 8 = true) (hob : lookO g.ob m = some ob) (hsh : ob.sh = .mp)
    (hany : (os.any fun z => Nat.beq z.1 m) = false) (h : K { v := .und, os := (m, some { ob with d := .map (mapPut ob.d.es kd vd) }) :: os, ks := [(m, .pth [.fld m]), (m, .cut)] }) : Does P o a w (Out P A X0 Y0 w0 g a K) := by
  have hx := AVR.eval R x
  rw [hav] at hx
  have hO := R.objs.ok m ob hob
  obtain ⟨_, htk, hvx⟩ := val_root hO hob hx
  have hkm : tk P ob.t = .map kt et := htk.trans ((sameK_eq htu).symm.trans hk)
  obtain ⟨X1, _, hrk⟩ := slot_rep W R hdk
  have hfz : (g.av z).flatA = true := by
    cases hz : g.av z <;> first | rfl | (rw [hz] at htv; simp [takeV] at htv)
  obtain ⟨cs, L, hvz, hT, hnL, hng, hos⟩ := takeV_spec W R.objs ((AVR.eval R z).one hfz) htv
  have hos' : ∀ c, findO os c = none ∨ findO os c = some none := by
    intro c
    rcases hos with ⟨rfl, _⟩ | ⟨q, y, rfl, _⟩
    · exact .inl rfl
    · simp only [findO]; split <;> simp
  have hLF : ∀ b ∈ L.blocks, ∃ c y, ate os c ∧ lookO g.ob c = some y ∧ b ∈ (ph c).F := by
    intro b hb
    rcases hos with ⟨_, e⟩ | ⟨q, y, rfl, hy, _, hm⟩
    · rw [e] at hb; cases hb
    · exact ⟨q, y, by simp [ate, findO], hy, hm b hb⟩
  have hfk := findO_any hany
  obtain ⟨kdesc, hkd, hik, hsb, _⟩ := key_is hkey hrk
  have hown := hO.own
  rw [hsh] at hown
  have hrows : ∃ (r clock : Nat) (es : Array MapEntry) (l : List (D × D)) (ck ce : Nat → List Value), (ph m).L = .mp r ∧ (ph m).cs = [.map (some r)] ∧ ob.d = .map l ∧ w.heap[r]? = some (.map es clock) ∧ es.size = l.length ∧ (∀ j, j < l.length → (es[j]?).map (·.key) = some (mkV P kt (ck j))) ∧ (∀ j, j < l.length → (es[j]?).map (·.val) = some (mkV P et (ce j))) ∧
      (∀ j, j < l.length → Rep P A (Xof X0 (lookO g.ob) ph) w kt (ck j) (l.getD j (.und, .und)).1) ∧ (∀ j, j < l.length → Rep P A (Xof X0 (lookO g.ob) ph) w et (ce j) (l.getD j (.und, .und)).2) ∧ (∀ x ∈ es.toList, x.born < clock) ∧ (es.toList.map (·.born)).Nodup := by
    generalize (ph m).L = L at hown
    generalize (ph m).cs = cs at hown
    generalize ob.d = d at hown
    cases hown with
    | mp hk' hr hl h1 h2 h3 h4 h5 h6 =>
      rw [hk'] at hkm
      injection hkm with e1 e2
      subst e1 e2
      exact ⟨_, _, _, _, _, _, rfl, rfl, rfl, hr, hl, h1, h2, h3, h4, h5, h6⟩
  obtain ⟨r, clock, es, l, ck, ce, hLm, hcm, hdm, hr, hl, h1, h2, h3, h4, h5, h6⟩ := hrows
  have hdl : ob.d.es = l := by rw [hdm]; rfl
  rw [hdl] at h
  have hvx' : a.eval x = .map (some r) := by rw [hvx, hcm, mkV_one (by rw [hkm]; rfl)]
  have hrF : r ∈ (ph m).F := by simp [Ph.F, Ph.S, hLm, Lt.blocks]
  have hrlt : r < w.heap.size := hO.lt r hrF
  have hkv : ∀ v : Value, mkV P kt [v] = v := fun v => mkV_one (by
    unfold keyT at hkey
    split at hkey <;> first | (rename_i hh; rw [hh]; rfl) | cases hkey)
  obtain ⟨csk, hRk, hvk⟩ := hrk
  have hRk' : ∀ (X' : Nat → Prop) (w' : World), Rep P A X' w' kt csk kd := fun X' w' => by
    unfold keyT at hkey
    cases hRk with
    | int hh => exact .int hh
    | bool hh => exact .bool hh
    | str hh => exact .str hh
    | _ => simp_all
  have hone : Value → Prop := fun v => v = v
  -- the value, in the world behind
  have hRv : ∀ X' : Nat → Prop, (∀ b, b < w.heap.size → X' b → Xof X0 (lookO g.ob) ph b) → (∀ b ∈ L.blocks, ¬ X' b) → Rep P A X' w et cs vd := fun X' hX' hB => by
    cases sv with
    | some s => exact (hT : Own P A _ w L s et cs vd).plain hX' 8 (.inr (hpl s rfl)) hB
    | none => obtain ⟨_, rfl, rfl, e, he⟩ := hT; exact .slcN he
  -- what stands behind, for new entries
  have fin : ∀ (es' : Array MapEntry) (clock' : Nat) (ck' ce' : Nat → List Value) (l' : List (D × D)), l' = mapPut l kd vd → es'.size = l'.length →
      (∀ j, j < l'.length → (es'[j]?).map (·.key) = some (mkV P kt (ck' j))) → (∀ j, j < l'.length → (es'[j]?).map (·.val) = some (mkV P et (ce' j))) →
      (∀ (X' : Nat → Prop) (w' : World), (∀ {t cs d}, Rep P A (Xof X0 (lookO g.ob) ph) w t cs d → Rep P A X' w' t cs d) → Rep P A X' w' et cs vd → (∀ j, j < l'.length → Rep P A X' w' kt (ck' j) (l'.getD j (.und, .und)).1) ∧ ∀ j, j < l'.length → Rep P A X' w' et (ce' j) (l'.getD j (.und, .und)).2) →
      (∀ x ∈ es'.toList, x.born < clock') → (es'.toList.map (·.born)).Nodup → (Instr.mapUpdate t (.map (some r)) (a.eval y) (a.eval z)).run P w = .ok () { w with heap := w.heap.setIfInBounds r (.map es' clock') } →
      Does P o a w (Out P A X0 Y0 w0 g a K) := by
    intro es' clock' ck' ce' l' hl' g1 g2 g3 g4 g5 g6 hrun
    rw [← hl'] at h
    let w' : World := { w with heap := w.heap.setIfInBounds r (.map es' clock') }
    obtain ⟨hw'r, hw'o⟩ := heap_set (o' := .map es' clock') hr
    have hsz : w'.heap.size = w.heap.size := by simp [w']
    let os1 : Objs := (m, some { ob with d := .map l' }) :: os
    have hobm : upO os1 (lookO g.ob) m = some { ob with d := .map l' } := by simp only [os1]; rw [upO_new, if_pos rfl]
    have hobn : ∀ c, c ≠ m → ate os c → upO os1 (lookO g.ob) c = none := fun c hc ha => by
      simp only [os1]
      rw [upO_new, if_neg hc, upO, ha]
      rfl
    have hobs : ∀ c, c ≠ m → ¬ ate os c → upO os1 (lookO g.ob) c = lookO g.ob c := fun c hc ha => by
      simp only [os1]
      rw [upO_new, if_neg hc, upO]
      rcases hos' c with h | h
      · rw [h]; rfl
      · exact absurd h ha
    have hate : ∀ c, ate os c → c ≠ m := fun c hc e => by subst e; rw [ate, hfk] at hc; cases hc
    have hDs : ∀ c z, (c = m ∨ ate os c) → upO os1 (lookO g.ob) c = some z → c = m := fun c z hd hz => by
      rcases hd with h | h
      · exact h
      · rw [hobn c (hate c h) h] at hz; cases hz
    have hkeep : Keeps (fun b => ∃ c, (c = m ∨ ate os c) ∧ ∃ y, lookO g.ob c = some y ∧ b ∈ (ph c).F) w w' := ⟨rfl, rfl, rfl, Nat.le_of_eq hsz.symm, fun b _ hn => hw'o b fun e => hn ⟨m, .inl rfl, ob, hob, by rw [e]; exact hrF⟩⟩
    have hXr : Xof X0 (lookO g.ob) ph r := .inr ⟨m, ob, hob, hrF⟩
    refine Does.skip (w' := w') (by simp only [execOp, ho, hvx', Sem.run_bind, hrun, Result.andThen_ok, Sem.run_pure]; rfl) ⟨_, h, RelD.upd (D := fun c => c = m ∨ ate os c) (ph' := ph) R hkeep (fun c hc => ⟨hobs c (fun e => hc (.inl e)) fun e => hc (.inr e), rfl⟩) (fun c z hd hz b hb => ?_) (fun c z c' z' hd hd' hz hz' hcc => absurd ((hDs c z hd hz).trans (hDs c' z' hd' hz').symm) hcc) (fun hX c z hd hz => ?_) (fun hX s => ?_) fun hX => rfl⟩
    · have := hDs c z hd hz
      subst this
      exact .inr ⟨c, ob, .inl rfl, hob, hb⟩
    · have := hDs c z hd hz
      subst this
      have hz' : upO os1 (lookO g.ob) c = some z := hz
      rw [hobm] at hz'
      injection hz' with hz'
      subst hz'
      have hfr : ∀ {t cs d}, Rep P A (Xof X0 (lookO g.ob) ph) w t cs d → Rep P A (Xof X0 (upO os1 (lookO g.ob)) ph) w' t cs d := fun hR => hR.frame (Nat.le_of_eq hsz.symm) hX fun b _ hn => hw'o b fun e => by subst e; exact hn hXr
      have hnotL : ∀ b ∈ L.blocks, ¬ Xof X0 (upO os1 (lookO g.ob)) ph b := by
        rintro b hb (hx | ⟨c2, z2, hz2, hm2⟩)
        · obtain ⟨c2, y2, _, hy2, hm2⟩ := hLF b hb
          exact R.objs.free c2 y2 hy2 b hm2 hx
        · obtain ⟨c3, y3, ha3, hy3, hm3⟩ := hLF b hb
          by_cases hc2 : c2 = c
          · subst hc2
            exact R.objs.apart c3 y3 c2 ob hy3 hob (hate c3 ha3) b hm3 hm2
          · by_cases ha2 : ate os c2
            · rw [hobn c2 hc2 ha2] at hz2; cases hz2
            · rw [hobs c2 hc2 ha2] at hz2
              exact R.objs.apart c2 z2 c3 y3 hz2 hy3 (fun e => ha2 (e ▸ ha3)) b hm2 hm3
      have hRv' : Rep P A (Xof X0 (upO os1 (lookO g.ob)) ph) w' et cs vd := by
        have hXu : ∀ b, b < w.heap.size → (Xof X0 (upO os1 (lookO g.ob)) ph b ∨ b = r) → Xof X0 (lookO g.ob) ph b := by
          rintro b hb (h | rfl)
          · exact hX b hb h
          · exact hXr
        refine (hRv (fun b => Xof X0 (upO os1 (lookO g.ob)) ph b ∨ b = r) hXu fun b hb => ?_).frame (Nat.le_of_eq hsz.symm) (fun b _ hx => .inl hx) fun b _ hn => hw'o b fun e => hn (.inr e)
        rintro (hx | rfl)
        · exact hnotL b hb hx
        · exact hnotL b hb (.inr ⟨c, _, hobm, hrF⟩)
      obtain ⟨g7, g8⟩ := g4 _ w' hfr hRv'
      refine ⟨?_, (fun hb => ?_), hO.hdr, hO.nodup, fun b hb => by rw [hsz]; exact hO.lt b hb⟩
      · show Own P A _ w' (ph c).L ob.sh ob.t (ph c).cs _
        have key : ∀ s, s = Sh.mp → Own P A (Xof X0 (upO os1 (lookO g.ob)) ph) w' (.mp r) s ob.t [.map (some r)] (.map l') := fun s e => by
          subst e
          exact .mp hkm hw'r g1 g2 g3 g7 g8 g5 g6
        rw [hLm, hcm]
        exact key _ hsh
      · obtain ⟨b, E, c0, b1, b2, b3⟩ := hO.box hb
        have hbr : b ≠ r := fun e => by subst e; rw [hr] at b2; cases b2
        exact ⟨b, E, c0, b1, (hw'o b hbr).trans b2, b3⟩
    · refine AVR.stays (Nat.le_of_eq hsz.symm) hX (fun b _ hn => hw'o b fun e => by subst e; exact hn hXr) (by simp [KM.isApp]) (fun c z hz => ?_) (fun c z z' hz hz' _ _ _ b hb hh => ⟨hX b hb hh.1, hh.2⟩) (R.slots s)
      by_cases hc : c = m
      · subst hc
        have hz' : upO os1 (lookO g.ob) c = some z := hz
        rw [hobm] at hz'
        injection hz' with hz'
        subst hz'
        exact .pth [.fld c] (by simp) hob hz rfl (fun e => by rw [hsh] at e; cases e) (fun e => by simp only at e; rw [hsh] at e; cases e) (fun _ => by simp [under, beq_iff]) rfl (fun _ => ⟨by simp, rfl⟩) (fun _ _ => rfl) (fun _ _ => rfl) (fun hn => absurd (by simp) hn)
      · have hz' : upO os1 (lookO g.ob) c = some z := hz
        by_cases ha : ate os c
        · rw [hobn c hc ha] at hz'; cases hz'
        · rw [hobs c hc ha] at hz'
          refine .same (hobs c hc ha) rfl fun b hb => hw'o b fun e => ?_
          subst e
          exact R.objs.apart c z m ob hz' hob hc b hb hrF
  have hes : es.toList.length = l.length := by simpa using hl
  have hks : ∀ j z', es.toList[j]? = some z' → IsKey kdesc z'.key ∧ (D.same 8 (l.getD j (.und, .und)).1 kd = true ↔ z'.key = a.eval y) := fun j z' hz' => by
    have hj : j < l.length := by rw [← hes]; exact (List.getElem?_eq_some_iff.1 hz').1
    have e1 := h1 j hj
    rw [Array.getElem?_toList] at hz'
    rw [hz'] at e1
    simp only [Option.map_some, Option.some.injEq] at e1
    have hrj : RepV P A (Xof X0 (lookO g.ob) ph) w kt z'.key (l.getD j (.und, .und)).1 := ⟨_, h3 j hj, e1⟩
    obtain ⟨d2, hd2, hi2, _⟩ := key_is hkey hrj
    rw [hkd] at hd2
    injection hd2 with hd2
    subst hd2
    exact ⟨hi2, same_key hkey hrj ⟨csk, hRk, hvk⟩⟩
  have hfr0 : ∀ {α : Type} (f : MapEntry → α) (e' : Array MapEntry) (j : Nat), (e'[j]?).map f = (e'.toList[j]?).map f := fun f e' j => by rw [Array.getElem?_toList]
  rcases find_spec (vd := vd) hik es.toList l 0 hes hks with ⟨hf, hp⟩ | ⟨j, z', hf, hz', hkz, hp⟩
  · refine fin (es.push { key := a.eval y, val := a.eval z, born := clock }) (clock + 1) (fun j => if j = l.length then csk else ck j) (fun j => if j = l.length then cs else ce j) (l ++ [(kd, vd)]) hp.symm (by simp [hl]) (fun j hj => ?_) (fun j hj => ?_) (fun X' w' hfr hRv' => ⟨fun j hj => ?_, fun j hj => ?_⟩) (fun x hx => ?_) ?_ ?_
    · rw [List.length_append, List.length_singleton] at hj
      by_cases e : j = l.length
      · subst e
        simp [← hl, hvk]
      · rw [if_neg e, Array.getElem?_push, if_neg (by omega)]
        exact h1 j (by omega)
    · rw [List.length_append, List.length_singleton] at hj
      by_cases e : j = l.length
      · subst e
        simp [← hl, hvz]
      · rw [if_neg e, Array.getElem?_push, if_neg (by omega)]
        exact h2 j (by omega)
    · rw [List.length_append, List.length_singleton] at hj
      by_cases e : j = l.length
      · subst e
        rw [if_pos rfl, List.getD_eq_getElem?_getD, List.getElem?_append_right (Nat.le_refl _)]
        simpa using hRk' X' w'
      · rw [if_neg e, List.getD_eq_getElem?_getD, List.getElem?_append_left (by omega), ← List.getD_eq_getElem?_getD]
        exact hfr (h3 j (by omega))
    · rw [List.length_append, List.length_singleton] at hj
      by_cases e : j = l.length
      · subst e
        rw [if_pos rfl, List.getD_eq_getElem?_getD, List.getElem?_append_right (Nat.le_refl _)]
        simpa using hRv'
      · rw [if_neg e, List.getD_eq_getElem?_getD, List.getElem?_append_left (by omega), ← List.getD_eq_getElem?_getD]
        exact hfr (h4 j (by omega))
    · simp only [Array.toList_push, List.mem_append, List.mem_singleton] at hx
      rcases hx with hx | rfl
      · have := h5 x hx; omega
      · exact Nat.lt_succ_self _
    · simp only [Array.toList_push, List.map_append, List.map_cons, List.map_nil, List.nodup_append]
      refine ⟨h6, by simp, fun b hb c hc e => ?_⟩
      simp only [List.mem_singleton] at hc
      obtain ⟨x, hx, rfl⟩ := List.mem_map.1 hb
      have := h5 x hx
      omega
    · simp [Instr.mapUpdate, run_underlying (und_map hk), run_getMap hr, run_checkKey hkd hik, run_findKey hkd hf, run_setMap hr]
  · have hjl : j < l.length := by rw [← hes]; exact (List.getElem?_eq_some_iff.1 hz').1
    rw [Nat.zero_add] at hf
    have hzj : es[j]? = some z' := by rw [← Array.getElem?_toList]; exact hz'
    have hmod : ∀ i, (es.modify j fun e => { e with key := a.eval y, val := a.eval z })[i]? = if j = i then (es[i]?).map (fun e => { e with key := a.eval y, val := a.eval z }) else es[i]? := fun i => by rw [Array.getElem?_modify]
    have hborn : (es.modify j fun e => { e with key := a.eval y, val := a.eval z }).toList.map (·.born) = es.toList.map (·.born) := by
      apply List.ext_getElem?
      intro i
      simp only [List.getElem?_map, Array.getElem?_toList, hmod]
      split
      · rename_i e; subst e; rw [hzj]; rfl
      · rfl
    refine fin (es.modify j fun e => { e with key := a.eval y, val := a.eval z }) clock (fun i => if i = j then csk else ck i) (fun i => if i = j then cs else ce i) (l.set j (kd, vd)) hp.symm (by simp [hl]) (fun i hi => ?_) (fun i hi => ?_) (fun X' w' hfr hRv' => ⟨fun i hi => ?_, fun i hi => ?_⟩) (fun x hx => ?_) (by rw [hborn]; exact h6) ?_
    · rw [List.length_set] at hi
      rw [hmod]
      by_cases e : i = j
      · subst e
        rw [if_pos rfl, if_pos rfl, hzj]
        simp [hvk]
      · rw [if_neg (fun h => e h.symm), if_neg e]
        exact h1 i hi
    · rw [List.length_set] at hi
      rw [hmod]
      by_cases e : i = j
      · subst e
        rw [if_pos rfl, if_pos rfl, hzj]
        simp [hvz]
      · rw [if_neg (fun h => e h.symm), if_neg e]
        exact h2 i hi
    · rw [List.length_set] at hi
      rw [getD_set_eq hjl]
      by_cases e : i = j
      · rw [if_pos e, if_pos e]; exact hRk' X' w'
      · rw [if_neg e, if_neg e]; exact hfr (h3 i hi)
    · rw [List.length_set] at hi
      rw [getD_set_eq hjl]
      by_cases e : i = j
      · rw [if_pos e, if_pos e]; exact hRv'
      · rw [if_neg e, if_neg e]; exact hfr (h4 i hi)
    · have : x.born ∈ (es.modify j fun e => { e with key := a.eval y, val := a.eval z }).toList.map (·.born) := List.mem_map_of_mem hx
      rw [hborn] at this
      obtain ⟨x2, hx2, e⟩ := List.mem_map.1 this
      rw [← e]
      exact h5 x2 hx2
    · have hst : (Instr.keyThatStays (((es[j]?).map (·.key)).getD (a.eval y)) (a.eval y)).run P w = .ok (a.eval y) w := by
        rw [hzj]
        simp only [Option.map_some, Option.getD_some, hkz]
        unfold Instr.keyThatStays
        rw [if_pos hsb]
        rfl
      simp only [Instr.mapUpdate, Sem.run_bind, run_underlying (und_map hk), Result.andThen_ok, run_getMap hr, run_checkKey hkd hik, run_findKey hkd hf, hst, run_setMap hr]

theorem find_get {d : TypeDesc} {k : Value} {kd : D} (hk : IsKey d k) : ∀ (l : List MapEntry) (ds : List (D × D)) (i : Nat), l.length = ds.length →
    (∀ j z, l[j]? = some z → IsKey d z.key ∧ (D.same 8 (ds.getD j (.und, .und)).1 kd = true ↔ z.key = k)) →
    (Instr.findNow d k l i = some none ∧ mapGet ds kd = none) ∨ ∃ j z, Instr.findNow d k l i = some (some (i + j, z.val)) ∧ l[j]? = some z ∧ mapGet ds kd = some (ds.getD j (.und, .und)).2
  | [], [], i, _, _ => .inl ⟨rfl, rfl⟩
  | [], x :: ds, i, h, _ => by simp at h
  | z :: l, [], i, h, _ => by simp at h
  | z :: l, (a, b) :: ds, i, h, hl => by
    obtain ⟨h1, h2⟩ := hl 0 z rfl
    obtain ⟨r, hr, hiff⟩ := sameNow_of_keys hk h1
    have ha : ((a, b) :: ds).getD 0 (D.und, D.und) = (a, b) := rfl
    rw [ha] at h2
    cases r with
    | true =>
      have e : z.key = k := (hiff.1 rfl).symm
      refine .inr ⟨0, z, by simp [Instr.findNow, hr], rfl, ?_⟩
      simp only [mapGet, h2.2 e, cond_true]
      rfl
    | false =>
      have hne : z.key ≠ k := fun q => by have := hiff.2 q.symm; cases this
      have hs : D.same 8 a kd = false := by
        cases e : D.same 8 a kd
        · rfl
        · exact absurd (h2.1 e) hne
      rcases find_get hk l ds (i + 1) (by simpa using h) (fun j y hy => hl (j + 1) y hy) with ⟨g1, g2⟩ | ⟨j, y, g1, g2, g3⟩
      · exact .inl ⟨by simp [Instr.findNow, hr, g1], by simp only [mapGet, hs, cond_false, g2]⟩
      · refine .inr ⟨j + 1, y, ?_, g2, by simp only [mapGet, hs, cond_false, g3]; rfl⟩
        simp [Instr.findNow, hr, g1]
        omega

/-- A LOOK into a map. -/
theorem step_lookup {t : Nat} {x y : Operand} (W : WF P) (ho : o.op = .lookup t x y false) (R : RelA P A X0 Y0 w0 g ph a w) (h : lookupD P (lookO g.ob) t (g.av x) (g.av y) (onV K)) : Does P o a w (Out P A X0 Y0 w0 g a K) := by
  unfold lookupD at h
  split at h <;> try contradiction
  rename_i kt et hk
  obtain ⟨hg, h⟩ := of_cond h
  simp only [Bool.and_eq_true] at hg
  obtain ⟨hkey, hgood⟩ := hg
  split at h <;> try contradiction
  rename_i m u kd hav hdk
  obtain ⟨htu, h⟩ := of_cond h
  split at h <;> try contradiction
  rename_i ob hob
  split at h <;> try contradiction
  rename_i hsh
  have hx := AVR.eval R x
  rw [hav] at hx
  have hO := R.objs.ok m ob hob
  obtain ⟨_, htk, hvx⟩ := val_root hO hob hx
  have hkm : tk P ob.t = .map kt et := htk.trans ((sameK_eq htu).symm.trans hk)
  obtain ⟨X1, _, hrk⟩ := slot_rep W R hdk
  obtain ⟨kdesc, hkd, hik, hsb, _⟩ := key_is hkey hrk
  have hown := hO.own
  rw [hsh] at hown
  have hrows : ∃ (r clock : Nat) (es : Array MapEntry) (l : List (D × D)) (ck ce : Nat → List Value), (ph m).cs = [.map (some r)] ∧ ob.d = .map l ∧ w.heap[r]? = some (.map es clock) ∧ es.size = l.length ∧ (∀ j, j < l.length → (es[j]?).map (·.key) = some (mkV P kt (ck j))) ∧ (∀ j, j < l.length → (es[j]?).map (·.val) = some (mkV P et (ce j))) ∧
      (∀ j, j < l.length → Rep P A (Xof X0 (lookO g.ob) ph) w kt (ck j) (l.getD j (.und, .und)).1) ∧ (∀ j, j < l.length → Rep P A (Xof X0 (lookO g.ob) ph) w et (ce j) (l.getD j (.und, .und)).2) := by
    generalize (ph m).L = L at hown
    generalize (ph m).cs = cs at hown
    generalize ob.d = d at hown
    cases hown with
    | mp hk' hr hl h1 h2 h3 h4 h5 h6 =>
      rw [hk'] at hkm
      injection hkm with e1 e2
      subst e1 e2
      exact ⟨_, _, _, _, _, _, rfl, rfl, hr, hl, h1, h2, h3, h4⟩
  obtain ⟨r, clock, es, l, ck, ce, hcm, hdm, hr, hl, h1, h2, h3, h4⟩ := hrows
  have hdl : ob.d.es = l := by rw [hdm]; rfl
  rw [hdl] at h
  have hvx' : a.eval x = .map (some r) := by rw [hvx, hcm, mkV_one (by rw [hkm]; rfl)]
  have hes : es.toList.length = l.length := by simpa using hl
  have hks : ∀ j z', es.toList[j]? = some z' → IsKey kdesc z'.key ∧ (D.same 8 (l.getD j (.und, .und)).1 kd = true ↔ z'.key = a.eval y) := fun j z' hz' => by
    have hj : j < l.length := by rw [← hes]; exact (List.getElem?_eq_some_iff.1 hz').1
    have e1 := h1 j hj
    rw [Array.getElem?_toList] at hz'
    rw [hz'] at e1
    simp only [Option.map_some, Option.some.injEq] at e1
    have hrj : RepV P A (Xof X0 (lookO g.ob) ph) w kt z'.key (l.getD j (.und, .und)).1 := ⟨_, h3 j hj, e1⟩
    obtain ⟨d2, hd2, hi2, _⟩ := key_is hkey hrj
    rw [hkd] at hd2
    injection hd2 with hd2
    subst hd2
    exact ⟨hi2, same_key hkey hrj hrk⟩
  rcases find_get hik es.toList l 0 hes hks with ⟨hf, hp⟩ | ⟨j, z', hf, hz', hp⟩
  · obtain ⟨i, zs, z1, z2, z3⟩ := W.zero et hgood
    have hzr := zero_rep (A := A) (X := Xof X0 (lookO g.ob) ph) (w := w) 8 et zs z3
    rw [hp] at h
    refine Does.value (v := mkV P et zs) (w' := w) ?_ (Out.pure R h ⟨zs, hzr, rfl⟩)
    have hz := run_zeroValue (w := w) z1 z2
    simp [execOp, ho, hvx', Instr.lookup, run_underlying (und_map hk), run_getMap hr, run_checkKey hkd hik, run_findKey hkd hf, hz]
  · have hj : j < l.length := by rw [← hes]; exact (List.getElem?_eq_some_iff.1 hz').1
    rw [hp] at h
    rw [Array.getElem?_toList] at hz'
    have e2 := h2 j hj
    rw [hz'] at e2
    simp only [Option.map_some, Option.some.injEq] at e2
    refine Does.value (v := z'.val) (w' := w) ?_ (Out.pure R h ⟨ce j, h4 j hj, e2⟩)
    simp [execOp, ho, hvx', Instr.lookup, run_underlying (und_map hk), run_getMap hr, run_checkKey hkd hik, run_findKey hkd hf]

end
end Go.Ab

/- Commands: what is owned is seen otherwise. -/
namespace Go.Ab
variable {P : Program} {A : Ann}

section
variable {X0 Y0 : Nat → Prop} {w0 : World} {g g' : St} {ph : Nat → Ph} {a : Act} {w w' : World}

theorem look_cons (i : Nat) (v : AV) (sl : Env) (k : Nat) : look ((i, v) :: sl) k = if i = k then v else look sl k := by
  simp only [look, cond_eq, beq_iff]
theorem lookO_cons (i : Nat) (v : Option Obj) (sl : Objs) (k : Nat) : lookO ((i, v) :: sl) k = if i = k then v else lookO sl k := by
  simp only [lookO, cond_eq, beq_iff]

theorem RelD.app_none {δ : Dl} {v : Value} (h : RelD P A X0 Y0 w0 (look g.sl) (lookO g.ob) a.tmps δ v w') : ∃ ph', RelA P A X0 Y0 w0 (g.app none δ) ph' a w' := by
  obtain ⟨ph', h1, h2, _, h4⟩ := h
  have e1 : lookO (g.app none δ).ob = upO δ.os (lookO g.ob) := funext fun k => lookO_append δ.os g.ob k
  have e2 : ∀ s, look (g.app none δ).sl s = strike δ.ks (look g.sl s) := fun s => look_strikes δ.ks g.sl s
  refine ⟨ph', ?_, fun s => ?_, h4⟩
  · rw [e1]; exact h1
  · rw [e1, e2]; exact h2 s

theorem RelD.app_some {δ : Dl} {v : Value} {d : Nat} (h : RelD P A X0 Y0 w0 (look g.sl) (lookO g.ob) a.tmps δ v w') {a' : Act} (hd : a'.tmps.getD d undef = v) (ho : ∀ s, s ≠ d → a'.tmps.getD s undef = a.tmps.getD s undef) : ∃ ph', RelA P A X0 Y0 w0 (g.app (some d) δ) ph' a' w' := by
  obtain ⟨ph', h1, h2, h3, h4⟩ := h
  have e1 : lookO (g.app (some d) δ).ob = upO δ.os (lookO g.ob) := funext fun k => lookO_append δ.os g.ob k
  refine ⟨ph', ?_, fun s => ?_, h4⟩
  · rw [e1]; exact h1
  · rw [e1]
    show AVR P A _ w' _ ph' (look ((d, δ.v) :: strikes δ.ks g.sl) s) _
    rw [look_cons]
    by_cases e : d = s
    · subst e; rw [if_pos rfl, hd]; exact h3
    · rw [if_neg e, look_strikes, ho s (fun h => e h.symm)]; exact h2 s

theorem put_same {a : Act} {d : Nat} {v : Value} (h : d < a.tmps.size) : (a.put (some d) v).tmps.getD d undef = v := by
  simp [Act.put, h]
theorem put_other {a : Act} {d s : Nat} {v : Value} (h : s ≠ d) : (a.put (some d) v).tmps.getD s undef = a.tmps.getD s undef := by
  simp [Act.put, Array.getD_eq_getD_getElem?, Array.getElem?_setIfInBounds, Ne.symm h]

theorem RelD.app {δ : Dl} {v : Value} {dst : Option Nat} (h : RelD P A X0 Y0 w0 (look g.sl) (lookO g.ob) a.tmps δ v w') (hd : ∀ d, dst = some d → d < a.tmps.size) : ∃ ph', RelA P A X0 Y0 w0 (g.app dst δ) ph' (a.put dst v) w' := by
  cases dst with
  | none => exact h.app_none
  | some d => exact h.app_some (put_same (hd d rfl)) fun s hs => put_other hs

/-- Weaker ownership. -/
theorem weakAt_rel (R : RelA P A X0 Y0 w0 g ph a w) {k : Nat} {sh : Sh} (h : g.weakAt k sh = some g') : ∃ ph', RelA P A X0 Y0 w0 g' ph' a w := by
  unfold St.weakAt at h
  split at h <;> try contradiction
  rename_i ob hob
  rw [cond_eq] at h
  split at h <;> try contradiction
  rename_i hw
  simp only [Option.some.injEq] at h
  subst h
  have hO := R.objs.ok k ob hob
  have hnL : (ph k).L.blocks.Nodup := by
    have := hO.nodup
    simp only [Ph.F, Ph.S, List.nodup_append] at this
    exact this.2.1.1
  obtain ⟨L', hL⟩ := hO.own.weakN 8 sh hw hnL
  let p' : Ph := ⟨(ph k).cs, (ph k).rb, L', (ph k).G⟩
  have hk' : upPh ph k p' k = p' := by simp [upPh]
  have hobk : upO [(k, some { ob with sh })] (lookO g.ob) k = some { ob with sh } := by rw [upO_new, if_pos rfl]
  have hobo : ∀ c, c ≠ k → upO [(k, some { ob with sh })] (lookO g.ob) c = lookO g.ob c := fun c hc => by rw [upO_new, if_neg hc]; rfl
  have hF : ∀ b ∈ p'.F, b ∈ (ph k).F := fun b hb => by
    simp only [p', Ph.F, Ph.S, List.mem_append] at hb ⊢
    rcases hb with h | h | h
    · exact .inl h
    · exact .inr (.inl (hL.sub b h))
    · exact .inr (.inr h)
  have hni : ob.sh ≠ .it ∧ sh ≠ .it := by
    constructor
    · intro e
      have h2 : ob.sh.weak sh = true := hw
      rw [e] at h2
      cases sh <;> simp [Sh.weak, Sh.weakN, Sh.plain] at h2
    · intro e
      have h2 : ob.sh.weak sh = true := hw
      rw [e] at h2
      cases h3 : ob.sh <;> rw [h3] at h2 <;> simp [Sh.weak, Sh.weakN] at h2
  have hdrop : ∀ b ∈ (ph k).L.blocks, b ∉ L'.blocks → ¬ Xof X0 (upO [(k, some { ob with sh })] (lookO g.ob)) (upPh ph k p') b := by
    have hn := hO.nodup
    simp only [Ph.F, Ph.S, List.nodup_append] at hn
    rintro b hb hnb (hx | ⟨c, z, hz, hm⟩)
    · exact R.objs.free k ob hob b (by simp [Ph.F, Ph.S, hb]) hx
    · by_cases hc : c = k
      · subst hc
        rw [hk'] at hm
        simp only [p', Ph.F, Ph.S, List.mem_append] at hm
        rcases hm with h | h | h
        · exact hn.2.2 b h b (by simp [hb]) rfl
        · exact hnb h
        · exact hn.2.1.2.2 b hb b h rfl
      · rw [hobo c hc] at hz
        simp only [upPh, if_neg hc] at hm
        exact R.objs.apart c z k ob hz hob hc b hm (by simp [Ph.F, Ph.S, hb])
  refine RelD.app_none (v := undef) (RelD.upd (D := fun c => c = k) (ph' := upPh ph k p') R ((Keeps.refl (fun _ => False) w).mono fun _ h => h.elim) (fun c hc => ⟨hobo c hc, by simp only [upPh, if_neg hc]⟩) (fun c z hd hz b hb => ?_) (fun c z c' z' hd hd' _ _ hcc => absurd (hd.trans hd'.symm) hcc) (fun hX c z hd hz => ?_) (fun hX s => ?_) fun hX => rfl)
  · subst hd
    rw [hk'] at hb
    exact .inr ⟨c, ob, rfl, hob, hF b hb⟩
  · subst hd
    have hz' := hz
    rw [hobk] at hz'
    injection hz' with hz'
    subst hz'
    rw [hk']
    refine ⟨hL.own _ hX hdrop, hO.box, hO.hdr, ?_, fun b hb => hO.lt b (hF b hb)⟩
    have := hO.nodup
    simp only [Ph.F, Ph.S, List.nodup_append] at this
    simp only [p', Ph.F, Ph.S, List.nodup_append]
    refine ⟨this.1, ⟨hL.nodup, this.2.1.2.1, fun x hx y hy => this.2.1.2.2 x (hL.sub x hx) y hy⟩, fun x hx y hy => this.2.2 x hx y ?_⟩
    simp only [List.mem_append] at hy ⊢
    rcases hy with h | h
    · exact .inl (hL.sub y h)
    · exact .inr h
  · refine AVR.stays (Nat.le_refl _) hX (fun _ _ _ => rfl) (by simp [KM.isApp]) (fun c z hz => ?_) (fun c z z' hz hz' _ _ _ b hb hh => ⟨hX b hb hh.1, fun hm => ?_⟩) (R.slots s)
    · by_cases hc : c = k
      · subst hc
        have hz' := hz
        rw [hobk] at hz'
        injection hz' with hz'
        subst hz'
        refine .wk ob.box (by simp) hob hz rfl hni.1 hni.2 (by rw [hk']) (fun hb => ⟨hO.hdr hb, by rw [hk'], fun v hv => ?_⟩) (fun _ _ => rfl)
        obtain ⟨e1, e2⟩ := hO.own.header hv
        rw [e1, mkV_one e2]
      · exact .same (hobo c hc) (by simp only [upPh, if_neg hc]) fun _ _ => rfl
    · by_cases hc : c = k
      · subst hc
        have h1 := hh.2
        rw [hk'] at h1
        simp only [p', Ph.S, List.mem_append, not_or] at h1
        simp only [Ph.S, List.mem_append] at hm
        rcases hm with hm | hm
        · exact hdrop b hm h1.1 hh.1
        · exact h1.2 hm
      · have h1 := hh.2
        simp only [upPh, if_neg hc] at h1
        exact h1 hm

theorem frzAt_rel (R : RelA P A X0 Y0 w0 g ph a w) {k : Nat} {p : Pth} (h : g.frzAt k p = some g') : ∃ ph', RelA P A X0 Y0 w0 g' ph' a w := by
  unfold St.frzAt at h
  split at h <;> try contradiction
  split at h <;> try contradiction
  exact weakAt_rel R h

theorem RelA.slot (R : RelA P A X0 Y0 w0 g ph a w) {s : Nat} {av : AV} (h : AVR P A (Xof X0 (lookO g.ob) ph) w (lookO g.ob) ph av (a.tmps.getD s undef)) : RelA P A X0 Y0 w0 { g with sl := (s, av) :: g.sl } ph a w :=
  ⟨R.objs, fun k => by
    show AVR P A _ w _ ph (look ((s, av) :: g.sl) k) _
    rw [look_cons]
    by_cases e : s = k
    · subst e; rw [if_pos rfl]; exact h
    · rw [if_neg e]; exact R.slots k, R.keeps⟩

theorem immAt_rel (W : WF P) (R : RelA P A X0 Y0 w0 g ph a w) {s : Nat} (h : g.immAt s = some g') : ∃ ph', RelA P A X0 Y0 w0 g' ph' a w := by
  have hs := R.slots s
  unfold St.immAt at h
  split at h <;> try contradiction
  · rename_i k p t hl
    split at h <;> try contradiction
    rename_i ob hob
    split at h <;> try contradiction
    rename_i hg
    simp only [Option.some.injEq] at h
    subst h
    rw [hl] at hs
    exact ⟨ph, R.slot (val_imm W (R.objs.ok k ob hob) hob hs hg)⟩
  · rename_i t hl
    simp only [Option.some.injEq] at h
    subst h
    rw [hl] at hs
    obtain ⟨hv, e, he⟩ := hs
    exact ⟨ph, R.slot ⟨[.slice none 0 0], .slcN he, hv.trans (mkV_one (by rw [he]; rfl)).symm⟩⟩
  · simp only [Option.some.injEq] at h
    subst h
    exact ⟨ph, R⟩

/-- References that fall, fall. -/
theorem AVR.fallen {X : Nat → Prop} {ob : Nat → Option Obj} {a : AV} {v : Value} (o : Nat) (h : AVR P A X w ob ph a v) : AVR P A X w ob ph (strike [(o, .all)] a) v :=
  AVR.stays (Nat.le_refl _) (fun _ _ h => h) (fun _ _ _ => rfl) (by simp [KM.isApp]) (fun c z hz => .same rfl rfl fun _ _ => rfl) (fun c z z' _ _ _ _ _ b _ hh => hh) h

theorem RelA.fallen (R : RelA P A X0 Y0 w0 g ph a w) (o : Nat) : RelA P A X0 Y0 w0 { g with sl := strikes [(o, .all)] g.sl } ph a w :=
  ⟨R.objs, fun k => by
    show AVR P A _ w _ ph (look (strikes [(o, .all)] g.sl) k) _
    rw [look_strikes]
    exact (R.slots k).fallen o, R.keeps⟩

theorem strikes_strikes (k : Nat × KM) (ks : List (Nat × KM)) (hks : ks ≠ []) (sl : Env) : strikes ks (strikes [k] sl) = strikes (k :: ks) sl := by
  cases ks with
  | nil => exact absurd rfl hks
  | cons x ks => simp only [strikes, List.map_map, strike]; rfl

theorem of_condU {α : Type _} {b : Bool} {x y : α} (h : cond b (some x) none = some y) : b = true ∧ x = y := by
  cases b
  · cases h
  · exact ⟨rfl, by simpa using h⟩

theorem unbox_rel (W : WF P) (R : RelA P A X0 Y0 w0 g ph a w) {s k u : Nat} {ob : Obj} (hl : look g.sl s = .ptr k [] u) (hob : lookO g.ob k = some ob) (hbx : ob.box = true) {l : List (Nat × Sh)} (hsh : ob.sh = .agg l) (hku : sameK P ob.t u = true) :
    ∃ ph', RelA P A X0 Y0 w0 (g.app (some s) { v := .vptr k [] u, os := [(k, some { ob with box := false })], ks := [(k, .all)] }) ph' a w := by
  have hs := R.slots s
  rw [hl] at hs
  have hO := R.objs.ok k ob hob
  obtain ⟨b, off, u', e1, e2, _, _⟩ := hs ob hob
  obtain ⟨b1, E, cc, hrb, hblk, hcc⟩ := hO.box hbx
  have hloc : b1 = b ∧ 0 = off := by
    simp only [Lt.loc, Ph.root, hrb, Option.map_some, Option.some.injEq, Prod.mk.injEq] at e2
    exact e2
  obtain ⟨rfl, rfl⟩ := hloc
  let p' : Ph := ⟨(ph k).cs, none, (ph k).L, (ph k).G⟩
  have hk' : upPh ph k p' k = p' := by simp [upPh]
  have hobk : upO [(k, some { ob with box := false })] (lookO g.ob) k = some { ob with box := false } := by rw [upO_new, if_pos rfl]
  have hobo : ∀ c, c ≠ k → upO [(k, some { ob with box := false })] (lookO g.ob) c = lookO g.ob c := fun c hc => by rw [upO_new, if_neg hc]; rfl
  have hF : ∀ b ∈ p'.F, b ∈ (ph k).F := fun b hb => by
    simp only [p', Ph.F, Option.toList, List.nil_append] at hb
    simp only [Ph.F, List.mem_append]
    exact .inr hb
  have hnod : b1 ∉ (ph k).S := by
    have := hO.nodup
    simp only [Ph.F, hrb, Option.toList, List.singleton_append, List.nodup_cons] at this
    exact this.1
  have hbF : b1 ∈ (ph k).F := by simp [Ph.F, hrb]
  refine RelD.app_some (v := a.tmps.getD s undef) (a' := a) (RelD.upd (D := fun c => c = k) (ph' := upPh ph k p') R ((Keeps.refl (fun _ => False) w).mono fun _ h => h.elim) (fun c hc => ⟨hobo c hc, by simp only [upPh, if_neg hc]⟩) (fun c z hd hz b hb => ?_) (fun c z c' z' hd hd' _ _ hcc => absurd (hd.trans hd'.symm) hcc) (fun hX c z hd hz => ?_) (fun hX s => ?_) fun hX => ?_) rfl fun _ _ => rfl
  · subst hd
    rw [hk'] at hb
    exact .inr ⟨c, ob, rfl, hob, hF b hb⟩
  · subst hd
    have hz' := hz
    rw [hobk] at hz'
    injection hz' with hz'
    subst hz'
    rw [hk']
    refine ⟨hO.own.frame (Nat.le_refl _) hX (fun _ _ _ => rfl) (fun _ _ => rfl), (fun h => by cases h), fun _ => rfl, ?_, fun b hb => hO.lt b (hF b hb)⟩
    have := hO.nodup
    simp only [Ph.F, List.nodup_append] at this
    simp only [p', Ph.F, Option.toList, List.nil_append]
    exact this.2.1
  · refine AVR.stays (Nat.le_refl _) hX (fun _ _ _ => rfl) (by simp [KM.isApp]) (fun c z hz => ?_) (fun c z z' hz hz' hna _ _ b hb hh => ⟨hX b hb hh.1, fun hm => ?_⟩) (R.slots s)
    · by_cases hc : c = k
      · subst hc
        exact .all (by simp)
      · exact .same (hobo c hc) (by simp only [upPh, if_neg hc]) fun _ _ => rfl
    · by_cases hc : c = k
      · subst hc
        exact hna (by simp)
      · have h1 := hh.2
        simp only [upPh, if_neg hc] at h1
        exact h1 hm
  · have hkk := sameK_eq hku
    have hne : tk P ob.t ≠ .other := by
      have hown := hO.own
      rw [hsh] at hown
      generalize ob.d = dd at hown
      generalize (ph k).L = L at hown
      generalize (ph k).cs = cc at hown
      cases hown with
      | agg h => rw [h]; simp
    refine ⟨b1, 0, (ph k).cs, e1, fun hx => ?_, hO.lt b1 hbF, fun i hi => ?_, by rw [hO.own.length W]; exact W.kind _ _ hkk hne, fun y hy => ?_⟩
    · rcases hx with h | ⟨c, z, hz, hm⟩
      · exact R.objs.free k ob hob b1 hbF h
      · by_cases hc : c = k
        · subst hc
          rw [hk'] at hm
          simp only [p', Ph.F, Option.toList, List.nil_append] at hm
          exact hnod hm
        · rw [hobo c hc] at hz
          simp only [upPh, if_neg hc] at hm
          exact R.objs.apart c z k ob hz hob hc b1 hm hbF
    · rw [Nat.zero_add, cell_of_block hblk, ← hcc, Array.getElem?_toList]
    · rw [hobk] at hy
      injection hy with hy
      subst hy
      rw [hk']
      refine ⟨fun e => ?_, fun _ => ⟨ob.t, rfl, hkk, .inr ⟨rfl, rfl, (mkV_kind hkk).symm⟩⟩⟩
      have : ob.sh = .it := e
      rw [hsh] at this
      cases this

theorem run1_rel (W : WF P) (R : RelA P A X0 Y0 w0 g ph a w) {c : Cmd} (h : g.run1 P c = some g') : ∃ ph', RelA P A X0 Y0 w0 g' ph' a w := by
  cases c with
  | weak o sh => exact weakAt_rel R h
  | frz o p => exact frzAt_rel R h
  | thaw s sh =>
    have hs := R.slots s
    simp only [St.run1] at h
    split at h <;> try contradiction
    · rename_i t hl
      split at h <;> try contradiction
      simp only [Option.some.injEq] at h
      subst h
      rw [hl] at hs
      obtain ⟨hv, e, he⟩ := hs
      have hval : mkV P t [.slice none 0 0] = a.tmps.getD s undef := by rw [hv]; exact mkV_one (by rw [he]; rfl)
      have := newVal (dst := s) (t := t) (cs := [.slice none 0 0]) (L := .nil) (s := .slc sh none) (d := .slc []) (os := []) R (Keeps.refl _ w) (fun X' _ _ => Own.nil he) (by simp) (by simp [Lt.blocks]) (by simp [Lt.blocks]) (fun _ => .inl rfl) (by simp [Lt.blocks])
      exact RelD.app_some this hval.symm fun _ _ => rfl
    · simp only [Option.some.injEq] at h
      subst h
      exact ⟨ph, R⟩
  | imm s => exact immAt_rel W R h
  | freeze s =>
    simp only [St.run1] at h
    split at h
    · split at h <;> try contradiction
      rename_i g1 hg1
      obtain ⟨ph1, R1⟩ := frzAt_rel R hg1
      exact immAt_rel W R1 h
    · exact immAt_rel W R h
  | home s =>
    have hs := R.slots s
    simp only [St.run1] at h
    split at h <;> try contradiction
    · rename_i o t hl
      rw [hl] at hs
      rw [cond_eq] at h
      split at h
      · simp only [Option.some.injEq] at h; subst h; exact ⟨ph, R⟩
      · split at h <;> try contradiction
        rename_i ob hob
        simp only [Option.some.injEq] at h
        subst h
        have h1 := RelD.rename (dst := s) (k := o) (x := ob) (v := a.tmps.getD s undef) (av := .val s [] t) (R.fallen o) hob fun X ob' p hd hp => val_moves hs hob hd hp
        obtain ⟨ph', h2⟩ := RelD.app_some (a' := a) h1 rfl fun _ _ => rfl
        refine ⟨ph', ?_⟩
        have e : strikes [(s, .all)] (strikes [(o, .all)] g.sl) = strikes [(o, .all), (s, .all)] g.sl := strikes_strikes _ _ (by simp) _
        have : ({ g with sl := strikes [(o, .all)] g.sl } : St).app (some s) (newO (lookO g.ob) s (.val s [] t) ob [(o, none)]) = g.app (some s) { v := .val s [] t, os := [(s, some ob), (o, none)], ks := (o, .all) :: overs [(s, some ob)] } := by
          simp only [St.app, newO, e, overs, List.map_cons, List.map_nil]
        rw [← this]
        exact h2
    · rename_i o t hl
      rw [hl] at hs
      rw [cond_eq] at h
      split at h
      · simp only [Option.some.injEq] at h; subst h; exact ⟨ph, R⟩
      · split at h <;> try contradiction
        rename_i ob hob
        simp only [Option.some.injEq] at h
        subst h
        have h1 := RelD.rename (dst := s) (k := o) (x := ob) (v := a.tmps.getD s undef) (av := .ptr s [] t) (R.fallen o) hob fun X ob' p hd hp => ptr_moves (X := Xof X0 (lookO g.ob) ph) hs hob hd hp
        obtain ⟨ph', h2⟩ := RelD.app_some (a' := a) h1 rfl fun _ _ => rfl
        refine ⟨ph', ?_⟩
        have e : strikes [(s, .all)] (strikes [(o, .all)] g.sl) = strikes [(o, .all), (s, .all)] g.sl := strikes_strikes _ _ (by simp) _
        have : ({ g with sl := strikes [(o, .all)] g.sl } : St).app (some s) (newO (lookO g.ob) s (.ptr s [] t) ob [(o, none)]) = g.app (some s) { v := .ptr s [] t, os := [(s, some ob), (o, none)], ks := (o, .all) :: overs [(s, some ob)] } := by
          simp only [St.app, newO, e, overs, List.map_cons, List.map_nil]
        rw [← this]
        exact h2
  | unbox s =>
    simp only [St.run1] at h
    split at h <;> try contradiction
    · rename_i o t hl
      split at h <;> try contradiction
      rename_i ob hob
      obtain ⟨hg, h⟩ := of_condU h
      subst h
      simp only [Bool.and_eq_true] at hg
      obtain ⟨h1, h2⟩ := hg
      split at h2 <;> try contradiction
      rename_i l hsh
      exact unbox_rel W R hl hob h1 hsh h2
    · simp only [Option.some.injEq] at h; subst h; exact ⟨ph, R⟩

theorem run_rel (W : WF P) {K : St → Prop} : ∀ (l : List Cmd) (g : St) (ph : Nat → Ph), RelA P A X0 Y0 w0 g ph a w → g.run P l K → ∃ g' ph', RelA P A X0 Y0 w0 g' ph' a w ∧ K g'
  | [], g, ph, R, h => ⟨g, ph, R, h⟩
  | c :: l, g, ph, R, h => by
    simp only [St.run] at h
    split at h <;> try contradiction
    rename_i g1 hg1
    obtain ⟨ph1, R1⟩ := run1_rel W R hg1
    exact run_rel W l g1 ph1 R1 h

/-- What is kept over a round. -/
theorem keep_rel (R : RelA P A X0 Y0 w0 g ph a w) (l : List Nat × List Nat) : RelA P A X0 Y0 w0 (g.keep l) ph a w := by
  have hlo : ∀ k z, lookO (g.keep l).ob k = some z → lookO g.ob k = some z := by
    intro k z
    simp only [St.keep]
    induction l.2 with
    | nil => intro h; cases h
    | cons i l ih =>
      rw [List.map_cons, lookO_cons]
      by_cases e : i = k
      · subst e; rw [if_pos rfl]; exact id
      · rw [if_neg e]; exact ih
  have hls : ∀ k, look (g.keep l).sl k = .dead ∨ look (g.keep l).sl k = look g.sl k := by
    intro k
    simp only [St.keep]
    induction l.1 with
    | nil => exact .inl rfl
    | cons i l ih =>
      rw [List.map_cons, look_cons]
      by_cases e : i = k
      · subst e; rw [if_pos rfl]; exact .inr rfl
      · rw [if_neg e]; exact ih
  have hX : ∀ b, Xof X0 (lookO (g.keep l).ob) ph b → Xof X0 (lookO g.ob) ph b := by
    rintro b (h | ⟨c, z, hz, hm⟩)
    · exact .inl h
    · exact .inr ⟨c, z, hlo c z hz, hm⟩
  refine ⟨⟨fun k z hz => ?_, fun k z k' z' hz hz' => R.objs.apart k z k' z' (hlo _ _ hz) (hlo _ _ hz'), fun k z hz => R.objs.free k z (hlo _ _ hz), fun k z hz => R.objs.ours k z (hlo _ _ hz), R.objs.old⟩, fun s => ?_, R.keeps⟩
  · exact (R.objs.ok k z (hlo k z hz)).frame (Nat.le_refl _) (fun b _ h => hX b h) (fun _ _ _ => rfl) fun _ _ => rfl
  · rcases hls s with e | e
    · rw [e]; trivial
    · rw [e]
      exact AVR.stays (ks := []) (Nat.le_refl _) (fun b _ h => hX b h) (fun _ _ _ => rfl) (by simp) (fun c z hz => .same (hz.trans (hlo c z hz).symm) rfl fun _ _ => rfl) (fun c z z' _ _ _ _ _ b _ hh => ⟨hX b hh.1, hh.2⟩) (R.slots s)

/-- A guard's slot, once it is known. -/
theorem know_rel (R : RelA P A X0 Y0 w0 g ph a w) {s t : Nat} {d : D} (hl : look g.sl s = .imm t d) (hB : tk P t = .bool) : (∃ b, a.tmps.getD s undef = .bool b ∧ d.b = b ∧ RelA P A X0 Y0 w0 (g.know s b) ph a w) := by
  have hs := R.slots s
  rw [hl] at hs
  obtain ⟨cs, hr, hv⟩ := hs
  cases hr with
  | bool h =>
    rename_i b
    rw [mkV_one (by rw [h]; rfl)] at hv
    refine ⟨b, hv, rfl, ?_⟩
    have e : g.know s b = { g with sl := (s, .imm t (.bool b)) :: g.sl } := by simp only [St.know, hl]
    rw [e]
    exact R.slot ⟨[.bool b], .bool h, hv.trans (mkV_one (by rw [h]; rfl)).symm⟩
  | _ => simp_all

end
end Go.Ab

/- What a call gives back. -/
namespace Go.Ab
variable {P : Program} {A : Ann}

theorem of_condO {α : Type _} {b : Bool} {x y : α} (h : cond b (some x) none = some y) : b = true ∧ x = y := by
  cases b
  · cases h
  · injection h with h; exact ⟨rfl, h⟩

instance : Inhabited Ph := ⟨⟨[], none, .leaf, []⟩⟩
/-- The object of a result. -/
def resOb (x : RK) (d : D) : Option Obj := match x with
  | .val _ .imm => none
  | .val t sh => some ⟨false, t, sh, d⟩
  | .box e sh => some ⟨true, e, sh, d⟩
def lentL : Nat → List PK → List (Nat × Nat × Sh × Bool)
  | _, [] => []
  | k, .lent e sh bx :: l => (k, e, sh, bx) :: lentL (k + 1) l
  | k, _ :: l => lentL (k + 1) l
/-- Objects of results, then of what was lent. -/
def retOb (rs : List RK) (ps : List PK) (r : List D) (k : Nat) : Option Obj :=
  match rs[k]? with
  | some x => resOb x (r.getD k .und)
  | none => ((lentL 0 ps)[k - rs.length]?).map fun y => ⟨y.2.2.2, y.2.1, y.2.2.1, r.getD k .und⟩

def ResRep (P : Program) (A : Ann) (X : Nat → Prop) (w : World) (x : RK) (v : Value) (d : D) (p : Ph) : Prop := match x with
  | .val t .imm => RepV P A X w t v d
  | .val t _ => v = mkV P t p.cs
  | .box _ _ => ∃ b, v = .pointer (some ⟨b, 0, none⟩) ∧ p.rb = some b

structure Ret (P : Program) (A : Ann) (X0 Y0 : Nat → Prop) (w w' : World) (s : Sig) (phL : Nat → Ph) (v : Value) (r : List D) (phR : Nat → Ph) (vs : Array Value) : Prop where
  objs : Objs' P A X0 Y0 w.heap.size (retOb s.rs s.ps r) phR w'
  keeps : Keeps Y0 w w'
  size : vs.size = s.rs.length
  val : v = if h : vs.size = 1 then vs[0] else .tuple vs
  res : ∀ k x, s.rs[k]? = some x → ResRep P A (Xof X0 (retOb s.rs s.ps r) phR) w' x (vs.getD k undef) (r.getD k .und) (phR k)
  lent : ∀ j y, (lentL 0 s.ps)[j]? = some y → (phR (s.rs.length + j)).rb = (phL y.1).rb ∧ (y.2.2.2 = false → mkV P y.2.1 (phR (s.rs.length + j)).cs = mkV P y.2.1 (phL y.1).cs)

theorem lentL_ids : ∀ (k : Nat) (ps : List PK), (lentL k ps).map (·.1) = lentIds k ps
  | _, [] => rfl
  | k, .lent e sh bx :: l => by simp only [lentL, lentIds, List.map_cons, lentL_ids (k + 1) l]
  | k, .imm t :: l => lentL_ids (k + 1) l
  | k, .iptr t :: l => lentL_ids (k + 1) l

section
variable {X0 Y0 : Nat → Prop} {w0 : World} {g : St} {ph : Nat → Ph} {a : Act} {w : World}

/-- One result. -/
def OneRes (P : Program) (A : Ann) (X : Nat → Prop) (ob : Nat → Option Obj) (ph : Nat → Ph) (w : World) (x : RK) (v : Value) (d : D) (p : Ph) (ids : List Nat) : Prop :=
  (∀ o ∈ ids, ∃ y, ob o = some y) ∧ (∀ b ∈ p.F, ∃ o ∈ ids, b ∈ (ph o).F) ∧ (resOb x d = none → p.F = []) ∧
  ∀ X' : Nat → Prop, (∀ b, b < w.heap.size → X' b → X b) → (∀ o ∈ ids, ∀ b ∈ (ph o).F, b ∉ p.F → ¬ X' b) → ResRep P A X' w x v d p ∧ ∀ y, resOb x d = some y → OkObj P A X' w y p

theorem resOb_val {t : Nat} {sh : Sh} {d : D} (h : sh ≠ .imm) : resOb (.val t sh) d = some ⟨false, t, sh, d⟩ := by
  cases sh <;> first | exact absurd rfl h | rfl
theorem resRep_val {X : Nat → Prop} {t : Nat} {sh : Sh} {v : Value} {d : D} {p : Ph} (h : sh ≠ .imm) : ResRep P A X w (.val t sh) v d p = (v = mkV P t p.cs) := by
  cases sh <;> first | exact absurd rfl h | rfl

/-- What is owned is given back in another shape. -/
theorem oneRes_val {X : Nat → Prop} {ob : Nat → Option Obj} {t : Nat} {s sh : Sh} {v : Value} {d : D} {L : Lt} {cs : List Value} {ids : List Nat} (hv : v = mkV P t cs) (hO : Own P A X w L s t cs d) (hn : L.blocks.Nodup) (hw : s.weak sh = true) (hlt : ∀ b ∈ L.blocks, b < w.heap.size)
    (h1 : ∀ o ∈ ids, ∃ y, ob o = some y) (h2 : ∀ b ∈ L.blocks, ∃ o ∈ ids, b ∈ (ph o).F) : ∃ p, OneRes P A X ob ph w (.val t sh) v d p ids := by
  obtain ⟨L', hL⟩ := hO.weakN 8 sh hw hn
  by_cases hi : sh = .imm
  · subst hi
    refine ⟨⟨[], none, .leaf, []⟩, h1, by simp [Ph.F, Ph.S, Lt.blocks, Option.toList], fun _ => by simp [Ph.F, Ph.S, Lt.blocks, Option.toList], fun X' hX' hB => ⟨?_, fun y hy => by simp [resOb] at hy⟩⟩
    have hl : L' = .leaf := ((hL.own (fun _ => False) (fun _ _ h => h.elim) fun _ _ _ h => h).leaf_of_imm).1
    have := hL.own X' hX' fun b hb _ => by
      obtain ⟨o, ho, hm⟩ := h2 b hb
      exact hB o ho b hm (by simp [Ph.F, Ph.S, Lt.blocks, Option.toList])
    exact ⟨cs, this.leaf_of_imm.2, hv⟩
  · have hF : (⟨cs, none, L', []⟩ : Ph).F = L'.blocks := by simp [Ph.F, Ph.S, Option.toList]
    refine ⟨⟨cs, none, L', []⟩, h1, (fun b hb => h2 b (hL.sub b (by rw [hF] at hb; exact hb))), (fun e => by rw [resOb_val hi] at e; cases e), fun X' hX' hB => ⟨(by rw [resRep_val hi]; exact hv), fun y hy => ?_⟩⟩
    rw [resOb_val hi] at hy
    injection hy with hy
    subst hy
    refine ⟨hL.own X' hX' fun b hb hnb => ?_, (fun hb => by cases hb), fun _ => rfl, by rw [hF]; exact hL.nodup, fun b hb => hlt b (hL.sub b (by rw [hF] at hb; exact hb))⟩
    obtain ⟨o, ho, hm⟩ := h2 b hb
    exact hB o ho b hm (by rw [hF]; exact hnb)

/-- The values of results, as the machine takes them. -/
def resVal (tmps : Array Value) : ResultVar → Sem Value
  | .tmp t => pure (tmps.getD t undef)
  | .cell a t => do loadVar t (← asAddr (tmps.getD a undef))

theorem outR_spec (W : WF P) (R : RelA P A X0 Y0 w0 g ph a w) : ∀ (l : List ResultVar) (m : List RK) (ds : List D) (ids : List Nat), outR P g l m = some (ds, ids) → nodupB ids = true →
    ∃ (vs : List Value) (idl : List (List Nat)) (pl : List Ph), vs.length = m.length ∧ ds.length = m.length ∧ l.length = m.length ∧ idl.length = m.length ∧ ids = idl.flatten ∧ (∀ k x r, m[k]? = some x → l[k]? = some r → (resVal a.tmps r).run P w = .ok (vs.getD k undef) w) ∧
      ∀ k x, m[k]? = some x → OneRes P A (Xof X0 (lookO g.ob) ph) (lookO g.ob) ph w x (vs.getD k undef) (ds.getD k .und) (pl.getD k default) (idl.getD k [])
  | [], [], ds, ids, h, _ => by
    simp only [outR, Option.some.injEq, Prod.mk.injEq] at h
    obtain ⟨rfl, rfl⟩ := h
    exact ⟨[], [], [], rfl, rfl, rfl, rfl, rfl, by simp, by simp⟩
  | [], x :: m, ds, ids, h, _ => by cases x <;> simp [outR] at h
  | r :: l, [], ds, ids, h, _ => by cases r <;> simp [outR] at h
  | r :: l, x :: m, ds, ids, h, hn => by
    have fin : ∀ (d : D) (ds2 : List D) (id1 ids2 : List Nat) (v : Value), outR P g l m = some (ds2, ids2) → ds = d :: ds2 → ids = id1 ++ ids2 → (resVal a.tmps r).run P w = .ok v w → (∃ p, OneRes P A (Xof X0 (lookO g.ob) ph) (lookO g.ob) ph w x v d p id1) →
        ∃ (vs : List Value) (idl : List (List Nat)) (pl : List Ph), vs.length = (x :: m).length ∧ ds.length = (x :: m).length ∧ (r :: l).length = (x :: m).length ∧ idl.length = (x :: m).length ∧ ids = idl.flatten ∧ (∀ k x' r', (x :: m)[k]? = some x' → (r :: l)[k]? = some r' → (resVal a.tmps r').run P w = .ok (vs.getD k undef) w) ∧
          ∀ k x', (x :: m)[k]? = some x' → OneRes P A (Xof X0 (lookO g.ob) ph) (lookO g.ob) ph w x' (vs.getD k undef) (ds.getD k .und) (pl.getD k default) (idl.getD k []) := by
      rintro d ds2 id1 ids2 v h2 rfl rfl hv ⟨p, hp⟩
      obtain ⟨vs, idl, pl, e1, e2, e3, e4, e5, e6, e7⟩ := outR_spec W R l m ds2 ids2 h2 (nodupB_append hn).2.1
      refine ⟨v :: vs, id1 :: idl, p :: pl, by simp [e1], by simp [e2], by simp [e3], by simp [e4], by simp [e5], fun k x' r' hk hr => ?_, fun k x' hk => ?_⟩
      · cases k with
        | zero => simp only [List.getElem?_cons_zero, Option.some.injEq] at hr; subst hr; exact hv
        | succ k => exact e6 k x' r' hk hr
      · cases k with
        | zero => simp only [List.getElem?_cons_zero, Option.some.injEq] at hk; subst hk; exact hp
        | succ k => exact e7 k x' hk
    cases r with
    | tmp t =>
      cases x with
      | val u sh =>
        simp only [outR] at h
        split at h <;> try contradiction
        rename_i sv d os r2 ids2 htk hrec
        obtain ⟨hw, h⟩ := of_condO h
        simp only [Prod.mk.injEq] at h
        have hfl : (look g.sl t).flatA = true := by
          cases hz : look g.sl t <;> first | rfl | (rw [hz] at htk; simp [takeV] at htk)
        obtain ⟨cs, L, hv, hT, hnL, hng, hos⟩ := takeV_spec W R.objs ((R.slots t).one hfl) htk
        refine fin d r2 (os.map (·.1)) ids2 (a.tmps.getD t undef) hrec h.1.symm h.2.symm rfl ?_
        have h1 : ∀ o ∈ os.map (·.1), ∃ y, lookO g.ob o = some y := fun o ho => by
          rcases hos with ⟨rfl, _⟩ | ⟨q, y, rfl, hy, _⟩
          · simp at ho
          · simp at ho; subst ho; exact ⟨y, hy⟩
        have h2 : ∀ b ∈ L.blocks, ∃ o ∈ os.map (·.1), b ∈ (ph o).F := fun b hb => by
          rcases hos with ⟨_, e⟩ | ⟨q, y, rfl, hy, _, hm⟩
          · rw [e] at hb; cases hb
          · exact ⟨q, by simp, hm b hb⟩
        have hlt : ∀ b ∈ L.blocks, b < w.heap.size := fun b hb => by
          obtain ⟨o, ho, hm⟩ := h2 b hb
          obtain ⟨y, hy⟩ := h1 o ho
          exact (R.objs.ok o y hy).lt b hm
        cases sv with
        | some s => exact oneRes_val hv hT hnL hw hlt h1 h2
        | none =>
          obtain ⟨rfl, rfl, rfl, e, he⟩ := hT
          cases sh with
          | imm => exact oneRes_val (s := .imm) (L := .leaf) hv (.imm (.slcN he)) (by simp [Lt.blocks]) (by simp [Sh.weak, Sh.weakN, Sh.plain]) (by simp [Lt.blocks]) h1 (by simp [Lt.blocks])
          | slc u2 ex =>
            cases ex with
            | some _ => simp at hw
            | none =>
              refine ⟨⟨[.slice none 0 0], none, .nil, []⟩, h1, by simp [Ph.F, Ph.S, Lt.blocks, Option.toList], fun e => by simp [resOb] at e, fun X' _ _ => ⟨hv, fun y hy => ?_⟩⟩
              simp only [resOb, Option.some.injEq] at hy
              subst hy
              exact ⟨.nil he, (fun hb => by cases hb), fun _ => rfl, by simp [Ph.F, Ph.S, Lt.blocks, Option.toList], by simp [Ph.F, Ph.S, Lt.blocks, Option.toList]⟩
          | _ => simp at hw
      | box e sh =>
        simp only [outR] at h
        split at h <;> try contradiction
        rename_i o u r2 ids2 hl hrec
        rw [cond_eq] at h
        split at h <;> try contradiction
        rename_i hk
        split at h <;> try contradiction
        rename_i ob hob
        obtain ⟨hb, h⟩ := of_condO h
        simp only [Bool.and_eq_true] at hb
        simp only [Prod.mk.injEq] at h
        have hs := R.slots t
        rw [hl] at hs
        obtain ⟨b, off, u', hv, hloc, hty, hkk⟩ := hs ob hob
        have hO := R.objs.ok o ob hob
        simp only [Lt.loc, tyAt, Option.some.injEq] at hloc hty
        subst hty
        refine fin ob.d r2 [o] ids2 (a.tmps.getD t undef) hrec h.1.symm h.2.symm rfl ⟨ph o, by simp [hob], fun b hb => ⟨o, by simp, hb⟩, fun e => by simp [resOb] at e, fun X' hX' hB => ?_⟩
        have hrb : (ph o).rb = some b ∧ off = 0 := by
          unfold Ph.root at hloc
          cases hr : (ph o).rb with
          | none => rw [hr] at hloc; cases hloc
          | some b2 =>
            rw [hr] at hloc
            simp only [Option.map_some, Option.some.injEq, Prod.mk.injEq] at hloc
            exact ⟨by rw [hloc.1], hloc.2.symm⟩
        refine ⟨⟨b, by rw [hv, hrb.2], hrb.1⟩, fun y hy => ?_⟩
        simp only [resOb, Option.some.injEq] at hy
        subst hy
        have hke : ob.t = e := beq_iff.1 hb.1
        have hse : ob.sh = sh := Sh.eq_of_beq hb.2.2
        have h3 := hO.frame (X' := X') (Nat.le_refl _) hX' (fun _ _ _ => rfl) fun _ _ => rfl
        exact ⟨by rw [← hke, ← hse]; exact h3.own, fun _ => h3.box hb.2.1, (fun h => by cases h), h3.nodup, h3.lt⟩
    | cell ca u =>
      cases x with
      | val v sh =>
        simp only [outR] at h
        split at h <;> try contradiction
        rename_i o w2 r2 ids2 hl hrec
        rw [cond_eq] at h
        split at h <;> try contradiction
        rename_i hk
        split at h <;> try contradiction
        rename_i ob hob
        obtain ⟨hb, h⟩ := of_condO h
        simp only [Bool.and_eq_true] at hb hk
        simp only [Prod.mk.injEq] at h
        have hs := R.slots ca
        rw [hl] at hs
        obtain ⟨b, off, u', hv, hloc, hty, hkk⟩ := hs ob hob
        have hO := R.objs.ok o ob hob
        simp only [Lt.loc, tyAt, Option.some.injEq] at hloc hty
        subst hty
        have hrow := hO.rows b off hloc
        have hku : tk P ob.t = tk P u := (hkk.trans (sameK_eq hk.2)).trans (sameK_eq hk.1).symm
        have hkv : tk P ob.t = tk P v := hkk.trans (sameK_eq hk.2)
        have hng : ob.sh ≠ .gone := fun e => by
          have := hb.1
          rw [e] at this
          simp [Sh.isGone] at this
        have hto := hO.own.tk_ne hng
        have hrun : (resVal a.tmps (.cell ca u)).run P w = .ok (mkV P v (ph o).cs) w := by
          have := run_loadVarRow (P := P) (t := u) (w := w) W (hku ▸ hto) hrow.1 (by rw [hO.own.length W]; exact W.kind _ _ hku hto)
          simp only [resVal, hv, asAddr, Sem.run_bind, Sem.run_pure, Result.andThen_ok, this]
          rw [mkV_kind (hku.symm.trans hkv)]
        have hnL : (ph o).L.blocks.Nodup := by
          have := hO.nodup
          simp only [Ph.F, Ph.S, List.nodup_append] at this
          exact this.2.1.1
        refine fin ob.d r2 (cond ob.sh.isImm [] [o]) ids2 _ hrec h.1.symm h.2.symm hrun (oneRes_val rfl (hO.own.kind W hkv hng) hnL hb.2 (fun b hb => hO.lt b (by simp [Ph.F, Ph.S, hb])) (fun q hq => ?_) fun b hb => ?_)
        · rw [cond_eq] at hq
          split at hq
          · cases hq
          · simp at hq; subst hq; exact ⟨ob, hob⟩
        · rw [cond_eq]
          split
          · rename_i hi
            have := hO.own
            rw [isImm_iff.1 hi] at this
            rw [this.leaf_of_imm.1] at hb
            simp [Lt.blocks] at hb
          · exact ⟨o, by simp, by simp [Ph.F, Ph.S, hb]⟩
      | box e sh => simp [outR] at h

end
end Go.Ab

/- The end of a call. -/
namespace Go.Ab
variable {P : Program} {A : Ann}

theorem run_mapML {α : Type} {w : World} (f : α → Sem Value) : ∀ (l : List α) (vs : List Value), l.length = vs.length → (∀ k r, l[k]? = some r → (f r).run P w = .ok (vs.getD k undef) w) → (l.mapM f).run P w = .ok vs w
  | [], [], _, _ => by simp
  | [], v :: vs, h, _ => by simp at h
  | r :: l, [], h, _ => by simp at h
  | r :: l, v :: vs, h, hr => by
    have h0 := hr 0 r rfl
    have ih := run_mapML f l vs (by simpa using h) fun k r hk => hr (k + 1) r hk
    simp only [List.getD_cons_zero] at h0
    simp only [List.mapM_cons, Sem.run_bind, h0, Result.andThen_ok, ih, Sem.run_pure]

theorem run_results {fn : Func} {tmps : Array Value} {w : World} {vs : List Value} (hl : fn.results.toList.length = vs.length) (h : ∀ k r, fn.results.toList[k]? = some r → (resVal tmps r).run P w = .ok (vs.getD k undef) w) :
    (results fn tmps).run P w = .ok (if h : vs.toArray.size = 1 then vs.toArray[0] else .tuple vs.toArray) w := by
  have h1 := run_mapML (P := P) (resVal tmps) fn.results.toList vs hl h
  have h2 : (fn.results.mapM (resVal tmps)).run P w = .ok vs.toArray w := by
    rw [Array.mapM_eq_mapM_toList]
    simp only [map_eq_pure_bind, Sem.run_bind, h1, Result.andThen_ok, Sem.run_pure]
  have h3 : results fn tmps = (do
      let vs ← fn.results.mapM (resVal tmps)
      pure (if h : vs.size = 1 then vs[0] else .tuple vs)) := by
    unfold results
    congr 2
  rw [h3]
  simp only [Sem.run_bind, h2, Result.andThen_ok, Sem.run_pure]

theorem noIt_ne {s : Sh} (h : s.noIt = true) : s ≠ .it := fun e => by subst e; cases h

theorem outL_spec {g : St} : ∀ (k : Nat) (ps : List PK) (l : List D), outL g k ps = some l → l.length = (lentL k ps).length ∧ ∀ j y, (lentL k ps)[j]? = some y →
    ((y.2.2.2 = true → ∃ u, look g.sl y.1 = .ptr y.1 [] u) ∧ (y.2.2.2 = false → (∃ u, look g.sl y.1 = .val y.1 [] u) ∧ y.2.2.1 ≠ .it)) ∧ lookO g.ob y.1 = some ⟨y.2.2.2, y.2.1, y.2.2.1, l.getD j .und⟩
  | k, [], l, h => by
    simp only [outL, Option.some.injEq] at h
    subst h
    exact ⟨rfl, by simp [lentL]⟩
  | k, .imm t :: ps, l, h => outL_spec (k + 1) ps l h
  | k, .iptr t :: ps, l, h => outL_spec (k + 1) ps l h
  | k, .lent e sh true :: ps, l, h => by
    simp only [outL] at h
    split at h <;> try contradiction
    rename_i o u ob r hl hob hr
    obtain ⟨hb, h⟩ := of_condO h
    subst h
    simp only [Bool.and_eq_true, beq_iff] at hb
    obtain ⟨rfl, ht, hbx, hsh⟩ := hb
    have hse := Sh.eq_of_beq hsh
    obtain ⟨h1, h2⟩ := outL_spec (o + 1) ps r hr
    refine ⟨by simp [lentL, h1], fun j y hy => ?_⟩
    cases j with
    | zero =>
      simp only [lentL, List.getElem?_cons_zero, Option.some.injEq] at hy
      subst hy
      refine ⟨⟨fun _ => ⟨u, hl⟩, fun h => by cases h⟩, ?_⟩
      rw [hob]
      obtain ⟨bx, t, s, d⟩ := ob
      simp only at ht hbx hse
      subst ht hbx hse
      rfl
    | succ j => exact h2 j y hy
  | k, .lent e sh false :: ps, l, h => by
    simp only [outL] at h
    split at h <;> try contradiction
    rename_i o u ob r hl hob hr
    obtain ⟨hb, h⟩ := of_condO h
    subst h
    simp only [Bool.and_eq_true, beq_iff, Bool.not_eq_true'] at hb
    obtain ⟨rfl, ht, hbx, hsh, hno⟩ := hb
    have hse := Sh.eq_of_beq hsh
    obtain ⟨h1, h2⟩ := outL_spec (o + 1) ps r hr
    refine ⟨by simp [lentL, h1], fun j y hy => ?_⟩
    cases j with
    | zero =>
      simp only [lentL, List.getElem?_cons_zero, Option.some.injEq] at hy
      subst hy
      refine ⟨⟨fun h => (by cases h), fun _ => ⟨⟨u, hl⟩, noIt_ne hno⟩⟩, ?_⟩
      rw [hob]
      obtain ⟨bx, t, s, d⟩ := ob
      simp only at ht hbx hse
      subst ht hbx hse
      rfl
    | succ j => exact h2 j y hy

/-- How what is lent is handed over. -/
def LentAt (P : Program) (y : Nat × Nat × Sh × Bool) (v : Value) (p : Ph) : Prop :=
  (y.2.2.2 = true → ∃ b, v = .pointer (some ⟨b, 0, none⟩) ∧ p.rb = some b) ∧ (y.2.2.2 = false → v = mkV P y.2.1 p.cs ∧ p.rb = none)

theorem flat_mem : ∀ {idl : List (List Nat)} {k o : Nat}, o ∈ idl.getD k [] → o ∈ idl.flatten
  | [], k, o, h => by simp at h
  | l :: idl, 0, o, h => by simp only [List.getD_cons_zero] at h; simp [h]
  | l :: idl, k + 1, o, h => by
    have := flat_mem (idl := idl) (k := k) (o := o) (by simpa using h)
    simp only [List.flatten_cons, List.mem_append]
    exact .inr this

theorem nodup_flat : ∀ {idl : List (List Nat)}, nodupB idl.flatten = true → ∀ {k k' o : Nat}, o ∈ idl.getD k [] → o ∈ idl.getD k' [] → k = k'
  | [], _, k, k', o, h, _ => by simp at h
  | l :: idl, hn, k, k', o, h, h' => by
    rw [List.flatten_cons] at hn
    obtain ⟨_, h2, h3⟩ := nodupB_append hn
    cases k with
    | zero =>
      cases k' with
      | zero => rfl
      | succ k' => exact absurd (flat_mem (by simpa using h')) (h3 o (by simpa using h))
    | succ k =>
      cases k' with
      | zero => exact absurd (flat_mem (by simpa using h)) (h3 o (by simpa using h'))
      | succ k' => exact congrArg (· + 1) (nodup_flat (k := k) (k' := k') (o := o) h2 (by simpa using h) (by simpa using h'))

section
variable {X0 Y0 : Nat → Prop} {w0 : World} {g : St} {ph : Nat → Ph} {a : Act} {w : World}

theorem ret_of_end (W : WF P) (R : RelA P A X0 Y0 w0 g ph a w) {fn : Func} {s : Sig} {Q : List D → Prop} {phL : Nat → Ph} (hT : ∀ y ∈ lentL 0 s.ps, LentAt P y (a.tmps.getD y.1 undef) (phL y.1))
    (h : match (generalizing := false) outR P g fn.results.toList s.rs, outL g 0 s.ps with
      | some (r, ids), some l => cond (nodupB (ids ++ lentIds 0 s.ps)) (Q (r ++ l)) False
      | _, _ => False) : ∃ v r phR vs, (results fn a.tmps).run P w = .ok v w ∧ Q r ∧ Ret P A X0 Y0 w0 w s phL v r phR vs := by
  split at h <;> try contradiction
  rename_i r ids l hr hl
  obtain ⟨hn, hQ⟩ := of_cond h
  clear h
  obtain ⟨hn1, hn2, hn3⟩ := nodupB_append hn
  obtain ⟨vs, idl, pl, e1, e2, e3, e4, e5, e6, e7⟩ := outR_spec W R _ _ _ _ hr hn1
  obtain ⟨l1, l2⟩ := outL_spec 0 s.ps l hl
  subst e5
  let nR := s.rs.length
  let Ls := lentL 0 s.ps
  let phR : Nat → Ph := fun k => if k < nR then pl.getD k default else ph (Ls.getD (k - nR) (0, 0, .imm, true)).1
  let U : Nat → List Nat := fun k => if k < nR then idl.getD k [] else (Ls[k - nR]?).toList.map (·.1)
  have hrl : ∀ k, k < nR → (r ++ l).getD k .und = r.getD k .und := fun k hk => by
    simp only [List.getD_eq_getElem?_getD]
    rw [List.getElem?_append_left (by omega)]
  have hrl2 : ∀ j, (r ++ l).getD (nR + j) .und = l.getD j .und := fun j => by
    simp only [List.getD_eq_getElem?_getD]
    rw [List.getElem?_append_right (by omega)]
    congr 2
    omega
  let obR := retOb s.rs s.ps (r ++ l)
  have hob1 : ∀ k x, s.rs[k]? = some x → obR k = resOb x (r.getD k .und) := fun k x hk => by
    have := (List.getElem?_eq_some_iff.1 hk).1
    simp only [obR, retOb, hk]
    rw [hrl k this]
  have hob2 : ∀ k, nR ≤ k → obR k = (Ls[k - nR]?).map fun y => ⟨y.2.2.2, y.2.1, y.2.2.1, l.getD (k - nR) .und⟩ := fun k hk => by
    have h1 : s.rs[k]? = none := List.getElem?_eq_none hk
    have h2 := hrl2 (k - nR)
    rw [show nR + (k - nR) = k by omega] at h2
    simp only [obR, retOb, h1, h2]
    rfl
  have hlent : ∀ k, nR ≤ k → ∀ z, obR k = some z → ∃ y, Ls[k - nR]? = some y ∧ phR k = ph y.1 ∧ U k = [y.1] ∧ lookO g.ob y.1 = some z := fun k hk z hz => by
    rw [hob2 k hk] at hz
    cases hy : Ls[k - nR]? with
    | none => rw [hy] at hz; cases hz
    | some y =>
      rw [hy] at hz
      simp only [Option.map_some, Option.some.injEq] at hz
      refine ⟨y, rfl, ?_, ?_, ?_⟩
      · simp only [phR, if_neg (by omega : ¬ k < nR), List.getD_eq_getElem?_getD, hy, Option.getD_some]
      · simp only [U, if_neg (by omega : ¬ k < nR), hy, Option.toList, List.map_cons, List.map_nil]
      · rw [← hz]
        exact (l2 _ y hy).2
  have hU : ∀ k o, o ∈ U k → ∃ z, lookO g.ob o = some z := fun k o ho => by
    by_cases hk : k < nR
    · simp only [U, if_pos hk] at ho
      have hx : s.rs[k]? = some s.rs[k] := List.getElem?_eq_getElem hk
      exact (e7 k _ hx).1 o ho
    · simp only [U, if_neg hk] at ho
      cases hy : Ls[k - nR]? with
      | none => rw [hy] at ho; simp at ho
      | some y =>
        rw [hy] at ho
        simp only [Option.toList, List.map_cons, List.map_nil, List.mem_singleton] at ho
        subst ho
        exact ⟨_, (l2 _ y hy).2⟩
  have hids : lentIds 0 s.ps = Ls.map (·.1) := (lentL_ids 0 s.ps).symm
  have hUd : ∀ k k' o, o ∈ U k → o ∈ U k' → k = k' := fun k k' o ho ho' => by
    have key : ∀ k k' o, k < nR → ¬ k' < nR → o ∈ U k → o ∈ U k' → False := fun k k' o hk hk' ho ho' => by
      simp only [U, if_pos hk] at ho
      simp only [U, if_neg hk'] at ho'
      refine hn3 o (flat_mem ho) ?_
      rw [hids]
      cases hy : Ls[k' - nR]? with
      | none => rw [hy] at ho'; simp at ho'
      | some y =>
        rw [hy] at ho'
        simp only [Option.toList, List.map_cons, List.map_nil, List.mem_singleton] at ho'
        subst ho'
        exact List.mem_map_of_mem (List.mem_of_getElem? hy)
    by_cases hk : k < nR
    · by_cases hk' : k' < nR
      · simp only [U, if_pos hk] at ho
        simp only [U, if_pos hk'] at ho'
        exact nodup_flat hn1 ho ho'
      · exact (key k k' o hk hk' ho ho').elim
    · by_cases hk' : k' < nR
      · exact (key k' k o hk' hk ho' ho).elim
      · simp only [U, if_neg hk] at ho
        simp only [U, if_neg hk'] at ho'
        cases hy : Ls[k - nR]? with
        | none => rw [hy] at ho; simp at ho
        | some y =>
          cases hy' : Ls[k' - nR]? with
          | none => rw [hy'] at ho'; simp at ho'
          | some y' =>
            rw [hy] at ho
            rw [hy'] at ho'
            simp only [Option.toList, List.map_cons, List.map_nil, List.mem_singleton] at ho ho'
            have hL : (lentIds 0 s.ps)[k - nR]? = some o := by rw [hids, List.getElem?_map, hy, ho]; rfl
            have hL' : (lentIds 0 s.ps)[k' - nR]? = some o := by rw [hids, List.getElem?_map, hy', ho']; rfl
            have hnd : ∀ (m : List Nat), nodupB m = true → ∀ (i j o : Nat), m[i]? = some o → m[j]? = some o → i = j := by
              intro m
              induction m with
              | nil => intro _ i j o h; simp at h
              | cons x m ih =>
                intro hm i j o hi hj
                rw [nodupB_cons] at hm
                cases i with
                | zero =>
                  cases j with
                  | zero => rfl
                  | succ j =>
                    simp only [List.getElem?_cons_zero, Option.some.injEq] at hi
                    subst hi
                    exact absurd (List.mem_of_getElem? (by simpa using hj)) hm.1
                | succ i =>
                  cases j with
                  | zero =>
                    simp only [List.getElem?_cons_zero, Option.some.injEq] at hj
                    subst hj
                    exact absurd (List.mem_of_getElem? (by simpa using hi)) hm.1
                  | succ j => rw [ih hm.2 i j o hi hj]
            have := hnd _ hn2 _ _ o hL hL'
            omega
  have hFU : ∀ k z, obR k = some z → ∀ b ∈ (phR k).F, ∃ o ∈ U k, b ∈ (ph o).F := fun k z hz b hb => by
    by_cases hk : k < nR
    · have hx : s.rs[k]? = some s.rs[k] := List.getElem?_eq_getElem hk
      simp only [phR, if_pos hk] at hb
      simp only [U, if_pos hk]
      exact (e7 k _ hx).2.1 b hb
    · obtain ⟨y, _, h2, h3, _⟩ := hlent k (by omega) z hz
      rw [h2] at hb
      exact ⟨y.1, by rw [h3]; simp, hb⟩
  let Xe := Xof X0 obR phR
  have hXe : ∀ b, Xe b → Xof X0 (lookO g.ob) ph b := by
    rintro b (hx | ⟨k, z, hz, hm⟩)
    · exact .inl hx
    · obtain ⟨o, ho, hm⟩ := hFU k z hz b hm
      obtain ⟨y, hy⟩ := hU k o ho
      exact .inr ⟨o, y, hy, hm⟩
  have hdrop : ∀ k o, o ∈ U k → ∀ b ∈ (ph o).F, b ∉ (phR k).F → ¬ Xe b := by
    rintro k o ho b hb hnb (hx | ⟨k', z, hz, hm⟩)
    · obtain ⟨y, hy⟩ := hU k o ho
      exact R.objs.free o y hy b hb hx
    · obtain ⟨o', ho', hm'⟩ := hFU k' z hz b hm
      by_cases hkk : k' = k
      · subst hkk; exact hnb hm
      · obtain ⟨y, hy⟩ := hU k o ho
        obtain ⟨y', hy'⟩ := hU k' o' ho'
        exact R.objs.apart o y o' y' hy hy' (fun e => hkk (hUd k' k o' ho' (e ▸ ho))) b hb hm'
  refine ⟨_, r ++ l, phR, vs.toArray, run_results (by rw [e3, e1]) (fun k rv hk => ?_), hQ, ⟨⟨fun k z hz => ?_, fun k z k' z' hz hz' hkk b hb hb' => ?_, fun k z hz b hb => ?_, fun k z hz b hb => ?_, R.objs.old⟩, R.keeps, by simp [e1], rfl, fun k x hk => ?_, fun j y hy => ?_⟩⟩
  · have hlt := (List.getElem?_eq_some_iff.1 hk).1
    rw [e3] at hlt
    exact e6 k _ rv (List.getElem?_eq_getElem hlt) hk
  · by_cases hk : k < nR
    · have hx : s.rs[k]? = some s.rs[k] := List.getElem?_eq_getElem hk
      have hz' : obR k = some z := hz
      rw [hob1 k _ hx] at hz'
      have h7 := (e7 k _ hx).2.2.2 Xe (fun b _ h => hXe b h) fun o ho b hb hnb => hdrop k o (by simp only [U, if_pos hk]; exact ho) b hb (by simp only [phR, if_pos hk]; exact hnb)
      have := h7.2 z hz'
      show OkObj P A Xe w z (phR k)
      simp only [phR, if_pos hk]
      exact this
    · obtain ⟨y, _, h2, _, h4⟩ := hlent k (by omega) z hz
      rw [h2]
      exact (R.objs.ok y.1 z h4).frame (Nat.le_refl _) (fun b _ h => hXe b h) (fun _ _ _ => rfl) fun _ _ => rfl
  · obtain ⟨o, ho, hm⟩ := hFU k z hz b hb
    obtain ⟨o', ho', hm'⟩ := hFU k' z' hz' b hb'
    obtain ⟨y, hy⟩ := hU k o ho
    obtain ⟨y', hy'⟩ := hU k' o' ho'
    exact R.objs.apart o y o' y' hy hy' (fun e => hkk (hUd k k' o ho (e ▸ ho'))) b hm hm'
  · obtain ⟨o, ho, hm⟩ := hFU k z hz b hb
    obtain ⟨y, hy⟩ := hU k o ho
    exact R.objs.free o y hy b hm
  · obtain ⟨o, ho, hm⟩ := hFU k z hz b hb
    obtain ⟨y, hy⟩ := hU k o ho
    exact R.objs.ours o y hy b hm
  · have hlt := (List.getElem?_eq_some_iff.1 hk).1
    have h7 := ((e7 k _ hk).2.2.2 Xe (fun b _ h => hXe b h) fun o ho b hb hnb => hdrop k o (by simp only [U, if_pos (show k < nR from hlt)]; exact ho) b hb (by simp only [phR, if_pos (show k < nR from hlt)]; exact hnb)).1
    have e8 : vs.toArray.getD k undef = vs.getD k undef := by simp [Array.getD_eq_getD_getElem?, List.getD_eq_getElem?_getD]
    rw [e8, hrl k hlt]
    show ResRep P A Xe w x _ _ (phR k)
    simp only [phR, if_pos (show k < nR from hlt)]
    exact h7
  · obtain ⟨⟨h1t, h1f⟩, h2⟩ := l2 j y hy
    have hs := R.slots y.1
    have hTy := hT y (List.mem_of_getElem? hy)
    have hp : phR (s.rs.length + j) = ph y.1 := by
      simp only [phR, if_neg (show ¬ s.rs.length + j < nR by simp [nR]), nR, Nat.add_sub_cancel_left, List.getD_eq_getElem?_getD]
      rw [show Ls[j]? = some y from hy]
      rfl
    rw [hp]
    cases hbx : y.2.2.2 with
    | true =>
      refine ⟨?_, fun h => by cases h⟩
      obtain ⟨u, h1⟩ := h1t hbx
      rw [h1] at hs
      obtain ⟨b, off, u', hv, hloc, _, _⟩ := hs _ h2
      obtain ⟨b0, h3, h4⟩ := hTy.1 hbx
      rw [h3] at hv
      injection hv with hv
      injection hv with hv
      injection hv with hv1 hv2
      simp only [Lt.loc] at hloc
      rw [h4, hv1]
      unfold Ph.root at hloc
      cases hr : (ph y.1).rb with
      | none => rw [hr] at hloc; cases hloc
      | some b2 =>
        rw [hr] at hloc
        simp only [Option.map_some, Option.some.injEq, Prod.mk.injEq] at hloc
        rw [hloc.1]
    | false =>
      obtain ⟨⟨u, h1⟩, hno⟩ := h1f hbx
      obtain ⟨h3, h4⟩ := hTy.2 hbx
      have hO := R.objs.ok _ _ h2
      refine ⟨by rw [hO.hdr hbx, h4], fun _ => ?_⟩
      rw [h1] at hs
      obtain ⟨_, hs2⟩ := hs _ h2
      obtain ⟨u', _, _, hs3⟩ := hs2 hno
      rw [← h3]
      rcases hs3 with hs3 | ⟨_, _, hs3⟩
      · obtain ⟨e1, e2⟩ := hO.own.header hs3
        have e1 : (ph y.1).cs = [a.tmps.getD y.1 undef] := e1
        rw [e1, mkV_one e2]
      · exact hs3.symm

end
end Go.Ab
