/- The abstraction layer, part 3: rules that read a program as plain data, and that they are sound. Conditions: those in each theorem. -/
import Derived.Test.YtaeedloefcbjlaaGreatAbsPart2
import Derived.Maps.RangeRun
set_option linter.unusedVariables false
set_option linter.unusedSimpArgs false
/- Append. -/
namespace Go.Ab
variable {P : Program} {A : Ann}

section
variable {X0 Y0 : Nat → Prop} {w0 : World} {g : St} {ph : Nat → Ph} {a : Act} {w : World} {o : Oper} {K : Dl → Prop}

theorem run_append {c : Call} {t u : Nat} {x y : Operand} {v : Value} {w' : World} (ho : o.op = .call c) (hc : c.callee = .builtin .append) (ht : c.argTypes.toList = [t, u]) (hxs : c.args.toList = [x, y])
  (h : (Builtin.append_ #[t, u] o.type #[a.eval x, a.eval y]).run P w = .ok v w') : (execOp a.eval o).run P w = .ok (.value v) w' := by
 have e1 : c.argTypes = #[t, u] := by rw [← Array.toList_inj, ht]
 have e2 : c.args = #[x, y] := by rw [← Array.toList_inj, hxs]
 simp only [execOp, ho, resolve, invoke, builtin, hc, e1, e2, Sem.run_bind, Sem.run_pure, Result.andThen_ok, List.map_toArray, List.map_cons, List.map_nil, h]

theorem val_loc {X : Nat → Prop} {k u : Nat} {p : Pth} {x : Obj} {v : Value} {s : Sh} {ob : Nat → Option Obj} (hx : ob k = some x) (h : AVR1 P A X w ob ph (.val k p u) v) (hs : x.sh.get p = some s) (hni : s ≠ .it) (hp : p ≠ [] ∨ s ≠ .imm) (ho : OkObj P A X w x (ph k)) (hl : ∃ u ex, s = .slc u ex) :
  ∃ u', tyAt P x.t p = some u' ∧ tk P u' = tk P u ∧ ((ph k).L.sub p).hv = some v := by
 obtain ⟨_, h2⟩ := h x hx
 obtain ⟨u', h3, h4, h5⟩ := h2 (not_it_of_get hs hni)
 refine ⟨u', h3, h4, ?_⟩
 rcases h5 with h5 | ⟨rfl, _, h5⟩
 ·exact h5
 ·obtain ⟨s', ex, rfl⟩ := hl
  simp only [Sh.get, Option.some.injEq] at hs
  have := ho.own
  rw [hs] at this
  rw [h5]
  exact this.slc_hv

/-- Slots behind an appending in place. -/
theorem app_slots {X X' : Nat → Prop} {ob ob' : Nat → Option Obj} {ph' : Nat → Ph} {w' : World} {k : Nat} {x : Obj} {d : D} (hx : ob k = some x) (hsl : ∃ s ex, x.sh = .slc s ex)
  (hother : ∀ c y, c ≠ k → ob' c = some y → ob c = some y ∧ ph' c = ph c)
  (hold : ∀ t v, AVR1 P A X w ob ph (.val k [] t) v → AVR1 P A X' w' ob' ph' (.old k t d) v)
  (hall : ∀ a v, AVR1 P A X w ob ph a v → AVR1 P A X' w' ob' ph' (strike1 [(k, .all)] a) v) {a : AV} {v : Value} (h : AVR P A X w ob ph a v) (hfr : ∀ c v, a = .con c → v = c → True) :
  AVR P A X' w' ob' ph' (strike [(k, .app d)] a) v := by
 have one : ∀ a v, AVR1 P A X w ob ph a v → AVR1 P A X' w' ob' ph' (strike1 [(k, .app d)] a) v := by
  intro a v h
  have ha := hall a v h
  simp only [strike1] at ha ⊢
  cases a with
  | ptr o p e => exact ha
  | old o t d' => exact ha
  | val o p t =>
   by_cases e : k = o
   ·subst e
    simp only [fall1, beq_iff.2 rfl, cond_true]
    cases p with
    | nil => exact hold t v h
    | cons z p => trivial
   ·have hb : Nat.beq k o = false := by rw [Bool.eq_false_iff, Ne, beq_iff]; exact e
    simp only [fall1, hb, cond_false]
    intro y hy
    obtain ⟨h1, h2⟩ := hother o y (fun e' => e e'.symm) hy
    obtain ⟨g1, g2⟩ := h y h1
    rw [h2]
    refine ⟨fun hit => ?_, g2⟩
    obtain ⟨m, hm, hkk, hI⟩ := g1 hit
    refine ⟨m, hm, hkk, fun z hz => ?_⟩
    by_cases hmk : m = k
    ·exfalso
     subst hmk
     obtain ⟨r, rm, since, last, clock, seen, es, k', e', ck, ce, _, _, _, hmp, _⟩ := hI x hx
     obtain ⟨s, ex, hs⟩ := hsl
     rw [hs] at hmp
     cases hmp
    ·have hstr : fall1 k .all (AV.val o p t) = .val o p t := by
      subst hm
      have : Nat.beq k m = false := by rw [Bool.eq_false_iff, Ne, beq_iff]; exact fun e' => hmk e'.symm
      simp [fall1, hb, this]
     rw [hstr] at ha
     obtain ⟨g3, _⟩ := ha y hy
     obtain ⟨m', hm', _, hI'⟩ := g3 hit
     rw [hm] at hm'
     injection hm' with hm' _
     injection hm' with hm'
     subst hm'
     have := hI' z hz
     rw [h2] at this
     exact this
  | dead => exact ha
  | und => exact ha
  | con c => exact ha
  | imm t d => exact ha
  | nils t => exact ha
  | iptr e d => exact ha
  | tup l => exact h.elim
  | fn f => exact ha
  | clo f l => exact h.elim
  | vptr o p t => exact ha
  | celp o e => exact ha
 by_cases hfl : a.flatA = true
 ·obtain ⟨e, hf'⟩ := strike_flat [(k, KM.app d)] hfl
  rw [e]
  have h2 := one a v (h.one hfl)
  generalize strike1 [(k, KM.app d)] a = c at h2 hf'
  cases c <;> first | exact h2 | simp [AV.flatA] at hf'
 ·cases a <;> first | simp [AV.flatA] at hfl; done | skip
  ·rename_i l
   rw [strike_tup]
   obtain ⟨vs, h1, h2, h3⟩ := h
   refine ⟨vs, h1, by simpa using h2, fun i a ha => ?_⟩
   simp only [List.getElem?_map, Option.map_eq_some_iff] at ha
   obtain ⟨a', ha', rfl⟩ := ha
   exact one _ _ (h3 i a' ha')
  ·rename_i f l
   rw [strike_clo]
   obtain ⟨vs, h1, h2, h3⟩ := h
   refine ⟨vs, h1, by simpa using h2, fun i a ha => ?_⟩
   simp only [List.getElem?_map, Option.map_eq_some_iff] at ha
   obtain ⟨a', ha', rfl⟩ := ha
   exact one _ _ (h3 i a' ha')

theorem step_append {c : Call} {t u dst : Nat} {x y : Operand} (W : WF P) (ho : o.op = .call c) (hc : c.callee = .builtin .append) (ht : c.argTypes.toList = [t, u]) (hxs : c.args.toList = [x, y]) (htu : sameK P t u = true) (R : RelA P A X0 Y0 w0 g ph a w)
  (h : appendD P (lookO g.ob) dst t (g.av x) (g.av y) K) : Does P o a w (Out P A X0 Y0 w0 g a K) := by
 unfold appendD at h
 split at h <;> try contradiction
 rename_i e s ys os hk hat
 obtain ⟨hg, h⟩ := of_cond h
 simp only [Bool.and_eq_true, Nat.blt_eq] at hg
 obtain ⟨⟨hgz, hpos⟩, hpl⟩ := hg
 have hkx : tk P u = .slc e := (sameK_eq htu).symm.trans hk
 have hfly : (g.av y).flatA = true := by
  cases hz : g.av y <;> first | rfl | (rw [hz] at hat; simp [appTail, St.data] at hat)
 obtain ⟨base, cap2, news, Ks, hT, hKn, hos⟩ := tail_spec W R.objs hk ((AVR.eval R y).one hfly) hat
 have hos' : ∀ c, findO os c = none ∨ findO os c = some none := by
  intro c
  rcases hos with ⟨rfl, _⟩ | ⟨q, z, rfl, _⟩
  ·exact .inl rfl
  ·simp only [findO]; split <;> simp
 have hKF : ∀ b ∈ blocksL Ks, ∃ c z, ate os c ∧ lookO g.ob c = some z ∧ b ∈ (ph c).F := by
  intro b hb
  rcases hos with ⟨_, e⟩ | ⟨q, z, rfl, hz, hm⟩
  ·rw [e] at hb; cases hb
  ·exact ⟨q, z, by simp [ate, findO], hz, by simp only [Ph.F, List.mem_append]; exact .inr (hm b hb)⟩
 have hKlt : ∀ b ∈ blocksL Ks, b < w.heap.size := fun b hb => by
  obtain ⟨c, z, _, hz, hm⟩ := hKF b hb
  exact (R.objs.ok c z hz).lt b hm
 have hone : ∀ v ∈ news, v.oneCell' = true := oneCell_segs hT.len fun i hi v hv => Own.oneCell W (hT.own i hi) hpl v hv
 have hey : a.eval y = .slice base ys.length cap2 := hT.val
 have hnx := norm_rel (t := t) (AVR.eval R x)
 split at h <;> try contradiction
 ·-- from nothing
  rename_i u' hnm
  obtain ⟨hrm, h⟩ := h
  rw [hnm] at hnx
  obtain ⟨hvx, _⟩ : a.eval x = .slice none 0 0 ∧ _ := hnx
  obtain ⟨v', w', L', hrun, hkeep, hown, _, hB, hN, hlt⟩ := append_core (ty := o.type) (A := A) W hk hkx hgz hpos (X := Xof X0 (lookO g.ob) ph) (L := .nil) (cur := s) (v := .slice none 0 0) (d := .slc []) (Own.nil hk) (by simp [Lt.blocks]) (by simp [Lt.blocks]) (by simp [Lt.blocks]) (cap2 := cap2) hT.len hT.nil hT.cells hone hT.klen hKn (by simp [Lt.blocks]) hKlt (by simpa [D.xs] using hrm)
  have hval : mkV P t [v'] = v' := mkV_one (by rw [hk]; rfl)
  refine Does.value (v := mkV P t [v']) (run_append ho hc ht hxs (by rw [hvx, hey, hval]; exact hrun)) ⟨_, h, newVal R (L := L') (hkeep.mono fun _ h => by cases h) (fun X' hX' _ => ?_) (by simp) hN hlt hos' fun b hb => ?_⟩
  ·exact hown X' hX' (fun b _ hb => by simp [Lt.blocks] at hb) fun i hi => (hT.own i hi).frame (Nat.le_refl _) hX' (fun _ _ _ => rfl) fun _ _ => rfl
  ·rcases hB b hb with h | h | h
   ·simp [Lt.blocks] at h
   ·exact .inr (hKF b h)
   ·exact .inl h
 ·-- to an object
  rename_i k p u' hnm
  rw [hnm] at hnx
  rw [cond_eq] at h
  split at h <;> try contradiction
  rename_i hku
  split at h <;> try contradiction
  rename_i x0 hx0
  split at h <;> try contradiction
  rename_i cur hcur
  obtain ⟨hfit, h⟩ := of_cond h
  obtain ⟨hrm, h⟩ := h
  simp only [fitEl, Bool.and_eq_true] at hfit
  have hO := R.objs.ok k x0 hx0
  obtain ⟨uu, hty, hkuu, hhv⟩ := val_loc (ob := lookO g.ob) hx0 hnx hcur (by simp) (.inr (by simp)) hO ⟨_, _, rfl⟩
  have hkuu' : tk P uu = .slc e := hkuu.trans ((sameK_eq hku).symm.trans hk)
  obtain ⟨cs', hOs⟩ := hO.own.sub W p hcur hty hhv
  obtain ⟨rfl, _⟩ := hOs.header hhv
  have hOt : Own P A (Xof X0 (lookO g.ob) ph) w ((ph k).L.sub p) (.slc cur none) t [a.eval x] (x0.d.get p) := hOs.kind W (hkuu'.trans hk.symm) (by simp)
  have hnL : (ph k).L.blocks.Nodup := by
   have := hO.nodup
   simp only [Ph.F, Ph.S, List.nodup_append] at this
   exact this.2.1.1
  have hLF : ∀ b ∈ ((ph k).L.sub p).blocks, b ∈ (ph k).F := fun b hb => by simp only [Ph.F, Ph.S, List.mem_append]; exact .inr (.inl (sub_blocks p _ b hb))
  have hnsub : ((ph k).L.sub p).blocks.Nodup := by
   have : ∀ (p : Pth) (L : Lt), L.blocks.Nodup → (L.sub p).blocks.Nodup := by
    intro p
    induction p with
    | nil => exact fun _ h => h
    | cons z p ih =>
     intro L hL
     cases z with
     | fld j => exact ih _ (nodup_kid hL j)
     | idx i =>
      refine ih _ ?_
      cases L <;> simp only [Lt.el, Lt.blocks, List.nodup_nil] at hL ⊢
      rename_i ks
      by_cases hi : i < ks.length
      ·exact (nodup_blocksL (List.nodup_cons.1 hL).2).1 i hi
      ·rw [List.getD_eq_getElem?_getD, List.getElem?_eq_none (by omega)]
       simp [Lt.blocks]
     | arr i => exact ih _ (by simp [Lt.blocks])
   exact this p _ hnL
  -- elements in their new shape
  obtain ⟨Ks', hKl', hKn', hKs', hKo'⟩ := tail_weak hT hKn hfit.2
  -- what is common
  have main : (os.any fun z => Nat.beq z.1 k) = false → (∀ b ∈ blocksL Ks, b ∉ (ph k).F) ∧ findO os k = none := fun hany => by
   have h1 : findO os k = none := findO_any hany
   refine ⟨fun b hb hm => ?_, h1⟩
   rcases hos with ⟨_, e⟩ | ⟨q, z, rfl, hz, hm'⟩
   ·rw [e] at hb; cases hb
   ·have hqk : q ≠ k := fun e => by subst e; simp [findO] at h1
    exact R.objs.apart q z k x0 hz hx0 hqk b (by simp only [Ph.F, List.mem_append]; exact .inr (hm' b hb)) hm
  split at h
  ·-- the object itself
   obtain ⟨hany, h⟩ := of_cond' h
   obtain ⟨hbx, h⟩ := of_cond' h
   obtain ⟨hKk, hfk⟩ := main hany
   simp only [Sh.get, Option.some.injEq] at hcur
   simp only [tyAt, Option.some.injEq] at hty
   subst hty
   simp only [Lt.sub] at hOt hhv hnsub
   have hLF' : ∀ b ∈ (ph k).L.blocks, b ∈ (ph k).F := hLF
   obtain ⟨v', w', L', hrun, hkeep, hown, holdv, hB, hN, hlt⟩ := append_core (ty := o.type) (A := A) W hk hkx hgz hpos hOt hnsub (fun b hb => .inr ⟨k, x0, hx0, hLF' b hb⟩) (fun b hb => hO.lt b (hLF' b hb)) (Ks := Ks') (cap2 := cap2) hT.len hT.nil hT.cells hone hKl' hKn' (fun b hb hm => hKk b (hKs' b hb) (hLF' b hm)) (fun b hb => hKlt b (hKs' b hb)) hrm
   have e00 : x0.d.get [] = x0.d := rfl
   rw [e00] at hown holdv h
   have hrb := hO.hdr hbx
   let p' : Ph := ⟨[v'], none, L', (ph k).S.filter fun b => !(L'.blocks.contains b)⟩
   let os1 : Objs := (k, some { x0 with d := .slc (x0.d.xs ++ ys) }) :: os
   let ob' := upO os1 (lookO g.ob)
   have hobk : ob' k = some { x0 with d := .slc (x0.d.xs ++ ys) } := by simp only [ob', os1]; rw [upO_new, if_pos rfl]
   have hobn : ∀ c, c ≠ k → ate os c → ob' c = none := fun c hc ha => by
    simp only [ob', os1]
    rw [upO_new, if_neg hc, upO, ha]
    rfl
   have hobs : ∀ c, c ≠ k → ¬ ate os c → ob' c = lookO g.ob c := fun c hc ha => by
    simp only [ob', os1]
    rw [upO_new, if_neg hc, upO]
    rcases hos' c with h | h
    ·rw [h]; rfl
    ·exact absurd h ha
   let DD : Nat → Prop := fun c => c = k ∨ ate os c
   have hDs : ∀ c z, DD c → ob' c = some z → c = k := fun c z hd hz => by
    rcases hd with h | h
    ·exact h
    ·by_cases hc : c = k
     ·exact hc
     ·rw [hobn c hc h] at hz; cases hz
   have hk' : upPh ph k p' k = p' := by simp [upPh]
   have hSsup : ∀ b, b ∈ (ph k).S → b ∈ p'.S := by
    intro b' hb'
    by_cases hL' : b' ∈ L'.blocks
    ·simp only [p', Ph.S, List.mem_append]; exact .inl hL'
    ·simp only [p', Ph.S, List.mem_append, List.mem_filter]
     right
     refine ⟨?_, by simpa using hL'⟩
     simpa only [Ph.S, List.mem_append] using hb'
   have hFp : ∀ b ∈ p'.F, b ∈ L'.blocks ∨ b ∈ (ph k).S := fun b hb => by
    simp only [p', Ph.F, Ph.S, Option.toList, List.nil_append, List.mem_append, List.mem_filter] at hb
    rcases hb with h | ⟨h, _⟩
    ·exact .inl h
    ·right; simpa only [Ph.S, List.mem_append] using h
   have hSF : ∀ b ∈ (ph k).S, b ∈ (ph k).F := fun b hb => by simp only [Ph.F, List.mem_append]; exact .inr hb
   have hF0 : ∀ b ∈ p'.F, w.heap.size ≤ b ∨ ∃ c z, DD c ∧ lookO g.ob c = some z ∧ b ∈ (ph c).F := fun b hb => by
    rcases hFp b hb with h | h
    ·rcases hB b h with h | h | h
     ·exact .inr ⟨k, x0, .inl rfl, hx0, hLF' b h⟩
     ·obtain ⟨c, z, h1, h2, h3⟩ := hKF b (hKs' b h)
      exact .inr ⟨c, z, .inr h1, h2, h3⟩
     ·exact .inl h
    ·exact .inr ⟨k, x0, .inl rfl, hx0, hSF b h⟩
   -- what is out of reach
   have hXk : ∀ b ∈ p'.F, Xof X0 ob' (upPh ph k p') b := fun b hb => .inr ⟨k, _, hobk, by rw [hk']; exact hb⟩
   have hdrop : ∀ b ∈ blocksL Ks, b ∉ blocksL Ks' → ¬ Xof X0 ob' (upPh ph k p') b := by
    rintro b hb hnb (hx | ⟨c, z, hz, hm⟩)
    ·obtain ⟨c, z, _, hz, hm⟩ := hKF b hb
     exact R.objs.free c z hz b hm hx
    ·by_cases hc : c = k
     ·subst hc
      rw [hk'] at hm
      rcases hFp b hm with h | h
      ·rcases hB b h with h | h | h
       ·exact hKk b hb (hLF' b h)
       ·exact hnb h
       ·have := hKlt b hb; omega
      ·exact hKk b hb (hSF b h)
     ·by_cases ha : ate os c
      ·rw [hobn c hc ha] at hz; cases hz
      ·rw [hobs c hc ha] at hz
       simp only [upPh, if_neg hc] at hm
       obtain ⟨c2, z2, h1, h2, h3⟩ := hKF b hb
       exact R.objs.apart c z c2 z2 hz h2 (fun e => ha (e ▸ h1)) b hm h3
   have hkeep' : Keeps (fun b => ∃ c, DD c ∧ ∃ z, lookO g.ob c = some z ∧ b ∈ (ph c).F) w w' := hkeep.mono fun b hb => ⟨k, .inl rfl, x0, hx0, hLF' b (rootB_mem hb)⟩
   have hnew : (∀ b, b < w.heap.size → Xof X0 ob' (upPh ph k p') b → Xof X0 (lookO g.ob) ph b) → OkObj P A (Xof X0 ob' (upPh ph k p')) w' { x0 with d := .slc (x0.d.xs ++ ys) } p' := fun hX => by
    refine ⟨?_, (fun hb => by simp only at hb; rw [hbx] at hb; cases hb), fun _ => rfl, ?_, fun b hb => ?_⟩
    ·have := hown _ hX (fun b hb _ => hXk b (by simp only [p', Ph.F, Ph.S, Option.toList, List.nil_append, List.mem_append]; exact .inl hb)) (hKo' _ hX hdrop)
     simp only [hcur]
     exact this.kind W (hk.trans hkuu'.symm) (by simp)
    ·simp only [p', Ph.F, Ph.S, Option.toList, List.nil_append, List.nodup_append]
     refine ⟨hN, List.Pairwise.filter _ ?_, fun x hx y hy e => ?_⟩
     ·have := hO.nodup
      simp only [Ph.F, List.nodup_append] at this
      exact this.2.1
     ·subst e
      have h2 := (List.mem_filter.1 hy).2
      simp [hx] at h2
    ·rcases hFp b hb with h | h
     ·exact hlt b h
     ·exact Nat.lt_of_lt_of_le (hO.lt b (hSF b h)) hkeep.size
   have hcsv : (ph k).cs = [a.eval x] := by
    have h1 : ∃ z, (ph k).cs = [z] := by have := hO.own; rw [hcur] at this; exact this.slc_cs
    obtain ⟨z, hz⟩ := h1
    obtain ⟨_, _, h3⟩ := val_root hO hx0 hnx
    rw [hz, mkV_one (by rw [hkuu']; rfl)] at h3
    rw [hz, h3]
   have hall : (∀ b, b < w.heap.size → Xof X0 ob' (upPh ph k p') b → Xof X0 (lookO g.ob) ph b) → ∀ {av : AV} {v : Value}, AVR P A (Xof X0 (lookO g.ob) ph) w (lookO g.ob) ph av v → AVR P A (Xof X0 ob' (upPh ph k p')) w' ob' (upPh ph k p') (strike [(k, .all)] av) v := fun hX av v hav => by
    refine AVR.stays hkeep.size hX (fun b hb hn => hkeep.block b hb fun hr => hn (.inr ⟨k, x0, hx0, hLF' b (rootB_mem hr)⟩)) (by simp [KM.isApp]) (fun c z hz => ?_) (fun c z z' hz hz' hna hnc _ b hb hh => ?_) hav
    ·by_cases hc : c = k
     ·subst hc; exact .all (by simp)
     ·by_cases ha : ate os c
      ·rw [hobn c hc ha] at hz; cases hz
      ·refine .same (hobs c hc ha) (by simp [upPh, hc]) fun b hb => hkeep.block b ?_ fun hr => ?_
       ·rw [hobs c hc ha] at hz; exact (R.objs.ok c z hz).lt b hb
       ·rw [hobs c hc ha] at hz; exact R.objs.apart c z k x0 hz hx0 hc b hb (hLF' b (rootB_mem hr))
    ·have hc : c ≠ k := fun e => hna (by subst e; simp)
     refine ⟨hX b hb hh.1, ?_⟩
     have h2 := hh.2
     simp only [upPh, if_neg hc] at h2
     exact h2
   have hvt : mkV P x0.t [v'] = v' := mkV_one (by rw [hkuu']; rfl)
   refine Does.value (v := v') (run_append ho hc ht hxs (by rw [hey]; exact hrun)) ⟨_, h, RelD.upd (D := DD) (ph' := upPh ph k p') R hkeep' (fun c hc => ?_) (fun c z hd hz b hb => ?_) (fun c z c' z' hd hd' hz hz' hcc => ?_) (fun hX c z hd hz => ?_) (fun hX s => ?_) fun hX => ?_⟩
   ·have h1 : c ≠ k := fun e => hc (.inl e)
    exact ⟨hobs c h1 fun e => hc (.inr e), by simp [upPh, h1]⟩
   ·have := hDs c z hd hz
    subst this
    rw [hk'] at hb
    exact hF0 b hb
   ·exact absurd ((hDs c z hd hz).trans (hDs c' z' hd' hz').symm) hcc
   ·have := hDs c z hd hz
    subst this
    have hz' : ob' c = some z := hz
    rw [hobk] at hz'
    injection hz' with hz'
    subst hz'
    rw [hk']
    exact hnew hX
   ·by_cases hwi : x0.sh.weak .imm = true
    ·simp only [hwi, cond_true]
     refine app_slots (ob := lookO g.ob) (ph := ph) hx0 ⟨_, _, hcur⟩ (fun c z hc hz => ?_) (fun t' v2 hv2 => ?_) (fun av v2 hv2 => ?_) (R.slots s) (fun _ _ _ _ => trivial)
     ·by_cases ha : ate os c
      ·have hz' : ob' c = some z := hz
       rw [hobn c hc ha] at hz'; cases hz'
      ·have hz' : ob' c = some z := hz
       rw [hobs c hc ha] at hz'
       exact ⟨hz', by simp [upPh, hc]⟩
     ·intro z hz
      obtain ⟨_, h2, h3⟩ := val_root hO hx0 hv2
      have h4 := holdv (fun b => Xof X0 ob' (upPh ph k p') b ∧ b ∉ (upPh ph k p' k).S) fun b hb hh => hX b hb hh.1
      have h5 : (Sh.slc cur none).plain 8 = true := by
       have := hwi
       rw [hcur] at this
       simpa [Sh.weak, Sh.weakN] using this
      rw [h3, hcsv]
      refine RepV.kind W (t := x0.t) ⟨[a.eval x], ((h4.plain (fun _ _ h => h) 8 (.inr h5) fun b hb hh => hh.2 ?_).kind W.kind (hk.trans hkuu'.symm)), rfl⟩ h2
      rw [hk']
      exact hSsup b (by simp only [Ph.S, List.mem_append]; exact .inl hb)
     ·have h6 := hall hX (av := av) (v := v2)
      by_cases hfl : av.flatA = true
      ·have h7 := h6 hv2.all
       obtain ⟨e1, e2⟩ := strike_flat [(k, KM.all)] hfl
       rw [e1] at h7
       exact h7.one e2
      ·cases av <;> first | exact hv2.elim | simp [AV.flatA] at hfl
    ·have : x0.sh.weak .imm = false := by simpa using hwi
     simp only [this, cond_false]
     exact hall hX (R.slots s)
   ·intro z hz
    have hz' : ob' k = some z := hz
    rw [hobk] at hz'
    injection hz' with hz'
    subst hz'
    refine ⟨(fun e => by simp only at e; rw [hcur] at e; cases e), fun _ => ⟨x0.t, rfl, hkuu'.trans (hk.symm), .inr ⟨rfl, by rw [hk'], ?_⟩⟩⟩
    rw [hk']
    exact hvt.symm
  ·-- a part of an object is taken out
   rename_i hpne
   split at h <;> try contradiction
   rename_i sh hhole
   obtain ⟨hany, h⟩ := of_cond' h
   obtain ⟨hKk, hfk⟩ := main hany
   have hpn : p ≠ [] := fun e => hpne e
   obtain ⟨Lh, hOh, hBh, hNh, hS1, hS2⟩ := Own.hole W p hO.own hhole hcur hty ⟨_, hhv⟩ hnL
   obtain ⟨v', w', L', hrun, hkeep, hown, _, hB, hN, hlt⟩ := append_core (ty := o.type) (A := A) W hk hkx hgz hpos hOt hnsub (fun b hb => .inr ⟨k, x0, hx0, hLF b hb⟩) (fun b hb => hO.lt b (hLF b hb)) (Ks := Ks') (cap2 := cap2) hT.len hT.nil hT.cells hone hKl' hKn' (fun b hb hm => hKk b (hKs' b hb) (hLF b hm)) (fun b hb => hKlt b (hKs' b hb)) hrm
   let xn : Obj := ⟨false, t, .slc cur none, .slc ((x0.d.get p).xs ++ ys)⟩
   let pk : Ph := ⟨(ph k).cs, (ph k).rb, Lh, []⟩
   let pd : Ph := ⟨[v'], none, L', []⟩
   let ph' : Nat → Ph := upPh (upPh ph k pk) dst pd
   let os1 : Objs := (dst, some xn) :: (k, some { x0 with sh }) :: os
   let ob' := upO os1 (lookO g.ob)
   have hobd : ob' dst = some xn := by simp only [ob', os1]; rw [upO_new, if_pos rfl]
   have hobk : k ≠ dst → ob' k = some { x0 with sh } := fun e => by simp only [ob', os1]; rw [upO_new, if_neg e, upO_new, if_pos rfl]
   have hobn : ∀ c, c ≠ dst → c ≠ k → ate os c → ob' c = none := fun c hcd hc ha => by
    simp only [ob', os1]
    rw [upO_new, if_neg hcd, upO_new, if_neg hc, upO, ha]
    rfl
   have hobs : ∀ c, c ≠ dst → c ≠ k → ¬ ate os c → ob' c = lookO g.ob c := fun c hcd hc ha => by
    simp only [ob', os1]
    rw [upO_new, if_neg hcd, upO_new, if_neg hc, upO]
    rcases hos' c with h | h
    ·rw [h]; rfl
    ·exact absurd h ha
   have hpd : ph' dst = pd := by simp [ph', upPh]
   have hpk : k ≠ dst → ph' k = pk := fun e => by simp [ph', upPh, e]
   have hpo : ∀ c, c ≠ dst → c ≠ k → ph' c = ph c := fun c h1 h2 => by simp [ph', upPh, h1, h2]
   let DD : Nat → Prop := fun c => c = dst ∨ c = k ∨ ate os c
   have hDs : ∀ c z, DD c → ob' c = some z → c = dst ∨ (c ≠ dst ∧ c = k) := fun c z hd hz => by
    by_cases hcd : c = dst
    ·exact .inl hcd
    ·rcases hd with h | h | h
     ·exact absurd h hcd
     ·exact .inr ⟨hcd, h⟩
     ·by_cases hc : c = k
      ·exact .inr ⟨hcd, hc⟩
      ·rw [hobn c hcd hc h] at hz; cases hz
   have hFd : pd.F = L'.blocks := by simp [pd, Ph.F, Ph.S, Option.toList]
   have hFk : ∀ b ∈ pk.F, b ∈ (ph k).F ∧ b ∉ ((ph k).L.sub p).blocks := fun b hb => by
    simp only [pk, Ph.F, Ph.S, List.append_nil, List.mem_append] at hb
    rcases hb with h | h
    ·refine ⟨by simp only [Ph.F, List.mem_append]; exact .inl h, fun hm => ?_⟩
     have := hO.nodup
     simp only [Ph.F, List.nodup_append] at this
     exact this.2.2 b h b (by simp only [Ph.S, List.mem_append]; exact .inl (sub_blocks p _ b hm)) rfl
    ·obtain ⟨h1, h2⟩ := hBh b h
     exact ⟨by simp only [Ph.F, Ph.S, List.mem_append]; exact .inr (.inl h1), h2⟩
   have hFdo : ∀ b ∈ pd.F, b ∈ ((ph k).L.sub p).blocks ∨ b ∈ blocksL Ks' ∨ w.heap.size ≤ b := fun b hb => by rw [hFd] at hb; exact hB b hb
   have hdk : ∀ b, b ∈ pd.F → b ∈ pk.F → False := fun b h1 h2 => by
    obtain ⟨h3, h4⟩ := hFk b h2
    rcases hFdo b h1 with h | h | h
    ·exact h4 h
    ·exact hKk b (hKs' b h) h3
    ·have := hO.lt b h3; omega
   have hF0 : ∀ c z, DD c → ob' c = some z → ∀ b ∈ (ph' c).F, w.heap.size ≤ b ∨ ∃ q y, DD q ∧ lookO g.ob q = some y ∧ b ∈ (ph q).F := fun c z hd hz b hb => by
    rcases hDs c z hd hz with hc | ⟨hcd, hc⟩
    ·rw [hc, hpd] at hb
     rcases hFdo b hb with h | h | h
     ·exact .inr ⟨k, x0, .inr (.inl rfl), hx0, hLF b h⟩
     ·obtain ⟨q, y, h1, h2, h3⟩ := hKF b (hKs' b h)
      exact .inr ⟨q, y, .inr (.inr h1), h2, h3⟩
     ·exact .inl h
    ·rw [hc] at hb hcd
     rw [hpk hcd] at hb
     exact .inr ⟨k, x0, .inr (.inl rfl), hx0, (hFk b hb).1⟩
   have hdrop : ∀ b ∈ blocksL Ks, b ∉ blocksL Ks' → ¬ Xof X0 ob' ph' b := by
    rintro b hb hnb (hx | ⟨c, z, hz, hm⟩)
    ·obtain ⟨c, z, _, hz, hm⟩ := hKF b hb
     exact R.objs.free c z hz b hm hx
    ·by_cases hcd : c = dst
     ·rw [hcd, hpd] at hm
      rcases hFdo b hm with h | h | h
      ·exact hKk b hb (hLF b h)
      ·exact hnb h
      ·have := hKlt b hb; omega
     ·by_cases hc : c = k
      ·rw [hc] at hm hcd
       rw [hpk hcd] at hm
       exact hKk b hb (hFk b hm).1
      ·by_cases ha : ate os c
       ·rw [hobn c hcd hc ha] at hz; cases hz
       ·rw [hobs c hcd hc ha] at hz
        rw [hpo c hcd hc] at hm
        obtain ⟨c2, z2, h1, h2, h3⟩ := hKF b hb
        exact R.objs.apart c z c2 z2 hz h2 (fun e => ha (e ▸ h1)) b hm h3
   have hkeep' : Keeps (fun b => ∃ c, DD c ∧ ∃ z, lookO g.ob c = some z ∧ b ∈ (ph c).F) w w' := hkeep.mono fun b hb => ⟨k, .inr (.inl rfl), x0, hx0, hLF b (rootB_mem hb)⟩
   have hkb : ∀ b, b < w.heap.size → b ∉ ((ph k).L.sub p).blocks → w'.heap[b]? = w.heap[b]? := fun b hb hn => hkeep.block b hb fun hr => hn (rootB_mem hr)
   have hval : mkV P t [v'] = v' := mkV_one (by rw [hk]; rfl)
   have hno : sh ≠ .it ∧ sh ≠ .mp := by
    cases p with
    | nil => exact absurd rfl hpn
    | cons z p =>
     cases z with
     | fld j =>
      simp only [Sh.hole] at hhole
      split at hhole <;> try contradiction
      split at hhole <;> try contradiction
      have hff := Sh.setFld_fld hhole j
      rw [if_pos rfl] at hff
      exact ⟨fun e => by rw [e] at hff; simp [Sh.fld] at hff, fun e => by rw [e] at hff; simp [Sh.fld] at hff⟩
     | idx i =>
      cases hs0 : x0.sh <;> rw [hs0] at hhole <;> first | (simp [Sh.hole] at hhole; done) | skip
      rename_i s1 ex
      cases ex with
      | none =>
       simp only [Sh.hole] at hhole
       split at hhole <;> try contradiction
       simp only [Option.some.injEq] at hhole
       rw [← hhole]
       exact ⟨by simp, by simp⟩
      | some _ => simp [Sh.hole] at hhole
     | arr i => cases hs0 : x0.sh <;> rw [hs0] at hhole <;> simp [Sh.hole] at hhole
   refine Does.value (v := v') (run_append ho hc ht hxs (by rw [hey]; exact hrun)) ⟨_, h, RelD.upd (D := DD) (ph' := ph') R hkeep' (fun c hc => ?_) hF0 (fun c z c' z' hd hd' hz hz' hcc b hb hb' => ?_) (fun hX c z hd hz => ?_) (fun hX s => ?_) fun hX => ?_⟩
   ·have h1 : c ≠ dst := fun e => hc (.inl e)
    have h2 : c ≠ k := fun e => hc (.inr (.inl e))
    exact ⟨hobs c h1 h2 fun e => hc (.inr (.inr e)), hpo c h1 h2⟩
   ·rcases hDs c z hd hz with e1 | ⟨e0, e1⟩ <;> rcases hDs c' z' hd' hz' with e2 | ⟨e3, e2⟩
    ·exact hcc (e1.trans e2.symm)
    ·rw [e1, hpd] at hb
     rw [e2] at e3 hb'
     rw [hpk e3] at hb'
     exact hdk b hb hb'
    ·rw [e2, hpd] at hb'
     rw [e1] at e0 hb
     rw [hpk e0] at hb
     exact hdk b hb' hb
    ·exact hcc (e1.trans e2.symm)
   ·rcases hDs c z hd hz with e1 | ⟨e0, e1⟩
    ·subst e1
     have hz' : ob' c = some z := hz
     rw [hobd] at hz'
     injection hz' with hz'
     subst hz'
     rw [hpd]
     refine ⟨hown _ hX (fun b hb _ => .inr ⟨c, xn, hobd, by rw [hpd, hFd]; exact hb⟩) (hKo' _ hX hdrop), (fun hb => by cases hb), fun _ => rfl, by rw [hFd]; exact hN, fun b hb => hlt b (by rw [hFd] at hb; exact hb)⟩
    ·subst e1
     have hz' : ob' c = some z := hz
     rw [hobk e0] at hz'
     injection hz' with hz'
     subst hz'
     rw [hpk e0]
     refine ⟨hOh.frame hkeep.size hX (fun b hb hn => hkeep.block b hb fun hr => hn (.inr ⟨c, x0, hx0, hLF b (rootB_mem hr)⟩)) fun b hb => hkb b (hO.lt b ?_) (hBh b hb).2, fun hb => ?_, hO.hdr, ?_, fun b hb => Nat.lt_of_lt_of_le (hO.lt b (hFk b hb).1) hkeep.size⟩
     ·simp only [Ph.F, Ph.S, List.mem_append]; exact .inr (.inl (hBh b hb).1)
     ·obtain ⟨b0, E0, c0, h1, h2, h3⟩ := hO.box hb
      have hm : b0 ∈ pk.F := by simp [pk, Ph.F, h1]
      exact ⟨b0, E0, c0, h1, (hkb b0 (hO.lt b0 (hFk b0 hm).1) (hFk b0 hm).2).trans h2, h3⟩
     ·have := hO.nodup
      simp only [Ph.F, Ph.S, List.nodup_append] at this
      simp only [pk, Ph.F, Ph.S, List.append_nil, List.nodup_append]
      exact ⟨this.1, hNh, fun x hx y hy => this.2.2 x hx y (by simp only [List.mem_append]; exact .inl (hBh y hy).1)⟩
   ·refine AVR.stays hkeep.size hX (fun b hb hn => hkeep.block b hb fun hr => hn (.inr ⟨k, x0, hx0, hLF b (rootB_mem hr)⟩)) (by simp [KM.isApp, newO]) (fun c z hz => ?_) (fun c z z' hz hz' hna hnc _ b hb hh => ?_) (R.slots s)
    ·by_cases hcd : c = dst
     ·exact .all (by simp [newO, hcd])
     ·by_cases hc : c = k
      ·subst hc
       have hz' : ob' c = some z := hz
       rw [hobk hcd] at hz'
       injection hz' with hz'
       have hzt : z.t = x0.t := by rw [← hz']
       refine .pth p (by simp [newO]) hx0 hz hzt (not_it_of_get hcur (by simp)) (fun e => ?_) (fun e => ?_) (by rw [hpk hcd]) (fun _ => ⟨hpn, by rw [hpk hcd]⟩) (fun q hq => ?_) (fun q hq => ?_) (fun hn => absurd (by simp [newO]) hn)
       ·rw [← hz'] at e; exact hno.1 e
       ·exfalso
        rw [e] at hcur
        cases p with
        | nil => exact hpn rfl
        | cons z p => cases z <;> simp [Sh.get, Sh.fld] at hcur
       ·rw [hpk hcd]; exact hS1 _ q hq
       ·rw [hpk hcd]; exact hS2 q hq
      ·by_cases ha : ate os c
       ·have hz' : ob' c = some z := hz
        rw [hobn c hcd hc ha] at hz'; cases hz'
       ·have hz' : ob' c = some z := hz
        rw [hobs c hcd hc ha] at hz'
        exact .same (hobs c hcd hc ha) (hpo c hcd hc) fun b hb => hkeep.block b ((R.objs.ok c z hz').lt b hb) fun hr => R.objs.apart c z k x0 hz' hx0 hc b hb (hLF b (rootB_mem hr))
    ·have hcd : c ≠ dst := fun e => hna (by simp [newO, e])
     have hc : c ≠ k := fun e => hnc (by simp [newO, e])
     refine ⟨hX b hb hh.1, ?_⟩
     have h2 := hh.2
     rw [hpo c hcd hc] at h2
     exact h2
   ·intro z hz
    have hz' : ob' dst = some z := hz
    rw [hobd] at hz'
    injection hz' with hz'
    subst hz'
    exact ⟨(fun e => by cases e), fun _ => ⟨t, rfl, rfl, .inr ⟨rfl, by rw [hpd], by rw [hpd]; exact hval.symm⟩⟩⟩

end
end Go.Ab

/- Maps: iteration. -/
namespace Go.Ab
variable {P : Program} {A : Ann}

section
variable {X0 Y0 : Nat → Prop} {w0 : World} {g : St} {ph : Nat → Ph} {a : Act} {w : World} {o : Oper} {K : Dl → Prop}

theorem step_range {t dst m u k e : Nat} {x : Operand} (ho : o.op = .range t x) (R : RelA P A X0 Y0 w0 g ph a w) (hk : tk P t = .map k e) (hav : g.av x = .val m [] u) (htu : sameK P t u = true) {ob : Obj} (hob : lookO g.ob m = some ob) (hsh : ob.sh = .mp) (hmd : m ≠ dst)
  (h : K (newO (lookO g.ob) dst (.val dst [.fld m] t) ⟨false, t, .it, .map ob.d.es⟩ [])) : Does P o a w (Out P A X0 Y0 w0 g a K) := by
 have hx := AVR.eval R x
 rw [hav] at hx
 have hO := R.objs.ok m ob hob
 obtain ⟨_, htk, hv⟩ := val_root hO hob hx
 have hkm : tk P ob.t = .map k e := htk.trans ((sameK_eq htu).symm.trans hk)
 have hown := hO.own
 rw [hsh] at hown
 generalize hL : (ph m).L = L at hown
 generalize hcs : (ph m).cs = cs at hown hv
 generalize hd : ob.d = d at hown
 cases hown with
 | mp hk' hr hl h1 h2 h3 h4 h5 h6 =>
  rename_i k' e' r clock es l ck ce
  rw [hk'] at hkm
  injection hkm with e1 e2
  subst e1 e2
  rw [mkV_one (by rw [hk']; rfl)] at hv
  have hrun : (execOp a.eval o).run P w = .ok (.value (.pointer (some ⟨w.heap.size, 0, none⟩))) (addObj w (.mapIter (some r) clock #[] clock)) := by
   simp [execOp, ho, Instr.range, run_underlying (und_map hk), hv, run_getMap hr, newObj, addObj, Sem.run]
  have hkeep := addObj_keeps w (.mapIter (some r) clock #[] clock)
  have hrlt : r < w.heap.size := (Array.getElem?_eq_some_iff.1 hr).1
  refine Does.value hrun ⟨_, h, RelD.fresh (cons := fun _ => False) (p := ⟨[.pointer (some ⟨w.heap.size, 0, none⟩)], none, .it w.heap.size, []⟩) (x := ⟨false, t, .it, .map ob.d.es⟩) R hkeep (by rw [upO_new, if_pos rfl]) (fun _ _ h => h.elim) (fun c hc _ => by rw [upO_new, if_neg hc]; rfl) (fun b hb => ?_) (fun hX => ?_) fun hX => ?_⟩
  ·simp only [Ph.F, Ph.S, Lt.blocks, Option.toList, List.append_nil, List.nil_append, List.mem_singleton] at hb
   exact .inl (by omega)
  ·refine ⟨.it hk (addObj_here w _), (fun hb => by cases hb), fun _ => rfl, by simp [Ph.F, Ph.S, Lt.blocks, Option.toList], fun b hb => ?_⟩
   simp only [Ph.F, Ph.S, Lt.blocks, Option.toList, List.append_nil, List.nil_append, List.mem_singleton] at hb
   rw [hb, addObj_size]; omega
  ·intro z hz
   rw [upO_new, if_pos rfl] at hz
   injection hz with hz
   subst hz
   refine ⟨fun _ => ⟨m, rfl, rfl, fun y hy => ?_⟩, fun hn => absurd rfl hn⟩
   have hy' : y = ob := by
    have : upO [(dst, some (⟨false, t, .it, .map ob.d.es⟩ : Obj))] (lookO g.ob) m = some y := hy
    rw [upO_new, if_neg hmd] at this
    have h2 : lookO g.ob m = some y := this
    rw [hob] at h2
    injection h2 with h2
    exact h2.symm
   subst hy'
   have hpm : upPh ph dst ⟨[.pointer (some ⟨w.heap.size, 0, none⟩)], none, .it w.heap.size, []⟩ m = ph m := by simp [upPh, hmd]
   have hes : (Array.filter (fun z => !(#[] : Array Nat).contains z.born) es) = es := by rw [Array.filter_eq_self]; intro z _; simp
   have hb' : (addObj w (.mapIter (some r) clock #[] clock)).heap[r]? = some (.map es clock) := (hkeep.block r hrlt id).trans hr
   have hgl : ∀ j, (match l[j]? with | some z => z | none => (D.und, D.und)) = l.getD j (.und, .und) := fun j => by rw [List.getD_eq_getElem?_getD]; cases l[j]? <;> rfl
   have hdl : y.d.es = l := by rw [hd]; rfl
   refine ⟨w.heap.size, r, clock, clock, clock, #[], es, k', e', ck, ce, by simp [upPh], rfl, by rw [hpm, hL], hsh, hk, addObj_here w _, hb', h5, h6, ?_, fun j hj => ?_, Nat.le_refl _, rfl, fun _ _ _ e => by cases e⟩
   ·rw [hes, hl]
    show l.length = y.d.es.length
    rw [hdl]
   ·have hj' : j < l.length := by rw [← hdl]; exact hj
    rw [hes]
    have hgd : y.d.es.getD j (.und, .und) = l.getD j (.und, .und) := by rw [hdl]
    show _ ∧ _ ∧ Rep P A _ _ k' (ck j) (y.d.es.getD j (.und, .und)).1 ∧ Rep P A _ _ e' (ce j) (y.d.es.getD j (.und, .und)).2
    rw [hgd]
    exact ⟨h1 j hj', h2 j hj', (h3 j hj').frame hkeep.size hX fun b hb _ => hkeep.block b hb id, (h4 j hj').frame hkeep.size hX fun b hb _ => hkeep.block b hb id⟩

/-- The entries that are left, without one. -/
theorem left_erase {es : Array MapEntry} {seen : Array Nat} {i : Nat} {z : MapEntry} (hn : (es.toList.map (·.born)).Nodup) (hz : (es.filter fun z => !seen.contains z.born)[i]? = some z) :
  (es.filter fun y => !(seen.push z.born).contains y.born).toList = (es.filter fun z => !seen.contains z.born).toList.eraseIdx i := by
 have h1 : (es.filter fun y => !(seen.push z.born).contains y.born).toList = (es.filter fun z => !seen.contains z.born).toList.filter fun y => !(y.born == z.born) := by
  simp only [Array.toList_filter, List.filter_filter]
  congr 1
  funext y
  rw [Bool.eq_iff_iff]
  simp [not_or, and_comm]
 rw [h1]
 have hnl : ((es.filter fun z => !seen.contains z.born).toList.map (·.born)).Nodup := by
  simp only [Array.toList_filter]
  exact (List.filter_sublist.map _).nodup hn
 have hz' : (es.filter fun z => !seen.contains z.born).toList[i]? = some z := by rw [Array.getElem?_toList]; exact hz
 generalize (es.filter fun z => !seen.contains z.born).toList = l at hnl hz'
 clear h1 hz hn
 induction l generalizing i with
 | nil => simp at hz'
 | cons y l ih =>
  simp only [List.map_cons, List.nodup_cons] at hnl
  cases i with
  | zero =>
   simp only [List.getElem?_cons_zero, Option.some.injEq] at hz'
   subst hz'
   simp only [List.filter_cons, beq_self_eq_true, Bool.not_true, Bool.false_eq_true, if_false, List.eraseIdx_zero, List.tail_cons]
   rw [List.filter_eq_self]
   intro x hx
   have : x.born ≠ y.born := fun e => hnl.1 (List.mem_map.2 ⟨x, hx, e⟩)
   simpa using this
  | succ i =>
   simp only [List.getElem?_cons_succ] at hz'
   have hne : y.born ≠ z.born := fun e => hnl.1 (List.mem_map.2 ⟨z, List.mem_of_getElem? hz', e.symm⟩)
   simp only [List.filter_cons, List.eraseIdx_cons_succ]
   rw [if_pos (by simpa using hne), ih hnl.2 hz']

theorem getD_eraseIdx {α : Type} {l : List α} {i j : Nat} {x : α} : (l.eraseIdx i).getD j x = l.getD (if j < i then j else j + 1) x := by
 simp only [List.getD_eq_getElem?_getD, List.getElem?_eraseIdx]
 split <;> rfl

theorem find_born {z : MapEntry} : ∀ {l : List MapEntry}, (l.map (·.born)).Nodup → z ∈ l → l.find? (fun y => y.born == z.born) = some z
 | [], _, h => by cases h
 | y :: l, hn, h => by
  simp only [List.map_cons, List.nodup_cons] at hn
  rcases List.mem_cons.1 h with e | h
  ·subst e
   simp
  ·have hne : y.born ≠ z.born := fun e => hn.1 (List.mem_map.2 ⟨z, h, e.symm⟩)
   rw [List.find?_cons_of_neg (by simpa using hne)]
   exact find_born hn.2 h

/-- AN ITERATION'S NEXT STEP. -/
theorem Iter.step {X X' : Nat → Prop} {w' : World} {x y : Obj} {q m : Ph} {v : Value} (h : Iter P A X w x y q m v) {r rm since last clock : Nat} {seen : Array Nat} {es : Array MapEntry} {z : MapEntry} {i : Nat}
  (hr : q.L = .it r) (hh : w.heap[r]? = some (.mapIter (some rm) since seen last)) (hm : w.heap[rm]? = some (.map es clock)) (hz : (es.filter fun z => !seen.contains z.born)[i]? = some z)
  (hr' : w'.heap[r]? = some (.mapIter (some rm) since (seen.push z.born) clock)) (hoth : ∀ b, b ≠ r → w'.heap[b]? = w.heap[b]?) (hs : w.heap.size ≤ w'.heap.size) (hX : ∀ b, b < w.heap.size → X' b → X b) (hXr : X r) :
  Iter P A X' w' { x with d := .agg [.map (x.d.es.eraseIdx i), (x.d.es.getD i (.und, .und)).1, (x.d.es.getD i (.und, .und)).2] } y q m v := by
 obtain ⟨r2, rm2, since2, last2, clock2, seen2, es2, k, e, ck, ce, h1, h2, h3, h4, h5, h6, h7, h8, h9, h10, h11, h12, h13, h14⟩ := h
 rw [hr] at h1
 injection h1 with h1
 subst h1
 rw [hh] at h6
 injection h6 with h6
 injection h6 with e1 e2 e3 e4
 injection e1 with e1
 subst e1 e2 e3 e4
 rw [hm] at h7
 injection h7 with h7
 injection h7 with e1 e2
 subst e1 e2
 have hne : rm ≠ r := fun e => by subst e; rw [hh] at hm; cases hm
 have hfr : ∀ {t cs d}, Rep P A X w t cs d → Rep P A X' w' t cs d := fun hR => hR.frame hs hX fun b _ hn => hoth b fun e => by subst e; exact hn hXr
 have hle := left_erase h9 hz
 have hil : i < (es.filter fun z => !seen.contains z.born).size := (Array.getElem?_eq_some_iff.1 hz).1
 have hsz : (es.filter fun y => !(seen.push z.born).contains y.born).size = (x.d.es.eraseIdx i).length := by
  rw [← Array.length_toList, hle, List.length_eraseIdx, List.length_eraseIdx, Array.length_toList, h10, if_pos (by omega)]
 refine ⟨r, rm, since, clock, clock, seen.push z.born, es, k, e, fun j => ck (if j < i then j else j + 1), fun j => ce (if j < i then j else j + 1), hr, h2, h3, h4, h5, hr', (hoth rm hne).trans hm, h8, h9, hsz, fun j hj => ?_, by omega, h13, fun a k' v' hd => ?_⟩
 case refine_2 =>
  injection hd with hd
  injection hd with _ hd
  injection hd with hk' hd
  injection hd with hv' _
  subst hk' hv'
  obtain ⟨g1, g2, g3, g4⟩ := h11 i (by rw [← h10]; exact hil)
  rw [hz] at g1 g2
  simp only [Option.map_some, Option.some.injEq] at g1 g2
  refine ⟨rfl, z.born, z, ck i, ce i, by simp, ?_, g1, g2, hfr g3, hfr g4⟩
  have hzm : z ∈ es := by
   have := Array.mem_of_getElem? hz
   exact (Array.mem_filter.1 this).1
  rw [← Array.find?_toList]
  exact find_born h9 (by simpa using hzm)
 have hj2 : (if j < i then j else j + 1) < x.d.es.length := by
  have h14 : j < (x.d.es.eraseIdx i).length := hj
  rw [List.length_eraseIdx, if_pos (by omega)] at h14
  split <;> omega
 have hget : (es.filter fun y => !(seen.push z.born).contains y.born)[j]? = (es.filter fun z => !seen.contains z.born)[if j < i then j else j + 1]? := by
  rw [← Array.getElem?_toList, hle, List.getElem?_eraseIdx, ← Array.getElem?_toList]
  split <;> rfl
 obtain ⟨g1, g2, g3, g4⟩ := h11 _ hj2
 rw [hget]
 show _ ∧ _ ∧ Rep P A X' w' k _ ((x.d.es.eraseIdx i).getD j (.und, .und)).1 ∧ Rep P A X' w' e _ ((x.d.es.eraseIdx i).getD j (.und, .und)).2
 rw [getD_eraseIdx]
 exact ⟨g1, g2, hfr g3, hfr g4⟩

/-- Slots behind a step of an iterator. -/
theorem it_slots {X X' : Nat → Prop} {ob ob' : Nat → Option Obj} {ph' : Nat → Ph} {w' : World} {q : Nat}
  (hval : ∀ m t v, AVR1 P A X w ob ph (.val q m t) v → AVR1 P A X' w' ob' ph' (.val q m t) v)
  (hall : ∀ a v, AVR1 P A X w ob ph a v → AVR1 P A X' w' ob' ph' (strike1 [(q, .all)] a) v) {a : AV} {v : Value} (h : AVR P A X w ob ph a v) :
  AVR P A X' w' ob' ph' (strike [(q, .it)] a) v := by
 have one : ∀ a v, AVR1 P A X w ob ph a v → AVR1 P A X' w' ob' ph' (strike1 [(q, .it)] a) v := by
  intro a v h
  have ha := hall a v h
  simp only [strike1] at ha ⊢
  cases a with
  | val o p t =>
   simp only [fall1] at ha ⊢
   by_cases e : q = o
   ·subst e
    have h2 := hval p t v h
    have h3 : ∀ b : Bool, AVR1 P A X' w' ob' ph' (cond b .dead (.val q p t)) v := fun b => by
     cases b
     ·exact h2
     ·trivial
    exact h3 _
   ·have hb : Nat.beq q o = false := by rw [Bool.eq_false_iff, Ne, beq_iff]; exact e
    simp only [hb, Bool.false_or] at ha
    exact ha
  | tup l => exact h.elim
  | clo f l => exact h.elim
  | _ => exact ha
 by_cases hfl : a.flatA = true
 ·obtain ⟨e, hf'⟩ := strike_flat [(q, KM.it)] hfl
  rw [e]
  have h2 := one a v (h.one hfl)
  generalize strike1 [(q, KM.it)] a = c at h2 hf'
  cases c <;> first | exact h2 | simp [AV.flatA] at hf'
 ·cases a <;> first | simp [AV.flatA] at hfl; done | skip
  ·rename_i l
   rw [strike_tup]
   obtain ⟨vs, h1, h2, h3⟩ := h
   refine ⟨vs, h1, by simpa using h2, fun i a ha => ?_⟩
   simp only [List.getElem?_map, Option.map_eq_some_iff] at ha
   obtain ⟨a', ha', rfl⟩ := ha
   exact one _ _ (h3 i a' ha')
  ·rename_i f l
   rw [strike_clo]
   obtain ⟨vs, h1, h2, h3⟩ := h
   refine ⟨vs, h1, by simpa using h2, fun i a ha => ?_⟩
   simp only [List.getElem?_map, Option.map_eq_some_iff] at ha
   obtain ⟨a', ha', rfl⟩ := ha
   exact one _ _ (h3 i a' ha')

theorem step_next {x : Operand} {q m t kt et : Nat} {ob om : Obj} (W : WF P) (ho : o.op = .next x false) (R : RelA P A X0 Y0 w0 g ph a w) (hav : g.av x = .val q [.fld m] t) (hk : tk P t = .map kt et) (hq : lookO g.ob q = some ob) (hm : lookO g.ob m = some om)
  (hsh : ob.sh = .it) (hB : isB P P.rt.bool = true) (h1 : ob.d.es = [] → K { v := .tup [.imm P.rt.bool (.bool false)] })
  (h2 : ∀ i, i < ob.d.es.length → K { v := .tup [.imm P.rt.bool (.bool true), .imm kt (ob.d.es.getD i (.und, .und)).1, .imm et (ob.d.es.getD i (.und, .und)).2], os := [(q, some { ob with d := .agg [.map (ob.d.es.eraseIdx i), (ob.d.es.getD i (.und, .und)).1, (ob.d.es.getD i (.und, .und)).2] })], ks := [(q, .it)] }) :
  Does P o a w (Out P A X0 Y0 w0 g a K) := by
 have hx := AVR.eval R x
 rw [hav] at hx
 have hBt := isB_eq hB
 obtain ⟨g1, _⟩ := hx ob hq
 obtain ⟨m', hm', htk, hI⟩ := g1 hsh
 injection hm' with hm' _
 injection hm' with hm'
 subst hm'
 have hI := hI om hm
 obtain ⟨r, rm, since, last, clock, seen, es, k, e, ck, ce, i1, i2, i3, i4, i5, i6, i7, i8, i9, i10, i11, i12, i13⟩ := id hI
 have hkk : tk P t = .map k e := htk.symm.trans i5
 rw [hk] at hkk
 injection hkk with e1 e2
 subst e1 e2
 have hO := R.objs.ok q ob hq
 have hrF : r ∈ (ph q).F := by simp [Ph.F, Ph.S, i1, Lt.blocks]
 have hown := hO.own
 rw [hsh] at hown
 have hcs : (ph q).cs = [.pointer (some ⟨r, 0, none⟩)] := by
  rw [i1] at hown
  generalize (ph q).cs = cs at hown ⊢
  generalize ob.d = d at hown
  cases hown
  rfl
 rcases run_next_at (P := P) w o.type r rm since last seen es clock i6 i7 i8 i12 with ⟨h0, hrun⟩ | ⟨z, hz, w1, hw1, hrun⟩
 ·have hes : ob.d.es = [] := by
   have : (es.filter fun z => !seen.contains z.born).size = 0 := h0
   rw [i10] at this
   exact List.eq_nil_of_length_eq_zero this
  refine Does.value (v := .tuple #[.bool false]) (w' := w) (by simp only [execOp, ho, i2, Sem.run_bind, hrun, Result.andThen_ok, Sem.run_pure]) (Out.pure R (h1 hes) ?_)
  exact ⟨#[.bool false], rfl, rfl, fun i a ha => by
   match i, ha with
   | 0, ha => simp only [List.getElem?_cons_zero, Option.some.injEq] at ha; subst ha; exact rep_bool hBt
   | i + 1, ha => simp at ha⟩
 ·obtain ⟨i, hi, hzi⟩ := List.mem_iff_getElem.1 hz
  have hil : i < ob.d.es.length := by rw [← i10, ← Array.length_toList]; exact hi
  have hzz : (es.filter fun z => !seen.contains z.born)[i]? = some z := by
   rw [← Array.getElem?_toList]
   have : (leftOf es seen).toList[i]? = some z := by rw [List.getElem?_eq_getElem hi, hzi]
   exact this
  have hwh : w1.heap = w.heap ∧ w1.os = w.os ∧ w1.tape = w.tape ∧ w1.output = w.output := by rcases hw1 with rfl | rfl <;> exact ⟨rfl, rfl, rfl, rfl⟩
  let w' := Go.ChangeMaps.setBlock w1 r (.mapIter (some rm) since (seen.push z.born) clock)
  have hrlt : r < w.heap.size := (Array.getElem?_eq_some_iff.1 i6).1
  have hw'r : w'.heap[r]? = some (.mapIter (some rm) since (seen.push z.born) clock) := by
   show (w1.heap.setIfInBounds r _)[r]? = _
   rw [hwh.1]
   simp [hrlt]
  have hw'o : ∀ b, b ≠ r → w'.heap[b]? = w.heap[b]? := fun b hb => by
   show (w1.heap.setIfInBounds r _)[b]? = _
   rw [hwh.1, Array.getElem?_setIfInBounds, if_neg (fun e => hb e.symm)]
  have hsz : w'.heap.size = w.heap.size := by
   show (w1.heap.setIfInBounds r _).size = _
   rw [hwh.1]
   simp
  obtain ⟨j1, j2, j3, j4⟩ := i11 i hil
  rw [hzz] at j1 j2
  simp only [Option.map_some, Option.some.injEq] at j1 j2
  have hkeep : Keeps (fun b => ∃ c, c = q ∧ ∃ y, lookO g.ob c = some y ∧ b ∈ (ph c).F) w w' := ⟨hwh.2.1, hwh.2.2.1, hwh.2.2.2, Nat.le_of_eq hsz.symm, fun b _ hn => hw'o b fun e => hn ⟨q, rfl, ob, hq, by rw [e]; exact hrF⟩⟩
  let d1 : D := .agg [.map (ob.d.es.eraseIdx i), (ob.d.es.getD i (.und, .und)).1, (ob.d.es.getD i (.und, .und)).2]
  let os1 : Objs := [(q, some { ob with d := d1 })]
  have hobq : upO os1 (lookO g.ob) q = some { ob with d := d1 } := by simp only [os1]; rw [upO_new, if_pos rfl]
  have hobo : ∀ c, c ≠ q → upO os1 (lookO g.ob) c = lookO g.ob c := fun c hc => by simp only [os1]; rw [upO_new, if_neg hc]; rfl
  have hXr : ∀ X0', Xof X0' (lookO g.ob) ph r := fun X0' => .inr ⟨q, ob, hq, hrF⟩
  refine Does.value (v := .tuple #[.bool true, z.key, z.val]) (w' := w') (by simp only [execOp, ho, i2, Sem.run_bind, hrun, Result.andThen_ok, Sem.run_pure]; rfl) ⟨_, h2 i hil, RelD.upd (D := fun c => c = q) (ph' := ph) R hkeep (fun c hc => ⟨hobo c hc, rfl⟩) (fun c y hd hy b hb => ?_) (fun c y c' y' hd hd' _ _ hcc => absurd (hd.trans hd'.symm) hcc) (fun hX c y hd hy => ?_) (fun hX s => ?_) fun hX => ?_⟩
  ·subst hd
   exact .inr ⟨c, ob, rfl, hq, hb⟩
  ·subst hd
   have hy' : upO os1 (lookO g.ob) c = some y := hy
   rw [hobq] at hy'
   injection hy' with hy'
   subst hy'
   refine ⟨?_, (fun hb => ?_), hO.hdr, hO.nodup, fun b hb => by rw [hsz]; exact hO.lt b hb⟩
   ·show Own P A _ w' (ph c).L ob.sh ob.t (ph c).cs _
    rw [hsh, i1, hcs]
    exact .it i5 hw'r
   ·obtain ⟨b, E, c0, b1, b2, b3⟩ := hO.box hb
    have hbr : b ≠ r := fun e => by subst e; rw [i6] at b2; cases b2
    exact ⟨b, E, c0, b1, (hw'o b hbr).trans b2, b3⟩
  ·refine it_slots (ob := lookO g.ob) (ph := ph) (w := w) (fun p t' v' hv' => ?_) (fun av v' hv' => ?_) (R.slots s)
   ·intro y hy
    have hy' : upO os1 (lookO g.ob) q = some y := hy
    rw [hobq] at hy'
    injection hy' with hy'
    subst hy'
    obtain ⟨b1, b2⟩ := hv' ob hq
    refine ⟨fun _ => ?_, fun hn => absurd hsh hn⟩
    obtain ⟨m2, c1, c2, c3⟩ := b1 hsh
    refine ⟨m2, c1, c2, fun y2 hy2 => ?_⟩
    have hm2 : m2 ≠ q := fun e => by
     subst e
     have hy2' : upO os1 (lookO g.ob) m2 = some y2 := hy2
     rw [hobq] at hy2'
     injection hy2' with hy2'
     subst hy2'
     obtain ⟨_, _, _, _, _, _, _, _, _, _, _, _, _, _, d4, _⟩ := c3 ob hq
     rw [hsh] at d4
     cases d4
    have hy2' : lookO g.ob m2 = some y2 := by rw [← hobo m2 hm2]; exact hy2
    exact (c3 y2 hy2').step i1 i6 i7 hzz hw'r hw'o (Nat.le_of_eq hsz.symm) hX (hXr X0)
   ·by_cases hfl : av.flatA = true
    ·have h7 : AVR P A _ w' (upO os1 (lookO g.ob)) ph (strike [(q, .all)] av) v' := AVR.stays (Nat.le_of_eq hsz.symm) hX (fun b _ hn => hw'o b fun e => by subst e; exact hn (hXr X0)) (by simp [KM.isApp]) (fun c y hy => by
       by_cases hc : c = q
       ·exact .all (by simp [hc])
       ·refine .same (hobo c hc) rfl fun b hb => hw'o b fun e => ?_
        have hy' : upO os1 (lookO g.ob) c = some y := hy
        rw [hobo c hc] at hy'
        subst e
        exact R.objs.apart c y q ob hy' hq hc b hb hrF) (fun c y y' _ _ _ _ _ b hb hh => ⟨hX b hb hh.1, hh.2⟩) hv'.all
     obtain ⟨e1, e2⟩ := strike_flat [(q, KM.all)] hfl
     rw [e1] at h7
     exact h7.one e2
    ·cases av <;> first | exact hv'.elim | simp [AV.flatA] at hfl
  ·refine ⟨#[.bool true, z.key, z.val], rfl, rfl, fun j av hj => ?_⟩
   have hfr : ∀ {t cs d}, Rep P A (Xof X0 (lookO g.ob) ph) w t cs d → Rep P A (Xof X0 (upO os1 (lookO g.ob)) ph) w' t cs d := fun hR => hR.frame (Nat.le_of_eq hsz.symm) hX fun b _ hn => hw'o b fun e => by subst e; exact hn (hXr X0)
   match j, hj with
   | 0, hj => simp only [List.getElem?_cons_zero, Option.some.injEq] at hj; subst hj; exact rep_bool hBt
   | 1, hj => simp only [List.getElem?_cons_succ, List.getElem?_cons_zero, Option.some.injEq] at hj; subst hj; exact ⟨ck i, hfr j3, j1⟩
   | 2, hj => simp only [List.getElem?_cons_succ, List.getElem?_cons_zero, Option.some.injEq] at hj; subst hj; exact ⟨ce i, hfr j4, j2⟩
   | j + 3, hj => simp at hj

/-- The entry that an iterator has come to. -/
theorem step_entry {x : Operand} {q m t kt et : Nat} {ob om : Obj} {d0 k v : D} (W : WF P) (ho : o.op = .entry x) (R : RelA P A X0 Y0 w0 g ph a w) (hav : g.av x = .val q [.fld m] t) (hk : tk P t = .map kt et) (hq : lookO g.ob q = some ob) (hm : lookO g.ob m = some om)
  (hsh : ob.sh = .it) (hd : ob.d = .agg [d0, k, v]) (h : K { v := .tup [.imm kt k, .imm et v] }) : Does P o a w (Out P A X0 Y0 w0 g a K) := by
 have hx := AVR.eval R x
 rw [hav] at hx
 obtain ⟨g1, _⟩ := hx ob hq
 obtain ⟨m', hm', htk, hI⟩ := g1 hsh
 injection hm' with hm' _
 injection hm' with hm'
 subst hm'
 obtain ⟨r, rm, since, last, clock, seen, es, kk, e, ck, ce, i1, i2, i3, i4, i5, i6, i7, i8, i9, i10, i11, i12, i13, i14⟩ := hI om hm
 have hkk : tk P t = .map kk e := htk.symm.trans i5
 rw [hk] at hkk
 injection hkk with e1 e2
 subst e1 e2
 obtain ⟨j1, st, z, c1, c2, j2, j3, j4, j5, j6, j7⟩ := i14 _ _ _ hd
 subst j1
 refine Does.value (v := .tuple #[z.key, z.val]) (w' := w) ?_ (Out.pure R h ?_)
 ·have h1 : (getObj r).run P w = .ok (.mapIter (some rm) since seen last) w := by simp [getObj, Sem.run, i6]
  have h2 : (getObj rm).run P w = .ok (.map es last) w := by simp [getObj, Sem.run, i7]
  simp [execOp, ho, i2, Instr.entry, h1, h2, j2, j3]
 ·refine ⟨#[z.key, z.val], rfl, rfl, fun j av hj => ?_⟩
  match j, hj with
  | 0, hj => simp only [List.getElem?_cons_zero, Option.some.injEq] at hj; subst hj; exact ⟨c1, j6, j4⟩
  | 1, hj => simp only [List.getElem?_cons_succ, List.getElem?_cons_zero, Option.some.injEq] at hj; subst hj; exact ⟨c2, j7, j5⟩
  | j + 2, hj => simp at hj

end
end Go.Ab

/- Maps: a store. -/
namespace Go.Ab
open Go.MapKept
variable {P : Program} {A : Ann}

theorem find_spec {d : TypeDesc} {k : Value} {kd vd : D} (hk : IsKey d k) : ∀ (l : List MapEntry) (ds : List (D × D)) (i : Nat), l.length = ds.length →
  (∀ j z, l[j]? = some z → IsKey d z.key ∧ (D.same 8 (ds.getD j (.und, .und)).1 kd = true ↔ z.key = k)) →
  (Instr.findNow d k l i = some none ∧ mapPut ds kd vd = ds ++ [(kd, vd)]) ∨ ∃ j z, Instr.findNow d k l i = some (some (i + j, z.val)) ∧ l[j]? = some z ∧ z.key = k ∧ mapPut ds kd vd = ds.set j (kd, vd)
 | [], [], i, _, _ => .inl ⟨rfl, rfl⟩
 | [], x :: ds, i, h, _ => by simp at h
 | z :: l, [], i, h, _ => by simp at h
 | z :: l, (a, b) :: ds, i, h, hl => by
  obtain ⟨h1, h2⟩ := hl 0 z rfl
  obtain ⟨r, hr, hiff⟩ := sameNow_of_keys hk h1
  have ha : ((a, b) :: ds).getD 0 (D.und, D.und) = (a, b) := rfl
  rw [ha] at h2
  cases r with
  | true =>
   have e : z.key = k := (hiff.1 rfl).symm
   refine .inr ⟨0, z, by simp [Instr.findNow, hr], rfl, e, ?_⟩
   simp only [mapPut, h2.2 e, cond_true, List.set_cons_zero]
  | false =>
   have hne : z.key ≠ k := fun q => by have := hiff.2 q.symm; cases this
   have hs : D.same 8 a kd = false := by
    cases e : D.same 8 a kd
    ·rfl
    ·exact absurd (h2.1 e) hne
   rcases find_spec (vd := vd) hk l ds (i + 1) (by simpa using h) (fun j y hy => hl (j + 1) y hy) with ⟨g1, g2⟩ | ⟨j, y, g1, g2, g3, g4⟩
   ·exact .inl ⟨by simp [Instr.findNow, hr, g1], by simp only [mapPut, hs, cond_false, g2, List.cons_append]⟩
   ·refine .inr ⟨j + 1, y, ?_, g2, g3, by simp only [mapPut, hs, cond_false, g4, List.set_cons_succ]⟩
    simp [Instr.findNow, hr, g1]
    omega

theorem same_key {t : Nat} {X X' : Nat → Prop} {w w' : World} {u v : Value} {a b : D} (hk : keyT P t = true) (hu : RepV P A X w t u a) (hv : RepV P A X' w' t v b) : D.same 8 a b = true ↔ u = v := by
 obtain ⟨cs, h1, h2⟩ := hu
 obtain ⟨cs', h3, h4⟩ := hv
 cases h1 with
 | int h => cases h3 <;> first | (exfalso; simp_all; done) | skip
            rw [mkV_one (by rw [h]; rfl)] at h2 h4
            rename_i k n k' n' h'
            rw [h] at h'; injection h' with h'; subst h' h2 h4
            simp [D.same]
 | bool h => cases h3 <;> first | (exfalso; simp_all; done) | skip
             rw [mkV_one (by rw [h]; rfl)] at h2 h4
             subst h2 h4
             simp [D.same]
 | str h => cases h3 <;> first | (exfalso; simp_all; done) | skip
            rw [mkV_one (by rw [h]; rfl)] at h2 h4
            subst h2 h4
            have e1 : ∀ s1 s2 : ByteArray, s1.toList = s2.toList ↔ s1 = s2 := fun s1 s2 => by rw [← bytes_beq s1 s2, beq_toListBytes]; simp
            simp [D.same, e1]
 | _ => simp_all [keyT]

theorem key_is {t : Nat} {X : Nat → Prop} {w : World} {u : Value} {a : D} (hk : keyT P t = true) (hu : RepV P A X w t u a) : ∃ d, P.underlying t = some d ∧ IsKey d u ∧ Instr.sameBits 10000 u u = true ∧ ∃ cs, cs = [u] := by
 obtain ⟨cs, h1, h2⟩ := hu
 cases h1 with
 | int h => rw [mkV_one (by rw [h]; rfl)] at h2; subst h2; exact ⟨_, und_int h, rfl, by simp [Instr.sameBits], _, rfl⟩
 | bool h => rw [mkV_one (by rw [h]; rfl)] at h2; subst h2; exact ⟨_, und_bool h, trivial, by simp [Instr.sameBits], _, rfl⟩
 | str h => rw [mkV_one (by rw [h]; rfl)] at h2; subst h2; exact ⟨_, und_str h, trivial, by simp [Instr.sameBits, bytes_beq], _, rfl⟩
 | _ => simp_all [keyT]

section
variable {X0 Y0 : Nat → Prop} {w0 : World} {g : St} {ph : Nat → Ph} {a : Act} {w : World} {o : Oper} {K : Dl → Prop}

theorem step_mapUpdate {t kt et m u : Nat} {x y z : Operand} {kd vd : D} {sv : Option Sh} {os : Objs} {ob : Obj} (W : WF P) (ho : o.op = .mapUpdate t x y z) (R : RelA P A X0 Y0 w0 g ph a w) (hk : tk P t = .map kt et) (hkey : keyT P kt = true)
  (hav : g.av x = .val m [] u) (hdk : St.data P (lookO g.ob) kt (g.av y) = some kd) (htv : takeV P (lookO g.ob) et (g.av z) = some (sv, vd, os)) (htu : sameK P t u = true) (hpl : ∀ s, sv = some s → s.plain 8 = true) (hob : lookO g.ob m = some ob) (hsh : ob.sh = .mp)
  (hany : (os.any fun z => Nat.beq z.1 m) = false) (h : K { v := .und, os := (m, some { ob with d := .map (mapPut ob.d.es kd vd) }) :: os, ks := [(m, .pth [.fld m]), (m, .cut)] }) : Does P o a w (Out P A X0 Y0 w0 g a K) := by
 have hx := AVR.eval R x
 rw [hav] at hx
 have hO := R.objs.ok m ob hob
 obtain ⟨_, htk, hvx⟩ := val_root hO hob hx
 have hkm : tk P ob.t = .map kt et := htk.trans ((sameK_eq htu).symm.trans hk)
 obtain ⟨X1, _, hrk⟩ := slot_rep W R hdk
 have hfz : (g.av z).flatA = true := by
  cases hz : g.av z <;> first | rfl | (rw [hz] at htv; simp [takeV] at htv)
 obtain ⟨cs, L, hvz, hT, hnL, hng, hos⟩ := takeV_spec W R.objs ((AVR.eval R z).one hfz) htv
 have hos' : ∀ c, findO os c = none ∨ findO os c = some none := by
  intro c
  rcases hos with ⟨rfl, _⟩ | ⟨q, y, rfl, _⟩
  ·exact .inl rfl
  ·simp only [findO]; split <;> simp
 have hLF : ∀ b ∈ L.blocks, ∃ c y, ate os c ∧ lookO g.ob c = some y ∧ b ∈ (ph c).F := by
  intro b hb
  rcases hos with ⟨_, e⟩ | ⟨q, y, rfl, hy, _, hm⟩
  ·rw [e] at hb; cases hb
  ·exact ⟨q, y, by simp [ate, findO], hy, hm b hb⟩
 have hfk := findO_any hany
 obtain ⟨kdesc, hkd, hik, hsb, _⟩ := key_is hkey hrk
 have hown := hO.own
 rw [hsh] at hown
 have hrows : ∃ (r clock : Nat) (es : Array MapEntry) (l : List (D × D)) (ck ce : Nat → List Value), (ph m).L = .mp r ∧ (ph m).cs = [.map (some r)] ∧ ob.d = .map l ∧ w.heap[r]? = some (.map es clock) ∧ es.size = l.length ∧ (∀ j, j < l.length → (es[j]?).map (·.key) = some (mkV P kt (ck j))) ∧ (∀ j, j < l.length → (es[j]?).map (·.val) = some (mkV P et (ce j))) ∧
   (∀ j, j < l.length → Rep P A (Xof X0 (lookO g.ob) ph) w kt (ck j) (l.getD j (.und, .und)).1) ∧ (∀ j, j < l.length → Rep P A (Xof X0 (lookO g.ob) ph) w et (ce j) (l.getD j (.und, .und)).2) ∧ (∀ x ∈ es.toList, x.born < clock) ∧ (es.toList.map (·.born)).Nodup := by
  generalize (ph m).L = L at hown
  generalize (ph m).cs = cs at hown
  generalize ob.d = d at hown
  cases hown with
  | mp hk' hr hl h1 h2 h3 h4 h5 h6 =>
   rw [hk'] at hkm
   injection hkm with e1 e2
   subst e1 e2
   exact ⟨_, _, _, _, _, _, rfl, rfl, rfl, hr, hl, h1, h2, h3, h4, h5, h6⟩
 obtain ⟨r, clock, es, l, ck, ce, hLm, hcm, hdm, hr, hl, h1, h2, h3, h4, h5, h6⟩ := hrows
 have hdl : ob.d.es = l := by rw [hdm]; rfl
 rw [hdl] at h
 have hvx' : a.eval x = .map (some r) := by rw [hvx, hcm, mkV_one (by rw [hkm]; rfl)]
 have hrF : r ∈ (ph m).F := by simp [Ph.F, Ph.S, hLm, Lt.blocks]
 have hrlt : r < w.heap.size := hO.lt r hrF
 have hkv : ∀ v : Value, mkV P kt [v] = v := fun v => mkV_one (by
  unfold keyT at hkey
  split at hkey <;> first | (rename_i hh; rw [hh]; rfl) | cases hkey)
 obtain ⟨csk, hRk, hvk⟩ := hrk
 have hRk' : ∀ (X' : Nat → Prop) (w' : World), Rep P A X' w' kt csk kd := fun X' w' => by
  unfold keyT at hkey
  cases hRk with
  | int hh => exact .int hh
  | bool hh => exact .bool hh
  | str hh => exact .str hh
  | _ => simp_all
 have hone : Value → Prop := fun v => v = v
 -- the value, in the world behind
 have hRv : ∀ X' : Nat → Prop, (∀ b, b < w.heap.size → X' b → Xof X0 (lookO g.ob) ph b) → (∀ b ∈ L.blocks, ¬ X' b) → Rep P A X' w et cs vd := fun X' hX' hB => by
  cases sv with
  | some s => exact (hT : Own P A _ w L s et cs vd).plain hX' 8 (.inr (hpl s rfl)) hB
  | none => obtain ⟨_, rfl, rfl, e, he⟩ := hT; exact .slcN he
 -- what stands behind, for new entries
 have fin : ∀ (es' : Array MapEntry) (clock' : Nat) (ck' ce' : Nat → List Value) (l' : List (D × D)), l' = mapPut l kd vd → es'.size = l'.length →
   (∀ j, j < l'.length → (es'[j]?).map (·.key) = some (mkV P kt (ck' j))) → (∀ j, j < l'.length → (es'[j]?).map (·.val) = some (mkV P et (ce' j))) →
   (∀ (X' : Nat → Prop) (w' : World), (∀ {t cs d}, Rep P A (Xof X0 (lookO g.ob) ph) w t cs d → Rep P A X' w' t cs d) → Rep P A X' w' et cs vd → (∀ j, j < l'.length → Rep P A X' w' kt (ck' j) (l'.getD j (.und, .und)).1) ∧ ∀ j, j < l'.length → Rep P A X' w' et (ce' j) (l'.getD j (.und, .und)).2) →
   (∀ x ∈ es'.toList, x.born < clock') → (es'.toList.map (·.born)).Nodup → (Instr.mapUpdate t (.map (some r)) (a.eval y) (a.eval z)).run P w = .ok () { w with heap := w.heap.setIfInBounds r (.map es' clock') } →
   Does P o a w (Out P A X0 Y0 w0 g a K) := by
  intro es' clock' ck' ce' l' hl' g1 g2 g3 g4 g5 g6 hrun
  rw [← hl'] at h
  let w' : World := { w with heap := w.heap.setIfInBounds r (.map es' clock') }
  obtain ⟨hw'r, hw'o⟩ := heap_set (o' := .map es' clock') hr
  have hsz : w'.heap.size = w.heap.size := by simp [w']
  let os1 : Objs := (m, some { ob with d := .map l' }) :: os
  have hobm : upO os1 (lookO g.ob) m = some { ob with d := .map l' } := by simp only [os1]; rw [upO_new, if_pos rfl]
  have hobn : ∀ c, c ≠ m → ate os c → upO os1 (lookO g.ob) c = none := fun c hc ha => by
   simp only [os1]
   rw [upO_new, if_neg hc, upO, ha]
   rfl
  have hobs : ∀ c, c ≠ m → ¬ ate os c → upO os1 (lookO g.ob) c = lookO g.ob c := fun c hc ha => by
   simp only [os1]
   rw [upO_new, if_neg hc, upO]
   rcases hos' c with h | h
   ·rw [h]; rfl
   ·exact absurd h ha
  have hate : ∀ c, ate os c → c ≠ m := fun c hc e => by subst e; rw [ate, hfk] at hc; cases hc
  have hDs : ∀ c z, (c = m ∨ ate os c) → upO os1 (lookO g.ob) c = some z → c = m := fun c z hd hz => by
   rcases hd with h | h
   ·exact h
   ·rw [hobn c (hate c h) h] at hz; cases hz
  have hkeep : Keeps (fun b => ∃ c, (c = m ∨ ate os c) ∧ ∃ y, lookO g.ob c = some y ∧ b ∈ (ph c).F) w w' := ⟨rfl, rfl, rfl, Nat.le_of_eq hsz.symm, fun b _ hn => hw'o b fun e => hn ⟨m, .inl rfl, ob, hob, by rw [e]; exact hrF⟩⟩
  have hXr : Xof X0 (lookO g.ob) ph r := .inr ⟨m, ob, hob, hrF⟩
  refine Does.skip (w' := w') (by simp only [execOp, ho, hvx', Sem.run_bind, hrun, Result.andThen_ok, Sem.run_pure]; rfl) ⟨_, h, RelD.upd (D := fun c => c = m ∨ ate os c) (ph' := ph) R hkeep (fun c hc => ⟨hobs c (fun e => hc (.inl e)) fun e => hc (.inr e), rfl⟩) (fun c z hd hz b hb => ?_) (fun c z c' z' hd hd' hz hz' hcc => absurd ((hDs c z hd hz).trans (hDs c' z' hd' hz').symm) hcc) (fun hX c z hd hz => ?_) (fun hX s => ?_) fun hX => rfl⟩
  ·have := hDs c z hd hz
   subst this
   exact .inr ⟨c, ob, .inl rfl, hob, hb⟩
  ·have := hDs c z hd hz
   subst this
   have hz' : upO os1 (lookO g.ob) c = some z := hz
   rw [hobm] at hz'
   injection hz' with hz'
   subst hz'
   have hfr : ∀ {t cs d}, Rep P A (Xof X0 (lookO g.ob) ph) w t cs d → Rep P A (Xof X0 (upO os1 (lookO g.ob)) ph) w' t cs d := fun hR => hR.frame (Nat.le_of_eq hsz.symm) hX fun b _ hn => hw'o b fun e => by subst e; exact hn hXr
   have hnotL : ∀ b ∈ L.blocks, ¬ Xof X0 (upO os1 (lookO g.ob)) ph b := by
    rintro b hb (hx | ⟨c2, z2, hz2, hm2⟩)
    ·obtain ⟨c2, y2, _, hy2, hm2⟩ := hLF b hb
     exact R.objs.free c2 y2 hy2 b hm2 hx
    ·obtain ⟨c3, y3, ha3, hy3, hm3⟩ := hLF b hb
     by_cases hc2 : c2 = c
     ·subst hc2
      exact R.objs.apart c3 y3 c2 ob hy3 hob (hate c3 ha3) b hm3 hm2
     ·by_cases ha2 : ate os c2
      ·rw [hobn c2 hc2 ha2] at hz2; cases hz2
      ·rw [hobs c2 hc2 ha2] at hz2
       exact R.objs.apart c2 z2 c3 y3 hz2 hy3 (fun e => ha2 (e ▸ ha3)) b hm2 hm3
   have hRv' : Rep P A (Xof X0 (upO os1 (lookO g.ob)) ph) w' et cs vd := by
    have hXu : ∀ b, b < w.heap.size → (Xof X0 (upO os1 (lookO g.ob)) ph b ∨ b = r) → Xof X0 (lookO g.ob) ph b := by
     rintro b hb (h | rfl)
     ·exact hX b hb h
     ·exact hXr
    refine (hRv (fun b => Xof X0 (upO os1 (lookO g.ob)) ph b ∨ b = r) hXu fun b hb => ?_).frame (Nat.le_of_eq hsz.symm) (fun b _ hx => .inl hx) fun b _ hn => hw'o b fun e => hn (.inr e)
    rintro (hx | rfl)
    ·exact hnotL b hb hx
    ·exact hnotL b hb (.inr ⟨c, _, hobm, hrF⟩)
   obtain ⟨g7, g8⟩ := g4 _ w' hfr hRv'
   refine ⟨?_, (fun hb => ?_), hO.hdr, hO.nodup, fun b hb => by rw [hsz]; exact hO.lt b hb⟩
   ·show Own P A _ w' (ph c).L ob.sh ob.t (ph c).cs _
    have key : ∀ s, s = Sh.mp → Own P A (Xof X0 (upO os1 (lookO g.ob)) ph) w' (.mp r) s ob.t [.map (some r)] (.map l') := fun s e => by
     subst e
     exact .mp hkm hw'r g1 g2 g3 g7 g8 g5 g6
    rw [hLm, hcm]
    exact key _ hsh
   ·obtain ⟨b, E, c0, b1, b2, b3⟩ := hO.box hb
    have hbr : b ≠ r := fun e => by subst e; rw [hr] at b2; cases b2
    exact ⟨b, E, c0, b1, (hw'o b hbr).trans b2, b3⟩
  ·refine AVR.stays (Nat.le_of_eq hsz.symm) hX (fun b _ hn => hw'o b fun e => by subst e; exact hn hXr) (by simp [KM.isApp]) (fun c z hz => ?_) (fun c z z' hz hz' _ _ _ b hb hh => ⟨hX b hb hh.1, hh.2⟩) (R.slots s)
   by_cases hc : c = m
   ·subst hc
    have hz' : upO os1 (lookO g.ob) c = some z := hz
    rw [hobm] at hz'
    injection hz' with hz'
    subst hz'
    exact .pth [.fld c] (by simp) hob hz rfl (fun e => by rw [hsh] at e; cases e) (fun e => by simp only at e; rw [hsh] at e; cases e) (fun _ => by simp [under, beq_iff]) rfl (fun _ => ⟨by simp, rfl⟩) (fun _ _ => rfl) (fun _ _ => rfl) (fun hn => absurd (by simp) hn)
   ·have hz' : upO os1 (lookO g.ob) c = some z := hz
    by_cases ha : ate os c
    ·rw [hobn c hc ha] at hz'; cases hz'
    ·rw [hobs c hc ha] at hz'
     refine .same (hobs c hc ha) rfl fun b hb => hw'o b fun e => ?_
     subst e
     exact R.objs.apart c z m ob hz' hob hc b hb hrF
 have hes : es.toList.length = l.length := by simpa using hl
 have hks : ∀ j z', es.toList[j]? = some z' → IsKey kdesc z'.key ∧ (D.same 8 (l.getD j (.und, .und)).1 kd = true ↔ z'.key = a.eval y) := fun j z' hz' => by
  have hj : j < l.length := by rw [← hes]; exact (List.getElem?_eq_some_iff.1 hz').1
  have e1 := h1 j hj
  rw [Array.getElem?_toList] at hz'
  rw [hz'] at e1
  simp only [Option.map_some, Option.some.injEq] at e1
  have hrj : RepV P A (Xof X0 (lookO g.ob) ph) w kt z'.key (l.getD j (.und, .und)).1 := ⟨_, h3 j hj, e1⟩
  obtain ⟨d2, hd2, hi2, _⟩ := key_is hkey hrj
  rw [hkd] at hd2
  injection hd2 with hd2
  subst hd2
  exact ⟨hi2, same_key hkey hrj ⟨csk, hRk, hvk⟩⟩
 have hfr0 : ∀ {α : Type} (f : MapEntry → α) (e' : Array MapEntry) (j : Nat), (e'[j]?).map f = (e'.toList[j]?).map f := fun f e' j => by rw [Array.getElem?_toList]
 rcases find_spec (vd := vd) hik es.toList l 0 hes hks with ⟨hf, hp⟩ | ⟨j, z', hf, hz', hkz, hp⟩
 ·refine fin (es.push { key := a.eval y, val := a.eval z, born := clock }) (clock + 1) (fun j => if j = l.length then csk else ck j) (fun j => if j = l.length then cs else ce j) (l ++ [(kd, vd)]) hp.symm (by simp [hl]) (fun j hj => ?_) (fun j hj => ?_) (fun X' w' hfr hRv' => ⟨fun j hj => ?_, fun j hj => ?_⟩) (fun x hx => ?_) ?_ ?_
  ·rw [List.length_append, List.length_singleton] at hj
   by_cases e : j = l.length
   ·subst e
    simp [← hl, hvk]
   ·rw [if_neg e, Array.getElem?_push, if_neg (by omega)]
    exact h1 j (by omega)
  ·rw [List.length_append, List.length_singleton] at hj
   by_cases e : j = l.length
   ·subst e
    simp [← hl, hvz]
   ·rw [if_neg e, Array.getElem?_push, if_neg (by omega)]
    exact h2 j (by omega)
  ·rw [List.length_append, List.length_singleton] at hj
   by_cases e : j = l.length
   ·subst e
    rw [if_pos rfl, List.getD_eq_getElem?_getD, List.getElem?_append_right (Nat.le_refl _)]
    simpa using hRk' X' w'
   ·rw [if_neg e, List.getD_eq_getElem?_getD, List.getElem?_append_left (by omega), ← List.getD_eq_getElem?_getD]
    exact hfr (h3 j (by omega))
  ·rw [List.length_append, List.length_singleton] at hj
   by_cases e : j = l.length
   ·subst e
    rw [if_pos rfl, List.getD_eq_getElem?_getD, List.getElem?_append_right (Nat.le_refl _)]
    simpa using hRv'
   ·rw [if_neg e, List.getD_eq_getElem?_getD, List.getElem?_append_left (by omega), ← List.getD_eq_getElem?_getD]
    exact hfr (h4 j (by omega))
  ·simp only [Array.toList_push, List.mem_append, List.mem_singleton] at hx
   rcases hx with hx | rfl
   ·have := h5 x hx; omega
   ·exact Nat.lt_succ_self _
  ·simp only [Array.toList_push, List.map_append, List.map_cons, List.map_nil, List.nodup_append]
   refine ⟨h6, by simp, fun b hb c hc e => ?_⟩
   simp only [List.mem_singleton] at hc
   obtain ⟨x, hx, rfl⟩ := List.mem_map.1 hb
   have := h5 x hx
   omega
  ·simp [Instr.mapUpdate, run_underlying (und_map hk), run_getMap hr, run_checkKey hkd hik, run_findKey hkd hf, run_setMap hr]
 ·have hjl : j < l.length := by rw [← hes]; exact (List.getElem?_eq_some_iff.1 hz').1
  rw [Nat.zero_add] at hf
  have hzj : es[j]? = some z' := by rw [← Array.getElem?_toList]; exact hz'
  have hmod : ∀ i, (es.modify j fun e => { e with key := a.eval y, val := a.eval z })[i]? = if j = i then (es[i]?).map (fun e => { e with key := a.eval y, val := a.eval z }) else es[i]? := fun i => by rw [Array.getElem?_modify]
  have hborn : (es.modify j fun e => { e with key := a.eval y, val := a.eval z }).toList.map (·.born) = es.toList.map (·.born) := by
   apply List.ext_getElem?
   intro i
   simp only [List.getElem?_map, Array.getElem?_toList, hmod]
   split
   ·rename_i e; subst e; rw [hzj]; rfl
   ·rfl
  refine fin (es.modify j fun e => { e with key := a.eval y, val := a.eval z }) clock (fun i => if i = j then csk else ck i) (fun i => if i = j then cs else ce i) (l.set j (kd, vd)) hp.symm (by simp [hl]) (fun i hi => ?_) (fun i hi => ?_) (fun X' w' hfr hRv' => ⟨fun i hi => ?_, fun i hi => ?_⟩) (fun x hx => ?_) (by rw [hborn]; exact h6) ?_
  ·rw [List.length_set] at hi
   rw [hmod]
   by_cases e : i = j
   ·subst e
    rw [if_pos rfl, if_pos rfl, hzj]
    simp [hvk]
   ·rw [if_neg (fun h => e h.symm), if_neg e]
    exact h1 i hi
  ·rw [List.length_set] at hi
   rw [hmod]
   by_cases e : i = j
   ·subst e
    rw [if_pos rfl, if_pos rfl, hzj]
    simp [hvz]
   ·rw [if_neg (fun h => e h.symm), if_neg e]
    exact h2 i hi
  ·rw [List.length_set] at hi
   rw [getD_set_eq hjl]
   by_cases e : i = j
   ·rw [if_pos e, if_pos e]; exact hRk' X' w'
   ·rw [if_neg e, if_neg e]; exact hfr (h3 i hi)
  ·rw [List.length_set] at hi
   rw [getD_set_eq hjl]
   by_cases e : i = j
   ·rw [if_pos e, if_pos e]; exact hRv'
   ·rw [if_neg e, if_neg e]; exact hfr (h4 i hi)
  ·have : x.born ∈ (es.modify j fun e => { e with key := a.eval y, val := a.eval z }).toList.map (·.born) := List.mem_map_of_mem hx
   rw [hborn] at this
   obtain ⟨x2, hx2, e⟩ := List.mem_map.1 this
   rw [← e]
   exact h5 x2 hx2
  ·have hst : (Instr.keyThatStays (((es[j]?).map (·.key)).getD (a.eval y)) (a.eval y)).run P w = .ok (a.eval y) w := by
    rw [hzj]
    simp only [Option.map_some, Option.getD_some, hkz]
    unfold Instr.keyThatStays
    rw [if_pos hsb]
    rfl
   simp only [Instr.mapUpdate, Sem.run_bind, run_underlying (und_map hk), Result.andThen_ok, run_getMap hr, run_checkKey hkd hik, run_findKey hkd hf, hst, run_setMap hr]

theorem find_get {d : TypeDesc} {k : Value} {kd : D} (hk : IsKey d k) : ∀ (l : List MapEntry) (ds : List (D × D)) (i : Nat), l.length = ds.length →
  (∀ j z, l[j]? = some z → IsKey d z.key ∧ (D.same 8 (ds.getD j (.und, .und)).1 kd = true ↔ z.key = k)) →
  (Instr.findNow d k l i = some none ∧ mapGet ds kd = none) ∨ ∃ j z, Instr.findNow d k l i = some (some (i + j, z.val)) ∧ l[j]? = some z ∧ mapGet ds kd = some (ds.getD j (.und, .und)).2
 | [], [], i, _, _ => .inl ⟨rfl, rfl⟩
 | [], x :: ds, i, h, _ => by simp at h
 | z :: l, [], i, h, _ => by simp at h
 | z :: l, (a, b) :: ds, i, h, hl => by
  obtain ⟨h1, h2⟩ := hl 0 z rfl
  obtain ⟨r, hr, hiff⟩ := sameNow_of_keys hk h1
  have ha : ((a, b) :: ds).getD 0 (D.und, D.und) = (a, b) := rfl
  rw [ha] at h2
  cases r with
  | true =>
   have e : z.key = k := (hiff.1 rfl).symm
   refine .inr ⟨0, z, by simp [Instr.findNow, hr], rfl, ?_⟩
   simp only [mapGet, h2.2 e, cond_true]
   rfl
  | false =>
   have hne : z.key ≠ k := fun q => by have := hiff.2 q.symm; cases this
   have hs : D.same 8 a kd = false := by
    cases e : D.same 8 a kd
    ·rfl
    ·exact absurd (h2.1 e) hne
   rcases find_get hk l ds (i + 1) (by simpa using h) (fun j y hy => hl (j + 1) y hy) with ⟨g1, g2⟩ | ⟨j, y, g1, g2, g3⟩
   ·exact .inl ⟨by simp [Instr.findNow, hr, g1], by simp only [mapGet, hs, cond_false, g2]⟩
   ·refine .inr ⟨j + 1, y, ?_, g2, by simp only [mapGet, hs, cond_false, g3]; rfl⟩
    simp [Instr.findNow, hr, g1]
    omega

/-- A LOOK into a map. -/
theorem step_lookup {t : Nat} {x y : Operand} (W : WF P) (ho : o.op = .lookup t x y false) (R : RelA P A X0 Y0 w0 g ph a w) (h : lookupD P (lookO g.ob) t (g.av x) (g.av y) (onV K)) : Does P o a w (Out P A X0 Y0 w0 g a K) := by
 unfold lookupD at h
 split at h <;> try contradiction
 rename_i kt et hk
 obtain ⟨hg, h⟩ := of_cond h
 simp only [Bool.and_eq_true] at hg
 obtain ⟨hkey, hgood⟩ := hg
 split at h <;> try contradiction
 rename_i m u kd hav hdk
 obtain ⟨htu, h⟩ := of_cond h
 split at h <;> try contradiction
 rename_i ob hob
 split at h <;> try contradiction
 rename_i hsh
 have hx := AVR.eval R x
 rw [hav] at hx
 have hO := R.objs.ok m ob hob
 obtain ⟨_, htk, hvx⟩ := val_root hO hob hx
 have hkm : tk P ob.t = .map kt et := htk.trans ((sameK_eq htu).symm.trans hk)
 obtain ⟨X1, _, hrk⟩ := slot_rep W R hdk
 obtain ⟨kdesc, hkd, hik, hsb, _⟩ := key_is hkey hrk
 have hown := hO.own
 rw [hsh] at hown
 have hrows : ∃ (r clock : Nat) (es : Array MapEntry) (l : List (D × D)) (ck ce : Nat → List Value), (ph m).cs = [.map (some r)] ∧ ob.d = .map l ∧ w.heap[r]? = some (.map es clock) ∧ es.size = l.length ∧ (∀ j, j < l.length → (es[j]?).map (·.key) = some (mkV P kt (ck j))) ∧ (∀ j, j < l.length → (es[j]?).map (·.val) = some (mkV P et (ce j))) ∧
   (∀ j, j < l.length → Rep P A (Xof X0 (lookO g.ob) ph) w kt (ck j) (l.getD j (.und, .und)).1) ∧ (∀ j, j < l.length → Rep P A (Xof X0 (lookO g.ob) ph) w et (ce j) (l.getD j (.und, .und)).2) := by
  generalize (ph m).L = L at hown
  generalize (ph m).cs = cs at hown
  generalize ob.d = d at hown
  cases hown with
  | mp hk' hr hl h1 h2 h3 h4 h5 h6 =>
   rw [hk'] at hkm
   injection hkm with e1 e2
   subst e1 e2
   exact ⟨_, _, _, _, _, _, rfl, rfl, hr, hl, h1, h2, h3, h4⟩
 obtain ⟨r, clock, es, l, ck, ce, hcm, hdm, hr, hl, h1, h2, h3, h4⟩ := hrows
 have hdl : ob.d.es = l := by rw [hdm]; rfl
 rw [hdl] at h
 have hvx' : a.eval x = .map (some r) := by rw [hvx, hcm, mkV_one (by rw [hkm]; rfl)]
 have hes : es.toList.length = l.length := by simpa using hl
 have hks : ∀ j z', es.toList[j]? = some z' → IsKey kdesc z'.key ∧ (D.same 8 (l.getD j (.und, .und)).1 kd = true ↔ z'.key = a.eval y) := fun j z' hz' => by
  have hj : j < l.length := by rw [← hes]; exact (List.getElem?_eq_some_iff.1 hz').1
  have e1 := h1 j hj
  rw [Array.getElem?_toList] at hz'
  rw [hz'] at e1
  simp only [Option.map_some, Option.some.injEq] at e1
  have hrj : RepV P A (Xof X0 (lookO g.ob) ph) w kt z'.key (l.getD j (.und, .und)).1 := ⟨_, h3 j hj, e1⟩
  obtain ⟨d2, hd2, hi2, _⟩ := key_is hkey hrj
  rw [hkd] at hd2
  injection hd2 with hd2
  subst hd2
  exact ⟨hi2, same_key hkey hrj hrk⟩
 rcases find_get hik es.toList l 0 hes hks with ⟨hf, hp⟩ | ⟨j, z', hf, hz', hp⟩
 ·obtain ⟨i, zs, z1, z2, z3⟩ := W.zero et hgood
  have hzr := zero_rep (A := A) (X := Xof X0 (lookO g.ob) ph) (w := w) 8 et zs z3
  rw [hp] at h
  refine Does.value (v := mkV P et zs) (w' := w) ?_ (Out.pure R h ⟨zs, hzr, rfl⟩)
  have hz := run_zeroValue (w := w) z1 z2
  simp [execOp, ho, hvx', Instr.lookup, run_underlying (und_map hk), run_getMap hr, run_checkKey hkd hik, run_findKey hkd hf, hz]
 ·have hj : j < l.length := by rw [← hes]; exact (List.getElem?_eq_some_iff.1 hz').1
  rw [hp] at h
  rw [Array.getElem?_toList] at hz'
  have e2 := h2 j hj
  rw [hz'] at e2
  simp only [Option.map_some, Option.some.injEq] at e2
  refine Does.value (v := z'.val) (w' := w) ?_ (Out.pure R h ⟨ce j, h4 j hj, e2⟩)
  simp [execOp, ho, hvx', Instr.lookup, run_underlying (und_map hk), run_getMap hr, run_checkKey hkd hik, run_findKey hkd hf]

end
end Go.Ab

/- Commands: what is owned is seen otherwise. -/
namespace Go.Ab
variable {P : Program} {A : Ann}

section
variable {X0 Y0 : Nat → Prop} {w0 : World} {g g' : St} {ph : Nat → Ph} {a : Act} {w w' : World}

theorem look_cons (i : Nat) (v : AV) (sl : Env) (k : Nat) : look ((i, v) :: sl) k = if i = k then v else look sl k := by
 simp only [look, cond_eq, beq_iff]
theorem lookO_cons (i : Nat) (v : Option Obj) (sl : Objs) (k : Nat) : lookO ((i, v) :: sl) k = if i = k then v else lookO sl k := by
 simp only [lookO, cond_eq, beq_iff]

theorem RelD.app_none {δ : Dl} {v : Value} (h : RelD P A X0 Y0 w0 (look g.sl) (lookO g.ob) a.tmps δ v w') : ∃ ph', RelA P A X0 Y0 w0 (g.app none δ) ph' a w' := by
 obtain ⟨ph', h1, h2, _, h4⟩ := h
 have e1 : lookO (g.app none δ).ob = upO δ.os (lookO g.ob) := funext fun k => lookO_append δ.os g.ob k
 have e2 : ∀ s, look (g.app none δ).sl s = strike δ.ks (look g.sl s) := fun s => look_strikes δ.ks g.sl s
 refine ⟨ph', ?_, fun s => ?_, h4⟩
 ·rw [e1]; exact h1
 ·rw [e1, e2]; exact h2 s

theorem RelD.app_some {δ : Dl} {v : Value} {d : Nat} (h : RelD P A X0 Y0 w0 (look g.sl) (lookO g.ob) a.tmps δ v w') {a' : Act} (hd : a'.tmps.getD d undef = v) (ho : ∀ s, s ≠ d → a'.tmps.getD s undef = a.tmps.getD s undef) : ∃ ph', RelA P A X0 Y0 w0 (g.app (some d) δ) ph' a' w' := by
 obtain ⟨ph', h1, h2, h3, h4⟩ := h
 have e1 : lookO (g.app (some d) δ).ob = upO δ.os (lookO g.ob) := funext fun k => lookO_append δ.os g.ob k
 refine ⟨ph', ?_, fun s => ?_, h4⟩
 ·rw [e1]; exact h1
 ·rw [e1]
  show AVR P A _ w' _ ph' (look ((d, δ.v) :: strikes δ.ks g.sl) s) _
  rw [look_cons]
  by_cases e : d = s
  ·subst e; rw [if_pos rfl, hd]; exact h3
  ·rw [if_neg e, look_strikes, ho s (fun h => e h.symm)]; exact h2 s

theorem put_same {a : Act} {d : Nat} {v : Value} (h : d < a.tmps.size) : (a.put (some d) v).tmps.getD d undef = v := by
 simp [Act.put, h]
theorem put_other {a : Act} {d s : Nat} {v : Value} (h : s ≠ d) : (a.put (some d) v).tmps.getD s undef = a.tmps.getD s undef := by
 simp [Act.put, Array.getD_eq_getD_getElem?, Array.getElem?_setIfInBounds, Ne.symm h]

theorem RelD.app {δ : Dl} {v : Value} {dst : Option Nat} (h : RelD P A X0 Y0 w0 (look g.sl) (lookO g.ob) a.tmps δ v w') (hd : ∀ d, dst = some d → d < a.tmps.size) : ∃ ph', RelA P A X0 Y0 w0 (g.app dst δ) ph' (a.put dst v) w' := by
 cases dst with
 | none => exact h.app_none
 | some d => exact h.app_some (put_same (hd d rfl)) fun s hs => put_other hs

/-- Weaker ownership. -/
theorem weakAt_rel (R : RelA P A X0 Y0 w0 g ph a w) {k : Nat} {sh : Sh} (h : g.weakAt k sh = some g') : ∃ ph', RelA P A X0 Y0 w0 g' ph' a w := by
 unfold St.weakAt at h
 split at h <;> try contradiction
 rename_i ob hob
 rw [cond_eq] at h
 split at h <;> try contradiction
 rename_i hw
 simp only [Option.some.injEq] at h
 subst h
 have hO := R.objs.ok k ob hob
 have hnL : (ph k).L.blocks.Nodup := by
  have := hO.nodup
  simp only [Ph.F, Ph.S, List.nodup_append] at this
  exact this.2.1.1
 obtain ⟨L', hL⟩ := hO.own.weakN 8 sh hw hnL
 let p' : Ph := ⟨(ph k).cs, (ph k).rb, L', (ph k).G⟩
 have hk' : upPh ph k p' k = p' := by simp [upPh]
 have hobk : upO [(k, some { ob with sh })] (lookO g.ob) k = some { ob with sh } := by rw [upO_new, if_pos rfl]
 have hobo : ∀ c, c ≠ k → upO [(k, some { ob with sh })] (lookO g.ob) c = lookO g.ob c := fun c hc => by rw [upO_new, if_neg hc]; rfl
 have hF : ∀ b ∈ p'.F, b ∈ (ph k).F := fun b hb => by
  simp only [p', Ph.F, Ph.S, List.mem_append] at hb ⊢
  rcases hb with h | h | h
  ·exact .inl h
  ·exact .inr (.inl (hL.sub b h))
  ·exact .inr (.inr h)
 have hni : ob.sh ≠ .it ∧ sh ≠ .it := by
  constructor
  ·intro e
   have h2 : ob.sh.weak sh = true := hw
   rw [e] at h2
   cases sh <;> simp [Sh.weak, Sh.weakN, Sh.plain] at h2
  ·intro e
   have h2 : ob.sh.weak sh = true := hw
   rw [e] at h2
   cases h3 : ob.sh <;> rw [h3] at h2 <;> simp [Sh.weak, Sh.weakN] at h2
 have hdrop : ∀ b ∈ (ph k).L.blocks, b ∉ L'.blocks → ¬ Xof X0 (upO [(k, some { ob with sh })] (lookO g.ob)) (upPh ph k p') b := by
  have hn := hO.nodup
  simp only [Ph.F, Ph.S, List.nodup_append] at hn
  rintro b hb hnb (hx | ⟨c, z, hz, hm⟩)
  ·exact R.objs.free k ob hob b (by simp [Ph.F, Ph.S, hb]) hx
  ·by_cases hc : c = k
   ·subst hc
    rw [hk'] at hm
    simp only [p', Ph.F, Ph.S, List.mem_append] at hm
    rcases hm with h | h | h
    ·exact hn.2.2 b h b (by simp [hb]) rfl
    ·exact hnb h
    ·exact hn.2.1.2.2 b hb b h rfl
   ·rw [hobo c hc] at hz
    simp only [upPh, if_neg hc] at hm
    exact R.objs.apart c z k ob hz hob hc b hm (by simp [Ph.F, Ph.S, hb])
 refine RelD.app_none (v := undef) (RelD.upd (D := fun c => c = k) (ph' := upPh ph k p') R ((Keeps.refl (fun _ => False) w).mono fun _ h => h.elim) (fun c hc => ⟨hobo c hc, by simp only [upPh, if_neg hc]⟩) (fun c z hd hz b hb => ?_) (fun c z c' z' hd hd' _ _ hcc => absurd (hd.trans hd'.symm) hcc) (fun hX c z hd hz => ?_) (fun hX s => ?_) fun hX => rfl)
 ·subst hd
  rw [hk'] at hb
  exact .inr ⟨c, ob, rfl, hob, hF b hb⟩
 ·subst hd
  have hz' := hz
  rw [hobk] at hz'
  injection hz' with hz'
  subst hz'
  rw [hk']
  refine ⟨hL.own _ hX hdrop, hO.box, hO.hdr, ?_, fun b hb => hO.lt b (hF b hb)⟩
  have := hO.nodup
  simp only [Ph.F, Ph.S, List.nodup_append] at this
  simp only [p', Ph.F, Ph.S, List.nodup_append]
  refine ⟨this.1, ⟨hL.nodup, this.2.1.2.1, fun x hx y hy => this.2.1.2.2 x (hL.sub x hx) y hy⟩, fun x hx y hy => this.2.2 x hx y ?_⟩
  simp only [List.mem_append] at hy ⊢
  rcases hy with h | h
  ·exact .inl (hL.sub y h)
  ·exact .inr h
 ·refine AVR.stays (Nat.le_refl _) hX (fun _ _ _ => rfl) (by simp [KM.isApp]) (fun c z hz => ?_) (fun c z z' hz hz' _ _ _ b hb hh => ⟨hX b hb hh.1, fun hm => ?_⟩) (R.slots s)
  ·by_cases hc : c = k
   ·subst hc
    have hz' := hz
    rw [hobk] at hz'
    injection hz' with hz'
    subst hz'
    refine .wk ob.box (by simp) hob hz rfl hni.1 hni.2 (by rw [hk']) (fun hb => ⟨hO.hdr hb, by rw [hk'], fun v hv => ?_⟩) (fun _ _ => rfl)
    obtain ⟨e1, e2⟩ := hO.own.header hv
    rw [e1, mkV_one e2]
   ·exact .same (hobo c hc) (by simp only [upPh, if_neg hc]) fun _ _ => rfl
  ·by_cases hc : c = k
   ·subst hc
    have h1 := hh.2
    rw [hk'] at h1
    simp only [p', Ph.S, List.mem_append, not_or] at h1
    simp only [Ph.S, List.mem_append] at hm
    rcases hm with hm | hm
    ·exact hdrop b hm h1.1 hh.1
    ·exact h1.2 hm
   ·have h1 := hh.2
    simp only [upPh, if_neg hc] at h1
    exact h1 hm

theorem frzAt_rel (R : RelA P A X0 Y0 w0 g ph a w) {k : Nat} {p : Pth} (h : g.frzAt k p = some g') : ∃ ph', RelA P A X0 Y0 w0 g' ph' a w := by
 unfold St.frzAt at h
 split at h <;> try contradiction
 split at h <;> try contradiction
 exact weakAt_rel R h

theorem RelA.slot (R : RelA P A X0 Y0 w0 g ph a w) {s : Nat} {av : AV} (h : AVR P A (Xof X0 (lookO g.ob) ph) w (lookO g.ob) ph av (a.tmps.getD s undef)) : RelA P A X0 Y0 w0 { g with sl := (s, av) :: g.sl } ph a w :=
 ⟨R.objs, fun k => by
  show AVR P A _ w _ ph (look ((s, av) :: g.sl) k) _
  rw [look_cons]
  by_cases e : s = k
  ·subst e; rw [if_pos rfl]; exact h
  ·rw [if_neg e]; exact R.slots k, R.keeps⟩

theorem immAt_rel (W : WF P) (R : RelA P A X0 Y0 w0 g ph a w) {s : Nat} (h : g.immAt s = some g') : ∃ ph', RelA P A X0 Y0 w0 g' ph' a w := by
 have hs := R.slots s
 unfold St.immAt at h
 split at h <;> try contradiction
 ·rename_i k p t hl
  split at h <;> try contradiction
  rename_i ob hob
  split at h <;> try contradiction
  rename_i hg
  simp only [Option.some.injEq] at h
  subst h
  rw [hl] at hs
  exact ⟨ph, R.slot (val_imm W (R.objs.ok k ob hob) hob hs hg)⟩
 ·rename_i t hl
  simp only [Option.some.injEq] at h
  subst h
  rw [hl] at hs
  obtain ⟨hv, e, he⟩ := hs
  exact ⟨ph, R.slot ⟨[.slice none 0 0], .slcN he, hv.trans (mkV_one (by rw [he]; rfl)).symm⟩⟩
 ·simp only [Option.some.injEq] at h
  subst h
  exact ⟨ph, R⟩

/-- References that fall, fall. -/
theorem AVR.fallen {X : Nat → Prop} {ob : Nat → Option Obj} {a : AV} {v : Value} (o : Nat) (h : AVR P A X w ob ph a v) : AVR P A X w ob ph (strike [(o, .all)] a) v :=
 AVR.stays (Nat.le_refl _) (fun _ _ h => h) (fun _ _ _ => rfl) (by simp [KM.isApp]) (fun c z hz => .same rfl rfl fun _ _ => rfl) (fun c z z' _ _ _ _ _ b _ hh => hh) h

theorem RelA.fallen (R : RelA P A X0 Y0 w0 g ph a w) (o : Nat) : RelA P A X0 Y0 w0 { g with sl := strikes [(o, .all)] g.sl } ph a w :=
 ⟨R.objs, fun k => by
  show AVR P A _ w _ ph (look (strikes [(o, .all)] g.sl) k) _
  rw [look_strikes]
  exact (R.slots k).fallen o, R.keeps⟩

theorem strikes_strikes (k : Nat × KM) (ks : List (Nat × KM)) (hks : ks ≠ []) (sl : Env) : strikes ks (strikes [k] sl) = strikes (k :: ks) sl := by
 cases ks with
 | nil => exact absurd rfl hks
 | cons x ks => simp only [strikes, List.map_map, strike]; rfl

theorem of_condU {α : Type _} {b : Bool} {x y : α} (h : cond b (some x) none = some y) : b = true ∧ x = y := by
 cases b
 ·cases h
 ·exact ⟨rfl, by simpa using h⟩

theorem unbox_rel (W : WF P) (R : RelA P A X0 Y0 w0 g ph a w) {s k u : Nat} {ob : Obj} (hl : look g.sl s = .ptr k [] u) (hob : lookO g.ob k = some ob) (hbx : ob.box = true) {l : List (Nat × Sh)} (hsh : ob.sh = .agg l) (hku : sameK P ob.t u = true) :
  ∃ ph', RelA P A X0 Y0 w0 (g.app (some s) { v := .vptr k [] u, os := [(k, some { ob with box := false })], ks := [(k, .all)] }) ph' a w := by
 have hs := R.slots s
 rw [hl] at hs
 have hO := R.objs.ok k ob hob
 obtain ⟨b, off, u', e1, e2, _, _⟩ := hs ob hob
 obtain ⟨b1, E, cc, hrb, hblk, hcc⟩ := hO.box hbx
 have hloc : b1 = b ∧ 0 = off := by
  simp only [Lt.loc, Ph.root, hrb, Option.map_some, Option.some.injEq, Prod.mk.injEq] at e2
  exact e2
 obtain ⟨rfl, rfl⟩ := hloc
 let p' : Ph := ⟨(ph k).cs, none, (ph k).L, (ph k).G⟩
 have hk' : upPh ph k p' k = p' := by simp [upPh]
 have hobk : upO [(k, some { ob with box := false })] (lookO g.ob) k = some { ob with box := false } := by rw [upO_new, if_pos rfl]
 have hobo : ∀ c, c ≠ k → upO [(k, some { ob with box := false })] (lookO g.ob) c = lookO g.ob c := fun c hc => by rw [upO_new, if_neg hc]; rfl
 have hF : ∀ b ∈ p'.F, b ∈ (ph k).F := fun b hb => by
  simp only [p', Ph.F, Option.toList, List.nil_append] at hb
  simp only [Ph.F, List.mem_append]
  exact .inr hb
 have hnod : b1 ∉ (ph k).S := by
  have := hO.nodup
  simp only [Ph.F, hrb, Option.toList, List.singleton_append, List.nodup_cons] at this
  exact this.1
 have hbF : b1 ∈ (ph k).F := by simp [Ph.F, hrb]
 refine RelD.app_some (v := a.tmps.getD s undef) (a' := a) (RelD.upd (D := fun c => c = k) (ph' := upPh ph k p') R ((Keeps.refl (fun _ => False) w).mono fun _ h => h.elim) (fun c hc => ⟨hobo c hc, by simp only [upPh, if_neg hc]⟩) (fun c z hd hz b hb => ?_) (fun c z c' z' hd hd' _ _ hcc => absurd (hd.trans hd'.symm) hcc) (fun hX c z hd hz => ?_) (fun hX s => ?_) fun hX => ?_) rfl fun _ _ => rfl
 ·subst hd
  rw [hk'] at hb
  exact .inr ⟨c, ob, rfl, hob, hF b hb⟩
 ·subst hd
  have hz' := hz
  rw [hobk] at hz'
  injection hz' with hz'
  subst hz'
  rw [hk']
  refine ⟨hO.own.frame (Nat.le_refl _) hX (fun _ _ _ => rfl) (fun _ _ => rfl), (fun h => by cases h), fun _ => rfl, ?_, fun b hb => hO.lt b (hF b hb)⟩
  have := hO.nodup
  simp only [Ph.F, List.nodup_append] at this
  simp only [p', Ph.F, Option.toList, List.nil_append]
  exact this.2.1
 ·refine AVR.stays (Nat.le_refl _) hX (fun _ _ _ => rfl) (by simp [KM.isApp]) (fun c z hz => ?_) (fun c z z' hz hz' hna _ _ b hb hh => ⟨hX b hb hh.1, fun hm => ?_⟩) (R.slots s)
  ·by_cases hc : c = k
   ·subst hc
    exact .all (by simp)
   ·exact .same (hobo c hc) (by simp only [upPh, if_neg hc]) fun _ _ => rfl
  ·by_cases hc : c = k
   ·subst hc
    exact hna (by simp)
   ·have h1 := hh.2
    simp only [upPh, if_neg hc] at h1
    exact h1 hm
 ·have hkk := sameK_eq hku
  have hne : tk P ob.t ≠ .other := by
   have hown := hO.own
   rw [hsh] at hown
   generalize ob.d = dd at hown
   generalize (ph k).L = L at hown
   generalize (ph k).cs = cc at hown
   cases hown with
   | agg h => rw [h]; simp
  refine ⟨b1, 0, (ph k).cs, e1, fun hx => ?_, hO.lt b1 hbF, fun i hi => ?_, by rw [hO.own.length W]; exact W.kind _ _ hkk hne, fun y hy => ?_⟩
  ·rcases hx with h | ⟨c, z, hz, hm⟩
   ·exact R.objs.free k ob hob b1 hbF h
   ·by_cases hc : c = k
    ·subst hc
     rw [hk'] at hm
     simp only [p', Ph.F, Option.toList, List.nil_append] at hm
     exact hnod hm
    ·rw [hobo c hc] at hz
     simp only [upPh, if_neg hc] at hm
     exact R.objs.apart c z k ob hz hob hc b1 hm hbF
  ·rw [Nat.zero_add, cell_of_block hblk, ← hcc, Array.getElem?_toList]
  ·rw [hobk] at hy
   injection hy with hy
   subst hy
   rw [hk']
   refine ⟨fun e => ?_, fun _ => ⟨ob.t, rfl, hkk, .inr ⟨rfl, rfl, (mkV_kind hkk).symm⟩⟩⟩
   have : ob.sh = .it := e
   rw [hsh] at this
   cases this

theorem imb_rel (W : WF P) (R : RelA P A X0 Y0 w0 g ph a w) {s k u : Nat} {ob : Obj} (hl : look g.sl s = .ptr k [] u) (hob : lookO g.ob k = some ob) (hbx : ob.box = true) (hku : sameK P ob.t u = true) (hpl : ob.sh.plain 8 = true) :
  ∃ ph', RelA P A X0 Y0 w0 (g.app (some s) { v := .iptr u ob.d, os := [(k, none)], ks := [(k, .all)] }) ph' a w := by
 have hs := R.slots s
 rw [hl] at hs
 have hO := R.objs.ok k ob hob
 obtain ⟨b, off, u', e1, e2, _, _⟩ := hs ob hob
 obtain ⟨b1, E, cc, hrb, hblk, hcc⟩ := hO.box hbx
 have hloc : b1 = b ∧ 0 = off := by
  simp only [Lt.loc, Ph.root, hrb, Option.map_some, Option.some.injEq, Prod.mk.injEq] at e2
  exact e2
 obtain ⟨rfl, rfl⟩ := hloc
 have hobk : upO [(k, none)] (lookO g.ob) k = none := by simp [upO, findO]
 have hobo : ∀ c, c ≠ k → upO [(k, none)] (lookO g.ob) c = lookO g.ob c := fun c hc => by
  have : Nat.beq k c = false := by rw [Bool.eq_false_iff, Ne, beq_iff]; exact fun e => hc e.symm
  simp [upO, findO, this, Ne.symm hc]
 have hbF : b1 ∈ (ph k).F := by simp [Ph.F, hrb]
 have hout : ∀ b ∈ (ph k).F, ¬ Xof X0 (upO [(k, none)] (lookO g.ob)) ph b := fun b hb hx => by
  rcases hx with h | ⟨c, z, hz, hm⟩
  ·exact R.objs.free k ob hob b hb h
  ·by_cases hc : c = k
   ·subst hc
    rw [hobk] at hz
    cases hz
   ·rw [hobo c hc] at hz
    exact R.objs.apart c z k ob hz hob hc b hm hb
 refine RelD.app_some (v := a.tmps.getD s undef) (a' := a) (RelD.upd (D := fun c => c = k) (ph' := ph) R ((Keeps.refl (fun _ => False) w).mono fun _ h => h.elim) (fun c hc => ⟨hobo c hc, rfl⟩) (fun c z hd hz b hb => ?_) (fun c z c' z' hd hd' _ _ hcc => absurd (hd.trans hd'.symm) hcc) (fun hX c z hd hz => ?_) (fun hX s => ?_) fun hX => ?_) rfl fun _ _ => rfl
 ·subst hd
  rw [hobk] at hz
  cases hz
 ·subst hd
  rw [hobk] at hz
  cases hz
 ·refine AVR.stays (Nat.le_refl _) hX (fun _ _ _ => rfl) (by simp [KM.isApp]) (fun c z hz => ?_) (fun c z z' hz hz' hna _ _ b hb hh => ⟨hX b hb hh.1, hh.2⟩) (R.slots s)
  by_cases hc : c = k
  ·subst hc
   exact .all (by simp)
  ·exact .same (hobo c hc) rfl fun _ _ => rfl
 ·refine ⟨b1, 0, (ph k).cs, e1, hout b1 hbF, hO.lt b1 hbF, fun i hi => ?_, ?_⟩
  ·rw [Nat.zero_add, cell_of_block hblk, ← hcc, Array.getElem?_toList]
  ·exact (hO.own.plain hX 8 (.inr hpl) fun b hb => hout b (by simp only [Ph.F, Ph.S, List.mem_append]; exact .inr (.inl hb))).kind W.kind (sameK_eq hku)

theorem run1_rel (W : WF P) (R : RelA P A X0 Y0 w0 g ph a w) {c : Cmd} (h : g.run1 P c = some g') : ∃ ph', RelA P A X0 Y0 w0 g' ph' a w := by
 cases c with
 | weak o sh => exact weakAt_rel R h
 | frz o p => exact frzAt_rel R h
 | thaw s sh =>
  have hs := R.slots s
  simp only [St.run1] at h
  split at h <;> try contradiction
  ·rename_i t hl
   split at h <;> try contradiction
   simp only [Option.some.injEq] at h
   subst h
   rw [hl] at hs
   obtain ⟨hv, e, he⟩ := hs
   have hval : mkV P t [.slice none 0 0] = a.tmps.getD s undef := by rw [hv]; exact mkV_one (by rw [he]; rfl)
   have := newVal (dst := s) (t := t) (cs := [.slice none 0 0]) (L := .nil) (s := .slc sh none) (d := .slc []) (os := []) R (Keeps.refl _ w) (fun X' _ _ => Own.nil he) (by simp) (by simp [Lt.blocks]) (by simp [Lt.blocks]) (fun _ => .inl rfl) (by simp [Lt.blocks])
   exact RelD.app_some this hval.symm fun _ _ => rfl
  ·simp only [Option.some.injEq] at h
   subst h
   exact ⟨ph, R⟩
 | imm s => exact immAt_rel W R h
 | freeze s =>
  simp only [St.run1] at h
  split at h
  ·split at h <;> try contradiction
   rename_i g1 hg1
   obtain ⟨ph1, R1⟩ := frzAt_rel R hg1
   exact immAt_rel W R1 h
  ·exact immAt_rel W R h
 | home s =>
  have hs := R.slots s
  simp only [St.run1] at h
  split at h <;> try contradiction
  ·rename_i o t hl
   rw [hl] at hs
   rw [cond_eq] at h
   split at h
   ·simp only [Option.some.injEq] at h; subst h; exact ⟨ph, R⟩
   ·split at h <;> try contradiction
    rename_i ob hob
    simp only [Option.some.injEq] at h
    subst h
    have h1 := RelD.rename (dst := s) (k := o) (x := ob) (v := a.tmps.getD s undef) (av := .val s [] t) (R.fallen o) hob fun X ob' p hd hp => val_moves hs hob hd hp
    obtain ⟨ph', h2⟩ := RelD.app_some (a' := a) h1 rfl fun _ _ => rfl
    refine ⟨ph', ?_⟩
    have e : strikes [(s, .all)] (strikes [(o, .all)] g.sl) = strikes [(o, .all), (s, .all)] g.sl := strikes_strikes _ _ (by simp) _
    have : ({ g with sl := strikes [(o, .all)] g.sl } : St).app (some s) (newO (lookO g.ob) s (.val s [] t) ob [(o, none)]) = g.app (some s) { v := .val s [] t, os := [(s, some ob), (o, none)], ks := (o, .all) :: overs [(s, some ob)] } := by
     simp only [St.app, newO, e, overs, List.map_cons, List.map_nil]
    rw [← this]
    exact h2
  ·rename_i o t hl
   rw [hl] at hs
   rw [cond_eq] at h
   split at h
   ·simp only [Option.some.injEq] at h; subst h; exact ⟨ph, R⟩
   ·split at h <;> try contradiction
    rename_i ob hob
    simp only [Option.some.injEq] at h
    subst h
    have h1 := RelD.rename (dst := s) (k := o) (x := ob) (v := a.tmps.getD s undef) (av := .ptr s [] t) (R.fallen o) hob fun X ob' p hd hp => ptr_moves (X := Xof X0 (lookO g.ob) ph) hs hob hd hp
    obtain ⟨ph', h2⟩ := RelD.app_some (a' := a) h1 rfl fun _ _ => rfl
    refine ⟨ph', ?_⟩
    have e : strikes [(s, .all)] (strikes [(o, .all)] g.sl) = strikes [(o, .all), (s, .all)] g.sl := strikes_strikes _ _ (by simp) _
    have : ({ g with sl := strikes [(o, .all)] g.sl } : St).app (some s) (newO (lookO g.ob) s (.ptr s [] t) ob [(o, none)]) = g.app (some s) { v := .ptr s [] t, os := [(s, some ob), (o, none)], ks := (o, .all) :: overs [(s, some ob)] } := by
     simp only [St.app, newO, e, overs, List.map_cons, List.map_nil]
    rw [← this]
    exact h2
 | unbox s =>
  simp only [St.run1] at h
  split at h <;> try contradiction
  ·rename_i o t hl
   split at h <;> try contradiction
   rename_i ob hob
   obtain ⟨hg, h⟩ := of_condU h
   subst h
   simp only [Bool.and_eq_true] at hg
   obtain ⟨h1, h2⟩ := hg
   split at h2 <;> try contradiction
   rename_i l hsh
   exact unbox_rel W R hl hob h1 hsh h2
  ·simp only [Option.some.injEq] at h; subst h; exact ⟨ph, R⟩
 | imb s =>
  simp only [St.run1] at h
  split at h <;> try contradiction
  ·rename_i o t hl
   split at h <;> try contradiction
   rename_i ob hob
   obtain ⟨hg, h⟩ := of_condU h
   subst h
   simp only [Bool.and_eq_true] at hg
   exact imb_rel W R hl hob hg.1.1 hg.1.2 hg.2
  ·simp only [Option.some.injEq] at h; subst h; exact ⟨ph, R⟩

theorem run_rel (W : WF P) {K : St → Prop} : ∀ (l : List Cmd) (g : St) (ph : Nat → Ph), RelA P A X0 Y0 w0 g ph a w → g.run P l K → ∃ g' ph', RelA P A X0 Y0 w0 g' ph' a w ∧ K g'
 | [], g, ph, R, h => ⟨g, ph, R, h⟩
 | c :: l, g, ph, R, h => by
  simp only [St.run] at h
  split at h <;> try contradiction
  rename_i g1 hg1
  obtain ⟨ph1, R1⟩ := run1_rel W R hg1
  exact run_rel W l g1 ph1 R1 h

/-- What is kept over a round. -/
theorem keep_rel (R : RelA P A X0 Y0 w0 g ph a w) (l : List Nat × List Nat) : RelA P A X0 Y0 w0 (g.keep l) ph a w := by
 have hlo : ∀ k z, lookO (g.keep l).ob k = some z → lookO g.ob k = some z := by
  intro k z
  simp only [St.keep]
  induction l.2 with
  | nil => intro h; cases h
  | cons i l ih =>
   rw [List.map_cons, lookO_cons]
   by_cases e : i = k
   ·subst e; rw [if_pos rfl]; exact id
   ·rw [if_neg e]; exact ih
 have hls : ∀ k, look (g.keep l).sl k = .dead ∨ look (g.keep l).sl k = look g.sl k := by
  intro k
  simp only [St.keep]
  induction l.1 with
  | nil => exact .inl rfl
  | cons i l ih =>
   rw [List.map_cons, look_cons]
   by_cases e : i = k
   ·subst e; rw [if_pos rfl]; exact .inr rfl
   ·rw [if_neg e]; exact ih
 have hX : ∀ b, Xof X0 (lookO (g.keep l).ob) ph b → Xof X0 (lookO g.ob) ph b := by
  rintro b (h | ⟨c, z, hz, hm⟩)
  ·exact .inl h
  ·exact .inr ⟨c, z, hlo c z hz, hm⟩
 refine ⟨⟨fun k z hz => ?_, fun k z k' z' hz hz' => R.objs.apart k z k' z' (hlo _ _ hz) (hlo _ _ hz'), fun k z hz => R.objs.free k z (hlo _ _ hz), fun k z hz => R.objs.ours k z (hlo _ _ hz), R.objs.old⟩, fun s => ?_, R.keeps⟩
 ·exact (R.objs.ok k z (hlo k z hz)).frame (Nat.le_refl _) (fun b _ h => hX b h) (fun _ _ _ => rfl) fun _ _ => rfl
 ·rcases hls s with e | e
  ·rw [e]; trivial
  ·rw [e]
   exact AVR.stays (ks := []) (Nat.le_refl _) (fun b _ h => hX b h) (fun _ _ _ => rfl) (by simp) (fun c z hz => .same (hz.trans (hlo c z hz).symm) rfl fun _ _ => rfl) (fun c z z' _ _ _ _ _ b _ hh => ⟨hX b hh.1, hh.2⟩) (R.slots s)

/-- A guard's slot, once it is known. -/
theorem know_rel (R : RelA P A X0 Y0 w0 g ph a w) {s t : Nat} {d : D} (hl : look g.sl s = .imm t d) (hB : tk P t = .bool) : (∃ b, a.tmps.getD s undef = .bool b ∧ d.b = b ∧ RelA P A X0 Y0 w0 (g.know s b) ph a w) := by
 have hs := R.slots s
 rw [hl] at hs
 obtain ⟨cs, hr, hv⟩ := hs
 cases hr with
 | bool h =>
  rename_i b
  rw [mkV_one (by rw [h]; rfl)] at hv
  refine ⟨b, hv, rfl, ?_⟩
  have e : g.know s b = { g with sl := (s, .imm t (.bool b)) :: g.sl } := by simp only [St.know, hl]
  rw [e]
  exact R.slot ⟨[.bool b], .bool h, hv.trans (mkV_one (by rw [h]; rfl)).symm⟩
 | _ => simp_all

end
end Go.Ab

/- What a call gives back. -/
namespace Go.Ab
variable {P : Program} {A : Ann}

theorem of_condO {α : Type _} {b : Bool} {x y : α} (h : cond b (some x) none = some y) : b = true ∧ x = y := by
 cases b
 ·cases h
 ·injection h with h; exact ⟨rfl, h⟩

instance : Inhabited Ph := ⟨⟨[], none, .leaf, []⟩⟩
/-- The object of a result. -/
def resOb (x : RK) (d : D) : Option Obj := match x with
 | .val _ .imm => none
 | .val t sh => some ⟨false, t, sh, d⟩
 | .box e sh => some ⟨true, e, sh, d⟩
def lentL : Nat → List PK → List (Nat × Nat × Sh × Bool)
 | _, [] => []
 | k, .lent e sh bx :: l => (k, e, sh, bx) :: lentL (k + 1) l
 | k, _ :: l => lentL (k + 1) l
/-- Objects of results, then of what was lent. -/
def retOb (rs : List RK) (ps : List PK) (r : List D) (k : Nat) : Option Obj :=
 match rs[k]? with
 | some x => resOb x (r.getD k .und)
 | none => ((lentL 0 ps)[k - rs.length]?).map fun y => ⟨y.2.2.2, y.2.1, y.2.2.1, r.getD k .und⟩

def ResRep (P : Program) (A : Ann) (X : Nat → Prop) (w : World) (x : RK) (v : Value) (d : D) (p : Ph) : Prop := match x with
 | .val t .imm => RepV P A X w t v d
 | .val t _ => v = mkV P t p.cs
 | .box _ _ => ∃ b, v = .pointer (some ⟨b, 0, none⟩) ∧ p.rb = some b

structure Ret (P : Program) (A : Ann) (X0 Y0 : Nat → Prop) (w w' : World) (s : Sig) (phL : Nat → Ph) (v : Value) (r : List D) (phR : Nat → Ph) (vs : Array Value) : Prop where
 objs : Objs' P A X0 Y0 w.heap.size (retOb s.rs s.ps r) phR w'
 keeps : Keeps Y0 w w'
 size : vs.size = s.rs.length
 val : v = if h : vs.size = 1 then vs[0] else .tuple vs
 res : ∀ k x, s.rs[k]? = some x → ResRep P A (Xof X0 (retOb s.rs s.ps r) phR) w' x (vs.getD k undef) (r.getD k .und) (phR k)
 lent : ∀ j y, (lentL 0 s.ps)[j]? = some y → (phR (s.rs.length + j)).rb = (phL y.1).rb ∧ (y.2.2.2 = false → mkV P y.2.1 (phR (s.rs.length + j)).cs = mkV P y.2.1 (phL y.1).cs)

theorem lentL_ids : ∀ (k : Nat) (ps : List PK), (lentL k ps).map (·.1) = lentIds k ps
 | _, [] => rfl
 | k, .lent e sh bx :: l => by simp only [lentL, lentIds, List.map_cons, lentL_ids (k + 1) l]
 | k, .imm t :: l => lentL_ids (k + 1) l
 | k, .iptr t :: l => lentL_ids (k + 1) l

section
variable {X0 Y0 : Nat → Prop} {w0 : World} {g : St} {ph : Nat → Ph} {a : Act} {w : World}

/-- One result. -/
def OneRes (P : Program) (A : Ann) (X : Nat → Prop) (ob : Nat → Option Obj) (ph : Nat → Ph) (w : World) (x : RK) (v : Value) (d : D) (p : Ph) (ids : List Nat) : Prop :=
 (∀ o ∈ ids, ∃ y, ob o = some y) ∧ (∀ b ∈ p.F, ∃ o ∈ ids, b ∈ (ph o).F) ∧ (resOb x d = none → p.F = []) ∧
 ∀ X' : Nat → Prop, (∀ b, b < w.heap.size → X' b → X b) → (∀ o ∈ ids, ∀ b ∈ (ph o).F, b ∉ p.F → ¬ X' b) → ResRep P A X' w x v d p ∧ ∀ y, resOb x d = some y → OkObj P A X' w y p

theorem resOb_val {t : Nat} {sh : Sh} {d : D} (h : sh ≠ .imm) : resOb (.val t sh) d = some ⟨false, t, sh, d⟩ := by
 cases sh <;> first | exact absurd rfl h | rfl
theorem resRep_val {X : Nat → Prop} {t : Nat} {sh : Sh} {v : Value} {d : D} {p : Ph} (h : sh ≠ .imm) : ResRep P A X w (.val t sh) v d p = (v = mkV P t p.cs) := by
 cases sh <;> first | exact absurd rfl h | rfl

/-- What is owned is given back in another shape. -/
theorem oneRes_val {X : Nat → Prop} {ob : Nat → Option Obj} {t : Nat} {s sh : Sh} {v : Value} {d : D} {L : Lt} {cs : List Value} {ids : List Nat} (hv : v = mkV P t cs) (hO : Own P A X w L s t cs d) (hn : L.blocks.Nodup) (hw : s.weak sh = true) (hlt : ∀ b ∈ L.blocks, b < w.heap.size)
  (h1 : ∀ o ∈ ids, ∃ y, ob o = some y) (h2 : ∀ b ∈ L.blocks, ∃ o ∈ ids, b ∈ (ph o).F) : ∃ p, OneRes P A X ob ph w (.val t sh) v d p ids := by
 obtain ⟨L', hL⟩ := hO.weakN 8 sh hw hn
 by_cases hi : sh = .imm
 ·subst hi
  refine ⟨⟨[], none, .leaf, []⟩, h1, by simp [Ph.F, Ph.S, Lt.blocks, Option.toList], fun _ => by simp [Ph.F, Ph.S, Lt.blocks, Option.toList], fun X' hX' hB => ⟨?_, fun y hy => by simp [resOb] at hy⟩⟩
  have hl : L' = .leaf := ((hL.own (fun _ => False) (fun _ _ h => h.elim) fun _ _ _ h => h).leaf_of_imm).1
  have := hL.own X' hX' fun b hb _ => by
   obtain ⟨o, ho, hm⟩ := h2 b hb
   exact hB o ho b hm (by simp [Ph.F, Ph.S, Lt.blocks, Option.toList])
  exact ⟨cs, this.leaf_of_imm.2, hv⟩
 ·have hF : (⟨cs, none, L', []⟩ : Ph).F = L'.blocks := by simp [Ph.F, Ph.S, Option.toList]
  refine ⟨⟨cs, none, L', []⟩, h1, (fun b hb => h2 b (hL.sub b (by rw [hF] at hb; exact hb))), (fun e => by rw [resOb_val hi] at e; cases e), fun X' hX' hB => ⟨(by rw [resRep_val hi]; exact hv), fun y hy => ?_⟩⟩
  rw [resOb_val hi] at hy
  injection hy with hy
  subst hy
  refine ⟨hL.own X' hX' fun b hb hnb => ?_, (fun hb => by cases hb), fun _ => rfl, by rw [hF]; exact hL.nodup, fun b hb => hlt b (hL.sub b (by rw [hF] at hb; exact hb))⟩
  obtain ⟨o, ho, hm⟩ := h2 b hb
  exact hB o ho b hm (by rw [hF]; exact hnb)

/-- The values of results, as the machine takes them. -/
def resVal (tmps : Array Value) : ResultVar → Sem Value
 | .tmp t => pure (tmps.getD t undef)
 | .cell a t => do loadVar t (← asAddr (tmps.getD a undef))

theorem outR_spec (W : WF P) (R : RelA P A X0 Y0 w0 g ph a w) : ∀ (l : List ResultVar) (m : List RK) (ds : List D) (ids : List Nat), outR P g l m = some (ds, ids) → nodupB ids = true →
  ∃ (vs : List Value) (idl : List (List Nat)) (pl : List Ph), vs.length = m.length ∧ ds.length = m.length ∧ l.length = m.length ∧ idl.length = m.length ∧ ids = idl.flatten ∧ (∀ k x r, m[k]? = some x → l[k]? = some r → (resVal a.tmps r).run P w = .ok (vs.getD k undef) w) ∧
   ∀ k x, m[k]? = some x → OneRes P A (Xof X0 (lookO g.ob) ph) (lookO g.ob) ph w x (vs.getD k undef) (ds.getD k .und) (pl.getD k default) (idl.getD k [])
 | [], [], ds, ids, h, _ => by
  simp only [outR, Option.some.injEq, Prod.mk.injEq] at h
  obtain ⟨rfl, rfl⟩ := h
  exact ⟨[], [], [], rfl, rfl, rfl, rfl, rfl, by simp, by simp⟩
 | [], x :: m, ds, ids, h, _ => by cases x <;> simp [outR] at h
 | r :: l, [], ds, ids, h, _ => by cases r <;> simp [outR] at h
 | r :: l, x :: m, ds, ids, h, hn => by
  have fin : ∀ (d : D) (ds2 : List D) (id1 ids2 : List Nat) (v : Value), outR P g l m = some (ds2, ids2) → ds = d :: ds2 → ids = id1 ++ ids2 → (resVal a.tmps r).run P w = .ok v w → (∃ p, OneRes P A (Xof X0 (lookO g.ob) ph) (lookO g.ob) ph w x v d p id1) →
    ∃ (vs : List Value) (idl : List (List Nat)) (pl : List Ph), vs.length = (x :: m).length ∧ ds.length = (x :: m).length ∧ (r :: l).length = (x :: m).length ∧ idl.length = (x :: m).length ∧ ids = idl.flatten ∧ (∀ k x' r', (x :: m)[k]? = some x' → (r :: l)[k]? = some r' → (resVal a.tmps r').run P w = .ok (vs.getD k undef) w) ∧
     ∀ k x', (x :: m)[k]? = some x' → OneRes P A (Xof X0 (lookO g.ob) ph) (lookO g.ob) ph w x' (vs.getD k undef) (ds.getD k .und) (pl.getD k default) (idl.getD k []) := by
   rintro d ds2 id1 ids2 v h2 rfl rfl hv ⟨p, hp⟩
   obtain ⟨vs, idl, pl, e1, e2, e3, e4, e5, e6, e7⟩ := outR_spec W R l m ds2 ids2 h2 (nodupB_append hn).2.1
   refine ⟨v :: vs, id1 :: idl, p :: pl, by simp [e1], by simp [e2], by simp [e3], by simp [e4], by simp [e5], fun k x' r' hk hr => ?_, fun k x' hk => ?_⟩
   ·cases k with
    | zero => simp only [List.getElem?_cons_zero, Option.some.injEq] at hr; subst hr; exact hv
    | succ k => exact e6 k x' r' hk hr
   ·cases k with
    | zero => simp only [List.getElem?_cons_zero, Option.some.injEq] at hk; subst hk; exact hp
    | succ k => exact e7 k x' hk
  cases r with
  | tmp t =>
   cases x with
   | val u sh =>
    simp only [outR] at h
    split at h <;> try contradiction
    rename_i sv d os r2 ids2 htk hrec
    obtain ⟨hw, h⟩ := of_condO h
    simp only [Prod.mk.injEq] at h
    have hfl : (look g.sl t).flatA = true := by
     cases hz : look g.sl t <;> first | rfl | (rw [hz] at htk; simp [takeV] at htk)
    obtain ⟨cs, L, hv, hT, hnL, hng, hos⟩ := takeV_spec W R.objs ((R.slots t).one hfl) htk
    refine fin d r2 (os.map (·.1)) ids2 (a.tmps.getD t undef) hrec h.1.symm h.2.symm rfl ?_
    have h1 : ∀ o ∈ os.map (·.1), ∃ y, lookO g.ob o = some y := fun o ho => by
     rcases hos with ⟨rfl, _⟩ | ⟨q, y, rfl, hy, _⟩
     ·simp at ho
     ·simp at ho; subst ho; exact ⟨y, hy⟩
    have h2 : ∀ b ∈ L.blocks, ∃ o ∈ os.map (·.1), b ∈ (ph o).F := fun b hb => by
     rcases hos with ⟨_, e⟩ | ⟨q, y, rfl, hy, _, hm⟩
     ·rw [e] at hb; cases hb
     ·exact ⟨q, by simp, hm b hb⟩
    have hlt : ∀ b ∈ L.blocks, b < w.heap.size := fun b hb => by
     obtain ⟨o, ho, hm⟩ := h2 b hb
     obtain ⟨y, hy⟩ := h1 o ho
     exact (R.objs.ok o y hy).lt b hm
    cases sv with
    | some s => exact oneRes_val hv hT hnL hw hlt h1 h2
    | none =>
     obtain ⟨rfl, rfl, rfl, e, he⟩ := hT
     cases sh with
     | imm => exact oneRes_val (s := .imm) (L := .leaf) hv (.imm (.slcN he)) (by simp [Lt.blocks]) (by simp [Sh.weak, Sh.weakN, Sh.plain]) (by simp [Lt.blocks]) h1 (by simp [Lt.blocks])
     | slc u2 ex =>
      cases ex with
      | some _ => simp at hw
      | none =>
       refine ⟨⟨[.slice none 0 0], none, .nil, []⟩, h1, by simp [Ph.F, Ph.S, Lt.blocks, Option.toList], fun e => by simp [resOb] at e, fun X' _ _ => ⟨hv, fun y hy => ?_⟩⟩
       simp only [resOb, Option.some.injEq] at hy
       subst hy
       exact ⟨.nil he, (fun hb => by cases hb), fun _ => rfl, by simp [Ph.F, Ph.S, Lt.blocks, Option.toList], by simp [Ph.F, Ph.S, Lt.blocks, Option.toList]⟩
     | _ => simp at hw
   | box e sh =>
    simp only [outR] at h
    split at h <;> try contradiction
    rename_i o u r2 ids2 hl hrec
    rw [cond_eq] at h
    split at h <;> try contradiction
    rename_i hk
    split at h <;> try contradiction
    rename_i ob hob
    obtain ⟨hb, h⟩ := of_condO h
    simp only [Bool.and_eq_true] at hb
    simp only [Prod.mk.injEq] at h
    have hs := R.slots t
    rw [hl] at hs
    obtain ⟨b, off, u', hv, hloc, hty, hkk⟩ := hs ob hob
    have hO := R.objs.ok o ob hob
    simp only [Lt.loc, tyAt, Option.some.injEq] at hloc hty
    subst hty
    refine fin ob.d r2 [o] ids2 (a.tmps.getD t undef) hrec h.1.symm h.2.symm rfl ⟨ph o, by simp [hob], fun b hb => ⟨o, by simp, hb⟩, fun e => by simp [resOb] at e, fun X' hX' hB => ?_⟩
    have hrb : (ph o).rb = some b ∧ off = 0 := by
     unfold Ph.root at hloc
     cases hr : (ph o).rb with
     | none => rw [hr] at hloc; cases hloc
     | some b2 =>
      rw [hr] at hloc
      simp only [Option.map_some, Option.some.injEq, Prod.mk.injEq] at hloc
      exact ⟨by rw [hloc.1], hloc.2.symm⟩
    refine ⟨⟨b, by rw [hv, hrb.2], hrb.1⟩, fun y hy => ?_⟩
    simp only [resOb, Option.some.injEq] at hy
    subst hy
    have hke : ob.t = e := beq_iff.1 hb.1
    have hse : ob.sh = sh := Sh.eq_of_beq hb.2.2
    have h3 := hO.frame (X' := X') (Nat.le_refl _) hX' (fun _ _ _ => rfl) fun _ _ => rfl
    exact ⟨by rw [← hke, ← hse]; exact h3.own, fun _ => h3.box hb.2.1, (fun h => by cases h), h3.nodup, h3.lt⟩
  | cell ca u =>
   cases x with
   | val v sh =>
    simp only [outR] at h
    split at h <;> try contradiction
    rename_i o w2 r2 ids2 hl hrec
    rw [cond_eq] at h
    split at h <;> try contradiction
    rename_i hk
    split at h <;> try contradiction
    rename_i ob hob
    obtain ⟨hb, h⟩ := of_condO h
    simp only [Bool.and_eq_true] at hb hk
    simp only [Prod.mk.injEq] at h
    have hs := R.slots ca
    rw [hl] at hs
    obtain ⟨b, off, u', hv, hloc, hty, hkk⟩ := hs ob hob
    have hO := R.objs.ok o ob hob
    simp only [Lt.loc, tyAt, Option.some.injEq] at hloc hty
    subst hty
    have hrow := hO.rows b off hloc
    have hku : tk P ob.t = tk P u := (hkk.trans (sameK_eq hk.2)).trans (sameK_eq hk.1).symm
    have hkv : tk P ob.t = tk P v := hkk.trans (sameK_eq hk.2)
    have hng : ob.sh ≠ .gone := fun e => by
     have := hb.1
     rw [e] at this
     simp [Sh.isGone] at this
    have hto := hO.own.tk_ne hng
    have hrun : (resVal a.tmps (.cell ca u)).run P w = .ok (mkV P v (ph o).cs) w := by
     have := run_loadVarRow (P := P) (t := u) (w := w) W (hku ▸ hto) hrow.1 (by rw [hO.own.length W]; exact W.kind _ _ hku hto)
     simp only [resVal, hv, asAddr, Sem.run_bind, Sem.run_pure, Result.andThen_ok, this]
     rw [mkV_kind (hku.symm.trans hkv)]
    have hnL : (ph o).L.blocks.Nodup := by
     have := hO.nodup
     simp only [Ph.F, Ph.S, List.nodup_append] at this
     exact this.2.1.1
    refine fin ob.d r2 (cond ob.sh.isImm [] [o]) ids2 _ hrec h.1.symm h.2.symm hrun (oneRes_val rfl (hO.own.kind W hkv hng) hnL hb.2 (fun b hb => hO.lt b (by simp [Ph.F, Ph.S, hb])) (fun q hq => ?_) fun b hb => ?_)
    ·rw [cond_eq] at hq
     split at hq
     ·cases hq
     ·simp at hq; subst hq; exact ⟨ob, hob⟩
    ·rw [cond_eq]
     split
     ·rename_i hi
      have := hO.own
      rw [isImm_iff.1 hi] at this
      rw [this.leaf_of_imm.1] at hb
      simp [Lt.blocks] at hb
     ·exact ⟨o, by simp, by simp [Ph.F, Ph.S, hb]⟩
   | box e sh => simp [outR] at h

end
end Go.Ab

/- The end of a call. -/
namespace Go.Ab
variable {P : Program} {A : Ann}

theorem run_mapML {α : Type} {w : World} (f : α → Sem Value) : ∀ (l : List α) (vs : List Value), l.length = vs.length → (∀ k r, l[k]? = some r → (f r).run P w = .ok (vs.getD k undef) w) → (l.mapM f).run P w = .ok vs w
 | [], [], _, _ => by simp
 | [], v :: vs, h, _ => by simp at h
 | r :: l, [], h, _ => by simp at h
 | r :: l, v :: vs, h, hr => by
  have h0 := hr 0 r rfl
  have ih := run_mapML f l vs (by simpa using h) fun k r hk => hr (k + 1) r hk
  simp only [List.getD_cons_zero] at h0
  simp only [List.mapM_cons, Sem.run_bind, h0, Result.andThen_ok, ih, Sem.run_pure]

theorem run_results {fn : Func} {tmps : Array Value} {w : World} {vs : List Value} (hl : fn.results.toList.length = vs.length) (h : ∀ k r, fn.results.toList[k]? = some r → (resVal tmps r).run P w = .ok (vs.getD k undef) w) :
  (results fn tmps).run P w = .ok (if h : vs.toArray.size = 1 then vs.toArray[0] else .tuple vs.toArray) w := by
 have h1 := run_mapML (P := P) (resVal tmps) fn.results.toList vs hl h
 have h2 : (fn.results.mapM (resVal tmps)).run P w = .ok vs.toArray w := by
  rw [Array.mapM_eq_mapM_toList]
  simp only [map_eq_pure_bind, Sem.run_bind, h1, Result.andThen_ok, Sem.run_pure]
 have h3 : results fn tmps = (do
   let vs ← fn.results.mapM (resVal tmps)
   pure (if h : vs.size = 1 then vs[0] else .tuple vs)) := by
  unfold results
  congr 2
 rw [h3]
 simp only [Sem.run_bind, h2, Result.andThen_ok, Sem.run_pure]

theorem noIt_ne {s : Sh} (h : s.noIt = true) : s ≠ .it := fun e => by subst e; cases h

theorem outL_spec {g : St} {cs : List Nat} : ∀ (k : Nat) (ps : List PK) (l : List D), outL g cs k ps = some l → l.length = (lentL k ps).length ∧ ∀ j y, (lentL k ps)[j]? = some y →
  ((y.2.2.2 = true → celO cs y.1 (look g.sl y.1) = some y.1) ∧ (y.2.2.2 = false → (∃ u, look g.sl y.1 = .val y.1 [] u) ∧ y.2.2.1 ≠ .it)) ∧ lookO g.ob y.1 = some ⟨y.2.2.2, y.2.1, y.2.2.1, l.getD j .und⟩
 | k, [], l, h => by
  simp only [outL, Option.some.injEq] at h
  subst h
  exact ⟨rfl, by simp [lentL]⟩
 | k, .imm t :: ps, l, h => outL_spec (k + 1) ps l h
 | k, .iptr t :: ps, l, h => outL_spec (k + 1) ps l h
 | k, .lent e sh true :: ps, l, h => by
  simp only [outL] at h
  split at h <;> try contradiction
  rename_i o ob r hl hob hr
  obtain ⟨hb, h⟩ := of_condO h
  subst h
  simp only [Bool.and_eq_true, beq_iff] at hb
  obtain ⟨rfl, ht, hbx, hsh⟩ := hb
  have hse := Sh.eq_of_beq hsh
  obtain ⟨h1, h2⟩ := outL_spec (o + 1) ps r hr
  refine ⟨by simp [lentL, h1], fun j y hy => ?_⟩
  cases j with
  | zero =>
   simp only [lentL, List.getElem?_cons_zero, Option.some.injEq] at hy
   subst hy
   refine ⟨⟨fun _ => hl, fun h => by cases h⟩, ?_⟩
   rw [hob]
   obtain ⟨bx, t, s, d⟩ := ob
   simp only at ht hbx hse
   subst ht hbx hse
   rfl
  | succ j => exact h2 j y hy
 | k, .lent e sh false :: ps, l, h => by
  simp only [outL] at h
  split at h <;> try contradiction
  rename_i o u ob r hl hob hr
  obtain ⟨hb, h⟩ := of_condO h
  subst h
  simp only [Bool.and_eq_true, beq_iff, Bool.not_eq_true'] at hb
  obtain ⟨rfl, ht, hbx, hsh, hno⟩ := hb
  have hse := Sh.eq_of_beq hsh
  obtain ⟨h1, h2⟩ := outL_spec (o + 1) ps r hr
  refine ⟨by simp [lentL, h1], fun j y hy => ?_⟩
  cases j with
  | zero =>
   simp only [lentL, List.getElem?_cons_zero, Option.some.injEq] at hy
   subst hy
   refine ⟨⟨fun h => (by cases h), fun _ => ⟨⟨u, hl⟩, noIt_ne hno⟩⟩, ?_⟩
   rw [hob]
   obtain ⟨bx, t, s, d⟩ := ob
   simp only at ht hbx hse
   subst ht hbx hse
   rfl
  | succ j => exact h2 j y hy

/-- How what is lent is handed over. -/
def LentAt (P : Program) (X : Nat → Prop) (w : World) (c : Bool) (y : Nat × Nat × Sh × Bool) (v : Value) (p : Ph) : Prop :=
 (y.2.2.2 = true → c = false → ∃ b, v = .pointer (some ⟨b, 0, none⟩) ∧ p.rb = some b) ∧
 (y.2.2.2 = true → c = true → ∃ q off b, v = .pointer (some ⟨q, off, none⟩) ∧ ¬ X q ∧ q < w.heap.size ∧ Row w q off [.pointer (some ⟨b, 0, none⟩)] ∧ p.rb = some b) ∧ (y.2.2.2 = false → v = mkV P y.2.1 p.cs ∧ p.rb = none)

theorem flat_mem : ∀ {idl : List (List Nat)} {k o : Nat}, o ∈ idl.getD k [] → o ∈ idl.flatten
 | [], k, o, h => by simp at h
 | l :: idl, 0, o, h => by simp only [List.getD_cons_zero] at h; simp [h]
 | l :: idl, k + 1, o, h => by
  have := flat_mem (idl := idl) (k := k) (o := o) (by simpa using h)
  simp only [List.flatten_cons, List.mem_append]
  exact .inr this

theorem nodup_flat : ∀ {idl : List (List Nat)}, nodupB idl.flatten = true → ∀ {k k' o : Nat}, o ∈ idl.getD k [] → o ∈ idl.getD k' [] → k = k'
 | [], _, k, k', o, h, _ => by simp at h
 | l :: idl, hn, k, k', o, h, h' => by
  rw [List.flatten_cons] at hn
  obtain ⟨_, h2, h3⟩ := nodupB_append hn
  cases k with
  | zero =>
   cases k' with
   | zero => rfl
   | succ k' => exact absurd (flat_mem (by simpa using h')) (h3 o (by simpa using h))
  | succ k =>
   cases k' with
   | zero => exact absurd (flat_mem (by simpa using h)) (h3 o (by simpa using h'))
   | succ k' => exact congrArg (· + 1) (nodup_flat (k := k) (k' := k') (o := o) h2 (by simpa using h) (by simpa using h'))

section
variable {X0 Y0 : Nat → Prop} {w0 : World} {g : St} {ph : Nat → Ph} {a : Act} {w : World}

theorem ret_of_end (W : WF P) (R : RelA P A X0 Y0 w0 g ph a w) {fn : Func} {s : Sig} {Q : List D → Prop} {phL : Nat → Ph} (hT : ∀ y ∈ lentL 0 s.ps, LentAt P (fun _ => False) w (isCel s.cel y.1) y (a.tmps.getD y.1 undef) (phL y.1))
  (h : match (generalizing := false) outR P g fn.results.toList s.rs, outL g s.cel 0 s.ps with
   | some (r, ids), some l => cond (nodupB (ids ++ lentIds 0 s.ps)) (Q (r ++ l)) False
   | _, _ => False) : ∃ v r phR vs, (results fn a.tmps).run P w = .ok v w ∧ Q r ∧ Ret P A X0 Y0 w0 w s phL v r phR vs := by
 split at h <;> try contradiction
 rename_i r ids l hr hl
 obtain ⟨hn, hQ⟩ := of_cond h
 clear h
 obtain ⟨hn1, hn2, hn3⟩ := nodupB_append hn
 obtain ⟨vs, idl, pl, e1, e2, e3, e4, e5, e6, e7⟩ := outR_spec W R _ _ _ _ hr hn1
 obtain ⟨l1, l2⟩ := outL_spec 0 s.ps l hl
 subst e5
 let nR := s.rs.length
 let Ls := lentL 0 s.ps
 let phR : Nat → Ph := fun k => if k < nR then pl.getD k default else ph (Ls.getD (k - nR) (0, 0, .imm, true)).1
 let U : Nat → List Nat := fun k => if k < nR then idl.getD k [] else (Ls[k - nR]?).toList.map (·.1)
 have hrl : ∀ k, k < nR → (r ++ l).getD k .und = r.getD k .und := fun k hk => by
  simp only [List.getD_eq_getElem?_getD]
  rw [List.getElem?_append_left (by omega)]
 have hrl2 : ∀ j, (r ++ l).getD (nR + j) .und = l.getD j .und := fun j => by
  simp only [List.getD_eq_getElem?_getD]
  rw [List.getElem?_append_right (by omega)]
  congr 2
  omega
 let obR := retOb s.rs s.ps (r ++ l)
 have hob1 : ∀ k x, s.rs[k]? = some x → obR k = resOb x (r.getD k .und) := fun k x hk => by
  have := (List.getElem?_eq_some_iff.1 hk).1
  simp only [obR, retOb, hk]
  rw [hrl k this]
 have hob2 : ∀ k, nR ≤ k → obR k = (Ls[k - nR]?).map fun y => ⟨y.2.2.2, y.2.1, y.2.2.1, l.getD (k - nR) .und⟩ := fun k hk => by
  have h1 : s.rs[k]? = none := List.getElem?_eq_none hk
  have h2 := hrl2 (k - nR)
  rw [show nR + (k - nR) = k by omega] at h2
  simp only [obR, retOb, h1, h2]
  rfl
 have hlent : ∀ k, nR ≤ k → ∀ z, obR k = some z → ∃ y, Ls[k - nR]? = some y ∧ phR k = ph y.1 ∧ U k = [y.1] ∧ lookO g.ob y.1 = some z := fun k hk z hz => by
  rw [hob2 k hk] at hz
  cases hy : Ls[k - nR]? with
  | none => rw [hy] at hz; cases hz
  | some y =>
   rw [hy] at hz
   simp only [Option.map_some, Option.some.injEq] at hz
   refine ⟨y, rfl, ?_, ?_, ?_⟩
   ·simp only [phR, if_neg (by omega : ¬ k < nR), List.getD_eq_getElem?_getD, hy, Option.getD_some]
   ·simp only [U, if_neg (by omega : ¬ k < nR), hy, Option.toList, List.map_cons, List.map_nil]
   ·rw [← hz]
    exact (l2 _ y hy).2
 have hU : ∀ k o, o ∈ U k → ∃ z, lookO g.ob o = some z := fun k o ho => by
  by_cases hk : k < nR
  ·simp only [U, if_pos hk] at ho
   have hx : s.rs[k]? = some s.rs[k] := List.getElem?_eq_getElem hk
   exact (e7 k _ hx).1 o ho
  ·simp only [U, if_neg hk] at ho
   cases hy : Ls[k - nR]? with
   | none => rw [hy] at ho; simp at ho
   | some y =>
    rw [hy] at ho
    simp only [Option.toList, List.map_cons, List.map_nil, List.mem_singleton] at ho
    subst ho
    exact ⟨_, (l2 _ y hy).2⟩
 have hids : lentIds 0 s.ps = Ls.map (·.1) := (lentL_ids 0 s.ps).symm
 have hUd : ∀ k k' o, o ∈ U k → o ∈ U k' → k = k' := fun k k' o ho ho' => by
  have key : ∀ k k' o, k < nR → ¬ k' < nR → o ∈ U k → o ∈ U k' → False := fun k k' o hk hk' ho ho' => by
   simp only [U, if_pos hk] at ho
   simp only [U, if_neg hk'] at ho'
   refine hn3 o (flat_mem ho) ?_
   rw [hids]
   cases hy : Ls[k' - nR]? with
   | none => rw [hy] at ho'; simp at ho'
   | some y =>
    rw [hy] at ho'
    simp only [Option.toList, List.map_cons, List.map_nil, List.mem_singleton] at ho'
    subst ho'
    exact List.mem_map_of_mem (List.mem_of_getElem? hy)
  by_cases hk : k < nR
  ·by_cases hk' : k' < nR
   ·simp only [U, if_pos hk] at ho
    simp only [U, if_pos hk'] at ho'
    exact nodup_flat hn1 ho ho'
   ·exact (key k k' o hk hk' ho ho').elim
  ·by_cases hk' : k' < nR
   ·exact (key k' k o hk' hk ho' ho).elim
   ·simp only [U, if_neg hk] at ho
    simp only [U, if_neg hk'] at ho'
    cases hy : Ls[k - nR]? with
    | none => rw [hy] at ho; simp at ho
    | some y =>
     cases hy' : Ls[k' - nR]? with
     | none => rw [hy'] at ho'; simp at ho'
     | some y' =>
      rw [hy] at ho
      rw [hy'] at ho'
      simp only [Option.toList, List.map_cons, List.map_nil, List.mem_singleton] at ho ho'
      have hL : (lentIds 0 s.ps)[k - nR]? = some o := by rw [hids, List.getElem?_map, hy, ho]; rfl
      have hL' : (lentIds 0 s.ps)[k' - nR]? = some o := by rw [hids, List.getElem?_map, hy', ho']; rfl
      have hnd : ∀ (m : List Nat), nodupB m = true → ∀ (i j o : Nat), m[i]? = some o → m[j]? = some o → i = j := by
       intro m
       induction m with
       | nil => intro _ i j o h; simp at h
       | cons x m ih =>
        intro hm i j o hi hj
        rw [nodupB_cons] at hm
        cases i with
        | zero =>
         cases j with
         | zero => rfl
         | succ j =>
          simp only [List.getElem?_cons_zero, Option.some.injEq] at hi
          subst hi
          exact absurd (List.mem_of_getElem? (by simpa using hj)) hm.1
        | succ i =>
         cases j with
         | zero =>
          simp only [List.getElem?_cons_zero, Option.some.injEq] at hj
          subst hj
          exact absurd (List.mem_of_getElem? (by simpa using hi)) hm.1
         | succ j => rw [ih hm.2 i j o hi hj]
      have := hnd _ hn2 _ _ o hL hL'
      omega
 have hFU : ∀ k z, obR k = some z → ∀ b ∈ (phR k).F, ∃ o ∈ U k, b ∈ (ph o).F := fun k z hz b hb => by
  by_cases hk : k < nR
  ·have hx : s.rs[k]? = some s.rs[k] := List.getElem?_eq_getElem hk
   simp only [phR, if_pos hk] at hb
   simp only [U, if_pos hk]
   exact (e7 k _ hx).2.1 b hb
  ·obtain ⟨y, _, h2, h3, _⟩ := hlent k (by omega) z hz
   rw [h2] at hb
   exact ⟨y.1, by rw [h3]; simp, hb⟩
 let Xe := Xof X0 obR phR
 have hXe : ∀ b, Xe b → Xof X0 (lookO g.ob) ph b := by
  rintro b (hx | ⟨k, z, hz, hm⟩)
  ·exact .inl hx
  ·obtain ⟨o, ho, hm⟩ := hFU k z hz b hm
   obtain ⟨y, hy⟩ := hU k o ho
   exact .inr ⟨o, y, hy, hm⟩
 have hdrop : ∀ k o, o ∈ U k → ∀ b ∈ (ph o).F, b ∉ (phR k).F → ¬ Xe b := by
  rintro k o ho b hb hnb (hx | ⟨k', z, hz, hm⟩)
  ·obtain ⟨y, hy⟩ := hU k o ho
   exact R.objs.free o y hy b hb hx
  ·obtain ⟨o', ho', hm'⟩ := hFU k' z hz b hm
   by_cases hkk : k' = k
   ·subst hkk; exact hnb hm
   ·obtain ⟨y, hy⟩ := hU k o ho
    obtain ⟨y', hy'⟩ := hU k' o' ho'
    exact R.objs.apart o y o' y' hy hy' (fun e => hkk (hUd k' k o' ho' (e ▸ ho))) b hb hm'
 refine ⟨_, r ++ l, phR, vs.toArray, run_results (by rw [e3, e1]) (fun k rv hk => ?_), hQ, ⟨⟨fun k z hz => ?_, fun k z k' z' hz hz' hkk b hb hb' => ?_, fun k z hz b hb => ?_, fun k z hz b hb => ?_, R.objs.old⟩, R.keeps, by simp [e1], rfl, fun k x hk => ?_, fun j y hy => ?_⟩⟩
 ·have hlt := (List.getElem?_eq_some_iff.1 hk).1
  rw [e3] at hlt
  exact e6 k _ rv (List.getElem?_eq_getElem hlt) hk
 ·by_cases hk : k < nR
  ·have hx : s.rs[k]? = some s.rs[k] := List.getElem?_eq_getElem hk
   have hz' : obR k = some z := hz
   rw [hob1 k _ hx] at hz'
   have h7 := (e7 k _ hx).2.2.2 Xe (fun b _ h => hXe b h) fun o ho b hb hnb => hdrop k o (by simp only [U, if_pos hk]; exact ho) b hb (by simp only [phR, if_pos hk]; exact hnb)
   have := h7.2 z hz'
   show OkObj P A Xe w z (phR k)
   simp only [phR, if_pos hk]
   exact this
  ·obtain ⟨y, _, h2, _, h4⟩ := hlent k (by omega) z hz
   rw [h2]
   exact (R.objs.ok y.1 z h4).frame (Nat.le_refl _) (fun b _ h => hXe b h) (fun _ _ _ => rfl) fun _ _ => rfl
 ·obtain ⟨o, ho, hm⟩ := hFU k z hz b hb
  obtain ⟨o', ho', hm'⟩ := hFU k' z' hz' b hb'
  obtain ⟨y, hy⟩ := hU k o ho
  obtain ⟨y', hy'⟩ := hU k' o' ho'
  exact R.objs.apart o y o' y' hy hy' (fun e => hkk (hUd k k' o ho (e ▸ ho'))) b hm hm'
 ·obtain ⟨o, ho, hm⟩ := hFU k z hz b hb
  obtain ⟨y, hy⟩ := hU k o ho
  exact R.objs.free o y hy b hm
 ·obtain ⟨o, ho, hm⟩ := hFU k z hz b hb
  obtain ⟨y, hy⟩ := hU k o ho
  exact R.objs.ours o y hy b hm
 ·have hlt := (List.getElem?_eq_some_iff.1 hk).1
  have h7 := ((e7 k _ hk).2.2.2 Xe (fun b _ h => hXe b h) fun o ho b hb hnb => hdrop k o (by simp only [U, if_pos (show k < nR from hlt)]; exact ho) b hb (by simp only [phR, if_pos (show k < nR from hlt)]; exact hnb)).1
  have e8 : vs.toArray.getD k undef = vs.getD k undef := by simp [Array.getD_eq_getD_getElem?, List.getD_eq_getElem?_getD]
  rw [e8, hrl k hlt]
  show ResRep P A Xe w x _ _ (phR k)
  simp only [phR, if_pos (show k < nR from hlt)]
  exact h7
 ·obtain ⟨⟨h1t, h1f⟩, h2⟩ := l2 j y hy
  have hs := R.slots y.1
  have hTy := hT y (List.mem_of_getElem? hy)
  have hp : phR (s.rs.length + j) = ph y.1 := by
   simp only [phR, if_neg (show ¬ s.rs.length + j < nR by simp [nR]), nR, Nat.add_sub_cancel_left, List.getD_eq_getElem?_getD]
   rw [show Ls[j]? = some y from hy]
   rfl
  rw [hp]
  cases hbx : y.2.2.2 with
  | true =>
   refine ⟨?_, fun h => by cases h⟩
   have hc := h1t hbx
   unfold celO at hc
   split at hc <;> try contradiction
   ·rename_i o' e1 h1
    rw [cond_eq] at hc
    split at hc <;> try contradiction
    rename_i hcel
    injection hc with hc
    subst hc
    rw [h1] at hs
    obtain ⟨b, off, u', hv, hloc, _, _⟩ := hs _ h2
    obtain ⟨b0, h3, h4⟩ := hTy.1 hbx (by simpa using hcel)
    rw [h3] at hv
    injection hv with hv
    injection hv with hv
    injection hv with hv1 hv2
    simp only [Lt.loc] at hloc
    rw [h4, hv1]
    unfold Ph.root at hloc
    cases hr : (ph y.1).rb with
    | none => rw [hr] at hloc; cases hloc
    | some b2 =>
     rw [hr] at hloc
     simp only [Option.map_some, Option.some.injEq, Prod.mk.injEq] at hloc
     rw [hloc.1]
   rename_i o' e1 h1
   rw [cond_eq] at hc
   split at hc <;> try contradiction
   rename_i hcel
   injection hc with hc
   subst hc
   rw [h1] at hs
   obtain ⟨q, off, u1, hv, _, _, hrow, hin⟩ := hs
   obtain ⟨b, off2, u', hv', hloc, _, _⟩ := hin _ h2
   obtain ⟨q0, off0, b0, g3, _, _, hrow0, h4⟩ := hTy.2.1 hbx hcel
   rw [g3] at hv
   injection hv with hv
   injection hv with hv
   injection hv with hq hq2
   subst hq hq2
   have hw1 := hrow 0 (by simp)
   have hw2 := hrow0 0 (by simp)
   rw [hw1] at hw2
   simp only [List.getElem?_cons_zero, Option.some.injEq] at hw2
   rw [hv'] at hw2
   have hv := hw2.symm
   injection hv with hv
   injection hv with hv
   injection hv with hv1 hv2
   simp only [Lt.loc] at hloc
   rw [h4, hv1]
   unfold Ph.root at hloc
   cases hr : (ph y.1).rb with
   | none => rw [hr] at hloc; cases hloc
   | some b2 =>
    rw [hr] at hloc
    simp only [Option.map_some, Option.some.injEq, Prod.mk.injEq] at hloc
    rw [hloc.1]
  | false =>
   obtain ⟨⟨u, h1⟩, hno⟩ := h1f hbx
   obtain ⟨h3, h4⟩ := hTy.2.2 hbx
   have hO := R.objs.ok _ _ h2
   refine ⟨by rw [hO.hdr hbx, h4], fun _ => ?_⟩
   rw [h1] at hs
   obtain ⟨_, hs2⟩ := hs _ h2
   obtain ⟨u', _, _, hs3⟩ := hs2 hno
   rw [← h3]
   rcases hs3 with hs3 | ⟨_, _, hs3⟩
   ·obtain ⟨e1, e2⟩ := hO.own.header hs3
    have e1 : (ph y.1).cs = [a.tmps.getD y.1 undef] := e1
    rw [e1, mkV_one e2]
   ·exact hs3.symm

end
end Go.Ab

/- What is lent to be read, and given up. -/
namespace Go.Ab
variable {P : Program} {A : Ann}

/-- What is left of a tree, with places kept. -/
structure Cut (P : Program) (A : Ann) (X : Nat → Prop) (w : World) (L L' : Lt) (u : Sh) (t : Nat) (cs : List Value) (d : D) : Prop extends Less P A X w L L' u t cs d where
 keep : ∀ q b, b ∈ L'.blocks → b ∈ (L.sub q).blocks → b ∈ (L'.sub q).blocks

theorem Cut.leaf {X : Nat → Prop} {w : World} {L : Lt} {t : Nat} {cs : List Value} {d : D} (h : ∀ X' : Nat → Prop, (∀ b, b < w.heap.size → X' b → X b) → (∀ b ∈ L.blocks, ¬ X' b) → Rep P A X' w t cs d) : Cut P A X w L .leaf .imm t cs d :=
 ⟨⟨by simp [Lt.blocks], by simp [Lt.blocks], .inr rfl, fun X' hX hB => .imm (h X' hX fun b hb => hB b hb (by simp [Lt.blocks]))⟩, by simp [Lt.blocks]⟩

theorem Cut.refl {X : Nat → Prop} {w : World} {L : Lt} {u : Sh} {t : Nat} {cs : List Value} {d : D} (h : Own P A X w L u t cs d) (hn : L.blocks.Nodup) : Cut P A X w L L u t cs d :=
 ⟨⟨fun _ h => h, hn, .inl rfl, fun X' hX _ => h.frame (Nat.le_refl _) hX (fun _ _ _ => rfl) fun _ _ => rfl⟩, fun _ _ _ h => h⟩

theorem imm_frzAt : ∀ p : Pth, Sh.imm.frzAt p = some .imm
 | [] => by simp [Sh.frzAt, Sh.weak, Sh.weakN, Sh.plain]
 | .fld j :: p => by simp [Sh.frzAt, Sh.fld, imm_frzAt p, Sh.setFld, Sh.isImm]
 | .idx i :: p => rfl
 | .arr i :: p => rfl

/-- A place that is given up. -/
theorem Own.frzAt (W : WF P) {X : Nat → Prop} {w : World} : ∀ (p : Pth) {L : Lt} {s s' : Sh} {t : Nat} {cs : List Value} {d : D}, Own P A X w L s t cs d → s.frzAt p = some s' → L.blocks.Nodup →
  ∃ L', Cut P A X w L L' s' t cs d ∧ ∀ b ∈ (L.sub p).blocks, b ∉ L'.blocks
 | [], L, s, s', t, cs, d, h, hf, hn => by
  simp only [Sh.frzAt, cond_eq] at hf
  split at hf <;> try contradiction
  rename_i hw
  simp only [Option.some.injEq] at hf
  subst hf
  obtain ⟨L', hL⟩ := h.weakN 8 .imm hw hn
  refine ⟨.leaf, Cut.leaf fun X' hX hB => ?_, by simp [Lt.blocks]⟩
  exact ((hL.own X' hX fun b hb _ => hB b hb).leaf_of_imm).2
 | .fld j :: p, L, s, s', t, cs, d, h, hf, hn => by
  cases h with
  | imm h =>
   rw [imm_frzAt] at hf
   simp only [Option.some.injEq] at hf
   subst hf
   exact ⟨.leaf, Cut.refl (.imm h) (by simp [Lt.blocks]), by rw [leaf_sub]; simp [Lt.blocks]⟩
  | agg hk hc hkl hdl hel =>
   rename_i l fs kids ds
   simp only [Sh.frzAt, Sh.fld] at hf
   split at hf <;> try contradiction
   rename_i u' hpj
   have hfl := Sh.setFld_fld hf
   have hnk := nodup_blocksL (show (blocksL kids).Nodup from hn)
   obtain ⟨Lj, hLj1, hLj2, hLj3⟩ : ∃ Lj, (∀ ft o, fs[j]? = some (ft, o) → Cut P A X w (kids.getD j .leaf) Lj u' ft (seg cs o (P.cellsOf ft)) (ds.getD j .und)) ∧ (∀ b ∈ ((kids.getD j .leaf).sub p).blocks, b ∉ Lj.blocks) ∧ (fs.length ≤ j → Lj = .leaf) := by
    cases hj : fs[j]? with
    | none =>
     have hjl : fs.length ≤ j := by simpa using hj
     refine ⟨.leaf, by simp, by simp [Lt.blocks], fun _ => rfl⟩
    | some x =>
     obtain ⟨ft, o⟩ := x
     have hjl := (List.getElem?_eq_some_iff.1 hj).1
     obtain ⟨Lj, h1, h2⟩ := Own.frzAt W p (hel j ft o hj) hpj (hnk.1 j (by omega))
     refine ⟨Lj, fun ft' o' e => ?_, h2, fun h => by omega⟩
     injection e with e
     injection e with e1 e2
     subst e1 e2
     exact h1
   have hLjs : ∀ b ∈ Lj.blocks, j < fs.length ∧ b ∈ (kids.getD j .leaf).blocks := fun b hb => by
    by_cases hj : j < fs.length
    ·exact ⟨hj, (hLj1 _ _ (show fs[j]? = some (fs[j].1, fs[j].2) by simp [List.getElem?_eq_getElem hj])).sub b hb⟩
    ·rw [hLj3 (by omega)] at hb; simp [Lt.blocks] at hb
   have hset : ∀ k, (kids.set j Lj).getD k .leaf = if k = j then (if j < kids.length then Lj else .leaf) else kids.getD k .leaf := fun k => by
    by_cases hj : j < kids.length
    ·rw [getD_set_eq hj, if_pos hj]
    ·rw [if_neg hj]
     by_cases e : k = j
     ·subst e
      simp only [List.getD_eq_getElem?_getD, if_pos rfl]
      rw [List.getElem?_eq_none (by rw [List.length_set]; omega)]
      rfl
     ·rw [if_neg e]
      simp only [List.getD_eq_getElem?_getD, List.getElem?_set_ne (fun h => e h.symm)]
   have hset' : ∀ k, (kids.set j Lj).getD k .leaf = if k = j then Lj else kids.getD k .leaf := fun k => by
    rw [hset]
    by_cases hj : j < kids.length
    ·rw [if_pos hj]
    ·rw [if_neg hj, hLj3 (by omega)]
   have hsubk : ∀ k b, b ∈ ((kids.set j Lj).getD k .leaf).blocks → b ∈ (kids.getD k .leaf).blocks := fun k b hb => by
    rw [hset'] at hb
    by_cases e : k = j
    ·subst e; rw [if_pos rfl] at hb; exact (hLjs b hb).2
    ·rw [if_neg e] at hb; exact hb
   have hflds : ∀ X' : Nat → Prop, (∀ b, b < w.heap.size → X' b → X b) → (∀ b, b ∈ (kids.getD j .leaf).blocks → b ∉ Lj.blocks → ¬ X' b) → ∀ (k ft o : Nat), fs[k]? = some (ft, o) → ∀ v, s'.fld k = some v → Own P A X' w ((kids.set j Lj).getD k .leaf) v ft (seg cs o (P.cellsOf ft)) (ds.getD k .und) := fun X' hX' hB k ft o hk1 v hv => by
    rw [hfl] at hv
    rw [hset']
    by_cases e : k = j
    ·subst e
     rw [if_pos rfl] at hv ⊢
     injection hv with hv
     subst hv
     exact (hLj1 ft o hk1).own X' hX' hB
    ·rw [if_neg e] at hv ⊢
     simp only [Sh.fld, Option.some.injEq] at hv
     subst hv
     exact (hel k ft o hk1).frame (Nat.le_refl _) hX' (fun _ _ _ => rfl) fun _ _ => rfl
   have hjb : ∀ b, b ∈ (kids.getD j .leaf).blocks → b ∈ blocksL kids := fun b hb => by
    by_cases hj : j < kids.length
    ·exact mem_blocksL.2 ⟨j, hj, hb⟩
    ·rw [List.getD_eq_getElem?_getD, List.getElem?_eq_none (by omega)] at hb
     simp [Lt.blocks] at hb
   cases hs' : s' with
   | agg m =>
    rw [hs'] at hflds
    refine ⟨.agg (kids.set j Lj), ⟨⟨fun b hb => ?_, ?_, .inl rfl, fun X' hX' hB => ?_⟩, fun q b hb hb2 => ?_⟩, fun b hb hb2 => ?_⟩
    ·simp only [Lt.blocks] at hb ⊢
     obtain ⟨k, hk1, hb⟩ := mem_blocksL.1 hb
     rw [List.length_set] at hk1
     exact mem_blocksL.2 ⟨k, hk1, hsubk k b hb⟩
    ·simp only [Lt.blocks]
     refine nodup_blocksL_mk (fun k hk1 => ?_) fun i k b hi hk1 hb hb' => ?_
     ·rw [List.length_set] at hk1
      rw [hset']
      by_cases e : k = j
      ·subst e
       rw [if_pos rfl]
       by_cases hj : k < fs.length
       ·exact (hLj1 _ _ (show fs[k]? = some (fs[k].1, fs[k].2) by simp [List.getElem?_eq_getElem hj])).nodup
       ·omega
      ·rw [if_neg e]; exact hnk.1 k hk1
     ·rw [List.length_set] at hi hk1
      exact hnk.2 i k b hi hk1 (hsubk i b hb) (hsubk k b hb')
    ·refine .agg hk hc (by simpa using hkl) hdl fun k ft o hk1 => hflds X' hX' (fun b hb hnb => hB b (hjb b hb) fun hb2 => ?_) k ft o hk1 _ rfl
     simp only [Lt.blocks] at hb2
     obtain ⟨k2, hk2, hb2⟩ := mem_blocksL.1 hb2
     rw [List.length_set] at hk2
     rw [hset'] at hb2
     by_cases e : k2 = j
     ·rw [if_pos e] at hb2; exact hnb hb2
     ·rw [if_neg e] at hb2
      by_cases hj : j < kids.length
      ·exact e (hnk.2 k2 j b hk2 hj hb2 hb)
      ·rw [List.getD_eq_getElem?_getD, List.getElem?_eq_none (by omega)] at hb
       simp [Lt.blocks] at hb
    ·cases q with
     | nil => exact hb
     | cons y q =>
      cases y with
      | fld k =>
       simp only [Lt.sub, Lt.kid] at hb2 ⊢
       simp only [Lt.blocks] at hb
       obtain ⟨k2, hk2, hb⟩ := mem_blocksL.1 hb
       rw [List.length_set] at hk2
       have hb3 := sub_blocks q _ b hb2
       have hkk : k2 = k := by
        by_cases hkl2 : k < kids.length
        ·exact hnk.2 k2 k b hk2 hkl2 (hsubk k2 b hb) hb3
        ·rw [List.getD_eq_getElem?_getD, List.getElem?_eq_none (by omega)] at hb3
         simp [Lt.blocks] at hb3
       subst hkk
       rw [hset'] at hb ⊢
       by_cases e : k2 = j
       ·subst e
        rw [if_pos rfl] at hb ⊢
        have hj : k2 < fs.length := by omega
        exact (hLj1 _ _ (show fs[k2]? = some (fs[k2].1, fs[k2].2) by simp [List.getElem?_eq_getElem hj])).keep q b hb hb2
       ·rw [if_neg e] at hb ⊢; exact hb2
      | idx i => simp [Lt.sub, Lt.el, leaf_sub, Lt.blocks] at hb2
      | arr i => simp [Lt.sub, leaf_sub, Lt.blocks] at hb2
    ·simp only [Lt.sub, Lt.kid] at hb
     simp only [Lt.blocks] at hb2
     obtain ⟨k, hk1, hb2⟩ := mem_blocksL.1 hb2
     rw [List.length_set] at hk1
     have hb3 := sub_blocks p _ b hb
     have hkk : k = j := by
      by_cases hj : j < kids.length
      ·exact hnk.2 k j b hk1 hj (hsubk k b hb2) hb3
      ·rw [List.getD_eq_getElem?_getD, List.getElem?_eq_none (by omega)] at hb3
       simp [Lt.blocks] at hb3
     subst hkk
     rw [hset', if_pos rfl] at hb2
     exact hLj2 b hb hb2
   | imm =>
    rw [hs'] at hflds
    refine ⟨.leaf, Cut.leaf fun X' hX' hB => ?_, by simp [Lt.blocks]⟩
    exact .struct hk hc hdl fun k ft o hk1 => (hflds X' hX' (fun b hb _ => hB b (hjb b hb)) k ft o hk1 .imm rfl).leaf_of_imm.2
   | _ =>
    have := hfl j
    rw [hs', if_pos rfl] at this
    simp [Sh.fld] at this
  | _ => simp [Sh.frzAt, Sh.fld] at hf
 | .idx i :: p, L, s, s', t, cs, d, h, hf, hn => by
  cases h with
  | imm h =>
   rw [imm_frzAt] at hf
   simp only [Option.some.injEq] at hf
   subst hf
   exact ⟨.leaf, Cut.refl (.imm h) (by simp [Lt.blocks]), by rw [leaf_sub]; simp [Lt.blocks]⟩
  | nil h =>
   rename_i e s0
   simp only [Sh.frzAt] at hf
   split at hf <;> try contradiction
   simp only [Option.some.injEq] at hf
   subst hf
   exact ⟨.nil, ⟨⟨fun _ h => h, by simp [Lt.blocks], .inl rfl, fun _ _ _ => .nil h⟩, by simp [Lt.blocks]⟩, by simp [Lt.sub, Lt.el, leaf_sub, Lt.blocks]⟩
  | slc hk hb0 h1 h2 h3 h4 =>
   rename_i e s0 ex b0 off cap E c kids xs
   cases ex with
   | some x => simp [Sh.frzAt] at hf
   | none =>
    simp only [Sh.frzAt] at hf
    split at hf <;> try contradiction
    rename_i s1 hs1
    simp only [Option.some.injEq] at hf
    subst hf
    simp only [Lt.blocks, List.nodup_cons] at hn
    have hnk := nodup_blocksL hn.2
    obtain ⟨ks, hks, hr⟩ := list_choice Lt.leaf xs.length (R := fun i L' => Cut P A X w (kids.getD i .leaf) L' s1 e (seg c.toList (off + i * P.cellsOf e) (P.cellsOf e)) (xs.getD i .und) ∧ ∀ b ∈ ((kids.getD i .leaf).sub p).blocks, b ∉ L'.blocks)
     fun i hi => Own.frzAt W p (h4 i hi : Own P A X w _ s0 e _ _) hs1 (hnk.1 i (by omega))
    have hsubk : ∀ k, k < ks.length → ∀ b, b ∈ (ks.getD k .leaf).blocks → b ∈ (kids.getD k .leaf).blocks := fun k hk1 b hb => (hr k (by omega)).1.sub b hb
    have hkb : ∀ k b, b ∈ (kids.getD k .leaf).blocks → k < kids.length := fun k b hb => by
     by_cases hkl : k < kids.length
     ·exact hkl
     ·rw [List.getD_eq_getElem?_getD, List.getElem?_eq_none (by omega)] at hb
      simp [Lt.blocks] at hb
    refine ⟨.slc b0 off cap ks, ⟨⟨fun b hb => ?_, ?_, .inl (by simp [Lt.hv, hks, h1]), fun X' hX' hB => ?_⟩, fun q b hb hb2 => ?_⟩, fun b hb hb2 => ?_⟩
    ·simp only [Lt.blocks, List.mem_cons] at hb ⊢
     rcases hb with hb | hb
     ·exact .inl hb
     ·obtain ⟨k, hk1, hb⟩ := mem_blocksL.1 hb
      exact .inr (mem_blocksL.2 ⟨k, by omega, hsubk k hk1 b hb⟩)
    ·simp only [Lt.blocks, List.nodup_cons]
     refine ⟨fun hb => ?_, nodup_blocksL_mk (fun k hk1 => (hr k (by omega)).1.nodup) fun k l b hk1 hl1 hb1 hb2 => hnk.2 k l b (by omega) (by omega) (hsubk k hk1 b hb1) (hsubk l hl1 b hb2)⟩
     obtain ⟨k, hk1, hb⟩ := mem_blocksL.1 hb
     exact hn.1 (mem_blocksL.2 ⟨k, by omega, hsubk k hk1 b0 hb⟩)
    ·refine .slc hk hb0 (by omega) h2 h3 fun k hk1 => (hr k hk1).1.own X' hX' fun b hb1 hb2 => hB b (by simp only [Lt.blocks, List.mem_cons]; exact .inr (mem_blocksL.2 ⟨k, by omega, hb1⟩)) fun hb3 => ?_
     simp only [Lt.blocks, List.mem_cons] at hb3
     rcases hb3 with rfl | hb3
     ·exact hn.1 (mem_blocksL.2 ⟨k, by omega, hb1⟩)
     ·obtain ⟨l, hl1, hb3⟩ := mem_blocksL.1 hb3
      have := hnk.2 k l b (by omega) (by omega) hb1 (hsubk l hl1 b hb3)
      subst this
      exact hb2 hb3
    ·cases q with
     | nil => exact hb
     | cons y q =>
      cases y with
      | idx k =>
       simp only [Lt.sub, Lt.el] at hb2 ⊢
       have hb3 := sub_blocks q _ b hb2
       have hkl := hkb k b hb3
       simp only [Lt.blocks, List.mem_cons] at hb
       rcases hb with rfl | hb
       ·exact absurd (mem_blocksL.2 ⟨k, hkl, hb3⟩) hn.1
       ·obtain ⟨k2, hk2, hb⟩ := mem_blocksL.1 hb
        have := hnk.2 k2 k b (by omega) hkl (hsubk k2 hk2 b hb) hb3
        subst this
        exact (hr k2 (by omega)).1.keep q b hb hb2
      | fld j => simp [Lt.sub, Lt.kid, leaf_sub, Lt.blocks] at hb2
      | arr j => simp [Lt.sub, leaf_sub, Lt.blocks] at hb2
    ·simp only [Lt.sub, Lt.el] at hb
     have hb3 := sub_blocks p _ b hb
     have hil := hkb i b hb3
     simp only [Lt.blocks, List.mem_cons] at hb2
     rcases hb2 with rfl | hb2
     ·exact hn.1 (mem_blocksL.2 ⟨i, hil, hb3⟩)
     ·obtain ⟨k, hk1, hb2⟩ := mem_blocksL.1 hb2
      have := hnk.2 k i b (by omega) hil (hsubk k hk1 b hb2) hb3
      subst this
      exact (hr k (by omega)).2 b hb hb2
  | _ => simp [Sh.frzAt] at hf
 | .arr i :: p, L, s, s', t, cs, d, h, hf, hn => by
  cases h <;> simp [Sh.frzAt] at hf
  rename_i h
  subst hf
  exact ⟨.leaf, Cut.refl (.imm h) (by simp [Lt.blocks]), by simp [Lt.sub, leaf_sub, Lt.blocks]⟩

theorem Cut.trans {X : Nat → Prop} {w : World} {L L1 L2 : Lt} {s u : Sh} {t : Nat} {cs : List Value} {d : D} (h : Cut P A X w L L1 s t cs d) (k : ∀ X' : Nat → Prop, (∀ b, b < w.heap.size → X' b → X b) → (∀ b ∈ L.blocks, b ∉ L1.blocks → ¬ X' b) → Cut P A X' w L1 L2 u t cs d) (hv : L2.hv = L.hv ∨ L2 = .leaf) (hn : L2.blocks.Nodup) (hs : ∀ b ∈ L2.blocks, b ∈ L1.blocks)
  (hk : ∀ q b, b ∈ L2.blocks → b ∈ (L1.sub q).blocks → b ∈ (L2.sub q).blocks) : Cut P A X w L L2 u t cs d :=
 ⟨⟨fun b hb => h.sub b (hs b hb), hn, hv, fun X' hX' hB => (k X' hX' fun b hb hnb => hB b hb fun hb2 => hnb (hs b hb2)).own X' (fun _ _ h => h) fun b hb hnb => hB b (h.sub b hb) hnb⟩, fun q b hb hb2 => hk q b hb (h.keep q b (hs b hb) hb2)⟩

end Go.Ab

/- What is lent to be read, given up; flat trees. -/
namespace Go.Ab
variable {P : Program} {A : Ann}

theorem Own.leafS {X : Nat → Prop} {w : World} {s : Sh} {t : Nat} {cs : List Value} {d : D} (h : Own P A X w .leaf s t cs d) : s = .imm := by
 cases h; rfl

theorem Own.frzSh (W : WF P) {w : World} {o : Nat} : ∀ (bs : List (Nat × Option Pth)) {X : Nat → Prop} {L : Lt} {s s' : Sh} {t : Nat} {cs : List Value} {d : D}, Own P A X w L s t cs d → Go.Ab.frzSh o s bs = some s' → L.blocks.Nodup →
  ∃ L', Cut P A X w L L' s' t cs d ∧ (∀ q, (o, q) ∈ bs → ∃ p, q = some p ∧ ∀ b ∈ (L.sub p).blocks, b ∉ L'.blocks)
 | [], X, L, s, s', t, cs, d, h, hf, hn => by
  simp only [Go.Ab.frzSh, Option.some.injEq] at hf
  subst hf
  exact ⟨L, Cut.refl h hn, by simp⟩
 | (o', q) :: bs, X, L, s, s', t, cs, d, h, hf, hn => by
  simp only [Go.Ab.frzSh, cond_eq, beq_iff] at hf
  by_cases e : o = o'
  ·subst e
   rw [if_pos rfl] at hf
   split at hf <;> try contradiction
   rename_i p
   split at hf <;> try contradiction
   rename_i s1 hs1
   obtain ⟨L1, c1, d1⟩ := Own.frzAt W p h hs1 hn
   let X1 : Nat → Prop := fun b => X b ∧ ¬ (b ∈ L.blocks ∧ b ∉ L1.blocks)
   have h1 : Own P A X1 w L1 s1 t cs d := c1.own X1 (fun _ _ hx => hx.1) fun b hb hnb hx => hx.2 ⟨hb, hnb⟩
   obtain ⟨L2, c2, d2⟩ := Own.frzSh W bs h1 hf c1.nodup
   refine ⟨L2, ⟨⟨fun b hb => c1.sub b (c2.sub b hb), c2.nodup, ?_, fun X' hX' hB => c2.own X' (fun b hb hx => ⟨hX' b hb hx, fun hh => hB b hh.1 (fun hb2 => hh.2 (c2.sub b hb2)) hx⟩) fun b hb hnb => hB b (c1.sub b hb) hnb⟩, fun q b hb hb2 => c2.keep q b hb (c1.keep q b (c2.sub b hb) hb2)⟩, fun q hq => ?_⟩
   ·rcases c2.hv with e2 | e2
    ·rcases c1.hv with e1 | e1
     ·exact .inl (e2.trans e1)
     ·right
      subst e1
      have hs := h1.leafS
      subst hs
      have : s' = .imm := by
       have key : ∀ (bs : List (Nat × Option Pth)) (s' : Sh), Go.Ab.frzSh o .imm bs = some s' → s' = .imm := by
        intro bs
        induction bs with
        | nil => intro s' h; simp only [Go.Ab.frzSh, Option.some.injEq] at h; exact h.symm
        | cons x bs ih =>
         obtain ⟨o2, q2⟩ := x
         intro s' h
         simp only [Go.Ab.frzSh, cond_eq] at h
         split at h
         ·split at h <;> try contradiction
          rw [imm_frzAt] at h
          exact ih s' h
         ·exact ih s' h
       exact key bs s' hf
      subst this
      exact ((c2.own (fun _ => False) (fun _ _ h => h.elim) fun _ _ _ h => h).leaf_of_imm).1
    ·exact .inr e2
   ·rcases List.mem_cons.1 hq with hq | hq
    ·injection hq with _ hq
     exact ⟨p, hq, fun b hb hb2 => d1 b hb (c2.sub b hb2)⟩
    ·obtain ⟨p2, e2, h2⟩ := d2 q hq
     exact ⟨p2, e2, fun b hb hb2 => h2 b (c1.keep p2 b (c2.sub b hb2) hb) hb2⟩
  ·rw [if_neg e] at hf
   obtain ⟨L', c, d'⟩ := Own.frzSh W bs h hf hn
   refine ⟨L', c, fun q hq => ?_⟩
   rcases List.mem_cons.1 hq with hq | hq
   ·injection hq with hq _
    exact absurd hq e
   ·exact d' q hq

/-- Trees without pointers out of them. -/
theorem Own.flat (W : WF P) {X X' : Nat → Prop} {w : World} : ∀ (n : Nat) {L : Lt} {s : Sh} {t : Nat} {cs : List Value} {d : D}, shFlat P n t s = true → Own P A X w L s t cs d → Own P A X' w L s t cs d
 | 0, L, s, t, cs, d, h, _ => by simp [shFlat] at h
 | n + 1, L, s, t, cs, d, h, hO => by
  cases hO with
  | imm hr => exact .imm (Rep.flat W n t cs d (by simpa [shFlat] using h) hr)
  | nil hk => exact .nil hk
  | slc hk hb h1 h2 h3 h4 =>
   rename_i e s0 ex b off cap E c kids xs
   cases ex with
   | some x => simp [shFlat] at h
   | none =>
    simp only [shFlat, hk] at h
    exact .slc hk hb h1 h2 h3 fun i hi => Own.flat W n (h : shFlat P n e s0 = true) (h4 i hi : Own P A X w _ s0 e _ _)
  | agg hk hc hkl hdl hel =>
   rename_i l fs kids ds
   simp only [shFlat, hk, List.all_eq_true] at h
   refine .agg hk hc hkl hdl fun j ft o hj => Own.flat W n (h ((ft, o), j) ?_) (hel j ft o hj)
   have hlt := (List.getElem?_eq_some_iff.1 hj).1
   refine List.mem_iff_getElem?.2 ⟨j, ?_⟩
   rw [List.getElem?_zipIdx, hj]
   simp
  | _ => simp [shFlat] at h

end Go.Ab

/- Arguments. -/
namespace Go.Ab
variable {P : Program} {A : Ann}

def Bof (p : Ph) : Option Pth → List Nat
 | none => p.F
 | some q => (p.L.sub q).blocks ++ p.G

section
variable {X0 Y0 : Nat → Prop} {w0 : World} {ob : Nat → Option Obj} {ph : Nat → Ph} {w : World}

def CapAt (P : Program) (A : Ann) (X : Nat → Prop) (w : World) : PK → Value → D → Prop
 | .imm t, v, d => RepV P A X w t v d
 | .iptr e, v, d => ∃ b off cs d', v = .pointer (some ⟨b, off, none⟩) ∧ ¬ X b ∧ b < w.heap.size ∧ Row w b off cs ∧ Rep P A X w e cs d' ∧ d = .ptr d'
 | .lent _ _ _, _, _ => False
def ArgAt (P : Program) (A : Ann) (X : Nat → Prop) (w : World) : PK → Value → D → Prop
 | .imm t, v, d => RepV P A X w t v d
 | .iptr e, v, d => ∃ b off cs, v = .pointer (some ⟨b, off, none⟩) ∧ ¬ X b ∧ b < w.heap.size ∧ Row w b off cs ∧ Rep P A X w e cs d
 | .lent _ _ _, _, _ => True

/-- What is borrowed is out of 'X'. -/
def Spares (ob : Nat → Option Obj) (ph : Nat → Ph) (bs : List (Nat × Option Pth)) (X : Nat → Prop) : Prop := ∀ o q, (o, q) ∈ bs → ∀ b ∈ Bof (ph o) q, ¬ X b

theorem capD_spec (W : WF P) (hO : Objs' P A X0 Y0 w0.heap.size ob ph w) {k : PK} {av : AV} {v : Value} {d : D} {bs : List (Nat × Option Pth)} (h : AVR1 P A (Xof X0 ob ph) w ob ph av v) (hc : capD P ob k av = some (d, bs)) :
  (∀ x ∈ bs, ∃ z, ob x.1 = some z) ∧ ∀ X' : Nat → Prop, (∀ b, b < w.heap.size → X' b → Xof X0 ob ph b) → Spares ob ph bs X' → CapAt P A X' w k v d := by
 have fixed : ∀ (t : Nat) (a : AV), a = av → a.fixed = true → (match (generalizing := false) St.data P ob t a with
  | some d => some (d, ([] : List (Nat × Option Pth)))
  | none => none) = some (d, bs) → k = .imm t → (∀ x ∈ bs, ∃ z, ob x.1 = some z) ∧ ∀ X' : Nat → Prop, (∀ b, b < w.heap.size → X' b → Xof X0 ob ph b) → Spares ob ph bs X' → CapAt P A X' w k v d := by
  intro t a ea hf hd ek
  subst ea ek
  split at hd <;> try contradiction
  rename_i d' hdd
  simp only [Option.some.injEq, Prod.mk.injEq] at hd
  obtain ⟨rfl, rfl⟩ := hd
  exact ⟨by simp, fun X' hX' _ => (data_imm W h hdd hf).frame (Nat.le_refl _) hX' fun _ _ _ => rfl⟩
 cases k with
 | lent e sh bx => cases av <;> simp [capD] at hc
 | iptr e =>
  cases av with
  | iptr u d' =>
   simp only [capD] at hc
   obtain ⟨hk, hc⟩ := of_condO hc
   simp only [Prod.mk.injEq] at hc
   obtain ⟨rfl, rfl⟩ := hc
   obtain ⟨b, off, cs, h1, h2, h3, h4, h5⟩ := h
   exact ⟨by simp, fun X' hX' _ => ⟨b, off, cs, d', h1, fun hx => h2 (hX' b h3 hx), h3, h4, (h5.kind W.kind (sameK_eq hk).symm).anti hX', rfl⟩⟩
  | ptr o p u =>
   simp only [capD, cond_eq] at hc
   split at hc <;> try contradiction
   rename_i hk
   split at hc <;> try contradiction
   rename_i x hx
   split at hc <;> try contradiction
   rename_i s hs
   split at hc <;> try contradiction
   rename_i hp
   simp only [Option.some.injEq, Prod.mk.injEq] at hc
   obtain ⟨rfl, rfl⟩ := hc
   refine ⟨by simp [hx], fun X' hX' hB => ?_⟩
   obtain ⟨b, off, u', e1, e2, e3, e4⟩ := h x hx
   have ho := hO.ok o x hx
   have hBo : ∀ b ∈ (ph o).F, ¬ X' b := fun b hb => hB o none (by simp) b hb
   obtain ⟨cs', hO', hr⟩ := Own.get W p ho.own hs e3 e2 (fun b o e => (ho.rows b o e).1)
   have hbF : b ∈ (ph o).F := by
    rcases loc_in W p e2 e3 with ⟨b0, o0, e, hb, _⟩ | hb
    ·unfold Ph.root at e
     cases hr : (ph o).rb with
     | none => rw [hr] at e; cases e
     | some b1 =>
      rw [hr] at e
      simp only [Option.map_some, Option.some.injEq, Prod.mk.injEq] at e
      rw [hb, ← e.1]
      simp [Ph.F, hr]
    ·simp [Ph.F, Ph.S, hb]
   refine ⟨b, off, cs', _, e1, hBo b hbF, ho.lt b hbF, hr, ?_, rfl⟩
   refine (hO'.plain hX' 8 (.inr hp) fun b' hb' => hBo b' ?_).kind W.kind (e4.trans (sameK_eq hk).symm)
   simp only [Ph.F, Ph.S, List.mem_append]
   exact .inr (.inl (sub_blocks p _ b' hb'))
  | _ => simp [capD] at hc
 | imm t =>
  cases av with
  | val o p u =>
   simp only [capD] at hc
   split at hc <;> try contradiction
   rename_i d' hd
   simp only [Option.some.injEq, Prod.mk.injEq] at hc
   obtain ⟨rfl, rfl⟩ := hc
   simp only [St.data, cond_eq] at hd
   split at hd <;> try contradiction
   rename_i hk
   split at hd <;> try contradiction
   rename_i x hx
   split at hd <;> try contradiction
   rename_i s hs
   split at hd <;> try contradiction
   rename_i hp
   simp only [Option.some.injEq] at hd
   subst hd
   by_cases hi : immAt ob o p = true
   ·rw [hi]
    refine ⟨by simp, fun X' hX' _ => ?_⟩
    unfold immAt at hi
    rw [hx] at hi
    simp only at hi
    split at hi <;> try contradiction
    rename_i hs2
    show RepV P A X' w t v _
    exact (RepV.kind W (val_imm W (hO.ok o x hx) hx h hs2) (sameK_eq hk).symm).frame (Nat.le_refl _) hX' fun _ _ _ => rfl
   rw [show immAt ob o p = false by simpa using hi, cond_false]
   refine ⟨by simp [hx], fun X' hX' hB => ?_⟩
   have hBo : ∀ b ∈ ((ph o).L.sub p).blocks, ¬ X' b := fun b hb => hB o (some p) (by simp) b (by simp [Bof, hb])
   obtain ⟨h1, h2⟩ := h x hx
   have ho := hO.ok o x hx
   have hit : x.sh ≠ .it := by
    intro e
    obtain ⟨m, rfl, _⟩ := h1 e
    rw [e] at hs
    simp [Sh.get, Sh.fld] at hs
   obtain ⟨u', hu, hk', h3⟩ := h2 hit
   show RepV P A X' w t v _
   refine RepV.kind W (t := u') ?_ (hk'.trans (sameK_eq hk).symm)
   rcases h3 with h3 | ⟨rfl, hrb, hv⟩
   ·obtain ⟨cs', hO'⟩ := ho.own.sub W p hs hu h3
    obtain ⟨rfl, hag⟩ := hO'.header h3
    exact ⟨_, hO'.plain hX' 8 (.inr hp) hBo, (mkV_one hag).symm⟩
   ·simp only [tyAt, Option.some.injEq, Sh.get] at hu hs
    subst hu hs
    exact ⟨_, ho.own.plain hX' 8 (.inr hp) hBo, hv⟩
  | old o u d' =>
   simp only [capD] at hc
   split at hc <;> try contradiction
   rename_i d2 hd
   simp only [Option.some.injEq, Prod.mk.injEq] at hc
   obtain ⟨rfl, rfl⟩ := hc
   simp only [St.data, cond_eq] at hd
   split at hd <;> try contradiction
   rename_i hk
   split at hd <;> try contradiction
   rename_i x hx
   simp only [Option.some.injEq] at hd
   subst hd
   refine ⟨by simp [hx], fun X' hX' hB => ?_⟩
   have hBo : ∀ b ∈ (ph o).S, ¬ X' b := fun b hb => hB o (some []) (by simp) b (by simpa [Bof, Ph.S, Lt.sub] using hb)
   show RepV P A X' w t v _
   refine RepV.kind W ((h x hx).frame (Nat.le_refl _) (fun b hb hx' => ⟨hX' b hb hx', fun hm => hBo b hm hx'⟩) fun _ _ _ => rfl) (sameK_eq hk).symm
  | imm u d' => exact fixed t _ rfl rfl hc rfl
  | con c => exact fixed t _ rfl rfl hc rfl
  | nils u => exact fixed t _ rfl rfl hc rfl
  | _ => simp [capD, St.data] at hc

theorem Spares.left {bs cs : List (Nat × Option Pth)} {X : Nat → Prop} (h : Spares ob ph (bs ++ cs) X) : Spares ob ph bs X := fun o q hq => h o q (by simp [hq])
theorem Spares.right {bs cs : List (Nat × Option Pth)} {X : Nat → Prop} (h : Spares ob ph (bs ++ cs) X) : Spares ob ph cs X := fun o q hq => h o q (by simp [hq])

theorem capsD_spec (W : WF P) (hO : Objs' P A X0 Y0 w0.heap.size ob ph w) : ∀ (ks : List PK) (l : List AV) (vs : List Value) (ds : List D) (bs : List (Nat × Option Pth)), capsD P ob ks l = some (ds, bs) → vs.length = l.length → (∀ (i : Nat) (a : AV), l[i]? = some a → AVR1 P A (Xof X0 ob ph) w ob ph a (vs.getD i undef)) →
  ks.length = l.length ∧ ds.length = l.length ∧ (∀ x ∈ bs, ∃ z, ob x.1 = some z) ∧ ∀ X' : Nat → Prop, (∀ b, b < w.heap.size → X' b → Xof X0 ob ph b) → Spares ob ph bs X' → ∀ (i : Nat) (k : PK), ks[i]? = some k → CapAt P A X' w k (vs.getD i undef) (ds.getD i .und)
 | [], [], vs, ds, bs, h, _, _ => by
  simp only [capsD, Option.some.injEq, Prod.mk.injEq] at h
  obtain ⟨rfl, rfl⟩ := h
  exact ⟨rfl, rfl, by simp, by simp⟩
 | [], a :: l, vs, ds, bs, h, _, _ => by simp [capsD] at h
 | k :: ks, [], vs, ds, bs, h, _, _ => by simp [capsD] at h
 | k :: ks, a :: l, [], ds, bs, h, hl, _ => by simp at hl
 | k :: ks, a :: l, v :: vs, ds, bs, h, hl, hv => by
  simp only [capsD] at h
  split at h <;> try contradiction
  rename_i d b1 ds2 b2 h1 h2
  simp only [Option.some.injEq, Prod.mk.injEq] at h
  obtain ⟨rfl, rfl⟩ := h
  have h0 := hv 0 a rfl
  obtain ⟨e1, e2⟩ := capD_spec W hO h0 h1
  obtain ⟨f1, f2, f3, f4⟩ := capsD_spec W hO ks l vs ds2 b2 h2 (by simpa using hl) fun i a' ha => hv (i + 1) a' ha
  refine ⟨by simp [f1], by simp [f2], fun x hx => ?_, fun X' hX' hB i k' hk => ?_⟩
  ·rcases List.mem_append.1 hx with hx | hx
   ·exact e1 x hx
   ·exact f3 x hx
  ·cases i with
   | zero =>
    simp only [List.getElem?_cons_zero, Option.some.injEq] at hk
    subst hk
    exact e2 X' hX' hB.left
   | succ i => exact f4 X' hX' hB.right i k' hk

/-- A function value out of what it captured. -/
theorem rep_fn {X : Nat → Prop} {t f : Nat} {ks : List PK} {vs : Array Value} {ds : List D} (ht : tk P t = .fn) (h1 : ks.length = ds.length) (h2 : vs.size = ds.length) (h3 : ks.length ≤ (A.sig f).ps.length) (h4 : ks = (A.sig f).ps.drop ((A.sig f).ps.length - ks.length))
  (h : ∀ (i : Nat) (k : PK), ks[i]? = some k → CapAt P A X w k (vs.getD i undef) (ds.getD i .und)) : RepV P A X w t (.func (.func f) #[] vs) (.fn f ds) := by
 have hch : ∀ j : Nat, ∃ z : (Nat × Nat) × (List Value × D), (∀ e, ks[j]? = some (.iptr e) → vs[j]? = some (.pointer (some ⟨z.1.1, z.1.2, none⟩)) ∧ ¬ X z.1.1 ∧ z.1.1 < w.heap.size ∧ Row w z.1.1 z.1.2 z.2.1 ∧ ds.getD j .und = .ptr z.2.2 ∧ Rep P A X w e z.2.1 z.2.2) ∧
   ∀ u, ks[j]? = some (.imm u) → vs[j]? = some (mkV P u z.2.1) ∧ Rep P A X w u z.2.1 (ds.getD j .und) := by
  intro j
  cases hk : ks[j]? with
  | none => exact ⟨((0, 0), ([], .und)), by simp, by simp⟩
  | some k =>
   have hj := (List.getElem?_eq_some_iff.1 hk).1
   have hvj : vs[j]? = some (vs.getD j undef) := by simp [show j < vs.size by omega]
   have hc := h j k hk
   cases k with
   | imm u =>
    obtain ⟨cs, hr, hv⟩ := hc
    refine ⟨((0, 0), (cs, .und)), (fun e he => by cases he), fun u' hu => ?_⟩
    injection hu with hu
    injection hu with hu
    subst hu
    exact ⟨by rw [hvj, hv], hr⟩
   | iptr e =>
    obtain ⟨b, off, cs, d', hv, a1, a2, a3, a4, a5⟩ := hc
    refine ⟨((b, off), (cs, d')), fun e' he => ?_, fun u hu => by cases hu⟩
    injection he with he
    injection he with he
    subst he
    exact ⟨by rw [hvj, hv], a1, a2, a3, a5, a4⟩
   | lent e sh bx => exact hc.elim
 obtain ⟨z, hz⟩ := Classical.axiomOfChoice hch
 refine ⟨[.func (.func f) #[] vs], .fn (ks := ks) (bs := fun j => (z j).1.1) (offs := fun j => (z j).1.2) (css := fun j => (z j).2.1) (dd := fun j => (z j).2.2) ht h1 h2 h3 h4 (fun j e he => ?_) (fun j e he => ((hz j).1 e he).2.2.2.2.2) (fun j u hu => ((hz j).2 u hu).1) (fun j u hu => ((hz j).2 u hu).2) (fun j e s b he => ?_), (mkV_one (by rw [ht]; rfl)).symm⟩
 ·obtain ⟨a1, a2, a3, a4, a5, _⟩ := (hz j).1 e he
  exact ⟨a1, a2, a3, a4, a5⟩
 ·have := h j _ he
  exact this

theorem argD_spec (W : WF P) (hO : Objs' P A X0 Y0 w0.heap.size ob ph w) {k : PK} {av : AV} {v : Value} {d : D} {bs : List (Nat × Option Pth)} {os : List Nat} (h : AVR P A (Xof X0 ob ph) w ob ph av v) (hc : argD P A ob k av = some (d, bs, os)) :
  (∀ x ∈ bs, ∃ z, ob x.1 = some z) ∧ (∀ X' : Nat → Prop, (∀ b, b < w.heap.size → X' b → Xof X0 ob ph b) → Spares ob ph bs X' → ArgAt P A X' w k v d) ∧
   (match (generalizing := false) k with
   | .lent e sh bx => ∃ o, os = [o] ∧ ob o = some ⟨bx, e, sh, d⟩ ∧ LentAt P (Xof X0 ob ph) w false (0, e, sh, bx) v (ph o) ∧ (bx = false → sh ≠ .it)
   | _ => os = []) := by
 have cap : ∀ (t : Nat) (a : AV), a = av → a.flatA = true → k = .imm t → (match (generalizing := false) capD P ob (.imm t) a with
  | some (d, os) => some (d, os, ([] : List Nat))
  | none => none) = some (d, bs, os) → (∀ x ∈ bs, ∃ z, ob x.1 = some z) ∧ (∀ X' : Nat → Prop, (∀ b, b < w.heap.size → X' b → Xof X0 ob ph b) → Spares ob ph bs X' → ArgAt P A X' w k v d) ∧
   (match (generalizing := false) k with
   | .lent e sh bx => ∃ o, os = [o] ∧ ob o = some ⟨bx, e, sh, d⟩ ∧ LentAt P (Xof X0 ob ph) w false (0, e, sh, bx) v (ph o) ∧ (bx = false → sh ≠ .it)
   | _ => os = []) := by
  intro t a ea hfl ek hd
  subst ea ek
  split at hd <;> try contradiction
  rename_i d' bs' hcc
  simp only [Option.some.injEq, Prod.mk.injEq] at hd
  obtain ⟨rfl, rfl, rfl⟩ := hd
  obtain ⟨e1, e2⟩ := capD_spec W hO (h.one hfl) hcc
  exact ⟨e1, fun X' hX' hB => e2 X' hX' hB, rfl⟩
 cases k with
 | lent e sh bx =>
  cases bx with
  | false =>
   cases av with
   | val o p u =>
    cases p with
    | nil =>
     simp only [argD, cond_eq] at hc
     split at hc <;> try contradiction
     split at hc <;> try contradiction
     rename_i x hx
     rw [← cond_eq] at hc
     obtain ⟨hb, hc⟩ := of_condO hc
     simp only [Prod.mk.injEq] at hc
     obtain ⟨rfl, rfl, rfl⟩ := hc
     simp only [Bool.and_eq_true, beq_iff, Bool.not_eq_true'] at hb
     have hse := Sh.eq_of_beq hb.2.2.1
     have hno := noIt_ne hb.2.2.2
     have hOk := hO.ok o x hx
     have hx0 := hx
     obtain ⟨_, h2⟩ := h x hx
     obtain ⟨bx, t, s, d⟩ := x
     simp only at hb hse h2 hOk
     obtain ⟨rfl, rfl, _⟩ := hb
     subst hse
     obtain ⟨u', _, _, h3⟩ := h2 hno
     refine ⟨by simp, fun _ _ _ => trivial, o, rfl, hx0, ⟨fun h => (by cases h), fun h => (by cases h), fun _ => ⟨?_, hOk.hdr rfl⟩⟩, fun _ => hno⟩
     rcases h3 with h3 | ⟨_, _, h3⟩
     ·obtain ⟨e1, e2⟩ := hOk.own.header h3
      show v = mkV P t (ph o).cs
      have e1 : (ph o).cs = [v] := e1
      rw [e1, mkV_one e2]
     ·exact h3
    | cons z p => simp [argD] at hc
   | _ => simp [argD] at hc
  | true =>
  cases av with
  | ptr o p u =>
   cases p with
   | nil =>
    simp only [argD, cond_eq] at hc
    split at hc <;> try contradiction
    split at hc <;> try contradiction
    rename_i x hx
    rw [← cond_eq] at hc
    obtain ⟨hb, hc⟩ := of_condO hc
    simp only [Prod.mk.injEq] at hc
    obtain ⟨rfl, rfl, rfl⟩ := hc
    simp only [Bool.and_eq_true, beq_iff] at hb
    obtain ⟨b, off, u', e1, e2, e3, e4⟩ := h x hx
    have hse := Sh.eq_of_beq hb.2.2
    refine ⟨by simp, fun _ _ _ => trivial, o, rfl, ?_, ⟨fun _ _ => ⟨b, ?_⟩, fun _ h => (by cases h), fun h => (by cases h)⟩, fun h => by cases h⟩
    ·rw [hx]
     obtain ⟨bx, t, s, d⟩ := x
     simp only at hb hse
     obtain ⟨rfl, rfl, _⟩ := hb
     subst hse
     rfl
    ·simp only [Lt.loc] at e2
     unfold Ph.root at e2
     cases hr : (ph o).rb with
     | none => rw [hr] at e2; cases e2
     | some b2 =>
      rw [hr] at e2
      simp only [Option.map_some, Option.some.injEq, Prod.mk.injEq] at e2
      exact ⟨by rw [e1, ← e2.2], by rw [e2.1]⟩
   | cons z p => simp [argD] at hc
  | _ => simp [argD] at hc
 | iptr e =>
  cases av with
  | iptr u d' =>
   simp only [argD] at hc
   obtain ⟨hk, hc⟩ := of_condO hc
   simp only [Prod.mk.injEq] at hc
   obtain ⟨rfl, rfl, rfl⟩ := hc
   obtain ⟨b, off, cs, h1, h2, h3, h4, h5⟩ := h
   exact ⟨by simp, fun X' hX' _ => ⟨b, off, cs, h1, fun hx => h2 (hX' b h3 hx), h3, h4, (h5.kind W.kind (sameK_eq hk).symm).anti hX'⟩, rfl⟩
  | ptr o p u =>
   simp only [argD] at hc
   split at hc <;> try contradiction
   rename_i d' bs' hcc
   simp only [Option.some.injEq, Prod.mk.injEq] at hc
   obtain ⟨rfl, rfl, rfl⟩ := hc
   obtain ⟨e1, e2⟩ := capD_spec W hO (AVR.one h rfl) hcc
   refine ⟨e1, fun X' hX' hB => ?_, rfl⟩
   obtain ⟨b, off, cs, d2, a1, a2, a3, a4, a5, rfl⟩ := e2 X' hX' hB
   exact ⟨b, off, cs, a1, a2, a3, a4, a5⟩
  | _ => simp [argD] at hc
 | imm t =>
  cases av with
  | clo f l =>
   simp only [argD] at hc
   split at hc <;> try contradiction
   rename_i ht
   split at hc <;> try contradiction
   rename_i ds bs' hcc
   simp only [Option.some.injEq, Prod.mk.injEq] at hc
   obtain ⟨rfl, rfl, rfl⟩ := hc
   obtain ⟨vs, rfl, hsz, hel⟩ := h
   have hgd : ∀ i, vs.toList.getD i undef = vs.getD i undef := fun i => by simp [Array.getD_eq_getD_getElem?, List.getD_eq_getElem?_getD]
   obtain ⟨f1, f2, f3, f4⟩ := capsD_spec W hO _ l vs.toList ds bs' hcc (by simpa using hsz) fun i a ha => by rw [hgd]; exact hel i a ha
   rw [List.length_drop] at f1
   refine ⟨f3, fun X' hX' hB => ?_, rfl⟩
   have hks : ((A.sig f).ps.drop ((A.sig f).ps.length - l.length)).length = l.length := by rw [List.length_drop]; exact f1
   refine rep_fn ht (by rw [hks, f2]) (by rw [hsz, f2]) (by rw [hks]; omega) (by rw [hks]) fun i k hk => ?_
   rw [← hgd]
   exact f4 X' hX' hB i k hk
  | fn f =>
   simp only [argD] at hc
   split at hc <;> try contradiction
   rename_i ht
   simp only [Option.some.injEq, Prod.mk.injEq] at hc
   obtain ⟨rfl, rfl, rfl⟩ := hc
   have hv : v = .func (.func f) #[] #[] := h
   subst hv
   exact ⟨by simp, fun X' _ _ => rep_fn (ks := []) ht rfl rfl (by simp) (by simp) (by simp), rfl⟩
  | val o p u => exact cap t _ rfl rfl rfl hc
  | old o u d' => exact cap t _ rfl rfl rfl hc
  | imm u d' => exact cap t _ rfl rfl rfl hc
  | con c => exact cap t _ rfl rfl rfl hc
  | nils u => exact cap t _ rfl rfl rfl hc
  | _ => simp [argD, capD, St.data] at hc

/-- What is lent by a pointer in a cell. -/
theorem argC_spec {k : PK} {av : AV} {v : Value} {d : D} {bs : List (Nat × Option Pth)} {os : List Nat} (h : AVR P A (Xof X0 ob ph) w ob ph av v) (hc : argC P ob k av = some (d, bs, os)) :
  (∀ x ∈ bs, ∃ z, ob x.1 = some z) ∧ (∀ X' : Nat → Prop, (∀ b, b < w.heap.size → X' b → Xof X0 ob ph b) → Spares ob ph bs X' → ArgAt P A X' w k v d) ∧
   (match (generalizing := false) k with
   | .lent e sh bx => ∃ o, os = [o] ∧ ob o = some ⟨bx, e, sh, d⟩ ∧ LentAt P (Xof X0 ob ph) w true (0, e, sh, bx) v (ph o) ∧ (bx = false → sh ≠ .it)
   | _ => os = []) := by
 unfold argC at hc
 split at hc <;> try contradiction
 rename_i e sh o u
 rw [cond_eq] at hc
 split at hc <;> try contradiction
 split at hc <;> try contradiction
 rename_i x hx
 obtain ⟨hb, hc⟩ := of_condO hc
 simp only [Prod.mk.injEq] at hc
 obtain ⟨rfl, rfl, rfl⟩ := hc
 simp only [Bool.and_eq_true, beq_iff] at hb
 obtain ⟨q, off, u1, e1, e2, e3, e4, e5⟩ := h
 obtain ⟨b, off2, u', g1, g2, _, _⟩ := e5 x hx
 have hse := Sh.eq_of_beq hb.2.2
 subst g1
 refine ⟨by simp, fun _ _ _ => trivial, o, rfl, ?_, ⟨fun _ h => (by cases h), fun _ _ => ?_, fun h => (by cases h)⟩, fun h => by cases h⟩
 ·rw [hx]
  obtain ⟨bx, t, s, d⟩ := x
  simp only at hb hse
  obtain ⟨rfl, rfl, _⟩ := hb
  subst hse
  rfl
 ·simp only [Lt.loc] at g2
  unfold Ph.root at g2
  cases hr : (ph o).rb with
  | none => rw [hr] at g2; cases g2
  | some b2 =>
   rw [hr] at g2
   simp only [Option.map_some, Option.some.injEq, Prod.mk.injEq] at g2
   obtain ⟨rfl, rfl⟩ := g2
   exact ⟨q, off, b2, e1, e2, e3, e4, rfl⟩

/-- Arguments: data, what is borrowed, what is lent. -/
theorem argsD_spec (W : WF P) (hO : Objs' P A X0 Y0 w0.heap.size ob ph w) {cs : List Nat} : ∀ (ps : List PK) (l : List AV) (k : Nat) (vals : Array Value) (ds : List D) (bs : List (Nat × Option Pth)) (os : List Nat), argsD P A ob cs k ps l = some (ds, bs, os) →
  (∀ (i : Nat) (a : AV), l[i]? = some a → AVR P A (Xof X0 ob ph) w ob ph a (vals.getD (k + i) undef)) →
  l.length = ps.length ∧ ds.length = ps.length ∧ (∀ x ∈ bs, ∃ z, ob x.1 = some z) ∧
   (∀ X' : Nat → Prop, (∀ b, b < w.heap.size → X' b → Xof X0 ob ph b) → Spares ob ph bs X' → ∀ (i : Nat) (kk : PK), ps[i]? = some kk → ArgAt P A X' w kk (vals.getD (k + i) undef) (ds.getD i .und)) ∧
   os.length = (lentL k ps).length ∧ ∀ (j : Nat) (y : Nat × Nat × Sh × Bool), (lentL k ps)[j]? = some y → k ≤ y.1 ∧ ps[y.1 - k]? = some (.lent y.2.1 y.2.2.1 y.2.2.2) ∧ ∃ o, os[j]? = some o ∧ ob o = some ⟨y.2.2.2, y.2.1, y.2.2.1, ds.getD (y.1 - k) .und⟩ ∧ LentAt P (Xof X0 ob ph) w (isCel cs y.1) y (vals.getD y.1 undef) (ph o) ∧ (y.2.2.2 = false → y.2.2.1 ≠ .it)
 | [], [], k, vals, ds, bs, os, h, _ => by
  simp only [argsD, Option.some.injEq, Prod.mk.injEq] at h
  obtain ⟨rfl, rfl, rfl⟩ := h
  exact ⟨rfl, rfl, by simp, by simp, rfl, by simp [lentL]⟩
 | [], a :: l, k, vals, ds, bs, os, h, _ => by simp [argsD] at h
 | kk :: ps, [], k, vals, ds, bs, os, h, _ => by simp [argsD] at h
 | kk :: ps, a :: l, k, vals, ds, bs, os, h, hv => by
  simp only [argsD] at h
  split at h <;> try contradiction
  rename_i d b1 o1 ds2 b2 o2 h1 h2
  simp only [Option.some.injEq, Prod.mk.injEq] at h
  obtain ⟨rfl, rfl, rfl⟩ := h
  have h0 := hv 0 a rfl
  rw [Nat.add_zero] at h0
  have hone : (∀ x ∈ b1, ∃ z, ob x.1 = some z) ∧ (∀ X' : Nat → Prop, (∀ b, b < w.heap.size → X' b → Xof X0 ob ph b) → Spares ob ph b1 X' → ArgAt P A X' w kk (vals.getD k undef) d) ∧
    (match (generalizing := false) kk with
    | .lent e sh bx => ∃ o, o1 = [o] ∧ ob o = some ⟨bx, e, sh, d⟩ ∧ LentAt P (Xof X0 ob ph) w (isCel cs k) (0, e, sh, bx) (vals.getD k undef) (ph o) ∧ (bx = false → sh ≠ .it)
    | _ => o1 = []) := by
   cases hcel : isCel cs k with
   | true => rw [hcel, cond_true] at h1; exact argC_spec h0 h1
   | false => rw [hcel, cond_false] at h1; exact argD_spec W hO h0 h1
  obtain ⟨e1, e2, e3⟩ := hone
  obtain ⟨f1, f2, f3, f4, f5, f6⟩ := argsD_spec W hO ps l (k + 1) vals ds2 b2 o2 h2 fun i a' ha => by
   have := hv (i + 1) a' ha
   rw [show k + 1 + i = k + (i + 1) by omega]
   exact this
  have hrest : ∀ (y : Nat × Nat × Sh × Bool), k + 1 ≤ y.1 → ps[y.1 - (k + 1)]? = some (.lent y.2.1 y.2.2.1 y.2.2.2) → k ≤ y.1 ∧ (kk :: ps)[y.1 - k]? = some (.lent y.2.1 y.2.2.1 y.2.2.2) ∧ (d :: ds2).getD (y.1 - k) .und = ds2.getD (y.1 - (k + 1)) .und := fun y hy hp => by
   have : y.1 - k = (y.1 - (k + 1)) + 1 := by omega
   exact ⟨by omega, by rw [this]; exact hp, by rw [this]; rfl⟩
  refine ⟨by simp [f1], by simp [f2], fun x hx => ?_, fun X' hX' hB i kk' hk => ?_, ?_, fun j y hy => ?_⟩
  ·rcases List.mem_append.1 hx with hx | hx
   ·exact e1 x hx
   ·exact f3 x hx
  ·cases i with
   | zero =>
    simp only [List.getElem?_cons_zero, Option.some.injEq] at hk
    subst hk
    exact e2 X' hX' hB.left
   | succ i =>
    have := f4 X' hX' hB.right i kk' hk
    rw [show k + (i + 1) = k + 1 + i by omega]
    exact this
  ·cases kk with
   | lent e sh bx =>
    obtain ⟨o, rfl, _⟩ := e3
    simp [lentL, f5]
   | imm t => simp only at e3; subst e3; exact f5
   | iptr t => simp only at e3; subst e3; exact f5
  ·cases kk with
   | lent e sh bx =>
    obtain ⟨o, rfl, g1, g2, g3⟩ := e3
    cases j with
    | zero =>
     simp only [lentL, List.getElem?_cons_zero, Option.some.injEq] at hy
     subst hy
     exact ⟨Nat.le_refl _, by simp, o, rfl, by simpa using g1, g2, g3⟩
    | succ j =>
     obtain ⟨c1, c2, o', c3, c4, c5, c6⟩ := f6 j y hy
     obtain ⟨c7, c8, c9⟩ := hrest y c1 c2
     exact ⟨c7, c8, o', c3, by rw [c9]; exact c4, c5, c6⟩
   | imm t =>
    simp only at e3
    subst e3
    obtain ⟨c1, c2, o', c3, c4, c5, c6⟩ := f6 j y hy
    obtain ⟨c7, c8, c9⟩ := hrest y c1 c2
    exact ⟨c7, c8, o', c3, by rw [c9]; exact c4, c5, c6⟩
   | iptr t =>
    simp only at e3
    subst e3
    obtain ⟨c1, c2, o', c3, c4, c5, c6⟩ := f6 j y hy
    obtain ⟨c7, c8, c9⟩ := hrest y c1 c2
    exact ⟨c7, c8, o', c3, by rw [c9]; exact c4, c5, c6⟩

end
end Go.Ab

/- The start of a call. -/
namespace Go.Ab
variable {P : Program} {A : Ann}

theorem getD_tail {l : List D} {i : Nat} : l.tail.getD i .und = l.getD (i + 1) .und := by
 cases l <;> simp

theorem look_init {cs : List Nat} : ∀ (ps : List PK) (ds : List D) (k i : Nat), look (initSl cs k ps ds) i = if k ≤ i then (match ps[i - k]? with
  | some (.imm t) => .imm t (ds.getD (i - k) .und)
  | some (.iptr e) => .iptr e (ds.getD (i - k) .und)
  | some (.lent e _ bx) => cond bx (cond (isCel cs i) (.celp i e) (.ptr i [] e)) (.val i [] e)
  | none => .dead) else .dead
 | [], ds, k, i => by simp [initSl, look]
 | p :: ps, ds, k, i => by
  have ih := look_init (cs := cs) ps ds.tail (k + 1) i
  have hh : ds.headD .und = ds.getD 0 .und := by cases ds <;> rfl
  have hs : ∀ v : AV, (match (generalizing := false) p with
    | .imm t => (AV.imm t (ds.headD .und))
    | .iptr e => .iptr e (ds.headD .und)
    | .lent e _ bx => cond bx (cond (isCel cs k) (.celp k e) (.ptr k [] e)) (.val k [] e)) = v → look ((k, v) :: initSl cs (k + 1) ps ds.tail) i = if k ≤ i then (match (p :: ps)[i - k]? with
  | some (.imm t) => .imm t (ds.getD (i - k) .und)
  | some (.iptr e) => .iptr e (ds.getD (i - k) .und)
  | some (.lent e _ bx) => cond bx (cond (isCel cs i) (.celp i e) (.ptr i [] e)) (.val i [] e)
  | none => .dead) else .dead := by
   intro v hv
   rw [look_cons, ih]
   by_cases e : k = i
   ·subst e
    rw [if_pos rfl, if_pos (Nat.le_refl _), Nat.sub_self, ← hv]
    cases p <;> simp only [hh, List.getElem?_cons_zero]
   ·rw [if_neg e]
    by_cases h : k + 1 ≤ i
    ·rw [if_pos h, if_pos (by omega), show i - k = (i - (k + 1)) + 1 by omega, List.getElem?_cons_succ, getD_tail]
    ·rw [if_neg h, if_neg (by omega)]
  cases p with
  | imm t => exact hs _ rfl
  | iptr e => exact hs _ rfl
  | lent e sh bx => exact hs _ rfl

theorem lookO_init : ∀ (ps : List PK) (ds : List D) (k i : Nat), lookO (initOb k ps ds) i = if k ≤ i then (match ps[i - k]? with
  | some (.lent e sh bx) => some ⟨bx, e, sh, ds.getD (i - k) .und⟩
  | _ => none) else none
 | [], ds, k, i => by simp [initOb, lookO]
 | p :: ps, ds, k, i => by
  have ih := lookO_init ps ds.tail (k + 1) i
  have hh : ds.headD .und = ds.getD 0 .und := by cases ds <;> rfl
  have step : ∀ j, k + 1 ≤ i → j = i - k → (match (p :: ps)[j]? with
    | some (.lent e sh bx) => some (⟨bx, e, sh, ds.getD j .und⟩ : Obj)
    | _ => none) = (match ps[i - (k + 1)]? with
    | some (.lent e sh bx) => some ⟨bx, e, sh, ds.tail.getD (i - (k + 1)) .und⟩
    | _ => none) := fun j h e => by
   subst e
   rw [show i - k = (i - (k + 1)) + 1 by omega, List.getElem?_cons_succ, getD_tail]
  cases p with
  | imm t =>
   simp only [initOb, ih]
   by_cases h : k + 1 ≤ i
   ·rw [if_pos h, if_pos (by omega), step _ h rfl]
   ·rw [if_neg h]
    by_cases e : k = i
    ·subst e; rw [if_pos (Nat.le_refl _), Nat.sub_self]; rfl
    ·rw [if_neg (by omega)]
  | iptr t =>
   simp only [initOb, ih]
   by_cases h : k + 1 ≤ i
   ·rw [if_pos h, if_pos (by omega), step _ h rfl]
   ·rw [if_neg h]
    by_cases e : k = i
    ·subst e; rw [if_pos (Nat.le_refl _), Nat.sub_self]; rfl
    ·rw [if_neg (by omega)]
  | lent t sh bx =>
   simp only [initOb]
   rw [lookO_cons, ih]
   by_cases e : k = i
   ·subst e
    rw [if_pos rfl, if_pos (Nat.le_refl _), Nat.sub_self, hh]
    rfl
   ·rw [if_neg e]
    by_cases h : k + 1 ≤ i
    ·rw [if_pos h, if_pos (by omega), step _ h rfl]
    ·rw [if_neg h, if_neg (by omega)]

theorem mem_lentL : ∀ (ps : List PK) (k i e : Nat) (sh : Sh) (bx : Bool), k ≤ i → ps[i - k]? = some (.lent e sh bx) → (i, e, sh, bx) ∈ lentL k ps
 | [], k, i, e, sh, bx, _, h => by simp at h
 | p :: ps, k, i, e, sh, bx, hk, h => by
  by_cases e1 : k = i
  ·subst e1
   rw [Nat.sub_self] at h
   simp only [List.getElem?_cons_zero, Option.some.injEq] at h
   subst h
   simp [lentL]
  ·have := mem_lentL ps (k + 1) i e sh bx (by omega) (by rw [show i - k = (i - (k + 1)) + 1 by omega, List.getElem?_cons_succ] at h; exact h)
   cases p <;> simp only [lentL] <;> first | exact this | exact List.mem_cons_of_mem _ this

theorem lentL_ge : ∀ (ps : List PK) (k : Nat) (y : Nat × Nat × Sh × Bool), y ∈ lentL k ps → k ≤ y.1 ∧ ps[y.1 - k]? = some (.lent y.2.1 y.2.2.1 y.2.2.2)
 | [], k, y, h => by simp [lentL] at h
 | p :: ps, k, y, h => by
  have rest : y ∈ lentL (k + 1) ps → k ≤ y.1 ∧ (p :: ps)[y.1 - k]? = some (.lent y.2.1 y.2.2.1 y.2.2.2) := fun h => by
   obtain ⟨h1, h2⟩ := lentL_ge ps (k + 1) y h
   exact ⟨by omega, by rw [show y.1 - k = (y.1 - (k + 1)) + 1 by omega, List.getElem?_cons_succ]; exact h2⟩
  cases p with
  | imm t => exact rest h
  | iptr t => exact rest h
  | lent e sh bx =>
   rcases List.mem_cons.1 h with rfl | h
   ·exact ⟨Nat.le_refl _, by simp⟩
   ·exact rest h

theorem lentL_nodup : ∀ (ps : List PK) (k : Nat), ((lentL k ps).map (·.1)).Nodup
 | [], k => List.nodup_nil
 | p :: ps, k => by
  have ih := lentL_nodup ps (k + 1)
  cases p with
  | imm t => exact ih
  | iptr t => exact ih
  | lent e sh bx =>
   simp only [lentL, List.map_cons, List.nodup_cons]
   refine ⟨fun h => ?_, ih⟩
   obtain ⟨y, hy, e1⟩ := List.mem_map.1 h
   have := (lentL_ge ps (k + 1) y hy).1
   omega

/-- What is lent lies here. -/
def lentY (ps : List PK) (ds : List D) (phL : Nat → Ph) (b : Nat) : Prop := ∃ o x, lookO (initOb 0 ps ds) o = some x ∧ b ∈ (phL o).F

/-- Arguments in a world. -/
structure Args (P : Program) (A : Ann) (X0 : Nat → Prop) (w : World) (cs : List Nat) (ps : List PK) (args : Array Value) (ds : List D) (phL : Nat → Ph) : Prop where
 asize : args.size = ps.length
 dlen : ds.length = ps.length
 objs : Objs' P A X0 (lentY ps ds phL) w.heap.size (lookO (initOb 0 ps ds)) phL w
 slots : ∀ i, AVR P A (Xof X0 (lookO (initOb 0 ps ds)) phL) w (lookO (initOb 0 ps ds)) phL (look (initSl cs 0 ps ds) i) (args.getD i undef)

/-- WHAT A CALL DOES, by its rule. -/
def CallOk (P : Program) (A : Ann) (cal : Nat → List D → (List D → Prop) → Prop) : Prop := ∀ f ds Q, cal f ds Q → (∃ fn, P.funcs[f]? = some fn ∧ fn.body.isSome = true ∧ fn.name ≠ "runtime.NumGoroutine") ∧
 ∀ (X0 : Nat → Prop) (w : World) (args : Array Value) (phL : Nat → Ph), Args P A X0 w (A.sig f).cel (A.sig f).ps args ds phL →
  Calls P f args w fun e w' => ∃ v r phR vs, e = .returned v ∧ Q r ∧ Ret P A X0 (lentY (A.sig f).ps ds phL) w w' (A.sig f) phL v r phR vs

section
variable {X0 Y0 : Nat → Prop} {w0 : World} {ob : Nat → Option Obj} {ph : Nat → Ph} {w : World}

/-- What is out of the callee's reach. -/
def Xcal (X0 : Nat → Prop) (ob : Nat → Option Obj) (ph : Nat → Ph) (bs : List (Nat × Option Pth)) (os : List Nat) (b : Nat) : Prop :=
 Xof X0 ob ph b ∧ (∀ o ∈ os, b ∉ (ph o).F) ∧ ¬ ∃ o q, (o, q) ∈ bs ∧ b ∈ Bof (ph o) q

theorem Bof_F {p : Ph} {q : Option Pth} {b : Nat} (h : b ∈ Bof p q) : b ∈ p.F := by
 cases q with
 | none => exact h
 | some q =>
  simp only [Bof, List.mem_append] at h
  simp only [Ph.F, Ph.S, List.mem_append]
  rcases h with h | h
  ·exact .inr (.inl (sub_blocks q _ b h))
  ·exact .inr (.inr h)

theorem apartB_iff {l m : List Nat} (h : apartB l m = true) : ∀ a ∈ l, a ∉ m := by
 intro a ha hm
 have := List.all_eq_true.1 h a ha
 simp only [Bool.not_eq_true', List.any_eq_false, beq_iff] at this
 exact this a hm rfl

theorem nodupB_iff {l : List Nat} (h : nodupB l = true) : ∀ (i j a : Nat), l[i]? = some a → l[j]? = some a → i = j := by
 induction l with
 | nil => intro i j a h; simp at h
 | cons x l ih =>
  intro i j a hi hj
  rw [nodupB_cons] at h
  cases i with
  | zero =>
   cases j with
   | zero => rfl
   | succ j =>
    simp only [List.getElem?_cons_zero, Option.some.injEq] at hi
    subst hi
    exact absurd (List.mem_of_getElem? (by simpa using hj)) h.1
  | succ i =>
   cases j with
   | zero =>
    simp only [List.getElem?_cons_zero, Option.some.injEq] at hj
    subst hj
    exact absurd (List.mem_of_getElem? (by simpa using hi)) h.1
   | succ j => rw [ih h.2 i j a hi hj]

/-- THE START OF A CALL: arguments as the callee sees them. -/
theorem args_of (W : WF P) (hO : Objs' P A X0 Y0 w0.heap.size ob ph w) (hw0 : w0.heap.size ≤ w.heap.size) {cs : List Nat} {ps : List PK} {l : List AV} {vals : Array Value} {ds : List D} {bs : List (Nat × Option Pth)} {os : List Nat} (h : argsD P A ob cs 0 ps l = some (ds, bs, os)) (hsz : vals.size = l.length)
  (hv : ∀ (i : Nat) (a : AV), l[i]? = some a → AVR P A (Xof X0 ob ph) w ob ph a (vals.getD i undef)) (hn : nodupB os = true) (hap : apartB (bs.map (·.1)) os = true) :
  ∃ phL : Nat → Ph, Args P A (Xcal X0 ob ph bs os) w cs ps vals ds phL ∧ os.length = (lentL 0 ps).length ∧ (∀ x ∈ bs, ∃ z, ob x.1 = some z) ∧
   (∀ (j : Nat) (y : Nat × Nat × Sh × Bool), (lentL 0 ps)[j]? = some y → ∃ o, os[j]? = some o ∧ ob o = some ⟨y.2.2.2, y.2.1, y.2.2.1, ds.getD y.1 .und⟩ ∧ phL y.1 = ph o ∧ (y.2.2.2 = false → y.2.2.1 ≠ .it)) ∧
   (∀ b, lentY ps ds phL b → ∃ o ∈ os, ∃ x, ob o = some x ∧ b ∈ (ph o).F) := by
 obtain ⟨f1, f2, f3, f4, f5, f6⟩ := argsD_spec W hO ps l 0 vals ds bs os h fun i a ha => by rw [Nat.zero_add]; exact hv i a ha
 let phL : Nat → Ph := fun i => ph (os.getD ((lentL 0 ps).findIdx fun y => y.1 == i) 0)
 have hidx : ∀ (j : Nat) (y : Nat × Nat × Sh × Bool), (lentL 0 ps)[j]? = some y → ((lentL 0 ps).findIdx fun z => z.1 == y.1) = j := by
  intro j y hy
  have hnd := lentL_nodup ps 0
  generalize lentL 0 ps = Ls at hy hnd
  induction Ls generalizing j with
  | nil => simp at hy
  | cons z Ls ih =>
   simp only [List.map_cons, List.nodup_cons] at hnd
   rw [List.findIdx_cons]
   cases j with
   | zero =>
    simp only [List.getElem?_cons_zero, Option.some.injEq] at hy
    subst hy
    simp
   | succ j =>
    simp only [List.getElem?_cons_succ] at hy
    have hne : z.1 ≠ y.1 := fun e => hnd.1 (List.mem_map.2 ⟨y, List.mem_of_getElem? hy, e.symm⟩)
    have hb : (z.1 == y.1) = false := by simpa using hne
    rw [hb, cond_false, ih j hy hnd.2]
 have hl : ∀ (j : Nat) (y : Nat × Nat × Sh × Bool), (lentL 0 ps)[j]? = some y → ∃ o, os[j]? = some o ∧ ob o = some ⟨y.2.2.2, y.2.1, y.2.2.1, ds.getD y.1 .und⟩ ∧ phL y.1 = ph o ∧ LentAt P (Xof X0 ob ph) w (isCel cs y.1) y (vals.getD y.1 undef) (ph o) ∧ (y.2.2.2 = false → y.2.2.1 ≠ .it) := fun j y hy => by
  obtain ⟨_, _, o, g1, g2, g3, g4⟩ := f6 j y hy
  refine ⟨o, g1, g2, ?_, g3, g4⟩
  simp only [phL]
  rw [hidx j y hy, List.getD_eq_getElem?_getD, g1]
  rfl
 have hob : ∀ i x, lookO (initOb 0 ps ds) i = some x → ∃ (j : Nat) (y : Nat × Nat × Sh × Bool) (o : Nat), (lentL 0 ps)[j]? = some y ∧ y.1 = i ∧ os[j]? = some o ∧ ob o = some x ∧ phL i = ph o ∧ LentAt P (Xof X0 ob ph) w (isCel cs i) y (vals.getD i undef) (ph o) ∧ (y.2.2.2 = false → y.2.2.1 ≠ .it) ∧ ps[i]? = some (.lent y.2.1 y.2.2.1 y.2.2.2) := fun i x hx => by
  rw [lookO_init, if_pos (Nat.zero_le _), Nat.sub_zero] at hx
  split at hx <;> try contradiction
  rename_i e sh bx hp
  simp only [Option.some.injEq] at hx
  obtain ⟨j, hj⟩ := List.mem_iff_getElem?.1 (mem_lentL ps 0 i e sh bx (Nat.zero_le _) (by rw [Nat.sub_zero]; exact hp))
  obtain ⟨o, g1, g2, g3, g4, g5⟩ := hl j _ hj
  exact ⟨j, _, o, hj, rfl, g1, by rw [g2, ← hx], g3, g4, g5, hp⟩
 have hXc : ∀ b, Xof (Xcal X0 ob ph bs os) (lookO (initOb 0 ps ds)) phL b → Xof X0 ob ph b := by
  rintro b (h | ⟨i, x, hx, hm⟩)
  ·exact h.1
  ·obtain ⟨_, _, o, _, _, _, g2, g3, _⟩ := hob i x hx
   rw [g3] at hm
   exact .inr ⟨o, x, g2, hm⟩
 have hsp : Spares ob ph bs (Xof (Xcal X0 ob ph bs os) (lookO (initOb 0 ps ds)) phL) := by
  rintro o q hq b hb (hx | ⟨i, x, hx, hm⟩)
  ·exact hx.2.2 ⟨o, q, hq, hb⟩
  ·obtain ⟨j, _, o', _, _, g1, g2, g3, _⟩ := hob i x hx
   rw [g3] at hm
   obtain ⟨z, hz⟩ := f3 _ hq
   have hne : o ≠ o' := fun e => by
    subst e
    exact apartB_iff hap o (List.mem_map.2 ⟨(o, q), hq, rfl⟩) (List.mem_of_getElem? g1)
   exact hO.apart o z o' x hz g2 hne b (Bof_F hb) hm
 refine ⟨phL, ⟨by rw [hsz, f1], f2, ⟨fun i x hx => ?_, fun i x i' x' hx hx' hii b hb hb' => ?_, fun i x hx b hb hxc => ?_, fun i x hx b hb => .inl ⟨i, x, hx, hb⟩, fun b hb => ?_⟩, fun i => ?_⟩, f5, f3, fun j y hy => ?_, fun b hb => ?_⟩
 ·obtain ⟨_, _, o, _, _, _, g2, g3, _⟩ := hob i x hx
  rw [g3]
  exact (hO.ok o x g2).frame (Nat.le_refl _) (fun b _ h => hXc b h) (fun _ _ _ => rfl) fun _ _ => rfl
 ·obtain ⟨j, y, o, h1, h2, g1, g2, g3, _⟩ := hob i x hx
  obtain ⟨j', y', o', h1', h2', g1', g2', g3', _⟩ := hob i' x' hx'
  rw [g3] at hb
  rw [g3'] at hb'
  refine hO.apart o x o' x' g2 g2' (fun e => ?_) b hb hb'
  subst e
  have := nodupB_iff hn j j' o g1 g1'
  subst this
  rw [h1] at h1'
  injection h1' with h1'
  subst h1'
  exact hii (h2.symm.trans h2')
 ·obtain ⟨j, _, o, _, _, g1, _, g3, _⟩ := hob i x hx
  rw [g3] at hb
  exact hxc.2.1 o (List.mem_of_getElem? g1) hb
 ·rcases hb.1 with hx | ⟨o, x, hx, hm⟩
  ·have := hO.old b hx; omega
  ·exact (hO.ok o x hx).lt b hm
 ·rw [look_init, if_pos (Nat.zero_le _), Nat.sub_zero]
  split
  ·rename_i t hp
   have := f4 _ (fun b _ h => hXc b h) hsp i _ hp
   rw [Nat.zero_add] at this
   exact this
  ·rename_i e hp
   have := f4 _ (fun b _ h => hXc b h) hsp i _ hp
   rw [Nat.zero_add] at this
   exact this
  ·rename_i e sh bx hp
   cases bx with
   | true =>
    cases hcel : isCel cs i with
    | true =>
     -- what is lent is there: the object of this parameter
     obtain ⟨x, hx⟩ : ∃ x, lookO (initOb 0 ps ds) i = some x := by
      rw [lookO_init, if_pos (Nat.zero_le _), Nat.sub_zero, hp]
      exact ⟨_, rfl⟩
     obtain ⟨_, y, o, _, _, _, g2, g3, g4, _, g6⟩ := hob i x hx
     rw [hp] at g6
     injection g6 with g6
     injection g6 with g6 g7 g8
     obtain ⟨q, off, b, e1, e2, e3, e4, e5⟩ := g4.2.1 g8.symm hcel
     refine ⟨q, off, _, e1, fun h => e2 (hXc q h), e3, e4, fun x' hx' => ⟨b, 0, e, rfl, ?_, ?_, rfl⟩⟩
     ·simp [Lt.loc, Ph.root, g3, e5]
     ·rw [lookO_init, if_pos (Nat.zero_le _), Nat.sub_zero, hp] at hx'
      simp only [Option.some.injEq] at hx'
      rw [← hx']; rfl
    | false =>
    intro x hx
    obtain ⟨_, y, o, _, _, _, g2, g3, g4, _, g6⟩ := hob i x hx
    rw [hp] at g6
    injection g6 with g6
    injection g6 with g6 g7 g8
    obtain ⟨b, g4, g5⟩ := g4.1 g8.symm hcel
    rw [lookO_init, if_pos (Nat.zero_le _), Nat.sub_zero, hp] at hx
    simp only [Option.some.injEq] at hx
    refine ⟨b, 0, e, g4, ?_, ?_, rfl⟩
    ·simp [Lt.loc, Ph.root, g3, g5]
    ·rw [← hx]; rfl
   | false =>
    intro x hx
    obtain ⟨_, y, o, _, _, _, g2, g3, g4, g5, g6⟩ := hob i x hx
    rw [hp] at g6
    injection g6 with g6
    injection g6 with g6 g7 g8
    obtain ⟨h4, h5⟩ := g4.2.2 g8.symm
    have hno := g5 g8.symm
    rw [lookO_init, if_pos (Nat.zero_le _), Nat.sub_zero, hp] at hx
    simp only [Option.some.injEq] at hx
    rw [← g7] at hno
    rw [← g6] at h4
    refine ⟨fun hit => absurd (by rw [← hx] at hit; exact hit) hno, fun _ => ⟨e, ?_, rfl, .inr ⟨rfl, by rw [g3]; exact h5, ?_⟩⟩⟩
    ·rw [← hx]; rfl
    ·rw [← hx, g3]; exact h4
  ·trivial
 ·obtain ⟨o, g1, g2, g3, _, g5⟩ := hl j y hy
  exact ⟨o, g1, g2, g3, g5⟩
 ·obtain ⟨i, x, hx, hm⟩ := hb
  obtain ⟨_, _, o, _, _, g1, g2, g3, _⟩ := hob i x hx
  rw [g3] at hm
  exact ⟨o, List.mem_of_getElem? g1, x, g2, hm⟩

end
end Go.Ab

/- Behind a call. -/
namespace Go.Ab
variable {P : Program} {A : Ann}

/-- The object of a result, by its name. -/
def resAt (base : Nat) (rs : List RK) (r : List D) (c : Nat) : Option Obj :=
 if base ≤ c then (rs[c - base]?).bind fun x => resOb x (r.getD (c - base) .und) else none

theorem resV_os (o : Nat) (d : D) (x : RK) : (resV o d x).2 = match resOb x d with
  | some z => [(o, some z)]
  | none => [] := by
 cases x with
 | box e sh => rfl
 | val t sh => cases sh <;> rfl

theorem findO_resVs (base : Nat) (r : List D) : ∀ (l : List RK) (k c : Nat), findO (resVs base k r l).2 c = (if base + k ≤ c then (l[c - (base + k)]?).bind fun x => resOb x (r.getD (c - base) .und) else none).map some
 | [], k, c => by simp [resVs, findO]
 | x :: l, k, c => by
  simp only [resVs]
  rw [findO_append, findO_resVs base r l (k + 1) c, resV_os]
  by_cases h : base + k = c
  ·subst h
   rw [if_pos (Nat.le_refl _), Nat.sub_self, if_neg (by omega)]
   simp only [List.getElem?_cons_zero, Option.bind_some, Nat.add_sub_cancel_left]
   cases resOb x (r.getD k .und) with
   | none => rfl
   | some z => simp [findO]
  ·have h0 : findO (match resOb x (r.getD k .und) with
    | some z => [(base + k, some z)]
    | none => ([] : Objs)) c = none := by
    cases resOb x (r.getD k .und) with
    | none => rfl
    | some z => simp [findO, h]
   rw [h0]
   by_cases h2 : base + (k + 1) ≤ c
   ·rw [if_pos h2, if_pos (by omega), show c - (base + k) = (c - (base + (k + 1))) + 1 by omega, List.getElem?_cons_succ]
   ·rw [if_neg h2, if_neg (by omega)]

theorem findO_res (base : Nat) (rs : List RK) (r : List D) (c : Nat) : findO (resVs base 0 r rs).2 c = (resAt base rs r c).map some := by
 rw [findO_resVs]
 simp only [Nat.add_zero, resAt]

theorem findO_lentUp {ob : Nat → Option Obj} (r : List D) : ∀ (os : List Nat) (k : Nat), (∀ o ∈ os, ∃ x, ob o = some x) → nodupB os = true →
  (∀ c, c ∉ os → findO (lentUp ob k r os) c = none) ∧ ∀ (j c : Nat) (x : Obj), os[j]? = some c → ob c = some x → findO (lentUp ob k r os) c = some (some { x with d := r.getD (k + j) .und })
 | [], k, _, _ => ⟨fun _ _ => rfl, by simp⟩
 | o :: os, k, h, hn => by
  rw [nodupB_cons] at hn
  obtain ⟨h1, h2⟩ := findO_lentUp r os (k + 1) (fun o ho => h o (List.mem_cons_of_mem _ ho)) hn.2
  obtain ⟨z, hz⟩ := h o (by simp)
  simp only [lentUp, hz]
  refine ⟨fun c hc => ?_, fun j c x hj hx => ?_⟩
  ·simp only [List.mem_cons, not_or] at hc
   rw [findO_append, h1 c hc.2]
   simp only [findO]
   rw [if_neg (fun e => hc.1 e.symm)]
  ·rw [findO_append]
   cases j with
   | zero =>
    simp only [List.getElem?_cons_zero, Option.some.injEq] at hj
    subst hj
    rw [hz] at hx
    injection hx with hx
    subst hx
    simp [findO]
   | succ j =>
    simp only [List.getElem?_cons_succ] at hj
    have hne : o ≠ c := fun e => hn.1 (e ▸ List.mem_of_getElem? hj)
    simp only [findO, if_neg hne]
    rw [h2 j c x hj hx, show k + 1 + j = k + (j + 1) by omega]

theorem findO_frz {ob : Nat → Option Obj} {bs : List (Nat × Option Pth)} : ∀ (l : List (Nat × Option Pth)) (fz : Objs), frz ob bs l = some fz →
  (∀ c, c ∉ l.map (·.1) → findO fz c = none) ∧ (∀ c x, c ∈ l.map (·.1) → ob c = some x → ∃ sh, frzSh c x.sh bs = some sh ∧ findO fz c = some (some { x with sh })) ∧ (∀ y ∈ fz, ∃ x, y.2 = some x ∧ y.1 ∈ l.map (·.1) ∧ ∃ z, ob y.1 = some z ∧ x.box = z.box)
 | [], fz, h => by
  simp only [frz, Option.some.injEq] at h
  subst h
  exact ⟨fun _ _ => rfl, by simp, by simp⟩
 | (o, q) :: l, fz, h => by
  simp only [frz] at h
  split at h <;> try contradiction
  ·rename_i z r hz hr
   split at h <;> try contradiction
   rename_i sh hsh
   simp only [Option.some.injEq] at h
   subst h
   obtain ⟨h1, h2, h3⟩ := findO_frz l r hr
   refine ⟨fun c hc => ?_, fun c x hc hx => ?_, fun y hy => ?_⟩
   ·simp only [List.map_cons, List.mem_cons, not_or] at hc
    simp only [findO, if_neg (fun e => hc.1 (Eq.symm e))]
    exact h1 c hc.2
   ·by_cases e : o = c
    ·subst e
     rw [hz] at hx
     injection hx with hx
     subst hx
     exact ⟨sh, hsh, by simp [findO]⟩
    ·simp only [List.map_cons, List.mem_cons] at hc
     obtain ⟨sh', g1, g2⟩ := h2 c x (hc.resolve_left fun e' => e e'.symm) hx
     exact ⟨sh', g1, by simp only [findO, if_neg e]; exact g2⟩
   ·rcases List.mem_cons.1 hy with rfl | hy
    ·exact ⟨_, rfl, by simp, z, hz, rfl⟩
    ·obtain ⟨x, g1, g2, g3⟩ := h3 y hy
     exact ⟨x, g1, by simp only [List.map_cons, List.mem_cons]; exact .inr g2, g3⟩
  ·rename_i r hz hr
   simp only [Option.some.injEq] at h
   subst h
   obtain ⟨h1, h2, h3⟩ := findO_frz l r hr
   refine ⟨fun c hc => ?_, fun c x hc hx => ?_, fun y hy => ?_⟩
   ·simp only [List.map_cons, List.mem_cons, not_or] at hc
    exact h1 c hc.2
   ·simp only [List.map_cons, List.mem_cons] at hc
    rcases hc with rfl | hc
    ·rw [hz] at hx; cases hx
    ·exact h2 c x hc hx
   ·obtain ⟨x, g1, g2, g3⟩ := h3 y hy
    exact ⟨x, g1, by simp only [List.map_cons, List.mem_cons]; exact .inr g2, g3⟩

theorem flat_of_shFlat {t : Nat} (h : shFlat P 8 t .imm = true) : Go.Ab.flat P 7 t = true := by simpa [shFlat] using h

theorem frzAt_noIt {p : Pth} {s s' : Sh} (h : s.frzAt p = some s') : s ≠ .it ∧ s' ≠ .it := by
 cases p with
 | nil =>
  simp only [Sh.frzAt, cond_eq] at h
  split at h <;> try contradiction
  rename_i hw
  simp only [Option.some.injEq] at h
  subst h
  exact ⟨fun e => by subst e; simp [Sh.weak, Sh.weakN, Sh.plain] at hw, by simp⟩
 | cons z p =>
  cases z with
  | fld j =>
   simp only [Sh.frzAt] at h
   split at h <;> try contradiction
   rename_i u hu
   split at h <;> try contradiction
   refine ⟨fun e => by subst e; simp [Sh.fld] at hu, fun e => ?_⟩
   have := Sh.setFld_fld h j
   rw [if_pos rfl, e] at this
   simp [Sh.fld] at this
  | idx i =>
   cases s with
   | imm => simp only [Sh.frzAt, Option.some.injEq] at h; subst h; exact ⟨by simp, by simp⟩
   | slc s0 ex =>
    cases ex with
    | none =>
     simp only [Sh.frzAt] at h
     split at h <;> try contradiction
     simp only [Option.some.injEq] at h
     subst h
     exact ⟨by simp, by simp⟩
    | some x => simp [Sh.frzAt] at h
   | _ => simp [Sh.frzAt] at h
  | arr i => cases s <;> simp [Sh.frzAt] at h; subst h; exact ⟨by simp, by simp⟩

theorem frzSh_noIt {c : Nat} : ∀ (bs : List (Nat × Option Pth)) {s s' : Sh}, frzSh c s bs = some s' → (c ∈ bs.map (·.1) → s ≠ .it) ∧ (s ≠ .it → s' ≠ .it)
 | [], s, s', h => by
  simp only [frzSh, Option.some.injEq] at h
  subst h
  exact ⟨by simp, fun h => h⟩
 | (o, q) :: bs, s, s', h => by
  simp only [frzSh, cond_eq, beq_iff] at h
  by_cases e : c = o
  ·rw [if_pos e] at h
   split at h <;> try contradiction
   split at h <;> try contradiction
   rename_i s1 hs1
   obtain ⟨h1, h2⟩ := frzAt_noIt hs1
   exact ⟨fun _ => h1, fun _ => (frzSh_noIt bs h).2 h2⟩
  ·rw [if_neg e] at h
   obtain ⟨h1, h2⟩ := frzSh_noIt bs h
   refine ⟨fun hm => ?_, h2⟩
   simp only [List.map_cons, List.mem_cons] at hm
   exact h1 (hm.resolve_left e)

section
variable {X0 Y0 : Nat → Prop} {w0 : World} {g : St} {ph : Nat → Ph} {a : Act} {w : World}

theorem lnM_app (ob : Nat → Option Obj) (o : Nat) : (lnM ob o).isApp = false := by
 unfold lnM
 cases ob o with
 | none => rfl
 | some x => cases h : x.box <;> simp [h, KM.isApp]

/-- BEHIND A CALL: results, what was lent, what was borrowed. -/
theorem merge (W : WF P) (R : RelA P A X0 Y0 w0 g ph a w) {s : Sig} {bs : List (Nat × Option Pth)} {os : List Nat} {fz : Objs} {base : Nat} {ds r : List D} {phL phR : Nat → Ph} {vs : Array Value} {v : AV} {val v0 : Value} {w' : World}
  (hfz : cond (noAlias P s) (some []) (frz (lookO g.ob) bs bs) = some fz) (hn : nodupB os = true) (hap : apartB (bs.map (·.1)) os = true) (hosl : os.length = (lentL 0 s.ps).length) (hbs : ∀ x ∈ bs, ∃ z, lookO g.ob x.1 = some z)
  (hos : ∀ (j : Nat) (y : Nat × Nat × Sh × Bool), (lentL 0 s.ps)[j]? = some y → ∃ o, os[j]? = some o ∧ lookO g.ob o = some ⟨y.2.2.2, y.2.1, y.2.2.1, ds.getD y.1 .und⟩ ∧ phL y.1 = ph o ∧ (y.2.2.2 = false → y.2.2.1 ≠ .it))
  (hY : ∀ b, lentY s.ps ds phL b → ∃ o ∈ os, ∃ x, lookO g.ob o = some x ∧ b ∈ (ph o).F) (hR : Ret P A (Xcal X0 (lookO g.ob) ph bs os) (lentY s.ps ds phL) w w' s phL v0 r phR vs)
  (hv : ∀ (X' : Nat → Prop) (ob' : Nat → Option Obj) (ph' : Nat → Ph), (∀ (k : Nat) (x : RK), s.rs[k]? = some x → ResRep P A X' w' x (vs.getD k undef) (r.getD k .und) (phR k)) →
   (∀ (k : Nat) (x : RK) (z : Obj), s.rs[k]? = some x → resOb x (r.getD k .und) = some z → ob' (base + k) = some z ∧ ph' (base + k) = phR k ∧ (z.box = false → (phR k).rb = none)) → AVR P A X' w' ob' ph' v val) :
  RelD P A X0 Y0 w0 (look g.sl) (lookO g.ob) a.tmps { v, os := (resVs base 0 r s.rs).2 ++ (lentUp (lookO g.ob) s.rs.length r os ++ fz), ks := overs (resVs base 0 r s.rs).2 ++ ((os.map fun o => (o, lnM (lookO g.ob) o)) ++ wks fz) } val w' := by
 let X := Xof X0 (lookO g.ob) ph
 let nR := s.rs.length
 let obR := retOb s.rs s.ps r
 let Xe := Xof (Xcal X0 (lookO g.ob) ph bs os) obR phR
 have hO := R.objs
 have hlive : ∀ o ∈ os, ∃ x, lookO g.ob o = some x := fun o ho => by
  obtain ⟨j, hj⟩ := List.mem_iff_getElem?.1 ho
  have hjl : j < (lentL 0 s.ps).length := by rw [← hosl]; exact (List.getElem?_eq_some_iff.1 hj).1
  obtain ⟨o', g1, g2, _⟩ := hos j _ (List.getElem?_eq_getElem hjl)
  rw [hj] at g1
  injection g1 with g1
  subst g1
  exact ⟨_, g2⟩
 obtain ⟨lu1, lu2⟩ := findO_lentUp (ob := lookO g.ob) r os nR hlive hn
 -- what is given up
 let Fz : Nat → Prop := fun c => noAlias P s = false ∧ c ∈ bs.map (·.1)
 have hfz0 : ∀ c, ¬ Fz c → findO fz c = none := fun c hc => by
  by_cases hna : noAlias P s = true
  ·rw [hna] at hfz
   simp only [cond_true, Option.some.injEq] at hfz
   subst hfz
   rfl
  ·have hna' : noAlias P s = false := by simpa using hna
   rw [hna'] at hfz
   simp only [cond_false] at hfz
   exact (findO_frz bs fz hfz).1 c fun hm => hc ⟨hna', hm⟩
 have hfz1 : ∀ c x, Fz c → lookO g.ob c = some x → ∃ sh, frzSh c x.sh bs = some sh ∧ findO fz c = some (some { x with sh }) := fun c x hc hx => by
  rw [hc.1] at hfz
  simp only [cond_false] at hfz
  exact (findO_frz bs fz hfz).2.1 c x hc.2 hx
 have hnL : ∀ c x, lookO g.ob c = some x → (ph c).L.blocks.Nodup := fun c x hx => by
  have := (hO.ok c x hx).nodup
  simp only [Ph.F, Ph.S, List.nodup_append] at this
  exact this.2.1.1
 have hcut : ∀ c, ∃ L', ∀ x sh, lookO g.ob c = some x → frzSh c x.sh bs = some sh → Cut P A X w (ph c).L L' sh x.t (ph c).cs x.d ∧ ∀ q, (c, q) ∈ bs → ∃ p, q = some p ∧ ∀ b ∈ ((ph c).L.sub p).blocks, b ∉ L'.blocks := fun c => by
  cases hx : lookO g.ob c with
  | none => exact ⟨.leaf, by simp⟩
  | some x =>
   cases hsh : frzSh c x.sh bs with
   | none => exact ⟨.leaf, fun x' sh e1 e2 => by injection e1 with e1; subst e1; rw [hsh] at e2; cases e2⟩
   | some sh =>
    obtain ⟨L', h1, h2⟩ := Own.frzSh W bs (hO.ok c x hx).own hsh (hnL c x hx)
    refine ⟨L', fun x' sh' e1 e2 => ?_⟩
    injection e1 with e1
    subst e1
    rw [hsh] at e2
    injection e2 with e2
    subst e2
    exact ⟨h1, h2⟩
 obtain ⟨LF, hLF⟩ := Classical.axiomOfChoice hcut
 let phF : Nat → Ph := fun c => ⟨(ph c).cs, (ph c).rb, LF c, []⟩
 classical
 let ph' : Nat → Ph := fun c => if (resAt base s.rs r c).isSome then phR (c - base) else if c ∈ os then phR (nR + os.idxOf c) else if Fz c then phF c else ph c
 let os1 : Objs := (resVs base 0 r s.rs).2 ++ (lentUp (lookO g.ob) nR r os ++ fz)
 let ob' := upO os1 (lookO g.ob)
 have hfind : ∀ c, findO os1 c = match resAt base s.rs r c with
   | some z => some (some z)
   | none => match findO (lentUp (lookO g.ob) nR r os) c with
    | some x => some x
    | none => findO fz c := fun c => by
  simp only [os1]
  rw [findO_append, findO_res, findO_append]
  cases resAt base s.rs r c <;> rfl
 -- the four kinds of objects
 have k1 : ∀ c z, resAt base s.rs r c = some z → ob' c = some z ∧ ph' c = phR (c - base) := fun c z hz => by
  refine ⟨?_, ?_⟩
  ·simp only [ob', upO, hfind, hz]; rfl
  ·simp only [ph']; rw [if_pos (by rw [hz]; rfl)]
 have k2 : ∀ (j c : Nat) (x : Obj), resAt base s.rs r c = none → os[j]? = some c → lookO g.ob c = some x → ob' c = some { x with d := r.getD (nR + j) .und } ∧ ph' c = phR (nR + j) := fun j c x hz hj hx => by
  refine ⟨?_, ?_⟩
  ·simp only [ob', upO, hfind, hz, lu2 j c x hj hx]; rfl
  ·have hm := List.mem_of_getElem? hj
   have hidx : os.idxOf c = j := by
    have h1 : os.idxOf c < os.length := List.idxOf_lt_length_of_mem hm
    have h2 : os[os.idxOf c]? = some c := by rw [List.getElem?_eq_getElem h1, List.getElem_idxOf h1]
    exact nodupB_iff hn _ _ c h2 hj
   simp only [ph']
   rw [if_neg (by rw [hz]; simp), if_pos hm, hidx]
 have k3 : ∀ c x, resAt base s.rs r c = none → c ∉ os → Fz c → lookO g.ob c = some x → ∃ sh, frzSh c x.sh bs = some sh ∧ ob' c = some { x with sh } ∧ ph' c = phF c := fun c x hz ho hF hx => by
  obtain ⟨sh, h1, h2⟩ := hfz1 c x hF hx
  refine ⟨sh, h1, ?_, ?_⟩
  ·simp only [ob', upO, hfind, hz, lu1 c ho, h2]; rfl
  ·simp only [ph']
   rw [if_neg (by rw [hz]; simp), if_neg ho, if_pos hF]
 have k4 : ∀ c, resAt base s.rs r c = none → c ∉ os → ¬ Fz c → ob' c = lookO g.ob c ∧ ph' c = ph c := fun c hz ho hF => by
  refine ⟨?_, ?_⟩
  ·simp only [ob', upO, hfind, hz, lu1 c ho, hfz0 c hF]; rfl
  ·simp only [ph']
   rw [if_neg (by rw [hz]; simp), if_neg ho, if_neg hF]
 -- results and lent objects are those that come back
 have r1 : ∀ c z, resAt base s.rs r c = some z → base ≤ c ∧ c - base < nR ∧ obR (c - base) = some z := fun c z hz => by
  unfold resAt at hz
  split at hz <;> try contradiction
  rename_i hb
  obtain ⟨x, hx, hzx⟩ := Option.bind_eq_some_iff.1 hz
  refine ⟨hb, (List.getElem?_eq_some_iff.1 hx).1, ?_⟩
  simp only [obR, retOb, hx]
  exact hzx
 have r2 : ∀ (j c : Nat) (x : Obj), os[j]? = some c → lookO g.ob c = some x → obR (nR + j) = some { x with d := r.getD (nR + j) .und } ∧ (phR (nR + j)).rb = (ph c).rb ∧ (x.box = false → x.sh ≠ .it ∧ mkV P x.t (phR (nR + j)).cs = mkV P x.t (ph c).cs) := fun j c x hj hx => by
  have hjl : j < (lentL 0 s.ps).length := by rw [← hosl]; exact (List.getElem?_eq_some_iff.1 hj).1
  have hy := List.getElem?_eq_getElem hjl
  obtain ⟨o', g1, g2, g3, g4⟩ := hos j _ hy
  rw [hj] at g1
  injection g1 with g1
  subst g1
  rw [hx] at g2
  injection g2 with g2
  subst g2
  refine ⟨?_, ?_, fun hb => ⟨g4 hb, ?_⟩⟩
  ·have : s.rs[nR + j]? = none := List.getElem?_eq_none (by simp [nR])
   simp only [obR, retOb, this]
   rw [show nR + j - s.rs.length = j by simp [nR], hy]
   rfl
  ·rw [(hR.lent j _ hy).1, g3]
  ·rw [← g3]; exact (hR.lent j _ hy).2 hb
 -- each object behind, by its kind
 have kinds : ∀ c z, ob' c = some z → (∃ k, obR k = some z ∧ ph' c = phR k ∧ ((k < nR ∧ c = base + k ∧ resAt base s.rs r c = some z) ∨ (resAt base s.rs r c = none ∧ ∃ j, k = nR + j ∧ os[j]? = some c))) ∨ (resAt base s.rs r c = none ∧ c ∉ os ∧ Fz c ∧ ∃ x sh, lookO g.ob c = some x ∧ frzSh c x.sh bs = some sh ∧ z = { x with sh } ∧ ph' c = phF c) ∨
   (resAt base s.rs r c = none ∧ c ∉ os ∧ ¬ Fz c ∧ lookO g.ob c = some z ∧ ph' c = ph c) := by
  intro c z hz
  cases hr : resAt base s.rs r c with
  | some z' =>
   obtain ⟨e1, e2⟩ := k1 c z' hr
   rw [e1] at hz
   injection hz with hz
   subst hz
   obtain ⟨h1, h2, h3⟩ := r1 c z' hr
   exact .inl ⟨c - base, h3, e2, .inl ⟨h2, by omega, rfl⟩⟩
  | none =>
   by_cases ho : c ∈ os
   ·obtain ⟨x, hx⟩ := hlive c ho
    obtain ⟨j, hj⟩ := List.mem_iff_getElem?.1 ho
    obtain ⟨e1, e2⟩ := k2 j c x hr hj hx
    rw [e1] at hz
    injection hz with hz
    exact .inl ⟨nR + j, by rw [(r2 j c x hj hx).1, hz], e2, .inr ⟨rfl, j, rfl, hj⟩⟩
   ·by_cases hF : Fz c
    ·obtain ⟨y, hy, e⟩ := List.mem_map.1 hF.2
     obtain ⟨x, hx⟩ := hbs y hy
     rw [e] at hx
     obtain ⟨sh, h1, h2, h3⟩ := k3 c x hr ho hF hx
     rw [h2] at hz
     injection hz with hz
     exact .inr (.inl ⟨rfl, ho, hF, x, sh, hx, h1, hz.symm, h3⟩)
    ·obtain ⟨e1, e2⟩ := k4 c hr ho hF
     exact .inr (.inr ⟨rfl, ho, hF, e1 ▸ hz, e2⟩)
 have hretF : ∀ k z, obR k = some z → ∀ b ∈ (phR k).F, w.heap.size ≤ b ∨ ∃ o ∈ os, ∃ x, lookO g.ob o = some x ∧ b ∈ (ph o).F := fun k z hz b hb => by
  rcases hR.objs.ours k z hz b hb with h | h
  ·exact .inr (hY b h)
  ·exact .inl h
 have hphF : ∀ c x sh, lookO g.ob c = some x → frzSh c x.sh bs = some sh → ∀ b ∈ (phF c).F, b ∈ (ph c).F := fun c x sh hx hsh b hb => by
  have h1 := (hLF c x sh hx hsh).1
  simp only [phF, Ph.F, Ph.S, List.append_nil, List.mem_append] at hb ⊢
  rcases hb with h | h
  ·exact .inl h
  ·exact .inr (.inl (h1.sub b h))
 have hdropF : ∀ c x sh, lookO g.ob c = some x → frzSh c x.sh bs = some sh → ∀ q, (c, q) ∈ bs → ∀ b ∈ Bof (ph c) q, b ∉ (phF c).F := fun c x sh hx hsh q hq b hb hm => by
  obtain ⟨p, rfl, hp⟩ := (hLF c x sh hx hsh).2 q hq
  have hnd := (hO.ok c x hx).nodup
  simp only [Ph.F, Ph.S, List.nodup_append] at hnd
  simp only [phF, Ph.F, Ph.S, List.append_nil, List.mem_append] at hm
  simp only [Bof, List.mem_append] at hb
  rcases hb with hb | hb
  ·have hbL := sub_blocks p _ b hb
   rcases hm with hm | hm
   ·exact hnd.2.2 b hm b (by simp [hbL]) rfl
   ·exact hp b hb hm
  ·rcases hm with hm | hm
   ·exact hnd.2.2 b hm b (by simp [hb]) rfl
   ·exact hnd.2.1.2.2 b ((hLF c x sh hx hsh).1.sub b hm) b hb rfl
 have hkeep : Keeps (fun b => ∃ k, ((resAt base s.rs r k).isSome = true ∨ k ∈ os ∨ Fz k) ∧ ∃ x, lookO g.ob k = some x ∧ b ∈ (ph k).F) w w' := hR.keeps.mono fun b hb => by
  obtain ⟨o, ho, x, hx, hm⟩ := hY b hb
  exact ⟨o, .inr (.inl ho), x, hx, hm⟩
 -- the exclusions
 let X' := Xof X0 ob' ph'
 have hXe : noAlias P s = true ∨ ∀ b, X' b → Xe b := by
  by_cases hna : noAlias P s = true
  ·exact .inl hna
  ·right
   have hna' : noAlias P s = false := by simpa using hna
   rintro b (hx | ⟨c, z, hz, hm⟩)
   ·refine .inl ⟨.inl hx, fun o ho hm => ?_, fun ⟨o, q, hq, hm⟩ => ?_⟩
    ·obtain ⟨x, hx'⟩ := hlive o ho
     exact hO.free o x hx' b hm hx
    ·obtain ⟨x, hx'⟩ := hbs _ hq
     exact hO.free o x hx' b (Bof_F hm) hx
   ·have old : ∀ x, lookO g.ob c = some x → c ∉ os → b ∈ (ph c).F → (∀ q, (c, q) ∈ bs → b ∉ Bof (ph c) q) → Xe b := fun x hx ho hb hq => by
     refine .inl ⟨.inr ⟨c, x, hx, hb⟩, fun o ho' hm' => ?_, fun ⟨o, q, hq', hm'⟩ => ?_⟩
     ·obtain ⟨y, hy⟩ := hlive o ho'
      exact hO.apart c x o y hx hy (fun e => ho (e ▸ ho')) b hb hm'
     ·by_cases e : o = c
      ·subst e; exact hq q hq' hm'
      ·obtain ⟨y, hy⟩ := hbs _ hq'
       exact hO.apart o y c x hy hx e b (Bof_F hm') hb
    rcases kinds c z hz with ⟨k, h1, h2, _⟩ | ⟨_, ho, hF, x, sh, hx, hsh, _, h3⟩ | ⟨_, ho, hF, hx, h3⟩
    ·rw [h2] at hm
     exact .inr ⟨k, z, h1, hm⟩
    ·rw [h3] at hm
     exact old x hx ho (hphF c x sh hx hsh b hm) fun q hq hb => hdropF c x sh hx hsh q hq b hb hm
    ·rw [h3] at hm
     exact old z hx ho hm fun q hq hb => hF ⟨hna', List.mem_map.2 ⟨(c, q), hq, rfl⟩⟩
 have hna2 : noAlias P s = true → (∀ x ∈ s.rs, match (generalizing := false) x with
   | .val t sh => shFlat P 8 t sh = true
   | .box t sh => shFlat P 8 t sh = true) ∧ ∀ x ∈ s.ps, match (generalizing := false) x with
   | .lent t sh _ => shFlat P 8 t sh = true
   | _ => True := fun hna => by
  simp only [noAlias, Bool.and_eq_true, List.all_eq_true] at hna
  refine ⟨fun x hx => ?_, fun x hx => ?_⟩
  ·have := hna.1 x hx
   cases x <;> exact this
  ·have := hna.2 x hx
   cases x <;> first | trivial | exact this
 have hokR : ∀ k z, obR k = some z → OkObj P A X' w' z (phR k) := fun k z hz => by
  have h0 := hR.objs.ok k z hz
  rcases hXe with hna | hXe
  ·obtain ⟨n1, n2⟩ := hna2 hna
   refine ⟨?_, h0.box, h0.hdr, h0.nodup, h0.lt⟩
   have hfl : shFlat P 8 z.t z.sh = true := by
    have hz' : retOb s.rs s.ps r k = some z := hz
    unfold retOb at hz'
    cases hrk : s.rs[k]? with
    | some x =>
     rw [hrk] at hz'
     have := n1 x (List.mem_of_getElem? hrk)
     cases x with
     | val t sh =>
      cases sh <;> simp only [resOb, Option.some.injEq, reduceCtorEq] at hz' <;> (subst hz'; exact this)
     | box e sh =>
      simp only [resOb, Option.some.injEq] at hz'
      subst hz'
      exact this
    | none =>
     rw [hrk] at hz'
     obtain ⟨y, hy, e⟩ := Option.map_eq_some_iff.1 hz'
     have hyg := (lentL_ge s.ps 0 y (List.mem_of_getElem? hy)).2
     have := n2 _ (List.mem_of_getElem? hyg)
     rw [← e]
     exact this
   exact Own.flat W 8 hfl h0.own
  ·exact h0.frame (Nat.le_refl _) (fun b _ h => hXe b h) (fun _ _ _ => rfl) fun _ _ => rfl
 have hresR : ∀ (k : Nat) (x : RK), s.rs[k]? = some x → ResRep P A X' w' x (vs.getD k undef) (r.getD k .und) (phR k) := fun k x hk => by
  have h0 := hR.res k x hk
  cases x with
  | box e sh => exact h0
  | val t sh =>
   by_cases hsh : sh = .imm
   ·subst hsh
    obtain ⟨cs, hr, hvv⟩ := h0
    rcases hXe with hna | hXe
    ·have := (hna2 hna).1 _ (List.mem_of_getElem? hk)
     exact ⟨cs, Rep.flat W 7 t cs _ (flat_of_shFlat this) hr, hvv⟩
    ·exact ⟨cs, hr.anti fun b _ h => hXe b h, hvv⟩
   ·rw [resRep_val hsh] at h0 ⊢
    exact h0
 have hXo : ∀ b, b < w.heap.size → X' b → X b := by
  rintro b hb (hx | ⟨c, z, hz, hm⟩)
  ·exact .inl hx
  ·rcases kinds c z hz with ⟨k, h1, h2, _⟩ | ⟨_, ho, hF, x, sh, hx, hsh, _, h3⟩ | ⟨_, ho, hF, hx, h3⟩
   ·rw [h2] at hm
    rcases hretF k z h1 b hm with h | ⟨o, _, x, hx, h⟩
    ·omega
    ·exact .inr ⟨o, x, hx, h⟩
   ·rw [h3] at hm
    exact .inr ⟨c, x, hx, hphF c x sh hx hsh b hm⟩
   ·rw [h3] at hm
    exact .inr ⟨c, z, hx, hm⟩
 have hkb : ∀ b, b < w.heap.size → ¬ X b → w'.heap[b]? = w.heap[b]? := fun b hb hn' => hR.keeps.block b hb fun hy => by
  obtain ⟨o, _, x, hx, hm⟩ := hY b hy
  exact hn' (.inr ⟨o, x, hx, hm⟩)
 have hkF : ∀ c x, lookO g.ob c = some x → c ∉ os → ∀ b ∈ (ph c).F, w'.heap[b]? = w.heap[b]? := fun c x hx ho b hb => hR.keeps.block b ((hO.ok c x hx).lt b hb) fun hy => by
  obtain ⟨o, ho', y, hy', hm⟩ := hY b hy
  exact hO.apart c x o y hx hy' (fun e => ho (e ▸ ho')) b hb hm
 have hdrop2 : ∀ c x sh, lookO g.ob c = some x → c ∉ os → resAt base s.rs r c = none → Fz c → frzSh c x.sh bs = some sh → ∀ b ∈ (ph c).F, b ∉ (phF c).F → ¬ X' b := by
  rintro c x sh hx ho hrn hF hsh b hb hnb (hx0 | ⟨c2, z, hz, hm⟩)
  ·exact hO.free c x hx b hb hx0
  ·have hphc : ph' c = phF c := (k3 c x hrn ho hF hx).choose_spec.2.2
   by_cases e : c2 = c
   ·subst e
    rw [hphc] at hm
    exact hnb hm
   ·rcases kinds c2 z hz with ⟨k, h1, h2, _⟩ | ⟨_, _, _, y, sh2, hy, hsh2, _, h3⟩ | ⟨_, _, _, hy, h3⟩
    ·rw [h2] at hm
     rcases hretF k z h1 b hm with h | ⟨o, ho', y, hy, h⟩
     ·have := (hO.ok c x hx).lt b hb; omega
     ·exact hO.apart c x o y hx hy (fun e2 => ho (e2 ▸ ho')) b hb h
    ·rw [h3] at hm
     exact hO.apart c x c2 y hx hy (fun e2 => e e2.symm) b hb (hphF c2 y sh2 hy hsh2 b hm)
    ·rw [h3] at hm
     exact hO.apart c x c2 z hx hy (fun e2 => e e2.symm) b hb hm
 have hallm : ∀ c z, resAt base s.rs r c = some z → (c, KM.all) ∈ overs (resVs base 0 r s.rs).2 ++ ((os.map fun o => (o, lnM (lookO g.ob) o)) ++ wks fz) := fun c z hz => by
  have h1 : findO (resVs base 0 r s.rs).2 c = some (some z) := by rw [findO_res, hz]; rfl
  obtain ⟨y, hy, e⟩ := List.mem_map.1 (findO_mem h1)
  exact List.mem_append.2 (.inl (List.mem_map.2 ⟨y, hy, by rw [e]⟩))
 have hlnm : ∀ c, c ∈ os → (c, lnM (lookO g.ob) c) ∈ overs (resVs base 0 r s.rs).2 ++ ((os.map fun o => (o, lnM (lookO g.ob) o)) ++ wks fz) := fun c hc => List.mem_append.2 (.inr (List.mem_append.2 (.inl (List.mem_map.2 ⟨c, hc, rfl⟩))))
 have hwkm : ∀ c x, Fz c → lookO g.ob c = some x → (c, KM.wk x.box) ∈ overs (resVs base 0 r s.rs).2 ++ ((os.map fun o => (o, lnM (lookO g.ob) o)) ++ wks fz) := fun c x hF hx => by
  obtain ⟨sh, _, h2⟩ := hfz1 c x hF hx
  have hmem : ∀ (l : Objs) (k : Nat) (v : Option Obj), findO l k = some v → (k, v) ∈ l := by
   intro l
   induction l with
   | nil => intro k v h; simp [findO] at h
   | cons y l ih =>
    obtain ⟨i, u⟩ := y
    intro k v h
    simp only [findO] at h
    split at h
    ·rename_i e
     subst e
     injection h with h
     subst h
     simp
    ·exact List.mem_cons_of_mem _ (ih k v h)
  exact List.mem_append.2 (.inr (List.mem_append.2 (.inr (List.mem_map.2 ⟨_, hmem _ _ _ h2, rfl⟩))))
 refine RelD.upd (D := fun c => (resAt base s.rs r c).isSome = true ∨ c ∈ os ∨ Fz c) (ph' := ph') R hkeep (fun c hc => ?_) (fun c z _ hz b hb => ?_) (fun c z c' z' _ _ hz hz' hcc b hb hb' => ?_) (fun _ c z _ hz => ?_) (fun _ s' => ?_) fun _ => ?_
 ·have h1 : resAt base s.rs r c = none := by
   cases h : resAt base s.rs r c with
   | none => rfl
   | some z => exact absurd (.inl (by rw [h]; rfl)) hc
  exact k4 c h1 (fun h => hc (.inr (.inl h))) fun h => hc (.inr (.inr h))
 ·rcases kinds c z hz with ⟨k, h1, h2, _⟩ | ⟨_, ho, hF, x, sh, hx, hsh, _, h3⟩ | ⟨hrn, ho, hF, hx, h3⟩
  ·rw [h2] at hb
   rcases hretF k z h1 b hb with h | ⟨o, ho, x, hx, h⟩
   ·exact .inl h
   ·exact .inr ⟨o, x, .inr (.inl ho), hx, h⟩
  ·rw [h3] at hb
   exact .inr ⟨c, x, .inr (.inr hF), hx, hphF c x sh hx hsh b hb⟩
  ·rename_i hd
   exfalso
   rcases hd with h | h | h
   ·rw [hrn] at h; cases h
   ·exact ho h
   ·exact hF h
 ·have key : ∀ c z c' z' b, ob' c = some z → ob' c' = some z' → c ≠ c' → (∃ k, obR k = some z ∧ ph' c = phR k ∧ ((k < nR ∧ c = base + k ∧ resAt base s.rs r c = some z) ∨ (resAt base s.rs r c = none ∧ ∃ j, k = nR + j ∧ os[j]? = some c))) → (∃ x, lookO g.ob c' = some x ∧ c' ∉ os ∧ ∀ b ∈ (ph' c').F, b ∈ (ph c').F) → b ∈ (ph' c).F → b ∈ (ph' c').F → False := by
   rintro c z c' z' b hz hz' hcc ⟨k, h1, h2, _⟩ ⟨x, hx, ho, hsub⟩ hb hb'
   rw [h2] at hb
   have hb2 := hsub b hb'
   rcases hretF k z h1 b hb with h | ⟨o, ho', y, hy, h⟩
   ·have := (hO.ok c' x hx).lt b hb2; omega
   ·exact hO.apart o y c' x hy hx (fun e => ho (e ▸ ho')) b h hb2
  have old : ∀ c z, ob' c = some z → (∃ k, obR k = some z ∧ ph' c = phR k ∧ ((k < nR ∧ c = base + k ∧ resAt base s.rs r c = some z) ∨ (resAt base s.rs r c = none ∧ ∃ j, k = nR + j ∧ os[j]? = some c))) ∨ ∃ x, lookO g.ob c = some x ∧ c ∉ os ∧ ∀ b ∈ (ph' c).F, b ∈ (ph c).F := fun c z hz => by
   rcases kinds c z hz with h | ⟨_, ho, hF, x, sh, hx, hsh, _, h3⟩ | ⟨_, ho, hF, hx, h3⟩
   ·exact .inl h
   ·exact .inr ⟨x, hx, ho, fun b hb => by rw [h3] at hb; exact hphF c x sh hx hsh b hb⟩
   ·exact .inr ⟨z, hx, ho, fun b hb => by rw [h3] at hb; exact hb⟩
  rcases old c z hz with h1 | h1
  ·rcases old c' z' hz' with h2 | h2
   ·obtain ⟨k, a1, a2, a3⟩ := h1
    obtain ⟨k', b1, b2, b3⟩ := h2
    rw [a2] at hb
    rw [b2] at hb'
    refine hR.objs.apart k z k' z' a1 b1 (fun e => ?_) b hb hb'
    subst e
    rcases a3 with ⟨a3, a4, _⟩ | ⟨_, j, a3, a4⟩ <;> rcases b3 with ⟨b3, b4, _⟩ | ⟨_, j', b3, b4⟩
    ·exact hcc (a4.trans b4.symm)
    ·omega
    ·omega
    ·have : j = j' := by omega
     subst this
     rw [a4] at b4
     injection b4 with b4
     exact hcc b4
   ·exact key c z c' z' b hz hz' hcc h1 h2 hb hb'
  ·rcases old c' z' hz' with h2 | h2
   ·exact key c' z' c z b hz' hz (fun e => hcc e.symm) h2 h1 hb' hb
   ·obtain ⟨x, a1, _, a3⟩ := h1
    obtain ⟨x', b1, _, b3⟩ := h2
    exact hO.apart c x c' x' a1 b1 hcc b (a3 b hb) (b3 b hb')
 ·rcases kinds c z hz with ⟨k, h1, h2, _⟩ | ⟨hrn, ho, hF, x, sh, hx, hsh, hzx, h3⟩ | ⟨_, ho, hF, hx, h3⟩
  ·rw [h2]; exact hokR k z h1
  ·rw [h3]
   have h0 := hO.ok c x hx
   have hc := (hLF c x sh hx hsh).1
   subst hzx
   refine ⟨?_, fun hb => ?_, h0.hdr, ?_, fun b hb => Nat.lt_of_lt_of_le (h0.lt b (hphF c x sh hx hsh b hb)) hR.keeps.size⟩
   ·let X2 : Nat → Prop := fun b => X' b ∨ lentY s.ps ds phL b
    have hX2 : ∀ b, b < w.heap.size → X2 b → X b := by
     rintro b hb (h | h)
     ·exact hXo b hb h
     ·obtain ⟨o, _, y, hy, hm⟩ := hY b h
      exact .inr ⟨o, y, hy, hm⟩
    have hLb : ∀ b, b ∈ (ph c).L.blocks → b ∈ (ph c).F := fun b hb => by simp only [Ph.F, Ph.S, List.mem_append]; exact .inr (.inl hb)
    have h4 := hc.own X2 hX2 fun b hb hnb hx' => by
     rcases hx' with hx' | hx'
     ·refine hdrop2 c x sh hx ho hrn hF hsh b (hLb b hb) (fun hm => ?_) hx'
      have hnd := h0.nodup
      simp only [Ph.F, Ph.S, List.nodup_append] at hnd
      simp only [phF, Ph.F, Ph.S, List.append_nil, List.mem_append] at hm
      rcases hm with hm | hm
      ·exact hnd.2.2 b hm b (by simp [hb]) rfl
      ·exact hnb hm
     ·obtain ⟨o, ho', y, hy, hm⟩ := hY b hx'
      exact hO.apart c x o y hx hy (fun e => ho (e ▸ ho')) b (hLb b hb) hm
    exact h4.frame hR.keeps.size (fun b _ h => .inl h) (fun b hb hn' => hR.keeps.block b hb fun hy => hn' (.inr hy)) fun b hb => hkF c x hx ho b (hLb b (hc.sub b hb))
   ·obtain ⟨b, E, c0, b1, b2, b3⟩ := h0.box hb
    exact ⟨b, E, c0, b1, (hkF c x hx ho b (by simp [Ph.F, b1])).trans b2, b3⟩
   ·have := h0.nodup
    simp only [Ph.F, Ph.S, List.nodup_append] at this
    simp only [phF, Ph.F, Ph.S, List.append_nil, List.nodup_append]
    exact ⟨this.1, hc.nodup, fun x hx y hy => this.2.2 x hx y (by simp only [List.mem_append]; exact .inl (hc.sub y hy))⟩
  ·rw [h3]
   exact (hO.ok c z hx).frame hR.keeps.size hXo hkb (hkF c z hx ho)
 ·refine AVR.stays hR.keeps.size hXo hkb (fun k hk => ?_) (fun c z hz => ?_) (fun c x z hx hz hna hnc hnl b hb hh => ?_) (R.slots s')
  ·simp only [overs, wks, List.mem_append, List.mem_map] at hk
   rcases hk with ⟨_, _, rfl⟩ | ⟨_, _, rfl⟩ | ⟨_, _, rfl⟩ <;> first | rfl | exact lnM_app _ _
  ·rcases kinds c z hz with ⟨k, h1, h2, ⟨_, _, h3⟩ | ⟨hrn, j, rfl, hj⟩⟩ | ⟨hrn, ho, hF, x, sh, hx, hsh, hzx, h3⟩ | ⟨_, ho, hF, hx, h3⟩
   ·exact .all (hallm c z h3)
   ·obtain ⟨x, hx⟩ := hlive c (List.mem_of_getElem? hj)
    obtain ⟨g1, g2, g3⟩ := r2 j c x hj hx
    rw [h1] at g1
    injection g1 with g1
    have hm := hlnm c (List.mem_of_getElem? hj)
    have h0 := hO.ok c x hx
    cases hbx : x.box with
    | true =>
     have e : lnM (lookO g.ob) c = .ln := by unfold lnM; rw [hx]; simp only [hbx, cond_true]
     rw [e] at hm
     exact .ln hm hx hz (by rw [g1]) (by rw [h2, g2])
    | false =>
     have e : lnM (lookO g.ob) c = .lv := by unfold lnM; rw [hx]; simp only [hbx, cond_false]
     rw [e] at hm
     obtain ⟨g4, g5⟩ := g3 hbx
     refine .lv hm hx hz (by rw [g1]) g4 (by rw [g1]; exact g4) (by rw [h2, g2]; exact h0.hdr hbx) fun v hv => ?_
     rw [h2, g5]
     rcases hv with hv | hv
     ·obtain ⟨e1, e2⟩ := h0.own.header hv
      rw [e1, mkV_one e2]
     ·exact hv
   ·obtain ⟨n1, n2⟩ := frzSh_noIt bs hsh
    have h0 := hO.ok c x hx
    refine .wk x.box (hwkm c x hF hx) hx hz (by rw [hzx]) (n1 hF.2) (by rw [hzx]; exact n2 (n1 hF.2)) (by rw [h3]) (fun hb => ⟨h0.hdr hb, by rw [h3], fun v hv => ?_⟩) fun b hb => hkF c x hx ho b (by simp only [Ph.F, List.mem_append]; exact .inr hb)
    obtain ⟨e1, e2⟩ := h0.own.header hv
    rw [e1, mkV_one e2]
   ·exact .same (hz.trans hx.symm) h3 (hkF c z hx ho)
  ·rcases kinds c z hz with ⟨k, h1, h2, ⟨_, _, h3⟩ | ⟨hrn, j, rfl, hj⟩⟩ | ⟨hrn, ho, hF, y, sh, hy, hsh, hzx, h3⟩ | ⟨_, ho, hF, hy, h3⟩
   ·exact absurd (hallm c z h3) hna
   ·obtain ⟨y, hy⟩ := hlive c (List.mem_of_getElem? hj)
    have hm := hlnm c (List.mem_of_getElem? hj)
    cases hbx : y.box with
    | true =>
     have e : lnM (lookO g.ob) c = .ln := by unfold lnM; rw [hy]; simp only [hbx, cond_true]
     rw [e] at hm
     exact absurd hm hnl.1
    | false =>
     have e : lnM (lookO g.ob) c = .lv := by unfold lnM; rw [hy]; simp only [hbx, cond_false]
     rw [e] at hm
     exact absurd hm hnl.2
   ·refine ⟨hXo b hb hh.1, fun hm => ?_⟩
    have hx2 := hh.2
    rw [h3] at hx2
    refine hdrop2 c y sh hy ho hrn hF hsh b (by simp only [Ph.F, List.mem_append]; exact .inr hm) (fun hm2 => ?_) hh.1
    have hnd := (hO.ok c y hy).nodup
    simp only [Ph.F, List.nodup_append] at hnd
    simp only [phF, Ph.F, Ph.S, List.append_nil, List.mem_append] at hm2
    rcases hm2 with hm2 | hm2
    ·exact hnd.2.2 b hm2 b hm rfl
    ·exact hx2 (by simp only [phF, Ph.S, List.append_nil]; exact hm2)
   ·refine ⟨hXo b hb hh.1, ?_⟩
    have hx2 := hh.2
    rw [h3] at hx2
    exact hx2
 ·refine hv X' ob' ph' hresR fun k x z hk hz => ?_
  have hra : resAt base s.rs r (base + k) = some z := by
   unfold resAt
   rw [if_pos (by omega), Nat.add_sub_cancel_left, hk]
   exact hz
  obtain ⟨e1, e2⟩ := k1 _ z hra
  rw [Nat.add_sub_cancel_left] at e2
  refine ⟨e1, e2, fun hb => ?_⟩
  have h3 := (r1 _ z hra).2.2
  rw [Nat.add_sub_cancel_left] at h3
  exact (hR.objs.ok k z h3).hdr hb

end
end Go.Ab
