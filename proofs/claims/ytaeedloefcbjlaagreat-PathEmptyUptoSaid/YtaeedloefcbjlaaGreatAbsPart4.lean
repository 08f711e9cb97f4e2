/- The abstraction layer, part 4: rules that read a program as plain data, and that they are sound. Conditions: those in each theorem. -/
import Derived.Test.YtaeedloefcbjlaaGreatAbsPart3
set_option linter.unusedVariables false
set_option linter.unusedSimpArgs false
/- Calls. -/
namespace Go.Ab
variable {P : Program} {A : Ann}

theorem run_callFunc (W : WF P) {f : Nat} {fn : Func} {args : Array Value} {w : World} (hf : P.funcs[f]? = some fn) (hb : fn.body.isSome = true) : (callFunc f args).run P w = .ok (.enter f args) w := by
 have hn := W.names f fn hf
 obtain ⟨c, hc⟩ := Option.isSome_iff_exists.1 hb
 simp [callFunc, run_program, hf, hn, hc]

section
variable {X0 Y0 : Nat → Prop} {w0 : World} {g : St} {ph : Nat → Ph} {a : Act} {w : World} {o : Oper} {K : Dl → Prop}

theorem resV_avr {X : Nat → Prop} {ob : Nat → Option Obj} {k : Nat} {x : RK} {v : Value} {d : D} {p : Ph} (hni : x.noIt = true) (hr : ResRep P A X w x v d p) (hz : ∀ z, resOb x d = some z → ob k = some z ∧ ph k = p ∧ (z.box = false → p.rb = none)) :
  AVR1 P A X w ob ph (resV k d x).1 v := by
 cases x with
 | box e sh =>
  obtain ⟨b, hv, hb⟩ := hr
  obtain ⟨h1, h2, _⟩ := hz _ rfl
  intro y hy
  rw [h1] at hy
  injection hy with hy
  subst hy
  exact ⟨b, 0, e, hv, by simp [Lt.loc, Ph.root, h2, hb], rfl, rfl⟩
 | val t sh =>
  by_cases hsh : sh = .imm
  ·subst hsh; exact hr
  ·rw [resRep_val hsh] at hr
   obtain ⟨h1, h2, h3⟩ := hz _ (resOb_val hsh)
   have e : (resV k d (.val t sh)).1 = .val k [] t := by cases sh <;> first | exact absurd rfl hsh | rfl
   rw [e]
   intro y hy
   rw [h1] at hy
   injection hy with hy
   subst hy
   have hit : sh ≠ .it := fun e => by subst e; simp [RK.noIt, Sh.noIt] at hni
   exact ⟨fun e => absurd e hit, fun _ => ⟨t, rfl, rfl, .inr ⟨rfl, by rw [h2]; exact h3 rfl, by rw [h2]; exact hr⟩⟩⟩

theorem resVs_get (base : Nat) (r : List D) : ∀ (l : List RK) (k i : Nat) (x : RK), l[i]? = some x → (resVs base k r l).1[i]? = some (resV (base + (k + i)) (r.getD (k + i) .und) x).1
 | [], k, i, x, h => by simp at h
 | y :: l, k, i, x, h => by
  cases i with
  | zero =>
   simp only [List.getElem?_cons_zero, Option.some.injEq] at h
   subst h
   simp [resVs]
  | succ i =>
   simp only [List.getElem?_cons_succ] at h
   have := resVs_get base r l (k + 1) i x h
   simp only [resVs, List.getElem?_cons_succ, this]
   rw [show k + 1 + i = k + (i + 1) by omega]
theorem resVs_length (base : Nat) (r : List D) : ∀ (l : List RK) (k : Nat), (resVs base k r l).1.length = l.length
 | [], k => rfl
 | y :: l, k => by simp [resVs, resVs_length base r l (k + 1)]

/-- A CALL OF A FUNCTION. -/
theorem step_callD (W : WF P) {H : Hnd} (hH : CallOk P A H.cal) (R : RelA P A X0 Y0 w0 g ph a w) {f : Nat} {l : List AV} {vals : Array Value} (hsz : vals.size = l.length) (hvs : ∀ (i : Nat) (b : AV), l[i]? = some b → AVR P A (Xof X0 (lookO g.ob) ph) w (lookO g.ob) ph b (vals.getD i undef))
  (hex : ∀ fn, P.funcs[f]? = some fn → fn.body.isSome = true → (execOp a.eval o).run P w = .ok (.enter f vals) w) (h : callD P A H o.dst f l (lookO g.ob) K) : Does P o a w (Out P A X0 Y0 w0 g a K) := by
 unfold callD at h
 split at h <;> try contradiction
 rename_i ds bs os har
 split at h <;> try contradiction
 rename_i fz hfz
 obtain ⟨hg, hcal⟩ := of_cond h
 clear h
 simp only [Bool.and_eq_true, List.all_eq_true] at hg
 obtain ⟨⟨hn, hap⟩, hnit⟩ := hg
 obtain ⟨⟨fn, hf1, hf2, _⟩, hC⟩ := hH f ds _ hcal
 obtain ⟨phL, hA, hosl, hbs, hos, hY⟩ := args_of W R.objs R.keeps.size har hsz hvs hn hap
 have hcalls := hC _ w vals phL hA
 intro next Q hnext
 unfold Oper.wp
 rw [hex fn hf1 hf2]
 refine Calls.mono hcalls fun e w' he => ?_
 obtain ⟨v, r, phR, vs, rfl, hQ, hR⟩ := he
 refine hnext v w' ?_
 have hm := fun base v val hv => merge (v := v) (val := val) (base := base) W R hfz hn hap hosl hbs hos hY hR hv
 have hnil : (A.sig f).rs = [] → v = undef := fun e => by
  have h1 := hR.size
  have h2 := hR.val
  rw [e] at h1
  rw [h2, dif_neg (by rw [h1]; simp)]
  have : vs = #[] := Array.eq_empty_of_size_eq_zero h1
  rw [this]; rfl
 have hempty : (A.sig f).rs = [] → K { v := .und, os := lentUp (lookO g.ob) 0 r os ++ fz, ks := (os.map fun o => (o, lnM (lookO g.ob) o)) ++ wks fz } → Out P A X0 Y0 w0 g a K v w' := fun e hK => by
  have := hm 0 .und v (fun _ _ _ _ _ => hnil e)
  rw [e] at this
  exact ⟨_, hK, this⟩
 cases hd : o.dst with
 | none =>
  rw [hd] at hQ
  cases hrs : (A.sig f).rs with
  | nil => rw [hrs] at hQ; exact hempty hrs hQ
  | cons x l' => rw [hrs] at hQ; exact hQ.elim
 | some t =>
  rw [hd] at hQ
  cases hrs : (A.sig f).rs with
  | nil => rw [hrs] at hQ; exact hempty hrs hQ
  | cons x l' =>
   cases l' with
   | nil =>
    rw [hrs] at hQ
    have hval : v = vs.getD 0 undef := by
     have h1 : vs.size = 1 := by have h1 := hR.size; rw [hrs] at h1; exact h1
     rw [hR.val, dif_pos h1]
     simp [Array.getD_eq_getD_getElem?, h1]
    have := hm t (resV t (r.getD 0 .und) x).1 v fun X' ob' ph' h1 h2 => by
     have hx : (A.sig f).rs[0]? = some x := by rw [hrs]; rfl
     rw [hval]
     exact (resV_avr (hnit x (by rw [hrs]; simp)) (h1 0 x hx) fun z hz => by have := h2 0 x z hx hz; rwa [Nat.add_zero] at this).all
    rw [hrs] at this
    simp only [resVs, List.append_nil, Nat.add_zero] at this
    exact ⟨_, hQ, this⟩
   | cons y l' =>
    have hl1 : (A.sig f).rs.length ≠ 1 := by rw [hrs]; simp
    have hval : v = .tuple vs := by
     rw [hR.val, dif_neg (by rw [hR.size]; exact hl1)]
    have := hm ((t + 1) * 1000) (.tup (resVs ((t + 1) * 1000) 0 r (A.sig f).rs).1) v fun X' ob' ph' h1 h2 => by
     rw [hval]
     refine ⟨vs, rfl, by rw [resVs_length, hR.size], fun i b hb => ?_⟩
     have hil : i < (A.sig f).rs.length := by rw [← resVs_length ((t + 1) * 1000) r (A.sig f).rs 0]; exact (List.getElem?_eq_some_iff.1 hb).1
     have hx := List.getElem?_eq_getElem hil
     have h3 := resVs_get ((t + 1) * 1000) r (A.sig f).rs 0 i _ hx
     rw [h3, Nat.zero_add] at hb
     injection hb with hb
     subst hb
     exact resV_avr (hnit _ (List.getElem_mem hil)) (h1 i _ hx) fun z hz => h2 i _ z hx hz
    rw [hrs] at this hQ
    exact ⟨_, hQ, this⟩

theorem map_eval {c : Call} (R : RelA P A X0 Y0 w0 g ph a w) (i : Nat) (b : AV) (h : (c.args.toList.map g.av)[i]? = some b) : AVR P A (Xof X0 (lookO g.ob) ph) w (lookO g.ob) ph b ((c.args.map a.eval).getD i undef) := by
 simp only [List.getElem?_map, Option.map_eq_some_iff] at h
 obtain ⟨x, hx, rfl⟩ := h
 have : (c.args.map a.eval).getD i undef = a.eval x := by
  rw [Array.getElem?_toList] at hx
  simp [Array.getD_eq_getD_getElem?, hx]
 rw [this]
 exact AVR.eval R x

theorem run_callV (W : WF P) {c : Call} {x : Operand} {f : Nat} {vs : Array Value} (ho : o.op = .call c) (hc : c.callee = .value x) (hx : a.eval x = .func (.func f) #[] vs) {fn : Func} (hf : P.funcs[f]? = some fn) (hb : fn.body.isSome = true) :
  (execOp a.eval o).run P w = .ok (.enter f (c.args.map a.eval ++ vs)) w := by
 simp only [execOp, ho, resolve, hc, hx, Deferred.ofValue, Sem.run_bind, Sem.run_pure, Result.andThen_ok, invoke, Array.empty_append, run_callFunc W hf hb]

/-- A call of a function that is known, or of a closure that is known. -/
theorem step_call_fn (W : WF P) {H : Hnd} (hH : CallOk P A H.cal) (R : RelA P A X0 Y0 w0 g ph a w) {c : Call} {x : Operand} {f : Nat} (ho : o.op = .call c) (hc : c.callee = .value x) (hav : g.av x = .fn f) (h : callD P A H o.dst f (c.args.toList.map g.av) (lookO g.ob) K) :
  Does P o a w (Out P A X0 Y0 w0 g a K) := by
 have hx := AVR.eval R x
 rw [hav] at hx
 have hx' : a.eval x = .func (.func f) #[] #[] := hx
 refine step_callD W hH R (vals := c.args.map a.eval) (by simp) (fun i b hb => map_eval R i b hb) (fun fn hf hb => ?_) h
 have := run_callV (w := w) W ho hc hx' hf hb
 rw [Array.append_empty] at this
 exact this

theorem step_call_clo (W : WF P) {H : Hnd} (hH : CallOk P A H.cal) (R : RelA P A X0 Y0 w0 g ph a w) {c : Call} {x : Operand} {f : Nat} {l : List AV} (ho : o.op = .call c) (hc : c.callee = .value x) (hav : g.av x = .clo f l) (h : callD P A H o.dst f (c.args.toList.map g.av ++ l) (lookO g.ob) K) :
  Does P o a w (Out P A X0 Y0 w0 g a K) := by
 have hx := AVR.eval R x
 rw [hav] at hx
 obtain ⟨vs, hx', hsz, hel⟩ := hx
 refine step_callD W hH R (vals := c.args.map a.eval ++ vs) (by simp [hsz]) (fun i b hb => ?_) (fun fn hf hb => run_callV W ho hc hx' hf hb) h
 by_cases hi : i < (c.args.toList.map g.av).length
 ·rw [List.getElem?_append_left hi] at hb
  have h1 : (c.args.map a.eval ++ vs).getD i undef = (c.args.map a.eval).getD i undef := by
   have : i < (c.args.map a.eval).size := by simpa using hi
   simp only [Array.getD_eq_getD_getElem?]
   rw [Array.getElem?_append_left this]
  rw [h1]
  exact map_eval R i b hb
 ·rw [List.getElem?_append_right (by omega)] at hb
  have h1 : (c.args.map a.eval ++ vs).getD i undef = vs.getD (i - (c.args.toList.map g.av).length) undef := by
   have h2 : (c.args.map a.eval).size = (c.args.toList.map g.av).length := by simp
   simp only [Array.getD_eq_getD_getElem?]
   rw [Array.getElem?_append_right (by omega), h2]
  rw [h1]
  exact (hel _ b hb).all

theorem own_slc1 {X : Nat → Prop} {L : Lt} {s : Sh} {ex : Option (Nat × Sh)} {t : Nat} {cs : List Value} {d : D} (h : Own P A X w L (.slc s ex) t cs d) : cs = [mkV P t cs] := by
 cases h with
 | nil h => simp [mkV, h, isAgg]
 | slc h => simp [mkV, h, isAgg]

/-- slices.Compact of numbers. -/
theorem step_prim (W : WF P) (R : RelA P A X0 Y0 w0 g ph a w) {c : Call} {x : Operand} {f : Nat} (ho : o.op = .call c) (hc : c.callee = .value x) (hav : g.av x = .fn f) (h : primD P o.dst f (c.args.toList.map g.av) (lookO g.ob) K) :
  Does P o a w (Out P A X0 Y0 w0 g a K) := by
 have hx := AVR.eval R x
 rw [hav] at hx
 have hx' : a.eval x = .func (.func f) #[] #[] := hx
 unfold primD at h
 split at h <;> try contradiction
 rename_i dst0 k u _ hal
 split at h <;> try contradiction
 rename_i z e hz hu
 split at h <;> try contradiction
 rename_i he hsh
 obtain ⟨hg, hlen, hK⟩ := of_cond h
 simp only [Bool.and_eq_true, Bool.not_eq_true'] at hg
 obtain ⟨hcp, hku, hbx⟩ := hg
 obtain ⟨⟨fn, hf, hb⟩, hC1, hC2⟩ := W.cpt f hcp
 have hal1 : c.args.size = 1 := by
  have := congrArg List.length hal
  simpa using this
 have h0 : AVR P A (Xof X0 (lookO g.ob) ph) w (lookO g.ob) ph (.val k [] u) ((c.args.map a.eval).getD 0 undef) := map_eval R 0 _ (by rw [hal]; rfl)
 have hargs : c.args.map a.eval = #[(c.args.map a.eval).getD 0 undef] := by
  apply Array.ext
  ·simp [hal1]
  ·intro i h1 h2
   have : i = 0 := by simp at h2; omega
   subst this
   simp [Array.getD_eq_getD_getElem?, hal1]
 generalize (c.args.map a.eval).getD 0 undef = v0 at h0 hargs
 have hO := R.objs.ok k z hz
 obtain ⟨_, hs2⟩ := h0 z hz
 obtain ⟨u', hu1, hu2, hv⟩ := hs2 (by rw [hsh]; simp)
 simp only [tyAt, Option.some.injEq] at hu1
 subst hu1
 have hzt : tk P z.t = .slc e := hu2.trans hu
 have hown := hO.own
 rw [hsh] at hown
 have hvcs : (ph k).cs = [v0] := by
  rcases hv with hv | ⟨_, _, hv⟩
  ·exact (hown.header hv).1
  ·rw [hv]
   exact own_slc1 hown
 have hce : P.cellsOf e = 1 := W.one' he rfl (by simp)
 have hcal : ∀ {R' : Ending → World → Prop}, Calls P f #[v0] w R' → (∀ v w', R' (.returned v) w' → Out P A X0 Y0 w0 g a K v w') → (∀ e w', R' e w' → ∃ v, e = .returned v) → Does P o a w (Out P A X0 Y0 w0 g a K) := by
  intro R' hcalls hout hret next Q hnext
  unfold Oper.wp
  have hex := run_callV (w := w) W ho hc hx' hf hb
  rw [Array.append_empty, hargs] at hex
  rw [hex]
  refine Calls.mono hcalls fun e' w' he' => ?_
  obtain ⟨v, rfl⟩ := hret e' w' he'
  exact hnext v w' (hout v w' he')
 have hup : ∀ c, upO [(k, (none : Option Obj))] (lookO g.ob) c = if c = k then none else lookO g.ob c := fun c => by
  simp only [upO, findO]
  by_cases hck : c = k
  ·subst hck; simp
  ·rw [if_neg (fun e => hck e.symm), if_neg hck]; rfl
 have fin : ∀ (v : Value) (w' : World), Keeps (fun b => b ∈ (ph k).F) w w' → (∀ X' : Nat → Prop, (∀ b, b ∈ (ph k).F → ¬ X' b) → RepV P A X' w' u v (.slc (cptD z.d.xs))) → Out P A X0 Y0 w0 g a K v w' := by
  intro v w' hw hv
  refine ⟨_, hK, RelD.upd (D := fun c => c = k) (ph' := ph) R (hw.mono fun b hb => ⟨k, rfl, z, hz, hb⟩) (fun c hc => ⟨by rw [hup, if_neg hc], rfl⟩) (fun c y hd hy => ?_) (fun c y c' y' hd hd' _ _ hcc => absurd (hd.trans hd'.symm) hcc) (fun hX c y hd hy => ?_) (fun hX s => ?_) (fun hX => ?_)⟩
  ·rw [hup, if_pos hd] at hy; cases hy
  ·rw [hup, if_pos hd] at hy; cases hy
  ·refine AVR.stays (ks := []) (ph := ph) (ph' := ph) hw.size hX (fun b hb hn => hw.block b hb fun hm => hn (.inr ⟨k, z, hz, hm⟩)) (by simp) (fun q y hy => ?_) (fun q y y' hy hy' _ _ _ b hb hm => ⟨hX b hb hm.1, hm.2⟩) (R.slots s)
   rw [hup] at hy
   by_cases hq : q = k
   ·rw [if_pos hq] at hy; cases hy
   ·rw [if_neg hq] at hy
    refine .same (by rw [hup, if_neg hq]) rfl fun b hb => hw.block b ((R.objs.ok q y hy).lt b hb) fun hm => R.objs.apart q y k z hy hz hq b hb hm
  ·refine hv _ fun b hb hX' => ?_
   rcases hX' with h | ⟨q, y, hy, hm⟩
   ·exact R.objs.free k z hz b hb h
   ·rw [hup] at hy
    by_cases hq : q = k
    ·rw [if_pos hq] at hy; cases hy
    ·rw [if_neg hq] at hy
     exact R.objs.apart q y k z hy hz hq b hm hb
 rw [hvcs] at hown
 generalize hL : (ph k).L = L at hown
 generalize hd : z.d = d at hown hK fin hlen
 cases hown with
 | nil _ =>
  refine hcal (hC2 none 0 w) (fun v w' hvw => ?_) (fun e w' h => ⟨_, h.1⟩)
  obtain ⟨h1, rfl⟩ := hvw
  injection h1 with h1
  subst h1
  exact fin _ _ (Keeps.refl _ w') fun X' _ => ⟨[.slice none 0 0], .slcN hu, by simp [mkV, hu, isAgg]⟩
 | @slc _ e' _ _ b off cap E cc kids xs ht hblk hk1 hk2 hk3 hel =>
  have hee : e' = e := by rw [hzt] at ht; injection ht with ht; exact ht.symm
  subst hee
  have hbF : b ∈ (ph k).F := by simp only [Ph.F, Ph.S, hL, Lt.blocks]; simp
  have hint : ∀ i, i < xs.length → ∃ n, xs.getD i .und = .int n ∧ w.cell? ⟨b, off + i, none⟩ = some (.int .i64 n) := by
   intro i hi
   have h1 := hel i hi
   simp only [elS] at h1
   obtain ⟨_, h2⟩ := h1.leaf_of_imm
   have hlen2 : off + i + 1 ≤ cc.size := by rw [hce] at hk3; omega
   generalize hcs : seg cc.toList (off + i * P.cellsOf e') (P.cellsOf e') = cs at h2
   generalize hy : xs.getD i .und = y at h2
   cases h2 with
   | @int _ k' n hk' =>
    rw [he] at hk'
    injection hk' with hk'
    subst hk'
    refine ⟨n, rfl, ?_⟩
    rw [cell_of_block hblk]
    have := congrArg (fun l => l[0]?) hcs
    rw [hce] at this
    simp only [seg_get (show 0 < 1 by omega), Nat.mul_one, Nat.add_zero, Array.getElem?_toList] at this
    exact this
   | _ => simp_all
  have hzs : xs.map (fun d => D.int d.i) = xs := by
   apply List.ext_getElem?
   intro i
   by_cases hi : i < xs.length
   ·obtain ⟨n, h1, _⟩ := hint i hi
    rw [List.getD_eq_getElem?_getD, List.getElem?_eq_getElem hi, Option.getD_some] at h1
    simp [hi, h1, D.i]
   ·rw [List.getElem?_eq_none (by simpa using hi), List.getElem?_eq_none (by omega)]
  have hcell : ∀ j, j < xs.length → w.cell? ⟨b, off + j, none⟩ = some (.int .i64 ((xs.map D.i).getD j 0)) := fun j hj => by
   obtain ⟨n, h1, h2⟩ := hint j hj
   rw [h2]
   rw [List.getD_eq_getElem?_getD, List.getElem?_eq_getElem hj, Option.getD_some] at h1
   simp [List.getD_eq_getElem?_getD, hj, h1, D.i]
  have hfz : ∀ j, j < xs.length → w.frozen? ⟨b, off + j, none⟩ = false := fun j hj => by
   simp [World.frozen?, hblk]
  have hlen' : xs.length ≤ 9223372036854775807 := by
   simp only [D.len, D.xs] at hlen
   omega
  refine hcal (hC1 b off xs.length cap (xs.map D.i) w (by simp) hlen' hk2 hcell hfz) (fun v w' hvw => ?_) (fun e w' h => ⟨_, h.1⟩)
  obtain ⟨h1, h2, h3⟩ := hvw
  injection h1 with h1
  subst h1
  have hblt : b < w.heap.size := (Array.getElem?_eq_some_iff.1 hblk).1
  have hlec : ∀ (l : List Int) (p : Int), (cptF p l).length ≤ l.length := by
   intro l
   induction l with
   | nil => intro p; simp [cptF]
   | cons y l ih =>
    intro p
    simp only [cptF, cond_eq]
    split
    ·have := ih p; simp; omega
    ·have := ih y; simp; omega
  have hlec2 : (cptI (xs.map D.i)).length ≤ xs.length := by
   cases xs with
   | nil => simp [cptI]
   | cons y l => simp only [List.map_cons, cptI, List.length_cons]; have := hlec (l.map D.i) y.i; simp at this; omega
  refine fin _ _ (h2.mono fun x hx => by rw [hx]; exact hbF) fun X' hX' => ⟨[.slice (some ⟨b, off, none⟩) (cptI (xs.map D.i)).length cap], ?_, by simp [mkV, hu, isAgg]⟩
  have hlD : (cptD (D.slc xs).xs).length = (cptI (xs.map D.i)).length := by simp [cptD, D.xs]
  have := Rep.slc (P := P) (A := A) (X := X') (w := w') (t := u) (e := e') (b := b) (off := off) (cap := cap) (xs := cptD (D.slc xs).xs) (css := fun i => [.int .i64 ((cptI (xs.map D.i)).getD i 0)]) hu (hX' b hbF) (Nat.lt_of_lt_of_le hblt h2.size) (by rw [hlD]; omega) (fun i _ => by rw [hce]; rfl) (fun i hi => ?_) (fun i hi => ?_)
  ·rw [hlD] at this; exact this
  ·intro j hj
   have : j = 0 := by simp at hj; omega
   subst this
   rw [hce, Nat.mul_one, Nat.add_zero, h3 i (by rw [hlD] at hi; exact hi)]
   rfl
  ·rw [hlD] at hi
   have : (cptD (D.slc xs).xs).getD i .und = .int ((cptI (xs.map D.i)).getD i 0) := by
    simp [cptD, D.xs, List.getD_eq_getElem?_getD, hi]
   rw [this]
   exact .int he

end
end Go.Ab

/- Calls of function values and of methods behind an interface. -/
namespace Go.Ab
variable {P : Program} {A : Ann}

/-- What is asked of calls. -/
structure HndOk (P : Program) (A : Ann) (H : Hnd) : Prop where
 cal : CallOk P A H.cal
 dyn : ∀ d ks rs ds Q, H.dyn d ks rs ds Q → dynH A H.cal d ks rs ds Q
 inv : ∀ d name ks rs ds Q, H.inv d name ks rs ds Q → invH P A H.cal d name ks rs ds Q

theorem PK.beq_eq {a b : PK} (h : PK.beq a b = true) : a = b := by
 cases a <;> cases b <;> simp only [PK.beq, beq_iff, Bool.and_eq_true, Bool.false_eq_true] at h
 ·rw [h]
 ·rw [h]
 ·rename_i b1 _ _ b2
  obtain ⟨h1, h2, h3⟩ := h
  have : b1 = b2 := by cases b1 <;> cases b2 <;> first | rfl | exact absurd h3 (by simp)
  rw [h1, Sh.eq_of_beq h2, this]
theorem PK.beqs_eq : ∀ {a b : List PK}, PK.beqs a b = true → a = b
 | [], [], _ => rfl
 | [], _ :: _, h => by simp [PK.beqs] at h
 | _ :: _, [], h => by simp [PK.beqs] at h
 | x :: a, y :: b, h => by
  simp only [PK.beqs, Bool.and_eq_true] at h
  rw [PK.beq_eq h.1, PK.beqs_eq h.2]

theorem unPtr_get : ∀ (ks : List PK) (l : List D) (i : Nat), ks.length = l.length → (unPtr ks l).length = l.length ∧ (unPtr ks l).getD i .und = match ks[i]? with
  | some (.iptr _) => (l.getD i .und).dr
  | _ => l.getD i .und
 | [], [], i, _ => ⟨rfl, by simp [unPtr]⟩
 | [], _ :: _, i, h => by simp at h
 | _ :: _, [], i, h => by simp at h
 | k :: ks, d :: l, i, h => by
  have ih := unPtr_get ks l (i - 1) (by simpa using h)
  cases i with
  | zero =>
   refine ⟨?_, ?_⟩
   ·cases k <;> simp [unPtr, (unPtr_get ks l 0 (by simpa using h)).1]
   ·cases k <;> simp [unPtr]
  | succ i =>
   rw [Nat.add_sub_cancel] at ih
   refine ⟨?_, ?_⟩
   ·cases k <;> simp [unPtr, ih.1]
   ·cases k <;> simp only [unPtr, List.getD_cons_succ, List.getElem?_cons_succ, ih.2]

section
variable {X0 Y0 : Nat → Prop} {w0 : World} {g : St} {ph : Nat → Ph} {a : Act} {w : World} {o : Oper} {K : Dl → Prop}

theorem no_lent {ps : List PK} (h : (ps.all fun | .lent _ _ _ => false | _ => true) = true) : lentL 0 ps = [] ∧ ∀ ds i, lookO (initOb 0 ps ds) i = none := by
 have h1 : ∀ p ∈ ps, ∀ e sh bx, p ≠ .lent e sh bx := fun p hp e sh bx e1 => by
  have := List.all_eq_true.1 h p hp
  rw [e1] at this
  cases this
 refine ⟨?_, fun ds i => ?_⟩
 ·apply List.eq_nil_iff_forall_not_mem.2
  intro y hy
  exact h1 _ (List.mem_of_getElem? (lentL_ge ps 0 y hy).2) _ _ _ rfl
 ·rw [lookO_init, if_pos (Nat.zero_le _), Nat.sub_zero]
  split
  ·rename_i e sh bx hp
   exact absurd rfl (h1 _ (List.mem_of_getElem? hp) e sh bx)
  ·rfl

/-- Arguments that are only read. -/
theorem args_read {X0' : Nat → Prop} {cs : List Nat} {ps : List PK} {vals : Array Value} {ds : List D} (h : (ps.all fun | .lent _ _ _ => false | _ => true) = true) (h1 : vals.size = ps.length) (h2 : ds.length = ps.length) (hX : ∀ b, X0' b → b < w.heap.size)
  (h3 : ∀ (i : Nat) (k : PK), ps[i]? = some k → ArgAt P A X0' w k (vals.getD i undef) (ds.getD i .und)) (phL : Nat → Ph) : Args P A X0' w cs ps vals ds phL := by
 obtain ⟨_, hno⟩ := no_lent h
 have hXf : ∀ b, Xof X0' (lookO (initOb 0 ps ds)) phL b → X0' b := by
  rintro b (h | ⟨o, x, hx, _⟩)
  ·exact h
  ·rw [hno] at hx; cases hx
 refine ⟨h1, h2, ⟨(fun o x hx => by rw [hno] at hx; cases hx), (fun o x _ _ hx => by rw [hno] at hx; cases hx), (fun o x hx => by rw [hno] at hx; cases hx), (fun o x hx => by rw [hno] at hx; cases hx), hX⟩, fun i => ?_⟩
 rw [look_init, if_pos (Nat.zero_le _), Nat.sub_zero]
 split
 ·rename_i t hp
  have h4 : RepV P A X0' w t (vals.getD i undef) (ds.getD i .und) := h3 i _ hp
  exact h4.frame (Nat.le_refl _) (fun b _ h => hXf b h) fun _ _ _ => rfl
 ·rename_i e hp
  obtain ⟨b, off, cs, a1, a2, a3, a4, a5⟩ := h3 i _ hp
  exact ⟨b, off, cs, a1, fun hx => a2 (hXf b hx), a3, a4, a5.anti fun b _ h => hXf b h⟩
 ·rename_i e sh hp
  have := List.all_eq_true.1 h _ (List.mem_of_getElem? hp)
  cases this
 ·trivial

/-- Behind a call that gives data back. -/
theorem step_read (W : WF P) {H : Hnd} (hH : CallOk P A H.cal) (R : RelA P A X0 Y0 w0 g ph a w) {f rt : Nat} {bs : List (Nat × Option Pth)} {vals : Array Value} {ds : List D} (hal : ((A.sig f).ps.all fun | .lent _ _ _ => false | _ => true) = true) (hrs : (A.sig f).rs = [.val rt .imm])
  (h1 : vals.size = (A.sig f).ps.length) (h2 : ds.length = (A.sig f).ps.length) (h3 : ∀ (i : Nat) (k : PK), (A.sig f).ps[i]? = some k → ArgAt P A (Xcal X0 (lookO g.ob) ph bs []) w k (vals.getD i undef) (ds.getD i .und)) (hbs : bs = [] ∨ flatT P rt = true)
  (hex : ∀ fn, P.funcs[f]? = some fn → fn.body.isSome = true → (execOp a.eval o).run P w = .ok (.enter f vals) w) (hc : H.cal f ds fun r => K { v := .imm rt (r.getD 0 .und) }) : Does P o a w (Out P A X0 Y0 w0 g a K) := by
 obtain ⟨⟨fn, hf1, hf2, _⟩, hC⟩ := hH f ds _ hc
 have hXlt : ∀ b, Xcal X0 (lookO g.ob) ph bs [] b → b < w.heap.size := fun b hb => by
  rcases hb.1 with hx | ⟨o, x, hx, hm⟩
  ·have := R.objs.old b hx; have := R.keeps.size; omega
  ·exact (R.objs.ok o x hx).lt b hm
 have hcalls := hC _ w vals ph (args_read hal h1 h2 hXlt h3 ph)
 intro next Q hnext
 unfold Oper.wp
 rw [hex fn hf1 hf2]
 refine Calls.mono hcalls fun e w' he => ?_
 obtain ⟨v, r, phR, vs, rfl, hQ, hR⟩ := he
 refine hnext v w' ⟨_, hQ, ?_⟩
 obtain ⟨hll, hno⟩ := no_lent hal
 have hkeep : Keeps (fun _ => False) w w' := hR.keeps.mono fun b hb => by
  obtain ⟨o, x, hx, _⟩ := hb
  rw [hno] at hx; cases hx
 have hobR : ∀ k, retOb (A.sig f).rs (A.sig f).ps r k = none := fun k => by
  unfold retOb
  rw [hrs, hll]
  cases k with
  | zero => rfl
  | succ k => simp
 have hXe : ∀ b, Xof (Xcal X0 (lookO g.ob) ph bs []) (retOb (A.sig f).rs (A.sig f).ps r) phR b → Xcal X0 (lookO g.ob) ph bs [] b := by
  rintro b (h | ⟨k, z, hz, _⟩)
  ·exact h
  ·rw [hobR] at hz; cases hz
 have hres : ResRep P A _ w' (.val rt .imm) (vs.getD 0 undef) (r.getD 0 .und) (phR 0) := hR.res 0 (.val rt .imm) (by rw [hrs]; rfl)
 have hval : v = vs.getD 0 undef := by
  have h1 : vs.size = 1 := by have h1 := hR.size; rw [hrs] at h1; exact h1
  rw [hR.val, dif_pos h1]
  simp [Array.getD_eq_getD_getElem?, h1]
 refine RelD.upd (D := fun _ => False) (ph' := ph) R (hkeep.mono fun _ h => h.elim) (fun c _ => ⟨rfl, rfl⟩) (fun c _ h => h.elim) (fun c _ _ _ h => h.elim) (fun _ c _ h => h.elim) (fun hX s => ?_) fun hX => ?_
 ·exact AVR.stays (ks := []) hkeep.size hX (fun b hb _ => hkeep.block b hb id) (by simp) (fun c z hz => .same rfl rfl fun b hb => hkeep.block b ((R.objs.ok c z hz).lt b hb) id) (fun c z z' _ _ _ _ _ b hb hh => ⟨hX b hb hh.1, hh.2⟩) (R.slots s)
 ·rw [hval]
  obtain ⟨cs, hr, hv⟩ := hres
  rcases hbs with rfl | hfl
  ·refine ⟨cs, hr.anti fun b _ hx => ?_, hv⟩
   exact .inl ⟨hx, by simp, by simp⟩
  ·exact ⟨cs, Rep.flat W 6 rt cs _ hfl hr, hv⟩

theorem imm_os {ob : Nat → Option Obj} : ∀ (i : Nat) (ts : List Nat) (l : List AV) (ds : List D) (bs : List (Nat × Option Pth)) (os : List Nat), argsD P A ob [] i (ts.map .imm) l = some (ds, bs, os) → os = []
 | _, [], [], ds, bs, os, h => by simp only [List.map_nil, argsD, Option.some.injEq, Prod.mk.injEq] at h; exact h.2.2.symm
 | _, [], _ :: _, ds, bs, os, h => by simp [argsD] at h
 | _, t :: ts, [], ds, bs, os, h => by simp [argsD] at h
 | i, t :: ts, av :: l, ds, bs, os, h => by
  simp only [List.map_cons, argsD] at h
  split at h <;> try contradiction
  rename_i d b1 o1 ds2 b2 o2 h1 h2
  have h1 : argD P A ob (.imm t) av = some (d, b1, o1) := h1
  simp only [Option.some.injEq, Prod.mk.injEq] at h
  obtain ⟨_, _, rfl⟩ := h
  rw [imm_os (i + 1) ts l ds2 b2 o2 h2, List.append_nil]
  cases av <;> simp only [argD] at h1 <;> first
   | (split at h1 <;> try contradiction
      first
       | (simp only [Option.some.injEq, Prod.mk.injEq] at h1; exact h1.2.2.symm)
       | (split at h1 <;> try contradiction
          simp only [Option.some.injEq, Prod.mk.injEq] at h1; exact h1.2.2.symm))
   | contradiction

theorem step_call_mv (W : WF P) {H : Hnd} (hH : HndOk P A H) (R : RelA P A X0 Y0 w0 g ph a w) {c : Call} {x : Operand} {t f : Nat} {x' : D} {ds : List D} {bs : List (Nat × Option Pth)} {os : List Nat} (ho : o.op = .call c) (hc : c.callee = .value x) (hav : g.av x = .imm t (.mv f x'))
  (har : argsD P A (lookO g.ob) [] 0 (c.argTypes.toList.map .imm) (c.args.toList.map g.av) = some (ds, bs, os)) (hbs : bs = [] ∨ flatT P o.type = true) (hx : RepV P A (Xof X0 (lookO g.ob) ph) w t (a.eval x) (.mv f x'))
  (hd : match (A.sig f).ps with
   | .imm _ :: ps => (PK.beqs ps (c.argTypes.toList.map .imm) = true ∧ (A.sig f).rs = [.val o.type .imm] ∧ ((c.argTypes.toList.map PK.imm).all fun | .lent _ _ _ => false | _ => true) = true) ∧ H.cal f (x' :: ds) fun r => K { v := .imm o.type (r.getD 0 .und) }
   | _ => False) : Does P o a w (Out P A X0 Y0 w0 g a K) := by
 split at hd <;> try contradiction
 rename_i u ps hps
 obtain ⟨⟨h1, h3, h4⟩, h5⟩ := hd
 have h1 := PK.beqs_eq h1
 have hos := imm_os _ _ _ _ _ _ har
 subst hos
 obtain ⟨cs, hr, hv⟩ := hx
 generalize hdd : D.mv f x' = dd at hr
 cases hr with
 | mval ht hps2 hrx =>
  rename_i f2 u2 d2 ps2 cs2
  injection hdd with e1 e2
  subst e1 e2
  rw [hps] at hps2
  simp only [List.cons.injEq, PK.imm.injEq] at hps2
  obtain ⟨rfl, rfl⟩ := hps2
  subst h1
  rw [mkV_one (by rw [ht]; rfl)] at hv
  obtain ⟨f1, f2, f3, f4, _, _⟩ := argsD_spec W R.objs _ _ 0 (c.args.map a.eval) ds bs [] har fun i b hb => by rw [Nat.zero_add]; exact map_eval R i b hb
  have hXc : ∀ b, Xcal X0 (lookO g.ob) ph bs [] b → Xof X0 (lookO g.ob) ph b := fun b h => h.1
  have hsp : Spares (lookO g.ob) ph bs (Xcal X0 (lookO g.ob) ph bs []) := fun o q hq b hb hx => hx.2.2 ⟨o, q, hq, hb⟩
  have hsz : (c.args.map a.eval).size = (c.argTypes.toList.map PK.imm).length := by
   have : (c.args.map a.eval).size = (c.args.toList.map g.av).length := by simp
   rw [this, f1]
  have hal : ((A.sig f).ps.all fun | .lent _ _ _ => false | _ => true) = true := by
   rw [hps]
   simp [List.all_eq_true]
  refine step_read W hH.cal R (vals := #[mkV P u cs2] ++ c.args.map a.eval) (bs := bs) hal h3 (by rw [Array.size_append, hsz, hps]; simp; omega) (by rw [hps]; simp [f2]) (fun i k hk => ?_) hbs (fun fn hf hb => ?_) h5
  ·rw [hps] at hk
   cases i with
   | zero =>
    simp only [List.getElem?_cons_zero, Option.some.injEq] at hk
    subst hk
    have e1 : (#[mkV P u cs2] ++ c.args.map a.eval).getD 0 undef = mkV P u cs2 := by
     simp only [Array.getD_eq_getD_getElem?]
     rw [Array.getElem?_append_left (by simp)]
     rfl
    rw [e1]
    exact ⟨cs2, hrx.anti fun b _ h => hXc b h, rfl⟩
   | succ i =>
    simp only [List.getElem?_cons_succ] at hk
    have := f4 _ (fun b _ h => hXc b h) hsp i k hk
    rw [Nat.zero_add] at this
    have e1 : (#[mkV P u cs2] ++ c.args.map a.eval).getD (i + 1) undef = (c.args.map a.eval).getD i undef := by
     simp only [Array.getD_eq_getD_getElem?]
     rw [Array.getElem?_append_right (by simp)]
     simp
    rw [e1]
    exact this
  ·simp only [execOp, ho, resolve, hc, hv, Deferred.ofValue, Sem.run_bind, Sem.run_pure, Result.andThen_ok, invoke, run_callFunc W hf hb]
   simp
 | _ => cases hdd

theorem step_call_dyn (W : WF P) {H : Hnd} (hH : HndOk P A H) (R : RelA P A X0 Y0 w0 g ph a w) {c : Call} {x : Operand} {t : Nat} {d : D} {ds : List D} {bs : List (Nat × Option Pth)} {os : List Nat} (ho : o.op = .call c) (hc : c.callee = .value x) (hav : g.av x = .imm t d)
  (har : argsD P A (lookO g.ob) [] 0 (c.argTypes.toList.map .imm) (c.args.toList.map g.av) = some (ds, bs, os)) (hbs : bs = [] ∨ flatT P o.type = true) (h : H.dyn d (c.argTypes.toList.map .imm) [.val o.type .imm] ds fun r => K { v := .imm o.type (r.getD 0 .und) }) : Does P o a w (Out P A X0 Y0 w0 g a K) := by
 have hx := AVR.eval R x
 rw [hav] at hx
 have hd := hH.dyn _ _ _ _ _ h
 unfold dynH at hd
 split at hd
 case h_3 => contradiction
 case h_2 f x' => exact step_call_mv W hH R ho hc hav har hbs hx hd
 rename_i f caps
 obtain ⟨⟨h1, h2, h3, h4⟩, h5⟩ := hd
 have h1 := PK.beqs_eq h1
 have hos := imm_os _ _ _ _ _ _ har
 subst hos
 obtain ⟨cs, hr, hv⟩ := hx
 generalize hdd : D.fn f caps = dd at hr
 cases hr with
 | fn ht k1 k2 k3 k4 k5 k6 k7 k8 k9 =>
  rename_i f' vs caps' ks bsf offs css ddf
  injection hdd with e1 e2
  subst e1 e2
  rw [mkV_one (by rw [ht]; rfl)] at hv
  obtain ⟨f1, f2, f3, f4, _, _⟩ := argsD_spec W R.objs _ _ 0 (c.args.map a.eval) ds bs [] har fun i b hb => by rw [Nat.zero_add]; exact map_eval R i b hb
  have hn : (c.argTypes.toList.map PK.imm).length = c.argTypes.toList.length := by simp
  have hks : ks = (A.sig f).ps.drop (c.argTypes.toList.map PK.imm).length := by
   rw [k4]
   congr 1
   omega
  have hdl : ((A.sig f).ps.drop (c.argTypes.toList.map PK.imm).length).length = caps.length := by rw [← hks, k1]
  have hXc : ∀ b, Xcal X0 (lookO g.ob) ph bs [] b → Xof X0 (lookO g.ob) ph b := fun b h => h.1
  have hsp : Spares (lookO g.ob) ph bs (Xcal X0 (lookO g.ob) ph bs []) := fun o q hq b hb hx => hx.2.2 ⟨o, q, hq, hb⟩
  have hsz : (c.args.map a.eval).size = (c.argTypes.toList.map PK.imm).length := by
   have : (c.args.map a.eval).size = (c.args.toList.map g.av).length := by simp
   rw [this, f1]
  refine step_read W hH.cal R (vals := c.args.map a.eval ++ vs) (bs := bs) h4 h3 (by rw [Array.size_append, hsz, k2, h2]) (by rw [List.length_append, (unPtr_get _ caps 0 hdl).1, f2, h2]) (fun i k hk => ?_) hbs (fun fn hf hb => run_callV W ho hc hv hf hb) h5
  by_cases hi : i < (c.argTypes.toList.map PK.imm).length
  ·have hk' : (c.argTypes.toList.map PK.imm)[i]? = some k := by rw [← h1, List.getElem?_take_of_lt hi]; exact hk
   have := f4 _ (fun b _ h => hXc b h) hsp i k hk'
   rw [Nat.zero_add] at this
   have e1 : (c.args.map a.eval ++ vs).getD i undef = (c.args.map a.eval).getD i undef := by
    simp only [Array.getD_eq_getD_getElem?]
    rw [Array.getElem?_append_left (by omega)]
   have e2 : (ds ++ unPtr ((A.sig f).ps.drop (c.argTypes.toList.map PK.imm).length) caps).getD i .und = ds.getD i .und := by
    simp only [List.getD_eq_getElem?_getD]
    rw [List.getElem?_append_left (by omega)]
   rw [e1, e2]
   exact this
  ·have e1 : (c.args.map a.eval ++ vs).getD i undef = vs.getD (i - (c.argTypes.toList.map PK.imm).length) undef := by
    simp only [Array.getD_eq_getD_getElem?]
    rw [Array.getElem?_append_right (by omega), hsz]
   have e2 : (ds ++ unPtr ((A.sig f).ps.drop (c.argTypes.toList.map PK.imm).length) caps).getD i .und = (unPtr ((A.sig f).ps.drop (c.argTypes.toList.map PK.imm).length) caps).getD (i - (c.argTypes.toList.map PK.imm).length) .und := by
    simp only [List.getD_eq_getElem?_getD]
    rw [List.getElem?_append_right (by omega), f2]
   have hkj : ks[i - (c.argTypes.toList.map PK.imm).length]? = some k := by
    rw [hks, List.getElem?_drop, show (c.argTypes.toList.map PK.imm).length + (i - (c.argTypes.toList.map PK.imm).length) = i by omega]
    exact hk
   rw [e1, e2, (unPtr_get _ caps _ hdl).2]
   rw [← hks, hkj]
   have hvg : ∀ u, vs[i - (c.argTypes.toList.map PK.imm).length]? = some u → vs.getD (i - (c.argTypes.toList.map PK.imm).length) undef = u := fun u hu => by rw [Array.getD_eq_getD_getElem?, hu]; rfl
   cases k with
   | imm u =>
    exact ⟨_, (k8 _ u hkj).anti fun b _ h => hXc b h, hvg _ (k7 _ u hkj)⟩
   | iptr e =>
    obtain ⟨a1, a2, a3, a4, a5⟩ := k5 _ e hkj
    refine ⟨_, _, _, hvg _ a1, fun hx => a2 (hXc _ hx), a3, a4, ?_⟩
    simp only
    rw [a5]
    exact (k6 _ e hkj).anti fun b _ h => hXc b h
   | lent e sh bx => exact absurd hkj (k9 _ e sh bx)
 | _ => cases hdd

theorem step_call_inv (W : WF P) {H : Hnd} (hH : HndOk P A H) (R : RelA P A X0 Y0 w0 g ph a w) {c : Call} {x : Operand} {name : String} {t : Nat} {d : D} {ds : List D} {bs : List (Nat × Option Pth)} {os : List Nat} (ho : o.op = .call c) (hc : c.callee = .invoke x name) (hav : g.av x = .imm t d)
  (har : argsD P A (lookO g.ob) [] 0 (c.argTypes.toList.map .imm) (c.args.toList.map g.av) = some (ds, bs, os)) (hbs : bs = [] ∨ flatT P o.type = true) (h : H.inv d name (c.argTypes.toList.map .imm) [.val o.type .imm] ds fun r => K { v := .imm o.type (r.getD 0 .und) }) : Does P o a w (Out P A X0 Y0 w0 g a K) := by
 have hx := AVR.eval R x
 rw [hav] at hx
 have hd := hH.inv _ _ _ _ _ _ h
 unfold invH at hd
 split at hd <;> try contradiction
 rename_i u x'
 split at hd <;> try contradiction
 rename_i f hm
 obtain ⟨⟨h1, h3, h6⟩, h5⟩ := hd
 have h1 := PK.beqs_eq h1
 have hos := imm_os _ _ _ _ _ _ har
 subst hos
 obtain ⟨cs, hr, hv⟩ := hx
 generalize hdd : D.ifc u x' = dd at hr
 cases hr with
 | ifc ht hu hrx =>
  rename_i u2 d2 cs2
  injection hdd with e1 e2
  subst e1 e2
  rw [mkV_one (by rw [ht]; rfl)] at hv
  obtain ⟨f1, f2, f3, f4, _, _⟩ := argsD_spec W R.objs _ _ 0 (c.args.map a.eval) ds bs [] har fun i b hb => by rw [Nat.zero_add]; exact map_eval R i b hb
  have hXc : ∀ b, Xcal X0 (lookO g.ob) ph bs [] b → Xof X0 (lookO g.ob) ph b := fun b h => h.1
  have hsp : Spares (lookO g.ob) ph bs (Xcal X0 (lookO g.ob) ph bs []) := fun o q hq b hb hx => hx.2.2 ⟨o, q, hq, hb⟩
  have hsz : (c.args.map a.eval).size = (c.argTypes.toList.map PK.imm).length := by
   have : (c.args.map a.eval).size = (c.args.toList.map g.av).length := by simp
   rw [this, f1]
  have hal : ((A.sig f).ps.all fun | .lent _ _ _ => false | _ => true) = true := by
   rw [h1]
   simp [List.all_eq_true]
  have hmeth : ∀ args : Array Value, ∀ fn, P.funcs[f]? = some fn → fn.body.isSome = true → (callMethod (.iface u (mkV P u cs2)) name args).run P w = .ok (.enter f (#[mkV P u cs2] ++ args)) w := by
   intro args fn hf hb
   unfold methodOf at hm
   split at hm <;> try contradiction
   rename_i m hmm
   split at hm <;> try contradiction
   rename_i f' hfn hps
   injection hm with hm
   subst hm
   obtain ⟨i, hi, hfd⟩ := Option.bind_eq_some_iff.1 hmm
   have hpe : m.path = #[] := Array.eq_empty_of_size_eq_zero hps
   have hto : tk P u ≠ .other := fun e => by simp [plainT, e] at h6
   obtain ⟨td, htd, _⟩ := und_of_tk hto
   have hnp : ∀ e, td ≠ .pointer e := fun e he => by
    subst he
    have := tk_of_und (k := tk P u) rfl hto
    rw [htd] at this
    simp only at this
    simp [plainT, this] at h6
   have hrec : ∀ nm, (receiverAt u (.val (mkV P u cs2)) false nm).run P w = .ok (mkV P u cs2) w := fun nm => by
    unfold receiverAt
    simp only [Sem.run_bind, run_underlying htd, Result.andThen_ok]
    cases td <;> first | (exact absurd rfl (hnp _)) | rfl
   have hmt : ∀ n, (method (n + 1) u (mkV P u cs2) name).run P w = .ok (f', mkV P u cs2) w := fun n => by
    unfold method
    simp [typeInfo, hi, hfd, hpe, follow, hfn, hrec]
   have hmt' : (method (P.types.size + Made.depth) u (mkV P u cs2) name).run P w = .ok (f', mkV P u cs2) w := hmt (P.types.size + 99)
   simp only [callMethod, Sem.run_bind, run_program, Result.andThen_ok, hmt', run_callFunc W hf hb]
  refine step_read W hH.cal R (vals := #[mkV P u cs2] ++ c.args.map a.eval) (bs := bs) hal h3 (by rw [Array.size_append, hsz, h1]; simp; omega) (by rw [h1]; simp [f2]) (fun i k hk => ?_) hbs (fun fn hf hb => ?_) h5
  ·rw [h1] at hk
   cases i with
   | zero =>
    simp only [List.getElem?_cons_zero, Option.some.injEq] at hk
    subst hk
    have e1 : (#[mkV P u cs2] ++ c.args.map a.eval).getD 0 undef = mkV P u cs2 := by
     simp only [Array.getD_eq_getD_getElem?]
     rw [Array.getElem?_append_left (by simp)]
     rfl
    rw [e1]
    exact ⟨cs2, hrx.anti fun b _ h => hXc b h, rfl⟩
   | succ i =>
    simp only [List.getElem?_cons_succ] at hk
    have := f4 _ (fun b _ h => hXc b h) hsp i k hk
    rw [Nat.zero_add] at this
    have e1 : (#[mkV P u cs2] ++ c.args.map a.eval).getD (i + 1) undef = (c.args.map a.eval).getD i undef := by
     simp only [Array.getD_eq_getD_getElem?]
     rw [Array.getElem?_append_right (by simp)]
     rfl
    rw [e1]
    exact this
  ·have := hmeth (c.args.map a.eval) fn hf hb
   have e0 : (#[Value.iface u (mkV P u cs2)] ++ c.args.map a.eval)[0]? = some (.iface u (mkV P u cs2)) := by
    rw [Array.getElem?_append_left (by simp)]; rfl
   have e1 : (#[Value.iface u (mkV P u cs2)] ++ c.args.map a.eval).extract 1 (#[Value.iface u (mkV P u cs2)] ++ c.args.map a.eval).size = c.args.map a.eval := by
    apply Array.ext'
    simp
    exact List.take_of_length_le (by simp)
   simp only [execOp, ho, resolve, hc, hv, Sem.run_bind, Sem.run_pure, Result.andThen_ok, invoke, e0, e1, this]
 | _ => cases hdd

end
end Go.Ab

/- A part of an object is lent. -/
namespace Go.Ab
variable {P : Program} {A : Ann}

theorem initOb_none {ps : List PK} (h : (ps.all fun | .lent _ _ _ => false | _ => true) = true) (k : Nat) (ds : List D) (i : Nat) : lookO (initOb k ps ds) i = none := by
 have h1 : ∀ p ∈ ps, ∀ e sh bx, p ≠ .lent e sh bx := fun p hp e sh bx e1 => by
  have := List.all_eq_true.1 h p hp
  rw [e1] at this
  cases this
 rw [lookO_init]
 split
 ·split
  ·rename_i e sh bx hp
   exact absurd rfl (h1 _ (List.mem_of_getElem? hp) e sh bx)
  ·rfl
 ·rfl

section
variable {X0 Y0 : Nat → Prop} {w0 : World} {g : St} {ph : Nat → Ph} {a : Act} {w : World} {o : Oper} {K : Dl → Prop}

/-- The start: what is lent is a part of an object. -/
theorem part_args (W : WF P) {ob : Nat → Option Obj} (hO : Objs' P A X0 Y0 w0.heap.size ob ph w) (hw0 : w0.heap.size ≤ w.heap.size) {k j : Nat} {z : Obj} (hz : ob k = some z) {m : List (Nat × Sh)} (hsh : z.sh = .agg m) {fs : List (Nat × Nat)} (hk : tk P z.t = .struct fs) {e off : Nat} (hj : fs[j]? = some (e, off)) (hm : fldL m j = .slc .imm none)
  {v : Value} (hv : ((ph k).L.kid j).hv = some v) {ps : List PK} {l : List AV} {vals : Array Value} {ds : List D} (har : argsD P A ob [] 1 ps l = some (ds, [], [])) (hsz : vals.size = l.length + 1) (h0 : vals.getD 0 undef = v)
  (hvs : ∀ (i : Nat) (a : AV), l[i]? = some a → AVR P A (Xof X0 ob ph) w ob ph a (vals.getD (1 + i) undef)) (hnl : (ps.all fun | .lent _ _ _ => false | _ => true) = true) :
  Own P A (Xof X0 ob ph) w ((ph k).L.kid j) (.slc .imm none) e [v] (z.d.get [.fld j]) ∧
  Args P A (fun b => Xof X0 ob ph b ∧ b ∉ ((ph k).L.kid j).blocks) w [] (.lent e (.slc .imm none) false :: ps) vals (z.d.get [.fld j] :: ds) (fun _ => ⟨[v], none, (ph k).L.kid j, []⟩) ∧
  ∀ b, lentY (.lent e (.slc .imm none) false :: ps) (z.d.get [.fld j] :: ds) (fun _ => ⟨[v], none, (ph k).L.kid j, []⟩) b ↔ b ∈ ((ph k).L.kid j).blocks := by
 have hOk := hO.ok k z hz
 have hown := hOk.own
 rw [hsh] at hown
 obtain ⟨dz, hd, hdl, hcl, hf⟩ := hown.fields hk fun j => ⟨_, rfl⟩
 have hpart := hf j e off hj _ (show (Sh.agg m).fld j = some (fldL m j) from rfl)
 rw [hm] at hpart
 obtain ⟨hcs, hag⟩ := hpart.header hv
 rw [hcs] at hpart
 have hdj : z.d.get [.fld j] = dz.getD j .und := by rw [hd]; rfl
 have hob : ∀ i, lookO (initOb 0 (.lent e (.slc .imm none) false :: ps) (z.d.get [.fld j] :: ds)) i = if i = 0 then some ⟨false, e, .slc .imm none, z.d.get [.fld j]⟩ else none := fun i => by
  simp only [initOb, List.headD_cons, List.tail_cons]
  rw [lookO_cons]
  by_cases hi : i = 0
  ·subst hi; rw [if_pos rfl, if_pos rfl]
  ·rw [if_neg (fun h => hi h.symm), if_neg hi]
   exact initOb_none hnl 1 ds i
 have hblk : ∀ b, b ∈ ((ph k).L.kid j).blocks → b ∈ (ph k).F := fun b hb => by
  simp only [Ph.F, Ph.S, List.mem_append]
  exact .inr (.inl (blocks_of_kid hb))
 have hF : ∀ b, b ∈ (⟨[v], none, (ph k).L.kid j, []⟩ : Ph).F ↔ b ∈ ((ph k).L.kid j).blocks := fun b => by simp [Ph.F, Ph.S]
 have hnd : (ph k).L.blocks.Nodup := by
  have := hOk.nodup
  simp only [Ph.F, Ph.S, List.nodup_append] at this
  exact this.2.1.1
 have hX : ∀ b, Xof (fun b => Xof X0 ob ph b ∧ b ∉ ((ph k).L.kid j).blocks) (lookO (initOb 0 (.lent e (.slc .imm none) false :: ps) (z.d.get [.fld j] :: ds))) (fun _ => ⟨[v], none, (ph k).L.kid j, []⟩) b → Xof X0 ob ph b := by
  rintro b (h | ⟨i, x, hx, hb⟩)
  ·exact h.1
  ·exact .inr ⟨k, z, hz, hblk b ((hF b).1 hb)⟩
 obtain ⟨f1, f2, f3, f4, _, _⟩ := argsD_spec W hO ps l 1 vals ds [] [] har hvs
 rw [← hdj] at hpart
 refine ⟨hpart, ⟨by simp [hsz, f1], by simp [f2], ⟨fun i x hx => ?_, fun i x i' x' hx hx' hne => ?_, fun i x hx b hb hc => ?_, fun i x hx b hb => .inl ⟨i, x, hx, hb⟩, fun b hb => ?_⟩, fun i => ?_⟩, fun b => ⟨?_, fun hb => ⟨0, _, by rw [hob, if_pos rfl], (hF b).2 hb⟩⟩⟩
 ·rw [hob] at hx
  split at hx <;> try contradiction
  injection hx with hx
  subst hx
  refine ⟨hpart.frame (Nat.le_refl _) (fun b _ h => hX b h) (fun _ _ _ => rfl) fun _ _ => rfl, (fun h => by cases h), fun _ => rfl, ?_, fun b hb => hOk.lt b (hblk b ((hF b).1 hb))⟩
  simp only [Ph.F, Ph.S, Option.toList, List.nil_append, List.append_nil]
  exact nodup_kid hnd j
 ·rw [hob] at hx hx'
  split at hx <;> try contradiction
  split at hx' <;> try contradiction
  rename_i e1 e2
  exact absurd (e1.trans e2.symm) hne
 ·exact hc.2 ((hF b).1 hb)
 ·rcases hb.1 with h | ⟨c, y, hy, hm⟩
  ·have := hO.old b h; omega
  ·exact (hO.ok c y hy).lt b hm
 ·rw [look_init, if_pos (Nat.zero_le _), Nat.sub_zero]
  cases i with
  | zero =>
   simp only [List.getElem?_cons_zero, cond_false, h0]
   intro x hx
   rw [hob, if_pos rfl] at hx
   injection hx with hx
   subst hx
   refine ⟨(fun h => by cases h), fun _ => ⟨e, rfl, rfl, .inr ⟨rfl, rfl, ?_⟩⟩⟩
   exact (mkV_one hag).symm
  | succ i =>
   simp only [List.getElem?_cons_succ, List.getD_cons_succ]
   have hsp : Spares ob ph [] (Xof (fun b => Xof X0 ob ph b ∧ b ∉ ((ph k).L.kid j).blocks) (lookO (initOb 0 (.lent e (.slc .imm none) false :: ps) (z.d.get [.fld j] :: ds))) (fun _ => ⟨[v], none, (ph k).L.kid j, []⟩)) := fun _ _ h => by cases h
   split
   ·rename_i t hp
    have := f4 _ (fun b _ h => hX b h) hsp i _ hp
    rw [show 1 + i = i + 1 by omega] at this
    exact this
   ·rename_i t hp
    have := f4 _ (fun b _ h => hX b h) hsp i _ hp
    rw [show 1 + i = i + 1 by omega] at this
    exact this
   ·rename_i e' sh' bx' hp
    have := List.all_eq_true.1 hnl _ (List.mem_of_getElem? hp)
    cases this
   ·trivial
 ·rintro ⟨i, x, hx, hb⟩
  exact (hF b).1 hb

/-- A call to which a part is lent. -/
theorem step_part (W : WF P) {H : Hnd} (hH : CallOk P A H.cal) (R : RelA P A X0 Y0 w0 g ph a w) {c : Call} {x : Operand} {f : Nat} (ho : o.op = .call c) (hc : c.callee = .value x) (hav : g.av x = .fn f) (h : partD P A H f (c.args.toList.map g.av) (lookO g.ob) K) :
  Does P o a w (Out P A X0 Y0 w0 g a K) := by
 have hx := AVR.eval R x
 rw [hav] at hx
 have hx' : a.eval x = .func (.func f) #[] #[] := hx
 unfold partD at h
 split at h <;> try contradiction
 rename_i k j u l e sh ps hal hps hrs
 split at h <;> try contradiction
 rename_i z ds hz har
 split at h <;> try contradiction
 rename_i fs m hk hsh
 split at h <;> try contradiction
 rename_i ft off hj hm
 obtain ⟨hg, hcal⟩ := of_cond h
 simp only [Bool.and_eq_true, beq_iff, List.isEmpty_iff] at hg
 obtain ⟨hbx, hshe, rfl, hcel, hnl⟩ := hg
 have hshe := Sh.eq_of_beq hshe
 subst hshe
 have hsz : (c.args.map a.eval).size = l.length + 1 := by
  have := congrArg List.length hal
  simpa using this
 have h0 : AVR P A (Xof X0 (lookO g.ob) ph) w (lookO g.ob) ph (.val k [.fld j] u) ((c.args.map a.eval).getD 0 undef) := map_eval R 0 _ (by rw [hal]; rfl)
 have hrest : ∀ (i : Nat) (b : AV), l[i]? = some b → AVR P A (Xof X0 (lookO g.ob) ph) w (lookO g.ob) ph b ((c.args.map a.eval).getD (1 + i) undef) := fun i b hb => map_eval R (1 + i) b (by rw [hal, show 1 + i = i + 1 by omega]; exact hb)
 generalize hvals : c.args.map a.eval = vals at *
 generalize hv0 : vals.getD 0 undef = v0 at h0
 have hO := R.objs.ok k z hz
 obtain ⟨_, hs2⟩ := h0 z hz
 obtain ⟨u', _, _, hv⟩ := hs2 (by rw [hsh]; simp)
 have hv : ((ph k).L.kid j).hv = some v0 := by
  rcases hv with hv | ⟨hv, _⟩
  ·exact hv
  ·cases hv
 obtain ⟨hpart, hargs, hlY⟩ := part_args W R.objs R.keeps.size hz hsh hk hj hm hv har hsz hv0 hrest hnl
 obtain ⟨⟨fn, hf, hb, _⟩, hrun⟩ := hH f _ _ hcal
 have hcalls := hrun _ w vals _ (by rw [hcel, hps]; exact hargs)
 intro next Q hnext
 unfold Oper.wp
 have hex := run_callV (w := w) W ho hc hx' hf hb
 rw [Array.append_empty, hvals] at hex
 rw [hex]
 refine Calls.mono hcalls fun e' w' he' => ?_
 obtain ⟨vr, r, phR, vs, rfl, hK, hret⟩ := he'
 refine hnext vr w' ⟨_, hK, ?_⟩
 rw [hps] at hret
 have hY : ∀ b, lentY (A.sig f).ps (z.d.get [.fld j] :: ds) (fun _ => ⟨[v0], none, (ph k).L.kid j, []⟩) b ↔ b ∈ ((ph k).L.kid j).blocks := by rw [hps]; exact hlY
 have hro : retOb (A.sig f).rs (A.sig f).ps r 0 = some ⟨false, ft, .slc .imm none, r.getD 0 .und⟩ := by
  rw [hrs, hps]
  rfl
 have hol := hret.objs.ok 0 _ hro
 have hll := hret.lent 0 (0, ft, .slc .imm none, false) (by rw [hps]; rfl)
 rw [hrs] at hll
 have hrb0 : (phR 0).rb = none := hll.1
 have hag := (hpart.header hv).2
 have hcs2 : (phR 0).cs = [v0] := by
  have h1 := own_slc1 hol.own
  have h2 : mkV P ft (phR 0).cs = mkV P ft [v0] := hll.2 rfl
  rw [h2, mkV_one hag] at h1
  exact h1
 have hown := hO.own
 rw [hsh] at hown
 obtain ⟨kids, dz, hL, hd, hk1, hk2, hk3, hkf⟩ : ∃ kids dz, (ph k).L = .agg kids ∧ z.d = .agg dz ∧ (ph k).cs.length = P.cellsOf z.t ∧ kids.length = fs.length ∧ dz.length = fs.length ∧
   ∀ (j ft o : Nat), fs[j]? = some (ft, o) → Own P A (Xof X0 (lookO g.ob) ph) w (kids.getD j .leaf) (fldL m j) ft (seg (ph k).cs o (P.cellsOf ft)) (dz.getD j .und) := by
  generalize (ph k).L = L at hown ⊢
  generalize z.d = dd at hown ⊢
  generalize (ph k).cs = cc at hown ⊢
  cases hown with
  | agg q1 q2 q3 q4 q5 =>
   rw [hk] at q1
   injection q1 with q1
   subst q1
   exact ⟨_, _, rfl, rfl, q2, q3, q4, q5⟩
 have hkid : (ph k).L.kid j = kids.getD j .leaf := by rw [hL]; rfl
 have hjl : j < fs.length := (List.getElem?_eq_some_iff.1 hj).1
 have hcsj : seg (ph k).cs off (P.cellsOf ft) = [v0] := by
  have h1 := hkf j ft off hj
  rw [← hkid] at h1
  exact (h1.header hv).1
 have hput : D.put P z.t z.d [.fld j] (r.getD 0 .und) = .agg (fs.zipIdx.map fun x => cond (Nat.beq x.2 j) (r.getD 0 .und) (z.d.fld x.2)) := by
  simp only [D.put, hk]
 have hget : ∀ i, i < fs.length → (fs.zipIdx.map fun x => cond (Nat.beq x.2 j) (r.getD 0 .und) (z.d.fld x.2)).getD i .und = if i = j then r.getD 0 .und else dz.getD i .und := fun i hi => by
  rw [List.getD_eq_getElem?_getD, List.getElem?_map, List.getElem?_zipIdx, List.getElem?_eq_getElem hi]
  simp only [Option.map_some, Option.getD_some, Nat.zero_add, cond_eq, beq_iff]
  rw [hd]
  rfl
 have hnd : (ph k).L.blocks.Nodup := by
  have := hO.nodup
  simp only [Ph.F, Ph.S, List.nodup_append] at this
  exact this.2.1.1
 have hnk : (blocksL kids).Nodup := by rw [hL] at hnd; exact hnd
 obtain ⟨hn1, hn2⟩ := nodup_blocksL hnk
 have hset : ∀ i, (kids.set j (phR 0).L).getD i .leaf = if i = j then (phR 0).L else kids.getD i .leaf := fun i => by
  rw [List.getD_eq_getElem?_getD, List.getElem?_set]
  by_cases e : j = i
  ·subst e
   rw [if_pos rfl, if_pos rfl, if_pos (by omega)]
   rfl
  ·rw [if_neg e, if_neg (fun h => e h.symm), ← List.getD_eq_getElem?_getD]
 have hL2 : ∀ b, b ∈ (phR 0).L.blocks → b ∈ (kids.getD j .leaf).blocks ∨ w.heap.size ≤ b := fun b hb => by
  rcases hret.objs.ours 0 _ hro b (by simp only [Ph.F, Ph.S, List.mem_append]; exact .inr (.inl hb)) with h | h
  ·left; rw [← hkid]; exact (hlY b).1 h
  ·exact .inr h
 have hL2n : (phR 0).L.blocks.Nodup := by
  have := hol.nodup
  simp only [Ph.F, Ph.S, List.nodup_append] at this
  exact this.2.1.1
 have hkeep : ∀ b, b < w.heap.size → b ∉ (kids.getD j .leaf).blocks → w'.heap[b]? = w.heap[b]? := fun b hb hn => hret.keeps.block b hb fun h => hn (by rw [← hkid]; exact (hlY b).1 h)
 have hinL : ∀ i b, i < fs.length → b ∈ (kids.getD i .leaf).blocks → b ∈ (ph k).F := fun i b hi hb => by
  simp only [Ph.F, Ph.S, List.mem_append, hL, Lt.blocks]
  exact .inr (.inl (mem_blocksL.2 ⟨i, by omega, hb⟩))
 let ph' : Nat → Ph := fun c => if c = k then { ph k with L := .agg (kids.set j (phR 0).L) } else ph c
 have hphk : ph' k = { ph k with L := .agg (kids.set j (phR 0).L) } := if_pos rfl
 have hLb : ∀ b, b ∈ (Lt.agg (kids.set j (phR 0).L)).blocks → b ∈ (ph k).L.blocks ∨ w.heap.size ≤ b := fun b hb => by
  simp only [Lt.blocks] at hb
  obtain ⟨i, hi, hb⟩ := mem_blocksL.1 hb
  rw [hset] at hb
  rw [List.length_set] at hi
  rw [hL]
  simp only [Lt.blocks]
  split at hb
  ·rcases hL2 b hb with h | h
   ·exact .inl (mem_blocksL.2 ⟨j, by omega, h⟩)
   ·exact .inr h
  ·exact .inl (mem_blocksL.2 ⟨i, hi, hb⟩)
 have hLn : (Lt.agg (kids.set j (phR 0).L)).blocks.Nodup := by
  simp only [Lt.blocks]
  refine nodup_blocksL_mk (fun i hi => ?_) (fun i i' b hi hi' hb hb' => ?_)
  ·rw [hset]
   rw [List.length_set] at hi
   split
   ·exact hL2n
   ·exact hn1 i hi
  ·rw [hset] at hb hb'
   rw [List.length_set] at hi hi'
   have hold : ∀ i, i < kids.length → b ∈ (kids.getD i .leaf).blocks → b < w.heap.size := fun i hi h => hO.lt b (hinL i b (by omega) h)
   split at hb
   ·rename_i e1
    split at hb'
    ·rename_i e2; rw [e1, e2]
    ·rename_i e2
     exfalso
     rcases hL2 b hb with h | h
     ·exact e2 (hn2 i' j b hi' (by omega) hb' h)
     ·have := hold i' hi' hb'; omega
   ·rename_i e1
    split at hb'
    ·exfalso
     rcases hL2 b hb' with h | h
     ·exact e1 (hn2 i j b hi (by omega) hb h)
     ·have := hold i hi hb; omega
    ·exact hn2 i i' b hi hi' hb hb'
 have hup : ∀ c, upO [(k, some { z with d := D.put P z.t z.d [.fld j] (r.getD 0 .und) })] (lookO g.ob) c = if c = k then some { z with d := D.put P z.t z.d [.fld j] (r.getD 0 .und) } else lookO g.ob c := fun c => by
  simp only [upO, findO]
  by_cases hck : c = k
  ·subst hck; simp
  ·rw [if_neg (fun e => hck e.symm), if_neg hck]; rfl
 have hFk : ∀ b, b ∈ (ph' k).F → b ∈ (ph k).F ∨ w.heap.size ≤ b := fun b hb => by
  rw [hphk] at hb
  simp only [Ph.F, Ph.S, List.mem_append] at hb ⊢
  rcases hb with h | h | h
  ·exact .inl (.inl h)
  ·rcases hLb b h with h | h
   ·exact .inl (.inr (.inl h))
   ·exact .inr h
  ·exact .inl (.inr (.inr h))
 refine RelD.upd (D := fun c => c = k) (ph' := ph') R (hret.keeps.mono fun b hb => ⟨k, rfl, z, hz, ?_⟩) (fun c hc => ⟨by rw [hup, if_neg hc], if_neg hc⟩) (fun c y hd' hy b hb => ?_) (fun c y c' y' hd1 hd2 _ _ hcc => absurd (hd1.trans hd2.symm) hcc) (fun hX c y hd' hy => ?_) (fun hX s => ?_) (fun hX => ?_)
 ·exact hinL j b hjl (by rw [← hkid]; exact (hlY b).1 hb)
 ·subst hd'
  rcases hFk b hb with h | h
  ·exact .inr ⟨c, z, rfl, hz, h⟩
  ·exact .inl h
 ·subst hd'
  rw [hup, if_pos rfl] at hy
  injection hy with hy
  subst hy
  have hnF := hO.nodup
  simp only [Ph.F, Ph.S] at hnF
  obtain ⟨n1, n2, n3⟩ := List.nodup_append.1 hnF
  obtain ⟨n4, n5, n6⟩ := List.nodup_append.1 n2
  have hpL : ∀ b, b ∈ (kids.getD j .leaf).blocks → b ∈ (ph c).L.blocks := fun b hb => by rw [hL]; simp only [Lt.blocks]; exact mem_blocksL.2 ⟨j, by omega, hb⟩
  have hX2 : ∀ b, Xof X0 (upO [(c, some { z with d := D.put P z.t z.d [.fld j] (r.getD 0 .und) })] (lookO g.ob)) ph' b → Xof (fun b => Xof X0 (lookO g.ob) ph b ∧ b ∉ ((ph c).L.kid j).blocks) (retOb (A.sig f).rs (A.sig f).ps r) phR b := by
   rintro b (h | ⟨q, y, hy, hb⟩)
   ·exact .inl ⟨.inl h, fun hp => R.objs.free c z hz b (hinL j b hjl (by rw [← hkid]; exact hp)) h⟩
   ·rw [hup] at hy
    by_cases hq : q = c
    ·subst hq
     rw [hphk] at hb
     simp only [Ph.F, Ph.S, List.mem_append] at hb
     rcases hb with h | h | h
     ·exact .inl ⟨.inr ⟨q, z, hz, by simp only [Ph.F, Ph.S, List.mem_append]; exact .inl h⟩, fun hp => n3 b h b (List.mem_append.2 (.inl (hpL b (by rw [← hkid]; exact hp)))) rfl⟩
     ·simp only [Lt.blocks] at h
      obtain ⟨i, hi, h⟩ := mem_blocksL.1 h
      rw [hset] at h
      rw [List.length_set] at hi
      split at h
      ·exact .inr ⟨0, _, hro, by simp only [Ph.F, Ph.S, List.mem_append]; exact .inr (.inl h)⟩
      ·rename_i hne
       exact .inl ⟨.inr ⟨q, z, hz, hinL i b (by omega) h⟩, fun hp => hne (hn2 i j b hi (by omega) h (by rw [← hkid]; exact hp))⟩
     ·exact .inl ⟨.inr ⟨q, z, hz, by simp only [Ph.F, Ph.S, List.mem_append]; exact .inr (.inr h)⟩, fun hp => n6 b (hpL b (by rw [← hkid]; exact hp)) b h rfl⟩
    ·rw [if_neg hq] at hy
     have hpq : ph' q = ph q := if_neg hq
     rw [hpq] at hb
     exact .inl ⟨.inr ⟨q, y, hy, hb⟩, fun hp => R.objs.apart q y c z hy hz hq b hb (hinL j b hjl (by rw [← hkid]; exact hp))⟩
  generalize hXX : Xof X0 (upO [(c, some { z with d := D.put P z.t z.d [.fld j] (r.getD 0 .und) })] (lookO g.ob)) ph' = XX at hX hX2 ⊢
  refine ⟨?_, fun _ => ?_, fun h => ?_, ?_, fun b hb => ?_⟩
  ·show Own P A XX w' (ph' c).L z.sh z.t (ph' c).cs (D.put P z.t z.d [.fld j] (r.getD 0 .und))
   rw [hphk, hsh, hput]
   refine Own.agg hk hk1 (by rw [List.length_set]; exact hk2) (by simp) fun i ft' o' hi => ?_
   have hil := (List.getElem?_eq_some_iff.1 hi).1
   rw [hset, hget i hil]
   by_cases e : i = j
   ·subst e
    rw [hj] at hi
    injection hi with hi
    injection hi with e1 e2
    subst e1 e2
    rw [if_pos rfl, if_pos rfl, hm, hcsj]
    have h1 := hol.own
    have h2 : Own P A _ w' (phR 0).L (.slc .imm none) ft (phR 0).cs (r.getD 0 .und) := h1
    rw [hcs2] at h2
    exact h2.frame (Nat.le_refl _) (fun b _ h => hX2 b h) (fun _ _ _ => rfl) fun _ _ => rfl
   ·rw [if_neg e, if_neg e]
    refine (hkf i ft' o' hi).frame hret.keeps.size hX (fun b hb hn => hkeep b hb fun h => hn (.inr ⟨c, z, hz, hinL j b hjl h⟩)) fun b hb => hkeep b (hO.lt b (hinL i b hil hb)) fun h => e (hn2 i j b (by omega) (by omega) hb h)
  ·obtain ⟨b, E, cc, q1, q2, q3⟩ := hO.box hbx
   refine ⟨b, E, cc, by rw [hphk]; exact q1, ?_, by rw [hphk]; exact q3⟩
   rw [hkeep b (Array.getElem?_eq_some_iff.1 q2).1 fun h => n3 b (by rw [q1]; simp) b (List.mem_append.2 (.inl (hpL b h))) rfl]
   exact q2
  ·have h : z.box = false := h
   rw [hbx] at h
   cases h
  ·rw [hphk]
   simp only [Ph.F, Ph.S]
   have hlt : ∀ b, b ∈ (ph c).rb.toList ∨ b ∈ (ph c).G → b < w.heap.size := fun b hb => hO.lt b (by
    simp only [Ph.F, Ph.S, List.mem_append]
    rcases hb with h | h
    ·exact .inl h
    ·exact .inr (.inr h))
   refine List.nodup_append.2 ⟨n1, List.nodup_append.2 ⟨hLn, n5, fun b hb b' hb' e => ?_⟩, fun b hb b' hb' e => ?_⟩
   ·subst e
    rcases hLb b hb with h | h
    ·exact n6 b h b hb' rfl
    ·have := hlt b (.inr hb'); omega
   ·subst e
    rcases List.mem_append.1 hb' with h | h
    ·rcases hLb b h with h | h
     ·exact n3 b hb b (List.mem_append.2 (.inl h)) rfl
     ·have := hlt b (.inl hb); omega
    ·exact n3 b hb b (List.mem_append.2 (.inr h)) rfl
  ·rw [hphk] at hb
   simp only [Ph.F, Ph.S, List.mem_append] at hb
   have old : b ∈ (ph c).F → b < w'.heap.size := fun h => Nat.lt_of_lt_of_le (hO.lt b h) hret.keeps.size
   rcases hb with h | h | h
   ·exact old (by simp only [Ph.F, Ph.S, List.mem_append]; exact .inl h)
   ·simp only [Lt.blocks] at h
    obtain ⟨i, hi, h⟩ := mem_blocksL.1 h
    rw [hset] at h
    rw [List.length_set] at hi
    split at h
    ·exact hol.lt b (by simp only [Ph.F, Ph.S, List.mem_append]; exact .inr (.inl h))
    ·exact old (hinL i b (by omega) h)
   ·exact old (by simp only [Ph.F, Ph.S, List.mem_append]; exact .inr (.inr h))
 ·refine AVR.stays (ks := [(k, .ln)]) (ph := ph) (ph' := ph') hret.keeps.size hX (fun b hb hn => hkeep b hb fun h => hn (.inr ⟨k, z, hz, hinL j b hjl h⟩)) (by simp [KM.isApp]) (fun q y hy => ?_) (fun q y y' hy hy' _ _ hln b hb hm => ?_) (R.slots s)
  ·rw [hup] at hy
   by_cases hq : q = k
   ·subst hq
    rw [if_pos rfl] at hy
    exact .ln (List.mem_singleton.2 rfl) hz ((hup _).trans (if_pos rfl)) rfl (by rw [hphk])
   ·rw [if_neg hq] at hy
    refine .same (by rw [hup, if_neg hq]) (if_neg hq) fun b hb => hkeep b ((R.objs.ok q y hy).lt b hb) fun h => R.objs.apart q y k z hy hz hq b hb (hinL j b hjl h)
  ·by_cases hq : q = k
   ·subst hq
    exact absurd (List.mem_singleton.2 rfl) hln.1
   ·have : ph' q = ph q := if_neg hq
    rw [this] at hm
    exact ⟨hX b hb hm.1, hm.2⟩
 ·have hvv := hret.val
  have hvz : vs.size = 0 := by have := hret.size; rw [hrs] at this; simpa using this
  rw [dif_neg (by omega)] at hvv
  rw [hvv]
  show Value.tuple vs = undef
  rw [Array.eq_empty_of_size_eq_zero hvz]
  rfl
end
end Go.Ab

/- A function that calls a closure again and again. -/
namespace Go.Ab
variable {P : Program} {A : Ann}

theorem fillL_len : ∀ (ps : List PK) (ds r : List D) (j : Nat), ds.length = ps.length → (fillL j ps ds r).length = ps.length
 | [], [], _, _, _ => rfl
 | [], _ :: _, _, _, h => by simp at h
 | p :: ps, [], _, _, h => by simp at h
 | p :: ps, d :: ds, r, j, h => by
  have ih := fun j => fillL_len ps ds r j (by simpa using h)
  cases p <;> simp only [fillL, List.length_cons, ih]
theorem fillL_other : ∀ (ps : List PK) (ds r : List D) (j i : Nat) (p : PK), ds.length = ps.length → ps[i]? = some p → (∀ e sh bx, p ≠ .lent e sh bx) → (fillL j ps ds r).getD i .und = ds.getD i .und
 | [], _, _, _, _, _, _, h, _ => by simp at h
 | p :: ps, [], _, _, _, _, h, _, _ => by simp at h
 | p :: ps, d :: ds, r, j, i, q, hl, h, hn => by
  cases i with
  | zero =>
   simp only [List.getElem?_cons_zero, Option.some.injEq] at h
   subst h
   cases p with
   | lent e sh bx => exact absurd rfl (hn e sh bx)
   | _ => simp [fillL]
  | succ i =>
   have ih := fun j => fillL_other ps ds r j i q (by simpa using hl) (by simpa using h) hn
   cases p <;> simp only [fillL, List.getD_cons_succ, ih]
theorem fillL_lent : ∀ (ps : List PK) (ds r : List D) (j k i : Nat) (y : Nat × Nat × Sh × Bool), ds.length = ps.length → (lentL k ps)[i]? = some y → (fillL j ps ds r).getD (y.1 - k) .und = r.getD (j + i) .und
 | [], _, _, _, _, _, _, _, h => by simp [lentL] at h
 | p :: ps, [], _, _, _, _, _, h, _ => by simp at h
 | p :: ps, d :: ds, r, j, k, i, y, hl, h => by
  have ih := fun j i h => fillL_lent ps ds r j (k + 1) i y (by simpa using hl) h
  have hge : ∀ i, (lentL (k + 1) ps)[i]? = some y → y.1 - k = (y.1 - (k + 1)) + 1 := fun i h => by
   have := (lentL_ge ps (k + 1) y (List.mem_of_getElem? h)).1
   omega
  cases p with
  | lent e sh bx =>
   cases i with
   | zero =>
    simp only [lentL, List.getElem?_cons_zero, Option.some.injEq] at h
    subst h
    simp [fillL]
   | succ i =>
    simp only [lentL, List.getElem?_cons_succ] at h
    rw [hge i h]
    simp only [fillL, List.getD_cons_succ, ih _ _ h]
    rw [show j + 1 + i = j + (i + 1) by omega]
  | imm t =>
   simp only [lentL] at h
   rw [hge i h]
   simp only [fillL, List.getD_cons_succ, ih _ _ h]
  | iptr t =>
   simp only [lentL] at h
   rw [hge i h]
   simp only [fillL, List.getD_cons_succ, ih _ _ h]
theorem lentDs_get : ∀ (ps : List PK) (ds : List D) (k i : Nat) (y : Nat × Nat × Sh × Bool), ds.length = ps.length → (lentL k ps)[i]? = some y → (lentDs ps ds).getD i .und = ds.getD (y.1 - k) .und
 | [], _, _, _, _, _, h => by simp [lentL] at h
 | p :: ps, [], _, _, _, h, _ => by simp at h
 | p :: ps, d :: ds, k, i, y, hl, h => by
  have ih := fun i h => lentDs_get ps ds (k + 1) i y (by simpa using hl) h
  have hge : ∀ i, (lentL (k + 1) ps)[i]? = some y → y.1 - k = (y.1 - (k + 1)) + 1 := fun i h => by
   have := (lentL_ge ps (k + 1) y (List.mem_of_getElem? h)).1
   omega
  cases p with
  | lent e sh bx =>
   cases i with
   | zero =>
    simp only [lentL, List.getElem?_cons_zero, Option.some.injEq] at h
    subst h
    simp [lentDs]
   | succ i =>
    simp only [lentL, List.getElem?_cons_succ] at h
    rw [hge i h]
    simp only [lentDs, List.getD_cons_succ, ih _ h]
  | imm t =>
   simp only [lentL] at h
   rw [hge i h]
   simp only [lentDs, List.getD_cons_succ, ih _ h]
  | iptr t =>
   simp only [lentL] at h
   rw [hge i h]
   simp only [lentDs, List.getD_cons_succ, ih _ h]

theorem retOb_nil {ps : List PK} {r : List D} {j : Nat} : retOb [] ps r j = ((lentL 0 ps)[j]?).map fun y => ⟨y.2.2.2, y.2.1, y.2.2.1, r.getD j .und⟩ := by
 simp [retOb]

/-- The blocks of what was lent. -/
def retF (ps : List PK) (phR : Nat → Ph) (b : Nat) : Prop := ∃ j y, (lentL 0 ps)[j]? = some y ∧ b ∈ (phR j).F

/-- Which of the lent ones a parameter is. -/
theorem lent_idx (ps : List PK) (j : Nat) (y : Nat × Nat × Sh × Bool) (hy : (lentL 0 ps)[j]? = some y) : ((lentL 0 ps).findIdx fun z => z.1 == y.1) = j := by
 have hnd := lentL_nodup ps 0
 generalize lentL 0 ps = Ls at hy hnd
 induction Ls generalizing j with
 | nil => simp at hy
 | cons z Ls ih =>
  simp only [List.map_cons, List.nodup_cons] at hnd
  rw [List.findIdx_cons]
  cases j with
  | zero =>
   simp only [List.getElem?_cons_zero, Option.some.injEq] at hy
   subst hy
   simp
  | succ j =>
   simp only [List.getElem?_cons_succ] at hy
   have hne : z.1 ≠ y.1 := fun e => hnd.1 (List.mem_map.2 ⟨y, List.mem_of_getElem? hy, e.symm⟩)
   have hb : (z.1 == y.1) = false := by simpa using hne
   rw [hb, cond_false, ih j hy hnd.2]

section
variable {Xc : Nat → Prop} {w w1 w2 : World} {e : Nat} {ps : List PK} {vals0 vals : Array Value} {z0 d0 : D} {ds r : List D} {phL phR : Nat → Ph} {v0 : Value} {vs0 : Array Value}

/-- The objects at a later call. -/
theorem again_ob (hl : ds.length = ps.length) {i : Nat} {x : Obj} (hx : lookO (initOb 0 (.imm e :: ps) (d0 :: fillL 0 ps ds r)) i = some x) :
  ∃ j y, (lentL 0 (.imm e :: ps))[j]? = some y ∧ y.1 = i ∧ x = ⟨y.2.2.2, y.2.1, y.2.2.1, r.getD j .und⟩ ∧ retOb [] (.imm e :: ps) r j = some x ∧ (PK.imm e :: ps)[i]? = some (.lent y.2.1 y.2.2.1 y.2.2.2) := by
 rw [lookO_init, if_pos (Nat.zero_le _), Nat.sub_zero] at hx
 split at hx <;> try contradiction
 rename_i e' sh bx hp
 simp only [Option.some.injEq] at hx
 obtain ⟨j, hj⟩ := List.mem_iff_getElem?.1 (mem_lentL (.imm e :: ps) 0 i e' sh bx (Nat.zero_le _) (by rw [Nat.sub_zero]; exact hp))
 have hd : (d0 :: fillL 0 ps ds r).getD i .und = r.getD j .und := by
  cases i with
  | zero => simp at hp
  | succ i =>
   rw [List.getD_cons_succ]
   have := fillL_lent ps ds r 0 1 j _ hl (show (lentL 1 ps)[j]? = some (i + 1, e', sh, bx) from hj)
   simpa using this
 rw [hd] at hx
 refine ⟨j, _, hj, rfl, hx.symm, ?_, hp⟩
 rw [retOb_nil, hj, ← hx]
 rfl

/-- ARGUMENTS OF A LATER CALL: what is lent is what the call before left. -/
theorem args_again (hA : Args P A Xc w [] (.imm e :: ps) vals0 (z0 :: ds) phL) (hR : Ret P A Xc (lentY (.imm e :: ps) (z0 :: ds) phL) w w1 ⟨.imm e :: ps, [], []⟩ phL v0 r phR vs0)
  (hbx : ∀ p ∈ ps, ∀ e' sh bx, p = .lent e' sh bx → bx = true) (hsz : vals.size = vals0.size) (hvr : ∀ i, vals.getD (i + 1) undef = vals0.getD (i + 1) undef)
  (h0 : RepV P A (fun b => Xc b ∨ retF (.imm e :: ps) phR b) w1 e (vals.getD 0 undef) d0) :
  ∃ phL', Args P A Xc w1 [] (.imm e :: ps) vals (d0 :: fillL 0 ps ds r) phL' ∧ (∀ j y, (lentL 0 (.imm e :: ps))[j]? = some y → phL' y.1 = phR j) ∧
   (∀ b, lentY (.imm e :: ps) (d0 :: fillL 0 ps ds r) phL' b → retF (.imm e :: ps) phR b) := by
 have hl : ds.length = ps.length := by simpa using hA.dlen
 let phL' : Nat → Ph := fun i => phR ((lentL 0 (.imm e :: ps)).findIdx fun y => y.1 == i)
 have hph : ∀ j y, (lentL 0 (.imm e :: ps))[j]? = some y → phL' y.1 = phR j := fun j y hy => by
  simp only [phL']
  rw [lent_idx _ j y hy]
 have hF : ∀ i x b, lookO (initOb 0 (.imm e :: ps) (d0 :: fillL 0 ps ds r)) i = some x → b ∈ (phL' i).F → retF (.imm e :: ps) phR b := fun i x b hx hb => by
  obtain ⟨j, y, h1, h2, _⟩ := again_ob hl hx
  rw [← h2, hph j y h1] at hb
  exact ⟨j, y, h1, hb⟩
 have hob : ∀ j y, (lentL 0 (.imm e :: ps))[j]? = some y → retOb [] (.imm e :: ps) r j = some ⟨y.2.2.2, y.2.1, y.2.2.1, r.getD j .und⟩ := fun j y hy => by rw [retOb_nil, hy]; rfl
 have hX1 : ∀ b, Xof Xc (lookO (initOb 0 (.imm e :: ps) (d0 :: fillL 0 ps ds r))) phL' b → Xc b ∨ retF (.imm e :: ps) phR b := by
  rintro b (h | ⟨i, x, hx, hb⟩)
  ·exact .inl h
  ·exact .inr (hF i x b hx hb)
 have hXr : ∀ b, Xc b ∨ retF (.imm e :: ps) phR b → Xof Xc (retOb [] (.imm e :: ps) r) phR b := by
  rintro b (h | ⟨j, y, hy, hb⟩)
  ·exact .inl h
  ·exact .inr ⟨j, _, hob j y hy, hb⟩
 have hY : ∀ b, retF (.imm e :: ps) phR b → lentY (.imm e :: ps) (z0 :: ds) phL b ∨ w.heap.size ≤ b := fun b ⟨j, y, hy, hb⟩ => hR.objs.ours j _ (hob j y hy) b hb
 -- what is old and out of reach stays
 have hXw : ∀ b, b < w.heap.size → Xof Xc (lookO (initOb 0 (.imm e :: ps) (d0 :: fillL 0 ps ds r))) phL' b → Xof Xc (lookO (initOb 0 (.imm e :: ps) (z0 :: ds))) phL b := fun b hb h => by
  rcases hX1 b h with h | h
  ·exact .inl h
  ·rcases hY b h with ⟨i, x, hx, hm⟩ | h
   ·exact .inr ⟨i, x, hx, hm⟩
   ·omega
 have hkw : ∀ b, b < w.heap.size → ¬ Xof Xc (lookO (initOb 0 (.imm e :: ps) (z0 :: ds))) phL b → w1.heap[b]? = w.heap[b]? := fun b hb hn => hR.keeps.block b hb fun ⟨i, x, hx, hm⟩ => hn (.inr ⟨i, x, hx, hm⟩)
 refine ⟨phL', ⟨by rw [hsz]; exact hA.asize, by simp [fillL_len ps ds r 0 hl], ⟨fun i x hx => ?_, fun i x i' x' hx hx' hne b hb hb' => ?_, fun i x hx b hb => ?_, fun i x hx b hb => .inl ⟨i, x, hx, hb⟩, fun b hb => ?_⟩, fun i => ?_⟩, hph, fun b ⟨i, x, hx, hb⟩ => hF i x b hx hb⟩
 ·obtain ⟨j, y, h1, h2, _, h4, _⟩ := again_ob hl hx
  rw [← h2, hph j y h1]
  exact (hR.objs.ok j x h4).frame (Nat.le_refl _) (fun b _ h => hXr b (hX1 b h)) (fun _ _ _ => rfl) fun _ _ => rfl
 ·obtain ⟨j, y, h1, h2, _, h4, _⟩ := again_ob hl hx
  obtain ⟨j', y', h1', h2', _, h4', _⟩ := again_ob hl hx'
  rw [← h2, hph j y h1] at hb
  rw [← h2', hph j' y' h1'] at hb'
  refine hR.objs.apart j x j' x' h4 h4' (fun e => ?_) b hb hb'
  subst e
  rw [h1] at h1'
  injection h1' with h1'
  subst h1'
  exact hne (h2.symm.trans h2')
 ·obtain ⟨j, y, h1, h2, _, h4, _⟩ := again_ob hl hx
  rw [← h2, hph j y h1] at hb
  exact hR.objs.free j x h4 b hb
 ·have := hA.objs.old b hb
  have := hR.keeps.size
  omega
 ·have hs := hA.slots i
  rw [look_init, if_pos (Nat.zero_le _), Nat.sub_zero] at hs ⊢
  cases i with
  | zero =>
   simp only [List.getElem?_cons_zero, List.getD_cons_zero]
   exact h0.frame (Nat.le_refl _) (fun b _ h => hX1 b h) fun _ _ _ => rfl
  | succ i =>
   rw [hvr i]
   simp only [List.getElem?_cons_succ, List.getD_cons_succ] at hs ⊢
   have hob1 : ∀ p e' sh bx, ps[i]? = some p → p = .lent e' sh bx → ∃ j y, (lentL 0 (.imm e :: ps))[j]? = some y ∧ y = (i + 1, e', sh, bx) := fun p e' sh bx hp h => by
    subst h
    obtain ⟨j, hj⟩ := List.mem_iff_getElem?.1 (mem_lentL (.imm e :: ps) 0 (i + 1) e' sh bx (Nat.zero_le _) (by simpa using hp))
    exact ⟨j, _, hj, rfl⟩
   split at hs
   ·rename_i t hp
    rw [fillL_other ps ds r 0 i _ hl hp (by simp)]
    exact RepV.frame hR.keeps.size hXw hkw hs
   ·rename_i t hp
    rw [fillL_other ps ds r 0 i _ hl hp (by simp)]
    obtain ⟨b, off, cs, h1, h2, h3, h4, h5⟩ := hs
    refine ⟨b, off, cs, h1, fun h => h2 (hXw b h3 h), Nat.lt_of_lt_of_le h3 hR.keeps.size, fun k hk => ?_, h5.frame hR.keeps.size hXw hkw⟩
    rw [← h4 k hk]
    simp only [World.cell?, hkw b h3 h2]
   ·rename_i e' sh bx hp
    have hb1 := hbx _ (List.mem_of_getElem? hp) e' sh bx rfl
    subst hb1
    obtain ⟨j, y, hj, hy⟩ := hob1 _ _ _ _ hp rfl
    have hrb := (hR.lent j y hj).1
    simp only [List.length_nil, Nat.zero_add] at hrb
    have hpj := hph j y hj
    subst hy
    simp only at hpj hrb
    simp only [cond_true, isCel, List.any_nil, cond_false] at hs ⊢
    have hx0 : lookO (initOb 0 (.imm e :: ps) (z0 :: ds)) (i + 1) = some ⟨true, e', sh, (z0 :: ds).getD (i + 1) .und⟩ := by
     rw [lookO_init, if_pos (Nat.zero_le _), Nat.sub_zero, List.getElem?_cons_succ, hp]
    intro x hx
    obtain ⟨b, off, u, g1, g2, g3, g4⟩ := hs _ hx0
    have hxx : x.t = e' := by
     rw [lookO_init, if_pos (Nat.zero_le _), Nat.sub_zero, List.getElem?_cons_succ, hp] at hx
     injection hx with hx
     rw [← hx]
    refine ⟨b, off, u, g1, ?_, by rw [hxx]; exact g3, g4⟩
    rw [hxx]
    simp only [Lt.loc, Ph.root, hpj, hrb] at g2 ⊢
    exact g2
   ·trivial

/-- One call after the other. -/
theorem ret_trans {phL' phR' : Nat → Ph} {v' : Value} {r' : List D} {vs' : Array Value} {DS : List D} (hA : Args P A Xc w [] (.imm e :: ps) vals0 (z0 :: ds) phL) (hR : Ret P A Xc (lentY (.imm e :: ps) (z0 :: ds) phL) w w1 ⟨.imm e :: ps, [], []⟩ phL v0 r phR vs0)
  (hph : ∀ j y, (lentL 0 (.imm e :: ps))[j]? = some y → phL' y.1 = phR j) (hF : ∀ b, lentY (.imm e :: ps) DS phL' b → retF (.imm e :: ps) phR b)
  (hR' : Ret P A Xc (lentY (.imm e :: ps) DS phL') w1 w2 ⟨.imm e :: ps, [], []⟩ phL' v' r' phR' vs') :
  Ret P A Xc (lentY (.imm e :: ps) (z0 :: ds) phL) w w2 ⟨.imm e :: ps, [], []⟩ phL v' r' phR' vs' := by
 have hY : ∀ b, lentY (.imm e :: ps) DS phL' b → lentY (.imm e :: ps) (z0 :: ds) phL b ∨ w.heap.size ≤ b := fun b hb => by
  obtain ⟨j, y, hy, hm⟩ := hF b hb
  exact hR.objs.ours j _ (by rw [retOb_nil, hy]; rfl) b hm
 refine ⟨⟨hR'.objs.ok, hR'.objs.apart, hR'.objs.free, fun o x hx b hb => ?_, hA.objs.old⟩, hR.keeps.trans hR'.keeps (fun _ h => h) fun b hb h => ?_, hR'.size, hR'.val, hR'.res, fun j y hy => ?_⟩
 ·rcases hR'.objs.ours o x hx b hb with h | h
  ·exact hY b h
  ·have := hR.keeps.size; exact .inr (by omega)
 ·rcases hY b h with h | h
  ·exact h
  ·omega
 ·obtain ⟨h1, h2⟩ := hR'.lent j y hy
  obtain ⟨g1, g2⟩ := hR.lent j y hy
  simp only [List.length_nil, Nat.zero_add] at h1 h2 g1 g2 ⊢
  rw [hph j y hy] at h1 h2
  exact ⟨h1.trans g1, fun hb => (h2 hb).trans (g2 hb)⟩

/-- What is lent is let alone for a while. -/
theorem ret_ext (W : WF P) {N : Nat → Prop} (hR : Ret P A Xc (lentY (.imm e :: ps) (z0 :: ds) phL) w w1 ⟨.imm e :: ps, [], []⟩ phL v0 r phR vs0) (hk : Keeps N w1 w2) (hN : ∀ b, N b → w.heap.size ≤ b) (hd : ∀ b, retF (.imm e :: ps) phR b → ¬ N b)
  (hfl : ∀ p ∈ ps, ∀ e' sh bx, p = .lent e' sh bx → shFlat P 8 e' sh = true) :
  Ret P A Xc (lentY (.imm e :: ps) (z0 :: ds) phL) w w2 ⟨.imm e :: ps, [], []⟩ phL v0 r phR vs0 := by
 have hy : ∀ j x, retOb [] (.imm e :: ps) r j = some x → ∃ y, (lentL 0 (.imm e :: ps))[j]? = some y ∧ x = ⟨y.2.2.2, y.2.1, y.2.2.1, r.getD j .und⟩ := fun j x hx => by
  rw [retOb_nil] at hx
  obtain ⟨y, h1, h2⟩ := Option.map_eq_some_iff.1 hx
  exact ⟨y, h1, h2.symm⟩
 refine ⟨⟨fun o x hx => ?_, hR.objs.apart, hR.objs.free, hR.objs.ours, hR.objs.old⟩, hR.keeps.trans hk (fun _ h => h) fun b hb h => ?_, hR.size, hR.val, fun k x hx => by simp at hx, hR.lent⟩
 ·have h0 := hR.objs.ok o x hx
  obtain ⟨y, hy1, rfl⟩ := hy o x hx
  have hfl1 : shFlat P 8 y.2.1 y.2.2.1 = true := by
   obtain ⟨h1, h2⟩ := lentL_ge (.imm e :: ps) 0 y (List.mem_of_getElem? hy1)
   rw [Nat.sub_zero] at h2
   have hm := List.mem_of_getElem? h2
   rcases List.mem_cons.1 hm with hm | hm
   ·cases hm
   ·exact hfl _ hm _ _ _ rfl
  have hblk : ∀ b, b ∈ (phR o).F → w2.heap[b]? = w1.heap[b]? := fun b hb => hk.block b (h0.lt b hb) (hd b ⟨o, y, hy1, hb⟩)
  refine ⟨?_, fun hb => ?_, h0.hdr, h0.nodup, fun b hb => Nat.lt_of_lt_of_le (h0.lt b hb) hk.size⟩
  ·have hT : Own P A (fun _ => True) w1 (phR o).L y.2.2.1 y.2.1 (phR o).cs (r.getD o .und) := Own.flat W 8 hfl1 h0.own
   exact Own.flat W 8 hfl1 (hT.frame (X' := fun _ => True) hk.size (fun _ _ _ => trivial) (fun _ _ h => absurd trivial h) fun b hb => hblk b (by simp only [Ph.F, Ph.S, List.mem_append]; exact .inr (.inl hb)))
  ·obtain ⟨b, E, c, h1, h2, h3⟩ := h0.box hb
   exact ⟨b, E, c, h1, (hblk b (by simp [Ph.F, h1])).trans h2, h3⟩
 ·have := hN b h
  omega

/-- Before the first call. -/
theorem ret_refl (hA : Args P A Xc w [] (.imm e :: ps) vals0 (z0 :: ds) phL) :
  Ret P A Xc (lentY (.imm e :: ps) (z0 :: ds) phL) w w ⟨.imm e :: ps, [], []⟩ phL undef (lentDs ps ds) (fun j => phL (((lentL 0 (.imm e :: ps)).getD j (0, 0, .imm, false)).1)) #[] := by
 have hl : ds.length = ps.length := by simpa using hA.dlen
 have hph : ∀ (j : Nat) (y : Nat × Nat × Sh × Bool), (lentL 0 (.imm e :: ps))[j]? = some y → phL (((lentL 0 (.imm e :: ps)).getD j (0, 0, .imm, false)).1) = phL y.1 := fun j y hy => by
  rw [List.getD_eq_getElem?_getD, hy]
  rfl
 have key : ∀ j x, retOb [] (.imm e :: ps) (lentDs ps ds) j = some x → ∃ y, (lentL 0 (.imm e :: ps))[j]? = some y ∧ lookO (initOb 0 (.imm e :: ps) (z0 :: ds)) y.1 = some x := fun j x hx => by
  rw [retOb_nil] at hx
  obtain ⟨y, hy, rfl⟩ := Option.map_eq_some_iff.1 hx
  refine ⟨y, hy, ?_⟩
  obtain ⟨h1, h2⟩ := lentL_ge (.imm e :: ps) 0 y (List.mem_of_getElem? hy)
  rw [lookO_init, if_pos (Nat.zero_le _), h2]
  have := lentDs_get ps ds 1 j y hl (show (lentL 1 ps)[j]? = some y from hy)
  rw [this]
  have h3 : 1 ≤ y.1 := (lentL_ge ps 1 y (List.mem_of_getElem? (show (lentL 1 ps)[j]? = some y from hy))).1
  rw [Nat.sub_zero]
  obtain ⟨k, hk⟩ : ∃ k, y.1 = k + 1 := ⟨y.1 - 1, by omega⟩
  rw [hk, List.getD_cons_succ, Nat.add_sub_cancel]
 refine ⟨⟨fun o x hx => ?_, fun o x o' x' hx hx' hne b hb hb' => ?_, fun o x hx b hb => ?_, fun o x hx b hb => ?_, hA.objs.old⟩, Keeps.refl _ w, rfl, rfl, fun k x hx => by simp at hx, fun j y hy => ?_⟩
 ·obtain ⟨y, hy, hx1⟩ := key o x hx
  simp only [hph o y hy]
  refine (hA.objs.ok _ _ hx1).frame (Nat.le_refl _) ?_ (fun _ _ _ => rfl) fun _ _ => rfl
  rintro b _ (h | ⟨j, z, hz, hm⟩)
  ·exact .inl h
  ·obtain ⟨y', hy', hz1⟩ := key j z hz
   simp only [hph j y' hy'] at hm
   exact .inr ⟨_, z, hz1, hm⟩
 ·obtain ⟨y, hy, hx1⟩ := key o x hx
  obtain ⟨y', hy', hx1'⟩ := key o' x' hx'
  simp only [hph o y hy] at hb
  simp only [hph o' y' hy'] at hb'
  refine hA.objs.apart _ _ _ _ hx1 hx1' (fun e => hne ?_) b hb hb'
  have h1 := lent_idx _ o y hy
  have h2 := lent_idx _ o' y' hy'
  rw [← h1, ← h2, e]
 ·obtain ⟨y, hy, hx1⟩ := key o x hx
  simp only [hph o y hy] at hb
  exact hA.objs.free _ _ hx1 b hb
 ·obtain ⟨y, hy, hx1⟩ := key o x hx
  simp only [hph o y hy] at hb
  exact .inl ⟨_, x, hx1, hb⟩
 ·simp only [List.length_nil, Nat.zero_add, hph j y hy]
  exact ⟨trivial, fun _ => trivial⟩

theorem rep_i64 {X : Nat → Prop} {u : Nat} {cc : List Value} {x : D} (h : Rep P A X w u cc x) (hu : tk P u = .int .i64) : cc = [.int .i64 x.i] := by
 cases h <;> simp_all [D.i]
/-- Numbers of a slice that is only read. -/
theorem boxAt_of (W : WF P) {X : Nat → Prop} {t u : Nat} {v : Value} {d : D} (h : RepV P A X w t v d) (ht : tk P t = .slc u) (hu : tk P u = .int .i64) : BoxAt w v (d.xs.map D.i) := by
 obtain ⟨cs, hr, rfl⟩ := h
 cases hr with
 | @slcN _ _ p h1 => exact .inl ⟨p, by simp [mkV, ht, isAgg], rfl⟩
 | slc h1 hx hb hcap hcl hrow hel =>
  rename_i e b off cap xs css
  rw [ht] at h1
  injection h1 with h1
  subst h1
  refine .inr ⟨b, off, cap, by simp [mkV, ht, isAgg, D.xs], fun i hi => ?_⟩
  simp only [D.xs, List.length_map] at hi ⊢
  have h2 := rep_i64 (hel i hi) hu
  have h3 := hrow i hi
  have h4 := hcl i hi
  rw [h2] at h3 h4
  have h5 := h3 0 (by simp)
  simp only [List.length_cons, List.length_nil, Nat.zero_add] at h4
  rw [← h4, Nat.mul_one, Nat.add_zero] at h5
  rw [h5]
  simp [hi]
 | _ => simp_all

end

section
variable {X0 Y0 : Nat → Prop} {w0 : World} {g : St} {ph : Nat → Ph} {a : Act} {w : World} {o : Oper} {K : Dl → Prop}

/-- A CALL OF A FUNCTION THAT GOES THROUGH ALL COLUMNS. -/
theorem step_every (W : WF P) {H : Hnd} (hH : CallOk P A H.cal) (R : RelA P A X0 Y0 w0 g ph a w) {c : Call} {x : Operand} {h : Nat} (ho : o.op = .call c) (hc : c.callee = .value x) (hav : g.av x = .fn h) (hE : everyD P A H h (c.args.toList.map g.av) (lookO g.ob) K) :
  Does P o a w (Out P A X0 Y0 w0 g a K) := by
 have hx := AVR.eval R x
 rw [hav] at hx
 have hx' : a.eval x = .func (.func h) #[] #[] := hx
 unfold everyD at hE
 split at hE <;> try contradiction
 rename_i t d f l hal
 split at hE <;> try contradiction
 rename_i e ps u hps hrs htk
 split at hE <;> try contradiction
 rename_i ds bs os u' har hu he
 obtain ⟨hg, hev, hxs, hlen, hvis⟩ := of_cond hE
 clear hE
 simp only [Bool.and_eq_true, List.isEmpty_iff] at hg
 obtain ⟨hu', hn, hap, hna, hcel, hbx⟩ := hg
 have hsig : A.sig f = ⟨.imm e :: ps, [], []⟩ := by
  cases hs : A.sig f with
  | mk p r cc => rw [hs] at hps hrs hcel; simp only at hps hrs hcel; rw [hps, hrs, hcel]
 rw [hsig] at hna
 have hbx' : ∀ p ∈ ps, ∀ e' sh bx, p = .lent e' sh bx → bx = true := fun p hp e' sh bx h1 => by
  have := List.all_eq_true.1 hbx p hp
  subst h1
  exact this
 have hfl : ∀ p ∈ ps, ∀ e' sh bx, p = .lent e' sh bx → shFlat P 8 e' sh = true := fun p hp e' sh bx h1 => by
  have h2 := hna
  simp only [noAlias, Bool.and_eq_true, List.all_eq_true] at h2
  have := h2.2 p (List.mem_cons_of_mem _ hp)
  subst h1
  exact this
 have hiu' : tk P u' = .int .i64 := by
  unfold isI at hu'
  split at hu' <;> try contradiction
  assumption
 have hargs : c.args.size = 2 := by
  have := congrArg List.length hal
  simpa using this
 have h0 : AVR P A (Xof X0 (lookO g.ob) ph) w (lookO g.ob) ph (.imm t d) ((c.args.map a.eval).getD 0 undef) := map_eval R 0 _ (by rw [hal]; rfl)
 have h1 : AVR P A (Xof X0 (lookO g.ob) ph) w (lookO g.ob) ph (.clo f l) ((c.args.map a.eval).getD 1 undef) := map_eval R 1 _ (by rw [hal]; rfl)
 have hvals : c.args.map a.eval = #[(c.args.map a.eval).getD 0 undef, (c.args.map a.eval).getD 1 undef] := by
  apply Array.ext
  ·simp [hargs]
  ·intro i hi hi'
   have hi2 : i < 2 := by simpa [hargs] using hi
   have : i = 0 ∨ i = 1 := by omega
   rcases this with rfl | rfl <;> simp [Array.getD_eq_getD_getElem?, hargs]
 generalize hv0 : (c.args.map a.eval).getD 0 undef = bv at h0 hvals
 generalize hv1 : (c.args.map a.eval).getD 1 undef = cv at h1 hvals
 obtain ⟨cvs, rfl, hcs, hcl⟩ := h1
 have h0 : RepV P A (Xof X0 (lookO g.ob) ph) w t bv d := h0
 -- the first call's arguments
 have har' : argsD P A (lookO g.ob) [] 0 (.imm e :: ps) (.imm e (.slc []) :: l) = some (.slc [] :: ds, bs, os) := by
  have : argD P A (lookO g.ob) (.imm e) (.imm e (.slc [])) = some (.slc [], [], []) := by simp [argD, capD, St.data, sameK, cond_eq, beq_iff]
  simp only [argsD, isCel, List.any_nil, cond_false, this, har, List.nil_append]
 obtain ⟨phL, hA, hosl, hbs, hos, hY⟩ := args_of W R.objs R.keeps.size (cs := []) (vals := #[.slice none 0 0] ++ cvs) har' (by simp [hcs]; omega) (fun i b hb => by
  cases i with
  | zero =>
   simp only [List.getElem?_cons_zero, Option.some.injEq] at hb
   subst hb
   refine ⟨[.slice none 0 0], .slcN he, ?_⟩
   simp [mkV, he, isAgg, Array.getD_eq_getD_getElem?, Array.getElem?_append]
  | succ i =>
   simp only [List.getElem?_cons_succ] at hb
   have : (#[Value.slice none 0 0] ++ cvs).getD (i + 1) undef = cvs.getD i undef := by
    simp [Array.getD_eq_getD_getElem?, Array.getElem?_append]
   rw [this]
   exact (hcl i b hb).all) hn hap
 let Y := lentY (.imm e :: ps) (.slc [] :: ds) phL
 let Xc := Xcal X0 (lookO g.ob) ph bs os
 let J : (Nat → Prop) → List D → World → Prop := fun N r w1 => ∃ phR, Ret P A Xc Y w w1 ⟨.imm e :: ps, [], []⟩ phL undef r phR #[] ∧ (∀ b, N b → w.heap.size ≤ b ∧ b < w1.heap.size) ∧ ∀ b, retF (.imm e :: ps) phR b → ¬ N b
 have hYX : ∀ b, Y b → Xof X0 (lookO g.ob) ph b := fun b hb => by
  obtain ⟨o, ho, x, hx, hm⟩ := hY b hb
  exact .inr ⟨o, x, hx, hm⟩
 have hcalls := hev.2 (List D) J f cvs bv (d.xs.map D.i) _ (fun N r w1 hJ => ?_) (fun N N' r w1 w2 hJ hk hN' => ?_) (fun N r w1 b pre Q hNb hb hJ hcell hleaf => ?_) (fun x hx => ?_) (by simpa using hlen) (lentDs ps ds) w _ ⟨_, ret_refl hA, fun b hb => hb.elim, fun _ _ h => h⟩ hvis
 ·intro next Q hnext
  unfold Oper.wp
  obtain ⟨fn, hf, hb⟩ := hev.1
  have hex := run_callV (w := w) W ho hc hx' hf hb
  rw [Array.append_empty, hvals] at hex
  rw [hex]
  refine Calls.mono hcalls fun e' w' he' => ?_
  obtain ⟨N, r, rfl, hK, phR, hR, _⟩ := he'
  refine hnext _ w' ?_
  have hm := merge (v := .und) (val := undef) (base := 0) (fz := []) W R (by rw [hna]; rfl) hn hap hosl hbs hos hY hR fun _ _ _ _ _ => rfl
  simp only [resVs, List.nil_append, List.length_nil, overs, List.map_nil, wks, List.append_nil] at hm
  exact ⟨_, hK, hm⟩
 ·obtain ⟨phR, hR, _⟩ := hJ
  exact boxAt_of W (h0.frame hR.keeps.size (fun _ _ h => h) fun b hb hn => hR.keeps.block b hb fun h => hn (hYX b h)) htk hu
 ·obtain ⟨phR, hR, hN, hd⟩ := hJ
  refine ⟨phR, ret_ext W hR hk (fun b hb => (hN b hb).1) hd hfl, fun b hb => ?_, fun b hb hb' => ?_⟩
  ·obtain ⟨h1, h2⟩ := hN' b hb
   rcases h1 with h1 | h1
   ·exact ⟨(hN b h1).1, h2⟩
   ·have := hR.keeps.size
    exact ⟨by omega, h2⟩
  ·rcases (hN' b hb').1 with h1 | h1
   ·exact hd b hb h1
   ·obtain ⟨j, y, hy, hm⟩ := hb
    have := (hR.objs.ok j _ (by rw [retOb_nil, hy]; rfl)).lt b hm
    omega
 ·obtain ⟨phR, hR, hN, hd⟩ := hJ
  have hc1 : P.cellsOf u' = 1 := W.one u' (by rw [hiu']; rfl) (by rw [hiu']; simp)
  obtain ⟨phL', hA', hph, hF⟩ := args_again hA hR (vals := #[.slice (some ⟨b, 0, none⟩) pre.length pre.length] ++ cvs) (d0 := .slc (pre.map .int)) hbx' (by simp) (fun i => by simp [Array.getD_eq_getD_getElem?, Array.getElem?_append]) (by
   refine ⟨[.slice (some ⟨b, 0, none⟩) (pre.map D.int).length pre.length], .slc (css := fun i => [.int .i64 (pre.getD i 0)]) he ?_ hb (by simp) (fun i _ => by simp [hc1]) (fun i hi => ?_) (fun i hi => ?_), ?_⟩
   ·rintro (h | h)
    ·have := hA.objs.old b h
     have := (hN b hNb).1
     omega
    ·exact hd b h hNb
   ·intro k hk
    have : k = 0 := by simp at hk; omega
    subst this
    rw [hc1, Nat.mul_one, Nat.zero_add, Nat.add_zero, hcell i (by simpa using hi)]
    rfl
   ·have hi' : i < pre.length := by simpa using hi
    have : (pre.map D.int).getD i .und = .int (pre.getD i 0) := by simp [hi']
    rw [this]
    exact .int hiu'
   ·simp [mkV, he, isAgg, Array.getD_eq_getD_getElem?, Array.getElem?_append])
  obtain ⟨⟨fn, hf, hb2, _⟩, hC⟩ := hH f _ _ hleaf
  rw [hsig] at hC
  refine ⟨⟨fn, hf, hb2⟩, Calls.mono (hC Xc w1 _ phL' hA') fun e' w2 he' => ?_⟩
  obtain ⟨v, r', phR', vs, rfl, hQ, hR'⟩ := he'
  have hvs : vs = #[] := Array.eq_empty_of_size_eq_zero hR'.size
  have hv : v = undef := by
   rw [hR'.val, dif_neg (by rw [hvs]; simp), hvs]
   rfl
  subst hvs hv
  refine ⟨r', rfl, hQ, ⟨phR', ret_trans hA hR hph hF hR', fun b hb => ⟨(hN b hb).1, Nat.lt_of_lt_of_le (hN b hb).2 hR'.keeps.size⟩, fun b hb hb' => ?_⟩, hR'.keeps.mono fun b hb => hd b (hF b hb)⟩
  obtain ⟨j, y, hy, hm⟩ := hb
  rcases hR'.objs.ours j _ (by rw [retOb_nil, hy]; rfl) b hm with h | h
  ·exact hd b (hF b h) hb'
  ·have := (hN b hb').2
   omega
 ·obtain ⟨y, hy, rfl⟩ := List.mem_map.1 hx
  exact hxs y hy
end
end Go.Ab

/- A part of an owned slice; a method with its value. -/
namespace Go.Ab
variable {P : Program} {A : Ann}

/-- What is left of an owned slice of plain values. -/
theorem Own.cut {X : Nat → Prop} {w : World} {L : Lt} {t e : Nat} {cs : List Value} {d : D} (hk : tk P t = .slc e) (h : Own P A X w L (.slc .imm none) t cs d) :
  ∃ (ad : Option Addr) (cap : Nat), cs = [.slice ad d.xs.length cap] ∧ d.xs.length ≤ cap ∧ ∀ l u, l ≤ u → u ≤ d.xs.length → ∃ L' : Lt, (∀ b, b ∈ L'.blocks ↔ b ∈ L.blocks) ∧ L'.blocks.Nodup ∧
   ∀ X' : Nat → Prop, (∀ b, b < w.heap.size → X' b → X b) → Own P A X' w L' (.slc .imm none) t [.slice (if cap = l then ad else ad.map (·.add (l * P.cellsOf e))) (u - l) (cap - l)] (.slc ((d.xs.take u).drop l)) := by
 cases h with
 | nil h1 =>
  refine ⟨none, 0, rfl, Nat.le_refl _, fun l u h2 h3 => ⟨.nil, fun b => Iff.rfl, by simp [Lt.blocks], fun X' hX => ?_⟩⟩
  simp only [D.xs, List.length_nil, Nat.le_zero] at h3
  subst h3
  have h4 : l = 0 := by omega
  subst h4
  simpa [D.xs] using Own.nil (X := X') (w := w) (s := .imm) h1
 | slc h1 hb h2 h3 h4 h5 =>
  rename_i e' b off cap E c kids xs
  rw [hk] at h1
  injection h1 with h1
  subst h1
  have hleaf : ∀ i, i < xs.length → kids.getD i .leaf = .leaf ∧ Rep P A X w e (seg c.toList (off + i * P.cellsOf e) (P.cellsOf e)) (xs.getD i .und) := fun i hi => by
   have h6 := h5 i hi
   generalize kids.getD i .leaf = L0 at h6
   simp only [elS] at h6
   cases h6 with
   | imm h => exact ⟨rfl, h⟩
  have hkids : blocksL kids = [] := by
   refine List.eq_nil_iff_forall_not_mem.2 fun z hz => ?_
   obtain ⟨i, hi, hz⟩ := mem_blocksL.1 hz
   rw [(hleaf i (by omega)).1] at hz
   simp [Lt.blocks] at hz
  refine ⟨_, cap, rfl, h3, fun l u g1 g2 => ?_⟩
  simp only [D.xs] at g2 ⊢
  have hrep : blocksL (List.replicate (u - l) Lt.leaf) = [] := by
   refine List.eq_nil_iff_forall_not_mem.2 fun z hz => ?_
   obtain ⟨i, hi, hz⟩ := mem_blocksL.1 hz
   simp only [List.length_replicate] at hi
   simp [hi, Lt.blocks] at hz
  have hlen : ((xs.take u).drop l).length = u - l := by simp; omega
  refine ⟨.slc b (if cap = l then off else off + l * P.cellsOf e) (cap - l) (List.replicate (u - l) .leaf), fun z => by simp only [Lt.blocks, hkids, hrep], by simp [Lt.blocks, hrep], fun X' hX => ?_⟩
  have key := Own.slc (P := P) (A := A) (X := X') (w := w) (t := t) (e := e) (s := .imm) (ex := none) (b := b) (off := if cap = l then off else off + l * P.cellsOf e) (cap := cap - l) (c := c) (kids := List.replicate (u - l) .leaf) (xs := (xs.take u).drop l) hk hb (by simp; omega) (by omega) (by
   split
   ·rename_i h; rw [h, Nat.sub_self, Nat.zero_mul]; have := h4; omega
   ·have : l * P.cellsOf e + (cap - l) * P.cellsOf e = cap * P.cellsOf e := by rw [← Nat.add_mul]; congr 1; omega
    omega) (fun i hi => by
   rw [hlen] at hi
   have hne : ¬ cap = l := by omega
   rw [if_neg hne]
   have e1 : (List.replicate (u - l) Lt.leaf).getD i .leaf = .leaf := by simp [hi]
   rw [e1]
   simp only [elS]
   have h6 := (hleaf (l + i) (by omega)).2
   have e2 : ((xs.take u).drop l).getD i D.und = xs.getD (l + i) .und := by
    simp only [List.getD_eq_getElem?_getD, List.getElem?_drop]
    rw [List.getElem?_take_of_lt (by omega)]
   rw [e2]
   have e3 : off + l * P.cellsOf e + i * P.cellsOf e = off + (l + i) * P.cellsOf e := by rw [Nat.add_mul]; omega
   rw [e3]
   exact .imm (h6.anti hX))
  rw [hlen] at key
  have e4 : (if cap = l then some (⟨b, off, none⟩ : Addr) else (some (⟨b, off, none⟩ : Addr)).map (·.add (l * P.cellsOf e))) = some ⟨b, if cap = l then off else off + l * P.cellsOf e, none⟩ := by
   split
   ·rfl
   ·simp [addr_add]
  rw [e4]
  exact key

section
variable {X0 Y0 : Nat → Prop} {w0 : World} {g : St} {ph : Nat → Ph} {a : Act} {w : World} {o : Oper} {K : Dl → Prop}

theorem step_mv (W : WF P) {f : Nat} {first caps : Array Operand} (ho : o.op = .makeFunc (.func f) first caps) (R : RelA P A X0 Y0 w0 g ph a w)
  (h : mvD P A f (first.toList.map g.av) (caps.toList.map g.av) o.type (onV K)) : Does P o a w (Out P A X0 Y0 w0 g a K) := by
 unfold mvD at h
 split at h <;> try contradiction
 rename_i u d e1 e2
 split at h <;> try contradiction
 rename_i e ps hps ht
 obtain ⟨hk, h⟩ := of_cond h
 have hc : caps = #[] := by simpa using e2
 subst hc
 obtain ⟨x, hx⟩ : ∃ x, first = #[x] := by
  have hl := congrArg List.length e1
  simp only [List.length_map, Array.length_toList, List.length_singleton] at hl
  exact Array.size_eq_one_iff.1 hl
 subst hx
 simp only [List.map_cons, List.map_nil, List.cons.injEq, and_true] at e1
 have hv := AVR.eval R x
 rw [e1] at hv
 obtain ⟨cs, hr, hcs⟩ : RepV P A (Xof X0 (lookO g.ob) ph) w u (a.eval x) d := hv
 refine Does.value (v := .func (.func f) #[a.eval x] #[]) (w' := w) (by simp [execOp, ho, Instr.makeFunc]) (Out.pure R h ?_)
 have hr' := hr.kind W.kind (sameK_eq hk).symm
 refine ⟨_, .mval ht hps hr', ?_⟩
 rw [mkV_one (by rw [ht]; rfl), hcs, mkV_kind (sameK_eq hk)]

theorem bounds_run {lo hi : Option Operand} {l u : Option Int} {n cap lN uN : Nat} {dl : Int} (hl1 : ∀ y, lo = some y → ∃ k m, a.eval y = .int k m ∧ l = some m) (hl2 : lo = none → l = none) (hu1 : ∀ y, hi = some y → ∃ k m, a.eval y = .int k m ∧ u = some m) (hu2 : hi = none → u = none)
  (hD : dl = n) (hlN : l.getD 0 = lN) (huN : u.getD dl = uN) (h1 : (lN : Int) ≤ uN) (h2 : (uN : Int) ≤ n) (hcap : n ≤ cap) :
  (Instr.sliceBounds true n cap (lo.map a.eval) (hi.map a.eval) none).run P w = .ok (lN, uN, cap) w := by
 have hh : (match hi.map a.eval with | some v => Instr.sliceBound v cap .sliceAcap | none => pure n : Sem Nat).run P w = .ok uN w := by
  cases hi with
  | none => rw [hu2 rfl] at huN; simp only [Option.getD_none, hD, Int.natCast_inj] at huN; simp [huN]
  | some z =>
   obtain ⟨k, m, e2, rfl⟩ := hu1 z rfl
   simp only [Option.getD_some] at huN
   subst huN
   simp only [Option.map_some, Instr.sliceBound, e2, asIntOf, Sem.run_bind, Sem.run_pure, Result.andThen_ok]
   rw [if_pos (by omega)]
   simp
 have hl' : (match lo.map a.eval with | some v => Instr.sliceBound v uN .sliceB | none => pure 0 : Sem Nat).run P w = .ok lN w := by
  cases lo with
  | none => rw [hl2 rfl] at hlN; simp only [Option.getD_none] at hlN; simp; omega
  | some z =>
   obtain ⟨k, m, e2, rfl⟩ := hl1 z rfl
   simp only [Option.getD_some] at hlN
   subst hlN
   simp only [Option.map_some, Instr.sliceBound, e2, asIntOf, Sem.run_bind, Sem.run_pure, Result.andThen_ok]
   rw [if_pos (by omega)]
   simp
 clear hl1 hl2 hu1 hu2 hD hlN huN h1 h2 hcap
 unfold Instr.sliceBounds
 cases hi <;> cases lo <;> simp_all

theorem step_cut {t : Nat} {x : Operand} {lo hi : Option Operand} (W : WF P) (ho : o.op = .slice t x lo hi none) (R : RelA P A X0 Y0 w0 g ph a w) (hcut : isCut (lookO g.ob) (g.av x) = true)
  (h : bothI P g.av lo fun l => bothI P g.av hi fun h => cutD P (lookO g.ob) t (g.av x) l h K) : Does P o a w (Out P A X0 Y0 w0 g a K) := by
 have both : ∀ {z : Option Operand} {F : Option Int → Prop}, bothI P g.av z F → ∃ n, F n ∧ (∀ y, z = some y → ∃ k m, a.eval y = .int k m ∧ n = some m) ∧ (z = none → n = none) := by
  intro z F hF
  cases z with
  | none => exact ⟨none, hF, by simp, by simp⟩
  | some y =>
   simp only [bothI] at hF
   split at hF <;> try contradiction
   rename_i n hn
   obtain ⟨k, hk⟩ := intOf_eval W R hn
   exact ⟨_, hF, fun y' e => by injection e with e; subst e; exact ⟨k, n, hk, rfl⟩, by simp⟩
 obtain ⟨l, h, hl1, hl2⟩ := both h
 obtain ⟨u, h, hu1, hu2⟩ := both h
 unfold cutD at h
 split at h <;> try contradiction
 rename_i k u' hav
 obtain ⟨hkk, h⟩ := of_cond h
 split at h <;> try contradiction
 rename_i x0 e hx0 hk
 obtain ⟨⟨h0, h1, h2⟩, hK⟩ := h
 have hsh : x0.sh = .slc .imm none ∧ x0.box = false := by
  unfold isCut at hcut
  rw [hav] at hcut
  simp only [hx0] at hcut
  split at hcut <;> try contradiction
  rename_i hs
  exact ⟨hs, by simpa using hcut⟩
 obtain ⟨hsh, hbx⟩ := hsh
 have hO := R.objs.ok k x0 hx0
 have hx := AVR.eval R x
 rw [hav] at hx
 obtain ⟨_, hku, hval⟩ := val_root hO hx0 hx
 have hkt : tk P x0.t = .slc e := hku.trans ((sameK_eq hkk).symm.trans hk)
 have hne := W.elem _ _ hk
 have hown := hO.own
 rw [hsh] at hown
 obtain ⟨ad, cap, hcs, hcap, hall⟩ := hown.cut hkt
 have e1 : a.eval x = .slice ad x0.d.xs.length cap := by rw [hval, hcs, mkV_one (by rw [hkt]; rfl)]
 have hD : x0.d.len = x0.d.xs.length := rfl
 obtain ⟨uN, huN⟩ : ∃ n : Nat, u.getD x0.d.len = n := ⟨(u.getD x0.d.len).toNat, by omega⟩
 obtain ⟨lN, hlN⟩ : ∃ n : Nat, l.getD 0 = n := ⟨(l.getD 0).toNat, by omega⟩
 rw [huN, hlN] at hK h1
 rw [hlN] at h0
 rw [huN, hD] at h2
 simp only [Int.toNat_natCast] at hK
 have hsb := bounds_run (w := w) (P := P) (a := a) hl1 hl2 hu1 hu2 hD hlN huN h1 h2 hcap
 obtain ⟨L', hB, hN, hnew⟩ := hall lN uN (by omega) (by omega)
 let nv : Value := .slice (if cap = lN then ad else ad.map (·.add (lN * P.cellsOf e))) (uN - lN) (cap - lN)
 let p' : Ph := ⟨[nv], none, L', (ph k).G⟩
 let x1 : Obj := { x0 with d := .slc ((x0.d.xs.take uN).drop lN) }
 let ob' := upO [(k, some x1)] (lookO g.ob)
 have hobk : ob' k = some x1 := by simp only [ob']; rw [upO_new, if_pos rfl]
 have hobs : ∀ c, c ≠ k → ob' c = lookO g.ob c := fun c hc => by
  simp only [ob']
  rw [upO_new, if_neg hc]
  rfl
 have hk' : upPh ph k p' k = p' := by simp [upPh]
 have hrb := hO.hdr hbx
 have hF : ∀ b, b ∈ p'.F ↔ b ∈ (ph k).F := fun b => by
  simp only [p', Ph.F, Ph.S, hrb, Option.toList, List.nil_append, List.mem_append, hB]
 have hnod : p'.F.Nodup := by
  have := hO.nodup
  simp only [Ph.F, Ph.S, hrb, Option.toList, List.nil_append, List.nodup_append] at this
  simp only [p', Ph.F, Ph.S, Option.toList, List.nil_append, List.nodup_append]
  exact ⟨hN, this.2.1, fun x hx y hy => this.2.2 x ((hB x).1 hx) y hy⟩
 have hs1 : x1.sh = .slc .imm none := hsh
 refine Does.value (v := nv) (w' := w) ?_ ⟨_, hK, RelD.upd (D := fun c => c = k) (ph' := upPh ph k p') R (Keeps.refl _ w) (fun c hc => ⟨hobs c hc, by simp [upPh, hc]⟩) (fun c z hd hz b hb => ?_) (fun c z c' z' hd hd' _ _ hcc => absurd (hd.trans hd'.symm) hcc) (fun hX c z hd hz => ?_) (fun hX s => ?_) fun hX => ?_⟩
 ·simp only [execOp, ho, Instr.sliceAt, Instr.slice, Sem.run_bind, run_underlying (und_slc hk), Result.andThen_ok, e1, Option.map_none, hsb, run_sizeOf hne, Sem.run_pure, nv]
 ·subst hd
  rw [hk'] at hb
  exact .inr ⟨_, x0, rfl, hx0, (hF b).1 hb⟩
 ·subst hd
  have hz' : ob' c = some z := hz
  rw [hobk] at hz'
  injection hz' with hz'
  subst hz'
  rw [hk']
  refine ⟨?_, (fun hb => by have hb : x0.box = true := hb; rw [hbx] at hb; cases hb), fun _ => rfl, hnod, fun b hb => hO.lt b ((hF b).1 hb)⟩
  have h9 := hnew _ hX
  rw [← hsh] at h9
  exact h9
 ·refine AVR.stays (Nat.le_refl _) hX (fun b hb hn => rfl) (by simp [KM.isApp]) (fun c z hz => ?_) (fun c z z' hz hz' hna hnc _ b hb hh => ?_) (R.slots s)
  ·by_cases hc : c = k
   ·subst hc; exact .all (by simp)
   ·exact .same (hobs c hc) (by simp [upPh, hc]) fun b hb => rfl
  ·have hc : c ≠ k := fun e => hna (by subst e; simp)
   refine ⟨hX b hb hh.1, ?_⟩
   have h2 := hh.2
   simp only [upPh, if_neg hc] at h2
   exact h2
 ·intro z hz
  have hz' : ob' k = some z := hz
  rw [hobk] at hz'
  injection hz' with hz'
  subst hz'
  refine ⟨(fun e => by rw [hs1] at e; cases e), fun _ => ⟨x0.t, rfl, hkt.trans hk.symm, .inr ⟨rfl, by rw [hk'], ?_⟩⟩⟩
  rw [hk']
  show nv = mkV P x0.t [nv]
  rw [mkV_one (by rw [hkt]; rfl)]
end
end Go.Ab

/- Every operation. -/
namespace Go.Ab
variable {P : Program} {A : Ann}

section
variable {X0 Y0 : Nat → Prop} {w0 : World} {g : St} {ph : Nat → Ph} {a : Act} {w : World} {o : Oper} {K : Dl → Prop}

theorem of_emptyOr {α : Type _} {l : List α} {b : Bool} (h : (l.isEmpty || b) = true) : l = [] ∨ b = true := by
 rcases Bool.or_eq_true_iff.1 h with h | h
 ·exact .inl (List.isEmpty_iff.1 h)
 ·exact .inr h

theorem step_call (W : WF P) {H : Hnd} (hH : HndOk P A H) (R : RelA P A X0 Y0 w0 g ph a w) {f : Nat} {c : Call} (hop : o.op = .call c) (h : stepD P A H f o g.av (lookO g.ob) K) : Does P o a w (Out P A X0 Y0 w0 g a K) := by
 unfold stepD at h
 rw [hop] at h
 simp only at h
 split at h <;> try contradiction
 ·rename_i x name hc
  split at h <;> try contradiction
  rename_i t d hav
  split at h <;> try contradiction
  rename_i ds bs os har
  obtain ⟨hb, h⟩ := of_cond h
  exact step_call_inv W hH R hop hc hav har (of_emptyOr hb) h
 ·rename_i hc
  split at h <;> try contradiction
  rename_i t x ht hx
  exact step_len W hop hc ht hx R h
 ·rename_i hc
  split at h <;> try contradiction
  rename_i dst t u x y hd ht hx
  obtain ⟨htu, h⟩ := of_cond h
  exact step_append W hop hc ht hx htu R h
 ·rename_i hc
  exact step_minmax (mx := false) W hop hc R h
 ·rename_i hc
  exact step_minmax (mx := true) W hop hc R h
 ·rename_i x hc
  split at h <;> try contradiction
  ·rename_i f' hav
   rw [cond_eq] at h
   split at h
   ·exact step_prim W R hop hc hav h
   ·rw [cond_eq] at h
    split at h
    ·exact step_part W hH.cal R hop hc hav h
    ·rw [cond_eq] at h
     split at h
     ·exact step_every W hH.cal R hop hc hav h
     ·exact step_call_fn W hH.cal R hop hc hav h
  ·rename_i f' l hav
   exact step_call_clo W hH.cal R hop hc hav h
  ·rename_i t d hav
   split at h <;> try contradiction
   rename_i ds bs os har
   obtain ⟨hb, h⟩ := of_cond h
   exact step_call_dyn W hH R hop hc hav har (of_emptyOr hb) h

theorem takeV_flat {ob : Nat → Option Obj} {t : Nat} {av : AV} {r : Option Sh × D × Objs} (h : takeV P ob t av = some r) : av.flatA = true := by
 cases av <;> first | rfl | simp [takeV] at h

/-- A box for what is lent. -/
theorem step_boxD {f t dst : Nat} {x : Operand} {C : Prop} (W : WF P) (ho : o.op = .box t x) (R : RelA P A X0 Y0 w0 g ph a w) (h : boxD P A f dst t (g.av x) (lookO g.ob) K C) (hC : C → Does P o a w (Out P A X0 Y0 w0 g a K)) :
  Does P o a w (Out P A X0 Y0 w0 g a K) := by
 unfold boxD at h
 split at h
 ·rename_i k u hav
  rw [cond_eq] at h
  split at h
  ·obtain ⟨hk, h⟩ := of_cond h
   split at h <;> try contradiction
   rename_i z hz
   split at h <;> try contradiction
   rename_i l hsh
   obtain ⟨hbx, h⟩ := of_cond' h
   have hx := AVR.eval R x
   rw [hav] at hx
   have hx : AVR1v P A (Xof X0 (lookO g.ob) ph) w (lookO g.ob) ph k [] u (a.eval x) := hx
   have hO := R.objs.ok k z hz
   have hni : z.sh ≠ .it := by rw [hsh]; simp
   obtain ⟨u', g1, g2, g3⟩ := (hx z hz).2 hni
   simp only [tyAt, Option.some.injEq] at g1
   subst g1
   have hown := hO.own
   have hv : a.eval x = mkV P z.t (ph k).cs := by
    rcases g3 with g3 | ⟨_, _, g3⟩
    ·exfalso
     rw [hsh] at hown
     simp only [Lt.sub] at g3
     generalize (ph k).L = L at hown g3
     generalize z.d = dd at hown
     generalize (ph k).cs = cc at hown
     cases hown with
     | agg => simp [Lt.hv] at g3
    ·exact g3
   have htz : tk P t = tk P z.t := (sameK_eq hk).trans g2.symm
   have hc' : (mkV P z.t (ph k).cs).cells = (ph k).cs.toArray := by rw [← Array.toList_inj, own_cells hown (by rw [hsh]; simp)]
   have hlen := hown.length W
   have hne : tk P t ≠ .other := by
    rw [htz]
    rw [hsh] at hown
    generalize z.d = dd at hown
    generalize (ph k).L = L at hown
    generalize (ph k).cs = cc at hown
    cases hown with
    | agg h => rw [h]; simp
   refine Does.value (v := .pointer (some ⟨w.heap.size, 0, none⟩)) (w' := addRow w (ph k).cs.toArray t) ?_ ⟨_, h, ?_⟩
   ·simp [execOp, ho, Instr.box, newVar, newRow, hv, hc', addRow]
   ·have hkp := addRow_keeps w (ph k).cs.toArray t
    refine RelD.upd (D := fun _ => False) (ph' := ph) R (hkp.mono fun _ h => h.elim) (fun c _ => ⟨rfl, rfl⟩) (fun c y hd => hd.elim) (fun c y c' y' hd => hd.elim) (fun _ c y hd => hd.elim) (fun hX s => ?_) (fun hX => ?_)
    ·exact AVR.stays (ks := []) (ph := ph) (ph' := ph) hkp.size hX (fun b hb _ => hkp.block b hb id) (by simp) (fun q y hy => .same rfl rfl fun b hb => hkp.block b ((R.objs.ok q y hy).lt b hb) id) (fun q y y' hy hy' _ _ _ b hb hm => ⟨hX b hb hm.1, hm.2⟩) (R.slots s)
    ·refine ⟨w.heap.size, 0, (ph k).cs, rfl, fun hX' => ?_, by rw [addRow_size]; omega, fun i hi => ?_, by rw [hlen]; exact (W.kind _ _ htz hne).symm, fun y hy => ?_⟩
     ·rcases hX' with h | ⟨c, y, hy, hm⟩
      ·have := R.objs.old _ h
       have := R.keeps.size
       omega
      ·have := (R.objs.ok c y hy).lt _ hm
       omega
     ·rw [Nat.zero_add, cell_of_block (addRow_here w _ _), List.getElem?_toArray]
     ·rw [show upO [] (lookO g.ob) k = lookO g.ob k from rfl, hz] at hy
      injection hy with hy
      subst hy
      exact ⟨fun e => absurd e hni, fun _ => ⟨z.t, rfl, htz.symm, .inr ⟨rfl, hO.hdr hbx, mkV_kind htz⟩⟩⟩
  ·exact hC h
 ·rename_i k u hav
  split at h
  ·rename_i e hte
   rw [cond_eq] at h
   split at h
   ·split at h
    ·rename_i z hz
     have hx := AVR.eval R x
     rw [hav] at hx
     have hx : AVR1p P (lookO g.ob) ph k [] u (a.eval x) := hx
     obtain ⟨b, off, u', e1, _⟩ := hx z hz
     have hkp := addRow_keeps w #[a.eval x] t
     refine Does.value (v := .pointer (some ⟨w.heap.size, 0, none⟩)) (w' := addRow w #[a.eval x] t) (by simp [execOp, ho, Instr.box, newVar, newRow, e1, Value.cells, addRow]) ⟨_, h, ?_⟩
     refine RelD.upd (D := fun _ => False) (ph' := ph) R (hkp.mono fun _ h => h.elim) (fun c _ => ⟨rfl, rfl⟩) (fun c y hd => hd.elim) (fun c y c' y' hd => hd.elim) (fun _ c y hd => hd.elim) (fun hX s => ?_) (fun hX => ?_)
     ·exact AVR.stays (ks := []) (ph := ph) (ph' := ph) hkp.size hX (fun b hb _ => hkp.block b hb id) (by simp) (fun q y hy => .same rfl rfl fun b hb => hkp.block b ((R.objs.ok q y hy).lt b hb) id) (fun q y y' hy hy' _ _ _ b hb hm => ⟨hX b hb hm.1, hm.2⟩) (R.slots s)
     ·refine ⟨w.heap.size, 0, a.eval x, rfl, fun hX' => ?_, by rw [addRow_size]; omega, fun i hi => ?_, hx⟩
      ·rcases hX' with h | ⟨c, y, hy, hm⟩
       ·have := R.objs.old _ h
        have := R.keeps.size
        omega
       ·have := (R.objs.ok c y hy).lt _ hm
        omega
      ·have : i = 0 := by simp at hi; omega
       subst this
       rw [Nat.zero_add, cell_of_block (addRow_here w _ _)]
       rfl
    ·exact hC h
   ·exact hC h
  ·exact hC h
 ·exact hC h

/-- ONE OPERATION, BY ITS RULE. -/
theorem step_all (W : WF P) {H : Hnd} (hH : HndOk P A H) (R : RelA P A X0 Y0 w0 g ph a w) {f : Nat} (h : stepD P A H f o g.av (lookO g.ob) K) : Does P o a w (Out P A X0 Y0 w0 g a K) := by
 cases hop : o.op with
 | call c => exact step_call W hH R hop h
 | move x =>
  unfold stepD at h
  rw [hop] at h
  simp only at h
  split at h
  ·exact h.elim
  ·exact step_move (.inl hop) R h
 | assign x =>
  unfold stepD at h
  rw [hop] at h
  simp only at h
  split at h
  ·exact h.elim
  ·exact step_move (.inr hop) R h
 | pick c x y => unfold stepD at h; rw [hop] at h; exact step_pick W hop R h
 | alloc t =>
  unfold stepD at h
  rw [hop] at h
  simp only at h
  split at h <;> try contradiction
  obtain ⟨hg, h⟩ := of_cond h
  exact step_alloc W hop R hg h
 | box t x =>
  unfold stepD at h
  rw [hop] at h
  simp only at h
  split at h <;> try contradiction
  ·rename_i dst sv d os hd ht
   exact step_boxD W hop R h fun h => step_box W hop R ht (takeV_flat ht) h
  ·exact step_boxD W hop R h fun h => h.elim
 | load t x => unfold stepD at h; rw [hop] at h; exact step_load W hop R h
 | store t x y => unfold stepD at h; rw [hop] at h; exact step_store W hop R h
 | nilCheck x => unfold stepD at h; rw [hop] at h; exact step_nilCheck hop R h
 | binOp op tx x y ty => unfold stepD at h; rw [hop] at h; exact step_binOp W hop R h
 | unOp op t x => unfold stepD at h; rw [hop] at h; exact step_unOp W hop R h
 | index t x i => unfold stepD at h; rw [hop] at h; exact step_index W hop R h
 | lookup t m k b =>
  cases b with
  | false => unfold stepD at h; rw [hop] at h; exact step_lookup W hop R h
  | true => unfold stepD at h; rw [hop] at h; exact (show False from h).elim
 | convert s d x => unfold stepD at h; rw [hop] at h; exact step_convert W hop R h
 | fieldAddr s x j => unfold stepD at h; rw [hop] at h; exact step_fieldAddr W hop R h
 | indexAddr t x i => unfold stepD at h; rw [hop] at h; exact step_indexAddr W hop R h
 | build t parts =>
  unfold stepD at h
  rw [hop] at h
  simp only at h
  split at h <;> try contradiction
  cases hk : tk P t with
  | struct fs => exact step_build_struct W hop R hk h
  | arr n e => exact step_build_arr W hop R hk h
  | _ => unfold buildD at h; rw [hk] at h; exact (show False from h).elim
 | buildSlice t n parts =>
  unfold stepD at h
  rw [hop] at h
  simp only at h
  split at h <;> try contradiction
  cases hk : tk P t with
  | slc e => exact step_buildSlice W hop R hk h
  | _ => unfold buildSliceD at h; rw [hk] at h; exact (show False from h).elim
 | makeSlice t x y =>
  unfold stepD at h
  rw [hop] at h
  simp only at h
  split at h <;> try contradiction
  rename_i dst l c hd hl hc
  exact step_makeSlice W hop R hl hc h
 | slice t x lo hi mx =>
  cases mx with
  | none =>
   unfold stepD at h
   rw [hop] at h
   simp only at h
   cases hcut : isCut (lookO g.ob) (g.av x) with
   | true => simp only [hcut, cond_true] at h; exact step_cut W hop R hcut h
   | false => simp only [hcut, cond_false] at h; exact step_slice W hop R h
  | some m => unfold stepD at h; rw [hop] at h; exact (show False from h).elim
 | makeFunc fn first caps =>
  cases fn with
  | func f' =>
   unfold stepD at h
   rw [hop] at h
   simp only at h
   rw [cond_eq] at h
   split at h
   ·rename_i h0
    obtain ⟨hg, h⟩ := of_cond h
    simp only [List.all_eq_true] at hg
    exact step_makeFunc hop h0 R hg h
   ·exact step_mv W hop R h
  | _ => unfold stepD at h; rw [hop] at h; exact (show False from h).elim
 | makeMap t m =>
  cases m with
  | some m => unfold stepD at h; rw [hop] at h; exact (show False from h).elim
  | none =>
   unfold stepD at h
   rw [hop] at h
   simp only at h
   split at h <;> try contradiction
   rename_i dst k e hd hk
   exact step_makeMap hop R hk h
 | range t x =>
  unfold stepD at h
  rw [hop] at h
  simp only at h
  split at h <;> try contradiction
  rename_i dst k e m u hd hk hav
  obtain ⟨htu, h⟩ := of_cond h
  split at h <;> try contradiction
  rename_i ob hob
  split at h <;> try contradiction
  rename_i hsh
  obtain ⟨hmd, h⟩ := of_cond' h
  exact step_range hop R hk hav htu hob hsh (fun e => by rw [beq_iff.2 e] at hmd; cases hmd) h
 | next x b =>
  cases b with
  | true => unfold stepD at h; rw [hop] at h; exact (show False from h).elim
  | false =>
   unfold stepD at h
   rw [hop] at h
   simp only at h
   split at h <;> try contradiction
   rename_i q m t hav
   split at h <;> try contradiction
   rename_i kt et ob om hk hq hm
   split at h <;> try contradiction
   rename_i hsh
   obtain ⟨hB, h⟩ := of_cond h
   exact step_next W hop R hav hk hq hm hsh hB h.1 h.2
 | entry x =>
  unfold stepD at h
  rw [hop] at h
  simp only at h
  split at h <;> try contradiction
  rename_i q m t hav
  split at h <;> try contradiction
  rename_i kt et ob om hk hq hm
  split at h <;> try contradiction
  rename_i d0 k v hsh hd
  exact step_entry W hop R hav hk hq hm hsh hd h
 | mapUpdate t x y z =>
  unfold stepD at h
  rw [hop] at h
  simp only [mapStoreD] at h
  split at h <;> try contradiction
  rename_i kt et hk
  obtain ⟨hkey, h⟩ := of_cond h
  split at h <;> try contradiction
  rename_i m u kd sv vd os hav hdk htv
  obtain ⟨hg, h⟩ := of_cond h
  simp only [Bool.and_eq_true] at hg
  split at h <;> try contradiction
  rename_i ob hob
  split at h <;> try contradiction
  rename_i hsh
  obtain ⟨hany, h⟩ := of_cond' h
  exact step_mapUpdate W hop R hk hkey hav hdk htv hg.1 (fun s e => by have := hg.2; rw [e] at this; exact this) hob hsh hany h
 | makeInterface t x => unfold stepD at h; rw [hop] at h; exact step_makeInterface W hop R h
 | typeAssert x xt t ok =>
  cases ok with
  | true => unfold stepD at h; rw [hop] at h; exact step_typeAssert W hop R h
  | false => unfold stepD at h; rw [hop] at h; exact (show False from h).elim
 | extract x i =>
  unfold stepD at h
  rw [hop] at h
  simp only at h
  split at h <;> try contradiction
  rename_i l hav
  exact step_extract hop R hav h
 | _ => unfold stepD at h; rw [hop] at h; exact (show False from h).elim

end
end Go.Ab

/- Regions, code, functions. -/
namespace Go.Ab
variable {P : Program} {A : Ann}

/-- What stays true of an activation: its size, no deferred calls, and where lent memory lies. -/
structure Act' (N : Nat) (ids : List Nat) (av : Nat → Value) (a : Act) : Prop where
 size : N ≤ a.tmps.size
 defers : a.defers = []
 lent : ∀ k ∈ ids, a.tmps.getD k undef = av k

theorem Act'.put {N : Nat} {ids : List Nat} {av : Nat → Value} {a : Act} (h : Act' N ids av a) {d : Option Nat} {v : Value} (hd : ∀ k, d = some k → k ∉ ids) : Act' N ids av (a.put d v) := by
 cases d with
 | none => exact h
 | some d =>
  refine ⟨by simp only [Act.put, Array.size_setIfInBounds]; exact h.size, h.defers, fun k hk => ?_⟩
  have hne : k ≠ d := fun e => hd d rfl (by subst e; exact hk)
  rw [put_other hne]
  exact h.lent k hk

theorem exists_min {p : Nat → Prop} (h : ∃ n, p n) : ∃ n, p n ∧ ∀ m, p m → n ≤ m := by
 obtain ⟨n, hn⟩ := h
 induction n using Nat.strongRecOn with
 | _ n ih =>
  by_cases hm : ∃ m, m < n ∧ p m
  ·obtain ⟨m, h1, h2⟩ := hm
   exact ih m h1 h2
  ·exact ⟨n, hn, fun m hp => Nat.le_of_not_lt fun hl => hm ⟨m, hl, hp⟩⟩

section
variable {X0 Y0 : Nat → Prop} {w0 : World} {f N : Nat} {av0 : Nat → Value} {H : Hnd}

/-- A state stands for an activation in a world. -/
def Stands (P : Program) (A : Ann) (X0 Y0 : Nat → Prop) (w0 : World) (f : Nat) (av0 : Nat → Value) (g : St) (a : Act) (w : World) : Prop :=
 (∃ ph, RelA P A X0 Y0 w0 g ph a w) ∧ Act' (ntm P f) (lentIds 0 (A.sig f).ps) av0 a

theorem dstOk_spec {d : Option Nat} (h : dstOk P A f d = true) : ∀ k, d = some k → k < ntm P f ∧ k ∉ lentIds 0 (A.sig f).ps := by
 rintro k rfl
 simp only [dstOk, Bool.and_eq_true, Nat.blt_eq, Bool.not_eq_true', List.any_eq_false, beq_iff] at h
 exact ⟨h.1, fun hm => h.2 k hm rfl⟩

theorem Stands.app {g : St} {a : Act} {w' : World} {δ : Dl} {v : Value} {dst : Option Nat} (S : Act' (ntm P f) (lentIds 0 (A.sig f).ps) av0 a) (hd : dstOk P A f dst = true) (h : RelD P A X0 Y0 w0 (look g.sl) (lookO g.ob) a.tmps δ v w') : Stands P A X0 Y0 w0 f av0 (g.app dst δ) (a.put dst v) w' := by
 have h2 := dstOk_spec hd
 exact ⟨h.app fun d e => Nat.lt_of_lt_of_le (h2 d e).1 S.size, S.put fun k e => (h2 k e).2⟩

theorem Stands.und {g : St} {a : Act} {w : World} {dst : Option Nat} (S : Stands P A X0 Y0 w0 f av0 g a w) (hd : dstOk P A f dst = true) : Stands P A X0 Y0 w0 f av0 (g.app dst { v := .und }) (a.put dst undef) w := by
 obtain ⟨⟨ph, R⟩, hA⟩ := S
 exact Stands.app hA hd (RelD.pure R rfl)

theorem step_rel (W : WF P) (hH : HndOk P A H) {g : St} {a : Act} {w : World} {o : Oper} {K : St → Prop} (S : Stands P A X0 Y0 w0 f av0 g a w) (h : g.step P A H f o K) (next : Act → World → Prop) (Q : Exit → Act → World → Prop) (hn : ∀ g' a' w', Stands P A X0 Y0 w0 f av0 g' a' w' → K g' → next a' w') : o.wp P a w next Q := by
 obtain ⟨⟨ph, R⟩, hA⟩ := S
 unfold St.step at h
 obtain ⟨hd, h⟩ := of_cond h
 refine step_all W hH R h next Q fun v w' hv => ?_
 obtain ⟨δ, hK, hD⟩ := hv
 exact hn _ _ _ (Stands.app hA hd hD) hK

theorem yielded_eq {ops : Array Oper} {a : Act} {j s : Nat} (h : (ops[j]?).bind (·.dst) = some s) : yielded ops a.tmps j = match a.tmps.getD s undef with
  | .bool b => some b
  | _ => none := by
 unfold yielded
 rw [h, Option.bind_some, Array.getD_eq_getD_getElem?]
 cases a.tmps[s]? with
 | none => rfl
 | some v => cases v <;> rfl

/-- One operation of a region, under its guard. -/
theorem guard_rel (W : WF P) (hH : HndOk P A H) {ops : Array Oper} {g : St} {a : Act} {w : World} {o : Oper} {K : St → Prop} (S : Stands P A X0 Y0 w0 f av0 g a w) (h : g.guard P A H f ops o K) (next : Act → World → Prop) (Q : Exit → Act → World → Prop)
  (hn : ∀ g' a' w', Stands P A X0 Y0 w0 f av0 g' a' w' → K g' → next a' w') : if Region.wanted o (yielded ops a.tmps) then o.wp P a w next Q else next (a.put o.dst undef) w := by
 unfold St.guard at h
 split at h
 ·rename_i hg
  rw [if_pos (by simp [Region.wanted, hg])]
  exact step_rel W hH S h next Q hn
 ·rename_i j want hg
  split at h <;> try contradiction
  rename_i s hs
  split at h <;> try contradiction
  ·rename_i t d hl
   obtain ⟨hB, h⟩ := of_cond h
   obtain ⟨⟨ph, R⟩, hA⟩ := S
   obtain ⟨b, hb, hdb, R'⟩ := know_rel R hl (isB_eq hB)
   have S' : Stands P A X0 Y0 w0 f av0 (g.know s b) a w := ⟨⟨ph, R'⟩, hA⟩
   have hy : yielded ops a.tmps j = some b := by rw [yielded_eq hs, hb]
   have hw : Region.wanted o (yielded ops a.tmps) = (b == want) := by
    simp only [Region.wanted, hg, hy]
    cases b <;> cases want <;> rfl
   rw [hw]
   rw [hdb] at h
   cases b <;> cases want <;> simp only [cond_true, cond_false] at h
   ·rw [if_pos (by decide)]; exact step_rel W hH S' h next Q hn
   ·rw [if_neg (by decide)]
    obtain ⟨hd, h⟩ := of_cond h
    exact hn _ _ _ (S'.und hd) h
   ·rw [if_neg (by decide)]
    obtain ⟨hd, h⟩ := of_cond h
    exact hn _ _ _ (S'.und hd) h
   ·rw [if_pos (by decide)]; exact step_rel W hH S' h next Q hn
  ·rename_i hl
   obtain ⟨hd, h⟩ := of_cond h
   obtain ⟨⟨ph, R⟩, hA⟩ := id S
   have hv : a.tmps.getD s undef = undef := by
    have := R.slots s
    rw [hl] at this
    exact this
   have hy : yielded ops a.tmps j = none := by rw [yielded_eq hs, hv]; rfl
   rw [if_neg (by simp [Region.wanted, hg, hy])]
   exact hn _ _ _ (S.und hd) h

/-- Operations by their numbers. -/
def wpI (P : Program) (A : Ann) (H : Hnd) (f : Nat) (ops : Array Oper) : List Nat → St → (St → Prop) → Prop
 | [], g, K => K g
 | i :: is, g, K => match ops[i]? with
  | none => wpI P A H f ops is g K
  | some o => g.guard P A H f ops o fun g' => wpI P A H f ops is g' K

theorem wpI_wpL {ops : Array Oper} {K : St → Prop} : ∀ (is : List Nat) (g : St), wpI P A H f ops is g K = wpL P A H f ops (is.filterMap fun i => ops[i]?) g K
 | [], g => rfl
 | i :: is, g => by
  simp only [wpI, List.filterMap_cons]
  cases h : ops[i]? with
  | none => exact wpI_wpL is g
  | some o =>
   simp only [wpL]
   congr 1
   funext g'
   exact wpI_wpL is g'

theorem range_ops (ops : Array Oper) : ((List.range ops.size).filterMap fun i => ops[i]?) = ops.toList := by
 apply List.ext_getElem?
 intro i
 have : ∀ (l : List Oper), ((List.range l.length).filterMap fun i => l[i]?) = l := by
  intro l
  induction l with
  | nil => rfl
  | cons x l ih =>
   rw [List.length_cons, List.range_succ_eq_map, List.filterMap_cons]
   simp only [List.getElem?_cons_zero, List.filterMap_map]
   congr 1
 have h := this ops.toList
 simp only [Array.length_toList, Array.getElem?_toList] at h
 rw [h]

theorem wpI_rel (W : WF P) (hH : HndOk P A H) {ops : Array Oper} {K : St → Prop} {Q : Exit → Act → World → Prop} (hQ : ∀ g' a' w', Stands P A X0 Y0 w0 f av0 g' a' w' → K g' → Q .normal a' w') : ∀ (is : List Nat) (g : St) (a : Act) (w : World), Stands P A X0 Y0 w0 f av0 g a w → wpI P A H f ops is g K → wpOps P ops Q is a w
 | [], g, a, w, S, h => hQ g a w S h
 | i :: is, g, a, w, S, h => by
  simp only [wpI] at h
  simp only [wpOps]
  cases ho : ops[i]? with
  | none =>
   rw [ho] at h
   exact wpI_rel W hH hQ is g a w S h
  | some o =>
   rw [ho] at h
   simp only at h ⊢
   have := guard_rel W hH S h (wpOps P ops Q is) Q fun g' a' w' S' h' => wpI_rel W hH hQ is g' a' w' S' h'
   split at this
   ·rename_i hw; rw [if_pos hw]; exact .inl this
   ·rename_i hw; rw [if_neg hw]; exact this

def Ex.exit : Ex → Exit
 | .nrm => .normal
 | .ext i => .exit i
 | .ret => .ret

theorem Stands.run (W : WF P) {g : St} {a : Act} {w : World} {K : St → Prop} {l : List Cmd} (S : Stands P A X0 Y0 w0 f av0 g a w) (h : g.run P l K) : ∃ g', Stands P A X0 Y0 w0 f av0 g' a w ∧ K g' := by
 obtain ⟨⟨ph, R⟩, hA⟩ := S
 obtain ⟨g', ph', R', h'⟩ := run_rel W l g ph R h
 exact ⟨g', ⟨⟨ph', R'⟩, hA⟩, h'⟩

theorem Stands.keep {g : St} {a : Act} {w : World} (S : Stands P A X0 Y0 w0 f av0 g a w) (l : List Nat × List Nat) : Stands P A X0 Y0 w0 f av0 (g.keep l) a w := by
 obtain ⟨⟨ph, R⟩, hA⟩ := S
 exact ⟨⟨ph, keep_rel R l⟩, hA⟩

/-- Regions whose order is drawn, by the rule: what is asked of the rule. -/
def DrawOk (P : Program) (A : Ann) (H : Hnd) : Prop := ∀ (f : Nat) (ops : Array Oper) (g : St) (K : St → Prop), fwdOk ops = true → wpD P A H f ops (List.range ops.size) [] g K →
 ∀ (X0 Y0 : Nat → Prop) (w0 : World) (av0 : Nat → Value) (a : Act) (w : World) (Q : Exit → Act → World → Prop) (id : Nat), Stands P A X0 Y0 w0 f av0 g a w → (∀ g' a' w', Stands P A X0 Y0 w0 f av0 g' a' w' → K g' → Q .normal a' w') → (Code.region id ops true).wp P Q a w

theorem code_rel (W : WF P) (hH : HndOk P A H) (hDr : DrawOk P A H) {n : Nat} : ∀ (c : Code) (g : St) (K : Ex → St → Prop) (a : Act) (w : World) (Q : Exit → Act → World → Prop), Stands P A X0 Y0 w0 f av0 g a w → wpC P A H f n c g K → (∀ e g' a' w', K e g' → Stands P A X0 Y0 w0 f av0 g' a' w' → Q e.exit a' w') → c.wp P Q a w
 | .skip, g, K, a, w, Q, S, h, hQ => wp_skip (hQ .nrm g a w h S)
 | .ret, g, K, a, w, Q, S, h, hQ => wp_ret (hQ .ret g a w h S)
 | .exit i, g, K, a, w, Q, S, h, hQ => wp_exit (hQ (.ext i) g a w h S)
 | .region id ops draw, g, K, a, w, Q, S, h, hQ => by
  simp only [wpC] at h
  obtain ⟨g1, S1, h1⟩ := S.run W h
  cases draw with
  | false =>
   refine wp_region (wpI_rel W hH (fun g' a' w' S' hK => hQ .nrm g' a' w' hK S') (List.range ops.size) g1 a w S1 ?_)
   rw [wpI_wpL, range_ops]
   exact h1
  | true => exact hDr f ops g1 (K .nrm) (of_cond h1).1 (of_cond h1).2 X0 Y0 w0 av0 a w Q id S1 fun g' a' w' S' hK => hQ .nrm g' a' w' hK S'
 | .seq x y, g, K, a, w, Q, S, h, hQ => by
  simp only [wpC] at h
  refine wp_seq (code_rel W hH hDr x g _ a w _ S h fun e g' a' w' hk S' => ?_)
  cases e with
  | nrm => exact code_rel W hH hDr y g' K a' w' Q S' hk hQ
  | ext i => exact hQ (.ext i) g' a' w' hk S'
  | ret => exact hQ .ret g' a' w' hk S'
 | .cond c x y, g, K, a, w, Q, S, h, hQ => by
  simp only [wpC] at h
  split at h <;> try contradiction
  ·rename_i t d hav
   split at h <;> try contradiction
   rename_i s
   obtain ⟨hB, h⟩ := of_cond h
   obtain ⟨⟨ph, R⟩, hA⟩ := S
   obtain ⟨b, hb, hdb, R'⟩ := know_rel R hav (isB_eq hB)
   have S' : Stands P A X0 Y0 w0 f av0 (g.know s b) a w := ⟨⟨ph, R'⟩, hA⟩
   rw [hdb] at h
   refine wp_cond (t := b) hb ?_
   cases b
   ·exact code_rel W hH hDr y _ K a w Q S' h hQ
   ·exact code_rel W hH hDr x _ K a w Q S' h hQ
  ·rename_i v hav
   have hev : a.eval c = .bool v := by
    obtain ⟨⟨ph, R⟩, hA⟩ := S
    have := AVR.eval R c
    rw [hav] at this
    exact this
   refine wp_cond (t := v) hev ?_
   cases v
   ·exact code_rel W hH hDr y _ K a w Q S h hQ
   ·exact code_rel W hH hDr x _ K a w Q S h hQ
 | .block id c, g, K, a, w, Q, S, h, hQ => by
  simp only [wpC] at h
  refine wp_block (code_rel W hH hDr c g _ a w _ S h fun e g' a' w' hk S' => ?_)
  cases e with
  | nrm => exact hQ .nrm g' a' w' hk S'
  | ret => exact hQ .ret g' a' w' hk S'
  | ext i =>
   simp only [kBlock, cond_eq, beq_iff] at hk
   simp only [Ex.exit, Exit.inBlock]
   split at hk
   ·rename_i e; rw [if_pos e]; exact hQ .nrm g' a' w' hk S'
   ·rename_i e; rw [if_neg e]; exact hQ (.ext i) g' a' w' hk S'
 | .loop c, g, K, a, w, Q, S, h, hQ => by
  simp only [wpC] at h
  let nm := nmK P (A.loop f (firstRegion c))
  let I : Act → World → Nat → Prop := fun a w m => ∃ g, Stands P A X0 Y0 w0 f av0 g a w ∧ loopK (wpC P A H f n c) nm m g K
  have hnm : ∀ (g : St) (a : Act) (w : World) (m : Nat), Stands P A X0 Y0 w0 f av0 g a w → nm g (fun g => loopK (wpC P A H f n c) nm m g K) → I a w m := fun g a w m S h => by
   obtain ⟨g1, S1, h1⟩ := S.run W h
   exact ⟨_, S1.keep _, h1⟩
  classical
  refine wp_loop (fun a w => ∃ m, I a w m) (fun a w => if h : ∃ m, I a w m then (exists_min h).choose else 0) ⟨n, hnm g a w n S h⟩ fun a w hI => ?_
  rw [dif_pos hI]
  obtain ⟨g1, S1, h1⟩ := (exists_min hI).choose_spec.1
  generalize hm0 : (exists_min hI).choose = m0 at h1
  cases m0 with
  | zero => exact h1.elim
  | succ m =>
   simp only [loopK] at h1
   refine code_rel W hH hDr c g1 _ a w _ S1 h1 fun e g' a' w' hk S' => ?_
   cases e with
   | nrm =>
    have hI' := hnm g' a' w' m S' hk
    have hex : ∃ m, I a' w' m := ⟨m, hI'⟩
    refine ⟨hex, ?_⟩
    rw [dif_pos hex]
    exact Nat.lt_succ_of_le ((exists_min hex).choose_spec.2 m hI')
   | ext i => exact hQ (.ext i) g' a' w' hk S'
   | ret => exact hQ .ret g' a' w' hk S'
 | .label _, g, K, a, w, Q, S, h, hQ => h.elim
 | .goto _, g, K, a, w, Q, S, h, hQ => h.elim
 | .scope _, g, K, a, w, Q, S, h, hQ => h.elim
 | .refuse _, g, K, a, w, Q, S, h, hQ => h.elim
 | .rangeFunc .., g, K, a, w, Q, S, h, hQ => h.elim

end
end Go.Ab

/- Functions. -/
namespace Go.Ab
variable {P : Program} {A : Ann}

theorem mem_lentIds {ps : List PK} {k : Nat} (h : k ∈ lentIds 0 ps) : k < ps.length := by
 rw [← lentL_ids] at h
 obtain ⟨y, hy, rfl⟩ := List.mem_map.1 h
 have := (lentL_ge ps 0 y hy).2
 rw [Nat.sub_zero] at this
 exact (List.getElem?_eq_some_iff.1 this).1

/-- A FUNCTION DOES WHAT ITS RULE SAYS. -/
theorem fun_ok (W : WF P) {n f : Nat} (hDr : DrawOk P A (hnd P A n)) {fn : Func} (hH : HndOk P A (hnd P A n)) (hf : P.funcs[f]? = some fn) {ds : List D} {Q : List D → Prop} (h : wpB P A (hnd P A n) n f fn ds Q) :
  fn.body.isSome = true ∧ ∀ (X0 : Nat → Prop) (w : World) (args : Array Value) (phL : Nat → Ph), Args P A X0 w (A.sig f).cel (A.sig f).ps args ds phL →
   Calls P f args w fun e w' => ∃ v r phR vs, e = .returned v ∧ Q r ∧ Ret P A X0 (lentY (A.sig f).ps ds phL) w w' (A.sig f) phL v r phR vs := by
 unfold wpB at h
 split at h <;> try contradiction
 rename_i c hb
 obtain ⟨_, h⟩ := of_cond h
 refine ⟨by rw [hb]; rfl, fun X0 w args phL hA => calls_of_wp hf hb ?_⟩
 have hgd : ∀ s, s < args.size → (args ++ Array.replicate (fn.ntmps - args.size) undef).getD s undef = args.getD s undef := fun s hs => by
  simp only [Array.getD_eq_getD_getElem?]
  rw [Array.getElem?_append_left hs]
 have hslot : ∀ s, AVR P A (Xof X0 (lookO (initOb 0 (A.sig f).ps ds)) phL) w (lookO (initOb 0 (A.sig f).ps ds)) phL (look (initSl (A.sig f).cel 0 (A.sig f).ps ds) s) ((args ++ Array.replicate (fn.ntmps - args.size) undef).getD s undef) := fun s => by
  by_cases hs : s < args.size
  ·rw [hgd s hs]; exact hA.slots s
  ·rw [look_init, if_pos (Nat.zero_le _), Nat.sub_zero, List.getElem?_eq_none (by have := hA.asize; omega)]
   trivial
 have S : Stands P A X0 (lentY (A.sig f).ps ds phL) w f (fun k => args.getD k undef) { sl := initSl (A.sig f).cel 0 (A.sig f).ps ds, ob := initOb 0 (A.sig f).ps ds } { tmps := args ++ Array.replicate (fn.ntmps - args.size) undef, defers := [] } w := by
  refine ⟨⟨phL, ⟨hA.objs, hslot, Keeps.refl _ w⟩⟩, ?_, rfl, fun k hk => hgd k (by rw [hA.asize]; exact mem_lentIds hk)⟩
  simp only [ntm, hf, Option.map_some, Option.getD_some, Array.size_append, Array.size_replicate]
  omega
 refine code_rel W hH hDr c _ _ _ _ _ S h fun e g' a' w' hk S' => ?_
 obtain ⟨⟨ph, R⟩, hA'⟩ := S'
 have fin : (match outR P g' fn.results.toList (A.sig f).rs, outL g' (A.sig f).cel 0 (A.sig f).ps with
   | some (r, ids), some l => cond (nodupB (ids ++ lentIds 0 (A.sig f).ps)) (Q (r ++ l)) False
   | _, _ => False) → a'.defers = [] ∧ ∃ v, (results fn a'.tmps).run P w' = .ok v w' ∧ ∃ v1 r phR vs, Ending.returned v = .returned v1 ∧ Q r ∧ Ret P A X0 (lentY (A.sig f).ps ds phL) w w' (A.sig f) phL v1 r phR vs := fun h => by
  have hT : ∀ y ∈ lentL 0 (A.sig f).ps, LentAt P (fun _ => False) w' (isCel (A.sig f).cel y.1) y (a'.tmps.getD y.1 undef) (phL y.1) := fun y hy => by
   have hid : y.1 ∈ lentIds 0 (A.sig f).ps := by rw [← lentL_ids]; exact List.mem_map_of_mem hy
   rw [hA'.lent y.1 hid]
   have hs := hA.slots y.1
   obtain ⟨_, hp⟩ := lentL_ge _ 0 y hy
   rw [Nat.sub_zero] at hp
   rw [look_init, if_pos (Nat.zero_le _), Nat.sub_zero, hp] at hs
   have hob : lookO (initOb 0 (A.sig f).ps ds) y.1 = some ⟨y.2.2.2, y.2.1, y.2.2.1, ds.getD y.1 .und⟩ := by
    rw [lookO_init, if_pos (Nat.zero_le _), Nat.sub_zero, hp]
   refine ⟨fun hbx hcel => ?_, fun hbx hcel => ?_, fun hbx => ?_⟩
   ·rw [hbx] at hs
    simp only [hcel, cond_true, cond_false] at hs
    have hs : AVR P A (Xof X0 (lookO (initOb 0 (A.sig f).ps ds)) phL) w (lookO (initOb 0 (A.sig f).ps ds)) phL (.ptr y.1 [] y.2.1) (args.getD y.1 undef) := hs
    obtain ⟨b, off, u, e1, e2, _, _⟩ := hs _ hob
    simp only [Lt.loc] at e2
    unfold Ph.root at e2
    cases hr : (phL y.1).rb with
    | none => rw [hr] at e2; cases e2
    | some b2 =>
     rw [hr] at e2
     simp only [Option.map_some, Option.some.injEq, Prod.mk.injEq] at e2
     exact ⟨b, by rw [e1, ← e2.2], by rw [e2.1]⟩
   ·rw [hbx] at hs
    simp only [hcel, cond_true] at hs
    have hs : AVR P A (Xof X0 (lookO (initOb 0 (A.sig f).ps ds)) phL) w (lookO (initOb 0 (A.sig f).ps ds)) phL (.celp y.1 y.2.1) (args.getD y.1 undef) := hs
    obtain ⟨q, off, u1, e1, e2, e3, e4, e5⟩ := hs
    obtain ⟨b, off2, u, g1, g2, _, _⟩ := e5 _ hob
    subst g1
    simp only [Lt.loc] at g2
    unfold Ph.root at g2
    have hq : ¬ lentY (A.sig f).ps ds phL q := fun ⟨o, x, hx, hm⟩ => e2 (.inr ⟨o, x, hx, hm⟩)
    cases hr : (phL y.1).rb with
    | none => rw [hr] at g2; cases g2
    | some b2 =>
     rw [hr] at g2
     simp only [Option.map_some, Option.some.injEq, Prod.mk.injEq] at g2
     obtain ⟨rfl, rfl⟩ := g2
     exact ⟨q, off, b2, e1, fun h => h, Nat.lt_of_lt_of_le e3 R.keeps.size, Row.keeps R.keeps hq e4, rfl⟩
   ·rw [hbx] at hs
    have hs : AVR P A (Xof X0 (lookO (initOb 0 (A.sig f).ps ds)) phL) w (lookO (initOb 0 (A.sig f).ps ds)) phL (.val y.1 [] y.2.1) (args.getD y.1 undef) := hs
    have hO := hA.objs.ok _ _ hob
    obtain ⟨s1, s2⟩ := hs _ hob
    refine ⟨?_, hO.hdr hbx⟩
    by_cases hit : y.2.2.1 = .it
    ·obtain ⟨m, hm, _⟩ := s1 hit
     cases hm
    ·obtain ⟨u', _, _, s3⟩ := s2 hit
     rcases s3 with s3 | ⟨_, _, s3⟩
     ·obtain ⟨e1, e2⟩ := hO.own.header s3
      have e1 : (phL y.1).cs = [args.getD y.1 undef] := e1
      rw [e1, mkV_one e2]
     ·exact s3
  obtain ⟨v, r, phR, vs, h1, h2, h3⟩ := ret_of_end (phL := phL) W R hT h
  exact ⟨hA'.defers, v, h1, v, r, phR, vs, rfl, h2, h3⟩
 cases e with
 | nrm => exact fin hk
 | ret => exact fin hk
 | ext i => exact hk.elim

/-- What functions of which only a law is used do: their laws hold. -/
def SpOk (P : Program) (A : Ann) : Prop := ∀ (f : Nat) (post : List D → List D → Prop), A.sp f = some post → (∃ fn, P.funcs[f]? = some fn ∧ fn.body.isSome = true) ∧
 ∀ ds, (∃ r, post ds r) → ∀ (X0 : Nat → Prop) (w : World) (args : Array Value) (phL : Nat → Ph), Args P A X0 w (A.sig f).cel (A.sig f).ps args ds phL →
  Calls P f args w fun e w' => ∃ v r phR vs, e = .returned v ∧ post ds r ∧ Ret P A X0 (lentY (A.sig f).ps ds phL) w w' (A.sig f) phL v r phR vs

theorem hnd_ok (W : WF P) (hSp : SpOk P A) (hDr : ∀ n, HndOk P A (hnd P A n) → DrawOk P A (hnd P A n)) : ∀ n, HndOk P A (hnd P A n)
 | 0 => ⟨fun f ds Q h => h.elim, fun _ _ _ _ _ h => h, fun _ _ _ _ _ _ h => h⟩
 | n + 1 => ⟨fun f ds Q h => by
   have h' : wpF P A (n + 1) f ds Q := h
   unfold wpF at h'
   split at h'
   ·rename_i post hp
    obtain ⟨⟨fn, hf, hb⟩, hc⟩ := hSp f post hp
    refine ⟨⟨fn, hf, hb, W.names f fn hf⟩, fun X0 w args phL hA => (hc ds h'.1 X0 w args phL hA).mono fun e w' ⟨v, r, phR, vs, e1, e2, e3⟩ => ⟨v, r, phR, vs, e1, h'.2 r e2, e3⟩⟩
   ·split at h' <;> try contradiction
    rename_i fn hf
    obtain ⟨h1, h2⟩ := fun_ok W (hDr n (hnd_ok W hSp hDr n)) (hnd_ok W hSp hDr n) hf h'
    exact ⟨⟨fn, hf, h1, W.names f fn hf⟩, h2⟩, fun _ _ _ _ _ h => h, fun _ _ _ _ _ _ h => h⟩

/-- EVERY FUNCTION DOES WHAT ITS RULE SAYS. -/
theorem wpF_ok (W : WF P) (hSp : SpOk P A) (hDr : ∀ n, HndOk P A (hnd P A n) → DrawOk P A (hnd P A n)) {n f : Nat} {ds : List D} {Q : List D → Prop} (h : wpF P A n f ds Q) {X0 : Nat → Prop} {w : World} {args : Array Value} {phL : Nat → Ph} (hA : Args P A X0 w (A.sig f).cel (A.sig f).ps args ds phL) :
  Calls P f args w fun e w' => ∃ v r phR vs, e = .returned v ∧ Q r ∧ Ret P A X0 (lentY (A.sig f).ps ds phL) w w' (A.sig f) phL v r phR vs :=
 ((hnd_ok W hSp hDr n).cal f ds Q h).2 X0 w args phL hA

end Go.Ab

/- Rules are monotone, and have an outcome. -/
namespace Go.Ab
variable {P : Program} {A : Ann}

/-- What the rules of calls keep to. -/
structure HndM (H : Hnd) : Prop where
 cal : ∀ f ds Q Q', (∀ r, Q r → Q' r) → H.cal f ds Q → H.cal f ds Q'
 dyn : ∀ d ks rs ds Q Q', (∀ r, Q r → Q' r) → H.dyn d ks rs ds Q → H.dyn d ks rs ds Q'
 inv : ∀ d s ks rs ds Q Q', (∀ r, Q r → Q' r) → H.inv d s ks rs ds Q → H.inv d s ks rs ds Q'
 calE : ∀ f ds Q, H.cal f ds Q → ∃ r, Q r
 dynE : ∀ d ks rs ds Q, H.dyn d ks rs ds Q → ∃ r, Q r
 invE : ∀ d s ks rs ds Q, H.inv d s ks rs ds Q → ∃ r, Q r

section
variable {ob : Nat → Option Obj}

theorem loadD_mono {t : Nat} {a : AV} {K K' : AV → Prop} (hK : ∀ v, K v → K' v) : loadD P ob t a K → loadD P ob t a K' := by
 unfold loadD
 simp only [cond_eq]
 repeat' split
 all_goals first | exact hK _ | exact id
theorem fieldD_mono {t j : Nat} {a : AV} {K K' : AV → Prop} (hK : ∀ v, K v → K' v) : fieldD P ob t a j K → fieldD P ob t a j K' := by
 unfold fieldD
 simp only [cond_eq]
 repeat' split
 all_goals first | exact hK _ | exact id
theorem indexD_mono {t : Nat} {a i : AV} {K K' : AV → Prop} (hK : ∀ v, K v → K' v) : indexD P ob t a i K → indexD P ob t a i K' := by
 unfold indexD
 simp only [cond_eq]
 repeat' split
 all_goals first | exact hK _ | exact id | exact fun h => ⟨h.1, hK _ h.2⟩
theorem storeD_mono {t : Nat} {a x : AV} {K K' : Dl → Prop} (hK : ∀ v, K v → K' v) : storeD P ob t a x K → storeD P ob t a x K' := by
 unfold storeD
 simp only [cond_eq]
 repeat' split
 all_goals first | exact hK _ | exact id | exact fun h => ⟨h.1, hK _ h.2⟩
theorem intOp_mono {op : BinOp} {k : IntKind} {a b : Int} {K K' : D → Prop} (hK : ∀ v, K v → K' v) : intOp op k a b K → intOp op k a b K' := by
 unfold intOp
 split
 all_goals first | exact hK _ | exact id | exact fun h => ⟨h.1, hK _ h.2⟩
theorem shOp_mono {op : BinOp} {k : IntKind} {a b : Int} {K K' : D → Prop} (hK : ∀ v, K v → K' v) : shOp op k a b K → shOp op k a b K' := by
 unfold shOp
 split
 all_goals first | exact hK _ | exact id | exact fun h => ⟨h.1, hK _ h.2⟩
theorem binD_mono {op : BinOp} {tx ty tr : Nat} {x y : AV} {K K' : AV → Prop} (hK : ∀ v, K v → K' v) : binD P ob op tx ty tr x y K → binD P ob op tx ty tr x y K' := by
 unfold binD
 simp only [cond_eq]
 repeat' split
 all_goals first | exact hK _ | exact id | exact fun h => ⟨h.1, hK _ h.2⟩ | exact shOp_mono (fun _ => hK _) | exact intOp_mono (fun _ => hK _) | exact fun h b hb => hK _ (h b hb)
theorem unD_mono {op : UnOp} {t : Nat} {x : AV} {K K' : AV → Prop} (hK : ∀ v, K v → K' v) : unD P ob op t x K → unD P ob op t x K' := by
 unfold unD
 repeat' split
 all_goals first | exact hK _ | exact id
theorem lenD_mono {t tr : Nat} {x : AV} {K K' : AV → Prop} (hK : ∀ v, K v → K' v) : lenD P ob t x K tr → lenD P ob t x K' tr := by
 unfold lenD
 simp only [cond_eq]
 repeat' split
 all_goals first | exact hK _ | exact id
theorem appendD_mono {dst t : Nat} {x y : AV} {K K' : Dl → Prop} (hK : ∀ v, K v → K' v) : appendD P ob dst t x y K → appendD P ob dst t x y K' := by
 unfold appendD
 simp only [cond_eq]
 repeat' split
 all_goals first | exact hK _ | exact id | exact fun h => ⟨h.1, hK _ h.2⟩
theorem buildD_mono {own : Bool} {dst t : Nat} {l : List (Nat × AV)} {K K' : Dl → Prop} (hK : ∀ v, K v → K' v) : buildD P own ob dst t l K → buildD P own ob dst t l K' := by
 unfold buildD
 simp only [cond_eq]
 repeat' split
 all_goals first | exact hK _ | exact id
theorem buildSliceD_mono {dst t n : Nat} {l : List (Nat × AV)} {K K' : Dl → Prop} (hK : ∀ v, K v → K' v) : buildSliceD P ob dst t n l K → buildSliceD P ob dst t n l K' := by
 unfold buildSliceD
 simp only [cond_eq]
 repeat' split
 all_goals first | exact hK _ | exact id
theorem makeSliceD_mono {dst t : Nat} {l c : Int} {K K' : Dl → Prop} (hK : ∀ v, K v → K' v) : makeSliceD P ob dst t l c K → makeSliceD P ob dst t l c K' := by
 unfold makeSliceD
 simp only [cond_eq]
 repeat' split
 all_goals first | exact hK _ | exact id | exact fun h => ⟨h.1, hK _ h.2⟩
theorem cutD_mono {t : Nat} {x : AV} {lo hi : Option Int} {K K' : Dl → Prop} (hK : ∀ v, K v → K' v) : cutD P ob t x lo hi K → cutD P ob t x lo hi K' := by
 unfold cutD
 simp only [cond_eq]
 repeat' split
 all_goals first | exact id | exact fun h => ⟨h.1, hK _ h.2⟩
theorem mvD_mono {f t : Nat} {x y : List AV} {K K' : AV → Prop} (hK : ∀ v, K v → K' v) : mvD P A f x y t K → mvD P A f x y t K' := by
 unfold mvD
 simp only [cond_eq]
 repeat' split
 all_goals first | exact id | exact hK _
theorem sliceOfD_mono {t : Nat} {x : AV} {lo hi : Option Int} {K K' : AV → Prop} (hK : ∀ v, K v → K' v) : sliceOfD P ob t x lo hi K → sliceOfD P ob t x lo hi K' := by
 unfold sliceOfD
 simp only
 repeat' split
 all_goals first | exact hK _ | exact id | exact fun h => ⟨h.1, hK _ h.2⟩
theorem mapStoreD_mono {t : Nat} {m k v : AV} {K K' : Dl → Prop} (hK : ∀ v, K v → K' v) : mapStoreD P ob t m k v K → mapStoreD P ob t m k v K' := by
 unfold mapStoreD
 simp only [cond_eq]
 repeat' split
 all_goals first | exact hK _ | exact id
theorem lookupD_mono {t : Nat} {m k : AV} {K K' : AV → Prop} (hK : ∀ v, K v → K' v) : lookupD P ob t m k K → lookupD P ob t m k K' := by
 unfold lookupD
 simp only [cond_eq]
 repeat' split
 all_goals first | exact hK _ | exact id
theorem indexSD_mono {t tr : Nat} {x i : AV} {K K' : AV → Prop} (hK : ∀ v, K v → K' v) : indexSD P ob t tr x i K → indexSD P ob t tr x i K' := by
 unfold indexSD
 simp only [cond_eq]
 repeat' split
 all_goals first | exact id | exact fun h => ⟨h.1, hK _ h.2⟩
theorem callD_mono {H : Hnd} (hM : HndM H) {dst : Option Nat} {f : Nat} {l : List AV} {K K' : Dl → Prop} (hK : ∀ v, K v → K' v) : callD P A H dst f l ob K → callD P A H dst f l ob K' := by
 unfold callD
 simp only [cond_eq]
 split <;> try exact id
 split <;> try exact id
 split <;> try exact id
 refine hM.cal _ _ _ _ fun r => ?_
 split
 all_goals first | exact hK _ | exact id
theorem boxD_mono {f dst t : Nat} {x : AV} {K K' : Dl → Prop} {C C' : Prop} (hK : ∀ v, K v → K' v) (hC : C → C') : boxD P A f dst t x ob K C → boxD P A f dst t x ob K' C' := by
 unfold boxD
 simp only [cond_eq]
 repeat' split
 all_goals first | exact id | exact hC | exact hK _
theorem primD_mono {dst : Option Nat} {f : Nat} {l : List AV} {K K' : Dl → Prop} (hK : ∀ v, K v → K' v) : primD P dst f l ob K → primD P dst f l ob K' := by
 unfold primD
 simp only [cond_eq]
 repeat' split
 all_goals first | exact id | exact fun h => ⟨h.1, hK _ h.2⟩
theorem partD_mono {H : Hnd} (hM : HndM H) {f : Nat} {l : List AV} {K K' : Dl → Prop} (hK : ∀ v, K v → K' v) : partD P A H f l ob K → partD P A H f l ob K' := by
 unfold partD
 simp only [cond_eq]
 repeat' split
 all_goals first | exact id | exact hM.cal _ _ _ _ fun r => hK _
theorem itD_mono {S : Type} {body : Int → S → (S → Prop) → Prop} (hb : ∀ v s (Q Q' : S → Prop), (∀ r, Q r → Q' r) → body v s Q → body v s Q') : ∀ (n : Nat) (v : Int) (s : S) (Q Q' : S → Prop), (∀ r, Q r → Q' r) → itD body n v s Q → itD body n v s Q'
 | 0, _, s, _, _, h => h s
 | n + 1, v, s, Q, Q', h => hb v s _ _ fun s' => itD_mono hb n (v + 1) s' Q Q' h
theorem visD_mono {S : Type} {leaf : List Int → S → (S → Prop) → Prop} (hl : ∀ pre s (Q Q' : S → Prop), (∀ r, Q r → Q' r) → leaf pre s Q → leaf pre s Q') : ∀ (bx pre : List Int) (s : S) (Q Q' : S → Prop), (∀ r, Q r → Q' r) → visD leaf bx pre s Q → visD leaf bx pre s Q'
 | [], pre, s, Q, Q', h => hl pre s Q Q' h
 | m :: bx, pre, s, Q, Q', h => itD_mono (fun v s Q Q' h => visD_mono hl bx (pre ++ [v]) s Q Q' h) _ 0 s Q Q' h
theorem everyD_mono {H : Hnd} (hM : HndM H) {f : Nat} {l : List AV} {K K' : Dl → Prop} (hK : ∀ v, K v → K' v) : everyD P A H f l ob K → everyD P A H f l ob K' := by
 unfold everyD
 simp only [cond_eq]
 repeat' split
 all_goals first
  | exact id
  | (intro h
     refine ⟨h.1, h.2.1, h.2.2.1, visD_mono ?_ _ _ _ _ _ (fun r => hK _) h.2.2.2⟩
     exact fun _ _ _ _ h => hM.cal _ _ _ _ h)
theorem bothI_mono {look : Operand → AV} {o : Option Operand} {K K' : Option Int → Prop} (hK : ∀ v, K v → K' v) : bothI P look o K → bothI P look o K' := by
 unfold bothI
 repeat' split
 all_goals first | exact hK _ | exact id

/-- RULES ARE MONOTONE. -/
theorem stepD_mono {H : Hnd} (hM : HndM H) {f : Nat} {o : Oper} {av : Operand → AV} {K K' : Dl → Prop} (hK : ∀ v, K v → K' v) : stepD P A H f o av ob K → stepD P A H f o av ob K' := by
 have hV : ∀ v, onV K v → onV K' v := fun v => hK _
 unfold stepD
 cases hop : o.op with
 | call c =>
  simp only [cond_eq]
  repeat' split
  all_goals first | exact id | exact hK _ | exact lenD_mono hV | exact appendD_mono hK | exact callD_mono hM hK | exact primD_mono hK | exact partD_mono hM hK | exact everyD_mono hM hK | exact hM.dyn _ _ _ _ _ _ (fun r => hK _) | exact hM.inv _ _ _ _ _ _ _ (fun r => hK _)
 | load t x => exact loadD_mono hV
 | store t x y => exact storeD_mono hK
 | fieldAddr s x j => exact fieldD_mono hV
 | indexAddr t x i => exact indexD_mono hV
 | binOp op tx x y ty => exact binD_mono hV
 | unOp op t x => exact unD_mono hV
 | index t x i => exact indexSD_mono hV
 | lookup t m k b =>
  cases b with
  | false => exact lookupD_mono hV
  | true => exact id
 | build t parts =>
  simp only
  split
  ·exact buildD_mono hK
  ·exact id
 | buildSlice t n parts =>
  simp only
  split
  ·exact buildSliceD_mono hK
  ·exact id
 | makeSlice t x y =>
  simp only
  split
  ·exact makeSliceD_mono hK
  ·exact id
 | mapUpdate t x y z => exact mapStoreD_mono hK
 | slice t x lo hi mx =>
  cases mx with
  | none =>
   refine bothI_mono fun l => bothI_mono fun h => ?_
   simp only [cond_eq]
   split
   ·exact cutD_mono hK
   ·exact sliceOfD_mono hV
  | some m => exact id
 | next x b =>
  cases b with
  | true => exact id
  | false =>
   simp only [cond_eq]
   repeat' split
   all_goals first | exact id | exact fun h => ⟨fun e => hK _ (h.1 e), fun i hi => hK _ (h.2 i hi)⟩
 | makeFunc fn first caps =>
  cases fn with
  | func f' =>
   simp only [cond_eq]
   repeat' split
   ·exact hK _
   ·exact id
   ·exact mvD_mono hV
  | _ => exact id
 | box t x =>
  simp only
  split
  ·exact boxD_mono hK (hK _)
  ·exact boxD_mono hK id
  ·exact id
 | makeMap t m =>
  cases m with
  | some m => exact id
  | none =>
   simp only
   split
   ·exact hK _
   ·exact id
 | typeAssert x xt t ok =>
  cases ok with
  | false => exact id
  | true =>
   simp only [cond_eq]
   repeat' split
   all_goals first | exact id | exact hK _
 | _ =>
  simp only [cond_eq]
  repeat' split
  all_goals first | exact id | exact hK _ | exact hV _

end
end Go.Ab

/- Rules have an outcome; many have one alone. -/
namespace Go.Ab
variable {P : Program} {A : Ann}

/-- One outcome alone. -/
structure Det {α : Type} (T : (α → Prop) → Prop) : Prop where
 one : ∀ K, T K → ∃ x, K x ∧ T fun y => y = x
 same : ∀ K K', T K → T K' → ∃ x, K x ∧ K' x

theorem Det.pure {α : Type} (x : α) : Det fun K : α → Prop => K x := ⟨fun K h => ⟨x, h, rfl⟩, fun K K' h h' => ⟨x, h, h'⟩⟩
theorem Det.false {α : Type} : Det fun _ : α → Prop => False := ⟨fun _ h => h.elim, fun _ _ h => h.elim⟩
theorem Det.map {α β : Type} {T : (α → Prop) → Prop} {g : α → β} (h : Det T) (hm : ∀ K K', (∀ x, K x → K' x) → T K → T K') : Det fun K : β → Prop => T fun x => K (g x) :=
 ⟨fun K hT => by
  obtain ⟨x, h1, h2⟩ := h.one _ hT
  exact ⟨g x, h1, hm _ _ (fun y e => by rw [e]) h2⟩, fun K K' h1 h2 => by
  obtain ⟨x, h3, h4⟩ := h.same _ _ h1 h2
  exact ⟨g x, h3, h4⟩⟩

section
variable {ob : Nat → Option Obj}

theorem loadD_ex {t : Nat} {a : AV} {K : AV → Prop} : loadD P ob t a K → ∃ v, K v := by
 unfold loadD
 simp only [cond_eq]
 repeat' split
 all_goals first | exact fun h => h.elim | exact fun h => h.2.elim | exact fun h => ⟨_, h⟩ | exact fun h => ⟨_, h.2⟩
theorem loadD_det {t : Nat} {a : AV} : Det fun K : AV → Prop => loadD P ob t a K := by
 constructor
 ·intro K
  unfold loadD
  simp only [cond_eq]
  repeat' split
  all_goals first | exact fun h => h.elim | exact fun h => h.2.elim | exact fun h => ⟨_, h, rfl⟩ | exact fun h => ⟨_, h.2, h.1, rfl⟩
 ·intro K K'
  unfold loadD
  simp only [cond_eq]
  repeat' split
  all_goals first | exact fun h => h.elim | exact fun h => h.2.elim | exact fun h h' => ⟨_, h, h'⟩ | exact fun h h' => ⟨_, h.2, h'.2⟩
theorem fieldD_ex {t j : Nat} {a : AV} {K : AV → Prop} : fieldD P ob t a j K → ∃ v, K v := by
 unfold fieldD
 simp only [cond_eq]
 repeat' split
 all_goals first | exact fun h => h.elim | exact fun h => h.2.elim | exact fun h => ⟨_, h⟩ | exact fun h => ⟨_, h.2⟩
theorem fieldD_det {t j : Nat} {a : AV} : Det fun K : AV → Prop => fieldD P ob t a j K := by
 constructor
 ·intro K
  unfold fieldD
  simp only [cond_eq]
  repeat' split
  all_goals first | exact fun h => h.elim | exact fun h => h.2.elim | exact fun h => ⟨_, h, rfl⟩ | exact fun h => ⟨_, h.2, h.1, rfl⟩
 ·intro K K'
  unfold fieldD
  simp only [cond_eq]
  repeat' split
  all_goals first | exact fun h => h.elim | exact fun h => h.2.elim | exact fun h h' => ⟨_, h, h'⟩ | exact fun h h' => ⟨_, h.2, h'.2⟩
theorem indexD_ex {t : Nat} {a i : AV} {K : AV → Prop} : indexD P ob t a i K → ∃ v, K v := by
 unfold indexD
 simp only [cond_eq]
 repeat' split
 all_goals first | exact fun h => h.elim | exact fun h => h.2.elim | exact fun h => ⟨_, h⟩ | exact fun h => ⟨_, h.2⟩
theorem indexD_det {t : Nat} {a i : AV} : Det fun K : AV → Prop => indexD P ob t a i K := by
 constructor
 ·intro K
  unfold indexD
  simp only [cond_eq]
  repeat' split
  all_goals first | exact fun h => h.elim | exact fun h => h.2.elim | exact fun h => ⟨_, h, rfl⟩ | exact fun h => ⟨_, h.2, h.1, rfl⟩
 ·intro K K'
  unfold indexD
  simp only [cond_eq]
  repeat' split
  all_goals first | exact fun h => h.elim | exact fun h => h.2.elim | exact fun h h' => ⟨_, h, h'⟩ | exact fun h h' => ⟨_, h.2, h'.2⟩
theorem storeD_ex {t : Nat} {a x : AV} {K : Dl → Prop} : storeD P ob t a x K → ∃ v, K v := by
 unfold storeD
 simp only [cond_eq]
 repeat' split
 all_goals first | exact fun h => h.elim | exact fun h => h.2.elim | exact fun h => ⟨_, h⟩ | exact fun h => ⟨_, h.2⟩
theorem storeD_det {t : Nat} {a x : AV} : Det fun K : Dl → Prop => storeD P ob t a x K := by
 constructor
 ·intro K
  unfold storeD
  simp only [cond_eq]
  repeat' split
  all_goals first | exact fun h => h.elim | exact fun h => h.2.elim | exact fun h => ⟨_, h, rfl⟩ | exact fun h => ⟨_, h.2, h.1, rfl⟩
 ·intro K K'
  unfold storeD
  simp only [cond_eq]
  repeat' split
  all_goals first | exact fun h => h.elim | exact fun h => h.2.elim | exact fun h h' => ⟨_, h, h'⟩ | exact fun h h' => ⟨_, h.2, h'.2⟩
theorem intOp_ex {op : BinOp} {k : IntKind} {a b : Int} {K : D → Prop} : intOp op k a b K → ∃ v, K v := by
 unfold intOp
 repeat' split
 all_goals first | exact fun h => h.elim | exact fun h => h.2.elim | exact fun h => ⟨_, h⟩ | exact fun h => ⟨_, h.2⟩
theorem intOp_det {op : BinOp} {k : IntKind} {a b : Int} : Det fun K : D → Prop => intOp op k a b K := by
 constructor
 ·intro K
  unfold intOp
  repeat' split
  all_goals first | exact fun h => h.elim | exact fun h => h.2.elim | exact fun h => ⟨_, h, rfl⟩ | exact fun h => ⟨_, h.2, h.1, rfl⟩
 ·intro K K'
  unfold intOp
  repeat' split
  all_goals first | exact fun h => h.elim | exact fun h => h.2.elim | exact fun h h' => ⟨_, h, h'⟩ | exact fun h h' => ⟨_, h.2, h'.2⟩
theorem shOp_ex {op : BinOp} {k : IntKind} {a b : Int} {K : D → Prop} : shOp op k a b K → ∃ v, K v := by
 unfold shOp
 repeat' split
 all_goals first | exact fun h => h.elim | exact fun h => h.2.elim | exact fun h => ⟨_, h⟩ | exact fun h => ⟨_, h.2⟩
theorem shOp_det {op : BinOp} {k : IntKind} {a b : Int} : Det fun K : D → Prop => shOp op k a b K := by
 constructor
 ·intro K
  unfold shOp
  repeat' split
  all_goals first | exact fun h => h.elim | exact fun h => h.2.elim | exact fun h => ⟨_, h, rfl⟩ | exact fun h => ⟨_, h.2, h.1, rfl⟩
 ·intro K K'
  unfold shOp
  repeat' split
  all_goals first | exact fun h => h.elim | exact fun h => h.2.elim | exact fun h h' => ⟨_, h, h'⟩ | exact fun h h' => ⟨_, h.2, h'.2⟩
theorem unD_ex {op : UnOp} {t : Nat} {x : AV} {K : AV → Prop} : unD P ob op t x K → ∃ v, K v := by
 unfold unD
 repeat' split
 all_goals first | exact fun h => h.elim | exact fun h => h.2.elim | exact fun h => ⟨_, h⟩ | exact fun h => ⟨_, h.2⟩
theorem unD_det {op : UnOp} {t : Nat} {x : AV} : Det fun K : AV → Prop => unD P ob op t x K := by
 constructor
 ·intro K
  unfold unD
  repeat' split
  all_goals first | exact fun h => h.elim | exact fun h => h.2.elim | exact fun h => ⟨_, h, rfl⟩ | exact fun h => ⟨_, h.2, h.1, rfl⟩
 ·intro K K'
  unfold unD
  repeat' split
  all_goals first | exact fun h => h.elim | exact fun h => h.2.elim | exact fun h h' => ⟨_, h, h'⟩ | exact fun h h' => ⟨_, h.2, h'.2⟩
theorem lenD_ex {t tr : Nat} {x : AV} {K : AV → Prop} : lenD P ob t x K tr → ∃ v, K v := by
 unfold lenD
 simp only [cond_eq]
 repeat' split
 all_goals first | exact fun h => h.elim | exact fun h => h.2.elim | exact fun h => ⟨_, h⟩ | exact fun h => ⟨_, h.2⟩
theorem lenD_det {t tr : Nat} {x : AV} : Det fun K : AV → Prop => lenD P ob t x K tr := by
 constructor
 ·intro K
  unfold lenD
  simp only [cond_eq]
  repeat' split
  all_goals first | exact fun h => h.elim | exact fun h => h.2.elim | exact fun h => ⟨_, h, rfl⟩ | exact fun h => ⟨_, h.2, h.1, rfl⟩
 ·intro K K'
  unfold lenD
  simp only [cond_eq]
  repeat' split
  all_goals first | exact fun h => h.elim | exact fun h => h.2.elim | exact fun h h' => ⟨_, h, h'⟩ | exact fun h h' => ⟨_, h.2, h'.2⟩
theorem appendD_ex {dst t : Nat} {x y : AV} {K : Dl → Prop} : appendD P ob dst t x y K → ∃ v, K v := by
 unfold appendD
 simp only [cond_eq]
 repeat' split
 all_goals first | exact fun h => h.elim | exact fun h => h.2.elim | exact fun h => ⟨_, h⟩ | exact fun h => ⟨_, h.2⟩
theorem appendD_det {dst t : Nat} {x y : AV} : Det fun K : Dl → Prop => appendD P ob dst t x y K := by
 constructor
 ·intro K
  unfold appendD
  simp only [cond_eq]
  repeat' split
  all_goals first | exact fun h => h.elim | exact fun h => h.2.elim | exact fun h => ⟨_, h, rfl⟩ | exact fun h => ⟨_, h.2, h.1, rfl⟩
 ·intro K K'
  unfold appendD
  simp only [cond_eq]
  repeat' split
  all_goals first | exact fun h => h.elim | exact fun h => h.2.elim | exact fun h h' => ⟨_, h, h'⟩ | exact fun h h' => ⟨_, h.2, h'.2⟩
theorem buildD_ex {own : Bool} {dst t : Nat} {l : List (Nat × AV)} {K : Dl → Prop} : buildD P own ob dst t l K → ∃ v, K v := by
 unfold buildD
 simp only [cond_eq]
 repeat' split
 all_goals first | exact fun h => h.elim | exact fun h => h.2.elim | exact fun h => ⟨_, h⟩ | exact fun h => ⟨_, h.2⟩
theorem buildD_det {own : Bool} {dst t : Nat} {l : List (Nat × AV)} : Det fun K : Dl → Prop => buildD P own ob dst t l K := by
 constructor
 ·intro K
  unfold buildD
  simp only [cond_eq]
  repeat' split
  all_goals first | exact fun h => h.elim | exact fun h => h.2.elim | exact fun h => ⟨_, h, rfl⟩ | exact fun h => ⟨_, h.2, h.1, rfl⟩
 ·intro K K'
  unfold buildD
  simp only [cond_eq]
  repeat' split
  all_goals first | exact fun h => h.elim | exact fun h => h.2.elim | exact fun h h' => ⟨_, h, h'⟩ | exact fun h h' => ⟨_, h.2, h'.2⟩
theorem buildSliceD_ex {dst t n : Nat} {l : List (Nat × AV)} {K : Dl → Prop} : buildSliceD P ob dst t n l K → ∃ v, K v := by
 unfold buildSliceD
 simp only [cond_eq]
 repeat' split
 all_goals first | exact fun h => h.elim | exact fun h => h.2.elim | exact fun h => ⟨_, h⟩ | exact fun h => ⟨_, h.2⟩
theorem buildSliceD_det {dst t n : Nat} {l : List (Nat × AV)} : Det fun K : Dl → Prop => buildSliceD P ob dst t n l K := by
 constructor
 ·intro K
  unfold buildSliceD
  simp only [cond_eq]
  repeat' split
  all_goals first | exact fun h => h.elim | exact fun h => h.2.elim | exact fun h => ⟨_, h, rfl⟩ | exact fun h => ⟨_, h.2, h.1, rfl⟩
 ·intro K K'
  unfold buildSliceD
  simp only [cond_eq]
  repeat' split
  all_goals first | exact fun h => h.elim | exact fun h => h.2.elim | exact fun h h' => ⟨_, h, h'⟩ | exact fun h h' => ⟨_, h.2, h'.2⟩
theorem makeSliceD_ex {dst t : Nat} {l c : Int} {K : Dl → Prop} : makeSliceD P ob dst t l c K → ∃ v, K v := by
 unfold makeSliceD
 simp only [cond_eq]
 repeat' split
 all_goals first | exact fun h => h.elim | exact fun h => h.2.elim | exact fun h => ⟨_, h⟩ | exact fun h => ⟨_, h.2⟩
theorem makeSliceD_det {dst t : Nat} {l c : Int} : Det fun K : Dl → Prop => makeSliceD P ob dst t l c K := by
 constructor
 ·intro K
  unfold makeSliceD
  simp only [cond_eq]
  repeat' split
  all_goals first | exact fun h => h.elim | exact fun h => h.2.elim | exact fun h => ⟨_, h, rfl⟩ | exact fun h => ⟨_, h.2, h.1, rfl⟩
 ·intro K K'
  unfold makeSliceD
  simp only [cond_eq]
  repeat' split
  all_goals first | exact fun h => h.elim | exact fun h => h.2.elim | exact fun h h' => ⟨_, h, h'⟩ | exact fun h h' => ⟨_, h.2, h'.2⟩

end
end Go.Ab

/- Rules of code are monotone, and have an outcome. -/
namespace Go.Ab
variable {P : Program} {A : Ann}

section
variable {ob : Nat → Option Obj}

theorem binD_ex {op : BinOp} {tx ty tr : Nat} {x y : AV} {K : AV → Prop} : binD P ob op tx ty tr x y K → ∃ v, K v := by
 unfold binD
 simp only [cond_eq]
 repeat' split
 all_goals first | exact fun h => h.elim | exact fun h => (shOp_ex h).elim fun d hd => ⟨_, hd⟩ | exact fun h => (intOp_ex h).elim fun d hd => ⟨_, hd⟩ | exact fun h => ⟨_, h false (fun e => by cases e)⟩ | exact fun h => ⟨_, h⟩
theorem cutD_ex {t : Nat} {x : AV} {lo hi : Option Int} {K : Dl → Prop} : cutD P ob t x lo hi K → ∃ v, K v := by
 unfold cutD
 simp only [cond_eq]
 repeat' split
 all_goals first | exact fun h => h.elim | exact fun h => ⟨_, h.2⟩
theorem mvD_ex {f t : Nat} {x y : List AV} {K : AV → Prop} : mvD P A f x y t K → ∃ v, K v := by
 unfold mvD
 simp only [cond_eq]
 repeat' split
 all_goals first | exact fun h => h.elim | exact fun h => ⟨_, h⟩
theorem sliceOfD_ex {t : Nat} {x : AV} {lo hi : Option Int} {K : AV → Prop} : sliceOfD P ob t x lo hi K → ∃ v, K v := by
 unfold sliceOfD
 simp only
 repeat' split
 all_goals first | exact fun h => h.elim | exact fun h => h.2.elim | exact fun h => ⟨_, h⟩ | exact fun h => ⟨_, h.2⟩
theorem mapStoreD_ex {t : Nat} {m k v : AV} {K : Dl → Prop} : mapStoreD P ob t m k v K → ∃ v, K v := by
 unfold mapStoreD
 simp only [cond_eq]
 repeat' split
 all_goals first | exact fun h => h.elim | exact fun h => ⟨_, h⟩
theorem lookupD_ex {t : Nat} {m k : AV} {K : AV → Prop} : lookupD P ob t m k K → ∃ v, K v := by
 unfold lookupD
 simp only [cond_eq]
 repeat' split
 all_goals first | exact fun h => h.elim | exact fun h => ⟨_, h⟩
theorem indexSD_ex {t tr : Nat} {x i : AV} {K : AV → Prop} : indexSD P ob t tr x i K → ∃ v, K v := by
 unfold indexSD
 simp only [cond_eq]
 repeat' split
 all_goals first | exact fun h => h.elim | exact fun h => ⟨_, h.2⟩
theorem bothI_ex {look : Operand → AV} {o : Option Operand} {K : Option Int → Prop} : bothI P look o K → ∃ v, K v := by
 unfold bothI
 repeat' split
 all_goals first | exact fun h => h.elim | exact fun h => ⟨_, h⟩
theorem callD_ex {H : Hnd} (hM : HndM H) {dst : Option Nat} {f : Nat} {l : List AV} {K : Dl → Prop} : callD P A H dst f l ob K → ∃ v, K v := by
 unfold callD
 simp only [cond_eq]
 split <;> try exact fun h => h.elim
 split <;> try exact fun h => h.elim
 split <;> try exact fun h => h.elim
 intro h
 obtain ⟨r, hr⟩ := hM.calE _ _ _ h
 split at hr
 all_goals first | exact ⟨_, hr⟩ | exact hr.elim

theorem boxD_ex {f dst t : Nat} {x : AV} {K : Dl → Prop} {C : Prop} (hC : C → ∃ v, K v) : boxD P A f dst t x ob K C → ∃ v, K v := by
 unfold boxD
 simp only [cond_eq]
 repeat' split
 all_goals first | exact fun h => h.elim | exact hC | exact fun h => ⟨_, h⟩
theorem primD_ex {dst : Option Nat} {f : Nat} {l : List AV} {K : Dl → Prop} : primD P dst f l ob K → ∃ v, K v := by
 unfold primD
 simp only [cond_eq]
 repeat' split
 all_goals first | exact fun h => h.elim | exact fun h => ⟨_, h.2⟩

theorem partD_ex {H : Hnd} (hM : HndM H) {f : Nat} {l : List AV} {K : Dl → Prop} : partD P A H f l ob K → ∃ v, K v := by
 unfold partD
 simp only [cond_eq]
 repeat' split
 all_goals first | exact fun h => h.elim | exact fun h => (hM.calE _ _ _ h).elim fun r hr => ⟨_, hr⟩
theorem itD_ex {S : Type} {body : Int → S → (S → Prop) → Prop} (hb : ∀ v s (Q : S → Prop), body v s Q → ∃ r, Q r) : ∀ (n : Nat) (v : Int) (s : S) (Q : S → Prop), itD body n v s Q → ∃ r, Q r
 | 0, _, s, _, h => ⟨s, h⟩
 | n + 1, v, s, Q, h => (hb v s _ h).elim fun s' h' => itD_ex hb n (v + 1) s' Q h'
theorem visD_ex {S : Type} {leaf : List Int → S → (S → Prop) → Prop} (hl : ∀ pre s (Q : S → Prop), leaf pre s Q → ∃ r, Q r) : ∀ (bx pre : List Int) (s : S) (Q : S → Prop), visD leaf bx pre s Q → ∃ r, Q r
 | [], pre, s, Q, h => hl pre s Q h
 | m :: bx, pre, s, Q, h => itD_ex (fun v s Q h => visD_ex hl bx (pre ++ [v]) s Q h) _ 0 s Q h
theorem everyD_ex {H : Hnd} (hM : HndM H) {f : Nat} {l : List AV} {K : Dl → Prop} : everyD P A H f l ob K → ∃ v, K v := by
 unfold everyD
 simp only [cond_eq]
 repeat' split
 all_goals first
  | exact fun h => h.elim
  | (intro h
     refine Exists.elim (visD_ex ?_ _ _ _ _ h.2.2.2) fun r hr => ⟨_, hr⟩
     exact fun _ _ _ h => hM.calE _ _ _ h)

/-- RULES HAVE AN OUTCOME. -/
theorem stepD_ex {H : Hnd} (hM : HndM H) {f : Nat} {o : Oper} {av : Operand → AV} {K : Dl → Prop} : stepD P A H f o av ob K → ∃ δ, K δ := by
 have hV : (∃ v, onV K v) → ∃ δ, K δ := fun ⟨v, h⟩ => ⟨_, h⟩
 unfold stepD
 cases hop : o.op with
 | call c =>
  simp only [cond_eq]
  repeat' split
  all_goals first | exact fun h => h.elim | exact fun h => ⟨_, h⟩ | exact fun h => hV (lenD_ex h) | exact appendD_ex | exact callD_ex hM | exact primD_ex | exact partD_ex hM | exact everyD_ex hM | exact fun h => (hM.dynE _ _ _ _ _ h).elim fun r hr => ⟨_, hr⟩ | exact fun h => (hM.invE _ _ _ _ _ _ h).elim fun r hr => ⟨_, hr⟩
 | load t x => exact fun h => hV (loadD_ex h)
 | store t x y => exact storeD_ex
 | fieldAddr s x j => exact fun h => hV (fieldD_ex h)
 | indexAddr t x i => exact fun h => hV (indexD_ex h)
 | binOp op tx x y ty => exact fun h => hV (binD_ex h)
 | unOp op t x => exact fun h => hV (unD_ex h)
 | index t x i => exact fun h => hV (indexSD_ex h)
 | lookup t m k b =>
  cases b with
  | false => exact fun h => hV (lookupD_ex h)
  | true => exact fun h => h.elim
 | build t parts =>
  simp only
  split
  ·exact buildD_ex
  ·exact fun h => h.elim
 | buildSlice t n parts =>
  simp only
  split
  ·exact buildSliceD_ex
  ·exact fun h => h.elim
 | makeSlice t x y =>
  simp only
  split
  ·exact makeSliceD_ex
  ·exact fun h => h.elim
 | mapUpdate t x y z => exact mapStoreD_ex
 | slice t x lo hi mx =>
  cases mx with
  | none =>
   intro h
   obtain ⟨l, h⟩ := bothI_ex h
   obtain ⟨u, h⟩ := bothI_ex h
   rw [cond_eq] at h
   split at h
   ·exact cutD_ex h
   ·exact hV (sliceOfD_ex h)
  | some m => exact fun h => h.elim
 | next x b =>
  cases b with
  | true => exact fun h => h.elim
  | false =>
   simp only [cond_eq]
   repeat' split
   all_goals first
    | exact fun h => h.elim
    | (intro h
       rename_i q m t hav _ _ _ kt et obq obm hk hq hm _ hsh hB
       cases hes : obq.d.es with
       | nil => exact ⟨_, h.1 hes⟩
       | cons z l => exact ⟨_, h.2 0 (by rw [hes]; simp)⟩)
    | skip
   all_goals (intro h; by_cases hes : (_ : List (D × D)) = [] <;> first | exact ⟨_, h.1 hes⟩ | exact ⟨_, h.2 0 (List.length_pos_iff.2 hes)⟩)
 | makeFunc fn first caps =>
  cases fn with
  | func f' =>
   simp only [cond_eq]
   repeat' split
   ·exact fun h => ⟨_, h⟩
   ·exact fun h => h.elim
   ·exact fun h => hV (mvD_ex h)
  | _ => exact fun h => h.elim
 | box t x =>
  simp only
  split
  ·exact boxD_ex fun h => ⟨_, h⟩
  ·exact boxD_ex fun h => h.elim
  ·exact fun h => h.elim
 | makeMap t m =>
  cases m with
  | some m => exact fun h => h.elim
  | none =>
   simp only
   split
   ·exact fun h => ⟨_, h⟩
   ·exact fun h => h.elim
 | typeAssert x xt t ok =>
  cases ok with
  | false => exact fun h => h.elim
  | true =>
   simp only [cond_eq]
   repeat' split
   all_goals first | exact fun h => h.elim | exact fun h => ⟨_, h⟩
 | _ =>
  simp only [cond_eq]
  repeat' split
  all_goals first | exact fun h => h.elim | exact fun h => ⟨_, h⟩ | exact fun h => hV ⟨_, h⟩

theorem binD_det {op : BinOp} {tx ty tr : Nat} {x y : AV} (hs : ∀ e, tk P tx ≠ .slc e) : Det fun K : AV → Prop => binD P ob op tx ty tr x y K := by
 unfold binD
 cases hk : tk P tx with
 | slc e => exact absurd hk (hs e)
 | int k =>
  simp only
  cases okRes P op k tr with
  | false => exact Det.false
  | true =>
   simp only [cond_true]
   cases St.data P ob tx x with
   | none => exact Det.false
   | some a =>
    have h1 : ∀ b : Int, Det fun K : AV → Prop => intOp op k a.i b fun d => K (.imm (resT P op tr) d) := fun b => Det.map (g := fun d => AV.imm (resT P op tr) d) intOp_det fun _ _ h => intOp_mono h
    have h2 : ∀ b : Int, Det fun K : AV → Prop => shOp op k a.i b fun d => K (.imm (resT P op tr) d) := fun b => Det.map (g := fun d => AV.imm (resT P op tr) d) shOp_det fun _ _ h => shOp_mono h
    have h3 : Det fun K : AV → Prop => match tk P ty with
      | .int _ => match St.data P ob ty y with
       | some b => shOp op k a.i b.i fun d => K (.imm (resT P op tr) d)
       | none => False
      | _ => False := by
     cases tk P ty <;> first | exact Det.false | skip
     cases St.data P ob ty y with
     | none => exact Det.false
     | some b => exact h2 b.i
    have h4 : Det fun K : AV → Prop => match St.data P ob tx y with
      | some b => intOp op k a.i b.i fun d => K (.imm (resT P op tr) d)
      | none => False := by
     cases St.data P ob tx y with
     | none => exact Det.false
     | some b => exact h1 b.i
    cases op <;> first | exact h3 | exact h4
 | bool =>
  simp only
  cases isB P P.rt.bool with
  | false => exact Det.false
  | true =>
   simp only [cond_true]
   cases St.data P ob tx x with
   | none => exact Det.false
   | some a =>
    cases St.data P ob tx y with
    | none => exact Det.false
    | some b => cases op <;> first | exact Det.pure _ | exact Det.false
 | struct fs =>
  simp only
  cases (eqT P 8 tx && isB P P.rt.bool) with
  | false => exact Det.false
  | true =>
   simp only [cond_true]
   cases St.data P ob tx x with
   | none => exact Det.false
   | some a =>
    cases St.data P ob tx y with
    | none => exact Det.false
    | some b => cases op <;> first | exact Det.pure _ | exact Det.false
 | _ => exact Det.false

theorem detV {T : (AV → Prop) → Prop} (h : Det T) (hm : ∀ K K', (∀ x, K x → K' x) → T K → T K') : Det fun K : Dl → Prop => T (onV K) := Det.map (g := fun v => ({ v := v } : Dl)) h hm

/-- Operations with one outcome. -/
theorem boxD_det {f dst t : Nat} {x : AV} {δ0 : Dl} : Det fun K : Dl → Prop => boxD P A f dst t x ob K (K δ0) := by
 unfold boxD
 simp only [cond_eq]
 split
 ·split
  ·split
   ·split
    ·split
     ·split
      ·exact Det.false
      ·exact Det.pure _
     ·exact Det.false
    ·exact Det.false
   ·exact Det.false
  ·exact Det.pure _
 ·split
  ·split
   ·split
    ·exact Det.pure _
    ·exact Det.pure _
   ·exact Det.pure _
  ·exact Det.pure _
 ·exact Det.pure _

theorem boxD_detF {f dst t : Nat} {x : AV} : Det fun K : Dl → Prop => boxD P A f dst t x ob K False := by
 unfold boxD
 simp only [cond_eq]
 split
 ·split
  ·split
   ·split
    ·split
     ·split
      ·exact Det.false
      ·exact Det.pure _
     ·exact Det.false
    ·exact Det.false
   ·exact Det.false
  ·exact Det.false
 ·split
  ·split
   ·split
    ·exact Det.pure _
    ·exact Det.false
   ·exact Det.false
  ·exact Det.false
 ·exact Det.false

theorem stepD_det {H : Hnd} {f : Nat} {o : Oper} {av : Operand → AV} (hs : simOp P o.op = true) : Det fun K : Dl → Prop => stepD P A H f o av ob K := by
 unfold stepD
 cases hop : o.op with
 | call c =>
  rw [hop] at hs
  simp only [simOp] at hs
  simp only
  split at hs <;> try contradiction
  ·rename_i hc
   rw [hc]
   simp only
   constructor
   ·intro K
    split
    ·exact (detV lenD_det fun _ _ h => lenD_mono h).one K
    ·exact fun h => h.elim
   ·intro K K'
    split
    ·exact (detV lenD_det fun _ _ h => lenD_mono h).same K K'
    ·exact fun h => h.elim
  ·rename_i hc
   rw [hc]
   simp only [cond_eq]
   constructor
   ·intro K
    split
    ·split
     ·exact appendD_det.one K
     ·exact fun h => h.elim
    ·exact fun h => h.elim
   ·intro K K'
    split
    ·split
     ·exact appendD_det.same K K'
     ·exact fun h => h.elim
    ·exact fun h => h.elim
  ·rename_i hc
   rw [hc]
   simp only
   constructor
   ·intro K
    split
    ·exact fun h => ⟨_, h, rfl⟩
    ·exact fun h => h.elim
   ·intro K K'
    split
    ·exact fun h h' => ⟨_, h, h'⟩
    ·exact fun h => h.elim
  ·rename_i hc
   rw [hc]
   simp only
   constructor
   ·intro K
    split
    ·exact fun h => ⟨_, h, rfl⟩
    ·exact fun h => h.elim
   ·intro K K'
    split
    ·exact fun h h' => ⟨_, h, h'⟩
    ·exact fun h => h.elim
 | load t x => exact detV loadD_det fun _ _ h => loadD_mono h
 | store t x y => exact storeD_det
 | fieldAddr s x j => exact detV fieldD_det fun _ _ h => fieldD_mono h
 | indexAddr t x i => exact detV indexD_det fun _ _ h => indexD_mono h
 | unOp op t x => exact detV unD_det fun _ _ h => unD_mono h
 | binOp op tx x y ty =>
  rw [hop] at hs
  simp only [simOp] at hs
  exact detV (binD_det fun e he => by rw [he] at hs; cases hs) fun _ _ h => binD_mono h
 | build t parts =>
  simp only
  cases o.dst with
  | none => exact Det.false
  | some d => exact buildD_det
 | buildSlice t n parts =>
  simp only
  cases o.dst with
  | none => exact Det.false
  | some d => exact buildSliceD_det
 | makeSlice t x y =>
  constructor
  ·intro K
   simp only
   split
   ·exact makeSliceD_det.one K
   ·exact fun h => h.elim
  ·intro K K'
   simp only
   split
   ·exact makeSliceD_det.same K K'
   ·exact fun h => h.elim
 | box t x =>
  constructor
  ·intro K
   simp only
   split
   ·exact boxD_det.one K
   ·exact boxD_detF.one K
   ·exact fun h => h.elim
  ·intro K K'
   simp only
   split
   ·exact boxD_det.same K K'
   ·exact boxD_detF.same K K'
   ·exact fun h => h.elim
 | move x | assign x | pick c x y | nilCheck x | convert s d x | alloc t | extract x i =>
  constructor
  ·intro K
   simp only [cond_eq]
   repeat' split
   all_goals first | exact fun h => h.elim | exact fun h => ⟨_, h, rfl⟩
  ·intro K K'
   simp only [cond_eq]
   repeat' split
   all_goals first | exact fun h => h.elim | exact fun h h' => ⟨_, h, h'⟩
 | _ => rw [hop] at hs; cases hs

end
end Go.Ab

/- Rules of code are monotone, and have an outcome: code and functions. -/
namespace Go.Ab
variable {P : Program} {A : Ann}

section
variable {H : Hnd} {f : Nat}

theorem St.step_mono (hM : HndM H) {o : Oper} {g : St} {K K' : St → Prop} (hK : ∀ g, K g → K' g) (h : g.step P A H f o K) : g.step P A H f o K' := by
 unfold St.step at h ⊢
 obtain ⟨h1, h2⟩ := of_cond h
 rw [h1]
 exact stepD_mono hM (fun _ => hK _) h2
theorem St.step_ex (hM : HndM H) {o : Oper} {g : St} {K : St → Prop} (h : g.step P A H f o K) : ∃ g', K g' := by
 unfold St.step at h
 obtain ⟨h1, h2⟩ := of_cond h
 obtain ⟨δ, h⟩ := stepD_ex hM h2
 exact ⟨_, h⟩

theorem St.guard_mono (hM : HndM H) {ops : Array Oper} {o : Oper} {g : St} {K K' : St → Prop} (hK : ∀ g, K g → K' g) : g.guard P A H f ops o K → g.guard P A H f ops o K' := by
 unfold St.guard
 simp only [cond_eq]
 repeat' split
 all_goals first | exact id | exact St.step_mono hM hK | exact hK _
theorem St.guard_ex (hM : HndM H) {ops : Array Oper} {o : Oper} {g : St} {K : St → Prop} : g.guard P A H f ops o K → ∃ g', K g' := by
 unfold St.guard
 simp only [cond_eq]
 repeat' split
 all_goals first | exact fun h => h.elim | exact St.step_ex hM | exact fun h => ⟨_, h⟩

theorem wpL_mono (hM : HndM H) {ops : Array Oper} {K K' : St → Prop} (hK : ∀ g, K g → K' g) : ∀ (l : List Oper) (g : St), wpL P A H f ops l g K → wpL P A H f ops l g K'
 | [], g, h => hK g h
 | o :: l, g, h => St.guard_mono hM (fun g' h' => wpL_mono hM hK l g' h') h
theorem wpL_ex (hM : HndM H) {ops : Array Oper} {K : St → Prop} : ∀ (l : List Oper) (g : St), wpL P A H f ops l g K → ∃ g', K g'
 | [], g, h => ⟨g, h⟩
 | o :: l, g, h => by
  obtain ⟨g', h'⟩ := St.guard_ex hM h
  exact wpL_ex hM l g' h'

theorem St.turn_mono (hM : HndM H) {ops : Array Oper} {o : Oper} {g : St} {K K' : Bool → St → Dl → Prop} (hK : ∀ r g δ, K r g δ → K' r g δ) : g.turn P A H f ops o K → g.turn P A H f ops o K' := by
 unfold St.turn
 simp only [cond_eq]
 repeat' split
 all_goals first | exact id | exact stepD_mono hM (fun _ => hK _ _ _) | exact hK _ _ _
theorem St.turn_ex (hM : HndM H) {ops : Array Oper} {o : Oper} {g : St} {K : Bool → St → Dl → Prop} : g.turn P A H f ops o K → ∃ r g' δ, K r g' δ := by
 unfold St.turn
 simp only [cond_eq]
 repeat' split
 all_goals first | exact fun h => h.elim | exact fun h => (stepD_ex hM h).elim fun δ h => ⟨_, _, δ, h⟩ | exact fun h => ⟨_, _, _, h⟩
theorem St.turn_guard (hM : HndM H) {ops : Array Oper} {o : Oper} {g : St} {K : St → Prop} (hd : dstOk P A f o.dst = true) (h : g.turn P A H f ops o fun _ g1 δ => K (g1.app o.dst δ)) : g.guard P A H f ops o K := by
 revert h
 unfold St.turn St.guard St.step
 simp only [hd, cond_true]
 split
 ·exact id
 ·split
  ·split
   ·exact id
   ·exact id
   ·exact id
  ·exact id

theorem wpD_mono (hM : HndM H) {ops : Array Oper} {K K' : St → Prop} (hK : ∀ g, K g → K' g) : ∀ (l : List Nat) (fps fps' : List FP) (g : St), (∀ p ∈ fps', p ∈ fps) → wpD P A H f ops l fps g K → wpD P A H f ops l fps' g K'
 | [], fps, fps', g, _, h => hK g h
 | i :: l, fps, fps', g, hs, h => by
  have hall : ∀ (p : FP → Bool), fps.all p = true → fps'.all p = true := fun p hp => by
   rw [List.all_eq_true] at hp ⊢
   exact fun x hx => hp x (hs x hx)
  simp only [wpD] at h ⊢
  split
  ·rename_i ho
   rw [ho] at h
   exact wpD_mono hM hK l fps fps' g hs h
  ·rename_i o ho
   rw [ho] at h
   simp only at h
   obtain ⟨h1, h2⟩ := of_cond h
   rw [h1, cond_true]
   refine St.turn_mono hM (fun r g1 δ hδ => ?_) h2
   obtain ⟨h3, h4⟩ := of_cond hδ
   rw [hall _ h3, cond_true]
   exact wpD_mono hM hK l _ _ _ (fun p hp => by
    rcases List.mem_cons.1 hp with rfl | hp
    ·simp
    ·exact List.mem_cons_of_mem _ (hs p hp)) h4
theorem wpD_ex (hM : HndM H) {ops : Array Oper} {K : St → Prop} : ∀ (l : List Nat) (fps : List FP) (g : St), wpD P A H f ops l fps g K → ∃ g', K g'
 | [], fps, g, h => ⟨g, h⟩
 | i :: l, fps, g, h => by
  simp only [wpD] at h
  split at h
  ·exact wpD_ex hM l fps g h
  ·obtain ⟨_, h2⟩ := of_cond h
   obtain ⟨r, g1, δ, hδ⟩ := St.turn_ex hM h2
   exact wpD_ex hM l _ _ (of_cond hδ).2

theorem run_mono {K K' : St → Prop} (hK : ∀ g, K g → K' g) : ∀ (l : List Cmd) (g : St), g.run P l K → g.run P l K'
 | [], g, h => hK g h
 | c :: l, g, h => by
  simp only [St.run] at h ⊢
  split
  ·rename_i hc; rw [hc] at h; exact run_mono hK l _ h
  ·rename_i hc; rw [hc] at h; exact h
theorem run_ex {K : St → Prop} : ∀ (l : List Cmd) (g : St), g.run P l K → ∃ g', K g'
 | [], g, h => ⟨g, h⟩
 | c :: l, g, h => by
  simp only [St.run] at h
  split at h
  ·exact run_ex l _ h
  ·exact h.elim

theorem loopK_mono {body : St → (Ex → St → Prop) → Prop} {nm : St → (St → Prop) → Prop} (hb : ∀ g K K', (∀ e g, K e g → K' e g) → body g K → body g K') (hn : ∀ g K K', (∀ g, K g → K' g) → nm g K → nm g K') {K K' : Ex → St → Prop} (hK : ∀ e g, K e g → K' e g) : ∀ (m : Nat) (g : St), loopK body nm m g K → loopK body nm m g K'
 | 0, g, h => h
 | m + 1, g, h => hb _ _ _ (fun e g' h' => by
   cases e with
   | nrm => exact hn _ _ _ (fun g2 h2 => loopK_mono hb hn hK m g2 h2) h'
   | ext i => exact hK _ _ h'
   | ret => exact hK _ _ h') h
theorem loopK_ex {body : St → (Ex → St → Prop) → Prop} {nm : St → (St → Prop) → Prop} (hb : ∀ g K, body g K → ∃ e g', K e g') (hn : ∀ g K, nm g K → ∃ g', K g') {K : Ex → St → Prop} : ∀ (m : Nat) (g : St), loopK body nm m g K → ∃ e g', K e g'
 | 0, g, h => h.elim
 | m + 1, g, h => by
  obtain ⟨e, g', h'⟩ := hb _ _ h
  cases e with
  | nrm =>
   obtain ⟨g2, h2⟩ := hn _ _ h'
   exact loopK_ex hb hn m g2 h2
  | ext i => exact ⟨_, _, h'⟩
  | ret => exact ⟨_, _, h'⟩

theorem nmK_mono {l : List Cmd × List Nat × List Nat} {g : St} {K K' : St → Prop} (hK : ∀ g, K g → K' g) (h : nmK P l g K) : nmK P l g K' := run_mono (fun _ => hK _) _ _ h
theorem nmK_ex {l : List Cmd × List Nat × List Nat} {g : St} {K : St → Prop} (h : nmK P l g K) : ∃ g', K g' := by
 obtain ⟨g', h⟩ := run_ex _ _ h
 exact ⟨_, h⟩

theorem wpC_mono (hM : HndM H) {n : Nat} : ∀ (c : Code) (g : St) (K K' : Ex → St → Prop), (∀ e g, K e g → K' e g) → wpC P A H f n c g K → wpC P A H f n c g K'
 | .skip, g, K, K', hK, h => hK _ _ h
 | .ret, g, K, K', hK, h => hK _ _ h
 | .exit i, g, K, K', hK, h => hK _ _ h
 | .region id ops draw, g, K, K', hK, h => by
  simp only [wpC] at h ⊢
  refine run_mono (fun g' h' => ?_) _ _ h
  cases draw with
  | false => exact wpL_mono hM (fun _ => hK _ _) _ _ h'
  | true =>
   obtain ⟨h1, h2⟩ := of_cond h'
   show cond (fwdOk ops) _ False
   rw [h1]
   exact wpD_mono hM (fun _ => hK _ _) _ _ _ _ (fun _ h => h) h2
 | .seq x y, g, K, K', hK, h => by
  simp only [wpC] at h ⊢
  refine wpC_mono hM x g _ _ (fun e g' h' => ?_) h
  cases e with
  | nrm => exact wpC_mono hM y g' K K' hK h'
  | ext i => exact hK _ _ h'
  | ret => exact hK _ _ h'
 | .cond c x y, g, K, K', hK, h => by
  simp only [wpC] at h ⊢
  revert h
  simp only [cond_eq]
  repeat' split
  all_goals first | exact id | exact wpC_mono hM x _ K K' hK | exact wpC_mono hM y _ K K' hK
 | .block id c, g, K, K', hK, h => by
  simp only [wpC] at h ⊢
  refine wpC_mono hM c g _ _ (fun e g' h' => ?_) h
  cases e with
  | nrm => exact hK _ _ h'
  | ret => exact hK _ _ h'
  | ext i =>
   simp only [kBlock, cond_eq] at h' ⊢
   split
   ·rename_i e; rw [if_pos e] at h'; exact hK _ _ h'
   ·rename_i e; rw [if_neg e] at h'; exact hK _ _ h'
 | .loop c, g, K, K', hK, h => by
  simp only [wpC] at h ⊢
  exact nmK_mono (fun g' h' => loopK_mono (body := wpC P A H f n c) (nm := nmK P (A.loop f (firstRegion c))) (fun g K K' hK h => wpC_mono hM c g K K' hK h) (fun g K K' hK h => nmK_mono hK h) hK n g' h') h
 | .label _, g, K, K', hK, h => h.elim
 | .goto _, g, K, K', hK, h => h.elim
 | .scope _, g, K, K', hK, h => h.elim
 | .refuse _, g, K, K', hK, h => h.elim
 | .rangeFunc .., g, K, K', hK, h => h.elim

theorem wpC_ex (hM : HndM H) {n : Nat} : ∀ (c : Code) (g : St) (K : Ex → St → Prop), wpC P A H f n c g K → ∃ e g', K e g'
 | .skip, g, K, h => ⟨_, _, h⟩
 | .ret, g, K, h => ⟨_, _, h⟩
 | .exit i, g, K, h => ⟨_, _, h⟩
 | .region id ops draw, g, K, h => by
  simp only [wpC] at h
  obtain ⟨g', h'⟩ := run_ex _ _ h
  cases draw with
  | false => obtain ⟨g2, h2⟩ := wpL_ex hM _ _ h'; exact ⟨_, _, h2⟩
  | true => obtain ⟨g2, h2⟩ := wpD_ex hM _ _ _ (of_cond h').2; exact ⟨_, _, h2⟩
 | .seq x y, g, K, h => by
  simp only [wpC] at h
  obtain ⟨e, g', h'⟩ := wpC_ex hM x g _ h
  cases e with
  | nrm => exact wpC_ex hM y g' K h'
  | ext i => exact ⟨_, _, h'⟩
  | ret => exact ⟨_, _, h'⟩
 | .cond c x y, g, K, h => by
  simp only [wpC] at h
  revert h
  simp only [cond_eq]
  repeat' split
  all_goals first | exact fun h => h.elim | exact wpC_ex hM x _ K | exact wpC_ex hM y _ K
 | .block id c, g, K, h => by
  simp only [wpC] at h
  obtain ⟨e, g', h'⟩ := wpC_ex hM c g _ h
  cases e with
  | nrm => exact ⟨_, _, h'⟩
  | ret => exact ⟨_, _, h'⟩
  | ext i =>
   simp only [kBlock, cond_eq] at h'
   split at h' <;> exact ⟨_, _, h'⟩
 | .loop c, g, K, h => by
  simp only [wpC] at h
  obtain ⟨g', h'⟩ := nmK_ex h
  exact loopK_ex (body := wpC P A H f n c) (nm := nmK P (A.loop f (firstRegion c))) (fun g K h => wpC_ex hM c g K h) (fun g K h => nmK_ex h) n g' h'
 | .label _, g, K, h => h.elim
 | .goto _, g, K, h => h.elim
 | .scope _, g, K, h => h.elim
 | .refuse _, g, K, h => h.elim
 | .rangeFunc .., g, K, h => h.elim
end

theorem kEnd_mono {fn : Func} {s : Sig} {Q Q' : List D → Prop} (hQ : ∀ r, Q r → Q' r) : ∀ (e : Ex) (g : St), kEnd P fn s Q e g → kEnd P fn s Q' e g := by
 intro e g
 cases e with
 | ext i => exact id
 | nrm =>
  simp only [kEnd, cond_eq]
  repeat' split
  all_goals first | exact id | exact hQ _
 | ret =>
  simp only [kEnd, cond_eq]
  repeat' split
  all_goals first | exact id | exact hQ _
theorem kEnd_ex {fn : Func} {s : Sig} {Q : List D → Prop} : ∀ (e : Ex) (g : St), kEnd P fn s Q e g → ∃ r, Q r := by
 intro e g
 cases e with
 | ext i => exact fun h => h.elim
 | nrm =>
  simp only [kEnd, cond_eq]
  repeat' split
  all_goals first | exact fun h => h.elim | exact fun h => ⟨_, h⟩
 | ret =>
  simp only [kEnd, cond_eq]
  repeat' split
  all_goals first | exact fun h => h.elim | exact fun h => ⟨_, h⟩

theorem hnd_of {cal : Nat → List D → (List D → Prop) → Prop} (h1 : ∀ f ds Q Q', (∀ r, Q r → Q' r) → cal f ds Q → cal f ds Q') (h2 : ∀ f ds Q, cal f ds Q → ∃ r, Q r) : HndM { cal, dyn := dynH A cal, inv := invH P A cal } :=
 ⟨h1, fun d ks rs ds Q Q' hQ => by
  simp only [dynH]
  repeat' split
  all_goals first | exact fun h => ⟨h.1, h1 _ _ _ _ hQ h.2⟩ | exact id, fun d s ks rs ds Q Q' hQ => by
  simp only [invH]
  split
  ·split
   ·exact fun h => ⟨h.1, h1 _ _ _ _ hQ h.2⟩
   ·exact id
  ·exact id, h2, fun d ks rs ds Q => by
  simp only [dynH]
  repeat' split
  all_goals first | exact fun h => h.elim | exact fun h => h2 _ _ _ h.2, fun d s ks rs ds Q => by
  simp only [invH]
  split
  ·split
   ·exact fun h => h2 _ _ _ h.2
   ·exact fun h => h.elim
  ·exact fun h => h.elim⟩

theorem wpF_me : ∀ n, (∀ f ds Q Q', (∀ r, Q r → Q' r) → wpF P A n f ds Q → wpF P A n f ds Q') ∧ ∀ f ds Q, wpF P A n f ds Q → ∃ r, Q r
 | 0 => ⟨fun _ _ _ _ _ h => h, fun _ _ _ h => h.elim⟩
 | n + 1 => by
  obtain ⟨i1, i2⟩ := wpF_me n
  have hM : HndM (hnd P A n) := hnd_of i1 i2
  constructor
  ·intro f ds Q Q' hQ h
   simp only [wpF] at h ⊢
   split
   ·rename_i post hp
    rw [hp] at h
    exact ⟨h.1, fun r hr => hQ r (h.2 r hr)⟩
   ·rename_i hp
    rw [hp] at h
    simp only at h
    split
    ·rename_i fn hf
     rw [hf] at h
     simp only [wpB] at h ⊢
     split
     ·rename_i c hc
      rw [hc] at h
      simp only at h
      obtain ⟨h1, h2⟩ := of_cond h
      rw [h1]
      exact wpC_mono hM c _ _ _ (kEnd_mono hQ) h2
     ·rename_i hc; rw [hc] at h; exact h
    ·rename_i hf; rw [hf] at h; exact h
  ·intro f ds Q h
   simp only [wpF] at h
   split at h
   ·obtain ⟨r, hr⟩ := h.1
    exact ⟨r, h.2 r hr⟩
   ·split at h
    ·simp only [wpB] at h
     split at h
     ·obtain ⟨_, h2⟩ := of_cond h
      obtain ⟨e, g', h'⟩ := wpC_ex hM _ _ _ h2
      exact kEnd_ex e g' h'
     ·exact h.elim
    ·exact h.elim

theorem hnd_m (n : Nat) : HndM (hnd P A n) := hnd_of (wpF_me n).1 (wpF_me n).2

end Go.Ab

/- What a rule looks at. -/
namespace Go.Ab
variable {P : Program} {A : Ann}

section
variable {ob ob' : Nat → Option Obj}

theorem refs_val {o t : Nat} {p : Pth} : o ∈ (AV.val o p t).refs := by
 cases p with
 | nil => simp [AV.refs, AV.refs1]
 | cons x p =>
  cases p with
  | nil => cases x <;> simp [AV.refs, AV.refs1]
  | cons y p => cases x <;> simp [AV.refs, AV.refs1]
theorem refs_celp {o t : Nat} : o ∈ (AV.celp o t).refs := by simp [AV.refs, AV.refs1]
theorem refs_vptr {o t : Nat} {p : Pth} : o ∈ (AV.vptr o p t).refs := by
 cases p with
 | nil => simp [AV.refs, AV.refs1]
 | cons x p =>
  cases p with
  | nil => cases x <;> simp [AV.refs, AV.refs1]
  | cons y p => cases x <;> simp [AV.refs, AV.refs1]
theorem refs_ptr {o t : Nat} {p : Pth} : o ∈ (AV.ptr o p t).refs := by simp [AV.refs, AV.refs1]
theorem refs_old {o t : Nat} {d : D} : o ∈ (AV.old o t d).refs := by simp [AV.refs, AV.refs1]
theorem refs_flat {a : AV} (h : a.flatA = true) : a.refs = a.refs1 := by
 cases a <;> first | rfl | simp [AV.flatA] at h

theorem data_local {t : Nat} {a : AV} (h : ∀ c ∈ a.refs, ob c = ob' c) : St.data P ob t a = St.data P ob' t a := by
 cases a with
 | val o p u => simp only [St.data, h o refs_val]
 | old o u d => simp only [St.data, h o refs_old]
 | _ => rfl
theorem takeV_local {t : Nat} {a : AV} (h : ∀ c ∈ a.refs, ob c = ob' c) : takeV P ob t a = takeV P ob' t a := by
 cases a with
 | val o p u => cases p <;> simp only [takeV, h o refs_val]
 | con v => unfold takeV; split <;> first | rfl | (rename_i heq; cases heq)
 | _ => rfl
theorem capD_local {k : PK} {a : AV} (h : ∀ c ∈ a.refs, ob c = ob' c) : capD P ob k a = capD P ob' k a := by
 cases k with
 | imm t =>
  cases a with
  | val o p u => simp only [capD, data_local h, immAt, h o refs_val]
  | old o u d => simp only [capD, data_local h]
  | _ => simp only [capD, data_local h]
 | iptr e =>
  cases a with
  | ptr o p u => simp only [capD, h o refs_ptr]
  | _ => rfl
 | lent e s bx => cases a <;> rfl
theorem capD_ids {k : PK} {a : AV} {d : D} {bs : List (Nat × Option Pth)} (h : capD P ob k a = some (d, bs)) : ∀ x ∈ bs, x.1 ∈ a.refs := by
 cases k with
 | imm t =>
  cases a with
  | val o p u =>
   simp only [capD] at h
   split at h <;> try contradiction
   simp only [Option.some.injEq, Prod.mk.injEq] at h
   obtain ⟨_, rfl⟩ := h
   intro x hx
   cases hi : immAt ob o p with
   | true => rw [hi] at hx; simp at hx
   | false =>
    rw [hi] at hx
    simp only [cond_false, List.mem_singleton] at hx
    subst hx
    exact refs_val
  | old o u d' =>
   simp only [capD] at h
   split at h <;> try contradiction
   simp only [Option.some.injEq, Prod.mk.injEq] at h
   obtain ⟨_, rfl⟩ := h
   intro x hx
   simp only [List.mem_singleton] at hx
   subst hx
   exact refs_old
  | _ =>
   simp only [capD] at h
   split at h <;> first | contradiction | (simp only [Option.some.injEq, Prod.mk.injEq] at h; obtain ⟨_, rfl⟩ := h; simp; done) | (cases h; done)
 | iptr e =>
  cases a with
  | ptr o p u =>
   simp only [capD, cond_eq] at h
   split at h <;> try contradiction
   split at h <;> try contradiction
   split at h <;> try contradiction
   split at h <;> try contradiction
   simp only [Option.some.injEq, Prod.mk.injEq] at h
   obtain ⟨_, rfl⟩ := h
   intro x hx
   simp only [List.mem_singleton] at hx
   subst hx
   exact refs_ptr
  | iptr u d' =>
   simp only [capD] at h
   obtain ⟨_, h⟩ := of_condO h
   simp only [Prod.mk.injEq] at h
   obtain ⟨_, rfl⟩ := h
   simp
  | _ => simp [capD] at h
 | lent e s bx => cases a <;> simp [capD] at h


theorem capsD_local : ∀ (ks : List PK) (l : List AV), (∀ a ∈ l, ∀ c ∈ a.refs1, ob c = ob' c) → capsD P ob ks l = capsD P ob' ks l
 | [], [], _ => rfl
 | [], _ :: _, _ => rfl
 | _ :: _, [], _ => rfl
 | k :: ks, a :: l, h => by
  have h1 : capD P ob k a = capD P ob' k a := by
   by_cases hf : a.flatA = true
   ·exact capD_local fun c hc => h a (by simp) c (by rw [refs_flat hf] at hc; exact hc)
   ·cases a <;> first | simp [AV.flatA] at hf; done | skip
    all_goals cases k <;> rfl
  simp only [capsD, h1, capsD_local ks l fun b hb => h b (List.mem_cons_of_mem _ hb)]
theorem capsD_ids : ∀ (ks : List PK) (l : List AV) (ds : List D) (bs : List (Nat × Option Pth)), capsD P ob ks l = some (ds, bs) → ∀ x ∈ bs, ∃ a ∈ l, x.1 ∈ a.refs1
 | [], [], ds, bs, h => by simp only [capsD, Option.some.injEq, Prod.mk.injEq] at h; obtain ⟨_, rfl⟩ := h; simp
 | [], _ :: _, ds, bs, h => by simp [capsD] at h
 | _ :: _, [], ds, bs, h => by simp [capsD] at h
 | k :: ks, a :: l, ds, bs, h => by
  simp only [capsD] at h
  split at h <;> try contradiction
  rename_i d b1 ds2 b2 h1 h2
  simp only [Option.some.injEq, Prod.mk.injEq] at h
  obtain ⟨_, rfl⟩ := h
  intro x hx
  rcases List.mem_append.1 hx with hx | hx
  ·refine ⟨a, by simp, ?_⟩
   have h3 := capD_ids h1 x hx
   by_cases hf : a.flatA = true
   ·rw [refs_flat hf] at h3; exact h3
   ·cases a <;> first | simp [AV.flatA] at hf; done | skip
    all_goals cases k <;> simp [capD, St.data] at h1
  ·obtain ⟨b, hb, h3⟩ := capsD_ids ks l ds2 b2 h2 x hx
   exact ⟨b, List.mem_cons_of_mem _ hb, h3⟩

theorem argD_local {k : PK} {a : AV} (h : ∀ c ∈ a.refs, ob c = ob' c) : argD P A ob k a = argD P A ob' k a := by
 cases k with
 | imm t =>
  cases a with
  | clo f l =>
   simp only [argD]
   rw [capsD_local _ l fun b hb c hc => h c (by simp only [AV.refs, List.mem_flatMap]; exact ⟨b, hb, hc⟩)]
  | fn f => rfl
  | _ => simp only [argD, capD_local h]
 | iptr e =>
  cases a with
  | iptr u d => rfl
  | ptr o p u => simp only [argD, capD_local h]
  | _ => rfl
 | lent e s bx =>
  cases bx with
  | true =>
   cases a with
   | ptr o p u => cases p <;> simp only [argD, h o refs_ptr]
   | _ => rfl
  | false =>
   cases a with
   | val o p u => cases p <;> simp only [argD, h o refs_val]
   | _ => rfl
theorem argD_ids {k : PK} {a : AV} {d : D} {bs : List (Nat × Option Pth)} {os : List Nat} (h : argD P A ob k a = some (d, bs, os)) : (∀ x ∈ bs, x.1 ∈ a.refs) ∧ ∀ o ∈ os, o ∈ a.refs := by
 have cap : ∀ (k : PK), (match (generalizing := false) capD P ob k a with
  | some (d, os) => some (d, os, ([] : List Nat))
  | none => none) = some (d, bs, os) → (∀ x ∈ bs, x.1 ∈ a.refs) ∧ ∀ o ∈ os, o ∈ a.refs := fun k h => by
  split at h <;> try contradiction
  rename_i d' b' hc
  simp only [Option.some.injEq, Prod.mk.injEq] at h
  obtain ⟨_, rfl, rfl⟩ := h
  exact ⟨capD_ids hc, by simp⟩
 cases k with
 | imm t =>
  cases a with
  | clo f l =>
   simp only [argD] at h
   split at h <;> try contradiction
   split at h <;> try contradiction
   rename_i ds b' hc
   simp only [Option.some.injEq, Prod.mk.injEq] at h
   obtain ⟨_, rfl, rfl⟩ := h
   refine ⟨fun x hx => ?_, by simp⟩
   obtain ⟨b, hb, h3⟩ := capsD_ids _ l _ _ hc x hx
   simp only [AV.refs, List.mem_flatMap]
   exact ⟨b, hb, h3⟩
  | fn f =>
   simp only [argD] at h
   split at h <;> try contradiction
   simp only [Option.some.injEq, Prod.mk.injEq] at h
   obtain ⟨_, rfl, rfl⟩ := h
   simp
  | _ => exact cap (.imm t) h
 | iptr e =>
  cases a with
  | iptr u d' =>
   simp only [argD] at h
   obtain ⟨_, h⟩ := of_condO h
   simp only [Prod.mk.injEq] at h
   obtain ⟨_, rfl, rfl⟩ := h
   simp
  | ptr o p u =>
   simp only [argD] at h
   split at h <;> try contradiction
   rename_i d' b' hc
   simp only [Option.some.injEq, Prod.mk.injEq] at h
   obtain ⟨_, rfl, rfl⟩ := h
   exact ⟨capD_ids hc, by simp⟩
  | _ => simp [argD] at h
 | lent e s bx =>
  cases bx with
  | true =>
   cases a with
   | ptr o p u =>
    cases p with
    | nil =>
     simp only [argD, cond_eq] at h
     split at h <;> try contradiction
     split at h <;> try contradiction
     split at h <;> try contradiction
     simp only [Option.some.injEq, Prod.mk.injEq] at h
     obtain ⟨_, rfl, rfl⟩ := h
     refine ⟨by simp, fun x hx => ?_⟩
     simp only [List.mem_singleton] at hx
     subst hx
     exact refs_ptr
    | cons z p => simp [argD] at h
   | _ => simp [argD] at h
  | false =>
   cases a with
   | val o p u =>
    cases p with
    | nil =>
     simp only [argD, cond_eq] at h
     split at h <;> try contradiction
     split at h <;> try contradiction
     split at h <;> try contradiction
     simp only [Option.some.injEq, Prod.mk.injEq] at h
     obtain ⟨_, rfl, rfl⟩ := h
     refine ⟨by simp, fun x hx => ?_⟩
     simp only [List.mem_singleton] at hx
     subst hx
     exact refs_val
    | cons z p => simp [argD] at h
   | _ => simp [argD] at h

theorem argC_local {k : PK} {a : AV} (h : ∀ c ∈ a.refs, ob c = ob' c) : argC P ob k a = argC P ob' k a := by
 cases k with
 | lent e s bx =>
  cases bx with
  | true =>
   cases a with
   | celp o u => simp only [argC, h o refs_celp]
   | _ => rfl
  | false => rfl
 | _ => rfl
theorem argC_ids {k : PK} {a : AV} {d : D} {bs : List (Nat × Option Pth)} {os : List Nat} (h : argC P ob k a = some (d, bs, os)) : (∀ x ∈ bs, x.1 ∈ a.refs) ∧ ∀ o ∈ os, o ∈ a.refs := by
 unfold argC at h
 split at h <;> try contradiction
 simp only [cond_eq] at h
 split at h <;> try contradiction
 split at h <;> try contradiction
 split at h <;> try contradiction
 simp only [Option.some.injEq, Prod.mk.injEq] at h
 obtain ⟨_, rfl, rfl⟩ := h
 refine ⟨by simp, fun x hx => ?_⟩
 simp only [List.mem_singleton] at hx
 subst hx
 exact refs_celp
theorem argsD_local {cs : List Nat} : ∀ (i : Nat) (ks : List PK) (l : List AV), (∀ a ∈ l, ∀ c ∈ a.refs, ob c = ob' c) → argsD P A ob cs i ks l = argsD P A ob' cs i ks l
 | _, [], [], _ => rfl
 | _, [], _ :: _, _ => rfl
 | _, _ :: _, [], _ => rfl
 | i, k :: ks, a :: l, h => by
  simp only [argsD, argD_local (h a (by simp)), argC_local (h a (by simp)), argsD_local (i + 1) ks l fun b hb => h b (List.mem_cons_of_mem _ hb)]
theorem argsD_ids {cs : List Nat} : ∀ (i : Nat) (ks : List PK) (l : List AV) (ds : List D) (bs : List (Nat × Option Pth)) (os : List Nat), argsD P A ob cs i ks l = some (ds, bs, os) → (∀ x ∈ bs, ∃ a ∈ l, x.1 ∈ a.refs) ∧ ∀ o ∈ os, ∃ a ∈ l, o ∈ a.refs
 | _, [], [], ds, bs, os, h => by simp only [argsD, Option.some.injEq, Prod.mk.injEq] at h; obtain ⟨_, rfl, rfl⟩ := h; simp
 | _, [], _ :: _, ds, bs, os, h => by simp [argsD] at h
 | _, _ :: _, [], ds, bs, os, h => by simp [argsD] at h
 | i, k :: ks, a :: l, ds, bs, os, h => by
  simp only [argsD] at h
  split at h <;> try contradiction
  rename_i d b1 o1 ds2 b2 o2 h1 h2
  simp only [Option.some.injEq, Prod.mk.injEq] at h
  obtain ⟨_, rfl, rfl⟩ := h
  have hone : (∀ x ∈ b1, x.1 ∈ a.refs) ∧ ∀ o ∈ o1, o ∈ a.refs := by
   cases hc : isCel cs i with
   | true => rw [hc, cond_true] at h1; exact argC_ids h1
   | false => rw [hc, cond_false] at h1; exact argD_ids h1
  obtain ⟨i1, i2⟩ := hone
  obtain ⟨j1, j2⟩ := argsD_ids (i + 1) ks l ds2 b2 o2 h2
  refine ⟨fun x hx => ?_, fun x hx => ?_⟩
  ·rcases List.mem_append.1 hx with hx | hx
   ·exact ⟨a, by simp, i1 x hx⟩
   ·obtain ⟨b, hb, h3⟩ := j1 x hx
    exact ⟨b, List.mem_cons_of_mem _ hb, h3⟩
  ·rcases List.mem_append.1 hx with hx | hx
   ·exact ⟨a, by simp, i2 x hx⟩
   ·obtain ⟨b, hb, h3⟩ := j2 x hx
    exact ⟨b, List.mem_cons_of_mem _ hb, h3⟩

theorem frz_local {bs : List (Nat × Option Pth)} : ∀ (l : List (Nat × Option Pth)), (∀ x ∈ l, ob x.1 = ob' x.1) → frz ob bs l = frz ob' bs l
 | [], _ => rfl
 | (o, q) :: l, h => by simp only [frz, h (o, q) (by simp), frz_local l fun x hx => h x (List.mem_cons_of_mem _ hx)]
theorem lentUp_local (r : List D) : ∀ (os : List Nat) (k : Nat), (∀ o ∈ os, ob o = ob' o) → lentUp ob k r os = lentUp ob' k r os
 | [], _, _ => rfl
 | o :: os, k, h => by simp only [lentUp, h o (by simp), lentUp_local r os (k + 1) fun x hx => h x (List.mem_cons_of_mem _ hx)]

theorem boxD_local {f dst t : Nat} {x : AV} {K : Dl → Prop} {C : Prop} (h : ∀ c ∈ x.refs, ob c = ob' c) : boxD P A f dst t x ob K C = boxD P A f dst t x ob' K C := by
 cases x with
 | val o p u =>
  cases p with
  | nil => simp only [boxD, h o refs_val]
  | cons _ _ => rfl
 | ptr o p u =>
  cases p with
  | nil => simp only [boxD, h o refs_ptr]
  | cons _ _ => rfl
 | _ => rfl
theorem primD_local {dst : Option Nat} {f : Nat} {l : List AV} {K : Dl → Prop} (h : ∀ a ∈ l, ∀ c ∈ a.refs, ob c = ob' c) : primD P dst f l ob K = primD P dst f l ob' K := by
 unfold primD
 cases dst with
 | none => rfl
 | some d =>
  cases l with
  | nil => rfl
  | cons a l =>
   cases l with
   | cons _ _ =>
    cases a with
    | val o p u => cases p <;> rfl
    | _ => rfl
   | nil =>
    cases a with
    | val o p u =>
     cases p with
     | nil => simp only [h (.val o [] u) (List.mem_singleton.2 rfl) o refs_val]
     | cons _ _ => rfl
    | _ => rfl
theorem callD_local {H : Hnd} {dst : Option Nat} {f : Nat} {l : List AV} {K : Dl → Prop} (h : ∀ a ∈ l, ∀ c ∈ a.refs, ob c = ob' c) : callD P A H dst f l ob K = callD P A H dst f l ob' K := by
 unfold callD
 rw [argsD_local _ _ l h]
 split
 ·rename_i ds bs os har
  obtain ⟨i1, i2⟩ := argsD_ids _ _ _ _ _ _ har
  have hf : frz ob bs bs = frz ob' bs bs := frz_local bs fun x hx => by
   obtain ⟨a, ha, hc⟩ := i1 x hx
   exact h a ha _ hc
  have hl : ∀ (r : List D) (k : Nat), lentUp ob k r os = lentUp ob' k r os := fun r k => lentUp_local r os k fun o ho => by
   obtain ⟨a, ha, hc⟩ := i2 o ho
   exact h a ha _ hc
  have hm : (os.map fun o => (o, lnM ob o)) = os.map fun o => (o, lnM ob' o) := List.map_congr_left fun o ho => by
   obtain ⟨a, ha, hc⟩ := i2 o ho
   unfold lnM
   rw [h a ha _ hc]
  simp only [hf, hl, hm]
 ·rfl

theorem partD_local {H : Hnd} {f : Nat} {l : List AV} {K : Dl → Prop} (h : ∀ a ∈ l, ∀ c ∈ a.refs, ob c = ob' c) : partD P A H f l ob K = partD P A H f l ob' K := by
 unfold partD
 split
 ·rename_i o j u l' e sh ps _ _
  have ho : ob o = ob' o := h (.val o [.fld j] u) (by simp) o refs_val
  have hl : argsD P A ob [] 1 ps l' = argsD P A ob' [] 1 ps l' := argsD_local _ _ l' fun a ha => h a (List.mem_cons_of_mem _ ha)
  simp only [ho, hl]
 ·rfl
theorem everyD_local {H : Hnd} {f : Nat} {l : List AV} {K : Dl → Prop} (hn : ∀ a ∈ l, a.nest = true) (h : ∀ a ∈ l, ∀ c ∈ a.refs, ob c = ob' c) : everyD P A H f l ob K = everyD P A H f l ob' K := by
 unfold everyD
 split
 ·rename_i t d f' l'
  have hm : AV.clo f' l' ∈ [AV.imm t d, AV.clo f' l'] := by simp
  have hl' : ∀ b ∈ l', ∀ c ∈ b.refs, ob c = ob' c := fun b hb c hc => by
   have hn1 := hn _ hm
   simp only [AV.nest, List.all_eq_true] at hn1
   exact h _ hm c (by simp only [AV.refs, List.mem_flatMap]; exact ⟨b, hb, by rw [← refs_flat (hn1 b hb)]; exact hc⟩)
  split
  ·rename_i e ps u _ _ _
   simp only [argsD_local (A := A) (cs := []) 1 ps l' hl']
   split
   ·rename_i ds bs os u' har _ _
    obtain ⟨_, i2⟩ := argsD_ids _ _ _ _ _ _ har
    have hl : ∀ (r : List D) (k : Nat), lentUp ob k r os = lentUp ob' k r os := fun r k => lentUp_local r os k fun o ho => by
     obtain ⟨a, ha, hc⟩ := i2 o ho
     exact hl' a ha _ hc
    have hm : (os.map fun o => (o, lnM ob o)) = os.map fun o => (o, lnM ob' o) := List.map_congr_left fun o ho => by
     obtain ⟨a, ha, hc⟩ := i2 o ho
     unfold lnM
     rw [hl' a ha _ hc]
    simp only [hl, hm]
   ·rfl
  ·rfl
 ·rfl

theorem partsD_local {ty : Nat → Option Nat} : ∀ (l : List (Nat × AV)), (∀ x ∈ l, ∀ c ∈ x.2.refs, ob c = ob' c) → partsD P ob ty l = partsD P ob' ty l
 | [], _ => rfl
 | (j, a) :: l, h => by
  have h1 : ∀ t, takeV P ob t a = takeV P ob' t a := fun t => takeV_local (h (j, a) (by simp))
  simp only [partsD, h1, partsD_local l fun x hx => h x (List.mem_cons_of_mem _ hx)]

theorem tail_local {t : Nat} {a : AV} (h : ∀ c ∈ a.refs, ob c = ob' c) : appTail P ob t a = appTail P ob' t a := by
 cases a with
 | val o p u => cases p <;> simp only [appTail, h o refs_val]
 | old o u d => simp only [appTail, data_local h]
 | _ => simp only [appTail, data_local h]

theorem loadD_local {t : Nat} {a : AV} {K : AV → Prop} (h : ∀ c ∈ loadRefs a, ob c = ob' c) : loadD P ob t a K = loadD P ob' t a K := by
 cases a with
 | ptr o p u =>
  have := h o (show o ∈ loadRefs (.ptr o p u) from refs_ptr (o := o) (p := p) (t := u))
  simp only [loadD, this]
 | _ => rfl
theorem fieldD_local {t j : Nat} {a : AV} {K : AV → Prop} (h : ∀ c ∈ a.refs, ob c = ob' c) : fieldD P ob t a j K = fieldD P ob' t a j K := by
 cases a with
 | ptr o p u => simp only [fieldD, h o refs_ptr]
 | vptr o p e =>
  cases p with
  | nil => simp only [fieldD, h o refs_vptr]
  | cons _ _ => rfl
 | _ => rfl
theorem indexD_local {t : Nat} {a i : AV} {K : AV → Prop} (h : ∀ c ∈ a.refs, ob c = ob' c) : indexD P ob t a i K = indexD P ob' t a i K := by
 cases a with
 | ptr o p u => simp only [indexD, h o refs_ptr]
 | val o p u => simp only [indexD, h o refs_val]
 | _ => rfl
theorem storeD_local {t : Nat} {a x : AV} {K : Dl → Prop} (h : ∀ c ∈ a.refs, ob c = ob' c) (h' : ∀ c ∈ x.refs, ob c = ob' c) : storeD P ob t a x K = storeD P ob' t a x K := by
 cases a with
 | ptr o p u => simp only [storeD, h o refs_ptr, takeV_local h']
 | _ => rfl
theorem appendD_local {dst t : Nat} {x y : AV} {K : Dl → Prop} (h : ∀ c ∈ x.refs, ob c = ob' c) (h' : ∀ c ∈ y.refs, ob c = ob' c) : appendD P ob dst t x y K = appendD P ob' dst t x y K := by
 unfold appendD
 rw [tail_local h']
 cases x with
 | val o p u => simp only [norm, h o refs_val, newO]
 | con v =>
  have : ∀ o p u, norm P t (.con v) ≠ .val o p u := fun o p u e => by
   simp only [norm] at e
   split at e
   ·cases e
   ·split at e <;> cases e
  generalize hn : norm P t (.con v) = n at this
  cases n with
  | val o p u => exact absurd rfl (this o p u)
  | _ => simp only [newO]
 | _ => simp only [norm, newO]
theorem binD_local {op : BinOp} {tx ty tr : Nat} {x y : AV} {K : AV → Prop} (h : ∀ c ∈ x.refs, ob c = ob' c) (h' : ∀ c ∈ y.refs, ob c = ob' c) : binD P ob op tx ty tr x y K = binD P ob' op tx ty tr x y K := by
 have h1 : ∀ t, St.data P ob t x = St.data P ob' t x := fun t => data_local h
 have h2 : ∀ t, St.data P ob t y = St.data P ob' t y := fun t => data_local h'
 simp only [binD, h1, h2]

def moveOp : Op → Bool
 | .move _ | .assign _ | .pick .. => true
 | _ => false
def extOp : Op → Bool
 | .extract .. => true
 | _ => false

theorem ints_local {k : TK} : ∀ (ts : List Nat) (l : List AV), (∀ a ∈ l, ∀ c ∈ a.refs, ob c = ob' c) → ints P ob k ts l = ints P ob' k ts l
 | [], [], _ => rfl
 | [], _ :: _, _ => rfl
 | _ :: _, [], _ => rfl
 | t :: ts, a :: l, h => by
  simp only [ints, data_local (h a (by simp)), ints_local ts l fun b hb => h b (by simp [hb])]

/-- WHAT A RULE LOOKS AT. -/
theorem stepD_local {H : Hnd} {f : Nat} {o : Oper} {av av' : Operand → AV} (hl : (simOp P o.op || calOp o.op) = true) (hnest : ∀ x ∈ o.op.operands.toList, (av x).nest = true) (hav : ∀ x ∈ o.op.operands.toList, av x = av' x) (hobr : ∀ c ∈ opRefs av o.op, ob c = ob' c) (K : Dl → Prop) :
  stepD P A H f o av ob K = stepD P A H f o av' ob' K := by
 have hob : (moveOp o.op || extOp o.op) = true ∨ ((∀ t x, o.op ≠ .load t x) → ∀ x ∈ o.op.operands.toList, ∀ c ∈ (av x).refs, ob c = ob' c) := by
  cases hm : (moveOp o.op || extOp o.op) with
  | true => exact .inl rfl
  | false =>
   right
   intro hl x hx c hc
   refine hobr c ?_
   have e : opRefs av o.op = o.op.operands.toList.flatMap fun x => (av x).refs := by
    cases hop : o.op <;> first | rfl | (rw [hop] at hm; simp [moveOp, extOp] at hm; done) | exact absurd hop (hl _ _)
   rw [e]
   exact List.mem_flatMap.2 ⟨x, hx, hc⟩
 unfold stepD
 cases hop : o.op with
 | move x =>
  have e := hav x (by simp [hop, Op.operands])
  simp only [e]
 | assign x =>
  have e := hav x (by simp [hop, Op.operands])
  simp only [e]
 | pick c x y =>
  have e1 := hav c (by simp [hop, Op.operands])
  have e2 := hav x (by simp [hop, Op.operands])
  have e3 := hav y (by simp [hop, Op.operands])
  simp only [e1, e2, e3]
 | load t x =>
  have e := hav x (by simp [hop, Op.operands])
  have r : ∀ c ∈ loadRefs (av x), ob c = ob' c := fun c hc => hobr c (by rw [hop]; exact hc)
  simp only [← e]
  exact loadD_local r
 | nilCheck x =>
  have e := hav x (by simp [hop, Op.operands])
  have r := (hob.resolve_left (by simp [hop, moveOp, extOp]) (by simp [hop])) x (by simp [hop, Op.operands])
  simp only [← e]
  cases hx : av x with
  | ptr q p u => rw [hx] at r; simp only [r q refs_ptr]
  | _ => rfl
 | fieldAddr s x j =>
  have e := hav x (by simp [hop, Op.operands])
  have r := (hob.resolve_left (by simp [hop, moveOp, extOp]) (by simp [hop])) x (by simp [hop, Op.operands])
  simp only [← e]
  exact fieldD_local r
 | indexAddr t x i =>
  have e := hav x (by simp [hop, Op.operands])
  have e2 := hav i (by simp [hop, Op.operands])
  have r := (hob.resolve_left (by simp [hop, moveOp, extOp]) (by simp [hop])) x (by simp [hop, Op.operands])
  simp only [← e, ← e2]
  exact indexD_local r
 | unOp op t x =>
  have e := hav x (by simp [hop, Op.operands])
  have r := (hob.resolve_left (by simp [hop, moveOp, extOp]) (by simp [hop])) x (by simp [hop, Op.operands])
  simp only [← e, unD, data_local r]
 | convert s d x =>
  have e := hav x (by simp [hop, Op.operands])
  have r := (hob.resolve_left (by simp [hop, moveOp, extOp]) (by simp [hop])) x (by simp [hop, Op.operands])
  simp only [← e, data_local r]
 | binOp op tx x y ty =>
  have e := hav x (by simp [hop, Op.operands])
  have e2 := hav y (by simp [hop, Op.operands])
  have r := (hob.resolve_left (by simp [hop, moveOp, extOp]) (by simp [hop])) x (by simp [hop, Op.operands])
  have r2 := (hob.resolve_left (by simp [hop, moveOp, extOp]) (by simp [hop])) y (by simp [hop, Op.operands])
  simp only [← e, ← e2]
  exact binD_local r r2
 | makeSlice t x y =>
  have e := hav x (by simp [hop, Op.operands])
  have e2 := hav y (by simp [hop, Op.operands])
  simp only [← e, ← e2, makeSliceD, newO]
 | alloc t => simp only [newO]
 | box t x =>
  have e := hav x (by simp [hop, Op.operands])
  have r := (hob.resolve_left (by simp [hop, moveOp, extOp]) (by simp [hop])) x (by simp [hop, Op.operands])
  simp only [← e, takeV_local r, newO, boxD_local r]
 | store t x y =>
  have e := hav x (by simp [hop, Op.operands])
  have e2 := hav y (by simp [hop, Op.operands])
  have r := (hob.resolve_left (by simp [hop, moveOp, extOp]) (by simp [hop])) x (by simp [hop, Op.operands])
  have r2 := (hob.resolve_left (by simp [hop, moveOp, extOp]) (by simp [hop])) y (by simp [hop, Op.operands])
  simp only [← e, ← e2]
  exact storeD_local r r2
 | build t parts =>
  have hp : parts.toList.map (fun x => (x.1, av x.2)) = parts.toList.map (fun x => (x.1, av' x.2)) := List.map_congr_left fun x hx => by
   rw [hav x.2 (by simp only [hop, Op.operands, List.toList_toArray]; exact List.mem_map_of_mem hx)]
  have r : ∀ x ∈ parts.toList.map (fun x => (x.1, av x.2)), ∀ c ∈ x.2.refs, ob c = ob' c := fun x hx => by
   obtain ⟨y, hy, rfl⟩ := List.mem_map.1 hx
   exact (hob.resolve_left (by simp [hop, moveOp, extOp]) (by simp [hop])) y.2 (by simp only [hop, Op.operands, List.toList_toArray]; exact List.mem_map_of_mem hy)
  simp only [← hp, buildD, partsD_local _ r, newO]
 | buildSlice t n parts =>
  have hp : parts.toList.map (fun x => (x.1, av x.2)) = parts.toList.map (fun x => (x.1, av' x.2)) := List.map_congr_left fun x hx => by
   rw [hav x.2 (by simp only [hop, Op.operands, List.toList_toArray]; exact List.mem_map_of_mem hx)]
  have r : ∀ x ∈ parts.toList.map (fun x => (x.1, av x.2)), ∀ c ∈ x.2.refs, ob c = ob' c := fun x hx => by
   obtain ⟨y, hy, rfl⟩ := List.mem_map.1 hx
   exact (hob.resolve_left (by simp [hop, moveOp, extOp]) (by simp [hop])) y.2 (by simp only [hop, Op.operands, List.toList_toArray]; exact List.mem_map_of_mem hy)
  simp only [← hp, buildSliceD, partsD_local _ r, newO]
 | call c =>
  rw [hop] at hl hav hob hnest
  have hm : (moveOp (.call c) || extOp (.call c)) = true → False := fun h => by simp [moveOp, extOp] at h
  have hob := hob.resolve_left hm (fun _ _ h => by cases h)
  have hargs : ∀ x ∈ c.args.toList, x ∈ (Op.call c).operands.toList := fun x hx => by
   simp only [Op.operands, Call.operands]
   cases c.callee <;> simp <;> simp at hx <;> first | exact .inl hx | exact .inr hx | exact hx
  have ha : c.args.toList.map av = c.args.toList.map av' := List.map_congr_left fun x hx => hav x (hargs x hx)
  have hr : ∀ b ∈ c.args.toList.map av, ∀ q ∈ b.refs, ob q = ob' q := fun b hb => by
   obtain ⟨x, hx, rfl⟩ := List.mem_map.1 hb
   exact hob x (hargs x hx)
  have hna : ∀ b ∈ c.args.toList.map av, b.nest = true := fun b hb => by
   obtain ⟨x, hx, rfl⟩ := List.mem_map.1 hb
   exact hnest x (hargs x hx)
  simp only [simOp, calOp] at hl
  simp only
  cases hc : c.callee with
  | builtin b =>
   rw [hc] at hl
   cases b <;> simp only [Bool.or_self, Bool.false_eq_true] at hl <;> simp only
   ·-- append
    cases o.dst with
    | none => rfl
    | some d =>
     split
     ·rename_i d' t u x y _ ht hx
      have m1 := hargs x (by rw [hx]; simp)
      have m2 := hargs y (by rw [hx]; simp)
      rw [← hav x m1, ← hav y m2, appendD_local (hob x m1) (hob y m2)]
     ·rfl
   ·cases ht : c.argTypes.toList with
    | nil => rfl
    | cons t ts =>
     cases ts with
     | cons _ _ => rfl
     | nil =>
      cases hx : c.args.toList with
      | nil => rfl
      | cons x xs =>
       cases xs with
       | cons _ _ => rfl
       | nil =>
        have m1 := hargs x (by rw [hx]; simp)
        simp only [← hav x m1, lenD, data_local (hob x m1)]
   ·simp only [← ha, ints_local _ _ hr]
   ·simp only [← ha, ints_local _ _ hr]
  | value x =>
   have hx : x ∈ (Op.call c).operands.toList := by simp [Op.operands, Call.operands, hc]
   simp only [← hav x hx, ← ha]
   cases hvx : av x with
   | fn h => simp only [callD_local hr, primD_local hr, partD_local hr, everyD_local hna hr]
   | clo h l =>
    refine callD_local fun b hb => ?_
    rcases List.mem_append.1 hb with hb | hb
    ·exact hr b hb
    ·intro q hq
     refine hob x hx q ?_
     have hn := hnest x hx
     rw [hvx] at hn ⊢
     simp only [AV.nest, List.all_eq_true] at hn
     simp only [AV.refs, List.mem_flatMap]
     exact ⟨b, hb, by rw [← refs_flat (hn b hb)]; exact hq⟩
   | imm t d => simp only [argsD_local _ _ _ hr]
   | _ => rfl
  | invoke x nm => rw [hc] at hl; cases hl
 | extract x i =>
  have e := hav x (by simp [hop, Op.operands])
  rw [hop] at hobr
  simp only [opRefs] at hobr
  simp only [← e]
  cases hx : av x with
  | tup l =>
   rw [hx] at hobr
   simp only at hobr ⊢
   cases hl : l[i]? with
   | none => rfl
   | some b =>
    rw [hl] at hobr
    simp only at hobr
    cases b with
    | val k p u =>
     cases p with
     | nil => simp only [hobr k (by simp [AV.refs1]), newO]
     | cons _ _ => rfl
    | ptr k p u =>
     cases p with
     | nil => simp only [hobr k (by simp [AV.refs1]), newO]
     | cons _ _ => rfl
    | _ => rfl
  | _ => rfl
 | _ => exact absurd hl (by rw [hop]; simp [simOp, calOp])

end
end Go.Ab

/- Operations that may change places. -/
namespace Go.Ab
variable {P : Program} {A : Ann}

theorem fall1_cases (o : Nat) (m : KM) (a : AV) : fall1 o m a = a ∨ fall1 o m a = .dead ∨ (m.app? = true ∧ ∃ t x, fall1 o m a = .old o t x) := by
 cases m <;> cases a <;> first
  | exact .inl rfl
  | (simp only [fall1]; rcases cond_or (Nat.beq _ _ : Bool) _ _ with h | h <;> first | exact .inl h | exact .inr (.inl h))
  | (simp only [fall1]; rcases cond_or _ _ _ with h | h <;> first | exact .inl h | exact .inr (.inl h))
  | skip
 rename_i x o' p t
 simp only [fall1]
 cases hb : Nat.beq o o' with
 | false => exact .inl rfl
 | true =>
  cases p with
  | nil => rw [← beq_iff.1 hb]; exact .inr (.inr ⟨rfl, t, x, rfl⟩)
  | cons z p => exact .inr (.inl rfl)

theorem fall1_same {o : Nat} {m : KM} {a : AV} (h : Nat.beq (fall1 o m a).tag a.tag = true) : fall1 o m a = a := by
 rw [beq_iff] at h
 rcases fall1_cases o m a with e | e | ⟨hm, t, x, e⟩
 ·exact e
 ·rw [e] at h ⊢
  cases a <;> simp [AV.tag] at h
  rfl
 ·rw [e] at h
  cases a with
  | old o' t' d' =>
   cases m with
   | app x' =>
    simp only [fall1] at e ⊢
    cases hb : Nat.beq o o' with
    | false => rfl
    | true => rw [hb] at e; cases e
   | _ => cases hm
  | _ => simp [AV.tag] at h

theorem strike1_same {ks : List (Nat × KM)} {a : AV} (h : keeps1 ks a = true) : strike1 ks a = a := by
 induction ks with
 | nil => rfl
 | cons k ks ih =>
  simp only [keeps1, List.all_cons, Bool.and_eq_true] at h
  simp only [strike1, fall1_same h.1]
  exact ih h.2
theorem strike_same {ks : List (Nat × KM)} {a : AV} (h : keepsV ks a = true) : strike ks a = a := by
 by_cases hf : a.flatA = true
 ·rw [(strike_flat ks hf).1]
  refine strike1_same ?_
  cases a <;> first | exact h | simp [AV.flatA] at hf
 ·cases a <;> first | simp [AV.flatA] at hf; done | skip
  ·rename_i l
   simp only [keepsV, List.all_eq_true] at h
   rw [strike_tup]
   congr 1
   conv => rhs; rw [← List.map_id l]
   exact List.map_congr_left fun b hb => strike1_same (h b hb)
  ·rename_i f l
   simp only [keepsV, List.all_eq_true] at h
   rw [strike_clo]
   congr 1
   conv => rhs; rw [← List.map_id l]
   exact List.map_congr_left fun b hb => strike1_same (h b hb)

theorem strike1_old (ks : List (Nat × KM)) (o t : Nat) (d : D) : strike1 ks (.old o t d) = .old o t d ∨ strike1 ks (.old o t d) = .dead := by
 induction ks with
 | nil => exact .inl rfl
 | cons k ks ih =>
  simp only [strike1]
  rcases fall1_cases k.1 k.2 (.old o t d) with e | e | ⟨hm, t', x, e⟩
  ·rw [e]; exact ih
  ·rw [e, strike1_dead]; exact .inr rfl
  ·cases hk : k.2 <;> rw [hk] at hm e <;> simp [KM.app?] at hm
   simp only [fall1] at e
   cases hb : Nat.beq k.1 o <;> rw [hb] at e <;> simp at e
   simp only [fall1, hb, cond_false]
   exact ih

theorem strike1_kept {ks : List (Nat × KM)} {a : AV} (hl : (strike1 ks a).live1 = true) (ha : ∀ k ∈ ks, k.2.app? = true → k.1 ∉ (strike1 ks a).refs1) : strike1 ks a = a := by
 induction ks generalizing a with
 | nil => rfl
 | cons k ks ih =>
  simp only [strike1] at hl ha ⊢
  rcases fall1_cases k.1 k.2 a with e | e | ⟨hm, t, x, e⟩
  ·rw [e] at hl ha ⊢
   exact ih hl fun k' hk' => ha k' (List.mem_cons_of_mem _ hk')
  ·rw [e, strike1_dead] at hl
   cases hl
  ·exfalso
   have h2 := ha k (by simp) hm
   rw [e] at hl h2
   rcases strike1_old ks k.1 t x with e2 | e2
   ·rw [e2] at h2; simp [AV.refs1] at h2
   ·rw [e2] at hl; cases hl

theorem strike_kept {ks : List (Nat × KM)} {a : AV} (h : keptV ks (strike ks a) = true) : strike ks a = a := by
 simp only [keptV, Bool.and_eq_true, List.all_eq_true, Bool.or_eq_true, Bool.not_eq_true', List.any_eq_false, beq_iff] at h
 obtain ⟨h1, h2⟩ := h
 have h3 : ∀ k ∈ ks, k.2.app? = true → k.1 ∉ (strike ks a).refs := fun k hk hm hr => by
  rcases h2 k hk with h | h
  ·rw [hm] at h; cases h
  ·exact h k.1 hr rfl
 by_cases hf : a.flatA = true
 ·obtain ⟨e1, e2⟩ := strike_flat ks hf
  rw [e1] at h1 h3 ⊢
  refine strike1_kept ?_ fun k hk hm => ?_
  ·generalize strike1 ks a = b at h1 e2
   cases b <;> first | exact h1 | simp [AV.flatA] at e2
  ·have := h3 k hk hm
   rw [refs_flat e2] at this
   exact this
 ·cases a <;> first | simp [AV.flatA] at hf; done | skip
  ·rename_i l
   rw [strike_tup] at h1 h3 ⊢
   simp only [AV.live, List.all_eq_true, List.mem_map] at h1
   congr 1
   conv => rhs; rw [← List.map_id l]
   refine List.map_congr_left fun b hb => strike1_kept (h1 _ ⟨b, hb, rfl⟩) fun k hk hm hr => h3 k hk hm ?_
   simp only [AV.refs, List.mem_flatMap, List.mem_map]
   exact ⟨_, ⟨b, hb, rfl⟩, hr⟩
  ·rename_i f l
   rw [strike_clo] at h1 h3 ⊢
   simp only [AV.live, List.all_eq_true, List.mem_map] at h1
   congr 1
   conv => rhs; rw [← List.map_id l]
   refine List.map_congr_left fun b hb => strike1_kept (h1 _ ⟨b, hb, rfl⟩) fun k hk hm hr => h3 k hk hm ?_
   simp only [AV.refs, List.mem_flatMap, List.mem_map]
   exact ⟨_, ⟨b, hb, rfl⟩, hr⟩

theorem app?_eq {m : KM} (h : m.app? = false) : m.isApp = false := by cases m <;> first | rfl | cases h

theorem strike1_comm {ks ls : List (Nat × KM)} (hk : ∀ k ∈ ks, k.2.app? = false) (hl : ∀ k ∈ ls, k.2.app? = false) (a : AV) : strike1 ks (strike1 ls a) = strike1 ls (strike1 ks a) := by
 have h1 := strike1_or ks a fun k h => .inl (app?_eq (hk k h))
 have h2 := strike1_or ls a fun k h => .inl (app?_eq (hl k h))
 rcases h1 with h1 | ⟨h1, _⟩ <;> rcases h2 with h2 | ⟨h2, _⟩ <;> rw [h1, h2] <;> simp only [strike1_dead, h1, h2]
theorem fall1_cases' (o : Nat) (m : KM) (a : AV) : fall1 o m a = a ∨ fall1 o m a = .dead ∨ ∃ t x, a = .val o [] t ∧ fall1 o m a = .old o t x := by
 cases m <;> cases a <;> first
  | exact .inl rfl
  | (simp only [fall1]; rcases cond_or (Nat.beq _ _ : Bool) _ _ with h | h <;> first | exact .inl h | exact .inr (.inl h))
  | (simp only [fall1]; rcases cond_or _ _ _ with h | h <;> first | exact .inl h | exact .inr (.inl h))
  | skip
 rename_i x o' p t
 simp only [fall1]
 cases hb : Nat.beq o o' with
 | false => exact .inl rfl
 | true =>
  cases p with
  | nil =>
   have := beq_iff.1 hb
   subst this
   exact .inr (.inr ⟨t, x, rfl, rfl⟩)
  | cons z p => exact .inr (.inl rfl)
theorem beq_ne {a b : Nat} (h : a ≠ b) : Nat.beq a b = false := by
 cases e : Nat.beq a b with
 | false => rfl
 | true => exact absurd (beq_iff.1 e) h
theorem fall1_dead (o : Nat) (m : KM) : fall1 o m .dead = .dead := by cases m <;> rfl
theorem fall1_old {o q : Nat} (h : o ≠ q) (m : KM) (t : Nat) (d : D) : fall1 o m (.old q t d) = .old q t d := by
 cases m <;> simp only [fall1, beq_ne h, Bool.false_and, cond_false]
theorem fall1_val {o q : Nat} (h : o ≠ q) (m : KM) (t : Nat) : fall1 o m (.val q [] t) = .val q [] t := by
 cases m <;> simp only [fall1, beq_ne h, Bool.false_and, Bool.or_false, cond_false]
/-- What falls by one object and by another, falls in any order. -/
theorem fall1_comm {o q : Nat} (hne : o ≠ q) (m n : KM) (a : AV) : fall1 o m (fall1 q n a) = fall1 q n (fall1 o m a) := by
 rcases fall1_cases' o m a with h1 | h1 | ⟨t, x, rfl, h1⟩
 ·rcases fall1_cases' q n a with h2 | h2 | ⟨t, x, rfl, h2⟩
  ·rw [h2, h1, h2]
  ·rw [h2, h1, h2, fall1_dead]
  ·rw [h1, h2, fall1_old hne]
 ·rcases fall1_cases' q n a with h2 | h2 | ⟨t, x, rfl, h2⟩
  ·rw [h2, h1, fall1_dead]
  ·rw [h2, h1, fall1_dead, fall1_dead]
  ·rw [fall1_val hne] at h1; cases h1
 ·rw [fall1_val fun h => hne h.symm, h1, fall1_old fun h => hne h.symm]
theorem fall1_strike1 {k : Nat × KM} {ls : List (Nat × KM)} (h : ∀ l ∈ ls, k.1 ≠ l.1) : ∀ a, fall1 k.1 k.2 (strike1 ls a) = strike1 ls (fall1 k.1 k.2 a) := by
 induction ls with
 | nil => intro a; rfl
 | cons l ls ih =>
  intro a
  simp only [strike1]
  rw [ih (fun l hl => h l (by simp [hl])), fall1_comm (h l (by simp))]
theorem strike1_comm' {ks ls : List (Nat × KM)} (h : ∀ k ∈ ks, ∀ l ∈ ls, k.1 ≠ l.1) : ∀ a, strike1 ks (strike1 ls a) = strike1 ls (strike1 ks a) := by
 induction ks with
 | nil => intro a; rfl
 | cons k ks ih =>
  intro a
  simp only [strike1]
  rw [fall1_strike1 (h k (by simp)), ih fun k hk => h k (by simp [hk])]
theorem strike_of1 {ks ls : List (Nat × KM)} (key : ∀ a, strike1 ks (strike1 ls a) = strike1 ls (strike1 ks a)) (a : AV) : strike ks (strike ls a) = strike ls (strike ks a) := by
 by_cases hf : a.flatA = true
 ·obtain ⟨e1, e2⟩ := strike_flat ls hf
  obtain ⟨e3, e4⟩ := strike_flat ks hf
  rw [e1, e3, (strike_flat ks e2).1, (strike_flat ls e4).1]
  exact key a
 ·cases a <;> first | simp [AV.flatA] at hf; done | skip
  ·rename_i l
   simp only [strike_tup, List.map_map]
   congr 1
   exact List.map_congr_left fun b _ => key b
  ·rename_i f l
   simp only [strike_clo, List.map_map]
   congr 1
   exact List.map_congr_left fun b _ => key b
theorem strike_comm {ks ls : List (Nat × KM)} (h : ks = [] ∨ ls = [] ∨ ((∀ k ∈ ks, k.2.app? = false) ∧ ∀ k ∈ ls, k.2.app? = false) ∨ ∀ k ∈ ks, ∀ l ∈ ls, k.1 ≠ l.1) (a : AV) : strike ks (strike ls a) = strike ls (strike ks a) := by
 rcases h with rfl | rfl | ⟨hk, hl⟩ | hd
 ·rfl
 ·rfl
 ·exact strike_of1 (strike1_comm hk hl) a
 ·exact strike_of1 (strike1_comm' hd) a

/-- States that look alike. -/
def EqSt (g g' : St) : Prop := look g.sl = look g'.sl ∧ lookO g.ob = lookO g'.ob
theorem EqSt.av {g g' : St} (h : EqSt g g') : g.av = g'.av := by
 funext x
 cases x <;> simp only [St.av, h.1]
theorem look_app (g : St) (dst : Option Nat) (δ : Dl) (s : Nat) : look (g.app dst δ).sl s = if dst = some s then δ.v else strike δ.ks (look g.sl s) := by
 cases dst with
 | none => rw [if_neg (by simp)]; exact look_strikes δ.ks g.sl s
 | some d =>
  show look ((d, δ.v) :: strikes δ.ks g.sl) s = _
  rw [look_cons]
  by_cases e : d = s
  ·rw [if_pos e, if_pos (by rw [e])]
  ·rw [if_neg e, if_neg (fun h => e (Option.some.inj h)), look_strikes]
theorem lookO_app (g : St) (dst : Option Nat) (δ : Dl) (c : Nat) : lookO (g.app dst δ).ob c = upO δ.os (lookO g.ob) c := lookO_append δ.os g.ob c
theorem EqSt.app {g g' : St} (h : EqSt g g') (dst : Option Nat) (δ : Dl) : EqSt (g.app dst δ) (g'.app dst δ) :=
 ⟨funext fun s => by rw [look_app, look_app, h.1], funext fun c => by rw [lookO_app, lookO_app, h.2]⟩
theorem EqSt.know {g g' : St} (h : EqSt g g') (s : Nat) (b : Bool) : EqSt (g.know s b) (g'.know s b) :=
 ⟨funext fun k => by simp only [St.know]; rw [look_cons, look_cons, h.1], h.2⟩
theorem EqSt.symm {g g' : St} (h : EqSt g g') : EqSt g' g := ⟨h.1.symm, h.2.symm⟩

def Closed (K : St → Prop) : Prop := ∀ g g', EqSt g g' → K g → K g'

section
variable {H : Hnd} {f : Nat}

theorem turn_eqSt {ops : Array Oper} {o : Oper} {g g' : St} {K K' : Bool → St → Dl → Prop} (hM : HndM H) (hK : ∀ r g g' δ, EqSt g g' → K r g δ → K' r g' δ) (he : EqSt g g') (h : g.turn P A H f ops o K) : g'.turn P A H f ops o K' := by
 unfold St.turn at h ⊢
 split
 ·rename_i hg
  rw [hg] at h
  simp only at h
  rw [← he.av, ← he.2]
  exact stepD_mono hM (fun δ hδ => hK _ _ _ _ he hδ) h
 ·rename_i j want hg
  rw [hg] at h
  simp only at h
  split
  ·rename_i s hs
   rw [hs] at h
   simp only at h
   rw [← he.1]
   split
   ·rename_i t d hl
    rw [hl] at h
    simp only at h
    revert h
    rw [← (he.know s true).av, ← (he.know s false).av, ← he.2]
    simp only [cond_eq]
    repeat' split
    all_goals first | exact id | exact stepD_mono hM (fun δ hδ => hK _ _ _ _ (he.know s _) hδ) | exact hK _ _ _ _ (he.know s _)
   ·rename_i hl
    rw [hl] at h
    exact hK _ _ _ _ he h
   ·rename_i h1 h2
    split at h
    ·rename_i t d hl; exact absurd hl (h1 t d)
    ·rename_i hl; exact absurd hl h2
    ·exact h
  ·rename_i hs; rw [hs] at h; exact h

theorem wpD_eq (hM : HndM H) {ops : Array Oper} {K : St → Prop} (hK : Closed K) : ∀ (l : List Nat) (fps : List FP) (g g' : St), EqSt g g' → wpD P A H f ops l fps g K → wpD P A H f ops l fps g' K
 | [], fps, g, g', he, h => hK g g' he h
 | i :: l, fps, g, g', he, h => by
  simp only [wpD] at h ⊢
  split
  ·rename_i ho; rw [ho] at h; exact wpD_eq hM hK l fps g g' he h
  ·rename_i o ho
   rw [ho] at h
   simp only at h
   obtain ⟨h1, h2⟩ := of_cond h
   rw [h1, cond_true]
   refine turn_eqSt hM (fun r g1 g2 δ he' hδ => ?_) he h2
   obtain ⟨h3, h4⟩ := of_cond hδ
   rw [← he'.av, h3, cond_true]
   exact wpD_eq hM hK l _ _ _ (he'.app o.dst δ) h4

end
end Go.Ab

/- A slice is taken out of a field: whoever looks at another field does not see it. -/
namespace Go.Ab
variable {P : Program} {A : Ann}

/-- An object that has changed at field 'j', and nowhere else (of the first 'm' fields). -/
def Soft (q j m : Nat) (ob ob' : Nat → Option Obj) : Prop := ∃ x y, ob q = some x ∧ ob' q = some y ∧ ∀ i, i ≠ j → i < m → y.sh.fld i = x.sh.fld i ∧ y.d.fld i = x.d.fld i

section
variable {ob ob' : Nat → Option Obj} {H : Hnd} {f : Nat}

theorem hole_fld {s s' : Sh} {j : Nat} {p : Pth} (h : s.hole (.fld j :: p) = some s') {i : Nat} (hi : i ≠ j) : s'.fld i = s.fld i := by
 simp only [Sh.hole] at h
 split at h <;> try contradiction
 split at h <;> try contradiction
 rw [Sh.setFld_fld h, if_neg hi]

theorem appendD_soft {d t q j u : Nat} {p : Pth} {y : AV} {K : Dl → Prop} (hd : q ≠ d) (h : appendD P ob d t (.val q (.fld j :: p) u) y K) : appendD P ob d t (.val q (.fld j :: p) u) y fun δ => K δ ∧ ∀ m, Soft q j m ob (upO δ.os ob) := by
 unfold appendD at h ⊢
 simp only [norm, cond_eq] at h ⊢
 revert h
 repeat' split
 all_goals first
  | exact id
  | (rename_i x hx _ _ _ _ _ sh hh _
     intro h
     refine ⟨h.1, h.2, fun m => ⟨x, { x with sh := sh }, hx, ?_, fun i hi _ => ⟨hole_fld hh hi, rfl⟩⟩⟩
     have e1 : Nat.beq d q = false := beq_ne fun e => hd e.symm
     have e2 : Nat.beq q d = false := beq_ne hd
     have e3 : Nat.beq q q = true := beq_iff.2 rfl
     simp [upO, newO, findO, e1, e2, e3, hd, Ne.symm hd])

theorem put_fld {s s' v : Sh} {j : Nat} {p : Pth} (h : s.put (.fld j :: p) v = some s') {i : Nat} (hi : i ≠ j) : s'.fld i = s.fld i := by
 simp only [Sh.put] at h
 split at h <;> try contradiction
 split at h <;> try contradiction
 rw [Sh.setFld_fld h, if_neg hi]

theorem dput_fld {t j i : Nat} {fs : List (Nat × Nat)} {d v : D} {p : Pth} (ht : tk P t = .struct fs) (hi : i ≠ j) (hl : i < fs.length) : (D.put P t d (.fld j :: p) v).fld i = d.fld i := by
 have e : Nat.beq i j = false := beq_ne hi
 simp only [D.put, ht, D.fld, D.fs]
 rw [List.getD_eq_getElem?_getD, List.getElem?_map]
 simp [hl, e, D.fld]

theorem storeD_soft {t q j u : Nat} {p : Pth} {x : AV} {K : Dl → Prop} (h : storeD P ob t (.ptr q (.fld j :: p) u) x K) : storeD P ob t (.ptr q (.fld j :: p) u) x fun δ => K δ ∧ ∀ y fs, lookO δ.os q = some y → tk P y.t = .struct fs → Soft q j fs.length ob (upO δ.os ob) := by
 unfold storeD at h ⊢
 simp only at h ⊢
 obtain ⟨h0, h⟩ := of_cond h
 rw [h0, cond_true]
 cases htk : takeV P ob t x with
 | none => rw [htk] at h; exact h.elim
 | some r =>
  obtain ⟨sv, d, os⟩ := r
  rw [htk] at h
  simp only at h ⊢
  cases hx : ob q with
  | none => rw [hx] at h; exact h.elim
  | some x0 =>
   rw [hx] at h
   simp only at h ⊢
   cases hp : x0.sh.put (.fld j :: p) (x0.sh.want (.fld j :: p) false sv) with
   | none => rw [hp] at h; exact h.elim
   | some sh =>
    rw [hp] at h
    simp only at h ⊢
    obtain ⟨h1, h⟩ := of_cond h
    obtain ⟨h2, h⟩ := of_cond' h
    rw [h1, h2, cond_true, cond_false]
    refine ⟨h.1, h.2, fun y fs hy ht => ?_⟩
    have e3 : Nat.beq q q = true := beq_iff.2 rfl
    simp only [lookO, e3, cond_true, Option.some.injEq] at hy
    subst hy
    exact ⟨x0, { x0 with sh := sh, d := D.put P x0.t x0.d (.fld j :: p) d }, hx, by simp [upO, findO, e3], fun i hi hl => ⟨put_fld hp hi, dput_fld ht hi hl⟩⟩

theorem stepD_soft (hM : HndM H) {o : Oper} {av : Operand → AV} {K : Dl → Prop} (h : stepD P A H f o av ob K) : stepD P A H f o av ob fun δ => K δ ∧ ∀ q j m, softW P av o δ.os = some (q, j, m) → Soft q j m ob (upO δ.os ob) := by
 have none_of : (∀ os, softW P av o os = none) → stepD P A H f o av ob fun δ => K δ ∧ ∀ q j m, softW P av o δ.os = some (q, j, m) → Soft q j m ob (upO δ.os ob) := fun hn =>
  stepD_mono hM (fun δ hδ => ⟨hδ, fun q j m e => by rw [hn] at e; cases e⟩) h
 cases hop : o.op with
 | call c =>
  by_cases hc : c.callee = .builtin .append
  ·by_cases hx : ∃ x y, c.args.toList = [x, y]
   ·obtain ⟨x, y, hx⟩ := hx
    by_cases hz : ∃ q j p u d, av x = .val q (.fld j :: p) u ∧ o.dst = some d ∧ q ≠ d
    ·obtain ⟨q, j, p, u, d, hav, hd, hne⟩ := hz
     have hbe : Nat.beq q d = false := beq_ne hne
     have hs : ∀ os, softW P av o os = some (q, j, 1000000) := fun os => by
      simp only [softW, hop, hc, hx, hav, hd, hbe, cond_false]
     unfold stepD at h ⊢
     rw [hop] at h ⊢
     simp only [hc, hd, hx] at h ⊢
     split at h <;> try contradiction
     rename_i e1 e2 e3
     simp only [Option.some.injEq, List.cons.injEq, and_true] at e1 e3
     obtain ⟨rfl, rfl⟩ := e3
     subst e1
     simp only [cond_eq] at h ⊢
     split at h <;> try contradiction
     rename_i hg
     rw [if_pos hg]
     rw [hav] at h ⊢
     refine appendD_mono (fun δ hδ => ⟨hδ.1, fun q' j' m' e => ?_⟩) (appendD_soft hne h)
     rw [hs] at e
     simp only [Option.some.injEq, Prod.mk.injEq] at e
     obtain ⟨rfl, rfl, rfl⟩ := e
     exact hδ.2 _
    ·refine none_of fun os => ?_
     simp only [softW, hop, hc, hx]
     split
     ·rename_i q j p u d e1 e2
      by_cases e : q = d
      ·simp [beq_iff.2 e]
      ·exact absurd ⟨q, j, p, u, d, e1, e2, e⟩ hz
     ·rfl
   ·refine none_of fun os => ?_
    simp only [softW, hop, hc]
    split
    ·rename_i x y e; exact absurd ⟨x, y, e⟩ hx
    ·rfl
  ·refine none_of fun os => ?_
   simp only [softW, hop]
   try (split <;> first | rfl | (rename_i e; exact absurd e hc))
 | store t a x =>
  by_cases hz : ∃ q j p u, av a = .ptr q (.fld j :: p) u
  ·obtain ⟨q, j, p, u, hav⟩ := hz
   unfold stepD at h ⊢
   rw [hop] at h ⊢
   simp only at h ⊢
   rw [hav] at h ⊢
   refine storeD_mono (fun δ hδ => ⟨hδ.1, fun q' j' m' e => ?_⟩) (storeD_soft h)
   simp only [softW, hop, hav] at e
   split at e <;> try contradiction
   rename_i y hy
   split at e <;> try contradiction
   rename_i fs ht
   simp only [Option.some.injEq, Prod.mk.injEq] at e
   obtain ⟨rfl, rfl, rfl⟩ := e
   exact hδ.2 y fs hy ht
  ·refine none_of fun os => ?_
   simp only [softW, hop]
   split
   ·rename_i q j p u e; exact absurd ⟨q, j, p, u, e⟩ hz
   ·rfl
 | _ => exact none_of fun os => by simp only [softW, hop]

theorem stepD_see {o : Oper} {av : Operand → AV} {q j : Nat} {m : Nat} {i : Option Nat} {K : Dl → Prop} (hs : softR av o.op = some (q, i)) (hi : ∀ k, i = some k → k ≠ j ∧ k < m) (h : Soft q j m ob ob') : stepD P A H f o av ob' K = stepD P A H f o av ob K := by
 obtain ⟨x, y0, h1, h2, h3⟩ := h
 unfold softR at hs
 unfold stepD
 split at hs <;> try contradiction
 ·rename_i y hop
  split at hs <;> try contradiction
  rename_i q' p u hav
  simp only [Option.some.injEq, Prod.mk.injEq] at hs
  obtain ⟨rfl, _⟩ := hs
  rw [hop]
  simp only [hav, h1, h2]
 ·rename_i s y k hop
  split at hs <;> try contradiction
  rename_i q' p u hav
  simp only [Option.some.injEq, Prod.mk.injEq] at hs
  obtain ⟨rfl, _⟩ := hs
  rw [hop]
  simp only [hav, fieldD, h1, h2]
 ·rename_i t y hop
  split at hs <;> try contradiction
  rename_i q' k p u hav
  simp only [Option.some.injEq, Prod.mk.injEq] at hs
  obtain ⟨rfl, rfl⟩ := hs
  obtain ⟨e1, e2⟩ := h3 k (hi k rfl).1 (hi k rfl).2
  have hg : y0.sh.get (.fld k :: p) = x.sh.get (.fld k :: p) := by
   simp only [Sh.get, e1]
  have hd : y0.d.get (.fld k :: p) = x.d.get (.fld k :: p) := by
   simp only [D.get, e2]
  rw [hop]
  simp only [hav, loadD, h1, h2, hg, hd]

end
end Go.Ab
