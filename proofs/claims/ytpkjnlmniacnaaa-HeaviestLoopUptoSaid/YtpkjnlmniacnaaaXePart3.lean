/- An exact run of code with open numbers, and that it is sound, part 3. Conditions: those in each theorem. -/
import Derived.Test.YtpkjnlmniacnaaaXePart2
import Derived.Test.YtpkjnlmniacnaaaAbPart8
set_option linter.unusedVariables false
set_option linter.unusedSimpArgs false
/- From a call to a law's statement. -/
namespace Go.Xe
open Go.Ab
open Go.ChangeShapes Go.WideShapes Go.RowKit
open Go.Proofs.Ytpkjnlmniacnaaa (Rows.uptoBulk Rows.uptoBulkAll Rows.uptoSmall)
variable {P : Program} {H : Type} {enc : TypeId × Value → H} {w : World}

def okP (P : Program) (t : Nat) : Bool := Nat.blt t P.types.size && P.readableRec t
theorem trod_stays (hl : laidOutB P = true) {w' : World} {sp' : Nat → Bool} : ∀ {ts : List Nat} {vs : List Value} {ds : List (DataW H)} {ps : List MemPlace}, ts.all (okP P) = true →
    DataW.TrodAll enc P w 0 (fun _ => true) true ts vs ds ps → (∀ p ∈ ps, w.sameAt w' p) → (∀ p ∈ ps, sp' p.block = true) → DataW.TrodAll enc P w' 0 sp' true ts vs ds ps
  | [], vs, ds, ps, _, h, _, _ => by
    obtain ⟨rfl, rfl, rfl⟩ := trodAll_nil h
    exact trodAll_mk0
  | t :: ts, vs, ds, ps, ha, h, h1, h2 => by
    obtain ⟨v, vs', d, ds', p, q, rfl, rfl, rfl, h3, h4⟩ := trodAll_cons h
    simp only [List.all_cons, Bool.and_eq_true] at ha
    have hb := ha.1
    simp only [okP, Bool.and_eq_true] at hb
    exact trodAll_cons_mk (Go.WideElems.Trod_stays hl hb.2 (by simpa [Nat.blt_eq] using hb.1) h3 (fun x hx => h1 x (by simp [hx])) (fun x hx => h2 x (by simp [hx])))
      (trod_stays hl ha.2 h4 (fun x hx => h1 x (by simp [hx])) (fun x hx => h2 x (by simp [hx])))
theorem trod_lens : ∀ {ts : List Nat} {vs : List Value} {ds : List (DataW H)} {ps : List MemPlace} {base : Nat} {sp : Nat → Bool} {hd : Bool},
    DataW.TrodAll enc P w base sp hd ts vs ds ps → vs.length = ts.length
  | [], vs, ds, ps, _, _, _, h => by
    obtain ⟨rfl, rfl, rfl⟩ := trodAll_nil h
    rfl
  | t :: ts, vs, ds, ps, _, _, _, h => by
    obtain ⟨v, vs', d, ds', p, q, rfl, rfl, rfl, h1, h2⟩ := trodAll_cons h
    simp [trod_lens h2]

/-- A number of some kind. -/
theorem okInt {t base : Nat} {k : IntKind} {v : Value} (ht : tk P t = .int k) (h : Value.okWide P w .any base t v) : ∃ n, v = .int k n ∧ k.has n := by
  have u := Go.Ab.und_int ht
  simp only [Value.okWide, u] at h
  cases v <;> simp [Cell.okWide, Cell.ok, u] at h
  obtain ⟨rfl, h⟩ := h
  exact ⟨_, rfl, h⟩

/-- THE LAW's CALL. -/
theorem contract_x (hl : laidOutB P = true) {f tb : Nat} {fn : Func} {s : ChangeSpec} {again : Bool}
    (htb : tk P tb = .bool) (hres : fn.resultTypes = #[tb]) (hps : fn.params.toList.all (okP P) = true)
    (hvars : s.vars = []) (hfn : ∀ ds : List (DataW H), ds.length = fn.params.toList.length → s.fn H ds = { results := [.lit (.bool true)], args := ds })
    {args : Array Value} {ds gs : List (DataW H)} {before : List MemPlace}
    (hcalls : args.size = fn.params.size → Calls P f args w fun e w' => e = .returned (.bool true) ∧ Keeps (fun _ => False) w w')
    (hW : DataW.Whole enc P fn.params.toList s.vars false w args.toList ds gs before) :
    Calls P f args w fun e w' => ∃ v, e = .returned v ∧ s.post enc P fn false true false again w args v w' := by
  have hW' := hW
  obtain ⟨p, q, hA0, hV, rfl, hfz, hnd⟩ := hW
  rw [hvars] at hV
  obtain ⟨rfl, rfl⟩ := trodVars_none hV
  simp only [List.append_nil] at hfz hW'
  have hdl : ds.length = fn.params.toList.length := trodAll_length hA0
  refine (hcalls (by simpa using trod_lens hA0)).mono fun e w' => ?_
  rintro ⟨rfl, hkeep⟩
  refine ⟨_, rfl, ?_⟩
  have hplt := hW'.lt
  have hsame : ∀ x ∈ p, w.sameAt w' x := by
    intro x hx
    have hx' := hplt x hx
    cases x with
    | cell b off => simp only [World.sameAt, World.cell?]; rw [hkeep.block b hx' (fun h => h)]
    | map b => simp only [World.sameAt]; rw [hkeep.block b hx' (fun h => h)]
  have hfz' : ∀ b off, MemPlace.cell b off ∈ p → w'.frozen? ⟨b, off, none⟩ = w.frozen? ⟨b, off, none⟩ := by
    intro b off hx
    simp only [World.frozen?]
    rw [hkeep.block b (hplt _ hx) (fun h => h)]
  have hspec := hfn ds hdl
  have hres1 : ∀ (b : Nat) (sp : Nat → Bool) (hd : Bool), DataW.TrodAll enc P w' b sp hd fn.resultTypes.toList ((Value.bool true).resultList fn.resultTypes.size) (s.fn H (ds ++ [])).results [] := by
    intro b sp hd
    rw [List.append_nil, hspec, hres]
    exact trodAll_cons_mk (shut_bool (under_bool htb) true) trodAll_mk0
  have hvars1 : ∀ sp : Nat → Bool, DataW.TrodVars enc P w' sp s.vars (s.fn H (ds ++ [])).vars [] := by
    intro sp
    rw [List.append_nil, hspec, hvars]
    rfl
  have hargs1 : ∀ sp : Nat → Bool, (∀ x ∈ p, sp x.block = true) → DataW.TrodAll enc P w' 0 sp true fn.params.toList args.toList (s.fn H (ds ++ [])).args p := by
    intro sp hsp
    rw [List.append_nil, hspec]
    exact trod_stays hl hps hA0 hsame hsp
  have hold : ∀ x ∈ p, (fun b => decide (b < w.heap.size)) x.block = true := fun x hx => by simpa using hplt x hx
  refine ⟨ds, [], p, [], p, [], hW', hres1 _ _ _, hargs1 _ hold, hvars1 _, kept_of hkeep _, fun _ => ⟨?_, ?_⟩⟩
  · intro j t r hj hr
    rw [hres] at hj hr
    cases j with
    | zero =>
      simp at hj hr
      subst hj
      have hr' : r = .bool true := by simpa [Value.resultList] using hr.symm
      subst hr'
      exact okWide_bool_mk (under_bool htb) true
    | succ j => simp at hj
  · refine ⟨_, _, [] ++ p ++ [], ⟨[] ++ p, [], trodAll_append (hargs1 _ (fun _ _ => rfl)) (hres1 _ _ _), hvars1 _, rfl, ?_, ?_⟩, ?_⟩
    · intro b off hx
      simp only [List.nil_append, List.append_nil] at hx
      rw [hfz' b off hx]
      exact hfz b off hx
    · intro h; cases h
    · intro x hx _
      simpa using hx

end Go.Xe

/- Runs in pieces: what is behind a piece is given anew. -/
namespace Go.Xe
open Go.Ab (tk TK WF Keeps)
variable {P : Program}

/-- The first parts of a chain, and what is behind them. -/
noncomputable def chainX (P : Program) (cal : Nat → List EV → St → R) (n : Nat) : Nat → Code → St → Option St
  | 0, _, σ => some σ
  | k + 1, .seq a b, σ => match codeX P cal n a σ with
    | some (.nrm, σ') => chainX P cal n k b σ'
    | _ => none
  | _, _, _ => none
noncomputable def restC : Nat → Code → Code
  | 0, c => c
  | k + 1, .seq _ b => restC k b
  | _, c => c
/-- What is kept of a state. -/
noncomputable def pickS (σ : St) (ss : List Nat) : List (Nat × Option EV) := ss.map fun s => (s, σ.sl.get s)
noncomputable def pickB (σ : St) (is : List Nat) : List (Nat × Option (List EV)) := is.map fun s => (s, σ.blk s)
structure Kept where
  sl : List (Nat × Option EV)
  bl : List (Nat × Option (List EV))
  cnt : Nat
  nt : Nat
  owe : List Owe
noncomputable def kept (ss is : List Nat) : Option St → Option Kept
  | some σ => some ⟨pickS σ ss, pickB σ is, σ.cnt, σ.nt, σ.owe⟩
  | none => none
noncomputable def mkSl : List (Nat × Option EV) → Tr EV
  | [] => .lf
  | x :: l => (mkSl l).put 20 x.1 x.2
noncomputable def mkBl : List (Nat × Option (List EV)) → Tr (List EV)
  | [] => .lf
  | x :: l => (mkBl l).put 40 x.1 x.2
noncomputable def litSt (sl : List (Nat × Option EV)) (bl : List (Nat × Option (List EV))) (cnt nt : Nat) (ora : List Bool) : St := ⟨mkSl sl, nt, mkBl bl, cnt, ora, [], []⟩
/-- The end. -/
noncomputable def fin (R : Nat) : Option (Ex × St) → Option (EV × List Owe)
  | some (.ret, σ) => some (σ.slot R, σ.owe)
  | _ => none

theorem mkSl_get : ∀ {l : List (Nat × Option EV)} {s : Nat} {v : EV}, (mkSl l).get s = some v → (s, some v) ∈ l
  | [], s, v, h => by cases h
  | x :: l, s, v, h => by
    rcases get_put 20 _ _ _ s v h with ⟨h1, h2⟩ | ⟨_, h2⟩
    · rw [h1, ← h2]; exact List.mem_cons_self ..
    · exact List.mem_cons_of_mem _ (mkSl_get h2)
theorem mkBl_get : ∀ {l : List (Nat × Option (List EV))} {s : Nat} {v : List EV}, (mkBl l).get s = some v → (s, some v) ∈ l
  | [], s, v, h => by cases h
  | x :: l, s, v, h => by
    rcases get_put 40 _ _ _ s v h with ⟨h1, h2⟩ | ⟨_, h2⟩
    · rw [h1, ← h2]; exact List.mem_cons_self ..
    · exact List.mem_cons_of_mem _ (mkBl_get h2)

/-- Code whose end is a return of true, all that was there kept. -/
def Tri (P : Program) (c : Code) (σ : St) (R : Nat) : Prop :=
  ∀ (w0 : World) (ι : Loc) (a : Act) (w : World), Stand w0 ι σ a w → (∀ id, σ.cnt ≤ id → ι id = none) →
    c.wp P (fun e a' w' => e = .ret ∧ a'.defers = [] ∧ Keeps (fun _ => False) w0 w' ∧ a'.tmps.getD R undef = .bool true) a w

theorem Stp.fresh {w0 : World} {ι ι' : Loc} {σ σ' : St} {w w' : World} (h : Stp w0 ι σ w ι' σ' w') (hn : ∀ id, σ.cnt ≤ id → ι id = none) : ∀ id, σ'.cnt ≤ id → ι' id = none := fun id hid => by
  cases hi : ι' id with
  | none => rfl
  | some p =>
    rcases h.dom id p hi with h1 | ⟨_, h2, _⟩
    · rw [hn id (Nat.le_trans h.cnt hid)] at h1; cases h1
    · omega

/-- A state of which less is known. -/
theorem Stand.weak {w0 : World} {ι : Loc} {σ σ' : St} {a : Act} {w : World} (S : Stand w0 ι σ a w) (hs : ∀ s v, σ'.sl.get s = some v → σ.sl.get s = some v) (hb : ∀ id cs, σ'.blk id = some cs → σ.blk id = some cs) (hn : σ'.nt = σ.nt) : Stand w0 ι σ' a w := by
  refine ⟨⟨fun id cs hc => S.mem.blk id cs (hb _ _ hc), fun id id' cs cs' b o b' o' h1 h2 => S.mem.inj id id' cs cs' b o b' o' (hb _ _ h1) (hb _ _ h2), S.mem.own, S.mem.keep⟩, fun s => ?_, by rw [hn]; exact S.nt, S.df⟩
  unfold St.slot
  cases hg : σ'.sl.get s with
  | none => exact .any
  | some x =>
    have := S.sl s
    unfold St.slot at this
    rw [hs s x hg] at this
    exact this

theorem chain_tri {cal : Nat → List EV → St → R} (W : WF P) (hC : CalOk P cal) (hD : DrawOk P cal) {n R : Nat} : ∀ (k : Nat) (c : Code) (σ σ1 : St), chainX P cal n k c σ = some σ1 → (∀ o, o ∈ σ1.owe → o.ok) → Tri P (restC k c) σ1 R → Mono σ σ1 ∧ Tri P c σ R
  | 0, c, σ, σ1, h, ho, ht => by
    injection h with h
    subst h
    exact ⟨.refl _, ht⟩
  | k + 1, c, σ, σ1, h, ho, ht => by
    cases c with
    | seq x y =>
      have h : (match codeX P cal n x σ with
        | some (.nrm, σ') => chainX P cal n k y σ'
        | _ => none) = some σ1 := h
      split at h <;> try contradiction
      rename_i σ' h1
      obtain ⟨m2, t2⟩ := chain_tri W hC hD k y σ' σ1 h ho ht
      have m1 := mono_code hC hD _ _ _ _ h1
      refine ⟨m1.trans m2, fun w0 ι a w S hn => ?_⟩
      refine wp_seq (code_ok W hC hD x ι σ .nrm σ' a w _ h1 S ⟨fun id hid _ => hn id hid, fun o ho' => ho o (m2.owe o ho')⟩ fun ι' a' w' s S' => ?_)
      exact t2 w0 ι' a' w' S' (s.fresh hn)
    | _ => cases h

/-- A PIECE. -/
theorem piece (W : WF P) (hm : P.follows .mixedOrders = true) {n k R : Nat} {c : Code} {σ : St} {ss is : List Nat} {sl : List (Nat × Option EV)} {bl : List (Nat × Option (List EV))} {c0 cnt nt : Nat} {ow : List Owe} (ora : List Bool) (h : kept ss is (chainX P (funX P n) n k c σ) = some ⟨sl, bl, c0, nt, ow⟩) (ho : ∀ o, o ∈ ow → o.ok) (hcnt : c0 ≤ cnt) (ht : Tri P (restC k c) (litSt sl bl cnt nt ora) R) : Tri P c σ R := by
  unfold kept at h
  split at h <;> try contradiction
  rename_i σ1 h1
  injection h with h
  injection h with k1 k2 k3 k4 k5
  subst k1 k2 k3 k4 k5
  have hC := cal_ok W hm n
  refine (chain_tri W hC (draw_ok W hm hC) k c σ σ1 h1 ho fun w0 ι a w S hn => ?_).2
  refine ht w0 ι a w (S.weak (fun s v hg => ?_) (fun id cs hg => ?_) rfl) fun id hid => hn id (Nat.le_trans hcnt hid)
  · have := mkSl_get hg
    unfold pickS at this
    rw [List.mem_map] at this
    obtain ⟨x, _, hx⟩ := this
    injection hx with h2 h3
    subst h2
    exact h3
  · have := mkBl_get hg
    unfold pickB at this
    rw [List.mem_map] at this
    obtain ⟨x, _, hx⟩ := this
    injection hx with h2 h3
    subst h2
    exact h3

/-- THE LAST PIECE. -/
theorem last_piece_of {cal : Nat → List EV → St → R} (W : WF P) (hC : CalOk P cal) (hD : DrawOk P cal) {n R : Nat} {c : Code} {σ : St} {ow : List Owe} (h : fin R (codeX P cal n c σ) = some (.bool true, ow)) (ho : ∀ o, o ∈ ow → o.ok) : Tri P c σ R := by
  unfold fin at h
  split at h <;> try contradiction
  rename_i σ1 h1
  injection h with h
  injection h with h2 h3
  subst h3
  intro w0 ι a w S hn
  refine code_ok W hC hD c ι σ .ret σ1 a w _ h1 S ⟨fun id hid _ => hn id hid, ho⟩ fun ι' a' w' s S' => ⟨rfl, S'.df, S'.mem.keep, ?_⟩
  have := S'.sl R
  rw [h2] at this
  exact this.bool_inv

theorem last_piece (W : WF P) (hm : P.follows .mixedOrders = true) {n R : Nat} {c : Code} {σ : St} {ow : List Owe} (h : fin R (codeX P (funX P n) n c σ) = some (.bool true, ow)) (ho : ∀ o, o ∈ ow → o.ok) : Tri P c σ R :=
  last_piece_of W (cal_ok W hm n) (draw_ok W hm (cal_ok W hm n)) h ho

/-- A function without arguments of which it is known that it returns true. -/
noncomputable def calS (g : Nat) (cal : Nat → List EV → St → R) : Nat → List EV → St → R := fun f args σ => cond (Nat.beq f g) (match args with
  | [] => some (.bool true, σ)
  | _ => none) (cal f args σ)
theorem calS_ok {g : Nat} {cal : Nat → List EV → St → R} (hC : CalOk P cal) {fn : Func} (hf : P.funcs[g]? = some fn) (hb : fn.body.isSome = true) (hg : ∀ w, Calls P g #[] w fun e w' => e = .returned (.bool true) ∧ Keeps (fun _ => False) w w') : CalOk P (calS g cal) := by
  refine ⟨fun f args σ e σ' h => ?_, fun f args σ e σ' h => ?_⟩
  · unfold calS at h
    rw [Go.Ab.cond_eq] at h
    split at h
    · split at h <;> try contradiction
      obtain ⟨_, rfl⟩ := pr h
      exact .refl _
    · exact hC.mono _ _ _ _ _ h
  · unfold calS at h
    rw [Go.Ab.cond_eq] at h
    split at h
    · rename_i hfg
      have hfg := Go.Ab.beq_iff.1 hfg
      subst hfg
      split at h <;> try contradiction
      obtain ⟨rfl, rfl⟩ := pr h
      refine ⟨⟨fn, hf, hb⟩, fun w0 ι w vals M G hs hv => ?_⟩
      have : vals = #[] := Array.eq_empty_of_size_eq_zero hs
      subst this
      refine (hg w).mono fun en w' => ?_
      rintro ⟨rfl, hk⟩
      have hext : Ext w w' := ⟨hk.size, fun b c E hb => ⟨c, by rw [hk.block b (Array.getElem?_eq_some_iff.1 hb).1 id]; exact hb, rfl⟩⟩
      refine ⟨_, rfl, ι, ⟨⟨fun id cs hc => ?_, M.inj, fun id b o hi => ?_, M.keep.trans hk (fun _ h => h) fun _ _ h => h⟩, fun _ _ h => h, fun _ _ h => .inl h, Nat.le_refl _, fun _ h => h, hext, fun b hb _ => hk.block b hb id, fun _ h => h, fun _ h => .inl h, fun _ cs h => .inl ⟨cs, h⟩⟩, .bool⟩
      · obtain ⟨b, o, c, E, g1, g2, g3, g4⟩ := M.blk id cs hc
        exact ⟨b, o, c, E, g1, by rw [hk.block b (Array.getElem?_eq_some_iff.1 g2).1 _root_.id]; exact g2, g3, fun i hi => ⟨(g4 i hi).1.mono (fun _ _ h => h) hext, (g4 i hi).2⟩⟩
      · have := M.own id b o hi
        have := hk.size
        omega
    · exact hC.run _ _ _ _ _ h

/-- The state at a function's start. -/
noncomputable def ini (args : List EV) (nt : Nat) (ora : List Bool) : St := ⟨initSl 0 args, nt, .lf, 0, ora, [], []⟩

theorem calls_of_tri {f R : Nat} {fn : Func} {c : Code} {args : List EV} {ora : List Bool} (hf : P.funcs[f]? = some fn) (hb : fn.body = some c) (hr : fn.results = #[.tmp R]) (h : Tri P c (ini args fn.ntmps ora) R) {vals : Array Value} {w : World} (hs : vals.size = args.length)
    (hv : ∀ i, i < args.length → VR (fun _ => none) w (args.getD i .any) (vals.getD i undef)) : Calls P f vals w fun e w' => e = .returned (.bool true) ∧ Keeps (fun _ => False) w w' := by
  refine calls_of_wp hf hb ?_
  have S : Stand w (fun _ => none) (ini args fn.ntmps ora) { tmps := vals ++ Array.replicate (fn.ntmps - vals.size) undef, defers := [] } w := by
    refine ⟨⟨fun id cs h => (by cases h), fun id id' cs cs' b o b' o' h => (by cases h), fun id b o h => (by cases h), Keeps.refl _ w⟩, fun s => ?_, by simp only [ini, Array.size_append, Array.size_replicate]; omega, rfl⟩
    unfold St.slot
    cases hg : (ini args fn.ntmps ora).sl.get s with
    | none => exact .any
    | some x =>
      obtain ⟨_, h2⟩ := init_get args 0 s x hg
      rw [Nat.sub_zero] at h2
      have hlt := (List.getElem?_eq_some_iff.1 h2).1
      have h3 := hv s hlt
      rw [List.getD_eq_getElem?_getD, h2] at h3
      have : (vals ++ Array.replicate (fn.ntmps - vals.size) undef).getD s undef = vals.getD s undef := by
        simp only [Array.getD_eq_getD_getElem?]
        rw [Array.getElem?_append_left (by omega)]
      rw [this]
      exact h3
  have key := h w _ _ w S fun _ _ => rfl
  refine wp_mono key ?_
  rintro e a' w' ⟨rfl, hd, hk, ht⟩
  have hres := Go.Ab.run_results (P := P) (fn := fn) (tmps := a'.tmps) (w := w') (vs := [.bool true]) (by rw [hr]; rfl) (fun k r hk => by
    rw [hr] at hk
    cases k with
    | zero =>
      simp only [List.getElem?_cons_zero, Option.some.injEq] at hk
      subst hk
      simp [Go.Ab.resVal, ht]
    | succ k => simp at hk)
  exact ⟨hd, _, hres, by simp, hk⟩

end Go.Xe
