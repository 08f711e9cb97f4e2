/- The abstraction layer, part 6: rules that read a program as plain data, and that they are sound. Conditions: those in each theorem. -/
import Derived.Test.YtpkjnlmniacnaaaAbPart5
set_option linter.unusedVariables false
set_option linter.unusedSimpArgs false
/- Regions, code, functions. -/
namespace Go.Ab
variable {P : Program} {A : Ann}

/-- What stays true of an activation: its size, no deferred calls, and where lent memory lies. -/
structure Act' (N : Nat) (ids : List Nat) (av : Nat → Value) (a : Act) : Prop where
  size : N ≤ a.tmps.size
  defers : a.defers = []
  lent : ∀ k ∈ ids, a.tmps.getD k undef = av k

theorem Act'.put {N : Nat} {ids : List Nat} {av : Nat → Value} {a : Act} (h : Act' N ids av a) {d : Option Nat} {v : Value} (hd : ∀ k, d = some k → k ∉ ids) : Act' N ids av (a.put d v) := by
  cases d with
  | none => exact h
  | some d =>
    refine ⟨by simp only [Act.put, Array.size_setIfInBounds]; exact h.size, h.defers, fun k hk => ?_⟩
    have hne : k ≠ d := fun e => hd d rfl (by subst e; exact hk)
    rw [put_other hne]
    exact h.lent k hk

theorem exists_min {p : Nat → Prop} (h : ∃ n, p n) : ∃ n, p n ∧ ∀ m, p m → n ≤ m := by
  obtain ⟨n, hn⟩ := h
  induction n using Nat.strongRecOn with
  | _ n ih =>
    by_cases hm : ∃ m, m < n ∧ p m
    · obtain ⟨m, h1, h2⟩ := hm
      exact ih m h1 h2
    · exact ⟨n, hn, fun m hp => Nat.le_of_not_lt fun hl => hm ⟨m, hl, hp⟩⟩

section
variable {X0 Y0 : Nat → Prop} {w0 : World} {f N : Nat} {av0 : Nat → Value} {H : Hnd}

/-- A state stands for an activation in a world. -/
def Stands (P : Program) (A : Ann) (X0 Y0 : Nat → Prop) (w0 : World) (f : Nat) (av0 : Nat → Value) (g : St) (a : Act) (w : World) : Prop :=
  (∃ ph, RelA P A X0 Y0 w0 g ph a w) ∧ Act' (ntm P f) (lentIds 0 (A.sig f).ps) av0 a

theorem dstOk_spec {d : Option Nat} (h : dstOk P A f d = true) : ∀ k, d = some k → k < ntm P f ∧ k ∉ lentIds 0 (A.sig f).ps := by
  rintro k rfl
  simp only [dstOk, Bool.and_eq_true, Nat.blt_eq, Bool.not_eq_true', List.any_eq_false, beq_iff] at h
  exact ⟨h.1, fun hm => h.2 k hm rfl⟩

theorem Stands.app {g : St} {a : Act} {w' : World} {δ : Dl} {v : Value} {dst : Option Nat} (S : Act' (ntm P f) (lentIds 0 (A.sig f).ps) av0 a) (hd : dstOk P A f dst = true) (h : RelD P A X0 Y0 w0 (look g.sl) (lookO g.ob) a.tmps δ v w') : Stands P A X0 Y0 w0 f av0 (g.app dst δ) (a.put dst v) w' := by
  have h2 := dstOk_spec hd
  exact ⟨h.app fun d e => Nat.lt_of_lt_of_le (h2 d e).1 S.size, S.put fun k e => (h2 k e).2⟩

theorem Stands.und {g : St} {a : Act} {w : World} {dst : Option Nat} (S : Stands P A X0 Y0 w0 f av0 g a w) (hd : dstOk P A f dst = true) : Stands P A X0 Y0 w0 f av0 (g.app dst { v := .und }) (a.put dst undef) w := by
  obtain ⟨⟨ph, R⟩, hA⟩ := S
  exact Stands.app hA hd (RelD.pure R rfl)

theorem step_rel (W : WF P) (hH : HndOk P A H) {g : St} {a : Act} {w : World} {o : Oper} {K : St → Prop} (S : Stands P A X0 Y0 w0 f av0 g a w) (h : g.step P A H f o K) (next : Act → World → Prop) (Q : Exit → Act → World → Prop) (hn : ∀ g' a' w', Stands P A X0 Y0 w0 f av0 g' a' w' → K g' → next a' w') : o.wp P a w next Q := by
  obtain ⟨⟨ph, R⟩, hA⟩ := S
  unfold St.step at h
  obtain ⟨hd, h⟩ := of_cond h
  refine step_all W hH R h next Q fun v w' hv => ?_
  obtain ⟨δ, hK, hD⟩ := hv
  exact hn _ _ _ (Stands.app hA hd hD) hK

theorem yielded_eq {ops : Array Oper} {a : Act} {j s : Nat} (h : (ops[j]?).bind (·.dst) = some s) : yielded ops a.tmps j = match a.tmps.getD s undef with
    | .bool b => some b
    | _ => none := by
  unfold yielded
  rw [h, Option.bind_some, Array.getD_eq_getD_getElem?]
  cases a.tmps[s]? with
  | none => rfl
  | some v => cases v <;> rfl

/-- One operation of a region, under its guard. -/
theorem guard_rel (W : WF P) (hH : HndOk P A H) {ops : Array Oper} {g : St} {a : Act} {w : World} {o : Oper} {K : St → Prop} (S : Stands P A X0 Y0 w0 f av0 g a w) (h : g.guard P A H f ops o K) (next : Act → World → Prop) (Q : Exit → Act → World → Prop)
    (hn : ∀ g' a' w', Stands P A X0 Y0 w0 f av0 g' a' w' → K g' → next a' w') : if Region.wanted o (yielded ops a.tmps) then o.wp P a w next Q else next (a.put o.dst undef) w := by
  unfold St.guard at h
  split at h
  · rename_i hg
    rw [if_pos (by simp [Region.wanted, hg])]
    exact step_rel W hH S h next Q hn
  · rename_i j want hg
    split at h <;> try contradiction
    rename_i s hs
    split at h <;> try contradiction
    · rename_i t d hl
      obtain ⟨hB, h⟩ := of_cond h
      obtain ⟨⟨ph, R⟩, hA⟩ := S
      obtain ⟨b, hb, hdb, R'⟩ := know_rel R hl (isB_eq hB)
      have S' : Stands P A X0 Y0 w0 f av0 (g.know s b) a w := ⟨⟨ph, R'⟩, hA⟩
      have hy : yielded ops a.tmps j = some b := by rw [yielded_eq hs, hb]
      have hw : Region.wanted o (yielded ops a.tmps) = (b == want) := by
        simp only [Region.wanted, hg, hy]
        cases b <;> cases want <;> rfl
      rw [hw]
      rw [hdb] at h
      cases b <;> cases want <;> simp only [cond_true, cond_false] at h
      · rw [if_pos (by decide)]; exact step_rel W hH S' h next Q hn
      · rw [if_neg (by decide)]
        obtain ⟨hd, h⟩ := of_cond h
        exact hn _ _ _ (S'.und hd) h
      · rw [if_neg (by decide)]
        obtain ⟨hd, h⟩ := of_cond h
        exact hn _ _ _ (S'.und hd) h
      · rw [if_pos (by decide)]; exact step_rel W hH S' h next Q hn
    · rename_i hl
      obtain ⟨hd, h⟩ := of_cond h
      obtain ⟨⟨ph, R⟩, hA⟩ := id S
      have hv : a.tmps.getD s undef = undef := by
        have := R.slots s
        rw [hl] at this
        exact this
      have hy : yielded ops a.tmps j = none := by rw [yielded_eq hs, hv]; rfl
      rw [if_neg (by simp [Region.wanted, hg, hy])]
      exact hn _ _ _ (S.und hd) h

/-- Operations by their numbers. -/
def wpI (P : Program) (A : Ann) (H : Hnd) (f : Nat) (ops : Array Oper) : List Nat → St → (St → Prop) → Prop
  | [], g, K => K g
  | i :: is, g, K => match ops[i]? with
    | none => wpI P A H f ops is g K
    | some o => g.guard P A H f ops o fun g' => wpI P A H f ops is g' K

theorem wpI_wpL {ops : Array Oper} {K : St → Prop} : ∀ (is : List Nat) (g : St), wpI P A H f ops is g K = wpL P A H f ops (is.filterMap fun i => ops[i]?) g K
  | [], g => rfl
  | i :: is, g => by
    simp only [wpI, List.filterMap_cons]
    cases h : ops[i]? with
    | none => exact wpI_wpL is g
    | some o =>
      simp only [wpL]
      congr 1
      funext g'
      exact wpI_wpL is g'

theorem range_ops (ops : Array Oper) : ((List.range ops.size).filterMap fun i => ops[i]?) = ops.toList := by
  apply List.ext_getElem?
  intro i
  have : ∀ (l : List Oper), ((List.range l.length).filterMap fun i => l[i]?) = l := by
    intro l
    induction l with
    | nil => rfl
    | cons x l ih =>
      rw [List.length_cons, List.range_succ_eq_map, List.filterMap_cons]
      simp only [List.getElem?_cons_zero, List.filterMap_map]
      congr 1
  have h := this ops.toList
  simp only [Array.length_toList, Array.getElem?_toList] at h
  rw [h]

theorem wpI_rel (W : WF P) (hH : HndOk P A H) {ops : Array Oper} {K : St → Prop} {Q : Exit → Act → World → Prop} (hQ : ∀ g' a' w', Stands P A X0 Y0 w0 f av0 g' a' w' → K g' → Q .normal a' w') : ∀ (is : List Nat) (g : St) (a : Act) (w : World), Stands P A X0 Y0 w0 f av0 g a w → wpI P A H f ops is g K → wpOps P ops Q is a w
  | [], g, a, w, S, h => hQ g a w S h
  | i :: is, g, a, w, S, h => by
    simp only [wpI] at h
    simp only [wpOps]
    cases ho : ops[i]? with
    | none =>
      rw [ho] at h
      exact wpI_rel W hH hQ is g a w S h
    | some o =>
      rw [ho] at h
      simp only at h ⊢
      have := guard_rel W hH S h (wpOps P ops Q is) Q fun g' a' w' S' h' => wpI_rel W hH hQ is g' a' w' S' h'
      split at this
      · rename_i hw; rw [if_pos hw]; exact .inl this
      · rename_i hw; rw [if_neg hw]; exact this

def Ex.exit : Ex → Exit
  | .nrm => .normal
  | .ext i => .exit i
  | .ret => .ret

theorem Stands.run (W : WF P) {g : St} {a : Act} {w : World} {K : St → Prop} {l : List Cmd} (S : Stands P A X0 Y0 w0 f av0 g a w) (h : g.run P l K) : ∃ g', Stands P A X0 Y0 w0 f av0 g' a w ∧ K g' := by
  obtain ⟨⟨ph, R⟩, hA⟩ := S
  obtain ⟨g', ph', R', h'⟩ := run_rel W l g ph R h
  exact ⟨g', ⟨⟨ph', R'⟩, hA⟩, h'⟩

theorem Stands.keep {g : St} {a : Act} {w : World} (S : Stands P A X0 Y0 w0 f av0 g a w) (l : List Nat × List Nat) : Stands P A X0 Y0 w0 f av0 (g.keep l) a w := by
  obtain ⟨⟨ph, R⟩, hA⟩ := S
  exact ⟨⟨ph, keep_rel R l⟩, hA⟩

/-- Regions whose order is drawn, by the rule: what is asked of the rule. -/
def DrawOk (P : Program) (A : Ann) (H : Hnd) : Prop := ∀ (f : Nat) (ops : Array Oper) (g : St) (K : St → Prop), fwdOk ops = true → wpD P A H f ops (List.range ops.size) [] g K →
  ∀ (X0 Y0 : Nat → Prop) (w0 : World) (av0 : Nat → Value) (a : Act) (w : World) (Q : Exit → Act → World → Prop) (id : Nat), Stands P A X0 Y0 w0 f av0 g a w → (∀ g' a' w', Stands P A X0 Y0 w0 f av0 g' a' w' → K g' → Q .normal a' w') → (Code.region id ops true).wp P Q a w

theorem code_rel (W : WF P) (hH : HndOk P A H) (hDr : DrawOk P A H) {n : Nat} : ∀ (c : Code) (g : St) (K : Ex → St → Prop) (a : Act) (w : World) (Q : Exit → Act → World → Prop), Stands P A X0 Y0 w0 f av0 g a w → wpC P A H f n c g K → (∀ e g' a' w', K e g' → Stands P A X0 Y0 w0 f av0 g' a' w' → Q e.exit a' w') → c.wp P Q a w
  | .skip, g, K, a, w, Q, S, h, hQ => wp_skip (hQ .nrm g a w h S)
  | .ret, g, K, a, w, Q, S, h, hQ => wp_ret (hQ .ret g a w h S)
  | .exit i, g, K, a, w, Q, S, h, hQ => wp_exit (hQ (.ext i) g a w h S)
  | .region id ops draw, g, K, a, w, Q, S, h, hQ => by
    simp only [wpC] at h
    obtain ⟨g1, S1, h1⟩ := S.run W h
    cases draw with
    | false =>
      refine wp_region (wpI_rel W hH (fun g' a' w' S' hK => hQ .nrm g' a' w' hK S') (List.range ops.size) g1 a w S1 ?_)
      rw [wpI_wpL, range_ops]
      exact h1
    | true => exact hDr f ops g1 (K .nrm) (of_cond h1).1 (of_cond h1).2 X0 Y0 w0 av0 a w Q id S1 fun g' a' w' S' hK => hQ .nrm g' a' w' hK S'
  | .seq x y, g, K, a, w, Q, S, h, hQ => by
    simp only [wpC] at h
    refine wp_seq (code_rel W hH hDr x g _ a w _ S h fun e g' a' w' hk S' => ?_)
    cases e with
    | nrm => exact code_rel W hH hDr y g' K a' w' Q S' hk hQ
    | ext i => exact hQ (.ext i) g' a' w' hk S'
    | ret => exact hQ .ret g' a' w' hk S'
  | .cond c x y, g, K, a, w, Q, S, h, hQ => by
    simp only [wpC] at h
    split at h <;> try contradiction
    · rename_i t d hav
      split at h <;> try contradiction
      rename_i s
      obtain ⟨hB, h⟩ := of_cond h
      obtain ⟨⟨ph, R⟩, hA⟩ := S
      obtain ⟨b, hb, hdb, R'⟩ := know_rel R hav (isB_eq hB)
      have S' : Stands P A X0 Y0 w0 f av0 (g.know s b) a w := ⟨⟨ph, R'⟩, hA⟩
      rw [hdb] at h
      refine wp_cond (t := b) hb ?_
      cases b
      · exact code_rel W hH hDr y _ K a w Q S' h hQ
      · exact code_rel W hH hDr x _ K a w Q S' h hQ
    · rename_i v hav
      have hev : a.eval c = .bool v := by
        obtain ⟨⟨ph, R⟩, hA⟩ := S
        have := AVR.eval R c
        rw [hav] at this
        exact this
      refine wp_cond (t := v) hev ?_
      cases v
      · exact code_rel W hH hDr y _ K a w Q S h hQ
      · exact code_rel W hH hDr x _ K a w Q S h hQ
  | .block id c, g, K, a, w, Q, S, h, hQ => by
    simp only [wpC] at h
    refine wp_block (code_rel W hH hDr c g _ a w _ S h fun e g' a' w' hk S' => ?_)
    cases e with
    | nrm => exact hQ .nrm g' a' w' hk S'
    | ret => exact hQ .ret g' a' w' hk S'
    | ext i =>
      simp only [kBlock, cond_eq, beq_iff] at hk
      simp only [Ex.exit, Exit.inBlock]
      split at hk
      · rename_i e; rw [if_pos e]; exact hQ .nrm g' a' w' hk S'
      · rename_i e; rw [if_neg e]; exact hQ (.ext i) g' a' w' hk S'
  | .loop c, g, K, a, w, Q, S, h, hQ => by
    simp only [wpC] at h
    let nm := nmK P (A.loop f (firstRegion c))
    let I : Act → World → Nat → Prop := fun a w m => ∃ g, Stands P A X0 Y0 w0 f av0 g a w ∧ loopK (wpC P A H f n c) nm m g K
    have hnm : ∀ (g : St) (a : Act) (w : World) (m : Nat), Stands P A X0 Y0 w0 f av0 g a w → nm g (fun g => loopK (wpC P A H f n c) nm m g K) → I a w m := fun g a w m S h => by
      obtain ⟨g1, S1, h1⟩ := S.run W h
      exact ⟨_, S1.keep _, h1⟩
    classical
    refine wp_loop (fun a w => ∃ m, I a w m) (fun a w => if h : ∃ m, I a w m then (exists_min h).choose else 0) ⟨n, hnm g a w n S h⟩ fun a w hI => ?_
    rw [dif_pos hI]
    obtain ⟨g1, S1, h1⟩ := (exists_min hI).choose_spec.1
    generalize hm0 : (exists_min hI).choose = m0 at h1
    cases m0 with
    | zero => exact h1.elim
    | succ m =>
      simp only [loopK] at h1
      refine code_rel W hH hDr c g1 _ a w _ S1 h1 fun e g' a' w' hk S' => ?_
      cases e with
      | nrm =>
        have hI' := hnm g' a' w' m S' hk
        have hex : ∃ m, I a' w' m := ⟨m, hI'⟩
        refine ⟨hex, ?_⟩
        rw [dif_pos hex]
        exact Nat.lt_succ_of_le ((exists_min hex).choose_spec.2 m hI')
      | ext i => exact hQ (.ext i) g' a' w' hk S'
      | ret => exact hQ .ret g' a' w' hk S'
  | .label _, g, K, a, w, Q, S, h, hQ => h.elim
  | .goto _, g, K, a, w, Q, S, h, hQ => h.elim
  | .scope _, g, K, a, w, Q, S, h, hQ => h.elim
  | .refuse _, g, K, a, w, Q, S, h, hQ => h.elim
  | .rangeFunc .., g, K, a, w, Q, S, h, hQ => h.elim

end
end Go.Ab

/- Functions. -/
namespace Go.Ab
variable {P : Program} {A : Ann}

theorem mem_lentIds {ps : List PK} {k : Nat} (h : k ∈ lentIds 0 ps) : k < ps.length := by
  rw [← lentL_ids] at h
  obtain ⟨y, hy, rfl⟩ := List.mem_map.1 h
  have := (lentL_ge ps 0 y hy).2
  rw [Nat.sub_zero] at this
  exact (List.getElem?_eq_some_iff.1 this).1

/-- A FUNCTION DOES WHAT ITS RULE SAYS. -/
theorem fun_ok (W : WF P) {n f : Nat} (hDr : DrawOk P A (hnd P A n)) {fn : Func} (hH : HndOk P A (hnd P A n)) (hf : P.funcs[f]? = some fn) {ds : List D} {Q : List D → Prop} (h : wpB P A (hnd P A n) n f fn ds Q) :
    fn.body.isSome = true ∧ ∀ (X0 : Nat → Prop) (w : World) (args : Array Value) (phL : Nat → Ph), Args P A X0 w (A.sig f).ps args ds phL →
      Calls P f args w fun e w' => ∃ v r phR vs, e = .returned v ∧ Q r ∧ Ret P A X0 (lentY (A.sig f).ps ds phL) w w' (A.sig f) phL v r phR vs := by
  unfold wpB at h
  split at h <;> try contradiction
  rename_i c hb
  obtain ⟨_, h⟩ := of_cond h
  refine ⟨by rw [hb]; rfl, fun X0 w args phL hA => calls_of_wp hf hb ?_⟩
  have hgd : ∀ s, s < args.size → (args ++ Array.replicate (fn.ntmps - args.size) undef).getD s undef = args.getD s undef := fun s hs => by
    simp only [Array.getD_eq_getD_getElem?]
    rw [Array.getElem?_append_left hs]
  have hslot : ∀ s, AVR P A (Xof X0 (lookO (initOb 0 (A.sig f).ps ds)) phL) w (lookO (initOb 0 (A.sig f).ps ds)) phL (look (initSl 0 (A.sig f).ps ds) s) ((args ++ Array.replicate (fn.ntmps - args.size) undef).getD s undef) := fun s => by
    by_cases hs : s < args.size
    · rw [hgd s hs]; exact hA.slots s
    · rw [look_init, if_pos (Nat.zero_le _), Nat.sub_zero, List.getElem?_eq_none (by have := hA.asize; omega)]
      trivial
  have S : Stands P A X0 (lentY (A.sig f).ps ds phL) w f (fun k => args.getD k undef) { sl := initSl 0 (A.sig f).ps ds, ob := initOb 0 (A.sig f).ps ds } { tmps := args ++ Array.replicate (fn.ntmps - args.size) undef, defers := [] } w := by
    refine ⟨⟨phL, ⟨hA.objs, hslot, Keeps.refl _ w⟩⟩, ?_, rfl, fun k hk => hgd k (by rw [hA.asize]; exact mem_lentIds hk)⟩
    simp only [ntm, hf, Option.map_some, Option.getD_some, Array.size_append, Array.size_replicate]
    omega
  refine code_rel W hH hDr c _ _ _ _ _ S h fun e g' a' w' hk S' => ?_
  obtain ⟨⟨ph, R⟩, hA'⟩ := S'
  have fin : (match outR P g' fn.results.toList (A.sig f).rs, outL g' 0 (A.sig f).ps with
      | some (r, ids), some l => cond (nodupB (ids ++ lentIds 0 (A.sig f).ps)) (Q (r ++ l)) False
      | _, _ => False) → a'.defers = [] ∧ ∃ v, (results fn a'.tmps).run P w' = .ok v w' ∧ ∃ v1 r phR vs, Ending.returned v = .returned v1 ∧ Q r ∧ Ret P A X0 (lentY (A.sig f).ps ds phL) w w' (A.sig f) phL v1 r phR vs := fun h => by
    have hT : ∀ y ∈ lentL 0 (A.sig f).ps, LentAt P y (a'.tmps.getD y.1 undef) (phL y.1) := fun y hy => by
      have hid : y.1 ∈ lentIds 0 (A.sig f).ps := by rw [← lentL_ids]; exact List.mem_map_of_mem hy
      rw [hA'.lent y.1 hid]
      have hs := hA.slots y.1
      obtain ⟨_, hp⟩ := lentL_ge _ 0 y hy
      rw [Nat.sub_zero] at hp
      rw [look_init, if_pos (Nat.zero_le _), Nat.sub_zero, hp] at hs
      have hob : lookO (initOb 0 (A.sig f).ps ds) y.1 = some ⟨y.2.2.2, y.2.1, y.2.2.1, ds.getD y.1 .und⟩ := by
        rw [lookO_init, if_pos (Nat.zero_le _), Nat.sub_zero, hp]
      refine ⟨fun hbx => ?_, fun hbx => ?_⟩
      · rw [hbx] at hs
        have hs : AVR P A (Xof X0 (lookO (initOb 0 (A.sig f).ps ds)) phL) w (lookO (initOb 0 (A.sig f).ps ds)) phL (.ptr y.1 [] y.2.1) (args.getD y.1 undef) := hs
        obtain ⟨b, off, u, e1, e2, _, _⟩ := hs _ hob
        simp only [Lt.loc] at e2
        unfold Ph.root at e2
        cases hr : (phL y.1).rb with
        | none => rw [hr] at e2; cases e2
        | some b2 =>
          rw [hr] at e2
          simp only [Option.map_some, Option.some.injEq, Prod.mk.injEq] at e2
          exact ⟨b, by rw [e1, ← e2.2], by rw [e2.1]⟩
      · rw [hbx] at hs
        have hs : AVR P A (Xof X0 (lookO (initOb 0 (A.sig f).ps ds)) phL) w (lookO (initOb 0 (A.sig f).ps ds)) phL (.val y.1 [] y.2.1) (args.getD y.1 undef) := hs
        have hO := hA.objs.ok _ _ hob
        obtain ⟨s1, s2⟩ := hs _ hob
        refine ⟨?_, hO.hdr hbx⟩
        by_cases hit : y.2.2.1 = .it
        · obtain ⟨m, hm, _⟩ := s1 hit
          cases hm
        · obtain ⟨u', _, _, s3⟩ := s2 hit
          rcases s3 with s3 | ⟨_, _, s3⟩
          · obtain ⟨e1, e2⟩ := hO.own.header s3
            have e1 : (phL y.1).cs = [args.getD y.1 undef] := e1
            rw [e1, mkV_one e2]
          · exact s3
    obtain ⟨v, r, phR, vs, h1, h2, h3⟩ := ret_of_end (phL := phL) W R hT h
    exact ⟨hA'.defers, v, h1, v, r, phR, vs, rfl, h2, h3⟩
  cases e with
  | nrm => exact fin hk
  | ret => exact fin hk
  | ext i => exact hk.elim

theorem hnd_ok (W : WF P) (hDr : ∀ n, HndOk P A (hnd P A n) → DrawOk P A (hnd P A n)) : ∀ n, HndOk P A (hnd P A n)
  | 0 => ⟨fun f ds Q h => h.elim, fun _ _ _ _ _ h => h, fun _ _ _ _ _ _ h => h⟩
  | n + 1 => ⟨fun f ds Q h => by
      have h' : wpF P A (n + 1) f ds Q := h
      unfold wpF at h'
      split at h' <;> try contradiction
      rename_i fn hf
      obtain ⟨h1, h2⟩ := fun_ok W (hDr n (hnd_ok W hDr n)) (hnd_ok W hDr n) hf h'
      exact ⟨⟨fn, hf, h1, W.names f fn hf⟩, h2⟩, fun _ _ _ _ _ h => h, fun _ _ _ _ _ _ h => h⟩

/-- EVERY FUNCTION DOES WHAT ITS RULE SAYS. -/
theorem wpF_ok (W : WF P) (hDr : ∀ n, HndOk P A (hnd P A n) → DrawOk P A (hnd P A n)) {n f : Nat} {ds : List D} {Q : List D → Prop} (h : wpF P A n f ds Q) {X0 : Nat → Prop} {w : World} {args : Array Value} {phL : Nat → Ph} (hA : Args P A X0 w (A.sig f).ps args ds phL) :
    Calls P f args w fun e w' => ∃ v r phR vs, e = .returned v ∧ Q r ∧ Ret P A X0 (lentY (A.sig f).ps ds phL) w w' (A.sig f) phL v r phR vs :=
  ((hnd_ok W hDr n).cal f ds Q h).2 X0 w args phL hA

end Go.Ab

/- Rules are monotone, and have an outcome. -/
namespace Go.Ab
variable {P : Program} {A : Ann}

/-- What the rules of calls keep to. -/
structure HndM (H : Hnd) : Prop where
  cal : ∀ f ds Q Q', (∀ r, Q r → Q' r) → H.cal f ds Q → H.cal f ds Q'
  dyn : ∀ d ks rs ds Q Q', (∀ r, Q r → Q' r) → H.dyn d ks rs ds Q → H.dyn d ks rs ds Q'
  inv : ∀ d s ks rs ds Q Q', (∀ r, Q r → Q' r) → H.inv d s ks rs ds Q → H.inv d s ks rs ds Q'
  calE : ∀ f ds Q, H.cal f ds Q → ∃ r, Q r
  dynE : ∀ d ks rs ds Q, H.dyn d ks rs ds Q → ∃ r, Q r
  invE : ∀ d s ks rs ds Q, H.inv d s ks rs ds Q → ∃ r, Q r

section
variable {ob : Nat → Option Obj}

theorem loadD_mono {t : Nat} {a : AV} {K K' : AV → Prop} (hK : ∀ v, K v → K' v) : loadD P ob t a K → loadD P ob t a K' := by
  unfold loadD
  simp only [cond_eq]
  repeat' split
  all_goals first | exact hK _ | exact id
theorem fieldD_mono {t j : Nat} {a : AV} {K K' : AV → Prop} (hK : ∀ v, K v → K' v) : fieldD P ob t a j K → fieldD P ob t a j K' := by
  unfold fieldD
  simp only [cond_eq]
  repeat' split
  all_goals first | exact hK _ | exact id
theorem indexD_mono {t : Nat} {a i : AV} {K K' : AV → Prop} (hK : ∀ v, K v → K' v) : indexD P ob t a i K → indexD P ob t a i K' := by
  unfold indexD
  simp only [cond_eq]
  repeat' split
  all_goals first | exact hK _ | exact id | exact fun h => ⟨h.1, hK _ h.2⟩
theorem storeD_mono {t : Nat} {a x : AV} {K K' : Dl → Prop} (hK : ∀ v, K v → K' v) : storeD P ob t a x K → storeD P ob t a x K' := by
  unfold storeD
  simp only [cond_eq]
  repeat' split
  all_goals first | exact hK _ | exact id | exact fun h => ⟨h.1, hK _ h.2⟩
theorem intOp_mono {op : BinOp} {k : IntKind} {a b : Int} {K K' : D → Prop} (hK : ∀ v, K v → K' v) : intOp op k a b K → intOp op k a b K' := by
  unfold intOp
  split
  all_goals first | exact hK _ | exact id | exact fun h => ⟨h.1, hK _ h.2⟩
theorem shOp_mono {op : BinOp} {k : IntKind} {a b : Int} {K K' : D → Prop} (hK : ∀ v, K v → K' v) : shOp op k a b K → shOp op k a b K' := by
  unfold shOp
  split
  all_goals first | exact hK _ | exact id | exact fun h => ⟨h.1, hK _ h.2⟩
theorem binD_mono {op : BinOp} {tx ty tr : Nat} {x y : AV} {K K' : AV → Prop} (hK : ∀ v, K v → K' v) : binD P ob op tx ty tr x y K → binD P ob op tx ty tr x y K' := by
  unfold binD
  simp only [cond_eq]
  repeat' split
  all_goals first | exact hK _ | exact id | exact fun h => ⟨h.1, hK _ h.2⟩ | exact shOp_mono (fun _ => hK _) | exact intOp_mono (fun _ => hK _) | exact fun h b hb => hK _ (h b hb)
theorem unD_mono {op : UnOp} {t : Nat} {x : AV} {K K' : AV → Prop} (hK : ∀ v, K v → K' v) : unD P ob op t x K → unD P ob op t x K' := by
  unfold unD
  repeat' split
  all_goals first | exact hK _ | exact id
theorem lenD_mono {t tr : Nat} {x : AV} {K K' : AV → Prop} (hK : ∀ v, K v → K' v) : lenD P ob t x K tr → lenD P ob t x K' tr := by
  unfold lenD
  simp only [cond_eq]
  repeat' split
  all_goals first | exact hK _ | exact id
theorem appendD_mono {dst t : Nat} {x y : AV} {K K' : Dl → Prop} (hK : ∀ v, K v → K' v) : appendD P ob dst t x y K → appendD P ob dst t x y K' := by
  unfold appendD
  simp only [cond_eq]
  repeat' split
  all_goals first | exact hK _ | exact id | exact fun h => ⟨h.1, hK _ h.2⟩
theorem buildD_mono {own : Bool} {dst t : Nat} {l : List (Nat × AV)} {K K' : Dl → Prop} (hK : ∀ v, K v → K' v) : buildD P own ob dst t l K → buildD P own ob dst t l K' := by
  unfold buildD
  simp only [cond_eq]
  repeat' split
  all_goals first | exact hK _ | exact id
theorem buildSliceD_mono {dst t n : Nat} {l : List (Nat × AV)} {K K' : Dl → Prop} (hK : ∀ v, K v → K' v) : buildSliceD P ob dst t n l K → buildSliceD P ob dst t n l K' := by
  unfold buildSliceD
  simp only [cond_eq]
  repeat' split
  all_goals first | exact hK _ | exact id
theorem makeSliceD_mono {dst t : Nat} {l c : Int} {K K' : Dl → Prop} (hK : ∀ v, K v → K' v) : makeSliceD P ob dst t l c K → makeSliceD P ob dst t l c K' := by
  unfold makeSliceD
  simp only [cond_eq]
  repeat' split
  all_goals first | exact hK _ | exact id | exact fun h => ⟨h.1, hK _ h.2⟩
theorem sliceOfD_mono {t : Nat} {x : AV} {lo hi : Option Int} {K K' : AV → Prop} (hK : ∀ v, K v → K' v) : sliceOfD P ob t x lo hi K → sliceOfD P ob t x lo hi K' := by
  unfold sliceOfD
  simp only
  repeat' split
  all_goals first | exact hK _ | exact id | exact fun h => ⟨h.1, hK _ h.2⟩
theorem mapStoreD_mono {t : Nat} {m k v : AV} {K K' : Dl → Prop} (hK : ∀ v, K v → K' v) : mapStoreD P ob t m k v K → mapStoreD P ob t m k v K' := by
  unfold mapStoreD
  simp only [cond_eq]
  repeat' split
  all_goals first | exact hK _ | exact id
theorem lookupD_mono {t : Nat} {m k : AV} {K K' : AV → Prop} (hK : ∀ v, K v → K' v) : lookupD P ob t m k K → lookupD P ob t m k K' := by
  unfold lookupD
  simp only [cond_eq]
  repeat' split
  all_goals first | exact hK _ | exact id
theorem indexSD_mono {t tr : Nat} {x i : AV} {K K' : AV → Prop} (hK : ∀ v, K v → K' v) : indexSD P ob t tr x i K → indexSD P ob t tr x i K' := by
  unfold indexSD
  simp only [cond_eq]
  repeat' split
  all_goals first | exact id | exact fun h => ⟨h.1, hK _ h.2⟩
theorem callD_mono {H : Hnd} (hM : HndM H) {dst : Option Nat} {f : Nat} {l : List AV} {K K' : Dl → Prop} (hK : ∀ v, K v → K' v) : callD P A H dst f l ob K → callD P A H dst f l ob K' := by
  unfold callD
  simp only [cond_eq]
  split <;> try exact id
  split <;> try exact id
  split <;> try exact id
  refine hM.cal _ _ _ _ fun r => ?_
  split
  all_goals first | exact hK _ | exact id
theorem boxD_mono {f dst t : Nat} {x : AV} {K K' : Dl → Prop} {C C' : Prop} (hK : ∀ v, K v → K' v) (hC : C → C') : boxD P A f dst t x ob K C → boxD P A f dst t x ob K' C' := by
  unfold boxD
  simp only [cond_eq]
  repeat' split
  all_goals first | exact id | exact hC | exact hK _
theorem primD_mono {dst : Option Nat} {f : Nat} {l : List AV} {K K' : Dl → Prop} (hK : ∀ v, K v → K' v) : primD P dst f l ob K → primD P dst f l ob K' := by
  unfold primD
  simp only [cond_eq]
  repeat' split
  all_goals first | exact id | exact fun h => ⟨h.1, hK _ h.2⟩
theorem bothI_mono {look : Operand → AV} {o : Option Operand} {K K' : Option Int → Prop} (hK : ∀ v, K v → K' v) : bothI P look o K → bothI P look o K' := by
  unfold bothI
  repeat' split
  all_goals first | exact hK _ | exact id

/-- RULES ARE MONOTONE. -/
theorem stepD_mono {H : Hnd} (hM : HndM H) {f : Nat} {o : Oper} {av : Operand → AV} {K K' : Dl → Prop} (hK : ∀ v, K v → K' v) : stepD P A H f o av ob K → stepD P A H f o av ob K' := by
  have hV : ∀ v, onV K v → onV K' v := fun v => hK _
  unfold stepD
  cases hop : o.op with
  | call c =>
    simp only [cond_eq]
    repeat' split
    all_goals first | exact id | exact hK _ | exact lenD_mono hV | exact appendD_mono hK | exact callD_mono hM hK | exact primD_mono hK | exact hM.dyn _ _ _ _ _ _ (fun r => hK _) | exact hM.inv _ _ _ _ _ _ _ (fun r => hK _)
  | load t x => exact loadD_mono hV
  | store t x y => exact storeD_mono hK
  | fieldAddr s x j => exact fieldD_mono hV
  | indexAddr t x i => exact indexD_mono hV
  | binOp op tx x y ty => exact binD_mono hV
  | unOp op t x => exact unD_mono hV
  | index t x i => exact indexSD_mono hV
  | lookup t m k b =>
    cases b with
    | false => exact lookupD_mono hV
    | true => exact id
  | build t parts =>
    simp only
    split
    · exact buildD_mono hK
    · exact id
  | buildSlice t n parts =>
    simp only
    split
    · exact buildSliceD_mono hK
    · exact id
  | makeSlice t x y =>
    simp only
    split
    · exact makeSliceD_mono hK
    · exact id
  | mapUpdate t x y z => exact mapStoreD_mono hK
  | slice t x lo hi mx =>
    cases mx with
    | none => exact bothI_mono fun l => bothI_mono fun h => sliceOfD_mono hV
    | some m => exact id
  | next x b =>
    cases b with
    | true => exact id
    | false =>
      simp only [cond_eq]
      repeat' split
      all_goals first | exact id | exact fun h => ⟨fun e => hK _ (h.1 e), fun i hi => hK _ (h.2 i hi)⟩
  | makeFunc fn first caps =>
    cases fn with
    | func f' =>
      simp only [cond_eq]
      split
      · exact hK _
      · exact id
    | _ => exact id
  | box t x =>
    simp only
    split
    · exact boxD_mono hK (hK _)
    · exact id
  | makeMap t m =>
    cases m with
    | some m => exact id
    | none =>
      simp only
      split
      · exact hK _
      · exact id
  | typeAssert x xt t ok =>
    cases ok with
    | false => exact id
    | true =>
      simp only [cond_eq]
      repeat' split
      all_goals first | exact id | exact hK _
  | _ =>
    simp only [cond_eq]
    repeat' split
    all_goals first | exact id | exact hK _ | exact hV _

end
end Go.Ab

/- Rules have an outcome; many have one alone. -/
namespace Go.Ab
variable {P : Program} {A : Ann}

/-- One outcome alone. -/
structure Det {α : Type} (T : (α → Prop) → Prop) : Prop where
  one : ∀ K, T K → ∃ x, K x ∧ T fun y => y = x
  same : ∀ K K', T K → T K' → ∃ x, K x ∧ K' x

theorem Det.pure {α : Type} (x : α) : Det fun K : α → Prop => K x := ⟨fun K h => ⟨x, h, rfl⟩, fun K K' h h' => ⟨x, h, h'⟩⟩
theorem Det.false {α : Type} : Det fun _ : α → Prop => False := ⟨fun _ h => h.elim, fun _ _ h => h.elim⟩
theorem Det.map {α β : Type} {T : (α → Prop) → Prop} {g : α → β} (h : Det T) (hm : ∀ K K', (∀ x, K x → K' x) → T K → T K') : Det fun K : β → Prop => T fun x => K (g x) :=
  ⟨fun K hT => by
    obtain ⟨x, h1, h2⟩ := h.one _ hT
    exact ⟨g x, h1, hm _ _ (fun y e => by rw [e]) h2⟩, fun K K' h1 h2 => by
    obtain ⟨x, h3, h4⟩ := h.same _ _ h1 h2
    exact ⟨g x, h3, h4⟩⟩

section
variable {ob : Nat → Option Obj}

theorem loadD_ex {t : Nat} {a : AV} {K : AV → Prop} : loadD P ob t a K → ∃ v, K v := by
  unfold loadD
  simp only [cond_eq]
  repeat' split
  all_goals first | exact fun h => h.elim | exact fun h => h.2.elim | exact fun h => ⟨_, h⟩ | exact fun h => ⟨_, h.2⟩
theorem loadD_det {t : Nat} {a : AV} : Det fun K : AV → Prop => loadD P ob t a K := by
  constructor
  · intro K
    unfold loadD
    simp only [cond_eq]
    repeat' split
    all_goals first | exact fun h => h.elim | exact fun h => h.2.elim | exact fun h => ⟨_, h, rfl⟩ | exact fun h => ⟨_, h.2, h.1, rfl⟩
  · intro K K'
    unfold loadD
    simp only [cond_eq]
    repeat' split
    all_goals first | exact fun h => h.elim | exact fun h => h.2.elim | exact fun h h' => ⟨_, h, h'⟩ | exact fun h h' => ⟨_, h.2, h'.2⟩
theorem fieldD_ex {t j : Nat} {a : AV} {K : AV → Prop} : fieldD P ob t a j K → ∃ v, K v := by
  unfold fieldD
  simp only [cond_eq]
  repeat' split
  all_goals first | exact fun h => h.elim | exact fun h => h.2.elim | exact fun h => ⟨_, h⟩ | exact fun h => ⟨_, h.2⟩
theorem fieldD_det {t j : Nat} {a : AV} : Det fun K : AV → Prop => fieldD P ob t a j K := by
  constructor
  · intro K
    unfold fieldD
    simp only [cond_eq]
    repeat' split
    all_goals first | exact fun h => h.elim | exact fun h => h.2.elim | exact fun h => ⟨_, h, rfl⟩ | exact fun h => ⟨_, h.2, h.1, rfl⟩
  · intro K K'
    unfold fieldD
    simp only [cond_eq]
    repeat' split
    all_goals first | exact fun h => h.elim | exact fun h => h.2.elim | exact fun h h' => ⟨_, h, h'⟩ | exact fun h h' => ⟨_, h.2, h'.2⟩
theorem indexD_ex {t : Nat} {a i : AV} {K : AV → Prop} : indexD P ob t a i K → ∃ v, K v := by
  unfold indexD
  simp only [cond_eq]
  repeat' split
  all_goals first | exact fun h => h.elim | exact fun h => h.2.elim | exact fun h => ⟨_, h⟩ | exact fun h => ⟨_, h.2⟩
theorem indexD_det {t : Nat} {a i : AV} : Det fun K : AV → Prop => indexD P ob t a i K := by
  constructor
  · intro K
    unfold indexD
    simp only [cond_eq]
    repeat' split
    all_goals first | exact fun h => h.elim | exact fun h => h.2.elim | exact fun h => ⟨_, h, rfl⟩ | exact fun h => ⟨_, h.2, h.1, rfl⟩
  · intro K K'
    unfold indexD
    simp only [cond_eq]
    repeat' split
    all_goals first | exact fun h => h.elim | exact fun h => h.2.elim | exact fun h h' => ⟨_, h, h'⟩ | exact fun h h' => ⟨_, h.2, h'.2⟩
theorem storeD_ex {t : Nat} {a x : AV} {K : Dl → Prop} : storeD P ob t a x K → ∃ v, K v := by
  unfold storeD
  simp only [cond_eq]
  repeat' split
  all_goals first | exact fun h => h.elim | exact fun h => h.2.elim | exact fun h => ⟨_, h⟩ | exact fun h => ⟨_, h.2⟩
theorem storeD_det {t : Nat} {a x : AV} : Det fun K : Dl → Prop => storeD P ob t a x K := by
  constructor
  · intro K
    unfold storeD
    simp only [cond_eq]
    repeat' split
    all_goals first | exact fun h => h.elim | exact fun h => h.2.elim | exact fun h => ⟨_, h, rfl⟩ | exact fun h => ⟨_, h.2, h.1, rfl⟩
  · intro K K'
    unfold storeD
    simp only [cond_eq]
    repeat' split
    all_goals first | exact fun h => h.elim | exact fun h => h.2.elim | exact fun h h' => ⟨_, h, h'⟩ | exact fun h h' => ⟨_, h.2, h'.2⟩
theorem intOp_ex {op : BinOp} {k : IntKind} {a b : Int} {K : D → Prop} : intOp op k a b K → ∃ v, K v := by
  unfold intOp
  repeat' split
  all_goals first | exact fun h => h.elim | exact fun h => h.2.elim | exact fun h => ⟨_, h⟩ | exact fun h => ⟨_, h.2⟩
theorem intOp_det {op : BinOp} {k : IntKind} {a b : Int} : Det fun K : D → Prop => intOp op k a b K := by
  constructor
  · intro K
    unfold intOp
    repeat' split
    all_goals first | exact fun h => h.elim | exact fun h => h.2.elim | exact fun h => ⟨_, h, rfl⟩ | exact fun h => ⟨_, h.2, h.1, rfl⟩
  · intro K K'
    unfold intOp
    repeat' split
    all_goals first | exact fun h => h.elim | exact fun h => h.2.elim | exact fun h h' => ⟨_, h, h'⟩ | exact fun h h' => ⟨_, h.2, h'.2⟩
theorem shOp_ex {op : BinOp} {k : IntKind} {a b : Int} {K : D → Prop} : shOp op k a b K → ∃ v, K v := by
  unfold shOp
  repeat' split
  all_goals first | exact fun h => h.elim | exact fun h => h.2.elim | exact fun h => ⟨_, h⟩ | exact fun h => ⟨_, h.2⟩
theorem shOp_det {op : BinOp} {k : IntKind} {a b : Int} : Det fun K : D → Prop => shOp op k a b K := by
  constructor
  · intro K
    unfold shOp
    repeat' split
    all_goals first | exact fun h => h.elim | exact fun h => h.2.elim | exact fun h => ⟨_, h, rfl⟩ | exact fun h => ⟨_, h.2, h.1, rfl⟩
  · intro K K'
    unfold shOp
    repeat' split
    all_goals first | exact fun h => h.elim | exact fun h => h.2.elim | exact fun h h' => ⟨_, h, h'⟩ | exact fun h h' => ⟨_, h.2, h'.2⟩
theorem unD_ex {op : UnOp} {t : Nat} {x : AV} {K : AV → Prop} : unD P ob op t x K → ∃ v, K v := by
  unfold unD
  repeat' split
  all_goals first | exact fun h => h.elim | exact fun h => h.2.elim | exact fun h => ⟨_, h⟩ | exact fun h => ⟨_, h.2⟩
theorem unD_det {op : UnOp} {t : Nat} {x : AV} : Det fun K : AV → Prop => unD P ob op t x K := by
  constructor
  · intro K
    unfold unD
    repeat' split
    all_goals first | exact fun h => h.elim | exact fun h => h.2.elim | exact fun h => ⟨_, h, rfl⟩ | exact fun h => ⟨_, h.2, h.1, rfl⟩
  · intro K K'
    unfold unD
    repeat' split
    all_goals first | exact fun h => h.elim | exact fun h => h.2.elim | exact fun h h' => ⟨_, h, h'⟩ | exact fun h h' => ⟨_, h.2, h'.2⟩
theorem lenD_ex {t tr : Nat} {x : AV} {K : AV → Prop} : lenD P ob t x K tr → ∃ v, K v := by
  unfold lenD
  simp only [cond_eq]
  repeat' split
  all_goals first | exact fun h => h.elim | exact fun h => h.2.elim | exact fun h => ⟨_, h⟩ | exact fun h => ⟨_, h.2⟩
theorem lenD_det {t tr : Nat} {x : AV} : Det fun K : AV → Prop => lenD P ob t x K tr := by
  constructor
  · intro K
    unfold lenD
    simp only [cond_eq]
    repeat' split
    all_goals first | exact fun h => h.elim | exact fun h => h.2.elim | exact fun h => ⟨_, h, rfl⟩ | exact fun h => ⟨_, h.2, h.1, rfl⟩
  · intro K K'
    unfold lenD
    simp only [cond_eq]
    repeat' split
    all_goals first | exact fun h => h.elim | exact fun h => h.2.elim | exact fun h h' => ⟨_, h, h'⟩ | exact fun h h' => ⟨_, h.2, h'.2⟩
theorem appendD_ex {dst t : Nat} {x y : AV} {K : Dl → Prop} : appendD P ob dst t x y K → ∃ v, K v := by
  unfold appendD
  simp only [cond_eq]
  repeat' split
  all_goals first | exact fun h => h.elim | exact fun h => h.2.elim | exact fun h => ⟨_, h⟩ | exact fun h => ⟨_, h.2⟩
theorem appendD_det {dst t : Nat} {x y : AV} : Det fun K : Dl → Prop => appendD P ob dst t x y K := by
  constructor
  · intro K
    unfold appendD
    simp only [cond_eq]
    repeat' split
    all_goals first | exact fun h => h.elim | exact fun h => h.2.elim | exact fun h => ⟨_, h, rfl⟩ | exact fun h => ⟨_, h.2, h.1, rfl⟩
  · intro K K'
    unfold appendD
    simp only [cond_eq]
    repeat' split
    all_goals first | exact fun h => h.elim | exact fun h => h.2.elim | exact fun h h' => ⟨_, h, h'⟩ | exact fun h h' => ⟨_, h.2, h'.2⟩
theorem buildD_ex {own : Bool} {dst t : Nat} {l : List (Nat × AV)} {K : Dl → Prop} : buildD P own ob dst t l K → ∃ v, K v := by
  unfold buildD
  simp only [cond_eq]
  repeat' split
  all_goals first | exact fun h => h.elim | exact fun h => h.2.elim | exact fun h => ⟨_, h⟩ | exact fun h => ⟨_, h.2⟩
theorem buildD_det {own : Bool} {dst t : Nat} {l : List (Nat × AV)} : Det fun K : Dl → Prop => buildD P own ob dst t l K := by
  constructor
  · intro K
    unfold buildD
    simp only [cond_eq]
    repeat' split
    all_goals first | exact fun h => h.elim | exact fun h => h.2.elim | exact fun h => ⟨_, h, rfl⟩ | exact fun h => ⟨_, h.2, h.1, rfl⟩
  · intro K K'
    unfold buildD
    simp only [cond_eq]
    repeat' split
    all_goals first | exact fun h => h.elim | exact fun h => h.2.elim | exact fun h h' => ⟨_, h, h'⟩ | exact fun h h' => ⟨_, h.2, h'.2⟩
theorem buildSliceD_ex {dst t n : Nat} {l : List (Nat × AV)} {K : Dl → Prop} : buildSliceD P ob dst t n l K → ∃ v, K v := by
  unfold buildSliceD
  simp only [cond_eq]
  repeat' split
  all_goals first | exact fun h => h.elim | exact fun h => h.2.elim | exact fun h => ⟨_, h⟩ | exact fun h => ⟨_, h.2⟩
theorem buildSliceD_det {dst t n : Nat} {l : List (Nat × AV)} : Det fun K : Dl → Prop => buildSliceD P ob dst t n l K := by
  constructor
  · intro K
    unfold buildSliceD
    simp only [cond_eq]
    repeat' split
    all_goals first | exact fun h => h.elim | exact fun h => h.2.elim | exact fun h => ⟨_, h, rfl⟩ | exact fun h => ⟨_, h.2, h.1, rfl⟩
  · intro K K'
    unfold buildSliceD
    simp only [cond_eq]
    repeat' split
    all_goals first | exact fun h => h.elim | exact fun h => h.2.elim | exact fun h h' => ⟨_, h, h'⟩ | exact fun h h' => ⟨_, h.2, h'.2⟩
theorem makeSliceD_ex {dst t : Nat} {l c : Int} {K : Dl → Prop} : makeSliceD P ob dst t l c K → ∃ v, K v := by
  unfold makeSliceD
  simp only [cond_eq]
  repeat' split
  all_goals first | exact fun h => h.elim | exact fun h => h.2.elim | exact fun h => ⟨_, h⟩ | exact fun h => ⟨_, h.2⟩
theorem makeSliceD_det {dst t : Nat} {l c : Int} : Det fun K : Dl → Prop => makeSliceD P ob dst t l c K := by
  constructor
  · intro K
    unfold makeSliceD
    simp only [cond_eq]
    repeat' split
    all_goals first | exact fun h => h.elim | exact fun h => h.2.elim | exact fun h => ⟨_, h, rfl⟩ | exact fun h => ⟨_, h.2, h.1, rfl⟩
  · intro K K'
    unfold makeSliceD
    simp only [cond_eq]
    repeat' split
    all_goals first | exact fun h => h.elim | exact fun h => h.2.elim | exact fun h h' => ⟨_, h, h'⟩ | exact fun h h' => ⟨_, h.2, h'.2⟩

end
end Go.Ab

/- Rules of code are monotone, and have an outcome. -/
namespace Go.Ab
variable {P : Program} {A : Ann}

section
variable {ob : Nat → Option Obj}

theorem binD_ex {op : BinOp} {tx ty tr : Nat} {x y : AV} {K : AV → Prop} : binD P ob op tx ty tr x y K → ∃ v, K v := by
  unfold binD
  simp only [cond_eq]
  repeat' split
  all_goals first | exact fun h => h.elim | exact fun h => (shOp_ex h).elim fun d hd => ⟨_, hd⟩ | exact fun h => (intOp_ex h).elim fun d hd => ⟨_, hd⟩ | exact fun h => ⟨_, h false (fun e => by cases e)⟩ | exact fun h => ⟨_, h⟩
theorem sliceOfD_ex {t : Nat} {x : AV} {lo hi : Option Int} {K : AV → Prop} : sliceOfD P ob t x lo hi K → ∃ v, K v := by
  unfold sliceOfD
  simp only
  repeat' split
  all_goals first | exact fun h => h.elim | exact fun h => h.2.elim | exact fun h => ⟨_, h⟩ | exact fun h => ⟨_, h.2⟩
theorem mapStoreD_ex {t : Nat} {m k v : AV} {K : Dl → Prop} : mapStoreD P ob t m k v K → ∃ v, K v := by
  unfold mapStoreD
  simp only [cond_eq]
  repeat' split
  all_goals first | exact fun h => h.elim | exact fun h => ⟨_, h⟩
theorem lookupD_ex {t : Nat} {m k : AV} {K : AV → Prop} : lookupD P ob t m k K → ∃ v, K v := by
  unfold lookupD
  simp only [cond_eq]
  repeat' split
  all_goals first | exact fun h => h.elim | exact fun h => ⟨_, h⟩
theorem indexSD_ex {t tr : Nat} {x i : AV} {K : AV → Prop} : indexSD P ob t tr x i K → ∃ v, K v := by
  unfold indexSD
  simp only [cond_eq]
  repeat' split
  all_goals first | exact fun h => h.elim | exact fun h => ⟨_, h.2⟩
theorem bothI_ex {look : Operand → AV} {o : Option Operand} {K : Option Int → Prop} : bothI P look o K → ∃ v, K v := by
  unfold bothI
  repeat' split
  all_goals first | exact fun h => h.elim | exact fun h => ⟨_, h⟩
theorem callD_ex {H : Hnd} (hM : HndM H) {dst : Option Nat} {f : Nat} {l : List AV} {K : Dl → Prop} : callD P A H dst f l ob K → ∃ v, K v := by
  unfold callD
  simp only [cond_eq]
  split <;> try exact fun h => h.elim
  split <;> try exact fun h => h.elim
  split <;> try exact fun h => h.elim
  intro h
  obtain ⟨r, hr⟩ := hM.calE _ _ _ h
  split at hr
  all_goals first | exact ⟨_, hr⟩ | exact hr.elim

theorem boxD_ex {f dst t : Nat} {x : AV} {K : Dl → Prop} {C : Prop} (hC : C → ∃ v, K v) : boxD P A f dst t x ob K C → ∃ v, K v := by
  unfold boxD
  simp only [cond_eq]
  repeat' split
  all_goals first | exact fun h => h.elim | exact hC | exact fun h => ⟨_, h⟩
theorem primD_ex {dst : Option Nat} {f : Nat} {l : List AV} {K : Dl → Prop} : primD P dst f l ob K → ∃ v, K v := by
  unfold primD
  simp only [cond_eq]
  repeat' split
  all_goals first | exact fun h => h.elim | exact fun h => ⟨_, h.2⟩

/-- RULES HAVE AN OUTCOME. -/
theorem stepD_ex {H : Hnd} (hM : HndM H) {f : Nat} {o : Oper} {av : Operand → AV} {K : Dl → Prop} : stepD P A H f o av ob K → ∃ δ, K δ := by
  have hV : (∃ v, onV K v) → ∃ δ, K δ := fun ⟨v, h⟩ => ⟨_, h⟩
  unfold stepD
  cases hop : o.op with
  | call c =>
    simp only [cond_eq]
    repeat' split
    all_goals first | exact fun h => h.elim | exact fun h => ⟨_, h⟩ | exact fun h => hV (lenD_ex h) | exact appendD_ex | exact callD_ex hM | exact primD_ex | exact fun h => (hM.dynE _ _ _ _ _ h).elim fun r hr => ⟨_, hr⟩ | exact fun h => (hM.invE _ _ _ _ _ _ h).elim fun r hr => ⟨_, hr⟩
  | load t x => exact fun h => hV (loadD_ex h)
  | store t x y => exact storeD_ex
  | fieldAddr s x j => exact fun h => hV (fieldD_ex h)
  | indexAddr t x i => exact fun h => hV (indexD_ex h)
  | binOp op tx x y ty => exact fun h => hV (binD_ex h)
  | unOp op t x => exact fun h => hV (unD_ex h)
  | index t x i => exact fun h => hV (indexSD_ex h)
  | lookup t m k b =>
    cases b with
    | false => exact fun h => hV (lookupD_ex h)
    | true => exact fun h => h.elim
  | build t parts =>
    simp only
    split
    · exact buildD_ex
    · exact fun h => h.elim
  | buildSlice t n parts =>
    simp only
    split
    · exact buildSliceD_ex
    · exact fun h => h.elim
  | makeSlice t x y =>
    simp only
    split
    · exact makeSliceD_ex
    · exact fun h => h.elim
  | mapUpdate t x y z => exact mapStoreD_ex
  | slice t x lo hi mx =>
    cases mx with
    | none => exact fun h => (bothI_ex h).elim fun l h => (bothI_ex h).elim fun u h => hV (sliceOfD_ex h)
    | some m => exact fun h => h.elim
  | next x b =>
    cases b with
    | true => exact fun h => h.elim
    | false =>
      simp only [cond_eq]
      repeat' split
      all_goals first
        | exact fun h => h.elim
        | (intro h
           rename_i q m t hav _ _ _ kt et obq obm hk hq hm _ hsh hB
           cases hes : obq.d.es with
           | nil => exact ⟨_, h.1 hes⟩
           | cons z l => exact ⟨_, h.2 0 (by rw [hes]; simp)⟩)
        | skip
      all_goals (intro h; by_cases hes : (_ : List (D × D)) = [] <;> first | exact ⟨_, h.1 hes⟩ | exact ⟨_, h.2 0 (List.length_pos_iff.2 hes)⟩)
  | makeFunc fn first caps =>
    cases fn with
    | func f' =>
      simp only [cond_eq]
      split
      · exact fun h => ⟨_, h⟩
      · exact fun h => h.elim
    | _ => exact fun h => h.elim
  | box t x =>
    simp only
    split
    · exact boxD_ex fun h => ⟨_, h⟩
    · exact fun h => h.elim
  | makeMap t m =>
    cases m with
    | some m => exact fun h => h.elim
    | none =>
      simp only
      split
      · exact fun h => ⟨_, h⟩
      · exact fun h => h.elim
  | typeAssert x xt t ok =>
    cases ok with
    | false => exact fun h => h.elim
    | true =>
      simp only [cond_eq]
      repeat' split
      all_goals first | exact fun h => h.elim | exact fun h => ⟨_, h⟩
  | _ =>
    simp only [cond_eq]
    repeat' split
    all_goals first | exact fun h => h.elim | exact fun h => ⟨_, h⟩ | exact fun h => hV ⟨_, h⟩

theorem binD_det {op : BinOp} {tx ty tr : Nat} {x y : AV} (hs : ∀ e, tk P tx ≠ .slc e) : Det fun K : AV → Prop => binD P ob op tx ty tr x y K := by
  unfold binD
  cases hk : tk P tx with
  | slc e => exact absurd hk (hs e)
  | int k =>
    simp only
    cases okRes P op k tr with
    | false => exact Det.false
    | true =>
      simp only [cond_true]
      cases St.data P ob tx x with
      | none => exact Det.false
      | some a =>
        have h1 : ∀ b : Int, Det fun K : AV → Prop => intOp op k a.i b fun d => K (.imm (resT P op tr) d) := fun b => Det.map (g := fun d => AV.imm (resT P op tr) d) intOp_det fun _ _ h => intOp_mono h
        have h2 : ∀ b : Int, Det fun K : AV → Prop => shOp op k a.i b fun d => K (.imm (resT P op tr) d) := fun b => Det.map (g := fun d => AV.imm (resT P op tr) d) shOp_det fun _ _ h => shOp_mono h
        have h3 : Det fun K : AV → Prop => match tk P ty with
            | .int _ => match St.data P ob ty y with
              | some b => shOp op k a.i b.i fun d => K (.imm (resT P op tr) d)
              | none => False
            | _ => False := by
          cases tk P ty <;> first | exact Det.false | skip
          cases St.data P ob ty y with
          | none => exact Det.false
          | some b => exact h2 b.i
        have h4 : Det fun K : AV → Prop => match St.data P ob tx y with
            | some b => intOp op k a.i b.i fun d => K (.imm (resT P op tr) d)
            | none => False := by
          cases St.data P ob tx y with
          | none => exact Det.false
          | some b => exact h1 b.i
        cases op <;> first | exact h3 | exact h4
  | bool =>
    simp only
    cases isB P P.rt.bool with
    | false => exact Det.false
    | true =>
      simp only [cond_true]
      cases St.data P ob tx x with
      | none => exact Det.false
      | some a =>
        cases St.data P ob tx y with
        | none => exact Det.false
        | some b => cases op <;> first | exact Det.pure _ | exact Det.false
  | struct fs =>
    simp only
    cases (eqT P 8 tx && isB P P.rt.bool) with
    | false => exact Det.false
    | true =>
      simp only [cond_true]
      cases St.data P ob tx x with
      | none => exact Det.false
      | some a =>
        cases St.data P ob tx y with
        | none => exact Det.false
        | some b => cases op <;> first | exact Det.pure _ | exact Det.false
  | _ => exact Det.false

theorem detV {T : (AV → Prop) → Prop} (h : Det T) (hm : ∀ K K', (∀ x, K x → K' x) → T K → T K') : Det fun K : Dl → Prop => T (onV K) := Det.map (g := fun v => ({ v := v } : Dl)) h hm

/-- Operations with one outcome. -/
theorem boxD_det {f dst t : Nat} {x : AV} {δ0 : Dl} : Det fun K : Dl → Prop => boxD P A f dst t x ob K (K δ0) := by
  unfold boxD
  simp only [cond_eq]
  split
  · split
    · split
      · split
        · split
          · split
            · exact Det.false
            · exact Det.pure _
          · exact Det.false
        · exact Det.false
      · exact Det.false
    · exact Det.pure _
  · exact Det.pure _

theorem stepD_det {H : Hnd} {f : Nat} {o : Oper} {av : Operand → AV} (hs : simOp P o.op = true) : Det fun K : Dl → Prop => stepD P A H f o av ob K := by
  unfold stepD
  cases hop : o.op with
  | call c =>
    rw [hop] at hs
    simp only [simOp] at hs
    simp only
    split at hs <;> try contradiction
    · rename_i hc
      rw [hc]
      simp only
      constructor
      · intro K
        split
        · exact (detV lenD_det fun _ _ h => lenD_mono h).one K
        · exact fun h => h.elim
      · intro K K'
        split
        · exact (detV lenD_det fun _ _ h => lenD_mono h).same K K'
        · exact fun h => h.elim
    · rename_i hc
      rw [hc]
      simp only [cond_eq]
      constructor
      · intro K
        split
        · split
          · exact appendD_det.one K
          · exact fun h => h.elim
        · exact fun h => h.elim
      · intro K K'
        split
        · split
          · exact appendD_det.same K K'
          · exact fun h => h.elim
        · exact fun h => h.elim
    · rename_i hc
      rw [hc]
      simp only
      constructor
      · intro K
        split
        · exact fun h => ⟨_, h, rfl⟩
        · exact fun h => h.elim
      · intro K K'
        split
        · exact fun h h' => ⟨_, h, h'⟩
        · exact fun h => h.elim
    · rename_i hc
      rw [hc]
      simp only
      constructor
      · intro K
        split
        · exact fun h => ⟨_, h, rfl⟩
        · exact fun h => h.elim
      · intro K K'
        split
        · exact fun h h' => ⟨_, h, h'⟩
        · exact fun h => h.elim
  | load t x => exact detV loadD_det fun _ _ h => loadD_mono h
  | store t x y => exact storeD_det
  | fieldAddr s x j => exact detV fieldD_det fun _ _ h => fieldD_mono h
  | indexAddr t x i => exact detV indexD_det fun _ _ h => indexD_mono h
  | unOp op t x => exact detV unD_det fun _ _ h => unD_mono h
  | binOp op tx x y ty =>
    rw [hop] at hs
    simp only [simOp] at hs
    exact detV (binD_det fun e he => by rw [he] at hs; cases hs) fun _ _ h => binD_mono h
  | build t parts =>
    simp only
    cases o.dst with
    | none => exact Det.false
    | some d => exact buildD_det
  | buildSlice t n parts =>
    simp only
    cases o.dst with
    | none => exact Det.false
    | some d => exact buildSliceD_det
  | makeSlice t x y =>
    constructor
    · intro K
      simp only
      split
      · exact makeSliceD_det.one K
      · exact fun h => h.elim
    · intro K K'
      simp only
      split
      · exact makeSliceD_det.same K K'
      · exact fun h => h.elim
  | box t x =>
    constructor
    · intro K
      simp only
      split
      · exact boxD_det.one K
      · exact fun h => h.elim
    · intro K K'
      simp only
      split
      · exact boxD_det.same K K'
      · exact fun h => h.elim
  | move x | assign x | pick c x y | nilCheck x | convert s d x | alloc t | extract x i =>
    constructor
    · intro K
      simp only [cond_eq]
      repeat' split
      all_goals first | exact fun h => h.elim | exact fun h => ⟨_, h, rfl⟩
    · intro K K'
      simp only [cond_eq]
      repeat' split
      all_goals first | exact fun h => h.elim | exact fun h h' => ⟨_, h, h'⟩
  | _ => rw [hop] at hs; cases hs

end
end Go.Ab

/- Rules of code are monotone, and have an outcome: code and functions. -/
namespace Go.Ab
variable {P : Program} {A : Ann}

section
variable {H : Hnd} {f : Nat}

theorem St.step_mono (hM : HndM H) {o : Oper} {g : St} {K K' : St → Prop} (hK : ∀ g, K g → K' g) (h : g.step P A H f o K) : g.step P A H f o K' := by
  unfold St.step at h ⊢
  obtain ⟨h1, h2⟩ := of_cond h
  rw [h1]
  exact stepD_mono hM (fun _ => hK _) h2
theorem St.step_ex (hM : HndM H) {o : Oper} {g : St} {K : St → Prop} (h : g.step P A H f o K) : ∃ g', K g' := by
  unfold St.step at h
  obtain ⟨h1, h2⟩ := of_cond h
  obtain ⟨δ, h⟩ := stepD_ex hM h2
  exact ⟨_, h⟩

theorem St.guard_mono (hM : HndM H) {ops : Array Oper} {o : Oper} {g : St} {K K' : St → Prop} (hK : ∀ g, K g → K' g) : g.guard P A H f ops o K → g.guard P A H f ops o K' := by
  unfold St.guard
  simp only [cond_eq]
  repeat' split
  all_goals first | exact id | exact St.step_mono hM hK | exact hK _
theorem St.guard_ex (hM : HndM H) {ops : Array Oper} {o : Oper} {g : St} {K : St → Prop} : g.guard P A H f ops o K → ∃ g', K g' := by
  unfold St.guard
  simp only [cond_eq]
  repeat' split
  all_goals first | exact fun h => h.elim | exact St.step_ex hM | exact fun h => ⟨_, h⟩

theorem wpL_mono (hM : HndM H) {ops : Array Oper} {K K' : St → Prop} (hK : ∀ g, K g → K' g) : ∀ (l : List Oper) (g : St), wpL P A H f ops l g K → wpL P A H f ops l g K'
  | [], g, h => hK g h
  | o :: l, g, h => St.guard_mono hM (fun g' h' => wpL_mono hM hK l g' h') h
theorem wpL_ex (hM : HndM H) {ops : Array Oper} {K : St → Prop} : ∀ (l : List Oper) (g : St), wpL P A H f ops l g K → ∃ g', K g'
  | [], g, h => ⟨g, h⟩
  | o :: l, g, h => by
    obtain ⟨g', h'⟩ := St.guard_ex hM h
    exact wpL_ex hM l g' h'

theorem St.turn_mono (hM : HndM H) {ops : Array Oper} {o : Oper} {g : St} {K K' : Bool → St → Dl → Prop} (hK : ∀ r g δ, K r g δ → K' r g δ) : g.turn P A H f ops o K → g.turn P A H f ops o K' := by
  unfold St.turn
  simp only [cond_eq]
  repeat' split
  all_goals first | exact id | exact stepD_mono hM (fun _ => hK _ _ _) | exact hK _ _ _
theorem St.turn_ex (hM : HndM H) {ops : Array Oper} {o : Oper} {g : St} {K : Bool → St → Dl → Prop} : g.turn P A H f ops o K → ∃ r g' δ, K r g' δ := by
  unfold St.turn
  simp only [cond_eq]
  repeat' split
  all_goals first | exact fun h => h.elim | exact fun h => (stepD_ex hM h).elim fun δ h => ⟨_, _, δ, h⟩ | exact fun h => ⟨_, _, _, h⟩
theorem St.turn_guard (hM : HndM H) {ops : Array Oper} {o : Oper} {g : St} {K : St → Prop} (hd : dstOk P A f o.dst = true) (h : g.turn P A H f ops o fun _ g1 δ => K (g1.app o.dst δ)) : g.guard P A H f ops o K := by
  revert h
  unfold St.turn St.guard St.step
  simp only [hd, cond_true]
  split
  · exact id
  · split
    · split
      · exact id
      · exact id
      · exact id
    · exact id

theorem wpD_mono (hM : HndM H) {ops : Array Oper} {K K' : St → Prop} (hK : ∀ g, K g → K' g) : ∀ (l : List Nat) (fps fps' : List FP) (g : St), (∀ p ∈ fps', p ∈ fps) → wpD P A H f ops l fps g K → wpD P A H f ops l fps' g K'
  | [], fps, fps', g, _, h => hK g h
  | i :: l, fps, fps', g, hs, h => by
    have hall : ∀ (p : FP → Bool), fps.all p = true → fps'.all p = true := fun p hp => by
      rw [List.all_eq_true] at hp ⊢
      exact fun x hx => hp x (hs x hx)
    simp only [wpD] at h ⊢
    split
    · rename_i ho
      rw [ho] at h
      exact wpD_mono hM hK l fps fps' g hs h
    · rename_i o ho
      rw [ho] at h
      simp only at h
      obtain ⟨h1, h2⟩ := of_cond h
      rw [h1, cond_true]
      refine St.turn_mono hM (fun r g1 δ hδ => ?_) h2
      obtain ⟨h3, h4⟩ := of_cond hδ
      rw [hall _ h3, cond_true]
      exact wpD_mono hM hK l _ _ _ (fun p hp => by
        rcases List.mem_cons.1 hp with rfl | hp
        · simp
        · exact List.mem_cons_of_mem _ (hs p hp)) h4
theorem wpD_ex (hM : HndM H) {ops : Array Oper} {K : St → Prop} : ∀ (l : List Nat) (fps : List FP) (g : St), wpD P A H f ops l fps g K → ∃ g', K g'
  | [], fps, g, h => ⟨g, h⟩
  | i :: l, fps, g, h => by
    simp only [wpD] at h
    split at h
    · exact wpD_ex hM l fps g h
    · obtain ⟨_, h2⟩ := of_cond h
      obtain ⟨r, g1, δ, hδ⟩ := St.turn_ex hM h2
      exact wpD_ex hM l _ _ (of_cond hδ).2

theorem run_mono {K K' : St → Prop} (hK : ∀ g, K g → K' g) : ∀ (l : List Cmd) (g : St), g.run P l K → g.run P l K'
  | [], g, h => hK g h
  | c :: l, g, h => by
    simp only [St.run] at h ⊢
    split
    · rename_i hc; rw [hc] at h; exact run_mono hK l _ h
    · rename_i hc; rw [hc] at h; exact h
theorem run_ex {K : St → Prop} : ∀ (l : List Cmd) (g : St), g.run P l K → ∃ g', K g'
  | [], g, h => ⟨g, h⟩
  | c :: l, g, h => by
    simp only [St.run] at h
    split at h
    · exact run_ex l _ h
    · exact h.elim

theorem loopK_mono {body : St → (Ex → St → Prop) → Prop} {nm : St → (St → Prop) → Prop} (hb : ∀ g K K', (∀ e g, K e g → K' e g) → body g K → body g K') (hn : ∀ g K K', (∀ g, K g → K' g) → nm g K → nm g K') {K K' : Ex → St → Prop} (hK : ∀ e g, K e g → K' e g) : ∀ (m : Nat) (g : St), loopK body nm m g K → loopK body nm m g K'
  | 0, g, h => h
  | m + 1, g, h => hb _ _ _ (fun e g' h' => by
      cases e with
      | nrm => exact hn _ _ _ (fun g2 h2 => loopK_mono hb hn hK m g2 h2) h'
      | ext i => exact hK _ _ h'
      | ret => exact hK _ _ h') h
theorem loopK_ex {body : St → (Ex → St → Prop) → Prop} {nm : St → (St → Prop) → Prop} (hb : ∀ g K, body g K → ∃ e g', K e g') (hn : ∀ g K, nm g K → ∃ g', K g') {K : Ex → St → Prop} : ∀ (m : Nat) (g : St), loopK body nm m g K → ∃ e g', K e g'
  | 0, g, h => h.elim
  | m + 1, g, h => by
    obtain ⟨e, g', h'⟩ := hb _ _ h
    cases e with
    | nrm =>
      obtain ⟨g2, h2⟩ := hn _ _ h'
      exact loopK_ex hb hn m g2 h2
    | ext i => exact ⟨_, _, h'⟩
    | ret => exact ⟨_, _, h'⟩

theorem nmK_mono {l : List Cmd × List Nat × List Nat} {g : St} {K K' : St → Prop} (hK : ∀ g, K g → K' g) (h : nmK P l g K) : nmK P l g K' := run_mono (fun _ => hK _) _ _ h
theorem nmK_ex {l : List Cmd × List Nat × List Nat} {g : St} {K : St → Prop} (h : nmK P l g K) : ∃ g', K g' := by
  obtain ⟨g', h⟩ := run_ex _ _ h
  exact ⟨_, h⟩

theorem wpC_mono (hM : HndM H) {n : Nat} : ∀ (c : Code) (g : St) (K K' : Ex → St → Prop), (∀ e g, K e g → K' e g) → wpC P A H f n c g K → wpC P A H f n c g K'
  | .skip, g, K, K', hK, h => hK _ _ h
  | .ret, g, K, K', hK, h => hK _ _ h
  | .exit i, g, K, K', hK, h => hK _ _ h
  | .region id ops draw, g, K, K', hK, h => by
    simp only [wpC] at h ⊢
    refine run_mono (fun g' h' => ?_) _ _ h
    cases draw with
    | false => exact wpL_mono hM (fun _ => hK _ _) _ _ h'
    | true =>
      obtain ⟨h1, h2⟩ := of_cond h'
      show cond (fwdOk ops) _ False
      rw [h1]
      exact wpD_mono hM (fun _ => hK _ _) _ _ _ _ (fun _ h => h) h2
  | .seq x y, g, K, K', hK, h => by
    simp only [wpC] at h ⊢
    refine wpC_mono hM x g _ _ (fun e g' h' => ?_) h
    cases e with
    | nrm => exact wpC_mono hM y g' K K' hK h'
    | ext i => exact hK _ _ h'
    | ret => exact hK _ _ h'
  | .cond c x y, g, K, K', hK, h => by
    simp only [wpC] at h ⊢
    revert h
    simp only [cond_eq]
    repeat' split
    all_goals first | exact id | exact wpC_mono hM x _ K K' hK | exact wpC_mono hM y _ K K' hK
  | .block id c, g, K, K', hK, h => by
    simp only [wpC] at h ⊢
    refine wpC_mono hM c g _ _ (fun e g' h' => ?_) h
    cases e with
    | nrm => exact hK _ _ h'
    | ret => exact hK _ _ h'
    | ext i =>
      simp only [kBlock, cond_eq] at h' ⊢
      split
      · rename_i e; rw [if_pos e] at h'; exact hK _ _ h'
      · rename_i e; rw [if_neg e] at h'; exact hK _ _ h'
  | .loop c, g, K, K', hK, h => by
    simp only [wpC] at h ⊢
    exact nmK_mono (fun g' h' => loopK_mono (body := wpC P A H f n c) (nm := nmK P (A.loop f (firstRegion c))) (fun g K K' hK h => wpC_mono hM c g K K' hK h) (fun g K K' hK h => nmK_mono hK h) hK n g' h') h
  | .label _, g, K, K', hK, h => h.elim
  | .goto _, g, K, K', hK, h => h.elim
  | .scope _, g, K, K', hK, h => h.elim
  | .refuse _, g, K, K', hK, h => h.elim
  | .rangeFunc .., g, K, K', hK, h => h.elim

theorem wpC_ex (hM : HndM H) {n : Nat} : ∀ (c : Code) (g : St) (K : Ex → St → Prop), wpC P A H f n c g K → ∃ e g', K e g'
  | .skip, g, K, h => ⟨_, _, h⟩
  | .ret, g, K, h => ⟨_, _, h⟩
  | .exit i, g, K, h => ⟨_, _, h⟩
  | .region id ops draw, g, K, h => by
    simp only [wpC] at h
    obtain ⟨g', h'⟩ := run_ex _ _ h
    cases draw with
    | false => obtain ⟨g2, h2⟩ := wpL_ex hM _ _ h'; exact ⟨_, _, h2⟩
    | true => obtain ⟨g2, h2⟩ := wpD_ex hM _ _ _ (of_cond h').2; exact ⟨_, _, h2⟩
  | .seq x y, g, K, h => by
    simp only [wpC] at h
    obtain ⟨e, g', h'⟩ := wpC_ex hM x g _ h
    cases e with
    | nrm => exact wpC_ex hM y g' K h'
    | ext i => exact ⟨_, _, h'⟩
    | ret => exact ⟨_, _, h'⟩
  | .cond c x y, g, K, h => by
    simp only [wpC] at h
    revert h
    simp only [cond_eq]
    repeat' split
    all_goals first | exact fun h => h.elim | exact wpC_ex hM x _ K | exact wpC_ex hM y _ K
  | .block id c, g, K, h => by
    simp only [wpC] at h
    obtain ⟨e, g', h'⟩ := wpC_ex hM c g _ h
    cases e with
    | nrm => exact ⟨_, _, h'⟩
    | ret => exact ⟨_, _, h'⟩
    | ext i =>
      simp only [kBlock, cond_eq] at h'
      split at h' <;> exact ⟨_, _, h'⟩
  | .loop c, g, K, h => by
    simp only [wpC] at h
    obtain ⟨g', h'⟩ := nmK_ex h
    exact loopK_ex (body := wpC P A H f n c) (nm := nmK P (A.loop f (firstRegion c))) (fun g K h => wpC_ex hM c g K h) (fun g K h => nmK_ex h) n g' h'
  | .label _, g, K, h => h.elim
  | .goto _, g, K, h => h.elim
  | .scope _, g, K, h => h.elim
  | .refuse _, g, K, h => h.elim
  | .rangeFunc .., g, K, h => h.elim
end

theorem kEnd_mono {fn : Func} {s : Sig} {Q Q' : List D → Prop} (hQ : ∀ r, Q r → Q' r) : ∀ (e : Ex) (g : St), kEnd P fn s Q e g → kEnd P fn s Q' e g := by
  intro e g
  cases e with
  | ext i => exact id
  | nrm =>
    simp only [kEnd, cond_eq]
    repeat' split
    all_goals first | exact id | exact hQ _
  | ret =>
    simp only [kEnd, cond_eq]
    repeat' split
    all_goals first | exact id | exact hQ _
theorem kEnd_ex {fn : Func} {s : Sig} {Q : List D → Prop} : ∀ (e : Ex) (g : St), kEnd P fn s Q e g → ∃ r, Q r := by
  intro e g
  cases e with
  | ext i => exact fun h => h.elim
  | nrm =>
    simp only [kEnd, cond_eq]
    repeat' split
    all_goals first | exact fun h => h.elim | exact fun h => ⟨_, h⟩
  | ret =>
    simp only [kEnd, cond_eq]
    repeat' split
    all_goals first | exact fun h => h.elim | exact fun h => ⟨_, h⟩

theorem hnd_of {cal : Nat → List D → (List D → Prop) → Prop} (h1 : ∀ f ds Q Q', (∀ r, Q r → Q' r) → cal f ds Q → cal f ds Q') (h2 : ∀ f ds Q, cal f ds Q → ∃ r, Q r) : HndM { cal, dyn := dynH A cal, inv := invH P A cal } :=
  ⟨h1, fun d ks rs ds Q Q' hQ => by
    simp only [dynH]
    split
    · exact fun h => ⟨h.1, h1 _ _ _ _ hQ h.2⟩
    · exact id, fun d s ks rs ds Q Q' hQ => by
    simp only [invH]
    split
    · split
      · exact fun h => ⟨h.1, h1 _ _ _ _ hQ h.2⟩
      · exact id
    · exact id, h2, fun d ks rs ds Q => by
    simp only [dynH]
    split
    · exact fun h => h2 _ _ _ h.2
    · exact fun h => h.elim, fun d s ks rs ds Q => by
    simp only [invH]
    split
    · split
      · exact fun h => h2 _ _ _ h.2
      · exact fun h => h.elim
    · exact fun h => h.elim⟩

theorem wpF_me : ∀ n, (∀ f ds Q Q', (∀ r, Q r → Q' r) → wpF P A n f ds Q → wpF P A n f ds Q') ∧ ∀ f ds Q, wpF P A n f ds Q → ∃ r, Q r
  | 0 => ⟨fun _ _ _ _ _ h => h, fun _ _ _ h => h.elim⟩
  | n + 1 => by
    obtain ⟨i1, i2⟩ := wpF_me n
    have hM : HndM (hnd P A n) := hnd_of i1 i2
    constructor
    · intro f ds Q Q' hQ h
      simp only [wpF] at h ⊢
      split
      · rename_i fn hf
        rw [hf] at h
        simp only [wpB] at h ⊢
        split
        · rename_i c hc
          rw [hc] at h
          simp only at h
          obtain ⟨h1, h2⟩ := of_cond h
          rw [h1]
          exact wpC_mono hM c _ _ _ (kEnd_mono hQ) h2
        · rename_i hc; rw [hc] at h; exact h
      · rename_i hf; rw [hf] at h; exact h
    · intro f ds Q h
      simp only [wpF] at h
      split at h
      · simp only [wpB] at h
        split at h
        · obtain ⟨_, h2⟩ := of_cond h
          obtain ⟨e, g', h'⟩ := wpC_ex hM _ _ _ h2
          exact kEnd_ex e g' h'
        · exact h.elim
      · exact h.elim

theorem hnd_m (n : Nat) : HndM (hnd P A n) := hnd_of (wpF_me n).1 (wpF_me n).2

end Go.Ab

/- What a rule looks at. -/
namespace Go.Ab
variable {P : Program} {A : Ann}

section
variable {ob ob' : Nat → Option Obj}

theorem refs_val {o t : Nat} {p : Pth} : o ∈ (AV.val o p t).refs := by
  cases p with
  | nil => simp [AV.refs, AV.refs1]
  | cons x p =>
    cases p with
    | nil => cases x <;> simp [AV.refs, AV.refs1]
    | cons y p => cases x <;> simp [AV.refs, AV.refs1]
theorem refs_vptr {o t : Nat} {p : Pth} : o ∈ (AV.vptr o p t).refs := by
  cases p with
  | nil => simp [AV.refs, AV.refs1]
  | cons x p =>
    cases p with
    | nil => cases x <;> simp [AV.refs, AV.refs1]
    | cons y p => cases x <;> simp [AV.refs, AV.refs1]
theorem refs_ptr {o t : Nat} {p : Pth} : o ∈ (AV.ptr o p t).refs := by simp [AV.refs, AV.refs1]
theorem refs_old {o t : Nat} {d : D} : o ∈ (AV.old o t d).refs := by simp [AV.refs, AV.refs1]
theorem refs_flat {a : AV} (h : a.flatA = true) : a.refs = a.refs1 := by
  cases a <;> first | rfl | simp [AV.flatA] at h

theorem data_local {t : Nat} {a : AV} (h : ∀ c ∈ a.refs, ob c = ob' c) : St.data P ob t a = St.data P ob' t a := by
  cases a with
  | val o p u => simp only [St.data, h o refs_val]
  | old o u d => simp only [St.data, h o refs_old]
  | _ => rfl
theorem takeV_local {t : Nat} {a : AV} (h : ∀ c ∈ a.refs, ob c = ob' c) : takeV P ob t a = takeV P ob' t a := by
  cases a with
  | val o p u => cases p <;> simp only [takeV, h o refs_val]
  | con v => unfold takeV; split <;> first | rfl | (rename_i heq; cases heq)
  | _ => rfl
theorem capD_local {k : PK} {a : AV} (h : ∀ c ∈ a.refs, ob c = ob' c) : capD P ob k a = capD P ob' k a := by
  cases k with
  | imm t =>
    cases a with
    | val o p u => simp only [capD, data_local h, immAt, h o refs_val]
    | old o u d => simp only [capD, data_local h]
    | _ => simp only [capD, data_local h]
  | iptr e =>
    cases a with
    | ptr o p u => simp only [capD, h o refs_ptr]
    | _ => rfl
  | lent e s bx => cases a <;> rfl
theorem capD_ids {k : PK} {a : AV} {d : D} {bs : List (Nat × Option Pth)} (h : capD P ob k a = some (d, bs)) : ∀ x ∈ bs, x.1 ∈ a.refs := by
  cases k with
  | imm t =>
    cases a with
    | val o p u =>
      simp only [capD] at h
      split at h <;> try contradiction
      simp only [Option.some.injEq, Prod.mk.injEq] at h
      obtain ⟨_, rfl⟩ := h
      intro x hx
      cases hi : immAt ob o p with
      | true => rw [hi] at hx; simp at hx
      | false =>
        rw [hi] at hx
        simp only [cond_false, List.mem_singleton] at hx
        subst hx
        exact refs_val
    | old o u d' =>
      simp only [capD] at h
      split at h <;> try contradiction
      simp only [Option.some.injEq, Prod.mk.injEq] at h
      obtain ⟨_, rfl⟩ := h
      intro x hx
      simp only [List.mem_singleton] at hx
      subst hx
      exact refs_old
    | _ =>
      simp only [capD] at h
      split at h <;> first | contradiction | (simp only [Option.some.injEq, Prod.mk.injEq] at h; obtain ⟨_, rfl⟩ := h; simp; done) | (cases h; done)
  | iptr e =>
    cases a with
    | ptr o p u =>
      simp only [capD, cond_eq] at h
      split at h <;> try contradiction
      split at h <;> try contradiction
      split at h <;> try contradiction
      split at h <;> try contradiction
      simp only [Option.some.injEq, Prod.mk.injEq] at h
      obtain ⟨_, rfl⟩ := h
      intro x hx
      simp only [List.mem_singleton] at hx
      subst hx
      exact refs_ptr
    | iptr u d' =>
      simp only [capD] at h
      obtain ⟨_, h⟩ := of_condO h
      simp only [Prod.mk.injEq] at h
      obtain ⟨_, rfl⟩ := h
      simp
    | _ => simp [capD] at h
  | lent e s bx => cases a <;> simp [capD] at h


theorem capsD_local : ∀ (ks : List PK) (l : List AV), (∀ a ∈ l, ∀ c ∈ a.refs1, ob c = ob' c) → capsD P ob ks l = capsD P ob' ks l
  | [], [], _ => rfl
  | [], _ :: _, _ => rfl
  | _ :: _, [], _ => rfl
  | k :: ks, a :: l, h => by
    have h1 : capD P ob k a = capD P ob' k a := by
      by_cases hf : a.flatA = true
      · exact capD_local fun c hc => h a (by simp) c (by rw [refs_flat hf] at hc; exact hc)
      · cases a <;> first | simp [AV.flatA] at hf; done | skip
        all_goals cases k <;> rfl
    simp only [capsD, h1, capsD_local ks l fun b hb => h b (List.mem_cons_of_mem _ hb)]
theorem capsD_ids : ∀ (ks : List PK) (l : List AV) (ds : List D) (bs : List (Nat × Option Pth)), capsD P ob ks l = some (ds, bs) → ∀ x ∈ bs, ∃ a ∈ l, x.1 ∈ a.refs1
  | [], [], ds, bs, h => by simp only [capsD, Option.some.injEq, Prod.mk.injEq] at h; obtain ⟨_, rfl⟩ := h; simp
  | [], _ :: _, ds, bs, h => by simp [capsD] at h
  | _ :: _, [], ds, bs, h => by simp [capsD] at h
  | k :: ks, a :: l, ds, bs, h => by
    simp only [capsD] at h
    split at h <;> try contradiction
    rename_i d b1 ds2 b2 h1 h2
    simp only [Option.some.injEq, Prod.mk.injEq] at h
    obtain ⟨_, rfl⟩ := h
    intro x hx
    rcases List.mem_append.1 hx with hx | hx
    · refine ⟨a, by simp, ?_⟩
      have h3 := capD_ids h1 x hx
      by_cases hf : a.flatA = true
      · rw [refs_flat hf] at h3; exact h3
      · cases a <;> first | simp [AV.flatA] at hf; done | skip
        all_goals cases k <;> simp [capD, St.data] at h1
    · obtain ⟨b, hb, h3⟩ := capsD_ids ks l ds2 b2 h2 x hx
      exact ⟨b, List.mem_cons_of_mem _ hb, h3⟩

theorem argD_local {k : PK} {a : AV} (h : ∀ c ∈ a.refs, ob c = ob' c) : argD P A ob k a = argD P A ob' k a := by
  cases k with
  | imm t =>
    cases a with
    | clo f l =>
      simp only [argD]
      rw [capsD_local _ l fun b hb c hc => h c (by simp only [AV.refs, List.mem_flatMap]; exact ⟨b, hb, hc⟩)]
    | fn f => rfl
    | _ => simp only [argD, capD_local h]
  | iptr e =>
    cases a with
    | iptr u d => rfl
    | ptr o p u => simp only [argD, capD_local h]
    | _ => rfl
  | lent e s bx =>
    cases bx with
    | true =>
      cases a with
      | ptr o p u => cases p <;> simp only [argD, h o refs_ptr]
      | _ => rfl
    | false =>
      cases a with
      | val o p u => cases p <;> simp only [argD, h o refs_val]
      | _ => rfl
theorem argD_ids {k : PK} {a : AV} {d : D} {bs : List (Nat × Option Pth)} {os : List Nat} (h : argD P A ob k a = some (d, bs, os)) : (∀ x ∈ bs, x.1 ∈ a.refs) ∧ ∀ o ∈ os, o ∈ a.refs := by
  have cap : ∀ (k : PK), (match (generalizing := false) capD P ob k a with
    | some (d, os) => some (d, os, ([] : List Nat))
    | none => none) = some (d, bs, os) → (∀ x ∈ bs, x.1 ∈ a.refs) ∧ ∀ o ∈ os, o ∈ a.refs := fun k h => by
    split at h <;> try contradiction
    rename_i d' b' hc
    simp only [Option.some.injEq, Prod.mk.injEq] at h
    obtain ⟨_, rfl, rfl⟩ := h
    exact ⟨capD_ids hc, by simp⟩
  cases k with
  | imm t =>
    cases a with
    | clo f l =>
      simp only [argD] at h
      split at h <;> try contradiction
      split at h <;> try contradiction
      rename_i ds b' hc
      simp only [Option.some.injEq, Prod.mk.injEq] at h
      obtain ⟨_, rfl, rfl⟩ := h
      refine ⟨fun x hx => ?_, by simp⟩
      obtain ⟨b, hb, h3⟩ := capsD_ids _ l _ _ hc x hx
      simp only [AV.refs, List.mem_flatMap]
      exact ⟨b, hb, h3⟩
    | fn f =>
      simp only [argD] at h
      split at h <;> try contradiction
      simp only [Option.some.injEq, Prod.mk.injEq] at h
      obtain ⟨_, rfl, rfl⟩ := h
      simp
    | _ => exact cap (.imm t) h
  | iptr e =>
    cases a with
    | iptr u d' =>
      simp only [argD] at h
      obtain ⟨_, h⟩ := of_condO h
      simp only [Prod.mk.injEq] at h
      obtain ⟨_, rfl, rfl⟩ := h
      simp
    | ptr o p u =>
      simp only [argD] at h
      split at h <;> try contradiction
      rename_i d' b' hc
      simp only [Option.some.injEq, Prod.mk.injEq] at h
      obtain ⟨_, rfl, rfl⟩ := h
      exact ⟨capD_ids hc, by simp⟩
    | _ => simp [argD] at h
  | lent e s bx =>
    cases bx with
    | true =>
      cases a with
      | ptr o p u =>
        cases p with
        | nil =>
          simp only [argD, cond_eq] at h
          split at h <;> try contradiction
          split at h <;> try contradiction
          split at h <;> try contradiction
          simp only [Option.some.injEq, Prod.mk.injEq] at h
          obtain ⟨_, rfl, rfl⟩ := h
          refine ⟨by simp, fun x hx => ?_⟩
          simp only [List.mem_singleton] at hx
          subst hx
          exact refs_ptr
        | cons z p => simp [argD] at h
      | _ => simp [argD] at h
    | false =>
      cases a with
      | val o p u =>
        cases p with
        | nil =>
          simp only [argD, cond_eq] at h
          split at h <;> try contradiction
          split at h <;> try contradiction
          split at h <;> try contradiction
          simp only [Option.some.injEq, Prod.mk.injEq] at h
          obtain ⟨_, rfl, rfl⟩ := h
          refine ⟨by simp, fun x hx => ?_⟩
          simp only [List.mem_singleton] at hx
          subst hx
          exact refs_val
        | cons z p => simp [argD] at h
      | _ => simp [argD] at h

theorem argsD_local : ∀ (ks : List PK) (l : List AV), (∀ a ∈ l, ∀ c ∈ a.refs, ob c = ob' c) → argsD P A ob ks l = argsD P A ob' ks l
  | [], [], _ => rfl
  | [], _ :: _, _ => rfl
  | _ :: _, [], _ => rfl
  | k :: ks, a :: l, h => by
    simp only [argsD, argD_local (h a (by simp)), argsD_local ks l fun b hb => h b (List.mem_cons_of_mem _ hb)]
theorem argsD_ids : ∀ (ks : List PK) (l : List AV) (ds : List D) (bs : List (Nat × Option Pth)) (os : List Nat), argsD P A ob ks l = some (ds, bs, os) → (∀ x ∈ bs, ∃ a ∈ l, x.1 ∈ a.refs) ∧ ∀ o ∈ os, ∃ a ∈ l, o ∈ a.refs
  | [], [], ds, bs, os, h => by simp only [argsD, Option.some.injEq, Prod.mk.injEq] at h; obtain ⟨_, rfl, rfl⟩ := h; simp
  | [], _ :: _, ds, bs, os, h => by simp [argsD] at h
  | _ :: _, [], ds, bs, os, h => by simp [argsD] at h
  | k :: ks, a :: l, ds, bs, os, h => by
    simp only [argsD] at h
    split at h <;> try contradiction
    rename_i d b1 o1 ds2 b2 o2 h1 h2
    simp only [Option.some.injEq, Prod.mk.injEq] at h
    obtain ⟨_, rfl, rfl⟩ := h
    obtain ⟨i1, i2⟩ := argD_ids h1
    obtain ⟨j1, j2⟩ := argsD_ids ks l ds2 b2 o2 h2
    refine ⟨fun x hx => ?_, fun x hx => ?_⟩
    · rcases List.mem_append.1 hx with hx | hx
      · exact ⟨a, by simp, i1 x hx⟩
      · obtain ⟨b, hb, h3⟩ := j1 x hx
        exact ⟨b, List.mem_cons_of_mem _ hb, h3⟩
    · rcases List.mem_append.1 hx with hx | hx
      · exact ⟨a, by simp, i2 x hx⟩
      · obtain ⟨b, hb, h3⟩ := j2 x hx
        exact ⟨b, List.mem_cons_of_mem _ hb, h3⟩

theorem frz_local {bs : List (Nat × Option Pth)} : ∀ (l : List (Nat × Option Pth)), (∀ x ∈ l, ob x.1 = ob' x.1) → frz ob bs l = frz ob' bs l
  | [], _ => rfl
  | (o, q) :: l, h => by simp only [frz, h (o, q) (by simp), frz_local l fun x hx => h x (List.mem_cons_of_mem _ hx)]
theorem lentUp_local (r : List D) : ∀ (os : List Nat) (k : Nat), (∀ o ∈ os, ob o = ob' o) → lentUp ob k r os = lentUp ob' k r os
  | [], _, _ => rfl
  | o :: os, k, h => by simp only [lentUp, h o (by simp), lentUp_local r os (k + 1) fun x hx => h x (List.mem_cons_of_mem _ hx)]

theorem boxD_local {f dst t : Nat} {x : AV} {K : Dl → Prop} {C : Prop} (h : ∀ c ∈ x.refs, ob c = ob' c) : boxD P A f dst t x ob K C = boxD P A f dst t x ob' K C := by
  cases x with
  | val o p u =>
    cases p with
    | nil => simp only [boxD, h o refs_val]
    | cons _ _ => rfl
  | _ => rfl
theorem primD_local {dst : Option Nat} {f : Nat} {l : List AV} {K : Dl → Prop} (h : ∀ a ∈ l, ∀ c ∈ a.refs, ob c = ob' c) : primD P dst f l ob K = primD P dst f l ob' K := by
  unfold primD
  cases dst with
  | none => rfl
  | some d =>
    cases l with
    | nil => rfl
    | cons a l =>
      cases l with
      | cons _ _ =>
        cases a with
        | val o p u => cases p <;> rfl
        | _ => rfl
      | nil =>
        cases a with
        | val o p u =>
          cases p with
          | nil => simp only [h (.val o [] u) (List.mem_singleton.2 rfl) o refs_val]
          | cons _ _ => rfl
        | _ => rfl
theorem callD_local {H : Hnd} {dst : Option Nat} {f : Nat} {l : List AV} {K : Dl → Prop} (h : ∀ a ∈ l, ∀ c ∈ a.refs, ob c = ob' c) : callD P A H dst f l ob K = callD P A H dst f l ob' K := by
  unfold callD
  rw [argsD_local _ l h]
  split
  · rename_i ds bs os har
    obtain ⟨i1, i2⟩ := argsD_ids _ _ _ _ _ har
    have hf : frz ob bs bs = frz ob' bs bs := frz_local bs fun x hx => by
      obtain ⟨a, ha, hc⟩ := i1 x hx
      exact h a ha _ hc
    have hl : ∀ (r : List D) (k : Nat), lentUp ob k r os = lentUp ob' k r os := fun r k => lentUp_local r os k fun o ho => by
      obtain ⟨a, ha, hc⟩ := i2 o ho
      exact h a ha _ hc
    have hm : (os.map fun o => (o, lnM ob o)) = os.map fun o => (o, lnM ob' o) := List.map_congr_left fun o ho => by
      obtain ⟨a, ha, hc⟩ := i2 o ho
      unfold lnM
      rw [h a ha _ hc]
    simp only [hf, hl, hm]
  · rfl

theorem partsD_local {ty : Nat → Option Nat} : ∀ (l : List (Nat × AV)), (∀ x ∈ l, ∀ c ∈ x.2.refs, ob c = ob' c) → partsD P ob ty l = partsD P ob' ty l
  | [], _ => rfl
  | (j, a) :: l, h => by
    have h1 : ∀ t, takeV P ob t a = takeV P ob' t a := fun t => takeV_local (h (j, a) (by simp))
    simp only [partsD, h1, partsD_local l fun x hx => h x (List.mem_cons_of_mem _ hx)]

theorem tail_local {t : Nat} {a : AV} (h : ∀ c ∈ a.refs, ob c = ob' c) : appTail P ob t a = appTail P ob' t a := by
  cases a with
  | val o p u => cases p <;> simp only [appTail, h o refs_val]
  | old o u d => simp only [appTail, data_local h]
  | _ => simp only [appTail, data_local h]

theorem loadD_local {t : Nat} {a : AV} {K : AV → Prop} (h : ∀ c ∈ a.refs, ob c = ob' c) : loadD P ob t a K = loadD P ob' t a K := by
  cases a with
  | ptr o p u => simp only [loadD, h o refs_ptr]
  | _ => rfl
theorem fieldD_local {t j : Nat} {a : AV} {K : AV → Prop} (h : ∀ c ∈ a.refs, ob c = ob' c) : fieldD P ob t a j K = fieldD P ob' t a j K := by
  cases a with
  | ptr o p u => simp only [fieldD, h o refs_ptr]
  | vptr o p e =>
    cases p with
    | nil => simp only [fieldD, h o refs_vptr]
    | cons _ _ => rfl
  | _ => rfl
theorem indexD_local {t : Nat} {a i : AV} {K : AV → Prop} (h : ∀ c ∈ a.refs, ob c = ob' c) : indexD P ob t a i K = indexD P ob' t a i K := by
  cases a with
  | ptr o p u => simp only [indexD, h o refs_ptr]
  | val o p u => simp only [indexD, h o refs_val]
  | _ => rfl
theorem storeD_local {t : Nat} {a x : AV} {K : Dl → Prop} (h : ∀ c ∈ a.refs, ob c = ob' c) (h' : ∀ c ∈ x.refs, ob c = ob' c) : storeD P ob t a x K = storeD P ob' t a x K := by
  cases a with
  | ptr o p u => simp only [storeD, h o refs_ptr, takeV_local h']
  | _ => rfl
theorem appendD_local {dst t : Nat} {x y : AV} {K : Dl → Prop} (h : ∀ c ∈ x.refs, ob c = ob' c) (h' : ∀ c ∈ y.refs, ob c = ob' c) : appendD P ob dst t x y K = appendD P ob' dst t x y K := by
  unfold appendD
  rw [tail_local h']
  cases x with
  | val o p u => simp only [norm, h o refs_val, newO]
  | con v =>
    have : ∀ o p u, norm P t (.con v) ≠ .val o p u := fun o p u e => by
      simp only [norm] at e
      split at e
      · cases e
      · split at e <;> cases e
    generalize hn : norm P t (.con v) = n at this
    cases n with
    | val o p u => exact absurd rfl (this o p u)
    | _ => simp only [newO]
  | _ => simp only [norm, newO]
theorem binD_local {op : BinOp} {tx ty tr : Nat} {x y : AV} {K : AV → Prop} (h : ∀ c ∈ x.refs, ob c = ob' c) (h' : ∀ c ∈ y.refs, ob c = ob' c) : binD P ob op tx ty tr x y K = binD P ob' op tx ty tr x y K := by
  have h1 : ∀ t, St.data P ob t x = St.data P ob' t x := fun t => data_local h
  have h2 : ∀ t, St.data P ob t y = St.data P ob' t y := fun t => data_local h'
  simp only [binD, h1, h2]

def moveOp : Op → Bool
  | .move _ | .assign _ | .pick .. => true
  | _ => false
def extOp : Op → Bool
  | .extract .. => true
  | _ => false

theorem ints_local {k : TK} : ∀ (ts : List Nat) (l : List AV), (∀ a ∈ l, ∀ c ∈ a.refs, ob c = ob' c) → ints P ob k ts l = ints P ob' k ts l
  | [], [], _ => rfl
  | [], _ :: _, _ => rfl
  | _ :: _, [], _ => rfl
  | t :: ts, a :: l, h => by
    simp only [ints, data_local (h a (by simp)), ints_local ts l fun b hb => h b (by simp [hb])]

/-- WHAT A RULE LOOKS AT. -/
theorem stepD_local {H : Hnd} {f : Nat} {o : Oper} {av av' : Operand → AV} (hl : (simOp P o.op || calOp o.op) = true) (hnest : ∀ x ∈ o.op.operands.toList, (av x).nest = true) (hav : ∀ x ∈ o.op.operands.toList, av x = av' x) (hobr : ∀ c ∈ opRefs av o.op, ob c = ob' c) (K : Dl → Prop) :
    stepD P A H f o av ob K = stepD P A H f o av' ob' K := by
  have hob : (moveOp o.op || extOp o.op) = true ∨ ∀ x ∈ o.op.operands.toList, ∀ c ∈ (av x).refs, ob c = ob' c := by
    cases hm : (moveOp o.op || extOp o.op) with
    | true => exact .inl rfl
    | false =>
      right
      intro x hx c hc
      refine hobr c ?_
      have e : opRefs av o.op = o.op.operands.toList.flatMap fun x => (av x).refs := by
        cases hop : o.op <;> first | rfl | (rw [hop] at hm; simp [moveOp, extOp] at hm)
      rw [e]
      exact List.mem_flatMap.2 ⟨x, hx, hc⟩
  unfold stepD
  cases hop : o.op with
  | move x =>
    have e := hav x (by simp [hop, Op.operands])
    simp only [e]
  | assign x =>
    have e := hav x (by simp [hop, Op.operands])
    simp only [e]
  | pick c x y =>
    have e1 := hav c (by simp [hop, Op.operands])
    have e2 := hav x (by simp [hop, Op.operands])
    have e3 := hav y (by simp [hop, Op.operands])
    simp only [e1, e2, e3]
  | load t x =>
    have e := hav x (by simp [hop, Op.operands])
    have r := (hob.resolve_left (by simp [hop, moveOp, extOp])) x (by simp [hop, Op.operands])
    simp only [← e]
    exact loadD_local r
  | nilCheck x =>
    have e := hav x (by simp [hop, Op.operands])
    have r := (hob.resolve_left (by simp [hop, moveOp, extOp])) x (by simp [hop, Op.operands])
    simp only [← e]
    cases hx : av x with
    | ptr q p u => rw [hx] at r; simp only [r q refs_ptr]
    | _ => rfl
  | fieldAddr s x j =>
    have e := hav x (by simp [hop, Op.operands])
    have r := (hob.resolve_left (by simp [hop, moveOp, extOp])) x (by simp [hop, Op.operands])
    simp only [← e]
    exact fieldD_local r
  | indexAddr t x i =>
    have e := hav x (by simp [hop, Op.operands])
    have e2 := hav i (by simp [hop, Op.operands])
    have r := (hob.resolve_left (by simp [hop, moveOp, extOp])) x (by simp [hop, Op.operands])
    simp only [← e, ← e2]
    exact indexD_local r
  | unOp op t x =>
    have e := hav x (by simp [hop, Op.operands])
    have r := (hob.resolve_left (by simp [hop, moveOp, extOp])) x (by simp [hop, Op.operands])
    simp only [← e, unD, data_local r]
  | convert s d x =>
    have e := hav x (by simp [hop, Op.operands])
    have r := (hob.resolve_left (by simp [hop, moveOp, extOp])) x (by simp [hop, Op.operands])
    simp only [← e, data_local r]
  | binOp op tx x y ty =>
    have e := hav x (by simp [hop, Op.operands])
    have e2 := hav y (by simp [hop, Op.operands])
    have r := (hob.resolve_left (by simp [hop, moveOp, extOp])) x (by simp [hop, Op.operands])
    have r2 := (hob.resolve_left (by simp [hop, moveOp, extOp])) y (by simp [hop, Op.operands])
    simp only [← e, ← e2]
    exact binD_local r r2
  | makeSlice t x y =>
    have e := hav x (by simp [hop, Op.operands])
    have e2 := hav y (by simp [hop, Op.operands])
    simp only [← e, ← e2, makeSliceD, newO]
  | alloc t => simp only [newO]
  | box t x =>
    have e := hav x (by simp [hop, Op.operands])
    have r := (hob.resolve_left (by simp [hop, moveOp, extOp])) x (by simp [hop, Op.operands])
    simp only [← e, takeV_local r, newO, boxD_local r]
  | store t x y =>
    have e := hav x (by simp [hop, Op.operands])
    have e2 := hav y (by simp [hop, Op.operands])
    have r := (hob.resolve_left (by simp [hop, moveOp, extOp])) x (by simp [hop, Op.operands])
    have r2 := (hob.resolve_left (by simp [hop, moveOp, extOp])) y (by simp [hop, Op.operands])
    simp only [← e, ← e2]
    exact storeD_local r r2
  | build t parts =>
    have hp : parts.toList.map (fun x => (x.1, av x.2)) = parts.toList.map (fun x => (x.1, av' x.2)) := List.map_congr_left fun x hx => by
      rw [hav x.2 (by simp only [hop, Op.operands, List.toList_toArray]; exact List.mem_map_of_mem hx)]
    have r : ∀ x ∈ parts.toList.map (fun x => (x.1, av x.2)), ∀ c ∈ x.2.refs, ob c = ob' c := fun x hx => by
      obtain ⟨y, hy, rfl⟩ := List.mem_map.1 hx
      exact (hob.resolve_left (by simp [hop, moveOp, extOp])) y.2 (by simp only [hop, Op.operands, List.toList_toArray]; exact List.mem_map_of_mem hy)
    simp only [← hp, buildD, partsD_local _ r, newO]
  | buildSlice t n parts =>
    have hp : parts.toList.map (fun x => (x.1, av x.2)) = parts.toList.map (fun x => (x.1, av' x.2)) := List.map_congr_left fun x hx => by
      rw [hav x.2 (by simp only [hop, Op.operands, List.toList_toArray]; exact List.mem_map_of_mem hx)]
    have r : ∀ x ∈ parts.toList.map (fun x => (x.1, av x.2)), ∀ c ∈ x.2.refs, ob c = ob' c := fun x hx => by
      obtain ⟨y, hy, rfl⟩ := List.mem_map.1 hx
      exact (hob.resolve_left (by simp [hop, moveOp, extOp])) y.2 (by simp only [hop, Op.operands, List.toList_toArray]; exact List.mem_map_of_mem hy)
    simp only [← hp, buildSliceD, partsD_local _ r, newO]
  | call c =>
    rw [hop] at hl hav hob hnest
    have hm : (moveOp (.call c) || extOp (.call c)) = true → False := fun h => by simp [moveOp, extOp] at h
    have hob := hob.resolve_left hm
    have hargs : ∀ x ∈ c.args.toList, x ∈ (Op.call c).operands.toList := fun x hx => by
      simp only [Op.operands, Call.operands]
      cases c.callee <;> simp <;> simp at hx <;> first | exact .inl hx | exact .inr hx | exact hx
    have ha : c.args.toList.map av = c.args.toList.map av' := List.map_congr_left fun x hx => hav x (hargs x hx)
    have hr : ∀ b ∈ c.args.toList.map av, ∀ q ∈ b.refs, ob q = ob' q := fun b hb => by
      obtain ⟨x, hx, rfl⟩ := List.mem_map.1 hb
      exact hob x (hargs x hx)
    simp only [simOp, calOp] at hl
    simp only
    cases hc : c.callee with
    | builtin b =>
      rw [hc] at hl
      cases b <;> simp only [Bool.or_self, Bool.false_eq_true] at hl <;> simp only
      · -- append
        cases o.dst with
        | none => rfl
        | some d =>
          split
          · rename_i d' t u x y _ ht hx
            have m1 := hargs x (by rw [hx]; simp)
            have m2 := hargs y (by rw [hx]; simp)
            rw [← hav x m1, ← hav y m2, appendD_local (hob x m1) (hob y m2)]
          · rfl
      · cases ht : c.argTypes.toList with
        | nil => rfl
        | cons t ts =>
          cases ts with
          | cons _ _ => rfl
          | nil =>
            cases hx : c.args.toList with
            | nil => rfl
            | cons x xs =>
              cases xs with
              | cons _ _ => rfl
              | nil =>
                have m1 := hargs x (by rw [hx]; simp)
                simp only [← hav x m1, lenD, data_local (hob x m1)]
      · simp only [← ha, ints_local _ _ hr]
      · simp only [← ha, ints_local _ _ hr]
    | value x =>
      have hx : x ∈ (Op.call c).operands.toList := by simp [Op.operands, Call.operands, hc]
      simp only [← hav x hx, ← ha]
      cases hvx : av x with
      | fn h => simp only [callD_local hr, primD_local hr]
      | clo h l =>
        refine callD_local fun b hb => ?_
        rcases List.mem_append.1 hb with hb | hb
        · exact hr b hb
        · intro q hq
          refine hob x hx q ?_
          have hn := hnest x hx
          rw [hvx] at hn ⊢
          simp only [AV.nest, List.all_eq_true] at hn
          simp only [AV.refs, List.mem_flatMap]
          exact ⟨b, hb, by rw [← refs_flat (hn b hb)]; exact hq⟩
      | imm t d => simp only [argsD_local _ _ hr]
      | _ => rfl
    | invoke x nm => rw [hc] at hl; cases hl
  | extract x i =>
    have e := hav x (by simp [hop, Op.operands])
    rw [hop] at hobr
    simp only [opRefs] at hobr
    simp only [← e]
    cases hx : av x with
    | tup l =>
      rw [hx] at hobr
      simp only at hobr ⊢
      cases hl : l[i]? with
      | none => rfl
      | some b =>
        rw [hl] at hobr
        simp only at hobr
        cases b with
        | val k p u =>
          cases p with
          | nil => simp only [hobr k (by simp [AV.refs1]), newO]
          | cons _ _ => rfl
        | ptr k p u =>
          cases p with
          | nil => simp only [hobr k (by simp [AV.refs1]), newO]
          | cons _ _ => rfl
        | _ => rfl
    | _ => rfl
  | _ => exact absurd hl (by rw [hop]; simp [simOp, calOp])

end
end Go.Ab

/- Operations that may change places. -/
namespace Go.Ab
variable {P : Program} {A : Ann}

theorem fall1_cases (o : Nat) (m : KM) (a : AV) : fall1 o m a = a ∨ fall1 o m a = .dead ∨ (m.app? = true ∧ ∃ t x, fall1 o m a = .old o t x) := by
  cases m <;> cases a <;> first
    | exact .inl rfl
    | (simp only [fall1]; rcases cond_or (Nat.beq _ _ : Bool) _ _ with h | h <;> first | exact .inl h | exact .inr (.inl h))
    | (simp only [fall1]; rcases cond_or _ _ _ with h | h <;> first | exact .inl h | exact .inr (.inl h))
    | skip
  rename_i x o' p t
  simp only [fall1]
  cases hb : Nat.beq o o' with
  | false => exact .inl rfl
  | true =>
    cases p with
    | nil => rw [← beq_iff.1 hb]; exact .inr (.inr ⟨rfl, t, x, rfl⟩)
    | cons z p => exact .inr (.inl rfl)

theorem fall1_same {o : Nat} {m : KM} {a : AV} (h : Nat.beq (fall1 o m a).tag a.tag = true) : fall1 o m a = a := by
  rw [beq_iff] at h
  rcases fall1_cases o m a with e | e | ⟨hm, t, x, e⟩
  · exact e
  · rw [e] at h ⊢
    cases a <;> simp [AV.tag] at h
    rfl
  · rw [e] at h
    cases a with
    | old o' t' d' =>
      cases m with
      | app x' =>
        simp only [fall1] at e ⊢
        cases hb : Nat.beq o o' with
        | false => rfl
        | true => rw [hb] at e; cases e
      | _ => cases hm
    | _ => simp [AV.tag] at h

theorem strike1_same {ks : List (Nat × KM)} {a : AV} (h : keeps1 ks a = true) : strike1 ks a = a := by
  induction ks with
  | nil => rfl
  | cons k ks ih =>
    simp only [keeps1, List.all_cons, Bool.and_eq_true] at h
    simp only [strike1, fall1_same h.1]
    exact ih h.2
theorem strike_same {ks : List (Nat × KM)} {a : AV} (h : keepsV ks a = true) : strike ks a = a := by
  by_cases hf : a.flatA = true
  · rw [(strike_flat ks hf).1]
    refine strike1_same ?_
    cases a <;> first | exact h | simp [AV.flatA] at hf
  · cases a <;> first | simp [AV.flatA] at hf; done | skip
    · rename_i l
      simp only [keepsV, List.all_eq_true] at h
      rw [strike_tup]
      congr 1
      conv => rhs; rw [← List.map_id l]
      exact List.map_congr_left fun b hb => strike1_same (h b hb)
    · rename_i f l
      simp only [keepsV, List.all_eq_true] at h
      rw [strike_clo]
      congr 1
      conv => rhs; rw [← List.map_id l]
      exact List.map_congr_left fun b hb => strike1_same (h b hb)

theorem strike1_old (ks : List (Nat × KM)) (o t : Nat) (d : D) : strike1 ks (.old o t d) = .old o t d ∨ strike1 ks (.old o t d) = .dead := by
  induction ks with
  | nil => exact .inl rfl
  | cons k ks ih =>
    simp only [strike1]
    rcases fall1_cases k.1 k.2 (.old o t d) with e | e | ⟨hm, t', x, e⟩
    · rw [e]; exact ih
    · rw [e, strike1_dead]; exact .inr rfl
    · cases hk : k.2 <;> rw [hk] at hm e <;> simp [KM.app?] at hm
      simp only [fall1] at e
      cases hb : Nat.beq k.1 o <;> rw [hb] at e <;> simp at e
      simp only [fall1, hb, cond_false]
      exact ih

theorem strike1_kept {ks : List (Nat × KM)} {a : AV} (hl : (strike1 ks a).live1 = true) (ha : ∀ k ∈ ks, k.2.app? = true → k.1 ∉ (strike1 ks a).refs1) : strike1 ks a = a := by
  induction ks generalizing a with
  | nil => rfl
  | cons k ks ih =>
    simp only [strike1] at hl ha ⊢
    rcases fall1_cases k.1 k.2 a with e | e | ⟨hm, t, x, e⟩
    · rw [e] at hl ha ⊢
      exact ih hl fun k' hk' => ha k' (List.mem_cons_of_mem _ hk')
    · rw [e, strike1_dead] at hl
      cases hl
    · exfalso
      have h2 := ha k (by simp) hm
      rw [e] at hl h2
      rcases strike1_old ks k.1 t x with e2 | e2
      · rw [e2] at h2; simp [AV.refs1] at h2
      · rw [e2] at hl; cases hl

theorem strike_kept {ks : List (Nat × KM)} {a : AV} (h : keptV ks (strike ks a) = true) : strike ks a = a := by
  simp only [keptV, Bool.and_eq_true, List.all_eq_true, Bool.or_eq_true, Bool.not_eq_true', List.any_eq_false, beq_iff] at h
  obtain ⟨h1, h2⟩ := h
  have h3 : ∀ k ∈ ks, k.2.app? = true → k.1 ∉ (strike ks a).refs := fun k hk hm hr => by
    rcases h2 k hk with h | h
    · rw [hm] at h; cases h
    · exact h k.1 hr rfl
  by_cases hf : a.flatA = true
  · obtain ⟨e1, e2⟩ := strike_flat ks hf
    rw [e1] at h1 h3 ⊢
    refine strike1_kept ?_ fun k hk hm => ?_
    · generalize strike1 ks a = b at h1 e2
      cases b <;> first | exact h1 | simp [AV.flatA] at e2
    · have := h3 k hk hm
      rw [refs_flat e2] at this
      exact this
  · cases a <;> first | simp [AV.flatA] at hf; done | skip
    · rename_i l
      rw [strike_tup] at h1 h3 ⊢
      simp only [AV.live, List.all_eq_true, List.mem_map] at h1
      congr 1
      conv => rhs; rw [← List.map_id l]
      refine List.map_congr_left fun b hb => strike1_kept (h1 _ ⟨b, hb, rfl⟩) fun k hk hm hr => h3 k hk hm ?_
      simp only [AV.refs, List.mem_flatMap, List.mem_map]
      exact ⟨_, ⟨b, hb, rfl⟩, hr⟩
    · rename_i f l
      rw [strike_clo] at h1 h3 ⊢
      simp only [AV.live, List.all_eq_true, List.mem_map] at h1
      congr 1
      conv => rhs; rw [← List.map_id l]
      refine List.map_congr_left fun b hb => strike1_kept (h1 _ ⟨b, hb, rfl⟩) fun k hk hm hr => h3 k hk hm ?_
      simp only [AV.refs, List.mem_flatMap, List.mem_map]
      exact ⟨_, ⟨b, hb, rfl⟩, hr⟩

theorem app?_eq {m : KM} (h : m.app? = false) : m.isApp = false := by cases m <;> first | rfl | cases h

theorem strike1_comm {ks ls : List (Nat × KM)} (hk : ∀ k ∈ ks, k.2.app? = false) (hl : ∀ k ∈ ls, k.2.app? = false) (a : AV) : strike1 ks (strike1 ls a) = strike1 ls (strike1 ks a) := by
  have h1 := strike1_or ks a fun k h => .inl (app?_eq (hk k h))
  have h2 := strike1_or ls a fun k h => .inl (app?_eq (hl k h))
  rcases h1 with h1 | ⟨h1, _⟩ <;> rcases h2 with h2 | ⟨h2, _⟩ <;> rw [h1, h2] <;> simp only [strike1_dead, h1, h2]
theorem fall1_cases' (o : Nat) (m : KM) (a : AV) : fall1 o m a = a ∨ fall1 o m a = .dead ∨ ∃ t x, a = .val o [] t ∧ fall1 o m a = .old o t x := by
  cases m <;> cases a <;> first
    | exact .inl rfl
    | (simp only [fall1]; rcases cond_or (Nat.beq _ _ : Bool) _ _ with h | h <;> first | exact .inl h | exact .inr (.inl h))
    | (simp only [fall1]; rcases cond_or _ _ _ with h | h <;> first | exact .inl h | exact .inr (.inl h))
    | skip
  rename_i x o' p t
  simp only [fall1]
  cases hb : Nat.beq o o' with
  | false => exact .inl rfl
  | true =>
    cases p with
    | nil =>
      have := beq_iff.1 hb
      subst this
      exact .inr (.inr ⟨t, x, rfl, rfl⟩)
    | cons z p => exact .inr (.inl rfl)
theorem beq_ne {a b : Nat} (h : a ≠ b) : Nat.beq a b = false := by
  cases e : Nat.beq a b with
  | false => rfl
  | true => exact absurd (beq_iff.1 e) h
theorem fall1_dead (o : Nat) (m : KM) : fall1 o m .dead = .dead := by cases m <;> rfl
theorem fall1_old {o q : Nat} (h : o ≠ q) (m : KM) (t : Nat) (d : D) : fall1 o m (.old q t d) = .old q t d := by
  cases m <;> simp only [fall1, beq_ne h, Bool.false_and, cond_false]
theorem fall1_val {o q : Nat} (h : o ≠ q) (m : KM) (t : Nat) : fall1 o m (.val q [] t) = .val q [] t := by
  cases m <;> simp only [fall1, beq_ne h, Bool.false_and, Bool.or_false, cond_false]
/-- What falls by one object and by another, falls in any order. -/
theorem fall1_comm {o q : Nat} (hne : o ≠ q) (m n : KM) (a : AV) : fall1 o m (fall1 q n a) = fall1 q n (fall1 o m a) := by
  rcases fall1_cases' o m a with h1 | h1 | ⟨t, x, rfl, h1⟩
  · rcases fall1_cases' q n a with h2 | h2 | ⟨t, x, rfl, h2⟩
    · rw [h2, h1, h2]
    · rw [h2, h1, h2, fall1_dead]
    · rw [h1, h2, fall1_old hne]
  · rcases fall1_cases' q n a with h2 | h2 | ⟨t, x, rfl, h2⟩
    · rw [h2, h1, fall1_dead]
    · rw [h2, h1, fall1_dead, fall1_dead]
    · rw [fall1_val hne] at h1; cases h1
  · rw [fall1_val fun h => hne h.symm, h1, fall1_old fun h => hne h.symm]
theorem fall1_strike1 {k : Nat × KM} {ls : List (Nat × KM)} (h : ∀ l ∈ ls, k.1 ≠ l.1) : ∀ a, fall1 k.1 k.2 (strike1 ls a) = strike1 ls (fall1 k.1 k.2 a) := by
  induction ls with
  | nil => intro a; rfl
  | cons l ls ih =>
    intro a
    simp only [strike1]
    rw [ih (fun l hl => h l (by simp [hl])), fall1_comm (h l (by simp))]
theorem strike1_comm' {ks ls : List (Nat × KM)} (h : ∀ k ∈ ks, ∀ l ∈ ls, k.1 ≠ l.1) : ∀ a, strike1 ks (strike1 ls a) = strike1 ls (strike1 ks a) := by
  induction ks with
  | nil => intro a; rfl
  | cons k ks ih =>
    intro a
    simp only [strike1]
    rw [fall1_strike1 (h k (by simp)), ih fun k hk => h k (by simp [hk])]
theorem strike_of1 {ks ls : List (Nat × KM)} (key : ∀ a, strike1 ks (strike1 ls a) = strike1 ls (strike1 ks a)) (a : AV) : strike ks (strike ls a) = strike ls (strike ks a) := by
  by_cases hf : a.flatA = true
  · obtain ⟨e1, e2⟩ := strike_flat ls hf
    obtain ⟨e3, e4⟩ := strike_flat ks hf
    rw [e1, e3, (strike_flat ks e2).1, (strike_flat ls e4).1]
    exact key a
  · cases a <;> first | simp [AV.flatA] at hf; done | skip
    · rename_i l
      simp only [strike_tup, List.map_map]
      congr 1
      exact List.map_congr_left fun b _ => key b
    · rename_i f l
      simp only [strike_clo, List.map_map]
      congr 1
      exact List.map_congr_left fun b _ => key b
theorem strike_comm {ks ls : List (Nat × KM)} (h : ks = [] ∨ ls = [] ∨ ((∀ k ∈ ks, k.2.app? = false) ∧ ∀ k ∈ ls, k.2.app? = false) ∨ ∀ k ∈ ks, ∀ l ∈ ls, k.1 ≠ l.1) (a : AV) : strike ks (strike ls a) = strike ls (strike ks a) := by
  rcases h with rfl | rfl | ⟨hk, hl⟩ | hd
  · rfl
  · rfl
  · exact strike_of1 (strike1_comm hk hl) a
  · exact strike_of1 (strike1_comm' hd) a

/-- States that look alike. -/
def EqSt (g g' : St) : Prop := look g.sl = look g'.sl ∧ lookO g.ob = lookO g'.ob
theorem EqSt.av {g g' : St} (h : EqSt g g') : g.av = g'.av := by
  funext x
  cases x <;> simp only [St.av, h.1]
theorem look_app (g : St) (dst : Option Nat) (δ : Dl) (s : Nat) : look (g.app dst δ).sl s = if dst = some s then δ.v else strike δ.ks (look g.sl s) := by
  cases dst with
  | none => rw [if_neg (by simp)]; exact look_strikes δ.ks g.sl s
  | some d =>
    show look ((d, δ.v) :: strikes δ.ks g.sl) s = _
    rw [look_cons]
    by_cases e : d = s
    · rw [if_pos e, if_pos (by rw [e])]
    · rw [if_neg e, if_neg (fun h => e (Option.some.inj h)), look_strikes]
theorem lookO_app (g : St) (dst : Option Nat) (δ : Dl) (c : Nat) : lookO (g.app dst δ).ob c = upO δ.os (lookO g.ob) c := lookO_append δ.os g.ob c
theorem EqSt.app {g g' : St} (h : EqSt g g') (dst : Option Nat) (δ : Dl) : EqSt (g.app dst δ) (g'.app dst δ) :=
  ⟨funext fun s => by rw [look_app, look_app, h.1], funext fun c => by rw [lookO_app, lookO_app, h.2]⟩
theorem EqSt.know {g g' : St} (h : EqSt g g') (s : Nat) (b : Bool) : EqSt (g.know s b) (g'.know s b) :=
  ⟨funext fun k => by simp only [St.know]; rw [look_cons, look_cons, h.1], h.2⟩
theorem EqSt.symm {g g' : St} (h : EqSt g g') : EqSt g' g := ⟨h.1.symm, h.2.symm⟩

def Closed (K : St → Prop) : Prop := ∀ g g', EqSt g g' → K g → K g'

section
variable {H : Hnd} {f : Nat}

theorem step_eq {o : Oper} {g g' : St} {K : St → Prop} (hM : HndM H) (hK : Closed K) (he : EqSt g g') (h : g.step P A H f o K) : g'.step P A H f o K := by
  unfold St.step at h ⊢
  obtain ⟨h1, h2⟩ := of_cond h
  rw [h1, cond_true, ← he.av, ← he.2]
  exact stepD_mono hM (fun δ hδ => hK _ _ (he.app o.dst δ) hδ) h2

theorem guard_eq {ops : Array Oper} {o : Oper} {g g' : St} {K : St → Prop} (hM : HndM H) (hK : Closed K) (he : EqSt g g') (h : g.guard P A H f ops o K) : g'.guard P A H f ops o K := by
  unfold St.guard at h ⊢
  split
  · rename_i hg
    rw [hg] at h
    exact step_eq hM hK he h
  · rename_i j want hg
    rw [hg] at h
    simp only at h
    split
    · rename_i s hs
      rw [hs] at h
      simp only at h
      rw [← he.1]
      split
      · rename_i t d hl
        rw [hl] at h
        simp only at h
        revert h
        simp only [cond_eq]
        repeat' split
        all_goals first | exact id | exact step_eq hM hK (he.know s _) | exact hK _ _ ((he.know s _).app _ _)
      · rename_i hl
        rw [hl] at h
        simp only at h
        revert h
        simp only [cond_eq]
        split
        · exact hK _ _ (he.app _ _)
        · exact id
      · rename_i h1 h2
        split at h
        · rename_i t d hl; exact absurd hl (h1 t d)
        · rename_i hl; exact absurd hl h2
        · exact h
    · rename_i hs; rw [hs] at h; exact h

theorem turn_eqSt {ops : Array Oper} {o : Oper} {g g' : St} {K K' : Bool → St → Dl → Prop} (hM : HndM H) (hK : ∀ r g g' δ, EqSt g g' → K r g δ → K' r g' δ) (he : EqSt g g') (h : g.turn P A H f ops o K) : g'.turn P A H f ops o K' := by
  unfold St.turn at h ⊢
  split
  · rename_i hg
    rw [hg] at h
    simp only at h
    rw [← he.av, ← he.2]
    exact stepD_mono hM (fun δ hδ => hK _ _ _ _ he hδ) h
  · rename_i j want hg
    rw [hg] at h
    simp only at h
    split
    · rename_i s hs
      rw [hs] at h
      simp only at h
      rw [← he.1]
      split
      · rename_i t d hl
        rw [hl] at h
        simp only at h
        revert h
        rw [← (he.know s true).av, ← (he.know s false).av, ← he.2]
        simp only [cond_eq]
        repeat' split
        all_goals first | exact id | exact stepD_mono hM (fun δ hδ => hK _ _ _ _ (he.know s _) hδ) | exact hK _ _ _ _ (he.know s _)
      · rename_i hl
        rw [hl] at h
        exact hK _ _ _ _ he h
      · rename_i h1 h2
        split at h
        · rename_i t d hl; exact absurd hl (h1 t d)
        · rename_i hl; exact absurd hl h2
        · exact h
    · rename_i hs; rw [hs] at h; exact h

theorem wpD_eq (hM : HndM H) {ops : Array Oper} {K : St → Prop} (hK : Closed K) : ∀ (l : List Nat) (fps : List FP) (g g' : St), EqSt g g' → wpD P A H f ops l fps g K → wpD P A H f ops l fps g' K
  | [], fps, g, g', he, h => hK g g' he h
  | i :: l, fps, g, g', he, h => by
    simp only [wpD] at h ⊢
    split
    · rename_i ho; rw [ho] at h; exact wpD_eq hM hK l fps g g' he h
    · rename_i o ho
      rw [ho] at h
      simp only at h
      obtain ⟨h1, h2⟩ := of_cond h
      rw [h1, cond_true]
      refine turn_eqSt hM (fun r g1 g2 δ he' hδ => ?_) he h2
      obtain ⟨h3, h4⟩ := of_cond hδ
      rw [← he'.av, h3, cond_true]
      exact wpD_eq hM hK l _ _ _ (he'.app o.dst δ) h4

end
end Go.Ab

/- Orders that are drawn. -/
namespace Go.Ab
variable {P : Program} {A : Ann}

section
variable {H : Hnd} {f : Nat}

theorem inD_iff {d : Option Nat} {l : List Nat} (h : inD d l = false) : ∀ k, d = some k → k ∉ l := by
  rintro k rfl hm
  simp only [inD, List.any_eq_false, beq_iff] at h
  exact h k hm rfl

theorem mem_slots {o : Oper} {s : Nat} (h : Operand.tmp s ∈ o.op.operands.toList) : s ∈ opSlots o := by
  unfold opSlots
  exact List.mem_filterMap.2 ⟨_, h, rfl⟩

theorem mem_slotsR {r : Bool} {o : Oper} {s : Nat} (h : Operand.tmp s ∈ opnds r o) : s ∈ slotsR r o := by
  cases r with
  | false => simp [opnds] at h
  | true => exact mem_slots h

/-- A rule of an operation that runs, or does not. -/
def stpD (P : Program) (A : Ann) (H : Hnd) (f : Nat) (r : Bool) (o : Oper) (av : Operand → AV) (ob : Nat → Option Obj) (K : Dl → Prop) : Prop := cond r (stepD P A H f o av ob K) (K { v := .und })

theorem stpD_mono (hM : HndM H) {r : Bool} {o : Oper} {av : Operand → AV} {ob : Nat → Option Obj} {K K' : Dl → Prop} (hK : ∀ v, K v → K' v) : stpD P A H f r o av ob K → stpD P A H f r o av ob K' := by
  cases r with
  | false => exact hK _
  | true => exact stepD_mono hM hK
theorem stpD_ex (hM : HndM H) {r : Bool} {o : Oper} {av : Operand → AV} {ob : Nat → Option Obj} {K : Dl → Prop} : stpD P A H f r o av ob K → ∃ δ, K δ := by
  cases r with
  | false => exact fun h => ⟨_, h⟩
  | true => exact stepD_ex hM
theorem stpD_local {r : Bool} {o : Oper} {av av' : Operand → AV} {ob ob' : Nat → Option Obj} (hl : locR P r o = true) (hnest : ∀ x ∈ opnds r o, (av x).nest = true) (hav : ∀ x ∈ opnds r o, av x = av' x) (hob : ∀ c ∈ refsR r o av, ob c = ob' c) (K : Dl → Prop) :
    stpD P A H f r o av ob K = stpD P A H f r o av' ob' K := by
  cases r with
  | false => rfl
  | true => exact stepD_local (by simpa [locR] using hl) hnest hav hob K
theorem stpD_det {r : Bool} {o : Oper} {av : Operand → AV} {ob : Nat → Option Obj} (hs : simR P r o = true) : Det fun K : Dl → Prop => stpD P A H f r o av ob K := by
  cases r with
  | false => exact Det.pure _
  | true => exact stepD_det (by simpa [simR] using hs)

/-- What two operations that may change places keep to. -/
structure Ind (P : Program) (rj ri : Bool) (oj oi : Oper) (av av1 : Operand → AV) (δj δi : Dl) : Prop where
  locj : locR P rj oj = true
  loci : locR P ri oi = true
  sim : simR P rj oj = true ∨ simR P ri oi = true
  d1 : ∀ k, oj.dst = some k → k ∉ slotsR ri oi
  d2 : ∀ k, oi.dst = some k → k ∉ slotsR rj oj
  d3 : ∀ k, oj.dst = some k → oi.dst ≠ some k
  o1 : ∀ c ∈ refsR ri oi av1, c ∉ δj.os.map (·.1)
  o2 : ∀ c ∈ refsR rj oj av, c ∉ δi.os.map (·.1)
  o3 : ∀ c ∈ δj.os.map (·.1), c ∉ δi.os.map (·.1)
  ks : δj.ks = [] ∨ δi.ks = [] ∨ ((∀ k ∈ δj.ks, k.2.app? = false) ∧ ∀ k ∈ δi.ks, k.2.app? = false) ∨ ∀ k ∈ δj.ks, ∀ l ∈ δi.ks, k.1 ≠ l.1
  kept : ∀ x ∈ opnds ri oi, keptV δj.ks (av1 x) = true
  keeps : ∀ x ∈ opnds rj oj, keepsV δi.ks (av x) = true
  vi : keepsV δj.ks δi.v = true
  vj : keepsV δi.ks δj.v = true
  nj : ∀ x ∈ opnds rj oj, (av x).nest = true
  ni : ∀ x ∈ opnds ri oi, (av1 x).nest = true

/-- What guards keep to. -/
structure Gds (ops : Array Oper) (rj ri : Bool) (oj oi : Oper) : Prop where
  g1 : ∀ s, gslot ops oj = some s → oi.dst ≠ some s
  g2 : ∀ s, gslot ops oi = some s → oj.dst ≠ some s
  g3 : ∀ s, gslot ops oj = some s → s ∈ slotsR ri oi → gslot ops oi = some s
  g4 : ∀ s, gslot ops oi = some s → s ∈ slotsR rj oj → gslot ops oj = some s

theorem gOk_iff {a b : FP} (h : gOk a b = true) : ∀ s, a.gs = some s → b.dst ≠ some s ∧ (s ∈ b.sl → b.gs = some s) := by
  intro s hs
  simp only [gOk, hs, Bool.and_eq_true, Bool.or_eq_true, Bool.not_eq_true'] at h
  refine ⟨fun e => inD_iff h.1 s e (by simp), fun hm => ?_⟩
  rcases h.2 with h2 | h2
  · rw [List.any_eq_false] at h2
    exact absurd (by simp) (h2 s hm)
  · cases hb : b.gs with
    | none => rw [hb] at h2; simp at h2
    | some s' => rw [hb] at h2; simp only [beq_iff] at h2; rw [h2]

theorem ind_of {ops : Array Oper} {rj ri : Bool} {oj oi : Oper} {j i : Nat} {av av1 : Operand → AV} {δj δi : Dl} (h : indep (mkFP P ops j rj oj av δj) (mkFP P ops i ri oi av1 δi) = true) : Ind P rj ri oj oi av av1 δj δi ∧ Gds ops rj ri oj oi := by
  simp only [indep, Bool.and_eq_true, Bool.not_eq_true', List.all_eq_true, List.mem_map, Bool.or_eq_true, List.isEmpty_iff, List.any_eq_false] at h
  obtain ⟨⟨⟨⟨⟨⟨⟨⟨⟨⟨⟨⟨⟨⟨⟨⟨⟨h1, h2⟩, h3⟩, h4⟩, h5⟩, h6⟩, h7⟩, h8⟩, h9⟩, h10⟩, h11⟩, h12⟩, h13⟩, h14⟩, h15⟩, h16⟩, h17⟩, h18⟩ := h
  have hro : ∀ (m l : List Nat), apartB l m = true → ∀ c ∈ m, c ∉ l := fun m l h c hc hl => apartB_iff h c hl hc
  refine ⟨⟨h3, h4, h5, inD_iff h6, inD_iff h7, fun k hk e => inD_iff h8 k hk (by show k ∈ oi.dst.toList; rw [e]; simp), hro _ _ h9, hro _ _ h10, apartB_iff h11, ?_, fun x hx => h13 _ (List.mem_map.2 ⟨x, hx, rfl⟩), fun x hx => h14 _ (List.mem_map.2 ⟨x, hx, rfl⟩), h15, h16, fun x hx => h17 _ (List.mem_map.2 ⟨x, hx, rfl⟩), fun x hx => h18 _ (List.mem_map.2 ⟨x, hx, rfl⟩)⟩,
    ⟨fun s hs => (gOk_iff h1 s hs).1, fun s hs => (gOk_iff h2 s hs).1, fun s hs => (gOk_iff h1 s hs).2, fun s hs => (gOk_iff h2 s hs).2⟩⟩
  rcases h12 with ((h | h) | ⟨h, h'⟩) | h
  · exact .inl h
  · exact .inr (.inl h)
  · exact .inr (.inr (.inl ⟨fun k hk => by have := h k hk; simpa using this, fun k hk => by have := h' k hk; simpa using this⟩))
  · exact .inr (.inr (.inr fun k hk l hl e => apartB_iff h k.1 (List.mem_map.2 ⟨k, hk, rfl⟩) (List.mem_map.2 ⟨l, hl, e.symm⟩)))

theorem findO_not {os : Objs} {c : Nat} (h : c ∉ os.map (·.1)) : findO os c = none := by
  cases e : findO os c with
  | none => rfl
  | some x => exact absurd (findO_mem e) h

theorem upO_not {os : Objs} {ob : Nat → Option Obj} {c : Nat} (h : c ∉ os.map (·.1)) : upO os ob c = ob c := by
  simp only [upO, findO_not h]; rfl

/-- The later one sees the same before. -/
theorem Ind.seeI {rj ri : Bool} {oj oi : Oper} {g : St} {δj δi : Dl} (h : Ind P rj ri oj oi g.av (g.app oj.dst δj).av δj δi) : (∀ x ∈ opnds ri oi, (g.app oj.dst δj).av x = g.av x) ∧ (∀ c ∈ refsR ri oi (g.app oj.dst δj).av, lookO (g.app oj.dst δj).ob c = lookO g.ob c) := by
  refine ⟨fun x hx => ?_, fun c hc => by rw [lookO_app, upO_not (h.o1 c hc)]⟩
  cases x with
  | tmp s =>
    have hs := mem_slotsR hx
    have hne : oj.dst ≠ some s := fun e => h.d1 s e hs
    have e : (g.app oj.dst δj).av (.tmp s) = strike δj.ks (look g.sl s) := by
      show look (g.app oj.dst δj).sl s = _
      rw [look_app, if_neg hne]
    have hk := h.kept _ hx
    rw [e] at hk ⊢
    exact strike_kept hk
  | const v => rfl
  | func f => rfl
  | global q => rfl

/-- The earlier one sees the same behind. -/
theorem Ind.seeJ {rj ri : Bool} {oj oi : Oper} {g : St} {av1 : Operand → AV} {δj δi : Dl} (h : Ind P rj ri oj oi g.av av1 δj δi) : (∀ x ∈ opnds rj oj, (g.app oi.dst δi).av x = g.av x) ∧ (∀ c ∈ refsR rj oj g.av, lookO (g.app oi.dst δi).ob c = lookO g.ob c) := by
  refine ⟨fun x hx => ?_, fun c hc => by rw [lookO_app, upO_not (h.o2 c hc)]⟩
  cases x with
  | tmp s =>
    have hs := mem_slotsR hx
    have hne : oi.dst ≠ some s := fun e => h.d2 s e hs
    show look (g.app oi.dst δi).sl s = look g.sl s
    rw [look_app, if_neg hne]
    exact strike_same (h.keeps _ hx)
  | const v => rfl
  | func f => rfl
  | global q => rfl

theorem Ind.states {rj ri : Bool} {oj oi : Oper} {g : St} {av av1 : Operand → AV} {δj δi : Dl} (h : Ind P rj ri oj oi av av1 δj δi) : EqSt ((g.app oj.dst δj).app oi.dst δi) ((g.app oi.dst δi).app oj.dst δj) := by
  refine ⟨funext fun s => ?_, funext fun c => ?_⟩
  · simp only [look_app]
    by_cases e1 : oi.dst = some s
    · have e2 : oj.dst ≠ some s := fun e => h.d3 s e e1
      rw [if_pos e1, if_neg e2, if_pos e1, strike_same h.vi]
    · rw [if_neg e1]
      by_cases e2 : oj.dst = some s
      · rw [if_pos e2, if_pos e2, strike_same h.vj]
      · rw [if_neg e2, if_neg e2, if_neg e1]
        refine strike_comm ?_ _
        rcases h.ks with h | h | ⟨h, h'⟩ | h
        · exact .inr (.inl h)
        · exact .inl h
        · exact .inr (.inr (.inl ⟨h', h⟩))
        · exact .inr (.inr (.inr fun k hk l hl e => h l hl k hk e.symm))
  · simp only [lookO_app]
    show upO δi.os (lookO (g.app oj.dst δj).ob) c = upO δj.os (lookO (g.app oi.dst δi).ob) c
    unfold upO
    rw [lookO_app, lookO_app]
    unfold upO
    cases e1 : findO δi.os c with
    | none => cases e2 : findO δj.os c <;> rfl
    | some x =>
      have : findO δj.os c = none := findO_not fun hm => h.o3 c hm (findO_mem e1)
      rw [this]
      rfl

theorem opRefs_same {op : Op} {av av' : Operand → AV} (h : ∀ x ∈ op.operands.toList, av x = av' x) : opRefs av op = opRefs av' op := by
  have h2 : (op.operands.toList.flatMap fun x => (av x).refs) = op.operands.toList.flatMap fun x => (av' x).refs := by
    rw [List.flatMap_def, List.flatMap_def]
    congr 1
    exact List.map_congr_left fun x hx => by rw [h x hx]
  cases op <;> first | rfl | exact h2 | skip
  rename_i x i
  simp only [opRefs, h x (by simp [Op.operands])]
theorem refsR_same {r : Bool} {o : Oper} {av av' : Operand → AV} (h : ∀ x ∈ opnds r o, av x = av' x) : refsR r o av = refsR r o av' := by
  cases r with
  | false => rfl
  | true => exact opRefs_same h
theorem mkFP_same {ops : Array Oper} {i : Nat} {r : Bool} {o : Oper} {av av' : Operand → AV} {δ : Dl} (h : ∀ x ∈ opnds r o, av x = av' x) : mkFP P ops i r o av δ = mkFP P ops i r o av' δ := by
  have h1 : (opnds r o).map av = (opnds r o).map av' := List.map_congr_left h
  simp only [mkFP, h1, refsR_same h]

/-- TWO OPERATIONS CHANGE PLACES. -/
theorem swap (hM : HndM H) {ops : Array Oper} {i j : Nat} {rj ri : Bool} {oi oj : Oper} {g : St} {R : Dl → Dl → St → Prop}
    (h : stpD P A H f rj oj g.av (lookO g.ob) fun δj => stpD P A H f ri oi (g.app oj.dst δj).av (lookO (g.app oj.dst δj).ob) fun δi => indep (mkFP P ops j rj oj g.av δj) (mkFP P ops i ri oi (g.app oj.dst δj).av δi) = true ∧ R δj δi ((g.app oj.dst δj).app oi.dst δi)) :
    stpD P A H f ri oi g.av (lookO g.ob) fun δi => stpD P A H f rj oj (g.app oi.dst δi).av (lookO (g.app oi.dst δi).ob) fun δj => mkFP P ops j rj oj (g.app oi.dst δi).av δj = mkFP P ops j rj oj g.av δj ∧ mkFP P ops i ri oi (g.app oj.dst δj).av δi = mkFP P ops i ri oi g.av δi ∧ ∃ g', EqSt g' ((g.app oi.dst δi).app oj.dst δj) ∧ R δj δi g' := by
  -- the later one, seen before
  have hI : ∀ δj, (stpD P A H f ri oi (g.app oj.dst δj).av (lookO (g.app oj.dst δj).ob) fun δi => indep (mkFP P ops j rj oj g.av δj) (mkFP P ops i ri oi (g.app oj.dst δj).av δi) = true ∧ R δj δi ((g.app oj.dst δj).app oi.dst δi)) →
      stpD P A H f ri oi g.av (lookO g.ob) fun δi => Ind P rj ri oj oi g.av (g.app oj.dst δj).av δj δi ∧ mkFP P ops i ri oi (g.app oj.dst δj).av δi = mkFP P ops i ri oi g.av δi ∧ ∃ g', EqSt g' ((g.app oi.dst δi).app oj.dst δj) ∧ R δj δi g' := fun δj h1 => by
    obtain ⟨δi0, h2, _⟩ := stpD_ex hM h1
    have hi := (ind_of h2).1
    obtain ⟨s1, s2⟩ := hi.seeI
    have hl := stpD_local (A := A) (H := H) (f := f) hi.loci hi.ni s1 s2
    rw [hl] at h1
    refine stpD_mono hM (fun δi hd => ?_) h1
    have hi' := (ind_of hd.1).1
    exact ⟨hi', mkFP_same s1, _, hi'.states, hd.2⟩
  have h' : stpD P A H f rj oj g.av (lookO g.ob) fun δj => stpD P A H f ri oi g.av (lookO g.ob) fun δi => Ind P rj ri oj oi g.av (g.app oj.dst δj).av δj δi ∧ mkFP P ops i ri oi (g.app oj.dst δj).av δi = mkFP P ops i ri oi g.av δi ∧ ∃ g', EqSt g' ((g.app oi.dst δi).app oj.dst δj) ∧ R δj δi g' := stpD_mono hM hI h
  -- the earlier one, seen behind
  have hJ : ∀ δj δi K, Ind P rj ri oj oi g.av (g.app oj.dst δj).av δj δi → (stpD P A H f rj oj g.av (lookO g.ob) K → stpD P A H f rj oj (g.app oi.dst δi).av (lookO (g.app oi.dst δi).ob) K) ∧ ∀ δ, mkFP P ops j rj oj (g.app oi.dst δi).av δ = mkFP P ops j rj oj g.av δ := fun δj δi K hi => by
    obtain ⟨s1, s2⟩ := hi.seeJ
    have hl := stpD_local (A := A) (H := H) (f := f) hi.locj hi.nj (fun x hx => (s1 x hx).symm) (fun c hc => (s2 c hc).symm) K
    exact ⟨fun h => hl ▸ h, fun δ => mkFP_same s1⟩
  obtain ⟨δj0, h0⟩ := stpD_ex hM h'
  obtain ⟨δi1, hi1, _⟩ := stpD_ex hM h0
  rcases hi1.sim with hs | hs
  · -- the earlier one has one outcome
    have hD := stpD_det (A := A) (H := H) (f := f) (av := g.av) (ob := lookO g.ob) hs
    obtain ⟨δj1, hT, hU⟩ := hD.one _ h'
    refine stpD_mono hM (fun δi hd => ?_) hT
    obtain ⟨j1, j2⟩ := hJ δj1 δi _ hd.1
    refine j1 (stpD_mono hM (fun δj e => ?_) hU)
    subst e
    exact ⟨j2 _, hd.2⟩
  · have hD := stpD_det (A := A) (H := H) (f := f) (av := g.av) (ob := lookO g.ob) hs
    obtain ⟨δi0, hT, hU⟩ := hD.one _ h0
    have hall : stpD P A H f rj oj g.av (lookO g.ob) fun δj => Ind P rj ri oj oi g.av (g.app oj.dst δj).av δj δi0 ∧ mkFP P ops i ri oi (g.app oj.dst δj).av δi0 = mkFP P ops i ri oi g.av δi0 ∧ ∃ g', EqSt g' ((g.app oi.dst δi0).app oj.dst δj) ∧ R δj δi0 g' := stpD_mono hM (fun δj hd => by
      obtain ⟨x, hx, e⟩ := hD.same _ _ hd hU
      subst e
      exact hx) h'
    refine stpD_mono hM (fun δi e => ?_) hU
    subst e
    obtain ⟨j1, j2⟩ := hJ δj0 _ _ hT.1
    exact j1 (stpD_mono hM (fun δj hd => ⟨j2 _, hd.2⟩) hall)

/-! Guards. -/
def goutV (P : Program) (s : Nat) (want : Bool) : AV → Option (Bool × Option (Nat × Bool))
  | .imm t d => if isB P t = true then some (d.b == want, some (s, d.b)) else none
  | .und => some (false, none)
  | _ => none
/-- A guard's outcome: does the operation run, what is known of the guard. -/
def gout (P : Program) (ops : Array Oper) (o : Oper) (g : St) : Option (Bool × Option (Nat × Bool)) := match o.guard with
  | none => some (true, none)
  | some (j, want) => match (ops[j]?).bind (·.dst) with
    | some s => goutV P s want (look g.sl s)
    | none => none
def St.kn (g : St) : Option (Nat × Bool) → St
  | none => g
  | some (s, b) => g.know s b

theorem kn_ob (g : St) (k : Option (Nat × Bool)) : (g.kn k).ob = g.ob := by
  cases k <;> rfl

theorem turn_eq {ops : Array Oper} {o : Oper} {g : St} {K : Bool → St → Dl → Prop} : g.turn P A H f ops o K = match gout P ops o g with
    | none => False
    | some (r, k) => stpD P A H f r o (g.kn k).av (lookO g.ob) fun δ => K r (g.kn k) δ := by
  unfold St.turn gout
  cases o.guard with
  | none => rfl
  | some jw =>
    obtain ⟨j, want⟩ := jw
    simp only
    cases (ops[j]?).bind (·.dst) with
    | none => rfl
    | some s =>
      simp only
      cases look g.sl s with
      | imm t d =>
        simp only [goutV]
        cases isB P t with
        | false => rfl
        | true => cases d.b <;> cases want <;> rfl
      | _ => rfl

/-- What a guard's outcome says. -/
theorem gout_inv {ops : Array Oper} {o : Oper} {g : St} {r : Bool} {s : Nat} {b : Bool} (h : gout P ops o g = some (r, some (s, b))) : gslot ops o = some s ∧ ∃ t d, look g.sl s = .imm t d ∧ b = d.b := by
  unfold gout at h
  unfold gslot
  cases hg : o.guard with
  | none => rw [hg] at h; simp at h
  | some jw =>
    obtain ⟨j, want⟩ := jw
    rw [hg] at h
    simp only at h ⊢
    cases hs : (ops[j]?).bind (·.dst) with
    | none => rw [hs] at h; cases h
    | some s' =>
      rw [hs] at h
      simp only at h
      cases hl : look g.sl s' with
      | imm t d =>
        rw [hl] at h
        simp only [goutV] at h
        split at h
        · simp only [Option.some.injEq, Prod.mk.injEq] at h
          obtain ⟨_, rfl, rfl⟩ := h
          exact ⟨rfl, t, d, hl, rfl⟩
        · cases h
      | _ => rw [hl] at h; simp [goutV] at h
theorem gout_run {ops : Array Oper} {o : Oper} {g : St} {r : Bool} {s : Nat} {k : Option (Nat × Bool)} (h : gout P ops o g = some (r, k)) (hs : gslot ops o = some s) : (∃ t d, look g.sl s = .imm t d ∧ k = some (s, d.b)) ∨ (look g.sl s = .und ∧ k = none) := by
  unfold gslot at hs
  unfold gout at h
  cases hg : o.guard with
  | none => rw [hg] at hs; cases hs
  | some jw =>
    obtain ⟨j, want⟩ := jw
    rw [hg] at h hs
    simp only at h hs
    rw [hs] at h
    simp only at h
    cases hl : look g.sl s with
    | imm t d =>
      rw [hl] at h
      simp only [goutV] at h
      split at h
      · simp only [Option.some.injEq, Prod.mk.injEq] at h
        exact .inl ⟨t, d, rfl, h.2.symm⟩
      · cases h
    | und =>
      rw [hl] at h
      simp only [goutV, Option.some.injEq, Prod.mk.injEq] at h
      exact .inr ⟨rfl, h.2.symm⟩
    | _ => rw [hl] at h; simp [goutV] at h

theorem strike_imm (t : Nat) (d : D) : ∀ ks, strike ks (.imm t d) = .imm t d
  | [] => rfl
  | k :: ks => by
    have : fall k (.imm t d) = .imm t d := by
      obtain ⟨o, m⟩ := k
      cases m <;> rfl
    rw [strike, this, strike_imm t d ks]

theorem goutV_fall (s : Nat) (want : Bool) (k : Nat × KM) (a : AV) : goutV P s want (fall k a) = goutV P s want a := by
  obtain ⟨o, m⟩ := k
  have key : ∀ a : AV, goutV P s want (fall1 o m a) = goutV P s want a := by
    intro a
    have hI : ∀ t d, fall1 o m (.imm t d) = .imm t d := fun t d => by cases m <;> rfl
    have hU : fall1 o m .und = .und := by cases m <;> rfl
    cases a with
    | imm t d => rw [hI]
    | und => rw [hU]
    | _ =>
      rcases fall1_cases o m _ with h | h | ⟨_, t, x, h⟩ <;> rw [h] <;> rfl
  cases a with
  | clo f l => rfl
  | tup l => rfl
  | _ => exact key _
theorem goutV_strike (s : Nat) (want : Bool) : ∀ (ks : List (Nat × KM)) (a : AV), goutV P s want (strike ks a) = goutV P s want a
  | [], a => rfl
  | k :: ks, a => by rw [strike, goutV_strike s want ks, goutV_fall]

theorem look_know (g : St) (s : Nat) (b : Bool) (k : Nat) : look (g.know s b).sl k = if s = k then (match look g.sl s with
    | .imm t _ => .imm t (.bool b)
    | a => a) else look g.sl k := by
  show look ((s, _) :: g.sl) k = _
  rw [look_cons]
  rfl

/-- A guard's outcome stays. -/
theorem gout_stable {ops : Array Oper} {oj oi : Oper} {g : St} {rj : Bool} {kj : Option (Nat × Bool)} (hj : gout P ops oj g = some (rj, kj)) (hd : ∀ s, gslot ops oi = some s → oj.dst ≠ some s) (δ : Dl) : gout P ops oi ((g.kn kj).app oj.dst δ) = gout P ops oi g := by
  unfold gout
  cases hg : oi.guard with
  | none => rfl
  | some jw =>
    obtain ⟨j, want⟩ := jw
    simp only
    cases hs : (ops[j]?).bind (·.dst) with
    | none => rfl
    | some s =>
      simp only
      rw [look_app, if_neg (hd s (by unfold gslot; rw [hg]; exact hs)), goutV_strike]
      cases kj with
      | none => rfl
      | some sb =>
        obtain ⟨s', b⟩ := sb
        obtain ⟨_, t, d, hl, rfl⟩ := gout_inv hj
        show goutV P s want (look (g.know s' d.b).sl s) = _
        rw [look_know]
        by_cases e : s' = s
        · subst e
          rw [if_pos rfl, hl]
          rfl
        · rw [if_neg e]

theorem kn_comm {ops : Array Oper} {oj oi : Oper} {g : St} {rj ri : Bool} {kj ki : Option (Nat × Bool)} (hj : gout P ops oj g = some (rj, kj)) (hi : gout P ops oi g = some (ri, ki)) : EqSt ((g.kn kj).kn ki) ((g.kn ki).kn kj) := by
  refine ⟨funext fun k => ?_, by rw [kn_ob, kn_ob, kn_ob, kn_ob]⟩
  cases kj with
  | none => rfl
  | some a =>
    cases ki with
    | none => rfl
    | some b =>
      obtain ⟨s, x⟩ := a
      obtain ⟨s', y⟩ := b
      obtain ⟨_, t, d, hl, rfl⟩ := gout_inv hj
      obtain ⟨_, t', d', hl', rfl⟩ := gout_inv hi
      show look ((g.know s d.b).know s' d'.b).sl k = look ((g.know s' d'.b).know s d.b).sl k
      simp only [look_know, hl, hl']
      by_cases e : s = s'
      · subst e
        rw [hl] at hl'
        injection hl' with h1 h2
        subst h1; subst h2
        rfl
      · by_cases e1 : s' = k
        · subst e1
          simp [e]
        · by_cases e2 : s = k
          · subst e2
            simp [e1]
          · simp [e1, e2]

/-- What is known of another guard does not matter. -/
theorem kn_same {ops : Array Oper} {oj oi : Oper} {g : St} {rj ri : Bool} {kj ki : Option (Nat × Bool)} (hj : gout P ops oj g = some (rj, kj)) (hi : gout P ops oi g = some (ri, ki)) (hg : ∀ s, gslot ops oi = some s → s ∈ slotsR rj oj → gslot ops oj = some s) :
    ∀ x ∈ opnds rj oj, (g.kn kj).av x = ((g.kn kj).kn ki).av x := by
  intro x hx
  cases ki with
  | none => rfl
  | some b =>
    obtain ⟨s', y⟩ := b
    obtain ⟨h1, t', d', hl', rfl⟩ := gout_inv hi
    cases x with
    | tmp s =>
      show look (g.kn kj).sl s = look ((g.kn kj).know s' d'.b).sl s
      rw [look_know]
      by_cases e : s' = s
      · subst e
        rw [if_pos rfl]
        have h2 := hg s' h1 (mem_slotsR hx)
        rcases gout_run hj h2 with ⟨t, d, h3, rfl⟩ | ⟨h3, rfl⟩
        · rw [hl'] at h3
          injection h3 with h3 h4
          subst h3; subst h4
          show look (g.know s' d'.b).sl s' = _
          rw [look_know, if_pos rfl, hl']
          show _ = match look (g.know s' d'.b).sl s' with
            | .imm t _ => AV.imm t (.bool d'.b)
            | a => a
          rw [look_know, if_pos rfl, hl']
        · rw [hl'] at h3; cases h3
      · rw [if_neg e]
    | const v => rfl
    | func f => rfl
    | global q => rfl

theorem kn_app {ops : Array Oper} {oj oi : Oper} {g : St} {rj ri : Bool} {kj ki : Option (Nat × Bool)} (hj : gout P ops oj g = some (rj, kj)) (hi : gout P ops oi g = some (ri, ki)) (hd : ∀ s, gslot ops oi = some s → oj.dst ≠ some s) (δ : Dl) :
    EqSt (((g.kn kj).app oj.dst δ).kn ki) (((g.kn kj).kn ki).app oj.dst δ) := by
  refine ⟨funext fun k => ?_, funext fun c => by rw [kn_ob, lookO_app, lookO_app, kn_ob ((g.kn kj))]⟩
  cases ki with
  | none => rfl
  | some b =>
    obtain ⟨s', y⟩ := b
    obtain ⟨h1, t', d', hl', rfl⟩ := gout_inv hi
    have hn := hd s' h1
    have hlj : ∃ z, look (g.kn kj).sl s' = .imm t' z := by
      cases kj with
      | none => exact ⟨d', hl'⟩
      | some a =>
        obtain ⟨s, x⟩ := a
        show ∃ z, look (g.know s x).sl s' = .imm t' z
        rw [look_know]
        by_cases e : s = s'
        · subst e
          rw [if_pos rfl, hl']
          exact ⟨_, rfl⟩
        · rw [if_neg e]
          exact ⟨_, hl'⟩
    obtain ⟨z, hz⟩ := hlj
    show look (((g.kn kj).app oj.dst δ).know s' d'.b).sl k = look (((g.kn kj).know s' d'.b).app oj.dst δ).sl k
    rw [look_know, look_app, look_app, look_app, look_know]
    rw [if_neg hn, hz, strike_imm]
    by_cases e : s' = k
    · subst e
      rw [if_pos rfl, if_neg hn, if_pos rfl, strike_imm]
    · rw [if_neg e, if_neg e]

/-- TWO OPERATIONS UNDER THEIR GUARDS CHANGE PLACES. -/
theorem swapG (hM : HndM H) {ops : Array Oper} {i j : Nat} {oi oj : Oper} {g : St} {R : FP → FP → St → Prop}
    (h : g.turn P A H f ops oj fun rj gj δj => (gj.app oj.dst δj).turn P A H f ops oi fun ri gi δi => indep (mkFP P ops j rj oj gj.av δj) (mkFP P ops i ri oi gi.av δi) = true ∧ R (mkFP P ops j rj oj gj.av δj) (mkFP P ops i ri oi gi.av δi) (gi.app oi.dst δi)) :
    g.turn P A H f ops oi fun ri gi δi => (gi.app oi.dst δi).turn P A H f ops oj fun rj gj δj => ∃ g', EqSt g' (gj.app oj.dst δj) ∧ R (mkFP P ops j rj oj gj.av δj) (mkFP P ops i ri oi gi.av δi) g' := by
  rw [turn_eq] at h
  cases hj : gout P ops oj g with
  | none => rw [hj] at h; exact h.elim
  | some rkj =>
    obtain ⟨rj, kj⟩ := rkj
    rw [hj] at h
    simp only at h
    obtain ⟨δj0, h0⟩ := stpD_ex hM h
    rw [turn_eq] at h0
    cases hi0 : gout P ops oi ((g.kn kj).app oj.dst δj0) with
    | none => rw [hi0] at h0; exact h0.elim
    | some rki =>
      obtain ⟨ri, ki⟩ := rki
      rw [hi0] at h0
      simp only at h0
      obtain ⟨δi0, h1, _⟩ := stpD_ex hM h0
      obtain ⟨I0, G0⟩ := ind_of h1
      have hi : gout P ops oi g = some (ri, ki) := by rw [← hi0]; exact (gout_stable hj G0.g2 δj0).symm
      have sj := kn_same hj hi G0.g4
      have si0 := kn_same hi hj G0.g3
      have cm := kn_comm hj hi
      have si : ∀ x ∈ opnds ri oi, (g.kn ki).av x = ((g.kn kj).kn ki).av x := fun x hx => by rw [si0 x hx, ← cm.av]
      have aj := fun δ => kn_app hj hi G0.g2 δ
      have ai := fun δ => kn_app hi hj G0.g1 δ
      have obG : ((g.kn kj).kn ki).ob = g.ob := by rw [kn_ob, kn_ob]
      -- all at one state
      have hA : stpD P A H f rj oj ((g.kn kj).kn ki).av (lookO ((g.kn kj).kn ki).ob) fun δj => stpD P A H f ri oi (((g.kn kj).kn ki).app oj.dst δj).av (lookO (((g.kn kj).kn ki).app oj.dst δj).ob) fun δi =>
          indep (mkFP P ops j rj oj ((g.kn kj).kn ki).av δj) (mkFP P ops i ri oi (((g.kn kj).kn ki).app oj.dst δj).av δi) = true ∧ ∃ g', EqSt g' ((((g.kn kj).kn ki).app oj.dst δj).app oi.dst δi) ∧ R (mkFP P ops j rj oj ((g.kn kj).kn ki).av δj) (mkFP P ops i ri oi (((g.kn kj).kn ki).app oj.dst δj).av δi) g' := by
        have hloc := stpD_local (P := P) (A := A) (H := H) (f := f) (ob := lookO g.ob) (ob' := lookO ((g.kn kj).kn ki).ob) I0.locj I0.nj sj (fun _ _ => by rw [obG])
        rw [← hloc]
        refine stpD_mono hM (fun δj h2 => ?_) h
        rw [turn_eq, gout_stable hj G0.g2 δj, hi] at h2
        simp only at h2
        have eo : lookO ((g.kn kj).app oj.dst δj).ob = lookO (((g.kn kj).kn ki).app oj.dst δj).ob := by
          have := (aj δj).2
          rw [kn_ob] at this
          exact this
        rw [(aj δj).av, eo] at h2
        refine stpD_mono hM (fun δi h3 => ?_) h2
        rw [mkFP_same sj] at h3
        exact ⟨h3.1, _, (aj δj).app oi.dst δi, h3.2⟩
      have hS := swap (R := fun δj δi X => ∃ g', EqSt g' X ∧ R (mkFP P ops j rj oj ((g.kn kj).kn ki).av δj) (mkFP P ops i ri oi (((g.kn kj).kn ki).app oj.dst δj).av δi) g') hM hA
      rw [turn_eq, hi]
      simp only
      have hnI : ∀ x ∈ opnds ri oi, (((g.kn kj).kn ki).av x).nest = true := fun x hx => by
        obtain ⟨δj1, h2⟩ := stpD_ex hM hA
        obtain ⟨δi1, h3, _⟩ := stpD_ex hM h2
        have I1 := (ind_of h3).1
        have := I1.ni x hx
        rw [I1.seeI.1 x hx] at this
        exact this
      have hloc := stpD_local (P := P) (A := A) (H := H) (f := f) (ob := lookO ((g.kn kj).kn ki).ob) (ob' := lookO g.ob) I0.loci hnI (fun x hx => (si x hx).symm) (fun _ _ => by rw [obG])
      rw [← hloc]
      refine stpD_mono hM (fun δi h2 => ?_) hS
      rw [turn_eq, gout_stable hi G0.g1 δi, hj]
      simp only
      have e1 : EqSt (((g.kn ki).app oi.dst δi).kn kj) (((g.kn kj).kn ki).app oi.dst δi) := by
        have h3 := ai δi
        have h4 := cm.symm.app oi.dst δi
        exact ⟨h3.1.trans h4.1, h3.2.trans h4.2⟩
      have eo : lookO ((g.kn ki).app oi.dst δi).ob = lookO (((g.kn kj).kn ki).app oi.dst δi).ob := by
        have := e1.2
        rw [kn_ob] at this
        exact this
      rw [e1.av, eo]
      refine stpD_mono hM (fun δj h3 => ?_) h2
      obtain ⟨f1, f2, g1, he, g2, he2, hR⟩ := h3
      have e2 := e1.symm.app oj.dst δj
      refine ⟨g2, ⟨(he2.1.trans he.1).trans e2.1, (he2.2.trans he.2).trans e2.2⟩, ?_⟩
      rw [mkFP_same si, f1, ← f2]
      exact hR

/-- An operation's turn, where its rule is met. -/
def Turn (P : Program) (A : Ann) (H : Hnd) (f : Nat) (ops : Array Oper) (i : Nat) (oi : Oper) (fps : List FP) (g : St) (R : List Nat) (K : St → Prop) : Prop :=
  dstOk P A f oi.dst = true ∧ g.turn P A H f ops oi fun r g1 δi => (fps.all fun p => anc ops ops.size i p.i || indep p (mkFP P ops i r oi g1.av δi)) = true ∧ wpD P A H f ops R fps (g1.app oi.dst δi) K

/-- AN OPERATION COMES FIRST. -/
theorem front (hM : HndM H) {ops : Array Oper} {K : St → Prop} (hK : Closed K) {i : Nat} {oi : Oper} (hi : ops[i]? = some oi) : ∀ (R : List Nat) (fps : List FP) (g : St), i ∈ R → R.Nodup → (∀ j ∈ R, anc ops ops.size i j = false) → (∀ j ∈ R, j < ops.size) → wpD P A H f ops R fps g K → Turn P A H f ops i oi fps g (R.erase i) K
  | [], fps, g, hm, _, _, _, _ => by cases hm
  | j :: R, fps, g, hm, hnd, ha, hlt, h => by
    by_cases e : j = i
    · subst e
      rw [List.erase_cons_head]
      simp only [wpD, hi] at h
      obtain ⟨h1, h2⟩ := of_cond h
      refine ⟨h1, St.turn_mono hM (fun r g1 δ hδ => ?_) h2⟩
      obtain ⟨h3, h4⟩ := of_cond hδ
      exact ⟨h3, wpD_mono hM (fun _ h => h) _ _ _ _ (fun p hp => List.mem_cons_of_mem _ hp) h4⟩
    · have hm' : i ∈ R := (List.mem_cons.1 hm).resolve_left fun h => e h.symm
      have hnd' := (List.nodup_cons.1 hnd).2
      rw [List.erase_cons_tail (by simpa using e)]
      have IH := fun fps g h => front hM hK hi R fps g hm' hnd' (fun j hj => ha j (List.mem_cons_of_mem _ hj)) (fun j hj => hlt j (List.mem_cons_of_mem _ hj)) h
      have hj : ops[j]? = some ops[j]! := by
        have := hlt j (by simp)
        simp [this]
      generalize ops[j]! = oj at hj
      simp only [wpD, hj] at h
      obtain ⟨h1, h2⟩ := of_cond h
      have haj : anc ops ops.size i j = false := ha j (by simp)
      have h3 := St.turn_mono hM (K' := fun rj gj δj => (gj.app oj.dst δj).turn P A H f ops oi fun ri gi δi => indep (mkFP P ops j rj oj gj.av δj) (mkFP P ops i ri oi gi.av δi) = true ∧
        ((fps.all fun p => anc ops ops.size j p.i || indep p (mkFP P ops j rj oj gj.av δj)) = true ∧ dstOk P A f oi.dst = true ∧ (fps.all fun p => anc ops ops.size i p.i || indep p (mkFP P ops i ri oi gi.av δi)) = true ∧ wpD P A H f ops (R.erase i) (mkFP P ops j rj oj gj.av δj :: fps) (gi.app oi.dst δi) K)) (fun rj gj δj hδ => by
          obtain ⟨h3, h4⟩ := of_cond hδ
          obtain ⟨h5, h6⟩ := IH _ _ h4
          refine St.turn_mono hM (fun ri gi δi h7 => ?_) h6
          obtain ⟨h8, h9⟩ := h7
          simp only [List.all_cons, Bool.and_eq_true, Bool.or_eq_true] at h8
          refine ⟨?_, h3, h5, h8.2, h9⟩
          rcases h8.1 with h10 | h10
          · have h11 : anc ops ops.size i j = true := h10
            rw [haj] at h11; cases h11
          · exact h10) h2
      have h4 := swapG (i := i) (j := j) (R := fun fj fi g' => (fps.all fun p => anc ops ops.size j p.i || indep p fj) = true ∧ dstOk P A f oi.dst = true ∧ (fps.all fun p => anc ops ops.size i p.i || indep p fi) = true ∧ wpD P A H f ops (R.erase i) (fj :: fps) g' K) hM h3
      have hdst : dstOk P A f oi.dst = true := by
        obtain ⟨_, _, _, h5⟩ := St.turn_ex hM h4
        obtain ⟨_, _, _, g', _, h6⟩ := St.turn_ex hM h5
        exact h6.2.1
      refine ⟨hdst, St.turn_mono hM (fun ri gi δi h5 => ?_) h4⟩
      obtain ⟨_, _, _, g0, _, h6⟩ := St.turn_ex hM h5
      refine ⟨h6.2.2.1, ?_⟩
      simp only [wpD, hj]
      rw [h1, cond_true]
      refine St.turn_mono hM (fun rj gj δj h7 => ?_) h5
      obtain ⟨g', he, h8⟩ := h7
      rw [h8.1, cond_true]
      exact wpD_eq hM hK _ _ _ _ he h8.2.2.2

end
end Go.Ab

/- Regions whose order is drawn. -/
namespace Go.Ab
variable {P : Program} {A : Ann}

section
variable {H : Hnd} {f : Nat}

/-- What is left to do. -/
def leftR (ops : Array Oper) (listed : Array Bool) : List Nat := (List.range ops.size).filter fun i => !listed.getD i true

/-- What is listed has what is ahead of it listed. -/
def ClosedL (ops : Array Oper) (listed : Array Bool) : Prop := ∀ (i : Nat) (o : Oper), ops[i]? = some o → listed.getD i false = true → ∀ e ∈ o.after, Region.binds .any e = true → listed.getD e.on false = true

theorem getD_tf {listed : Array Bool} {i : Nat} (h : i < listed.size) : listed.getD i true = listed.getD i false := by
  simp [Array.getD_eq_getD_getElem?, h]

theorem anc_listed {ops : Array Oper} {listed : Array Bool} (hc : ClosedL ops listed) : ∀ (n i j : Nat), (∀ (o : Oper), ops[i]? = some o → ∀ e ∈ o.after, Region.binds .any e = true → listed.getD e.on false = true) → anc ops n i j = true → listed.getD j false = true
  | 0, i, j, _, h => by simp [anc] at h
  | n + 1, i, j, hp, h => by
    simp only [anc] at h
    split at h
    · rename_i o ho
      obtain ⟨e, he, hb⟩ := List.any_eq_true.1 h
      simp only [Bool.and_eq_true, Bool.or_eq_true, beq_iff] at hb
      have hl := hp o ho e (by simpa using he) hb.1
      rcases hb.2 with h2 | h2
      · rw [← h2]; exact hl
      · exact anc_listed hc n e.on j (fun o' ho' e' he' hb' => hc e.on o' ho' hl e' he' hb') h2
    · cases h

theorem Stands.drew {X0 Y0 : Nat → Prop} {w0 : World} {av0 : Nat → Value} {g : St} {a : Act} {w : World} (S : Stands P A X0 Y0 w0 f av0 g a w) : Stands P A X0 Y0 w0 f av0 g a { w with drawn := w.drawn + 1 } := by
  obtain ⟨⟨ph, R⟩, hA⟩ := S
  have hk : Keeps (fun _ => False) w { w with drawn := w.drawn + 1 } := ⟨rfl, rfl, rfl, Nat.le_refl _, fun _ _ _ => rfl⟩
  refine ⟨⟨ph, ⟨fun o x hx => ?_, R.objs.apart, R.objs.free, R.objs.ours, R.objs.old⟩, fun s => ?_, R.keeps.trans hk (fun _ h => h) fun _ _ h => h.elim⟩, hA⟩
  · exact OkObj.frame (w := w) (w' := { w with drawn := w.drawn + 1 }) (Nat.le_refl w.heap.size) (fun _ _ h => h) (fun _ _ _ => rfl) (R.objs.ok o x hx) fun _ _ => rfl
  · exact AVR.stays (ks := []) (w := w) (w' := { w with drawn := w.drawn + 1 }) (Nat.le_refl _) (fun _ _ h => h) (fun _ _ _ => rfl) (by simp) (fun c z hz => .same rfl rfl fun _ _ => rfl) (fun c z z' _ _ _ _ _ b _ hh => hh) (R.slots s)

theorem left_set {ops : Array Oper} {listed : Array Bool} {i : Nat} (hs : listed.size = ops.size) (hi : i ∈ leftR ops listed) : leftR ops (listed.setIfInBounds i true) = (leftR ops listed).erase i := by
  have hlt : i < ops.size := by
    have := (List.mem_filter.1 hi).1
    simpa using this
  have hnd : (leftR ops listed).Nodup := List.Pairwise.filter _ List.nodup_range
  rw [hnd.erase_eq_filter]
  unfold leftR
  rw [List.filter_filter]
  refine List.filter_congr fun j hj => ?_
  have hj' : j < ops.size := by simpa using hj
  by_cases e : j = i
  · subst e
    simp [Array.getD_eq_getD_getElem?, hs, hlt]
  · have : (listed.setIfInBounds i true).getD j true = listed.getD j true := by
      simp only [Array.getD_eq_getD_getElem?, Array.getElem?_setIfInBounds, if_neg (fun h => e (Eq.symm h))]
    rw [this]
    simp [e]

theorem any_ok (W : WF P) (hH : HndOk P A H) (hM : HndM H) {ops : Array Oper} (hf : fwdOk ops = true) {X0 Y0 : Nat → Prop} {w0 : World} {av0 : Nat → Value} {K : St → Prop} (hK : Closed K) {Q : Exit → Act → World → Prop} (hQ : ∀ g' a' w', Stands P A X0 Y0 w0 f av0 g' a' w' → K g' → Q .normal a' w') :
    ∀ (fuel : Nat) (listed : Array Bool) (g : St) (a : Act) (w : World), Stands P A X0 Y0 w0 f av0 g a w → listed.size = ops.size → ClosedL ops listed → (leftR ops listed).length ≤ fuel → wpD P A H f ops (leftR ops listed) [] g K → wpAny P .any ops Q fuel listed a w := by
  have hmem : ∀ (listed : Array Bool) (i : Nat), i ∈ Region.ready .any ops listed → i ∈ leftR ops listed := fun listed i hi => by
    obtain ⟨h1, o, ho, _⟩ := mem_ready.1 hi
    exact List.mem_filter.2 ⟨by simpa using (Array.getElem?_eq_some_iff.1 ho).1, by rw [h1]; rfl⟩
  have hempty : ∀ (listed : Array Bool), listed.size = ops.size → Region.ready .any ops listed = [] → leftR ops listed = [] := fun listed hs he => by
    cases hR : leftR ops listed with
    | nil => rfl
    | cons x R =>
      exfalso
      obtain ⟨i, hi, hmin⟩ := exists_min (p := fun i => i ∈ leftR ops listed) ⟨x, by rw [hR]; simp⟩
      have hlt : i < ops.size := by simpa using (List.mem_filter.1 hi).1
      have ho : ops[i]? = some ops[i] := by simp [hlt]
      have : i ∈ Region.ready .any ops listed := by
        refine mem_ready.2 ⟨by have := (List.mem_filter.1 hi).2; simpa using this, ops[i], ho, fun e he' hb => ?_⟩
        have h1 := List.all_eq_true.1 hf i (by simpa using hlt)
        rw [ho] at h1
        have h2 := List.all_eq_true.1 h1 e (by simpa using he')
        rw [hb] at h2
        simp only [Bool.not_true, Bool.false_or, Nat.blt_eq] at h2
        have h3 : e.on < listed.size := by omega
        rw [← getD_tf h3]
        cases h4 : listed.getD e.on true with
        | true => rfl
        | false =>
          have := hmin e.on (List.mem_filter.2 ⟨by simp; omega, by rw [h4]; rfl⟩)
          omega
      rw [he] at this
      cases this
  intro fuel
  induction fuel with
  | zero =>
    intro listed g a w S hs hc hl h
    have hR : leftR ops listed = [] := List.eq_nil_of_length_eq_zero (by omega)
    rw [hR] at h
    refine ⟨?_, hQ g a w S h⟩
    apply List.eq_nil_iff_forall_not_mem.2
    intro i hi
    have := hmem listed i hi
    rw [hR] at this
    cases this
  | succ fuel ih =>
    intro listed g a w S hs hc hl h
    refine ⟨fun he => ?_, fun i hi => ?_⟩
    · rw [hempty listed hs he] at h
      exact hQ g a w S h
    · have hiR := hmem listed i hi
      obtain ⟨h1, o, ho, hpre⟩ := mem_ready.1 hi
      have hlt : i < ops.size := (Array.getElem?_eq_some_iff.1 ho).1
      have hnd : (leftR ops listed).Nodup := List.Pairwise.filter _ List.nodup_range
      have hall : ∀ j ∈ leftR ops listed, j < ops.size := fun j hj => by simpa using (List.mem_filter.1 hj).1
      have hanc : ∀ j ∈ leftR ops listed, anc ops ops.size i j = false := fun j hj => by
        cases e : anc ops ops.size i j with
        | false => rfl
        | true =>
          have h2 := anc_listed hc ops.size i j (fun o' ho' e' he' hb' => by rw [ho] at ho'; injection ho' with ho'; subst ho'; exact hpre e' he' hb') e
          have h3 := (List.mem_filter.1 hj).2
          rw [← getD_tf (by rw [hs]; exact hall j hj)] at h2
          rw [h2] at h3
          cases h3
      have hset := left_set hs hiR
      have hc' : ClosedL ops (listed.setIfInBounds i true) := fun j oj hj hl' e he hb => by
        have hkeep : ∀ k, listed.getD k false = true → (listed.setIfInBounds i true).getD k false = true := fun k hk => getD_set_true hk
        by_cases e1 : j = i
        · subst e1
          rw [ho] at hj
          injection hj with hj
          subst hj
          exact hkeep _ (hpre e he hb)
        · have : listed.getD j false = true := by
            have e2 : (listed.setIfInBounds i true).getD j false = listed.getD j false := getD_set_ne false fun h => e1 h.symm
            rw [← e2]; exact hl'
          exact hkeep _ (hc j oj hj this e he hb)
      have hlen : ((leftR ops listed).erase i).length ≤ fuel := by
        have := List.length_erase_of_mem hiR
        omega
      have next : ∀ g' a' w', Stands P A X0 Y0 w0 f av0 g' a' w' → wpD P A H f ops ((leftR ops listed).erase i) [] g' K → wpAny P .any ops Q fuel (listed.setIfInBounds i true) a' w' := fun g' a' w' S' h' => ih _ g' a' w' S' (by simp [hs]) hc' (by rw [hset]; exact hlen) (by rw [hset]; exact h')
      unfold wpOp
      rw [ho]
      simp only
      obtain ⟨h2, h3⟩ := front hM hK ho _ [] g hiR hnd hanc hall h
      have hst : g.guard P A H f ops o fun g' => wpD P A H f ops ((leftR ops listed).erase i) [] g' K :=
        St.turn_guard hM h2 (St.turn_mono hM (fun r g1 δ hδ => hδ.2) h3)
      have := guard_rel W hH S hst _ Q next
      split at this
      · rename_i hw; rw [if_pos hw]; exact .inl this
      · rename_i hw; rw [if_neg hw]; exact this

/-- A region whose order is drawn does what its rule says. -/
theorem draw_ok (W : WF P) (hm : P.follows .mixedOrders = true) (hH : HndOk P A H) (hM : HndM H) : DrawOk P A H := by
  intro f ops g K hf h X0 Y0 w0 av0 a w Q id S hQ
  refine wp_region_any hm ?_
  have hK : Closed fun g => ∃ g', EqSt g' g ∧ K g' := fun g1 g2 he ⟨g', h1, h2⟩ => ⟨g', ⟨h1.1.trans he.1, h1.2.trans he.2⟩, h2⟩
  have hleft : leftR ops (Array.replicate ops.size false) = List.range ops.size := by
    unfold leftR
    rw [List.filter_eq_self]
    intro i hi
    have hi' : i < ops.size := by simpa using hi
    simp [Array.getD_eq_getD_getElem?, hi']
  refine any_ok W hH hM hf hK (fun g' a' w' S' h' => ?_) ops.size _ g a _ S.drew (by simp) (fun i o _ hl => ?_) (by rw [hleft]; simp) (by
    rw [hleft]
    exact wpD_mono hM (fun g h => ⟨g, ⟨rfl, rfl⟩, h⟩) _ _ _ _ (fun _ h => h) h)
  · obtain ⟨g2, he, h2⟩ := h'
    obtain ⟨⟨ph, R⟩, hA⟩ := S'
    have R2 : RelA P A X0 Y0 w0 g2 ph a' w' := by
      have e1 : look g2.sl = look g'.sl := he.1
      have e2 : lookO g2.ob = lookO g'.ob := he.2
      unfold RelA at R ⊢
      rw [e1, e2]
      exact R
    exact hQ g2 a' w' ⟨⟨ph, R2⟩, hA⟩ h2
  · exfalso
    rw [Array.getD_eq_getD_getElem?, Array.getElem?_replicate] at hl
    split at hl <;> cases hl

end

/-- EVERY FUNCTION DOES WHAT ITS RULE SAYS. -/
theorem rule_ok (W : WF P) (hm : P.follows .mixedOrders = true) {n f : Nat} {ds : List D} {Q : List D → Prop} (h : wpF P A n f ds Q) {X0 : Nat → Prop} {w : World} {args : Array Value} {phL : Nat → Ph} (hA : Args P A X0 w (A.sig f).ps args ds phL) :
    Calls P f args w fun e w' => ∃ v r phR vs, e = .returned v ∧ Q r ∧ Ret P A X0 (lentY (A.sig f).ps ds phL) w w' (A.sig f) phL v r phR vs :=
  wpF_ok W (fun n hH => draw_ok W hm hH (hnd_m n)) h hA

end Go.Ab
