/- An exact run of code with open numbers, and that it is sound, part 2. Conditions: those in each theorem. -/
import Derived.Test.YtpkjnlmniacnaaaXePart1
import Derived.Test.YtpkjnlmniacnaaaAbPart6
set_option linter.unusedVariables false
set_option linter.unusedSimpArgs false
/- Regions whose order is drawn. -/
namespace Go.Xe
open Go.Ab (tk TK WF Keeps Row mkV Does beq_iff exists_min leftR left_set getD_tf)
variable {P : Program}

theorem put_ne {α : Type} : ∀ (n : Nat) (t : Tr α) (k : Nat) (x : Option α) (j : Nat), k + 1 < 2 ^ n → j ≠ k → (Tr.put n t k x).get j = t.get j
  | 0, t, k, x, j, h, _ => by simp at h
  | n + 1, t, k, x, j, h, hj => by
    have key : ∀ (l r : Tr α) (u : Option α), (cond (Nat.beq k 0) (Tr.nd l x r) (cond (Nat.beq (k % 2) 1) (.nd (Tr.put n l (k / 2) x) u r) (.nd l u (Tr.put n r (k / 2 - 1) x)))).get j = (Tr.nd l u r).get j := by
      intro l r u
      rw [Nat.pow_succ] at h
      by_cases hk0 : k = 0
      · rw [nbt hk0, cond_true]
        by_cases hj2 : j % 2 = 1
        · rw [get1 _ _ _ hj2, get1 _ _ _ hj2]
        · rw [get2 _ _ _ (by omega) hj2, get2 _ _ _ (by omega) hj2]
      · rw [nbf hk0, cond_false]
        by_cases hk : k % 2 = 1
        · rw [nbt hk, cond_true]
          by_cases hj0 : j = 0
          · subst hj0; rfl
          · by_cases hj2 : j % 2 = 1
            · rw [get1 _ _ _ hj2, get1 _ _ _ hj2]
              exact put_ne n l _ x _ (by omega) (by omega)
            · rw [get2 _ _ _ hj0 hj2, get2 _ _ _ hj0 hj2]
        · rw [nbf hk, cond_false]
          by_cases hj0 : j = 0
          · subst hj0; rfl
          · by_cases hj2 : j % 2 = 1
            · rw [get1 _ _ _ hj2, get1 _ _ _ hj2]
            · rw [get2 _ _ _ hj0 hj2, get2 _ _ _ hj0 hj2]
              exact put_ne n r _ x _ (by omega) (by omega)
    cases t with
    | lf =>
      rw [put_lf, key .lf .lf none, get_lf, get_nd]
      by_cases hj0 : j = 0
      · subst hj0; rfl
      · rw [nbf hj0, cond_false, Go.Ab.cond_eq]
        split <;> rfl
    | nd l u r =>
      rw [put_nd]
      exact key l r u
theorem put_eq {α : Type} : ∀ (n : Nat) (t : Tr α) (k : Nat) (x : Option α), k + 1 < 2 ^ n → (Tr.put n t k x).get k = x
  | 0, t, k, x, h => by simp at h
  | n + 1, t, k, x, h => by
    have key : ∀ (l r : Tr α) (u : Option α), (cond (Nat.beq k 0) (Tr.nd l x r) (cond (Nat.beq (k % 2) 1) (.nd (Tr.put n l (k / 2) x) u r) (.nd l u (Tr.put n r (k / 2 - 1) x)))).get k = x := by
      intro l r u
      rw [Nat.pow_succ] at h
      by_cases hk0 : k = 0
      · subst hk0; rfl
      · rw [nbf hk0, cond_false]
        by_cases hk : k % 2 = 1
        · rw [nbt hk, cond_true, get1 _ _ _ hk]
          exact put_eq n l _ x (by omega)
        · rw [nbf hk, cond_false, get2 _ _ _ hk0 hk]
          exact put_eq n r _ x (by omega)
    cases t with
    | lf => rw [put_lf]; exact key .lf .lf none
    | nd l u r => rw [put_nd]; exact key l r u

theorem hasN_iff {l : List Nat} {k : Nat} : hasN l k = true ↔ k ∈ l := by
  unfold hasN
  rw [List.any_eq_true]
  constructor
  · rintro ⟨x, hx, h⟩
    rw [beq_iff] at h
    subst h; exact hx
  · exact fun h => ⟨k, h, beq_iff.2 rfl⟩
theorem mem_range : ∀ (n lo k : Nat), k ∈ rangeN lo n ↔ lo ≤ k ∧ k < lo + n
  | 0, lo, k => by simp [rangeN]
  | n + 1, lo, k => by
    simp only [rangeN, List.mem_cons, mem_range n]
    omega

/-! Parts of states. -/
theorem sub_blk {σ : St} {rd R : List Nat} {lo id : Nat} {ora : List Bool} {cs : List EV} (h : (sub σ rd R lo ora).blk id = some cs) : σ.blk id = some cs := by
  have : ∀ (R : List Nat), (subBl σ R).get id = some cs → σ.blk id = some cs := by
    intro R
    induction R with
    | nil => intro h; cases h
    | cons x R ih =>
      intro h
      rcases get_put 40 _ x _ id cs h with ⟨rfl, h⟩ | ⟨_, h⟩
      · exact h
      · exact ih h
  exact this R h
theorem sub_slot {σ : St} {rd R : List Nat} {lo s : Nat} {ora : List Bool} {x : EV} (h : (sub σ rd R lo ora).sl.get s = some x) : σ.sl.get s = some x := by
  have : ∀ (R : List Nat), (subSl σ R).get s = some x → σ.sl.get s = some x := by
    intro R
    induction R with
    | nil => intro h; cases h
    | cons y R ih =>
      intro h
      rcases get_put 20 _ y _ s x h with ⟨rfl, h⟩ | ⟨_, h⟩
      · exact h
      · exact ih h
  exact this rd h
theorem sub_congr {σ σ2 : St} {rd R : List Nat} {lo : Nat} {ora : List Bool} (h1 : ∀ s ∈ rd, σ.sl.get s = σ2.sl.get s) (h2 : ∀ id ∈ R, σ.blk id = σ2.blk id) (hn : σ.nt = σ2.nt) : sub σ rd R lo ora = sub σ2 rd R lo ora := by
  have a1 : subSl σ rd = subSl σ2 rd := by
    induction rd with
    | nil => rfl
    | cons s rd ih =>
      simp only [subSl]
      rw [ih fun s hs => h1 s (List.mem_cons_of_mem _ hs), h1 s (List.mem_cons_self ..)]
  have a2 : subBl σ R = subBl σ2 R := by
    induction R with
    | nil => rfl
    | cons s rd ih =>
      simp only [subBl]
      rw [ih fun s hs => h2 s (List.mem_cons_of_mem _ hs), h2 s (List.mem_cons_self ..)]
  unfold sub
  rw [a1, a2, hn]

/-! Entries. -/
structure En where
  o : Oper
  fp : Fp
  τ : St
  ora : List Bool
noncomputable def En.W (e : En) : List Nat := e.τ.tch ++ rangeN e.fp.lo (e.fp.hi - e.fp.lo)
noncomputable def En.put (e : En) (σ : St) : St := { merge σ e.τ e.fp.lo e.fp.hi e.o.dst with cnt := e.τ.cnt, ora := e.τ.ora, owe := e.τ.owe ++ σ.owe }
noncomputable def foldE (σ : St) (L : List En) : St := L.foldl (fun σ e => e.put σ) σ
/-- Small numbers. -/
def En.small (e : En) : Prop := (∀ d, e.o.dst = some d → d < 1000000) ∧ (∀ id ∈ e.τ.tch, id < e.τ.cnt) ∧ e.τ.cnt < 1000000000000 ∧ e.fp.hi = e.τ.cnt ∧ e.fp.lo ≤ e.fp.hi

theorem p20 : 2 ^ 20 = 1048576 := rfl
theorem p40 : 2 ^ 40 = 1099511627776 := rfl

theorem copy_get (τ : St) : ∀ (l : List Nat) (b : Tr (List EV)) (id : Nat), (∀ k ∈ l, k < 1000000000000) → (copyBl τ l b).get id = if id ∈ l then τ.blk id else b.get id
  | [], b, id, _ => rfl
  | k :: l, b, id, h => by
    have hk := h k (List.mem_cons_self ..)
    unfold copyBl
    rw [copy_get τ l _ id fun j hj => h j (List.mem_cons_of_mem _ hj)]
    by_cases h1 : id ∈ l
    · rw [if_pos h1, if_pos (List.mem_cons_of_mem _ h1)]
    · rw [if_neg h1]
      by_cases h2 : id = k
      · subst h2
        rw [if_pos (List.mem_cons_self ..), put_eq 40 _ _ _ (by rw [p40]; omega)]
      · rw [if_neg (by simp [h1, h2]), put_ne 40 _ _ _ _ (by rw [p40]; omega) h2]

theorem En.W_lt {e : En} (h : e.small) : ∀ k ∈ e.W, k < e.τ.cnt := by
  intro k hk
  rcases List.mem_append.1 hk with h1 | h1
  · exact h.2.1 k h1
  · have := (mem_range _ _ _).1 h1
    have := h.2.2.2
    omega
theorem put_blk {e : En} (h : e.small) (σ : St) (id : Nat) : (e.put σ).blk id = if id ∈ e.W then e.τ.blk id else σ.blk id :=
  copy_get e.τ e.W σ.bl id fun k hk => Nat.lt_trans (En.W_lt h k hk) h.2.2.1
theorem put_sl {e : En} (h : e.small) (σ : St) (s : Nat) : (e.put σ).sl.get s = if e.o.dst = some s then e.τ.sl.get s else σ.sl.get s := by
  show (mergeSl σ e.τ e.o.dst).get s = _
  unfold mergeSl
  cases hd : e.o.dst with
  | none => rw [if_neg (by simp)]
  | some d =>
    have h3 : @LT.lt Nat _ d 1000000 := h.1 d hd
    by_cases e1 : s = d
    · subst e1
      rw [if_pos rfl]
      exact put_eq 20 _ _ _ (by rw [p20]; omega)
    · rw [if_neg (by simpa using fun h => e1 (Eq.symm h))]
      exact put_ne 20 _ _ _ _ (by rw [p20]; omega) e1

theorem fold_nt : ∀ (L : List En) (σ : St), (foldE σ L).nt = σ.nt
  | [], σ => rfl
  | e :: L, σ => fold_nt L (e.put σ)
theorem fold_owe : ∀ (L : List En) (σ : St) (o : Owe), (o ∈ σ.owe ∨ ∃ e ∈ L, o ∈ e.τ.owe) → o ∈ (foldE σ L).owe
  | [], σ, o, h => by
    rcases h with h | ⟨e, h, _⟩
    · exact h
    · cases h
  | e :: L, σ, o, h => by
    refine fold_owe L (e.put σ) o ?_
    rcases h with h | ⟨x, hx, h⟩
    · exact .inl (List.mem_append.2 (.inr h))
    · rcases List.mem_cons.1 hx with rfl | hx
      · exact .inl (List.mem_append.2 (.inl h))
      · exact .inr ⟨x, hx, h⟩
theorem fold_tch : ∀ (L : List En) (σ : St) (id : Nat), id ∈ (foldE σ L).tch ↔ id ∈ σ.tch ∨ ∃ e ∈ L, id ∈ e.τ.tch
  | [], σ, id => by simp [foldE]
  | e :: L, σ, id => by
    have h := fold_tch L (e.put σ) id
    have h1 : id ∈ (e.put σ).tch ↔ id ∈ e.τ.tch ∨ id ∈ σ.tch := List.mem_append
    simp only [foldE, List.foldl_cons] at h ⊢
    rw [h, h1]
    simp only [List.mem_cons, exists_eq_or_imp]
    constructor
    · rintro ((h | h) | h)
      · exact .inr (.inl h)
      · exact .inl h
      · exact .inr (.inr h)
    · rintro (h | h | h)
      · exact .inl (.inr h)
      · exact .inl (.inl h)
      · exact .inr h
theorem fold_append (L M : List En) (σ : St) : foldE σ (L ++ M) = foldE (foldE σ L) M := List.foldl_append ..

/-- Lookups in folds: entries that don't write may be left out. -/
theorem fold_sl {p q : En → Bool} {s : Nat} : ∀ (L : List En) (σ1 σ2 : St), (∀ e ∈ L, e.small) → (∀ e ∈ L, p e ≠ q e → e.o.dst ≠ some s) → σ1.sl.get s = σ2.sl.get s → (foldE σ1 (L.filter p)).sl.get s = (foldE σ2 (L.filter q)).sl.get s
  | [], σ1, σ2, _, _, h => h
  | e :: L, σ1, σ2, hs, hw, h => by
    have ih := fold_sl (p := p) (q := q) (s := s) L
    have hs' : ∀ e ∈ L, e.small := fun x hx => hs x (List.mem_cons_of_mem _ hx)
    have hw' : ∀ e ∈ L, p e ≠ q e → e.o.dst ≠ some s := fun x hx => hw x (List.mem_cons_of_mem _ hx)
    have he := hs e (List.mem_cons_self ..)
    have hwe := hw e (List.mem_cons_self ..)
    rw [List.filter_cons, List.filter_cons]
    cases hp : p e <;> cases hq : q e
    · exact ih σ1 σ2 hs' hw' h
    · refine ih σ1 (e.put σ2) hs' hw' ?_
      rw [put_sl he, if_neg (hwe (by rw [hp, hq]; simp))]
      exact h
    · refine ih (e.put σ1) σ2 hs' hw' ?_
      rw [put_sl he, if_neg (hwe (by rw [hp, hq]; simp))]
      exact h
    · refine ih (e.put σ1) (e.put σ2) hs' hw' ?_
      rw [put_sl he, put_sl he, h]
theorem fold_blk {p q : En → Bool} {id : Nat} : ∀ (L : List En) (σ1 σ2 : St), (∀ e ∈ L, e.small) → (∀ e ∈ L, p e ≠ q e → id ∉ e.W) → σ1.blk id = σ2.blk id → (foldE σ1 (L.filter p)).blk id = (foldE σ2 (L.filter q)).blk id
  | [], σ1, σ2, _, _, h => h
  | e :: L, σ1, σ2, hs, hw, h => by
    have ih := fold_blk (p := p) (q := q) (id := id) L
    have hs' : ∀ e ∈ L, e.small := fun x hx => hs x (List.mem_cons_of_mem _ hx)
    have hw' : ∀ e ∈ L, p e ≠ q e → id ∉ e.W := fun x hx => hw x (List.mem_cons_of_mem _ hx)
    have he := hs e (List.mem_cons_self ..)
    have hwe := hw e (List.mem_cons_self ..)
    rw [List.filter_cons, List.filter_cons]
    cases hp : p e <;> cases hq : q e
    · exact ih σ1 σ2 hs' hw' h
    · refine ih σ1 (e.put σ2) hs' hw' ?_
      rw [put_blk he, if_neg (hwe (by rw [hp, hq]; simp))]
      exact h
    · refine ih (e.put σ1) σ2 hs' hw' ?_
      rw [put_blk he, if_neg (hwe (by rw [hp, hq]; simp))]
      exact h
    · refine ih (e.put σ1) (e.put σ2) hs' hw' ?_
      rw [put_blk he, put_blk he, h]

/-! What a run in order has shown. -/
variable {cal : Nat → List EV → St → R}
structure EnOk (P : Program) (cal : Nat → List EV → St → R) (ops : Array Oper) (i : Nat) (σ : St) (e : En) : Prop where
  ix : e.fp.i = i
  rd : e.fp.rd = readsO ops e.o
  dst : e.fp.dst = e.o.dst
  W : e.fp.W = e.τ.tch
  lo : e.fp.lo = σ.cnt
  hi : e.fp.hi = e.τ.cnt
  run : guardX P cal ops e.o (sub σ e.fp.rd e.fp.R e.fp.lo e.ora) = some e.τ
  small : e.small

theorem draw_run (hC : CalOk P cal) {ops : Array Oper} : ∀ (l : List Oper) (i : Nat) (fps : List Fp) (σ σ' : St), drawX P cal ops l i fps σ = some σ' →
    ∃ L : List En, L.map En.o = l ∧ foldE σ L = σ' ∧ (∀ k e, L[k]? = some e → EnOk P cal ops (i + k) (foldE σ (L.take k)) e ∧ ∀ p ∈ fps, anc ops ops.size (i + k) p.i = true ∨ indep p e.fp = true) ∧
      (∀ k k' e e', k < k' → L[k]? = some e → L[k']? = some e' → anc ops ops.size (i + k') (i + k) = true ∨ indep e.fp e'.fp = true)
  | [], i, fps, σ, σ', h => by
    injection h with h
    subst h
    exact ⟨[], rfl, rfl, fun k e h => by simp at h, fun k k' e e' _ h => by simp at h⟩
  | o :: l, i, fps, σ, σ', h => by
    unfold drawX at h
    split at h <;> try contradiction
    rename_i τ hτ
    obtain ⟨hb, h⟩ := cndO h
    simp only [Bool.and_eq_true] at hb
    obtain ⟨hsm, hall⟩ := hb
    let e : En := ⟨o, ⟨i, readsO ops o, o.dst, looks ops o σ, τ.tch, σ.cnt, τ.cnt⟩, τ, σ.ora⟩
    have hlo : σ.cnt ≤ τ.cnt := (mono_guard hC hτ).cnt
    have hsmall : e.small := by
      unfold smallO at hsm
      simp only [Bool.and_eq_true, List.all_eq_true, Nat.blt_eq] at hsm
      refine ⟨fun d hd => ?_, hsm.2.1, hsm.2.2, rfl, hlo⟩
      have h1 := hsm.1
      have hd : o.dst = some d := hd
      rw [hd] at h1
      simpa using h1
    have he : EnOk P cal ops i σ e := ⟨rfl, rfl, rfl, rfl, rfl, rfl, hτ, hsmall⟩
    obtain ⟨L, h1, h2, h3, h4⟩ := draw_run hC l (i + 1) (e.fp :: fps) (e.put σ) σ' h
    refine ⟨e :: L, by rw [List.map_cons, h1], h2, fun k x hx => ?_, fun k k' x x' hk hx hx' => ?_⟩
    · cases k with
      | zero =>
        simp only [List.getElem?_cons_zero, Option.some.injEq] at hx
        subst hx
        refine ⟨he, fun p hp => ?_⟩
        have := (List.all_eq_true.1 hall) p hp
        simpa using this
      | succ k =>
        simp only [List.getElem?_cons_succ] at hx
        obtain ⟨a, b⟩ := h3 k x hx
        rw [show i + 1 + k = i + (k + 1) by omega] at a b
        exact ⟨a, fun p hp => b p (List.mem_cons_of_mem _ hp)⟩
    · cases k' with
      | zero => omega
      | succ k' =>
        simp only [List.getElem?_cons_succ] at hx'
        cases k with
        | zero =>
          simp only [List.getElem?_cons_zero, Option.some.injEq] at hx
          subst hx
          have := (h3 k' x' hx').2 e.fp (List.mem_cons_self ..)
          rw [show i + 1 + k' = i + (k' + 1) by omega] at this
          exact this
        | succ k =>
          simp only [List.getElem?_cons_succ] at hx
          have := h4 k k' x x' (by omega) hx hx'
          rw [show i + 1 + k' = i + (k' + 1) by omega, show i + 1 + k = i + (k + 1) by omega] at this
          exact this

theorem fold_cnt {ops : Array Oper} {L : List En} {σ : St} (h : ∀ k e, L[k]? = some e → EnOk P cal ops k (foldE σ (L.take k)) e) : ∀ k, k ≤ L.length → σ.cnt ≤ (foldE σ (L.take k)).cnt ∧ ∀ j, j ≤ k → (foldE σ (L.take j)).cnt ≤ (foldE σ (L.take k)).cnt := by
  intro k
  induction k with
  | zero => exact fun _ => ⟨Nat.le_refl _, fun j hj => by rw [Nat.le_zero.1 hj]; exact Nat.le_refl _⟩
  | succ k ih =>
    intro hk
    obtain ⟨ih1, ih2⟩ := ih (by omega)
    have he := h k L[k] (List.getElem?_eq_getElem (by omega))
    have h1 : foldE σ (L.take (k + 1)) = (L[k]).put (foldE σ (L.take k)) := by
      rw [List.take_succ_eq_append_getElem (by omega), fold_append]
      rfl
    have h2 : (foldE σ (L.take (k + 1))).cnt = (L[k]).fp.hi := by rw [h1, he.hi]; rfl
    have h3 := he.small.2.2.2.2
    rw [he.lo] at h3
    refine ⟨by omega, fun j hj => ?_⟩
    by_cases e : j = k + 1
    · rw [e]; exact Nat.le_refl _
    · have := ih2 j (by omega)
      omega

end Go.Xe

/- Regions whose order is drawn: one operation. -/
namespace Go.Xe
open Go.Ab (tk TK WF Keeps Row mkV Does beq_iff exists_min leftR left_set getD_tf)
variable {P : Program} {cal : Nat → List EV → St → R}

section
variable {w0 : World} {ι ι0 ι2 : Loc} {σ0 τ s σ1 : St} {a : Act} {w w' w2 : World} {e : En} {ev : EV} {v : Value}

/-- States that look alike. -/
structure Alike (σ1 σ2 : St) : Prop where
  blk : ∀ id, σ2.blk id = σ1.blk id
  sl : ∀ k, σ2.sl.get k = σ1.sl.get k
  cnt : σ2.cnt = σ1.cnt
  nt : σ2.nt = σ1.nt
  tch : ∀ id, id ∈ σ2.tch ↔ id ∈ σ1.tch
  owe : σ2.owe = σ1.owe
theorem Stp.look {σ2 : St} (h : Stp w0 ι σ0 w ι2 σ1 w') (k : Alike σ1 σ2) : Stp w0 ι σ0 w ι2 σ2 w' := by
  refine ⟨⟨fun id cs hi => h.mem.blk id cs (by rw [← k.blk]; exact hi), fun id id' cs cs' b o b' o' h1 h2 => h.mem.inj id id' cs cs' b o b' o' (by rw [← k.blk]; exact h1) (by rw [← k.blk]; exact h2), h.mem.own, h.mem.keep⟩, h.agree, fun id p hp => ?_, by rw [k.cnt]; exact h.cnt, fun id hi => (k.tch id).2 (h.tch id hi), h.ext, fun b hb hf => h.frame b hb fun id p hi hp => hf id p ((k.tch id).2 hi) hp, by rw [k.owe]; exact h.owe, fun id hi => h.tin id ((k.tch id).1 hi), fun id cs hi => by rw [k.cnt]; exact h.bin id cs (by rw [← k.blk]; exact hi)⟩
  rw [k.cnt]
  rcases h.dom id p hp with h1 | ⟨h1, h2, h3⟩
  · exact .inl h1
  · refine .inr ⟨h1, h2, ?_⟩
    rcases h3 with h3 | ⟨i0, q, a, b, c⟩
    · exact .inl h3
    · exact .inr ⟨i0, q, (k.tch i0).2 a, b, c⟩
theorem Stand.look {σ2 : St} (h : Stand w0 ι σ1 a w) (k : Alike σ1 σ2) : Stand w0 ι σ2 a w :=
  ⟨⟨fun id cs hi => h.mem.blk id cs (by rw [← k.blk]; exact hi), fun id id' cs cs' b o b' o' h1 h2 => h.mem.inj id id' cs cs' b o b' o' (by rw [← k.blk]; exact h1) (by rw [← k.blk]; exact h2), h.mem.own, h.mem.keep⟩, fun s => by
    unfold St.slot
    rw [k.sl]
    exact h.sl s, by rw [k.nt]; exact h.nt, h.df⟩

/-- What one operation did to its part, put into the whole. -/
theorem merge_ok (J : Stp w0 ι0 σ0 w ι τ w') (S : Stand w0 ι τ a w') (hsb : ∀ id cs, s.blk id = some cs → τ.blk id = some cs) (hst : s.tch = []) (hsc : s.cnt = e.fp.lo) (hsn : s.nt = τ.nt) (K : Stp w0 ι s w' ι2 σ1 w2) (hm : MonoS s σ1) (hv : VR ι2 w2 ev v)
    (he : e.τ = σ1.setSlot e.o.dst ev) (hsm : e.small) (hnone : ∀ id, e.fp.lo ≤ id → id < e.fp.hi → ι id = none) (hlo : σ0.cnt ≤ e.fp.lo) (hhi : e.fp.hi ≤ τ.cnt) :
    Stp w0 ι0 σ0 w ι2 { e.put τ with cnt := τ.cnt, owe := τ.owe } w2 ∧ Stand w0 ι2 { e.put τ with cnt := τ.cnt, owe := τ.owe } (a.put e.o.dst v) w2 := by
  obtain ⟨t1, t2, t3, t4, t5⟩ := setSlot_st (σ := σ1) e.o.dst ev
  have e1 : ∀ id, e.τ.blk id = σ1.blk id := fun id => by unfold St.blk; rw [he, t1]
  have ecnt : e.fp.hi = σ1.cnt := by rw [hsm.2.2.2.1, he, t2]
  have etch : e.τ.tch = σ1.tch := by rw [he, t3]
  have mblk : ∀ id, ({ e.put τ with cnt := τ.cnt, owe := τ.owe } : St).blk id = if id ∈ e.W then σ1.blk id else τ.blk id := fun id => by rw [← e1]; exact put_blk hsm τ id
  have mtch : ({ e.put τ with cnt := τ.cnt, owe := τ.owe } : St).tch = σ1.tch ++ τ.tch := by show e.τ.tch ++ τ.tch = _; rw [etch]
  have hW : ∀ id, id ∈ e.W ↔ id ∈ σ1.tch ∨ (e.fp.lo ≤ id ∧ id < e.fp.hi) := fun id => by
    unfold En.W
    rw [List.mem_append, mem_range, etch]
    have := hsm.2.2.2.2
    rw [show e.fp.lo + (e.fp.hi - e.fp.lo) = e.fp.hi by omega]
  have htl : ∀ id, id ∈ σ1.tch → id < e.fp.hi := fun id hi => by rw [hsm.2.2.2.1]; exact hsm.2.1 id (by rw [etch]; exact hi)
  have htouch : ∀ id p, id ∈ σ1.tch → ι id = some p → ∃ cs, τ.blk id = some cs := fun id p hi hp => by
    rcases K.tin id hi with h1 | ⟨cs, h1⟩ | h1
    · rw [hst] at h1; cases h1
    · exact ⟨cs, hsb _ _ h1⟩
    · rw [hsc] at h1
      rw [hnone id h1 (htl id hi)] at hp
      cases hp
  have hstay : ∀ id cs, id ∉ e.W → τ.blk id = some cs → ∀ b o, ι id = some (b, o) → w2.heap[b]? = w'.heap[b]? := fun id cs hi hc b o hb => by
    refine K.frame b (J.mem.own _ _ _ hb).2 fun i0 p h0 hp e => ?_
    obtain ⟨cs0, hc0⟩ := htouch i0 p h0 hp
    have hne : i0 ≠ id := fun e => hi ((hW id).2 (.inl (e ▸ h0)))
    exact J.mem.inj i0 id cs0 cs p.1 p.2 b o hc0 hc hne hp hb e
  have hnew : ∀ id cs, id ∈ e.W → σ1.blk id = some cs → (∃ cs', τ.blk id = some cs') ∨ (e.fp.lo ≤ id ∧ id < e.fp.hi) := fun id cs hi hc => by
    rcases K.bin id cs hc with ⟨cs', h1⟩ | ⟨h1, h2⟩
    · exact .inl ⟨cs', hsb _ _ h1⟩
    · exact .inr ⟨by rw [← hsc]; exact h1, by rw [ecnt]; exact h2⟩
  have hmix : ∀ id id' cs cs' b o b' o', id ∈ e.W → id' ∉ e.W → σ1.blk id = some cs → τ.blk id' = some cs' → ι2 id = some (b, o) → ι id' = some (b', o') → b ≠ b' := by
    intro id id' cs cs' b o b' o' hi hi' hc hc' hb hb'
    have hne : id ≠ id' := fun e => hi' (e ▸ hi)
    have hold : ∀ cs2, τ.blk id = some cs2 → ι id = some (b, o) → b ≠ b' := fun cs2 h1 h2 => J.mem.inj id id' cs2 cs' b o b' o' h1 hc' hne h2 hb'
    rcases K.dom id (b, o) hb with h1 | ⟨h1, h2, h3⟩
    · rcases hnew id cs hi hc with ⟨cs2, h2⟩ | ⟨h2, h3⟩
      · exact hold cs2 h2 h1
      · rw [hnone id h2 h3] at h1; cases h1
    · rcases h3 with h3 | ⟨i0, q, a1, a2, a3⟩
      · have := (J.mem.own _ _ _ hb').2
        intro e
        simp only at h3
        omega
      · obtain ⟨cs0, hc0⟩ := htouch i0 q a1 a2
        have hne0 : i0 ≠ id' := fun e => hi' ((hW id').2 (.inl (e ▸ a1)))
        have := J.mem.inj i0 id' cs0 cs' q.1 q.2 b' o' hc0 hc' hne0 a2 hb'
        rw [a3] at this
        exact this
  have hmem : Mem w0 ι2 { e.put τ with cnt := τ.cnt, owe := τ.owe } w2 := by
    refine ⟨fun id cs hc => ?_, fun id id' cs cs' b o b' o' hc hc' hne hb hb' => ?_, K.mem.own, K.mem.keep⟩
    · rw [mblk] at hc
      by_cases hi : id ∈ e.W
      · rw [if_pos hi] at hc
        exact K.mem.blk id cs hc
      · rw [if_neg hi] at hc
        obtain ⟨b, o, c, E, g1, g2, g3, g4⟩ := J.mem.blk id cs hc
        exact ⟨b, o, c, E, K.agree _ _ g1, by rw [hstay id cs hi hc b o g1]; exact g2, g3, fun i hi => ⟨(g4 i hi).1.mono K.agree K.ext, (g4 i hi).2⟩⟩
    · have hback : ∀ id cs b o, id ∉ e.W → τ.blk id = some cs → ι2 id = some (b, o) → ι id = some (b, o) := fun id cs b o hi hc hb => by
        obtain ⟨b1, o1, c, E, g1, _⟩ := J.mem.blk id cs hc
        have := K.agree _ _ g1
        rw [hb] at this
        injection this with this
        rw [this]; exact g1
      rw [mblk] at hc hc'
      by_cases hi : id ∈ e.W
      · rw [if_pos hi] at hc
        by_cases hi' : id' ∈ e.W
        · rw [if_pos hi'] at hc'
          exact K.mem.inj id id' cs cs' b o b' o' hc hc' hne hb hb'
        · rw [if_neg hi'] at hc'
          exact hmix id id' cs cs' b o b' o' hi hi' hc hc' hb (hback _ _ _ _ hi' hc' hb')
      · rw [if_neg hi] at hc
        by_cases hi' : id' ∈ e.W
        · rw [if_pos hi'] at hc'
          exact (hmix id' id cs' cs b' o' b o hi' hi hc' hc hb' (hback _ _ _ _ hi hc hb)).symm
        · rw [if_neg hi'] at hc'
          exact J.mem.inj id id' cs cs' b o b' o' hc hc' hne (hback _ _ _ _ hi hc hb) (hback _ _ _ _ hi' hc' hb')
  refine ⟨⟨hmem, fun id p hp => K.agree _ _ (J.agree _ _ hp), fun id p hp => ?_, J.cnt, fun id hi => by rw [mtch]; exact List.mem_append.2 (.inr (J.tch id hi)), J.ext.trans K.ext, fun b hb hf => ?_, J.owe, fun id hi => ?_, fun id cs hc => ?_⟩, hmem, fun k => ?_, ?_, ?_⟩
  · rcases K.dom id p hp with h1 | ⟨h1, h2, h3⟩
    · rcases J.dom id p h1 with g1 | ⟨g1, g2, g3⟩
      · exact .inl g1
      · refine .inr ⟨g1, g2, ?_⟩
        rcases g3 with g3 | ⟨i0, q, a, b, c⟩
        · exact .inl g3
        · exact .inr ⟨i0, q, by rw [mtch]; exact List.mem_append.2 (.inr a), b, c⟩
    · refine .inr ⟨by omega, by show id < τ.cnt; omega, ?_⟩
      rcases h3 with h3 | ⟨i0, q, a, b, c⟩
      · exact .inl (Nat.le_trans J.ext.size h3)
      · rcases J.dom i0 q b with g1 | ⟨_, _, g3⟩
        · exact .inr ⟨i0, q, by rw [mtch]; exact List.mem_append.2 (.inl a), g1, c⟩
        · rcases g3 with g3 | ⟨i1, q1, a1, b1, c1⟩
          · exact .inl (c ▸ g3)
          · exact .inr ⟨i1, q1, by rw [mtch]; exact List.mem_append.2 (.inr a1), b1, c1.trans c⟩
  · rw [mtch] at hf
    rw [K.frame b (Nat.lt_of_lt_of_le hb J.ext.size) fun id p hid hp => ?_, J.frame b hb fun id p hid hp => hf id p (List.mem_append.2 (.inr hid)) hp]
    rcases J.dom id p hp with g1 | ⟨_, _, g3⟩
    · exact hf id p (List.mem_append.2 (.inl hid)) g1
    · rcases g3 with g3 | ⟨i1, q1, a1, b1, c1⟩
      · omega
      · rw [← c1]
        exact hf i1 q1 (List.mem_append.2 (.inr a1)) b1
  · rw [mtch] at hi
    rcases List.mem_append.1 hi with h1 | h1
    · rcases K.tin id h1 with h2 | ⟨cs, h2⟩ | h2
      · rw [hst] at h2; cases h2
      · rcases J.bin id cs (hsb _ _ h2) with h3 | ⟨h3, _⟩
        · exact .inr (.inl h3)
        · exact .inr (.inr h3)
      · exact .inr (.inr (by omega))
    · exact J.tin id h1
  · rw [mblk] at hc
    by_cases hi : id ∈ e.W
    · rw [if_pos hi] at hc
      rcases hnew id cs hi hc with ⟨cs', h1⟩ | ⟨h1, h2⟩
      · exact J.bin id cs' h1
      · exact .inr ⟨by omega, by show id < τ.cnt; omega⟩
    · rw [if_neg hi] at hc
      exact J.bin id cs hc
  · unfold St.slot
    rw [show ({ e.put τ with cnt := τ.cnt, owe := τ.owe } : St).sl = (e.put τ).sl from rfl, put_sl hsm]
    by_cases hk : e.o.dst = some k
    · rw [if_pos hk, he, hk]
      cases hg : (σ1.setSlot (some k) ev).sl.get k with
      | none => exact .any
      | some x =>
        rcases get_put 20 σ1.sl k _ k x hg with ⟨_, h⟩ | ⟨h1, _⟩
        · obtain ⟨h3, h4⟩ := cndT h
          subst h4
          have : k < a.tmps.size := Nat.lt_of_lt_of_le (by simpa using h3) (by rw [hm.nt, hsn]; exact S.nt)
          simp only [Option.getD_some, Act.put, Array.getD_eq_getD_getElem?, Array.getElem?_setIfInBounds, if_true, if_pos this]
          exact hv
        · exact absurd rfl h1
    · rw [if_neg hk]
      have h0 := (S.sl k).mono K.agree K.ext
      have h1 : (a.put e.o.dst v).tmps.getD k undef = a.tmps.getD k undef := by
        cases hd : e.o.dst with
        | none => rfl
        | some d =>
          have : ¬ d = k := fun h => hk (by rw [hd, h])
          simp only [Act.put, Array.getD_eq_getD_getElem?, Array.getElem?_setIfInBounds, if_neg this]
      rw [h1]
      exact h0
  · show τ.nt ≤ _
    have := S.nt
    cases e.o.dst
    · exact this
    · simpa [Act.put] using this
  · cases e.o.dst <;> exact S.df

end
end Go.Xe

/- Regions whose order is drawn: any order. -/
namespace Go.Xe
open Go.Ab (tk TK WF Keeps Row mkV Does beq_iff exists_min leftR left_set getD_tf ClosedL)
variable {P : Program} {cal : Nat → List EV → St → R}

structure IndepP (a b : Fp) : Prop where
  d1 : dstIn a.dst b.rd = false
  d2 : dstIn b.dst a.rd = false
  d3 : dstIn a.dst b.dst.toList = false
  w1 : disj a.W b.R = true
  w2 : disj b.W a.R = true
  w3 : disj a.W b.W = true
  r1 : outR b.R a.lo a.hi = true
  r2 : outR a.R b.lo b.hi = true
  r3 : outR b.W a.lo a.hi = true
  r4 : outR a.W b.lo b.hi = true
theorem indep_p {a b : Fp} (h : indep a b = true) : IndepP a b := by
  unfold indep at h
  simp only [Bool.and_eq_true, Bool.not_eq_true'] at h
  obtain ⟨h1, h2, h3, h4, h5, h6, h7, h8, h9, h10⟩ := h
  exact ⟨h1, h2, h3, h4, h5, h6, h7, h8, h9, h10⟩
theorem disj_not {l m : List Nat} (h : disj l m = true) {x : Nat} (h1 : x ∈ l) (h2 : x ∈ m) : False := by
  have := List.all_eq_true.1 h x h1
  rw [hasN_iff.2 h2] at this
  cases this
theorem out_not {l : List Nat} {lo hi : Nat} (h : outR l lo hi = true) {x : Nat} (h1 : x ∈ l) (h2 : lo ≤ x) (h3 : x < hi) : False := by
  have := List.all_eq_true.1 h x h1
  rw [Nat.ble_eq_true_of_le h2, Eq.mpr Nat.blt_eq h3] at this
  cases this
theorem dst_not {d : Option Nat} {l : List Nat} (h : dstIn d l = false) {x : Nat} (h1 : x ∈ l) : d ≠ some x := by
  rintro rfl
  have : hasN l x = false := h
  rw [hasN_iff.2 h1] at this
  cases this

section
variable {w0 : World} {ι0 : Loc} {σ0 : St} {w : World} {ops : Array Oper} {L : List En}

/-- What the run in order has shown. -/
structure RunOk (P : Program) (cal : Nat → List EV → St → R) (ops : Array Oper) (σ0 : St) (L : List En) : Prop where
  all : L.map En.o = ops.toList
  ent : ∀ k e, L[k]? = some e → EnOk P cal ops k (foldE σ0 (L.take k)) e
  pair : ∀ k k' e e', k < k' → L[k]? = some e → L[k']? = some e' → anc ops ops.size k' k = true ∨ indep e.fp e'.fp = true

theorem RunOk.sm (H : RunOk P cal ops σ0 L) : ∀ e ∈ L, e.small := fun e he => by
  obtain ⟨k, hk⟩ := List.mem_iff_getElem?.1 he
  exact (H.ent k e hk).small
theorem RunOk.len (H : RunOk P cal ops σ0 L) : L.length = ops.size := by
  have := congrArg List.length H.all
  simpa using this
/-- Numbers of new blocks. -/
theorem RunOk.rng (H : RunOk P cal ops σ0 L) {k k' : Nat} {e e' : En} (hk : k < k') (h : L[k]? = some e) (h' : L[k']? = some e') : e.fp.hi ≤ e'.fp.lo := by
  have hl := (List.getElem?_eq_some_iff.1 h').1
  have hl2 := (List.getElem?_eq_some_iff.1 h).1
  have h1 := (fold_cnt H.ent k' (by omega)).2 (k + 1) (by omega)
  have h2 : foldE σ0 (L.take (k + 1)) = e.put (foldE σ0 (L.take k)) := by
    rw [List.take_succ_eq_append_getElem hl2, fold_append, (List.getElem?_eq_some_iff.1 h).2]
    rfl
  rw [h2] at h1
  rw [(H.ent k' e' h').lo, (H.ent k e h).hi]
  exact h1
theorem RunOk.rng0 (H : RunOk P cal ops σ0 L) {k : Nat} {e : En} (h : L[k]? = some e) : σ0.cnt ≤ e.fp.lo ∧ e.fp.lo ≤ e.fp.hi ∧ e.fp.hi ≤ (foldE σ0 L).cnt := by
  have hl := (List.getElem?_eq_some_iff.1 h).1
  have h1 := (fold_cnt H.ent k (by omega)).1
  have h2 : foldE σ0 (L.take (k + 1)) = e.put (foldE σ0 (L.take k)) := by
    rw [List.take_succ_eq_append_getElem hl, fold_append, (List.getElem?_eq_some_iff.1 h).2]
    rfl
  have h3 := (fold_cnt H.ent L.length (Nat.le_refl _)).2 (k + 1) (by omega)
  rw [h2, List.take_length] at h3
  refine ⟨by rw [(H.ent k e h).lo]; exact h1, (H.ent k e h).small.2.2.2.2, ?_⟩
  rw [(H.ent k e h).hi]
  exact h3

/-- Apart entries write apart. -/
theorem RunOk.apart (H : RunOk P cal ops σ0 L) {k k' : Nat} {e e' : En} (hk : k < k') (h : L[k]? = some e) (h' : L[k']? = some e') (hi : indep e.fp e'.fp = true) : (∀ s, e.o.dst = some s → e'.o.dst ≠ some s) ∧ (∀ id, id ∈ e.W → id ∉ e'.W) := by
  have I := indep_p hi
  have E := H.ent k e h
  have E' := H.ent k' e' h'
  have hr := H.rng hk h h'
  have hl := E.small.2.2.2.2
  have hl' := E'.small.2.2.2.2
  refine ⟨fun s hs hs' => ?_, fun id h1 h2 => ?_⟩
  · have := I.d3
    rw [E.dst, E'.dst, hs, hs'] at this
    simp only [dstIn, hasN, Option.toList, List.any_cons, List.any_nil, Bool.or_false] at this
    rw [nbt rfl] at this
    cases this
  · unfold En.W at h1 h2
    rw [List.mem_append, mem_range, show e.fp.lo + (e.fp.hi - e.fp.lo) = e.fp.hi by omega] at h1
    rw [List.mem_append, mem_range, show e'.fp.lo + (e'.fp.hi - e'.fp.lo) = e'.fp.hi by omega] at h2
    rcases h1 with h1 | ⟨h1, h1'⟩
    · rcases h2 with h2 | ⟨h2, h2'⟩
      · exact disj_not I.w3 (by rw [E.W]; exact h1) (by rw [E'.W]; exact h2)
      · exact out_not I.r4 (by rw [E.W]; exact h1) h2 h2'
    · rcases h2 with h2 | ⟨h2, h2'⟩
      · exact out_not I.r3 (by rw [E'.W]; exact h2) h1 h1'
      · omega
/-- What an entry looks at, an apart one does not write. -/
theorem look_apart {e e' : En} {k k' : Nat} {σ σ' : St} (E : EnOk P cal ops k σ e) (E' : EnOk P cal ops k' σ' e') (I : dstIn e'.fp.dst e.fp.rd = false ∧ disj e'.fp.W e.fp.R = true ∧ outR e.fp.R e'.fp.lo e'.fp.hi = true) : (∀ s ∈ e.fp.rd, e'.o.dst ≠ some s) ∧ ∀ id ∈ e.fp.R, id ∉ e'.W := by
  obtain ⟨h1, h2, h3⟩ := I
  have hl' := E'.small.2.2.2.2
  refine ⟨fun s hs => by rw [← E'.dst]; exact dst_not h1 hs, fun id hid hw => ?_⟩
  unfold En.W at hw
  rw [List.mem_append, mem_range, show e'.fp.lo + (e'.fp.hi - e'.fp.lo) = e'.fp.hi by omega] at hw
  rcases hw with hw | ⟨h4, h5⟩
  · exact disj_not h2 (by rw [E'.W]; exact hw) hid
  · exact out_not h3 hid h4 h5

/-- The state when some are done. -/
noncomputable def stD (σ0 : St) (L : List En) (D : Nat → Bool) : St := { foldE σ0 (L.filter fun e => D e.fp.i) with cnt := (foldE σ0 L).cnt, owe := (foldE σ0 L).owe }

structure Jn (w0 : World) (ι0 : Loc) (σ0 : St) (w : World) (L : List En) (D : Nat → Bool) (ι : Loc) (a : Act) (w' : World) : Prop where
  stp : Stp w0 ι0 σ0 w ι (stD σ0 L D) w'
  stand : Stand w0 ι (stD σ0 L D) a w'
  dom : ∀ id p, ι id = some p → ι0 id = some p ∨ ∃ e ∈ L, D e.fp.i = true ∧ e.fp.lo ≤ id ∧ id < e.fp.hi

theorem split_at {i : Nat} {e : En} (h : L[i]? = some e) : L = L.take i ++ e :: L.drop (i + 1) := by
  have hl := (List.getElem?_eq_some_iff.1 h).1
  have := List.take_append_drop i L
  rw [List.drop_eq_getElem_cons hl, (List.getElem?_eq_some_iff.1 h).2] at this
  exact this.symm

theorem mem_take {k i : Nat} {e : En} (h : e ∈ L.take i) (hk : k = i) : ∃ j, j < k ∧ L[j]? = some e := by
  subst hk
  obtain ⟨j, hj⟩ := List.mem_iff_getElem?.1 h
  rw [List.getElem?_take] at hj
  split at hj
  · exact ⟨j, by assumption, hj⟩
  · cases hj
theorem mem_drop {i : Nat} {e : En} (h : e ∈ L.drop i) : ∃ j, i ≤ j ∧ L[j]? = some e := by
  obtain ⟨j, hj⟩ := List.mem_iff_getElem?.1 h
  rw [List.getElem?_drop] at hj
  exact ⟨i + j, by omega, hj⟩

/-- ONE MORE. -/
theorem one_more (W : WF P) (hC : CalOk P cal) (H : RunOk P cal ops σ0 L) (G : Good ι0 σ0 (foldE σ0 L)) {D D' : Nat → Bool} {i : Nat} {e : En} (hi : L[i]? = some e) (hD : D i = false) (hD' : ∀ j, D' j = (Nat.beq j i || D j))
    (hup : ∀ j, anc ops ops.size i j = true → D j = true) (hdn : ∀ j, j < ops.size → D j = true → anc ops ops.size j i = false) {ι : Loc} {a : Act} {w' : World} (J : Jn w0 ι0 σ0 w L D ι a w') :
    OneOk P ops e.o a w' fun v w2 => ∃ ι2, Jn w0 ι0 σ0 w L D' ι2 (a.put e.o.dst v) w2 := by
  have E := H.ent i e hi
  have hsm := H.sm
  have hlt := (List.getElem?_eq_some_iff.1 hi).1
  have hlen := H.len
  have hix : ∀ (j : Nat) (x : En), L[j]? = some x → x.fp.i = j := fun j x hx => (H.ent j x hx).ix
  have hsplit := split_at hi
  -- those ahead and those behind
  have hpre : ∀ x ∈ L.take i, ∃ j, j < i ∧ L[j]? = some x ∧ (D x.fp.i = false → indep x.fp e.fp = true) := fun x hx => by
    obtain ⟨j, h1, h2⟩ := mem_take hx rfl
    refine ⟨j, h1, h2, fun hd => ?_⟩
    rcases H.pair j i x e h1 h2 hi with h3 | h3
    · rw [hix j x h2, hup j h3] at hd; cases hd
    · exact h3
  have hpost : ∀ x ∈ L.drop (i + 1), ∃ j, i < j ∧ L[j]? = some x ∧ (D x.fp.i = true → indep e.fp x.fp = true) := fun x hx => by
    obtain ⟨j, h1, h2⟩ := mem_drop hx
    refine ⟨j, by omega, h2, fun hd => ?_⟩
    rcases H.pair i j e x (by omega) hi h2 with h3 | h3
    · rw [hix j x h2] at hd
      rw [hdn j (by have := (List.getElem?_eq_some_iff.1 h2).1; omega) hd] at h3; cases h3
    · exact h3
  have hfil : ∀ D : Nat → Bool, L.filter (fun e => D e.fp.i) = (L.take i).filter (fun e => D e.fp.i) ++ (if D i then [e] else []) ++ (L.drop (i + 1)).filter (fun e => D e.fp.i) := fun D => by
    conv => lhs; rw [hsplit]
    rw [List.filter_append, List.filter_cons, hix i e hi]
    cases D i <;> simp
  have hpreL : ∀ x ∈ L.take i, x.small := fun x hx => hsm x (List.mem_of_mem_take hx)
  have hpostL : ∀ x ∈ L.drop (i + 1), x.small := fun x hx => hsm x (List.mem_of_mem_drop hx)
  have htrue : ∀ (M : List En), M.filter (fun _ => true) = M := fun M => List.filter_eq_self.2 fun _ _ => rfl
  have hfalse : ∀ (M : List En), M.filter (fun _ => false) = [] := fun M => List.filter_eq_nil_iff.2 fun _ _ => by simp
  -- the part that it sees is as in order
  have hsub : sub (stD σ0 L D) e.fp.rd e.fp.R e.fp.lo e.ora = sub (foldE σ0 (L.take i)) e.fp.rd e.fp.R e.fp.lo e.ora := by
    refine sub_congr (fun s hs => ?_) (fun id hid => ?_) ?_
    · show (foldE σ0 (L.filter fun e => D e.fp.i)).sl.get s = _
      rw [hfil, hD, if_neg (by simp), List.append_nil, fold_append]
      have h1 := fold_sl (p := fun e => D e.fp.i) (q := fun _ => true) (s := s) (L.take i) σ0 σ0 hpreL (fun x hx hne => by
        obtain ⟨j, a1, a2, a3⟩ := hpre x hx
        have I := indep_p (a3 (by simpa using hne))
        exact (look_apart E (H.ent j x a2) ⟨I.d1, I.w1, I.r1⟩).1 s hs) rfl
      have h2 := fold_sl (p := fun e => D e.fp.i) (q := fun _ => false) (s := s) (L.drop (i + 1)) (foldE σ0 ((L.take i).filter fun e => D e.fp.i)) (foldE σ0 ((L.take i).filter fun e => D e.fp.i)) hpostL (fun x hx hne => by
        obtain ⟨j, a1, a2, a3⟩ := hpost x hx
        have I := indep_p (a3 (by simpa using hne))
        exact (look_apart E (H.ent j x a2) ⟨I.d2, I.w2, I.r2⟩).1 s hs) rfl
      rw [htrue] at h1
      rw [hfalse] at h2
      exact h2.trans h1
    · show (foldE σ0 (L.filter fun e => D e.fp.i)).blk id = _
      rw [hfil, hD, if_neg (by simp), List.append_nil, fold_append]
      have h1 := fold_blk (p := fun e => D e.fp.i) (q := fun _ => true) (id := id) (L.take i) σ0 σ0 hpreL (fun x hx hne => by
        obtain ⟨j, a1, a2, a3⟩ := hpre x hx
        have I := indep_p (a3 (by simpa using hne))
        exact (look_apart E (H.ent j x a2) ⟨I.d1, I.w1, I.r1⟩).2 id hid) rfl
      have h2 := fold_blk (p := fun e => D e.fp.i) (q := fun _ => false) (id := id) (L.drop (i + 1)) (foldE σ0 ((L.take i).filter fun e => D e.fp.i)) (foldE σ0 ((L.take i).filter fun e => D e.fp.i)) hpostL (fun x hx hne => by
        obtain ⟨j, a1, a2, a3⟩ := hpost x hx
        have I := indep_p (a3 (by simpa using hne))
        exact (look_apart E (H.ent j x a2) ⟨I.d2, I.w2, I.r2⟩).2 id hid) rfl
      rw [htrue] at h1
      rw [hfalse] at h2
      exact h2.trans h1
    · show (foldE σ0 _).nt = _
      rw [fold_nt, fold_nt]
  have hrun := E.run
  rw [← hsub] at hrun
  -- its numbers are new
  have hnone : ∀ id, e.fp.lo ≤ id → id < e.fp.hi → ι id = none := fun id h1 h2 => by
    obtain ⟨q1, q2, q3⟩ := H.rng0 hi
    cases hv : ι id with
    | none => rfl
    | some p =>
      rcases J.dom id p hv with h3 | ⟨x, hx, h3, h4, h5⟩
      · rw [G.new id (by omega) (by omega)] at h3; cases h3
      · obtain ⟨j, hj⟩ := List.mem_iff_getElem?.1 hx
        rw [hix j x hj] at h3
        have hne : j ≠ i := fun e => by rw [e, hD] at h3; cases h3
        rcases Nat.lt_or_gt_of_ne hne with hlt | hlt
        · have := H.rng hlt hj hi; omega
        · have := H.rng hlt hi hj; omega
  have hmem : Mem w0 ι (sub (stD σ0 L D) e.fp.rd e.fp.R e.fp.lo e.ora) w' :=
    ⟨fun id cs hc => J.stand.mem.blk id cs (sub_blk hc), fun id id' cs cs' b o b' o' h1 h2 => J.stand.mem.inj id id' cs cs' b o b' o' (sub_blk h1) (sub_blk h2), J.stand.mem.own, J.stand.mem.keep⟩
  have hslots : SlotsOk ι (sub (stD σ0 L D) e.fp.rd e.fp.R e.fp.lo e.ora) w' a.tmps := fun s => by
    unfold St.slot
    cases hg : (sub (stD σ0 L D) e.fp.rd e.fp.R e.fp.lo e.ora).sl.get s with
    | none => exact .any
    | some x =>
      have := J.stand.sl s
      unfold St.slot at this
      rw [sub_slot hg] at this
      exact this
  have hgood : Good ι (sub (stD σ0 L D) e.fp.rd e.fp.R e.fp.lo e.ora) e.τ := ⟨fun id h1 h2 => hnone id h1 (by rw [E.hi]; exact h2), fun o ho => G.owe o (fold_owe L σ0 o (.inr ⟨e, List.mem_of_getElem? hi, ho⟩))⟩
  intro next Q hn
  refine guard_one W hC hrun hmem hslots hgood next Q fun v w2 hr => hn v w2 ?_
  obtain ⟨ev, σ1, he, hm, ι2, K, hv⟩ := hr
  obtain ⟨q1, q2, q3⟩ := H.rng0 hi
  obtain ⟨r1, r2⟩ := merge_ok J.stp J.stand (fun id cs h => sub_blk h) rfl rfl rfl K hm hv he E.small hnone q1 q3
  -- the two states look alike
  have hDi : D' i = true := by rw [hD', nbt rfl]; rfl
  have hcongr : ∀ (M : List En), (∀ x ∈ M, x.fp.i ≠ i) → M.filter (fun e => D' e.fp.i) = M.filter (fun e => D e.fp.i) := fun M hM => List.filter_congr fun x hx => by rw [hD', nbf (hM x hx), Bool.false_or]
  have hpc := hcongr (L.take i) fun x hx => by
    obtain ⟨j, h1, h2, _⟩ := hpre x hx
    rw [hix j x h2]; omega
  have hqc := hcongr (L.drop (i + 1)) fun x hx => by
    obtain ⟨j, h1, h2, _⟩ := hpost x hx
    rw [hix j x h2]; omega
  have hf1 : foldE σ0 (L.filter fun e => D e.fp.i) = foldE (foldE σ0 ((L.take i).filter fun e => D e.fp.i)) ((L.drop (i + 1)).filter fun e => D e.fp.i) := by
    rw [hfil, hD, if_neg (by simp), List.append_nil, fold_append]
  have hf2 : foldE σ0 (L.filter fun e => D' e.fp.i) = foldE (e.put (foldE σ0 ((L.take i).filter fun e => D e.fp.i))) ((L.drop (i + 1)).filter fun e => D e.fp.i) := by
    rw [hfil, hDi, if_pos rfl, hpc, hqc, fold_append, fold_append]
    rfl
  generalize hσ1 : foldE σ0 ((L.take i).filter fun e => D e.fp.i) = σp at hf1 hf2
  have hal : Alike ({ e.put (stD σ0 L D) with cnt := (stD σ0 L D).cnt, owe := (stD σ0 L D).owe } : St) (stD σ0 L D') := by
    refine ⟨fun id => ?_, fun s => ?_, rfl, ?_, fun id => ?_, rfl⟩
    · show (foldE σ0 (L.filter fun e => D' e.fp.i)).blk id = (e.put (stD σ0 L D)).blk id
      rw [put_blk E.small, hf2]
      show _ = if id ∈ e.W then _ else (foldE σ0 (L.filter fun e => D e.fp.i)).blk id
      rw [hf1]
      by_cases hw : id ∈ e.W
      · rw [if_pos hw]
        have := fold_blk (p := fun e => D e.fp.i) (q := fun _ => false) (id := id) (L.drop (i + 1)) (e.put σp) (e.put σp) hpostL (fun x hx hne hx' => by
          obtain ⟨j, a1, a2, a3⟩ := hpost x hx
          exact (H.apart a1 hi a2 (a3 (by simpa using hne))).2 id hw hx') rfl
        rw [hfalse] at this
        rw [this]
        show (e.put σp).blk id = _
        rw [put_blk E.small, if_pos hw]
      · rw [if_neg hw]
        exact fold_blk (p := fun e => D e.fp.i) (q := fun e => D e.fp.i) (id := id) (L.drop (i + 1)) (e.put σp) σp hpostL (fun x hx hne => absurd rfl hne) (by rw [put_blk E.small, if_neg hw])
    · show (foldE σ0 (L.filter fun e => D' e.fp.i)).sl.get s = (e.put (stD σ0 L D)).sl.get s
      rw [put_sl E.small, hf2]
      show _ = if e.o.dst = some s then _ else (foldE σ0 (L.filter fun e => D e.fp.i)).sl.get s
      rw [hf1]
      by_cases hw : e.o.dst = some s
      · rw [if_pos hw]
        have := fold_sl (p := fun e => D e.fp.i) (q := fun _ => false) (s := s) (L.drop (i + 1)) (e.put σp) (e.put σp) hpostL (fun x hx hne => by
          obtain ⟨j, a1, a2, a3⟩ := hpost x hx
          exact (H.apart a1 hi a2 (a3 (by simpa using hne))).1 s hw) rfl
        rw [hfalse] at this
        rw [this]
        show (e.put σp).sl.get s = _
        rw [put_sl E.small, if_pos hw]
      · rw [if_neg hw]
        exact fold_sl (p := fun e => D e.fp.i) (q := fun e => D e.fp.i) (s := s) (L.drop (i + 1)) (e.put σp) σp hpostL (fun x hx hne => absurd rfl hne) (by rw [put_sl E.small, if_neg hw])
    · show (foldE σ0 _).nt = (foldE σ0 _).nt
      rw [fold_nt, fold_nt]
    · show id ∈ (foldE σ0 (L.filter fun e => D' e.fp.i)).tch ↔ id ∈ e.τ.tch ++ (foldE σ0 (L.filter fun e => D e.fp.i)).tch
      rw [List.mem_append, fold_tch, fold_tch]
      simp only [List.mem_filter]
      constructor
      · rintro (h | ⟨x, ⟨h1, h2⟩, h3⟩)
        · exact .inr (.inl h)
        · rw [hD'] at h2
          by_cases hx : x.fp.i = i
          · obtain ⟨j, hj⟩ := List.mem_iff_getElem?.1 h1
            rw [hix j x hj] at hx
            subst hx
            rw [hi] at hj
            injection hj with hj
            subst hj
            exact .inl h3
          · rw [nbf hx, Bool.false_or] at h2
            exact .inr (.inr ⟨x, ⟨h1, h2⟩, h3⟩)
      · rintro (h | h | ⟨x, ⟨h1, h2⟩, h3⟩)
        · exact .inr ⟨e, ⟨List.mem_of_getElem? hi, by rw [hix i e hi]; exact hDi⟩, h⟩
        · exact .inl h
        · exact .inr ⟨x, ⟨h1, by rw [hD', h2, Bool.or_true]⟩, h3⟩
  refine ⟨ι2, r1.look hal, r2.look hal, fun id p hp => ?_⟩
  rcases K.dom id p hp with h1 | ⟨h1, h2, _⟩
  · rcases J.dom id p h1 with h3 | ⟨x, hx, h3, h4⟩
    · exact .inl h3
    · exact .inr ⟨x, hx, by rw [hD', h3, Bool.or_true], h4⟩
  · refine .inr ⟨e, List.mem_of_getElem? hi, by rw [hix i e hi]; exact hDi, h1, ?_⟩
    rw [E.hi, he]
    rw [(setSlot_st (σ := σ1) e.o.dst ev).2.1]
    exact h2

end
end Go.Xe

/- Regions whose order is drawn: all of it. -/
namespace Go.Xe
open Go.Ab (tk TK WF Keeps Row mkV Does beq_iff exists_min leftR left_set getD_tf ClosedL)
variable {P : Program} {cal : Nat → List EV → St → R}

theorem anc_done {ops : Array Oper} {listed : Array Bool} (hc : ClosedL ops listed) : ∀ (n i j : Nat), (∀ (o : Oper), ops[i]? = some o → ∀ e ∈ o.after, Region.binds .any e = true → listed.getD e.on false = true) → anc ops n i j = true → listed.getD j false = true
  | 0, i, j, _, h => by simp [anc] at h
  | n + 1, i, j, hp, h => by
    simp only [anc] at h
    split at h
    · rename_i o ho
      obtain ⟨e, he, hb⟩ := List.any_eq_true.1 h
      simp only [Bool.and_eq_true, Bool.or_eq_true, beq_iff] at hb
      have hl := hp o ho e (by simpa using he) hb.1
      rcases hb.2 with h2 | h2
      · rw [← h2]; exact hl
      · exact anc_done hc n e.on j (fun o' ho' e' he' hb' => hc e.on o' ho' hl e' he' hb') h2
    · cases h

theorem Stand.drewX {w0 : World} {ι : Loc} {σ : St} {a : Act} {w w' : World} (S : Stand w0 ι σ a w) (h : w'.heap = w.heap) (h1 : w'.os = w.os) (h2 : w'.tape = w.tape) (h3 : w'.output = w.output) : Stp w0 ι σ w ι σ w' ∧ Stand w0 ι σ a w' := by
  have hext : Ext w w' := ⟨by rw [h]; exact Nat.le_refl _, fun b c E hb => ⟨c, by rw [h]; exact hb, rfl⟩⟩
  have hm : Mem w0 ι σ w' := by
    refine ⟨fun id cs hc => ?_, S.mem.inj, fun id b o hi => by rw [h]; exact S.mem.own id b o hi, S.mem.keep.trans ⟨h1, h2, h3, by rw [h]; exact Nat.le_refl _, fun b _ _ => by rw [h]⟩ (fun _ h => h) fun _ _ h => h⟩
    obtain ⟨b, o, c, E, g1, g2, g3, g4⟩ := S.mem.blk id cs hc
    exact ⟨b, o, c, E, g1, by rw [h]; exact g2, g3, fun i hi => ⟨(g4 i hi).1.mono (fun _ _ h => h) hext, (g4 i hi).2⟩⟩
  exact ⟨⟨hm, fun _ _ h => h, fun _ _ h => .inl h, Nat.le_refl _, fun _ h => h, hext, fun b _ _ => by rw [h], fun _ h => h, fun _ h => .inl h, fun _ cs h => .inl ⟨cs, h⟩⟩, hm, fun s => (S.sl s).mono (fun _ _ h => h) hext, S.nt, S.df⟩

section
variable {w0 : World} {ι0 : Loc} {σ0 : St} {w : World} {ops : Array Oper} {L : List En}

theorem any_ok (W : WF P) (hC : CalOk P cal) (H : RunOk P cal ops σ0 L) (G : Good ι0 σ0 (foldE σ0 L)) (hf : fwdOk ops = true) {Q : Exit → Act → World → Prop} (hQ : Kont w0 ι0 σ0 w (foldE σ0 L) (Q .normal)) :
    ∀ (fuel : Nat) (listed : Array Bool) (ι : Loc) (a : Act) (w' : World), Jn w0 ι0 σ0 w L (fun j => listed.getD j false) ι a w' → listed.size = ops.size → ClosedL ops listed → (leftR ops listed).length ≤ fuel → wpAny P .any ops Q fuel listed a w' := by
  have hmem : ∀ (listed : Array Bool) (i : Nat), i ∈ Region.ready .any ops listed → i ∈ leftR ops listed := fun listed i hi => by
    obtain ⟨h1, o, ho, _⟩ := mem_ready.1 hi
    exact List.mem_filter.2 ⟨by simpa using (Array.getElem?_eq_some_iff.1 ho).1, by rw [h1]; rfl⟩
  have hempty : ∀ (listed : Array Bool), listed.size = ops.size → Region.ready .any ops listed = [] → leftR ops listed = [] := fun listed hs he => by
    cases hR : leftR ops listed with
    | nil => rfl
    | cons x R =>
      exfalso
      obtain ⟨i, hi, hmin⟩ := exists_min (p := fun i => i ∈ leftR ops listed) ⟨x, by rw [hR]; simp⟩
      have hlt : i < ops.size := by simpa using (List.mem_filter.1 hi).1
      have ho : ops[i]? = some ops[i] := by simp [hlt]
      have : i ∈ Region.ready .any ops listed := by
        refine mem_ready.2 ⟨by have := (List.mem_filter.1 hi).2; simpa using this, ops[i], ho, fun e he' hb => ?_⟩
        have h1 := List.all_eq_true.1 hf i (by simpa using hlt)
        rw [ho] at h1
        have h2 := List.all_eq_true.1 h1 e (by simpa using he')
        rw [hb] at h2
        simp only [Bool.not_true, Bool.false_or, Nat.blt_eq] at h2
        have h3 : e.on < listed.size := by omega
        rw [← getD_tf h3]
        cases h4 : listed.getD e.on true with
        | true => rfl
        | false =>
          have := hmin e.on (List.mem_filter.2 ⟨by simp; omega, by rw [h4]; rfl⟩)
          omega
      rw [he] at this
      cases this
  have hend : ∀ (listed : Array Bool) (ι : Loc) (a : Act) (w' : World), listed.size = ops.size → leftR ops listed = [] → Jn w0 ι0 σ0 w L (fun j => listed.getD j false) ι a w' → Q .normal a w' := fun listed ι a w' hs he J => by
    have hall : L.filter (fun e => listed.getD e.fp.i false) = L := by
      rw [List.filter_eq_self]
      intro e he'
      obtain ⟨k, hk⟩ := List.mem_iff_getElem?.1 he'
      rw [(H.ent k e hk).ix]
      have hk' : k < ops.size := by have := (List.getElem?_eq_some_iff.1 hk).1; have := H.len; omega
      rw [← getD_tf (by omega)]
      cases h4 : listed.getD k true with
      | true => rfl
      | false =>
        have : k ∈ leftR ops listed := List.mem_filter.2 ⟨by simpa using hk', by rw [h4]; rfl⟩
        rw [he] at this
        cases this
    have hst : stD σ0 L (fun j => listed.getD j false) = foldE σ0 L := by
      unfold stD
      rw [hall]
    have h1 := J.stp
    have h2 := J.stand
    rw [hst] at h1 h2
    exact hQ ι a w' h1 h2
  intro fuel
  induction fuel with
  | zero =>
    intro listed ι a w' J hs hc hl
    have hR : leftR ops listed = [] := List.eq_nil_of_length_eq_zero (by omega)
    refine ⟨?_, hend listed ι a w' hs hR J⟩
    apply List.eq_nil_iff_forall_not_mem.2
    intro i hi
    have := hmem listed i hi
    rw [hR] at this
    cases this
  | succ fuel ih =>
    intro listed ι a w' J hs hc hl
    refine ⟨fun he => hend listed ι a w' hs (hempty listed hs he) J, fun i hi => ?_⟩
    have hiR := hmem listed i hi
    obtain ⟨h1, o, ho, hpre⟩ := mem_ready.1 hi
    have hlt : i < ops.size := (Array.getElem?_eq_some_iff.1 ho).1
    have hset := left_set hs hiR
    have hc' : ClosedL ops (listed.setIfInBounds i true) := fun j oj hj hl' e he hb => by
      have hkeep : ∀ k, listed.getD k false = true → (listed.setIfInBounds i true).getD k false = true := fun k hk => getD_set_true hk
      by_cases e1 : j = i
      · subst e1
        rw [ho] at hj
        injection hj with hj
        subst hj
        exact hkeep _ (hpre e he hb)
      · have : listed.getD j false = true := by
          have e2 : (listed.setIfInBounds i true).getD j false = listed.getD j false := getD_set_ne false fun h => e1 h.symm
          rw [← e2]; exact hl'
        exact hkeep _ (hc j oj hj this e he hb)
    have hlen : ((leftR ops listed).erase i).length ≤ fuel := by
      have := List.length_erase_of_mem hiR
      omega
    have hLlen := H.len
    have hLi : L[i]? = some L[i] := List.getElem?_eq_getElem (by omega)
    have hLo : (L[i]).o = o := by
      have := congrArg (fun l => l[i]?) H.all
      simp only [List.getElem?_map, hLi, Option.map_some, Array.getElem?_toList, ho, Option.some.injEq] at this
      exact this
    have hDi : listed.getD i false = false := by
      rw [← getD_tf (by omega)]
      have := (List.mem_filter.1 hiR).2
      simpa using this
    have hD' : ∀ j, (listed.setIfInBounds i true).getD j false = (Nat.beq j i || listed.getD j false) := fun j => by
      by_cases e : j = i
      · subst e
        rw [nbt rfl, Bool.true_or]
        simp [Array.getD_eq_getD_getElem?, hs, hlt]
      · rw [nbf e, Bool.false_or]
        exact getD_set_ne false fun h => e h.symm
    have hone := one_more W hC H G (D := fun j => listed.getD j false) (D' := fun j => (listed.setIfInBounds i true).getD j false) hLi hDi hD' (fun j hj => anc_done hc ops.size i j (fun o' ho' e' he' hb' => by
        rw [ho] at ho'
        injection ho' with ho'
        subst ho'
        exact hpre e' he' hb') hj) (fun j hj hd => by
        cases e : anc ops ops.size j i with
        | false => rfl
        | true =>
          have h2 := anc_done hc ops.size j i (fun o' ho' e' he' hb' => hc j o' ho' hd e' he' hb') e
          rw [hDi] at h2
          cases h2) J
    rw [hLo] at hone
    unfold wpOp
    rw [ho]
    simp only
    have := hone (wpAny P .any ops Q fuel (listed.setIfInBounds i true)) Q fun v w2 hr => by
      obtain ⟨ι2, J2⟩ := hr
      exact ih _ ι2 _ w2 J2 (by simp [hs]) hc' (by rw [hset]; exact hlen)
    split at this
    · rename_i hw; rw [if_pos hw]; exact .inl this
    · rename_i hw; rw [if_neg hw]; exact this

end

theorem draw_mono (hC : CalOk P cal) {ops : Array Oper} : ∀ (l : List Oper) (i : Nat) (fps : List Fp) (σ σ' : St), drawX P cal ops l i fps σ = some σ' → Mono σ σ'
  | [], i, fps, σ, σ', h => by
    injection h with h
    subst h
    exact .refl _
  | o :: l, i, fps, σ, σ', h => by
    unfold drawX at h
    split at h <;> try contradiction
    rename_i τ hτ
    obtain ⟨_, h⟩ := cndO h
    have h1 := draw_mono hC l _ _ _ _ h
    have h2 : σ.cnt ≤ τ.cnt := (mono_guard hC hτ).cnt
    exact ⟨Nat.le_trans h2 h1.cnt, fun o ho => h1.owe o (List.mem_append.2 (.inr ho)), h1.nt⟩

/-- A REGION IN ANY ORDER. -/
theorem draw_ok (W : WF P) (hm : P.follows .mixedOrders = true) (hC : CalOk P cal) : DrawOk P cal := by
  refine ⟨fun ops σ σ' h => draw_mono hC _ _ _ _ _ h, fun ops σ σ' hf h w0 ι a w Q id S G hQ => ?_⟩
  obtain ⟨L, h1, h2, h3, h4⟩ := draw_run hC _ _ _ _ _ h
  subst h2
  have H : RunOk P cal ops σ L := ⟨h1, fun k e hk => by
    have := (h3 k e hk).1
    rw [Nat.zero_add] at this
    exact this, fun k k' e e' hk h h' => by
    have := h4 k k' e e' hk h h'
    rw [Nat.zero_add, Nat.zero_add] at this
    exact this⟩
  refine wp_region_any hm ?_
  obtain ⟨s1, S1⟩ := S.drewX (w' := { w with drawn := w.drawn + 1 }) rfl rfl rfl rfl
  have hno : L.filter (fun e => (Array.replicate ops.size false).getD e.fp.i false) = [] := by
    rw [List.filter_eq_nil_iff]
    intro e _
    rw [Array.getD_eq_getD_getElem?, Array.getElem?_replicate]
    split <;> simp
  have hst : stD σ L (fun j => (Array.replicate ops.size false).getD j false) = { σ with cnt := (foldE σ L).cnt, owe := (foldE σ L).owe } := by
    unfold stD
    rw [hno]
    rfl
  have hmono := draw_mono hC _ _ _ _ _ h
  have hmem : Mem w0 ι { σ with cnt := (foldE σ L).cnt, owe := (foldE σ L).owe } { w with drawn := w.drawn + 1 } := S1.mem.congr rfl
  refine any_ok W hC H G hf hQ ops.size _ ι a _ ⟨?_, ?_, fun id p hp => .inl hp⟩ (by simp) (fun i o _ hl => ?_) ?_
  · rw [hst]
    exact ⟨hmem, s1.agree, fun _ _ h => .inl h, hmono.cnt, s1.tch, s1.ext, s1.frame, hmono.owe, s1.tin, fun id cs h => .inl ⟨cs, h⟩⟩
  · rw [hst]
    exact ⟨hmem, S1.sl, S1.nt, S1.df⟩
  · exfalso
    rw [Array.getD_eq_getD_getElem?, Array.getElem?_replicate] at hl
    split at hl <;> cases hl
  · have hleft : leftR ops (Array.replicate ops.size false) = List.range ops.size := by
      unfold leftR
      rw [List.filter_eq_self]
      intro i hi
      have hi' : i < ops.size := by simpa using hi
      simp [Array.getD_eq_getD_getElem?, hi']
    rw [hleft]
    simp

/-! Functions. -/
theorem init_get : ∀ (l : List EV) (k s : Nat) (x : EV), (initSl k l).get s = some x → k ≤ s ∧ l[s - k]? = some x
  | [], k, s, x, h => by cases h
  | v :: l, k, s, x, h => by
    rcases get_put 20 _ k _ s x h with ⟨rfl, hh⟩ | ⟨hne, h⟩
    · injection hh with hh
      subst hh
      exact ⟨Nat.le_refl _, by simp⟩
    · obtain ⟨h1, h2⟩ := init_get l (k + 1) s x h
      refine ⟨by omega, ?_⟩
      rw [show s - k = (s - (k + 1)) + 1 by omega, List.getElem?_cons_succ]
      exact h2

section
variable {w0 : World} {ι : Loc} {σ σ' : St} {a : Act} {w : World}

theorem resE_ok (W : WF P) (S : Stand w0 ι σ a w) {r : ResultVar} {e : EV} (h : resE P σ r = some e) : ∃ v, (Go.Ab.resVal a.tmps r).run P w = .ok v w ∧ VR ι w e v := by
  cases r with
  | tmp t =>
    injection h with h
    subst h
    exact ⟨_, by simp [Go.Ab.resVal], S.sl t⟩
  | cell ca t =>
    change (match σ.slot ca with
      | .ptr id off => match σ.blk id with
        | some cs => cond (okT P t && Nat.ble (off + sizeT P t) cs.length) (some (mkE P t (seg cs off (sizeT P t)))) none
        | none => none
      | _ => none) = some e at h
    split at h <;> try contradiction
    rename_i id off hb
    split at h <;> try contradiction
    rename_i cs hcs
    obtain ⟨hc, h⟩ := cndT h
    subst h
    simp only [Bool.and_eq_true, Nat.ble_eq] at hc
    have hx := S.sl ca
    rw [hb] at hx
    obtain ⟨b, p, h1, h2⟩ := hx.ptr_inv
    obtain ⟨b', p', c, E, g1, g2, g3, g4⟩ := S.mem.cells hcs
    rw [h1] at g1
    injection g1 with g1
    injection g1 with g1 g1'
    subst g1 g1'
    obtain ⟨v, r1, r2⟩ := st_loadAt W (okT_ne hc.1) g2 g3 g4 hc.2
    exact ⟨v, by simp only [Go.Ab.resVal, h2, asAddr, Sem.run_bind, Sem.run_pure, Result.andThen_ok, r1], r2⟩

theorem resEs_ok (W : WF P) (S : Stand w0 ι σ a w) : ∀ (l : List ResultVar) (es : List EV), resEs P σ l = some es → ∃ vs : List Value, l.length = vs.length ∧ es.length = vs.length ∧ (∀ k r, l[k]? = some r → (Go.Ab.resVal a.tmps r).run P w = .ok (vs.getD k undef) w) ∧ ∀ k, k < es.length → VR ι w (es.getD k .any) (vs.getD k undef)
  | [], es, h => by
    injection h with h
    subst h
    exact ⟨[], rfl, rfl, fun k r h => by simp at h, fun k h => by simp at h⟩
  | r :: l, es, h => by
    unfold resEs at h
    split at h <;> try contradiction
    rename_i e es2 he hes
    injection h with h
    subst h
    obtain ⟨v, h1, h2⟩ := resE_ok W S he
    obtain ⟨vs, g1, g2, g3, g4⟩ := resEs_ok W S l es2 hes
    refine ⟨v :: vs, by simp [g1], by simp [g2], fun k r' hk => ?_, fun k hk => ?_⟩
    · cases k with
      | zero =>
        simp only [List.getElem?_cons_zero, Option.some.injEq] at hk
        subst hk
        exact h1
      | succ k => exact g3 k r' (by simpa using hk)
    · cases k with
      | zero => exact h2
      | succ k => exact g4 k (by simpa using hk)

/-- A function's code, run from its start. -/
theorem body_ok (W : WF P) (hC : CalOk P cal) (hD : DrawOk P cal) {n f : Nat} {fn : Func} {c : Code} {args es : List EV} {x : Ex} (hf : P.funcs[f]? = some fn) (hb : fn.body = some c) (h : codeX P cal n c { σ with sl := initSl 0 args, nt := fn.ntmps } = some (x, σ')) (hx : ∀ i, x ≠ .ext i)
    (hr : resEs P σ' fn.results.toList = some es) (M : Mem w0 ι σ w) (G : Good ι σ σ') {vals : Array Value} (hs : vals.size = args.length) (hv : ∀ i, i < args.length → VR ι w (args.getD i .any) (vals.getD i undef)) :
    Calls P f vals w fun en w' => ∃ v, en = .returned v ∧ Res w0 ι σ w (outE es) { σ' with sl := σ.sl, nt := σ.nt } v w' := by
  refine calls_of_wp hf hb ?_
  have S : Stand w0 ι { σ with sl := initSl 0 args, nt := fn.ntmps } { tmps := vals ++ Array.replicate (fn.ntmps - vals.size) undef, defers := [] } w := by
    refine ⟨M.congr rfl, fun s => ?_, by simp only [Array.size_append, Array.size_replicate]; omega, rfl⟩
    unfold St.slot
    cases hg : (initSl 0 args).get s with
    | none => exact .any
    | some x =>
      obtain ⟨_, h2⟩ := init_get args 0 s x hg
      rw [Nat.sub_zero] at h2
      have hlt := (List.getElem?_eq_some_iff.1 h2).1
      have h3 := hv s hlt
      rw [List.getD_eq_getElem?_getD, h2] at h3
      have : (vals ++ Array.replicate (fn.ntmps - vals.size) undef).getD s undef = vals.getD s undef := by
        simp only [Array.getD_eq_getD_getElem?]
        rw [Array.getElem?_append_left (by omega)]
      rw [this]
      exact h3
  refine code_ok W hC hD c ι _ x σ' _ w _ h S ⟨G.new, G.owe⟩ fun ι' a' w' s S' => ?_
  have fin : a'.defers = [] ∧ ∃ v, (results fn a'.tmps).run P w' = .ok v w' ∧ ∃ v1, Ending.returned v = .returned v1 ∧ Res w0 ι σ w (outE es) { σ' with sl := σ.sl, nt := σ.nt } v1 w' := by
    obtain ⟨vs, g1, g2, g3, g4⟩ := resEs_ok W S' _ _ hr
    refine ⟨S'.df, _, Go.Ab.run_results g1 g3, _, rfl, ι', (s.congr0 (σ0 := σ) rfl rfl rfl rfl).congr rfl rfl rfl rfl, ?_⟩
    by_cases h1 : vs.toArray.size = 1
    · rw [dif_pos h1]
      have h2 : vs.length = 1 := by simpa using h1
      obtain ⟨v, rfl⟩ : ∃ v, vs = [v] := List.length_eq_one_iff.1 h2
      obtain ⟨e, rfl⟩ : ∃ e, es = [e] := List.length_eq_one_iff.1 (by rw [g2]; rfl)
      exact g4 0 (by simp)
    · rw [dif_neg h1]
      have : outE es = .tup es := by
        match es, g2 with
        | [], _ => rfl
        | [e], g2 => exact absurd (by simpa using g2.symm) h1
        | _ :: _ :: _, _ => rfl
      rw [this]
      exact .tup (by simpa using g2.symm) fun i hi => by simpa [Array.getD_eq_getD_getElem?, List.getD_eq_getElem?_getD] using g4 i hi
  cases x with
  | nrm => exact fin
  | ret => exact fin
  | ext i => exact absurd rfl (hx i)
end

/-- EVERY FUNCTION. -/
theorem cal_ok (W : WF P) (hm : P.follows .mixedOrders = true) : ∀ n, CalOk P (funX P n)
  | 0 => ⟨fun f args σ e σ' h => (by cases h), fun f args σ e σ' h => (by cases h)⟩
  | n + 1 => by
    have hC := cal_ok W hm n
    have hD := draw_ok W hm hC
    have key : ∀ f args σ e σ', funX P (n + 1) f args σ = some (e, σ') → ∃ fn c x σ1 es, P.funcs[f]? = some fn ∧ fn.body = some c ∧ codeX P (funX P n) n c { σ with sl := initSl 0 args, nt := fn.ntmps } = some (x, σ1) ∧ (∀ i, x ≠ .ext i) ∧ resEs P σ1 fn.results.toList = some es ∧ e = outE es ∧ σ' = { σ1 with sl := σ.sl, nt := σ.nt } := by
      intro f args σ e σ' h
      unfold funX at h
      split at h <;> try contradiction
      rename_i fn hf
      split at h <;> try contradiction
      rename_i c hc
      split at h <;> try contradiction
      rename_i x σ1 hne hx
      split at h <;> try contradiction
      rename_i es hes
      obtain ⟨rfl, rfl⟩ := pr h
      exact ⟨fn, c, x, σ1, es, hf, hc, hx, fun i e => hne i e, hes, rfl, rfl⟩
    refine ⟨fun f args σ e σ' h => ?_, fun f args σ e σ' h => ?_⟩
    · obtain ⟨fn, c, x, σ1, es, h1, h2, h3, h4, h5, rfl, rfl⟩ := key f args σ e σ' h
      have := mono_code hC hD _ _ _ _ h3
      exact ⟨⟨this.cnt, this.owe, rfl⟩, rfl⟩
    · obtain ⟨fn, c, x, σ1, es, h1, h2, h3, h4, h5, rfl, rfl⟩ := key f args σ e σ' h
      exact ⟨⟨fn, h1, by rw [h2]; rfl⟩, fun w0 ι w vals M G hs hv => body_ok W hC hD h1 h2 h3 h4 h5 M ⟨G.new, G.owe⟩ hs hv⟩

end Go.Xe
