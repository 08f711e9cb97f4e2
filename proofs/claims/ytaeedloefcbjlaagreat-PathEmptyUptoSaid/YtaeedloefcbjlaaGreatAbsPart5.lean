/- The abstraction layer, part 5: rules that read a program as plain data, and that they are sound. Conditions: those in each theorem. -/
import Derived.Test.YtaeedloefcbjlaaGreatAbsPart4
set_option linter.unusedVariables false
set_option linter.unusedSimpArgs false
/- Orders that are drawn. -/
namespace Go.Ab
variable {P : Program} {A : Ann}

section
variable {H : Hnd} {f : Nat}

theorem inD_iff {d : Option Nat} {l : List Nat} (h : inD d l = false) : ∀ k, d = some k → k ∉ l := by
 rintro k rfl hm
 simp only [inD, List.any_eq_false, beq_iff] at h
 exact h k hm rfl

theorem mem_slots {o : Oper} {s : Nat} (h : Operand.tmp s ∈ o.op.operands.toList) : s ∈ opSlots o := by
 unfold opSlots
 exact List.mem_filterMap.2 ⟨_, h, rfl⟩

theorem mem_slotsR {r : Bool} {o : Oper} {s : Nat} (h : Operand.tmp s ∈ opnds r o) : s ∈ slotsR r o := by
 cases r with
 | false => simp [opnds] at h
 | true => exact mem_slots h

/-- A rule of an operation that runs, or does not. -/
def stpD (P : Program) (A : Ann) (H : Hnd) (f : Nat) (r : Bool) (o : Oper) (av : Operand → AV) (ob : Nat → Option Obj) (K : Dl → Prop) : Prop := cond r (stepD P A H f o av ob K) (K { v := .und })

theorem stpD_mono (hM : HndM H) {r : Bool} {o : Oper} {av : Operand → AV} {ob : Nat → Option Obj} {K K' : Dl → Prop} (hK : ∀ v, K v → K' v) : stpD P A H f r o av ob K → stpD P A H f r o av ob K' := by
 cases r with
 | false => exact hK _
 | true => exact stepD_mono hM hK
theorem stpD_ex (hM : HndM H) {r : Bool} {o : Oper} {av : Operand → AV} {ob : Nat → Option Obj} {K : Dl → Prop} : stpD P A H f r o av ob K → ∃ δ, K δ := by
 cases r with
 | false => exact fun h => ⟨_, h⟩
 | true => exact stepD_ex hM
theorem stpD_local {r : Bool} {o : Oper} {av av' : Operand → AV} {ob ob' : Nat → Option Obj} (hl : locR P r o = true) (hnest : ∀ x ∈ opnds r o, (av x).nest = true) (hav : ∀ x ∈ opnds r o, av x = av' x) (hob : ∀ c ∈ refsR r o av, ob c = ob' c) (K : Dl → Prop) :
  stpD P A H f r o av ob K = stpD P A H f r o av' ob' K := by
 cases r with
 | false => rfl
 | true => exact stepD_local (by simpa [locR] using hl) hnest hav hob K
theorem stpD_det {r : Bool} {o : Oper} {av : Operand → AV} {ob : Nat → Option Obj} (hs : simR P r o = true) : Det fun K : Dl → Prop => stpD P A H f r o av ob K := by
 cases r with
 | false => exact Det.pure _
 | true => exact stepD_det (by simpa [simR] using hs)

/-- What two operations that may change places keep to. -/
structure Ind (P : Program) (rj ri : Bool) (oj oi : Oper) (av av1 : Operand → AV) (δj δi : Dl) : Prop where
 locj : locR P rj oj = true
 loci : locR P ri oi = true
 sim : simR P rj oj = true ∨ simR P ri oi = true
 d1 : ∀ k, oj.dst = some k → k ∉ slotsR ri oi
 d2 : ∀ k, oi.dst = some k → k ∉ slotsR rj oj
 d3 : ∀ k, oj.dst = some k → oi.dst ≠ some k
 o1 : ∀ c ∈ refsR ri oi av1, c ∉ δj.os.map (·.1) ∨ softOk (cond rj (softW P av oj δj.os) none) (cond ri (softR av1 oi.op) none) c = true
 o2 : ∀ c ∈ refsR rj oj av, c ∉ δi.os.map (·.1) ∨ softOk (cond ri (softW P av1 oi δi.os) none) (cond rj (softR av oj.op) none) c = true
 o3 : ∀ c ∈ δj.os.map (·.1), c ∉ δi.os.map (·.1)
 ks : δj.ks = [] ∨ δi.ks = [] ∨ ((∀ k ∈ δj.ks, k.2.app? = false) ∧ ∀ k ∈ δi.ks, k.2.app? = false) ∨ ∀ k ∈ δj.ks, ∀ l ∈ δi.ks, k.1 ≠ l.1
 kept : ∀ x ∈ opnds ri oi, keptV δj.ks (av1 x) = true
 keeps : ∀ x ∈ opnds rj oj, keepsV δi.ks (av x) = true
 vi : keepsV δj.ks δi.v = true
 vj : keepsV δi.ks δj.v = true
 nj : ∀ x ∈ opnds rj oj, (av x).nest = true
 ni : ∀ x ∈ opnds ri oi, (av1 x).nest = true

/-- What guards keep to. -/
structure Gds (ops : Array Oper) (rj ri : Bool) (oj oi : Oper) : Prop where
 g1 : ∀ s, gslot ops oj = some s → oi.dst ≠ some s
 g2 : ∀ s, gslot ops oi = some s → oj.dst ≠ some s
 g3 : ∀ s, gslot ops oj = some s → s ∈ slotsR ri oi → gslot ops oi = some s
 g4 : ∀ s, gslot ops oi = some s → s ∈ slotsR rj oj → gslot ops oj = some s

theorem gOk_iff {a b : FP} (h : gOk a b = true) : ∀ s, a.gs = some s → b.dst ≠ some s ∧ (s ∈ b.sl → b.gs = some s) := by
 intro s hs
 simp only [gOk, hs, Bool.and_eq_true, Bool.or_eq_true, Bool.not_eq_true'] at h
 refine ⟨fun e => inD_iff h.1 s e (by simp), fun hm => ?_⟩
 rcases h.2 with h2 | h2
 ·rw [List.any_eq_false] at h2
  exact absurd (by simp) (h2 s hm)
 ·cases hb : b.gs with
  | none => rw [hb] at h2; simp at h2
  | some s' => rw [hb] at h2; simp only [beq_iff] at h2; rw [h2]

theorem ind_of {ops : Array Oper} {rj ri : Bool} {oj oi : Oper} {j i : Nat} {av av1 : Operand → AV} {δj δi : Dl} (h : indep (mkFP P ops j rj oj av δj) (mkFP P ops i ri oi av1 δi) = true) : Ind P rj ri oj oi av av1 δj δi ∧ Gds ops rj ri oj oi := by
 simp only [indep, Bool.and_eq_true, Bool.not_eq_true', List.all_eq_true, List.mem_map, Bool.or_eq_true, List.isEmpty_iff, List.any_eq_false] at h
 obtain ⟨⟨⟨⟨⟨⟨⟨⟨⟨⟨⟨⟨⟨⟨⟨⟨⟨h1, h2⟩, h3⟩, h4⟩, h5⟩, h6⟩, h7⟩, h8⟩, h9⟩, h10⟩, h11⟩, h12⟩, h13⟩, h14⟩, h15⟩, h16⟩, h17⟩, h18⟩ := h
 have ho1 : ∀ c ∈ refsR ri oi av1, c ∉ δj.os.map (·.1) ∨ softOk (cond rj (softW P av oj δj.os) none) (cond ri (softR av1 oi.op) none) c = true := fun c hc => by
  rcases h9 c hc with h | h
  ·exact .inl fun hm => h c hm (beq_iff.2 rfl)
  ·exact .inr h
 have ho2 : ∀ c ∈ refsR rj oj av, c ∉ δi.os.map (·.1) ∨ softOk (cond ri (softW P av1 oi δi.os) none) (cond rj (softR av oj.op) none) c = true := fun c hc => by
  rcases h10 c hc with h | h
  ·exact .inl fun hm => h c hm (beq_iff.2 rfl)
  ·exact .inr h
 refine ⟨⟨h3, h4, h5, inD_iff h6, inD_iff h7, fun k hk e => inD_iff h8 k hk (by show k ∈ oi.dst.toList; rw [e]; simp), ho1, ho2, apartB_iff h11, ?_, fun x hx => h13 _ (List.mem_map.2 ⟨x, hx, rfl⟩), fun x hx => h14 _ (List.mem_map.2 ⟨x, hx, rfl⟩), h15, h16, fun x hx => h17 _ (List.mem_map.2 ⟨x, hx, rfl⟩), fun x hx => h18 _ (List.mem_map.2 ⟨x, hx, rfl⟩)⟩,
  ⟨fun s hs => (gOk_iff h1 s hs).1, fun s hs => (gOk_iff h2 s hs).1, fun s hs => (gOk_iff h1 s hs).2, fun s hs => (gOk_iff h2 s hs).2⟩⟩
 rcases h12 with ((h | h) | ⟨h, h'⟩) | h
 ·exact .inl h
 ·exact .inr (.inl h)
 ·exact .inr (.inr (.inl ⟨fun k hk => by have := h k hk; simpa using this, fun k hk => by have := h' k hk; simpa using this⟩))
 ·exact .inr (.inr (.inr fun k hk l hl e => apartB_iff h k.1 (List.mem_map.2 ⟨k, hk, rfl⟩) (List.mem_map.2 ⟨l, hl, e.symm⟩)))

theorem findO_not {os : Objs} {c : Nat} (h : c ∉ os.map (·.1)) : findO os c = none := by
 cases e : findO os c with
 | none => rfl
 | some x => exact absurd (findO_mem e) h

theorem upO_not {os : Objs} {ob : Nat → Option Obj} {c : Nat} (h : c ∉ os.map (·.1)) : upO os ob c = ob c := by
 simp only [upO, findO_not h]; rfl

theorem stpD_soft (hM : HndM H) {r : Bool} {o : Oper} {av : Operand → AV} {ob : Nat → Option Obj} {K : Dl → Prop} (h : stpD P A H f r o av ob K) : stpD P A H f r o av ob fun δ => K δ ∧ ∀ q j m, cond r (softW P av o δ.os) none = some (q, j, m) → Soft q j m ob (upO δ.os ob) := by
 cases r with
 | false => exact ⟨h, fun _ _ _ e => by cases e⟩
 | true =>
  unfold stpD at h ⊢
  simp only [cond_true] at h ⊢
  exact stepD_soft hM h

theorem Ind.see1 {rj ri : Bool} {oj oi : Oper} {g : St} {δj δi : Dl} (h : Ind P rj ri oj oi g.av (g.app oj.dst δj).av δj δi) : ∀ x ∈ opnds ri oi, (g.app oj.dst δj).av x = g.av x := fun x hx => by
 cases x with
 | tmp s =>
  have hs := mem_slotsR hx
  have hne : oj.dst ≠ some s := fun e => h.d1 s e hs
  have e : (g.app oj.dst δj).av (.tmp s) = strike δj.ks (look g.sl s) := by
   show look (g.app oj.dst δj).sl s = _
   rw [look_app, if_neg hne]
  have hk := h.kept _ hx
  rw [e] at hk ⊢
  exact strike_kept hk
 | const v => rfl
 | func f => rfl
 | global q => rfl
/-- The later one sees the same before. -/
theorem Ind.seeI {rj ri : Bool} {oj oi : Oper} {g : St} {δj δi : Dl} (h : Ind P rj ri oj oi g.av (g.app oj.dst δj).av δj δi) (hs : ∀ q j m, cond rj (softW P g.av oj δj.os) none = some (q, j, m) → Soft q j m (lookO g.ob) (upO δj.os (lookO g.ob))) :
  (∀ x ∈ opnds ri oi, (g.app oj.dst δj).av x = g.av x) ∧ ∀ K, stpD P A H f ri oi (g.app oj.dst δj).av (lookO (g.app oj.dst δj).ob) K = stpD P A H f ri oi g.av (lookO g.ob) K := by
 have s1 := h.see1
 refine ⟨s1, fun K => ?_⟩
 have hob : lookO (g.app oj.dst δj).ob = upO δj.os (lookO g.ob) := funext fun c => lookO_app g oj.dst δj c
 by_cases hall : ∀ c ∈ refsR ri oi (g.app oj.dst δj).av, c ∉ δj.os.map (·.1)
 ·exact stpD_local h.loci h.ni s1 (fun c hc => by rw [hob, upO_not (hall c hc)]) K
 ·have hex : ∃ c, c ∈ refsR ri oi (g.app oj.dst δj).av ∧ c ∈ δj.os.map (·.1) := by
   apply Classical.byContradiction
   intro hn
   exact hall fun c hc hm => hn ⟨c, hc, hm⟩
  obtain ⟨c, hc, hm⟩ := hex
  have hso := (h.o1 c hc).resolve_left fun hn => hn hm
  unfold softOk at hso
  split at hso <;> try contradiction
  rename_i q j m q' i h1 h2
  simp only [Bool.and_eq_true, beq_iff] at hso
  obtain ⟨e1, e2, h3⟩ := hso
  have hS := hs q j m h1
  rw [e1, ← e2] at hS
  cases ri with
  | false => cases h2
  | true =>
   have hi : ∀ k, i = some k → k ≠ j ∧ k < m := fun k hk => by
    subst hk
    simp only [Bool.and_eq_true, Bool.not_eq_true', Nat.blt_eq] at h3
    refine ⟨fun e => ?_, h3.2⟩
    rw [beq_iff.2 e] at h3
    cases h3.1
   show stepD P A H f oi (g.app oj.dst δj).av (lookO (g.app oj.dst δj).ob) K = stepD P A H f oi g.av (lookO g.ob) K
   rw [hob, stepD_see (H := H) (f := f) (K := K) h2 hi hS]
   exact stepD_local (by simpa [locR] using h.loci) h.ni s1 (fun _ _ => rfl) K

theorem Ind.seeJ1 {rj ri : Bool} {oj oi : Oper} {g : St} {av1 : Operand → AV} {δj δi : Dl} (h : Ind P rj ri oj oi g.av av1 δj δi) : ∀ x ∈ opnds rj oj, (g.app oi.dst δi).av x = g.av x := by
 intro x hx
 cases x with
 | tmp s =>
  have hs := mem_slotsR hx
  have hne : oi.dst ≠ some s := fun e => h.d2 s e hs
  show look (g.app oi.dst δi).sl s = look g.sl s
  rw [look_app, if_neg hne]
  exact strike_same (h.keeps _ hx)
 | const v => rfl
 | func f => rfl
 | global q => rfl

theorem Ind.states {rj ri : Bool} {oj oi : Oper} {g : St} {av av1 : Operand → AV} {δj δi : Dl} (h : Ind P rj ri oj oi av av1 δj δi) : EqSt ((g.app oj.dst δj).app oi.dst δi) ((g.app oi.dst δi).app oj.dst δj) := by
 refine ⟨funext fun s => ?_, funext fun c => ?_⟩
 ·simp only [look_app]
  by_cases e1 : oi.dst = some s
  ·have e2 : oj.dst ≠ some s := fun e => h.d3 s e e1
   rw [if_pos e1, if_neg e2, if_pos e1, strike_same h.vi]
  ·rw [if_neg e1]
   by_cases e2 : oj.dst = some s
   ·rw [if_pos e2, if_pos e2, strike_same h.vj]
   ·rw [if_neg e2, if_neg e2, if_neg e1]
    refine strike_comm ?_ _
    rcases h.ks with h | h | ⟨h, h'⟩ | h
    ·exact .inr (.inl h)
    ·exact .inl h
    ·exact .inr (.inr (.inl ⟨h', h⟩))
    ·exact .inr (.inr (.inr fun k hk l hl e => h l hl k hk e.symm))
 ·simp only [lookO_app]
  show upO δi.os (lookO (g.app oj.dst δj).ob) c = upO δj.os (lookO (g.app oi.dst δi).ob) c
  unfold upO
  rw [lookO_app, lookO_app]
  unfold upO
  cases e1 : findO δi.os c with
  | none => cases e2 : findO δj.os c <;> rfl
  | some x =>
   have : findO δj.os c = none := findO_not fun hm => h.o3 c hm (findO_mem e1)
   rw [this]
   rfl

theorem opRefs_same {op : Op} {av av' : Operand → AV} (h : ∀ x ∈ op.operands.toList, av x = av' x) : opRefs av op = opRefs av' op := by
 have h2 : (op.operands.toList.flatMap fun x => (av x).refs) = op.operands.toList.flatMap fun x => (av' x).refs := by
  rw [List.flatMap_def, List.flatMap_def]
  congr 1
  exact List.map_congr_left fun x hx => by rw [h x hx]
 cases op <;> first | rfl | exact h2 | skip
 ·rename_i t x
  simp only [opRefs, h x (by simp [Op.operands])]
 ·rename_i x i
  simp only [opRefs, h x (by simp [Op.operands])]
theorem refsR_same {r : Bool} {o : Oper} {av av' : Operand → AV} (h : ∀ x ∈ opnds r o, av x = av' x) : refsR r o av = refsR r o av' := by
 cases r with
 | false => rfl
 | true => exact opRefs_same h
theorem softR_same {op : Op} {av av' : Operand → AV} (h : ∀ x ∈ op.operands.toList, av x = av' x) : softR av op = softR av' op := by
 cases op with
 | nilCheck x => simp only [softR, h x (by simp [Op.operands])]
 | fieldAddr s x j => simp only [softR, h x (by simp [Op.operands])]
 | load t x => simp only [softR, h x (by simp [Op.operands])]
 | _ => rfl
theorem softW_same {o : Oper} {av av' : Operand → AV} {os : Objs} (h : ∀ x ∈ o.op.operands.toList, av x = av' x) : softW P av o os = softW P av' o os := by
 unfold softW
 split
 ·rename_i c hop
  split
  ·rename_i hc
   split
   ·rename_i x y hx
    have : x ∈ o.op.operands.toList := by
     have hm : x ∈ c.args.toList := by rw [hx]; simp
     rw [hop]
     simp only [Op.operands, Call.operands, hc]
     simpa using hm
    rw [h x this]
   ·rfl
  ·rfl
 ·rename_i t a x hop
  rw [h a (by rw [hop]; simp [Op.operands])]
 ·rfl
/-- The earlier one sees the same behind. -/
theorem Ind.seeJ {rj ri : Bool} {oj oi : Oper} {g : St} {av1 : Operand → AV} {δj δi : Dl} (h : Ind P rj ri oj oi g.av av1 δj δi) (hs : ∀ q j m, cond ri (softW P av1 oi δi.os) none = some (q, j, m) → Soft q j m (lookO g.ob) (upO δi.os (lookO g.ob))) :
  (∀ x ∈ opnds rj oj, (g.app oi.dst δi).av x = g.av x) ∧ ∀ K, stpD P A H f rj oj (g.app oi.dst δi).av (lookO (g.app oi.dst δi).ob) K = stpD P A H f rj oj g.av (lookO g.ob) K := by
 have s1 := h.seeJ1
 refine ⟨s1, fun K => ?_⟩
 have hob : lookO (g.app oi.dst δi).ob = upO δi.os (lookO g.ob) := funext fun c => lookO_app g oi.dst δi c
 have hnj : ∀ x ∈ opnds rj oj, ((g.app oi.dst δi).av x).nest = true := fun x hx => by rw [s1 x hx]; exact h.nj x hx
 have hrf : refsR rj oj (g.app oi.dst δi).av = refsR rj oj g.av := refsR_same fun x hx => s1 x hx
 by_cases hall : ∀ c ∈ refsR rj oj g.av, c ∉ δi.os.map (·.1)
 ·exact stpD_local h.locj hnj s1 (fun c hc => by rw [hob, upO_not (hall c (hrf ▸ hc))]) K
 ·have hex : ∃ c, c ∈ refsR rj oj g.av ∧ c ∈ δi.os.map (·.1) := by
   apply Classical.byContradiction
   intro hn
   exact hall fun c hc hm => hn ⟨c, hc, hm⟩
  obtain ⟨c, hc, hm⟩ := hex
  have hso := (h.o2 c hc).resolve_left fun hn => hn hm
  unfold softOk at hso
  split at hso <;> try contradiction
  rename_i q j m q' i h1 h2
  simp only [Bool.and_eq_true, beq_iff] at hso
  obtain ⟨e1, e2, h3⟩ := hso
  have hS := hs q j m h1
  rw [e1, ← e2] at hS
  cases rj with
  | false => cases h2
  | true =>
   have hi : ∀ k, i = some k → k ≠ j ∧ k < m := fun k hk => by
    subst hk
    simp only [Bool.and_eq_true, Bool.not_eq_true', Nat.blt_eq] at h3
    refine ⟨fun e => ?_, h3.2⟩
    rw [beq_iff.2 e] at h3
    cases h3.1
   show stepD P A H f oj (g.app oi.dst δi).av (lookO (g.app oi.dst δi).ob) K = stepD P A H f oj g.av (lookO g.ob) K
   rw [hob]
   have h2' : softR (g.app oi.dst δi).av oj.op = some (q', i) := by
    rw [softR_same fun x hx => s1 x hx]
    exact h2
   rw [stepD_see (H := H) (f := f) (K := K) h2' hi hS]
   exact stepD_local (by simpa [locR] using h.locj) hnj s1 (fun _ _ => rfl) K
theorem mkFP_same {ops : Array Oper} {i : Nat} {r : Bool} {o : Oper} {av av' : Operand → AV} {δ : Dl} (h : ∀ x ∈ opnds r o, av x = av' x) : mkFP P ops i r o av δ = mkFP P ops i r o av' δ := by
 have h1 : (opnds r o).map av = (opnds r o).map av' := List.map_congr_left h
 have h2 : cond r (softR av o.op) none = cond r (softR av' o.op) none := by
  cases r with
  | false => rfl
  | true => exact softR_same h
 have h3 : cond r (softW P av o δ.os) none = cond r (softW P av' o δ.os) none := by
  cases r with
  | false => rfl
  | true => exact softW_same h
 simp only [mkFP, h1, refsR_same h, h2, h3]

/-- TWO OPERATIONS CHANGE PLACES. -/
theorem swap (hM : HndM H) {ops : Array Oper} {i j : Nat} {rj ri : Bool} {oi oj : Oper} {g : St} {R : Dl → Dl → St → Prop}
  (h : stpD P A H f rj oj g.av (lookO g.ob) fun δj => stpD P A H f ri oi (g.app oj.dst δj).av (lookO (g.app oj.dst δj).ob) fun δi => indep (mkFP P ops j rj oj g.av δj) (mkFP P ops i ri oi (g.app oj.dst δj).av δi) = true ∧ R δj δi ((g.app oj.dst δj).app oi.dst δi)) :
  stpD P A H f ri oi g.av (lookO g.ob) fun δi => stpD P A H f rj oj (g.app oi.dst δi).av (lookO (g.app oi.dst δi).ob) fun δj => mkFP P ops j rj oj (g.app oi.dst δi).av δj = mkFP P ops j rj oj g.av δj ∧ mkFP P ops i ri oi (g.app oj.dst δj).av δi = mkFP P ops i ri oi g.av δi ∧ ∃ g', EqSt g' ((g.app oi.dst δi).app oj.dst δj) ∧ R δj δi g' := by
 -- the later one, seen before
 have h := stpD_soft hM h
 have hI : ∀ δj, (stpD P A H f ri oi (g.app oj.dst δj).av (lookO (g.app oj.dst δj).ob) fun δi => indep (mkFP P ops j rj oj g.av δj) (mkFP P ops i ri oi (g.app oj.dst δj).av δi) = true ∧ R δj δi ((g.app oj.dst δj).app oi.dst δi)) ∧ (∀ q j m, cond rj (softW P g.av oj δj.os) none = some (q, j, m) → Soft q j m (lookO g.ob) (upO δj.os (lookO g.ob))) →
   stpD P A H f ri oi g.av (lookO g.ob) fun δi => (Ind P rj ri oj oi g.av (g.app oj.dst δj).av δj δi ∧ ∀ q j m, cond ri (softW P (g.app oj.dst δj).av oi δi.os) none = some (q, j, m) → Soft q j m (lookO g.ob) (upO δi.os (lookO g.ob))) ∧ mkFP P ops i ri oi (g.app oj.dst δj).av δi = mkFP P ops i ri oi g.av δi ∧ ∃ g', EqSt g' ((g.app oi.dst δi).app oj.dst δj) ∧ R δj δi g' := fun δj ⟨h1, hso⟩ => by
  obtain ⟨δi0, h2, _⟩ := stpD_ex hM h1
  have hi := (ind_of h2).1
  obtain ⟨s1, hl⟩ := hi.seeI (A := A) (H := H) (f := f) hso
  rw [hl] at h1
  refine stpD_mono hM (fun δi hd => ?_) (stpD_soft hM h1)
  obtain ⟨hd, hsi⟩ := hd
  have hi' := (ind_of hd.1).1
  refine ⟨⟨hi', fun q j m e => hsi q j m ?_⟩, mkFP_same s1, _, hi'.states, hd.2⟩
  cases ri with
  | false => exact e
  | true =>
   have e2 : softW P (g.app oj.dst δj).av oi δi.os = softW P g.av oi δi.os := softW_same fun x hx => s1 x hx
   rw [e2] at e
   exact e
 have h' : stpD P A H f rj oj g.av (lookO g.ob) fun δj => stpD P A H f ri oi g.av (lookO g.ob) fun δi => (Ind P rj ri oj oi g.av (g.app oj.dst δj).av δj δi ∧ ∀ q j m, cond ri (softW P (g.app oj.dst δj).av oi δi.os) none = some (q, j, m) → Soft q j m (lookO g.ob) (upO δi.os (lookO g.ob))) ∧ mkFP P ops i ri oi (g.app oj.dst δj).av δi = mkFP P ops i ri oi g.av δi ∧ ∃ g', EqSt g' ((g.app oi.dst δi).app oj.dst δj) ∧ R δj δi g' := stpD_mono hM hI h
 -- the earlier one, seen behind
 have hJ : ∀ δj δi K, (Ind P rj ri oj oi g.av (g.app oj.dst δj).av δj δi ∧ ∀ q j m, cond ri (softW P (g.app oj.dst δj).av oi δi.os) none = some (q, j, m) → Soft q j m (lookO g.ob) (upO δi.os (lookO g.ob))) → (stpD P A H f rj oj g.av (lookO g.ob) K → stpD P A H f rj oj (g.app oi.dst δi).av (lookO (g.app oi.dst δi).ob) K) ∧ ∀ δ, mkFP P ops j rj oj (g.app oi.dst δi).av δ = mkFP P ops j rj oj g.av δ := fun δj δi K ⟨hi, hsi⟩ => by
  obtain ⟨s1, s2⟩ := hi.seeJ (A := A) (H := H) (f := f) hsi
  exact ⟨fun h => (s2 K).symm ▸ h, fun δ => mkFP_same s1⟩
 obtain ⟨δj0, h0⟩ := stpD_ex hM h'
 obtain ⟨δi1, hi1, _⟩ := stpD_ex hM h0
 rcases hi1.1.sim with hs | hs
 ·-- the earlier one has one outcome
  have hD := stpD_det (A := A) (H := H) (f := f) (av := g.av) (ob := lookO g.ob) hs
  obtain ⟨δj1, hT, hU⟩ := hD.one _ h'
  refine stpD_mono hM (fun δi hd => ?_) hT
  obtain ⟨j1, j2⟩ := hJ δj1 δi _ hd.1
  refine j1 (stpD_mono hM (fun δj e => ?_) hU)
  subst e
  exact ⟨j2 _, hd.2⟩
 ·have hD := stpD_det (A := A) (H := H) (f := f) (av := g.av) (ob := lookO g.ob) hs
  obtain ⟨δi0, hT, hU⟩ := hD.one _ h0
  have hall : stpD P A H f rj oj g.av (lookO g.ob) fun δj => (Ind P rj ri oj oi g.av (g.app oj.dst δj).av δj δi0 ∧ ∀ q j m, cond ri (softW P (g.app oj.dst δj).av oi δi0.os) none = some (q, j, m) → Soft q j m (lookO g.ob) (upO δi0.os (lookO g.ob))) ∧ mkFP P ops i ri oi (g.app oj.dst δj).av δi0 = mkFP P ops i ri oi g.av δi0 ∧ ∃ g', EqSt g' ((g.app oi.dst δi0).app oj.dst δj) ∧ R δj δi0 g' := stpD_mono hM (fun δj hd => by
   obtain ⟨x, hx, e⟩ := hD.same _ _ hd hU
   subst e
   exact hx) h'
  refine stpD_mono hM (fun δi e => ?_) hU
  subst e
  obtain ⟨j1, j2⟩ := hJ δj0 _ _ hT.1
  exact j1 (stpD_mono hM (fun δj hd => ⟨j2 _, hd.2⟩) hall)

/-! Guards. -/
def goutV (P : Program) (s : Nat) (want : Bool) : AV → Option (Bool × Option (Nat × Bool))
 | .imm t d => if isB P t = true then some (d.b == want, some (s, d.b)) else none
 | .und => some (false, none)
 | _ => none
/-- A guard's outcome: does the operation run, what is known of the guard. -/
def gout (P : Program) (ops : Array Oper) (o : Oper) (g : St) : Option (Bool × Option (Nat × Bool)) := match o.guard with
 | none => some (true, none)
 | some (j, want) => match (ops[j]?).bind (·.dst) with
  | some s => goutV P s want (look g.sl s)
  | none => none
def St.kn (g : St) : Option (Nat × Bool) → St
 | none => g
 | some (s, b) => g.know s b

theorem kn_ob (g : St) (k : Option (Nat × Bool)) : (g.kn k).ob = g.ob := by
 cases k <;> rfl

theorem turn_eq {ops : Array Oper} {o : Oper} {g : St} {K : Bool → St → Dl → Prop} : g.turn P A H f ops o K = match gout P ops o g with
  | none => False
  | some (r, k) => stpD P A H f r o (g.kn k).av (lookO g.ob) fun δ => K r (g.kn k) δ := by
 unfold St.turn gout
 cases o.guard with
 | none => rfl
 | some jw =>
  obtain ⟨j, want⟩ := jw
  simp only
  cases (ops[j]?).bind (·.dst) with
  | none => rfl
  | some s =>
   simp only
   cases look g.sl s with
   | imm t d =>
    simp only [goutV]
    cases isB P t with
    | false => rfl
    | true => cases d.b <;> cases want <;> rfl
   | _ => rfl

/-- What a guard's outcome says. -/
theorem gout_inv {ops : Array Oper} {o : Oper} {g : St} {r : Bool} {s : Nat} {b : Bool} (h : gout P ops o g = some (r, some (s, b))) : gslot ops o = some s ∧ ∃ t d, look g.sl s = .imm t d ∧ b = d.b := by
 unfold gout at h
 unfold gslot
 cases hg : o.guard with
 | none => rw [hg] at h; simp at h
 | some jw =>
  obtain ⟨j, want⟩ := jw
  rw [hg] at h
  simp only at h ⊢
  cases hs : (ops[j]?).bind (·.dst) with
  | none => rw [hs] at h; cases h
  | some s' =>
   rw [hs] at h
   simp only at h
   cases hl : look g.sl s' with
   | imm t d =>
    rw [hl] at h
    simp only [goutV] at h
    split at h
    ·simp only [Option.some.injEq, Prod.mk.injEq] at h
     obtain ⟨_, rfl, rfl⟩ := h
     exact ⟨rfl, t, d, hl, rfl⟩
    ·cases h
   | _ => rw [hl] at h; simp [goutV] at h
theorem gout_run {ops : Array Oper} {o : Oper} {g : St} {r : Bool} {s : Nat} {k : Option (Nat × Bool)} (h : gout P ops o g = some (r, k)) (hs : gslot ops o = some s) : (∃ t d, look g.sl s = .imm t d ∧ k = some (s, d.b)) ∨ (look g.sl s = .und ∧ k = none) := by
 unfold gslot at hs
 unfold gout at h
 cases hg : o.guard with
 | none => rw [hg] at hs; cases hs
 | some jw =>
  obtain ⟨j, want⟩ := jw
  rw [hg] at h hs
  simp only at h hs
  rw [hs] at h
  simp only at h
  cases hl : look g.sl s with
  | imm t d =>
   rw [hl] at h
   simp only [goutV] at h
   split at h
   ·simp only [Option.some.injEq, Prod.mk.injEq] at h
    exact .inl ⟨t, d, rfl, h.2.symm⟩
   ·cases h
  | und =>
   rw [hl] at h
   simp only [goutV, Option.some.injEq, Prod.mk.injEq] at h
   exact .inr ⟨rfl, h.2.symm⟩
  | _ => rw [hl] at h; simp [goutV] at h

theorem strike_imm (t : Nat) (d : D) : ∀ ks, strike ks (.imm t d) = .imm t d
 | [] => rfl
 | k :: ks => by
  have : fall k (.imm t d) = .imm t d := by
   obtain ⟨o, m⟩ := k
   cases m <;> rfl
  rw [strike, this, strike_imm t d ks]

theorem goutV_fall (s : Nat) (want : Bool) (k : Nat × KM) (a : AV) : goutV P s want (fall k a) = goutV P s want a := by
 obtain ⟨o, m⟩ := k
 have key : ∀ a : AV, goutV P s want (fall1 o m a) = goutV P s want a := by
  intro a
  have hI : ∀ t d, fall1 o m (.imm t d) = .imm t d := fun t d => by cases m <;> rfl
  have hU : fall1 o m .und = .und := by cases m <;> rfl
  cases a with
  | imm t d => rw [hI]
  | und => rw [hU]
  | _ =>
   rcases fall1_cases o m _ with h | h | ⟨_, t, x, h⟩ <;> rw [h] <;> rfl
 cases a with
 | clo f l => rfl
 | tup l => rfl
 | _ => exact key _
theorem goutV_strike (s : Nat) (want : Bool) : ∀ (ks : List (Nat × KM)) (a : AV), goutV P s want (strike ks a) = goutV P s want a
 | [], a => rfl
 | k :: ks, a => by rw [strike, goutV_strike s want ks, goutV_fall]

theorem look_know (g : St) (s : Nat) (b : Bool) (k : Nat) : look (g.know s b).sl k = if s = k then (match look g.sl s with
  | .imm t _ => .imm t (.bool b)
  | a => a) else look g.sl k := by
 show look ((s, _) :: g.sl) k = _
 rw [look_cons]
 rfl

/-- A guard's outcome stays. -/
theorem gout_stable {ops : Array Oper} {oj oi : Oper} {g : St} {rj : Bool} {kj : Option (Nat × Bool)} (hj : gout P ops oj g = some (rj, kj)) (hd : ∀ s, gslot ops oi = some s → oj.dst ≠ some s) (δ : Dl) : gout P ops oi ((g.kn kj).app oj.dst δ) = gout P ops oi g := by
 unfold gout
 cases hg : oi.guard with
 | none => rfl
 | some jw =>
  obtain ⟨j, want⟩ := jw
  simp only
  cases hs : (ops[j]?).bind (·.dst) with
  | none => rfl
  | some s =>
   simp only
   rw [look_app, if_neg (hd s (by unfold gslot; rw [hg]; exact hs)), goutV_strike]
   cases kj with
   | none => rfl
   | some sb =>
    obtain ⟨s', b⟩ := sb
    obtain ⟨_, t, d, hl, rfl⟩ := gout_inv hj
    show goutV P s want (look (g.know s' d.b).sl s) = _
    rw [look_know]
    by_cases e : s' = s
    ·subst e
     rw [if_pos rfl, hl]
     rfl
    ·rw [if_neg e]

theorem kn_comm {ops : Array Oper} {oj oi : Oper} {g : St} {rj ri : Bool} {kj ki : Option (Nat × Bool)} (hj : gout P ops oj g = some (rj, kj)) (hi : gout P ops oi g = some (ri, ki)) : EqSt ((g.kn kj).kn ki) ((g.kn ki).kn kj) := by
 refine ⟨funext fun k => ?_, by rw [kn_ob, kn_ob, kn_ob, kn_ob]⟩
 cases kj with
 | none => rfl
 | some a =>
  cases ki with
  | none => rfl
  | some b =>
   obtain ⟨s, x⟩ := a
   obtain ⟨s', y⟩ := b
   obtain ⟨_, t, d, hl, rfl⟩ := gout_inv hj
   obtain ⟨_, t', d', hl', rfl⟩ := gout_inv hi
   show look ((g.know s d.b).know s' d'.b).sl k = look ((g.know s' d'.b).know s d.b).sl k
   simp only [look_know, hl, hl']
   by_cases e : s = s'
   ·subst e
    rw [hl] at hl'
    injection hl' with h1 h2
    subst h1; subst h2
    rfl
   ·by_cases e1 : s' = k
    ·subst e1
     simp [e]
    ·by_cases e2 : s = k
     ·subst e2
      simp [e1]
     ·simp [e1, e2]

/-- What is known of another guard does not matter. -/
theorem kn_same {ops : Array Oper} {oj oi : Oper} {g : St} {rj ri : Bool} {kj ki : Option (Nat × Bool)} (hj : gout P ops oj g = some (rj, kj)) (hi : gout P ops oi g = some (ri, ki)) (hg : ∀ s, gslot ops oi = some s → s ∈ slotsR rj oj → gslot ops oj = some s) :
  ∀ x ∈ opnds rj oj, (g.kn kj).av x = ((g.kn kj).kn ki).av x := by
 intro x hx
 cases ki with
 | none => rfl
 | some b =>
  obtain ⟨s', y⟩ := b
  obtain ⟨h1, t', d', hl', rfl⟩ := gout_inv hi
  cases x with
  | tmp s =>
   show look (g.kn kj).sl s = look ((g.kn kj).know s' d'.b).sl s
   rw [look_know]
   by_cases e : s' = s
   ·subst e
    rw [if_pos rfl]
    have h2 := hg s' h1 (mem_slotsR hx)
    rcases gout_run hj h2 with ⟨t, d, h3, rfl⟩ | ⟨h3, rfl⟩
    ·rw [hl'] at h3
     injection h3 with h3 h4
     subst h3; subst h4
     show look (g.know s' d'.b).sl s' = _
     rw [look_know, if_pos rfl, hl']
     show _ = match look (g.know s' d'.b).sl s' with
      | .imm t _ => AV.imm t (.bool d'.b)
      | a => a
     rw [look_know, if_pos rfl, hl']
    ·rw [hl'] at h3; cases h3
   ·rw [if_neg e]
  | const v => rfl
  | func f => rfl
  | global q => rfl

theorem kn_app {ops : Array Oper} {oj oi : Oper} {g : St} {rj ri : Bool} {kj ki : Option (Nat × Bool)} (hj : gout P ops oj g = some (rj, kj)) (hi : gout P ops oi g = some (ri, ki)) (hd : ∀ s, gslot ops oi = some s → oj.dst ≠ some s) (δ : Dl) :
  EqSt (((g.kn kj).app oj.dst δ).kn ki) (((g.kn kj).kn ki).app oj.dst δ) := by
 refine ⟨funext fun k => ?_, funext fun c => by rw [kn_ob, lookO_app, lookO_app, kn_ob ((g.kn kj))]⟩
 cases ki with
 | none => rfl
 | some b =>
  obtain ⟨s', y⟩ := b
  obtain ⟨h1, t', d', hl', rfl⟩ := gout_inv hi
  have hn := hd s' h1
  have hlj : ∃ z, look (g.kn kj).sl s' = .imm t' z := by
   cases kj with
   | none => exact ⟨d', hl'⟩
   | some a =>
    obtain ⟨s, x⟩ := a
    show ∃ z, look (g.know s x).sl s' = .imm t' z
    rw [look_know]
    by_cases e : s = s'
    ·subst e
     rw [if_pos rfl, hl']
     exact ⟨_, rfl⟩
    ·rw [if_neg e]
     exact ⟨_, hl'⟩
  obtain ⟨z, hz⟩ := hlj
  show look (((g.kn kj).app oj.dst δ).know s' d'.b).sl k = look (((g.kn kj).know s' d'.b).app oj.dst δ).sl k
  rw [look_know, look_app, look_app, look_app, look_know]
  rw [if_neg hn, hz, strike_imm]
  by_cases e : s' = k
  ·subst e
   rw [if_pos rfl, if_neg hn, if_pos rfl, strike_imm]
  ·rw [if_neg e, if_neg e]

/-- TWO OPERATIONS UNDER THEIR GUARDS CHANGE PLACES. -/
theorem swapG (hM : HndM H) {ops : Array Oper} {i j : Nat} {oi oj : Oper} {g : St} {R : FP → FP → St → Prop}
  (h : g.turn P A H f ops oj fun rj gj δj => (gj.app oj.dst δj).turn P A H f ops oi fun ri gi δi => indep (mkFP P ops j rj oj gj.av δj) (mkFP P ops i ri oi gi.av δi) = true ∧ R (mkFP P ops j rj oj gj.av δj) (mkFP P ops i ri oi gi.av δi) (gi.app oi.dst δi)) :
  g.turn P A H f ops oi fun ri gi δi => (gi.app oi.dst δi).turn P A H f ops oj fun rj gj δj => ∃ g', EqSt g' (gj.app oj.dst δj) ∧ R (mkFP P ops j rj oj gj.av δj) (mkFP P ops i ri oi gi.av δi) g' := by
 rw [turn_eq] at h
 cases hj : gout P ops oj g with
 | none => rw [hj] at h; exact h.elim
 | some rkj =>
  obtain ⟨rj, kj⟩ := rkj
  rw [hj] at h
  simp only at h
  obtain ⟨δj0, h0⟩ := stpD_ex hM h
  rw [turn_eq] at h0
  cases hi0 : gout P ops oi ((g.kn kj).app oj.dst δj0) with
  | none => rw [hi0] at h0; exact h0.elim
  | some rki =>
   obtain ⟨ri, ki⟩ := rki
   rw [hi0] at h0
   simp only at h0
   obtain ⟨δi0, h1, _⟩ := stpD_ex hM h0
   obtain ⟨I0, G0⟩ := ind_of h1
   have hi : gout P ops oi g = some (ri, ki) := by rw [← hi0]; exact (gout_stable hj G0.g2 δj0).symm
   have sj := kn_same hj hi G0.g4
   have si0 := kn_same hi hj G0.g3
   have cm := kn_comm hj hi
   have si : ∀ x ∈ opnds ri oi, (g.kn ki).av x = ((g.kn kj).kn ki).av x := fun x hx => by rw [si0 x hx, ← cm.av]
   have aj := fun δ => kn_app hj hi G0.g2 δ
   have ai := fun δ => kn_app hi hj G0.g1 δ
   have obG : ((g.kn kj).kn ki).ob = g.ob := by rw [kn_ob, kn_ob]
   -- all at one state
   have hA : stpD P A H f rj oj ((g.kn kj).kn ki).av (lookO ((g.kn kj).kn ki).ob) fun δj => stpD P A H f ri oi (((g.kn kj).kn ki).app oj.dst δj).av (lookO (((g.kn kj).kn ki).app oj.dst δj).ob) fun δi =>
     indep (mkFP P ops j rj oj ((g.kn kj).kn ki).av δj) (mkFP P ops i ri oi (((g.kn kj).kn ki).app oj.dst δj).av δi) = true ∧ ∃ g', EqSt g' ((((g.kn kj).kn ki).app oj.dst δj).app oi.dst δi) ∧ R (mkFP P ops j rj oj ((g.kn kj).kn ki).av δj) (mkFP P ops i ri oi (((g.kn kj).kn ki).app oj.dst δj).av δi) g' := by
    have hloc := stpD_local (P := P) (A := A) (H := H) (f := f) (ob := lookO g.ob) (ob' := lookO ((g.kn kj).kn ki).ob) I0.locj I0.nj sj (fun _ _ => by rw [obG])
    rw [← hloc]
    refine stpD_mono hM (fun δj h2 => ?_) h
    rw [turn_eq, gout_stable hj G0.g2 δj, hi] at h2
    simp only at h2
    have eo : lookO ((g.kn kj).app oj.dst δj).ob = lookO (((g.kn kj).kn ki).app oj.dst δj).ob := by
     have := (aj δj).2
     rw [kn_ob] at this
     exact this
    rw [(aj δj).av, eo] at h2
    refine stpD_mono hM (fun δi h3 => ?_) h2
    rw [mkFP_same sj] at h3
    exact ⟨h3.1, _, (aj δj).app oi.dst δi, h3.2⟩
   have hS := swap (R := fun δj δi X => ∃ g', EqSt g' X ∧ R (mkFP P ops j rj oj ((g.kn kj).kn ki).av δj) (mkFP P ops i ri oi (((g.kn kj).kn ki).app oj.dst δj).av δi) g') hM hA
   rw [turn_eq, hi]
   simp only
   have hnI : ∀ x ∈ opnds ri oi, (((g.kn kj).kn ki).av x).nest = true := fun x hx => by
    obtain ⟨δj1, h2⟩ := stpD_ex hM hA
    obtain ⟨δi1, h3, _⟩ := stpD_ex hM h2
    have I1 := (ind_of h3).1
    have := I1.ni x hx
    rw [I1.see1 x hx] at this
    exact this
   have hloc := stpD_local (P := P) (A := A) (H := H) (f := f) (ob := lookO ((g.kn kj).kn ki).ob) (ob' := lookO g.ob) I0.loci hnI (fun x hx => (si x hx).symm) (fun _ _ => by rw [obG])
   rw [← hloc]
   refine stpD_mono hM (fun δi h2 => ?_) hS
   rw [turn_eq, gout_stable hi G0.g1 δi, hj]
   simp only
   have e1 : EqSt (((g.kn ki).app oi.dst δi).kn kj) (((g.kn kj).kn ki).app oi.dst δi) := by
    have h3 := ai δi
    have h4 := cm.symm.app oi.dst δi
    exact ⟨h3.1.trans h4.1, h3.2.trans h4.2⟩
   have eo : lookO ((g.kn ki).app oi.dst δi).ob = lookO (((g.kn kj).kn ki).app oi.dst δi).ob := by
    have := e1.2
    rw [kn_ob] at this
    exact this
   rw [e1.av, eo]
   refine stpD_mono hM (fun δj h3 => ?_) h2
   obtain ⟨f1, f2, g1, he, g2, he2, hR⟩ := h3
   have e2 := e1.symm.app oj.dst δj
   refine ⟨g2, ⟨(he2.1.trans he.1).trans e2.1, (he2.2.trans he.2).trans e2.2⟩, ?_⟩
   rw [mkFP_same si, f1, ← f2]
   exact hR

/-- An operation's turn, where its rule is met. -/
def Turn (P : Program) (A : Ann) (H : Hnd) (f : Nat) (ops : Array Oper) (i : Nat) (oi : Oper) (fps : List FP) (g : St) (R : List Nat) (K : St → Prop) : Prop :=
 dstOk P A f oi.dst = true ∧ g.turn P A H f ops oi fun r g1 δi => (fps.all fun p => anc ops ops.size i p.i || indep p (mkFP P ops i r oi g1.av δi)) = true ∧ wpD P A H f ops R fps (g1.app oi.dst δi) K

/-- AN OPERATION COMES FIRST. -/
theorem front (hM : HndM H) {ops : Array Oper} {K : St → Prop} (hK : Closed K) {i : Nat} {oi : Oper} (hi : ops[i]? = some oi) : ∀ (R : List Nat) (fps : List FP) (g : St), i ∈ R → R.Nodup → (∀ j ∈ R, anc ops ops.size i j = false) → (∀ j ∈ R, j < ops.size) → wpD P A H f ops R fps g K → Turn P A H f ops i oi fps g (R.erase i) K
 | [], fps, g, hm, _, _, _, _ => by cases hm
 | j :: R, fps, g, hm, hnd, ha, hlt, h => by
  by_cases e : j = i
  ·subst e
   rw [List.erase_cons_head]
   simp only [wpD, hi] at h
   obtain ⟨h1, h2⟩ := of_cond h
   refine ⟨h1, St.turn_mono hM (fun r g1 δ hδ => ?_) h2⟩
   obtain ⟨h3, h4⟩ := of_cond hδ
   exact ⟨h3, wpD_mono hM (fun _ h => h) _ _ _ _ (fun p hp => List.mem_cons_of_mem _ hp) h4⟩
  ·have hm' : i ∈ R := (List.mem_cons.1 hm).resolve_left fun h => e h.symm
   have hnd' := (List.nodup_cons.1 hnd).2
   rw [List.erase_cons_tail (by simpa using e)]
   have IH := fun fps g h => front hM hK hi R fps g hm' hnd' (fun j hj => ha j (List.mem_cons_of_mem _ hj)) (fun j hj => hlt j (List.mem_cons_of_mem _ hj)) h
   have hj : ops[j]? = some ops[j]! := by
    have := hlt j (by simp)
    simp [this]
   generalize ops[j]! = oj at hj
   simp only [wpD, hj] at h
   obtain ⟨h1, h2⟩ := of_cond h
   have haj : anc ops ops.size i j = false := ha j (by simp)
   have h3 := St.turn_mono hM (K' := fun rj gj δj => (gj.app oj.dst δj).turn P A H f ops oi fun ri gi δi => indep (mkFP P ops j rj oj gj.av δj) (mkFP P ops i ri oi gi.av δi) = true ∧
    ((fps.all fun p => anc ops ops.size j p.i || indep p (mkFP P ops j rj oj gj.av δj)) = true ∧ dstOk P A f oi.dst = true ∧ (fps.all fun p => anc ops ops.size i p.i || indep p (mkFP P ops i ri oi gi.av δi)) = true ∧ wpD P A H f ops (R.erase i) (mkFP P ops j rj oj gj.av δj :: fps) (gi.app oi.dst δi) K)) (fun rj gj δj hδ => by
      obtain ⟨h3, h4⟩ := of_cond hδ
      obtain ⟨h5, h6⟩ := IH _ _ h4
      refine St.turn_mono hM (fun ri gi δi h7 => ?_) h6
      obtain ⟨h8, h9⟩ := h7
      simp only [List.all_cons, Bool.and_eq_true, Bool.or_eq_true] at h8
      refine ⟨?_, h3, h5, h8.2, h9⟩
      rcases h8.1 with h10 | h10
      ·have h11 : anc ops ops.size i j = true := h10
       rw [haj] at h11; cases h11
      ·exact h10) h2
   have h4 := swapG (i := i) (j := j) (R := fun fj fi g' => (fps.all fun p => anc ops ops.size j p.i || indep p fj) = true ∧ dstOk P A f oi.dst = true ∧ (fps.all fun p => anc ops ops.size i p.i || indep p fi) = true ∧ wpD P A H f ops (R.erase i) (fj :: fps) g' K) hM h3
   have hdst : dstOk P A f oi.dst = true := by
    obtain ⟨_, _, _, h5⟩ := St.turn_ex hM h4
    obtain ⟨_, _, _, g', _, h6⟩ := St.turn_ex hM h5
    exact h6.2.1
   refine ⟨hdst, St.turn_mono hM (fun ri gi δi h5 => ?_) h4⟩
   obtain ⟨_, _, _, g0, _, h6⟩ := St.turn_ex hM h5
   refine ⟨h6.2.2.1, ?_⟩
   simp only [wpD, hj]
   rw [h1, cond_true]
   refine St.turn_mono hM (fun rj gj δj h7 => ?_) h5
   obtain ⟨g', he, h8⟩ := h7
   rw [h8.1, cond_true]
   exact wpD_eq hM hK _ _ _ _ he h8.2.2.2

end
end Go.Ab

/- Regions whose order is drawn. -/
namespace Go.Ab
variable {P : Program} {A : Ann}

section
variable {H : Hnd} {f : Nat}

/-- What is left to do. -/
def leftR (ops : Array Oper) (listed : Array Bool) : List Nat := (List.range ops.size).filter fun i => !listed.getD i true

/-- What is listed has what is ahead of it listed. -/
def ClosedL (ops : Array Oper) (listed : Array Bool) : Prop := ∀ (i : Nat) (o : Oper), ops[i]? = some o → listed.getD i false = true → ∀ e ∈ o.after, Region.binds .any e = true → listed.getD e.on false = true

theorem getD_tf {listed : Array Bool} {i : Nat} (h : i < listed.size) : listed.getD i true = listed.getD i false := by
 simp [Array.getD_eq_getD_getElem?, h]

theorem anc_listed {ops : Array Oper} {listed : Array Bool} (hc : ClosedL ops listed) : ∀ (n i j : Nat), (∀ (o : Oper), ops[i]? = some o → ∀ e ∈ o.after, Region.binds .any e = true → listed.getD e.on false = true) → anc ops n i j = true → listed.getD j false = true
 | 0, i, j, _, h => by simp [anc] at h
 | n + 1, i, j, hp, h => by
  simp only [anc] at h
  split at h
  ·rename_i o ho
   obtain ⟨e, he, hb⟩ := List.any_eq_true.1 h
   simp only [Bool.and_eq_true, Bool.or_eq_true, beq_iff] at hb
   have hl := hp o ho e (by simpa using he) hb.1
   rcases hb.2 with h2 | h2
   ·rw [← h2]; exact hl
   ·exact anc_listed hc n e.on j (fun o' ho' e' he' hb' => hc e.on o' ho' hl e' he' hb') h2
  ·cases h

theorem Stands.drew {X0 Y0 : Nat → Prop} {w0 : World} {av0 : Nat → Value} {g : St} {a : Act} {w : World} (S : Stands P A X0 Y0 w0 f av0 g a w) : Stands P A X0 Y0 w0 f av0 g a { w with drawn := w.drawn + 1 } := by
 obtain ⟨⟨ph, R⟩, hA⟩ := S
 have hk : Keeps (fun _ => False) w { w with drawn := w.drawn + 1 } := ⟨rfl, rfl, rfl, Nat.le_refl _, fun _ _ _ => rfl⟩
 refine ⟨⟨ph, ⟨fun o x hx => ?_, R.objs.apart, R.objs.free, R.objs.ours, R.objs.old⟩, fun s => ?_, R.keeps.trans hk (fun _ h => h) fun _ _ h => h.elim⟩, hA⟩
 ·exact OkObj.frame (w := w) (w' := { w with drawn := w.drawn + 1 }) (Nat.le_refl w.heap.size) (fun _ _ h => h) (fun _ _ _ => rfl) (R.objs.ok o x hx) fun _ _ => rfl
 ·exact AVR.stays (ks := []) (w := w) (w' := { w with drawn := w.drawn + 1 }) (Nat.le_refl _) (fun _ _ h => h) (fun _ _ _ => rfl) (by simp) (fun c z hz => .same rfl rfl fun _ _ => rfl) (fun c z z' _ _ _ _ _ b _ hh => hh) (R.slots s)

theorem left_set {ops : Array Oper} {listed : Array Bool} {i : Nat} (hs : listed.size = ops.size) (hi : i ∈ leftR ops listed) : leftR ops (listed.setIfInBounds i true) = (leftR ops listed).erase i := by
 have hlt : i < ops.size := by
  have := (List.mem_filter.1 hi).1
  simpa using this
 have hnd : (leftR ops listed).Nodup := List.Pairwise.filter _ List.nodup_range
 rw [hnd.erase_eq_filter]
 unfold leftR
 rw [List.filter_filter]
 refine List.filter_congr fun j hj => ?_
 have hj' : j < ops.size := by simpa using hj
 by_cases e : j = i
 ·subst e
  simp [Array.getD_eq_getD_getElem?, hs, hlt]
 ·have : (listed.setIfInBounds i true).getD j true = listed.getD j true := by
   simp only [Array.getD_eq_getD_getElem?, Array.getElem?_setIfInBounds, if_neg (fun h => e (Eq.symm h))]
  rw [this]
  simp [e]

theorem any_ok (W : WF P) (hH : HndOk P A H) (hM : HndM H) {ops : Array Oper} (hf : fwdOk ops = true) {X0 Y0 : Nat → Prop} {w0 : World} {av0 : Nat → Value} {K : St → Prop} (hK : Closed K) {Q : Exit → Act → World → Prop} (hQ : ∀ g' a' w', Stands P A X0 Y0 w0 f av0 g' a' w' → K g' → Q .normal a' w') :
  ∀ (fuel : Nat) (listed : Array Bool) (g : St) (a : Act) (w : World), Stands P A X0 Y0 w0 f av0 g a w → listed.size = ops.size → ClosedL ops listed → (leftR ops listed).length ≤ fuel → wpD P A H f ops (leftR ops listed) [] g K → wpAny P .any ops Q fuel listed a w := by
 have hmem : ∀ (listed : Array Bool) (i : Nat), i ∈ Region.ready .any ops listed → i ∈ leftR ops listed := fun listed i hi => by
  obtain ⟨h1, o, ho, _⟩ := mem_ready.1 hi
  exact List.mem_filter.2 ⟨by simpa using (Array.getElem?_eq_some_iff.1 ho).1, by rw [h1]; rfl⟩
 have hempty : ∀ (listed : Array Bool), listed.size = ops.size → Region.ready .any ops listed = [] → leftR ops listed = [] := fun listed hs he => by
  cases hR : leftR ops listed with
  | nil => rfl
  | cons x R =>
   exfalso
   obtain ⟨i, hi, hmin⟩ := exists_min (p := fun i => i ∈ leftR ops listed) ⟨x, by rw [hR]; simp⟩
   have hlt : i < ops.size := by simpa using (List.mem_filter.1 hi).1
   have ho : ops[i]? = some ops[i] := by simp [hlt]
   have : i ∈ Region.ready .any ops listed := by
    refine mem_ready.2 ⟨by have := (List.mem_filter.1 hi).2; simpa using this, ops[i], ho, fun e he' hb => ?_⟩
    have h1 := List.all_eq_true.1 hf i (by simpa using hlt)
    rw [ho] at h1
    have h2 := List.all_eq_true.1 h1 e (by simpa using he')
    rw [hb] at h2
    simp only [Bool.not_true, Bool.false_or, Nat.blt_eq] at h2
    have h3 : e.on < listed.size := by omega
    rw [← getD_tf h3]
    cases h4 : listed.getD e.on true with
    | true => rfl
    | false =>
     have := hmin e.on (List.mem_filter.2 ⟨by simp; omega, by rw [h4]; rfl⟩)
     omega
   rw [he] at this
   cases this
 intro fuel
 induction fuel with
 | zero =>
  intro listed g a w S hs hc hl h
  have hR : leftR ops listed = [] := List.eq_nil_of_length_eq_zero (by omega)
  rw [hR] at h
  refine ⟨?_, hQ g a w S h⟩
  apply List.eq_nil_iff_forall_not_mem.2
  intro i hi
  have := hmem listed i hi
  rw [hR] at this
  cases this
 | succ fuel ih =>
  intro listed g a w S hs hc hl h
  refine ⟨fun he => ?_, fun i hi => ?_⟩
  ·rw [hempty listed hs he] at h
   exact hQ g a w S h
  ·have hiR := hmem listed i hi
   obtain ⟨h1, o, ho, hpre⟩ := mem_ready.1 hi
   have hlt : i < ops.size := (Array.getElem?_eq_some_iff.1 ho).1
   have hnd : (leftR ops listed).Nodup := List.Pairwise.filter _ List.nodup_range
   have hall : ∀ j ∈ leftR ops listed, j < ops.size := fun j hj => by simpa using (List.mem_filter.1 hj).1
   have hanc : ∀ j ∈ leftR ops listed, anc ops ops.size i j = false := fun j hj => by
    cases e : anc ops ops.size i j with
    | false => rfl
    | true =>
     have h2 := anc_listed hc ops.size i j (fun o' ho' e' he' hb' => by rw [ho] at ho'; injection ho' with ho'; subst ho'; exact hpre e' he' hb') e
     have h3 := (List.mem_filter.1 hj).2
     rw [← getD_tf (by rw [hs]; exact hall j hj)] at h2
     rw [h2] at h3
     cases h3
   have hset := left_set hs hiR
   have hc' : ClosedL ops (listed.setIfInBounds i true) := fun j oj hj hl' e he hb => by
    have hkeep : ∀ k, listed.getD k false = true → (listed.setIfInBounds i true).getD k false = true := fun k hk => getD_set_true hk
    by_cases e1 : j = i
    ·subst e1
     rw [ho] at hj
     injection hj with hj
     subst hj
     exact hkeep _ (hpre e he hb)
    ·have : listed.getD j false = true := by
      have e2 : (listed.setIfInBounds i true).getD j false = listed.getD j false := getD_set_ne false fun h => e1 h.symm
      rw [← e2]; exact hl'
     exact hkeep _ (hc j oj hj this e he hb)
   have hlen : ((leftR ops listed).erase i).length ≤ fuel := by
    have := List.length_erase_of_mem hiR
    omega
   have next : ∀ g' a' w', Stands P A X0 Y0 w0 f av0 g' a' w' → wpD P A H f ops ((leftR ops listed).erase i) [] g' K → wpAny P .any ops Q fuel (listed.setIfInBounds i true) a' w' := fun g' a' w' S' h' => ih _ g' a' w' S' (by simp [hs]) hc' (by rw [hset]; exact hlen) (by rw [hset]; exact h')
   unfold wpOp
   rw [ho]
   simp only
   obtain ⟨h2, h3⟩ := front hM hK ho _ [] g hiR hnd hanc hall h
   have hst : g.guard P A H f ops o fun g' => wpD P A H f ops ((leftR ops listed).erase i) [] g' K :=
    St.turn_guard hM h2 (St.turn_mono hM (fun r g1 δ hδ => hδ.2) h3)
   have := guard_rel W hH S hst _ Q next
   split at this
   ·rename_i hw; rw [if_pos hw]; exact .inl this
   ·rename_i hw; rw [if_neg hw]; exact this

/-- A region whose order is drawn does what its rule says. -/
theorem draw_ok (W : WF P) (hm : P.follows .mixedOrders = true) (hH : HndOk P A H) (hM : HndM H) : DrawOk P A H := by
 intro f ops g K hf h X0 Y0 w0 av0 a w Q id S hQ
 refine wp_region_any hm ?_
 have hK : Closed fun g => ∃ g', EqSt g' g ∧ K g' := fun g1 g2 he ⟨g', h1, h2⟩ => ⟨g', ⟨h1.1.trans he.1, h1.2.trans he.2⟩, h2⟩
 have hleft : leftR ops (Array.replicate ops.size false) = List.range ops.size := by
  unfold leftR
  rw [List.filter_eq_self]
  intro i hi
  have hi' : i < ops.size := by simpa using hi
  simp [Array.getD_eq_getD_getElem?, hi']
 refine any_ok W hH hM hf hK (fun g' a' w' S' h' => ?_) ops.size _ g a _ S.drew (by simp) (fun i o _ hl => ?_) (by rw [hleft]; simp) (by
  rw [hleft]
  exact wpD_mono hM (fun g h => ⟨g, ⟨rfl, rfl⟩, h⟩) _ _ _ _ (fun _ h => h) h)
 ·obtain ⟨g2, he, h2⟩ := h'
  obtain ⟨⟨ph, R⟩, hA⟩ := S'
  have R2 : RelA P A X0 Y0 w0 g2 ph a' w' := by
   have e1 : look g2.sl = look g'.sl := he.1
   have e2 : lookO g2.ob = lookO g'.ob := he.2
   unfold RelA at R ⊢
   rw [e1, e2]
   exact R
  exact hQ g2 a' w' ⟨⟨ph, R2⟩, hA⟩ h2
 ·exfalso
  rw [Array.getD_eq_getD_getElem?, Array.getElem?_replicate] at hl
  split at hl <;> cases hl

end

/-- EVERY FUNCTION DOES WHAT ITS RULE SAYS. -/
theorem rule_ok (W : WF P) (hSp : SpOk P A) (hm : P.follows .mixedOrders = true) {n f : Nat} {ds : List D} {Q : List D → Prop} (h : wpF P A n f ds Q) {X0 : Nat → Prop} {w : World} {args : Array Value} {phL : Nat → Ph} (hA : Args P A X0 w (A.sig f).cel (A.sig f).ps args ds phL) :
  Calls P f args w fun e w' => ∃ v r phR vs, e = .returned v ∧ Q r ∧ Ret P A X0 (lentY (A.sig f).ps ds phL) w w' (A.sig f) phL v r phR vs :=
 wpF_ok W hSp (fun n hH => draw_ok W hm hH (hnd_m n)) h hA

end Go.Ab

/- A program is well formed, as far as the rules ask: a check, and what it gives. -/
namespace Go.Ab

def notOther (P : Program) (t : Nat) : Bool := match tk P t with
 | .other => false
 | _ => true
theorem notOther_ok {P : Program} {t : Nat} (h : notOther P t = true) : tk P t ≠ .other := by
 intro e; simp [notOther, e] at h

def tileB (P : Program) : List (Nat × Nat) → Nat → Nat → Bool
 | [], o, n => Nat.beq o n
 | (ft, p) :: r, o, n => Nat.beq p o && notOther P ft && tileB P r (o + P.cellsOf ft) n

def tyB (P : Program) (t : Nat) : Bool := match tk P t with
 | .other => true
 | .struct fs => tileB P fs 0 (P.cellsOf t)
 | .arr n e => Nat.beq (P.cellsOf t) (n * P.cellsOf e) && notOther P e
 | .slc e => Nat.beq (P.cellsOf t) 1 && notOther P e
 | _ => Nat.beq (P.cellsOf t) 1

def zeroB (P : Program) (t : Nat) : Bool := !(goodT P 8 t) || match P.info? t with
 | some i => match i.zero with
  | some (.agg cs) => isAgg (tk P t) && zOk P 8 t cs.toList
  | some v => !(isAgg (tk P t)) && zOk P 8 t [v]
  | none => false
 | none => false

def typesB (P : Program) : Bool := (List.range P.types.size).all fun t => tyB P t && zeroB P t
def namesB (P : Program) : Bool := P.funcs.toList.all fun f => !(f.name == "runtime.NumGoroutine")

theorem tk_other {P : Program} {t : Nat} (h : ¬ t < P.types.size) : tk P t = .other := by
 unfold tk
 have : Nat.blt t P.types.size = false := by
  cases hb : Nat.blt t P.types.size
  ·rfl
  ·exact absurd (by simpa [Nat.blt_eq] using hb) h
 rw [this]; rfl

theorem tile_total {P : Program} : ∀ {fs : List (Nat × Nat)} {o n : Nat}, tileB P fs o n = true → o ≤ n
 | [], o, n, h => by simp only [tileB, Nat.beq_eq] at h; omega
 | (ft, p) :: r, o, n, h => by
  simp only [tileB, Bool.and_eq_true, Nat.beq_eq] at h
  have := tile_total h.2
  omega

theorem tile_at {P : Program} : ∀ {fs : List (Nat × Nat)} {o n : Nat}, tileB P fs o n = true → ∀ (j ft p : Nat), fs[j]? = some (ft, p) → o ≤ p ∧ p + P.cellsOf ft ≤ n ∧ tk P ft ≠ .other
 | [], o, n, _, j, ft, p, hj => by simp at hj
 | (gt, q) :: r, o, n, h, j, ft, p, hj => by
  simp only [tileB, Bool.and_eq_true, Nat.beq_eq] at h
  cases j with
  | zero =>
   simp only [List.getElem?_cons_zero, Option.some.injEq, Prod.mk.injEq] at hj
   obtain ⟨rfl, rfl⟩ := hj
   have := tile_total h.2
   exact ⟨by omega, by omega, notOther_ok h.1.2⟩
  | succ j =>
   have := tile_at h.2 j ft p (by simpa using hj)
   exact ⟨by omega, this.2.1, this.2.2⟩

theorem tile_cover {P : Program} : ∀ {fs : List (Nat × Nat)} {o n : Nat}, tileB P fs o n = true → ∀ i, o ≤ i → i < n → ∃ (j ft p : Nat), fs[j]? = some (ft, p) ∧ p ≤ i ∧ i < p + P.cellsOf ft
 | [], o, n, h, i, h1, h2 => by simp only [tileB, Nat.beq_eq] at h; omega
 | (gt, q) :: r, o, n, h, i, h1, h2 => by
  simp only [tileB, Bool.and_eq_true, Nat.beq_eq] at h
  by_cases hi : i < o + P.cellsOf gt
  ·exact ⟨0, gt, q, rfl, by omega, by omega⟩
  ·obtain ⟨j, ft, p, h3, h4, h5⟩ := tile_cover h.2 i (by omega) h2
   exact ⟨j + 1, ft, p, by simpa using h3, h4, h5⟩

theorem tile_order {P : Program} : ∀ {fs : List (Nat × Nat)} {o n : Nat}, tileB P fs o n = true → ∀ (j ft p k fu q : Nat), fs[j]? = some (ft, p) → fs[k]? = some (fu, q) → j < k → p + P.cellsOf ft ≤ q
 | [], o, n, _, j, ft, p, k, fu, q, hj, _, _ => by simp at hj
 | (gt, q') :: r, o, n, h, j, ft, p, k, fu, q, hj, hk, hl => by
  simp only [tileB, Bool.and_eq_true, Nat.beq_eq] at h
  cases k with
  | zero => omega
  | succ k =>
   cases j with
   | zero =>
    simp only [List.getElem?_cons_zero, Option.some.injEq, Prod.mk.injEq] at hj
    obtain ⟨rfl, rfl⟩ := hj
    have := tile_at h.2 k fu q (by simpa using hk)
    omega
   | succ j => exact tile_order h.2 j ft p k fu q (by simpa using hj) (by simpa using hk) (by omega)

/-- EACH TYPE IS LAID OUT AS THE RULES TAKE IT, no function bears the name of one that counts: a check. -/
theorem wf_of {P : Program} (h : typesB P = true) (hn : namesB P = true) (hcpt : ∀ h, isCpt P h = true → CompactAt P h) : WF P := by
 have at_ : ∀ t, tk P t ≠ .other → tyB P t = true ∧ zeroB P t = true := by
  intro t ht
  by_cases hl : t < P.types.size
  ·have := List.all_eq_true.1 h t (by simpa using hl)
   simpa using this
  ·exact absurd (tk_other hl) ht
 have hone : ∀ t, isAgg (tk P t) = false → tk P t ≠ .other → P.cellsOf t = 1 := by
  intro t h1 h2
  have h3 := (at_ t h2).1
  unfold tyB at h3
  revert h1 h2 h3
  cases tk P t <;> simp [isAgg]
  all_goals (try (intro h3; first | (intro _; exact h3) | exact h3))
 have hst : ∀ t fs, tk P t = .struct fs → tileB P fs 0 (P.cellsOf t) = true := by
  intro t fs ht
  have h3 := (at_ t (by simp [ht])).1
  simpa [tyB, ht] using h3
 have harr : ∀ t n e, tk P t = .arr n e → P.cellsOf t = n * P.cellsOf e ∧ tk P e ≠ .other := by
  intro t n e ht
  have h3 := (at_ t (by simp [ht])).1
  simp only [tyB, ht, Bool.and_eq_true, Nat.beq_eq] at h3
  exact ⟨h3.1, notOther_ok h3.2⟩
 have hend : ∀ (fs : List (Nat × Nat)) (o n m : Nat), tileB P fs o n = true → tileB P fs o m = true → n = m := by
  intro fs
  induction fs with
  | nil => intro o n m h1 h2; simp only [tileB, Nat.beq_eq] at h1 h2; omega
  | cons x r ih =>
   obtain ⟨ft, p⟩ := x
   intro o n m h1 h2
   simp only [tileB, Bool.and_eq_true] at h1 h2
   exact ih _ _ _ h1.2 h2.2
 refine ⟨hone, ?_, ?_, ?_, harr, ?_, ?_, ?_, hcpt, ?_⟩
 ·intro t fs ht j ft o hj
  have := tile_at (hst t fs ht) j ft o hj
  exact ⟨this.2.1, this.2.2⟩
 ·intro t fs ht i hi
  exact tile_cover (hst t fs ht) i (Nat.zero_le _) hi
 ·intro t fs ht j ft o k fu p hj hk hl
  exact tile_order (hst t fs ht) j ft o k fu p hj hk hl
 ·intro t u hu ho
  by_cases ha : isAgg (tk P t) = true
  ·cases ht : tk P t <;> simp [ht, isAgg] at ha
   ·exact hend _ _ _ _ (hst t _ ht) (hst u _ (hu ▸ ht))
   ·rw [(harr t _ _ ht).1, (harr u _ _ (hu ▸ ht)).1]
  ·rw [hone t (by simpa using ha) ho, hone u (by rw [← hu]; simpa using ha) (hu ▸ ho)]
 ·intro t e ht
  have h3 := (at_ t (by simp [ht])).1
  simp only [tyB, ht, Bool.and_eq_true] at h3
  exact notOther_ok h3.2
 ·intro f fn hf he
  have hm : fn ∈ P.funcs.toList := by
   have := Array.mem_of_getElem? hf
   exact Array.mem_toList_iff.2 this
  have := List.all_eq_true.1 hn fn hm
  simp [he] at this
 ·intro t hg
  have ho : tk P t ≠ .other := by
   intro e
   simp [goodT, e] at hg
  have h3 := (at_ t ho).2
  unfold zeroB at h3
  rw [hg] at h3
  simp only [Bool.not_true, Bool.false_or] at h3
  cases hi : P.info? t with
  | none => rw [hi] at h3; simp at h3
  | some i =>
   rw [hi] at h3
   simp only at h3
   cases hz : i.zero with
   | none => rw [hz] at h3; simp at h3
   | some v =>
    rw [hz] at h3
    by_cases hv : ∃ cs, v = .agg cs
    ·obtain ⟨cs, rfl⟩ := hv
     simp only [Bool.and_eq_true] at h3
     exact ⟨i, cs.toList, rfl, by rw [hz]; simp [mkV, h3.1], h3.2⟩
    ·have h4 : isAgg (tk P t) = false ∧ zOk P 8 t [v] = true := by
      cases v with
      | agg cs => exact absurd ⟨cs, rfl⟩ hv
      | _ => simpa using h3
     exact ⟨i, [v], rfl, by rw [hz]; simp [mkV, h4.1], h4.2⟩

end Go.Ab
