/- The abstraction layer, part 4: rules that read a program as plain data, and that they are sound. Conditions: those in each theorem. -/
import Derived.Test.YtpkjnlmniacnaaaAbPart3
set_option linter.unusedVariables false
set_option linter.unusedSimpArgs false
/- A part of an object is lent. -/
namespace Go.Ab
variable {P : Program} {A : Ann}

theorem initOb_none {ps : List PK} (h : (ps.all fun | .lent _ _ _ => false | _ => true) = true) (k : Nat) (ds : List D) (i : Nat) : lookO (initOb k ps ds) i = none := by
  have h1 : ∀ p ∈ ps, ∀ e sh bx, p ≠ .lent e sh bx := fun p hp e sh bx e1 => by
    have := List.all_eq_true.1 h p hp
    rw [e1] at this
    cases this
  rw [lookO_init]
  split
  · split
    · rename_i e sh bx hp
      exact absurd rfl (h1 _ (List.mem_of_getElem? hp) e sh bx)
    · rfl
  · rfl

section
variable {X0 Y0 : Nat → Prop} {w0 : World} {g : St} {ph : Nat → Ph} {a : Act} {w : World} {o : Oper} {K : Dl → Prop}

/-- The start: what is lent is a part of an object. -/
theorem part_args (W : WF P) {ob : Nat → Option Obj} (hO : Objs' P A X0 Y0 w0.heap.size ob ph w) (hw0 : w0.heap.size ≤ w.heap.size) {k j : Nat} {z : Obj} (hz : ob k = some z) {m : List (Nat × Sh)} (hsh : z.sh = .agg m) {fs : List (Nat × Nat)} (hk : tk P z.t = .struct fs) {e off : Nat} (hj : fs[j]? = some (e, off)) (hm : fldL m j = .slc .imm none)
    {v : Value} (hv : ((ph k).L.kid j).hv = some v) {ps : List PK} {l : List AV} {vals : Array Value} {ds : List D} (har : argsD P A ob [] 1 ps l = some (ds, [], [])) (hsz : vals.size = l.length + 1) (h0 : vals.getD 0 undef = v)
    (hvs : ∀ (i : Nat) (a : AV), l[i]? = some a → AVR P A (Xof X0 ob ph) w ob ph a (vals.getD (1 + i) undef)) (hnl : (ps.all fun | .lent _ _ _ => false | _ => true) = true) :
    Own P A (Xof X0 ob ph) w ((ph k).L.kid j) (.slc .imm none) e [v] (z.d.get [.fld j]) ∧
    Args P A (fun b => Xof X0 ob ph b ∧ b ∉ ((ph k).L.kid j).blocks) w [] (.lent e (.slc .imm none) false :: ps) vals (z.d.get [.fld j] :: ds) (fun _ => ⟨[v], none, (ph k).L.kid j, []⟩) ∧
    ∀ b, lentY (.lent e (.slc .imm none) false :: ps) (z.d.get [.fld j] :: ds) (fun _ => ⟨[v], none, (ph k).L.kid j, []⟩) b ↔ b ∈ ((ph k).L.kid j).blocks := by
  have hOk := hO.ok k z hz
  have hown := hOk.own
  rw [hsh] at hown
  obtain ⟨dz, hd, hdl, hcl, hf⟩ := hown.fields hk fun j => ⟨_, rfl⟩
  have hpart := hf j e off hj _ (show (Sh.agg m).fld j = some (fldL m j) from rfl)
  rw [hm] at hpart
  obtain ⟨hcs, hag⟩ := hpart.header hv
  rw [hcs] at hpart
  have hdj : z.d.get [.fld j] = dz.getD j .und := by rw [hd]; rfl
  have hob : ∀ i, lookO (initOb 0 (.lent e (.slc .imm none) false :: ps) (z.d.get [.fld j] :: ds)) i = if i = 0 then some ⟨false, e, .slc .imm none, z.d.get [.fld j]⟩ else none := fun i => by
    simp only [initOb, List.headD_cons, List.tail_cons]
    rw [lookO_cons]
    by_cases hi : i = 0
    · subst hi; rw [if_pos rfl, if_pos rfl]
    · rw [if_neg (fun h => hi h.symm), if_neg hi]
      exact initOb_none hnl 1 ds i
  have hblk : ∀ b, b ∈ ((ph k).L.kid j).blocks → b ∈ (ph k).F := fun b hb => by
    simp only [Ph.F, Ph.S, List.mem_append]
    exact .inr (.inl (blocks_of_kid hb))
  have hF : ∀ b, b ∈ (⟨[v], none, (ph k).L.kid j, []⟩ : Ph).F ↔ b ∈ ((ph k).L.kid j).blocks := fun b => by simp [Ph.F, Ph.S]
  have hnd : (ph k).L.blocks.Nodup := by
    have := hOk.nodup
    simp only [Ph.F, Ph.S, List.nodup_append] at this
    exact this.2.1.1
  have hX : ∀ b, Xof (fun b => Xof X0 ob ph b ∧ b ∉ ((ph k).L.kid j).blocks) (lookO (initOb 0 (.lent e (.slc .imm none) false :: ps) (z.d.get [.fld j] :: ds))) (fun _ => ⟨[v], none, (ph k).L.kid j, []⟩) b → Xof X0 ob ph b := by
    rintro b (h | ⟨i, x, hx, hb⟩)
    · exact h.1
    · exact .inr ⟨k, z, hz, hblk b ((hF b).1 hb)⟩
  obtain ⟨f1, f2, f3, f4, _, _⟩ := argsD_spec W hO ps l 1 vals ds [] [] har hvs
  rw [← hdj] at hpart
  refine ⟨hpart, ⟨by simp [hsz, f1], by simp [f2], ⟨fun i x hx => ?_, fun i x i' x' hx hx' hne => ?_, fun i x hx b hb hc => ?_, fun i x hx b hb => .inl ⟨i, x, hx, hb⟩, fun b hb => ?_⟩, fun i => ?_⟩, fun b => ⟨?_, fun hb => ⟨0, _, by rw [hob, if_pos rfl], (hF b).2 hb⟩⟩⟩
  · rw [hob] at hx
    split at hx <;> try contradiction
    injection hx with hx
    subst hx
    refine ⟨hpart.frame (Nat.le_refl _) (fun b _ h => hX b h) (fun _ _ _ => rfl) fun _ _ => rfl, (fun h => by cases h), fun _ => rfl, ?_, fun b hb => hOk.lt b (hblk b ((hF b).1 hb))⟩
    simp only [Ph.F, Ph.S, Option.toList, List.nil_append, List.append_nil]
    exact nodup_kid hnd j
  · rw [hob] at hx hx'
    split at hx <;> try contradiction
    split at hx' <;> try contradiction
    rename_i e1 e2
    exact absurd (e1.trans e2.symm) hne
  · exact hc.2 ((hF b).1 hb)
  · rcases hb.1 with h | ⟨c, y, hy, hm⟩
    · have := hO.old b h; omega
    · exact (hO.ok c y hy).lt b hm
  · rw [look_init, if_pos (Nat.zero_le _), Nat.sub_zero]
    cases i with
    | zero =>
      simp only [List.getElem?_cons_zero, cond_false, h0]
      intro x hx
      rw [hob, if_pos rfl] at hx
      injection hx with hx
      subst hx
      refine ⟨(fun h => by cases h), fun _ => ⟨e, rfl, rfl, .inr ⟨rfl, rfl, ?_⟩⟩⟩
      exact (mkV_one hag).symm
    | succ i =>
      simp only [List.getElem?_cons_succ, List.getD_cons_succ]
      have hsp : Spares ob ph [] (Xof (fun b => Xof X0 ob ph b ∧ b ∉ ((ph k).L.kid j).blocks) (lookO (initOb 0 (.lent e (.slc .imm none) false :: ps) (z.d.get [.fld j] :: ds))) (fun _ => ⟨[v], none, (ph k).L.kid j, []⟩)) := fun _ _ h => by cases h
      split
      · rename_i t hp
        have := f4 _ (fun b _ h => hX b h) hsp i _ hp
        rw [show 1 + i = i + 1 by omega] at this
        exact this
      · rename_i t hp
        have := f4 _ (fun b _ h => hX b h) hsp i _ hp
        rw [show 1 + i = i + 1 by omega] at this
        exact this
      · rename_i e' sh' bx' hp
        have := List.all_eq_true.1 hnl _ (List.mem_of_getElem? hp)
        cases this
      · trivial
  · rintro ⟨i, x, hx, hb⟩
    exact (hF b).1 hb

/-- A call to which a part is lent. -/
theorem step_part (W : WF P) {H : Hnd} (hH : CallOk P A H.cal) (R : RelA P A X0 Y0 w0 g ph a w) {c : Call} {x : Operand} {f : Nat} (ho : o.op = .call c) (hc : c.callee = .value x) (hav : g.av x = .fn f) (h : partD P A H f (c.args.toList.map g.av) (lookO g.ob) K) :
    Does P o a w (Out P A X0 Y0 w0 g a K) := by
  have hx := AVR.eval R x
  rw [hav] at hx
  have hx' : a.eval x = .func (.func f) #[] #[] := hx
  unfold partD at h
  split at h <;> try contradiction
  rename_i k j u l e sh ps hal hps hrs
  split at h <;> try contradiction
  rename_i z ds hz har
  split at h <;> try contradiction
  rename_i fs m hk hsh
  split at h <;> try contradiction
  rename_i ft off hj hm
  obtain ⟨hg, hcal⟩ := of_cond h
  simp only [Bool.and_eq_true, beq_iff, List.isEmpty_iff] at hg
  obtain ⟨hbx, hshe, rfl, hcel, hnl⟩ := hg
  have hshe := Sh.eq_of_beq hshe
  subst hshe
  have hsz : (c.args.map a.eval).size = l.length + 1 := by
    have := congrArg List.length hal
    simpa using this
  have h0 : AVR P A (Xof X0 (lookO g.ob) ph) w (lookO g.ob) ph (.val k [.fld j] u) ((c.args.map a.eval).getD 0 undef) := map_eval R 0 _ (by rw [hal]; rfl)
  have hrest : ∀ (i : Nat) (b : AV), l[i]? = some b → AVR P A (Xof X0 (lookO g.ob) ph) w (lookO g.ob) ph b ((c.args.map a.eval).getD (1 + i) undef) := fun i b hb => map_eval R (1 + i) b (by rw [hal, show 1 + i = i + 1 by omega]; exact hb)
  generalize hvals : c.args.map a.eval = vals at *
  generalize hv0 : vals.getD 0 undef = v0 at h0
  have hO := R.objs.ok k z hz
  obtain ⟨_, hs2⟩ := h0 z hz
  obtain ⟨u', _, _, hv⟩ := hs2 (by rw [hsh]; simp)
  have hv : ((ph k).L.kid j).hv = some v0 := by
    rcases hv with hv | ⟨hv, _⟩
    · exact hv
    · cases hv
  obtain ⟨hpart, hargs, hlY⟩ := part_args W R.objs R.keeps.size hz hsh hk hj hm hv har hsz hv0 hrest hnl
  obtain ⟨⟨fn, hf, hb, _⟩, hrun⟩ := hH f _ _ hcal
  have hcalls := hrun _ w vals _ (by rw [hcel, hps]; exact hargs)
  intro next Q hnext
  unfold Oper.wp
  have hex := run_callV (w := w) W ho hc hx' hf hb
  rw [Array.append_empty, hvals] at hex
  rw [hex]
  refine Calls.mono hcalls fun e' w' he' => ?_
  obtain ⟨vr, r, phR, vs, rfl, hK, hret⟩ := he'
  refine hnext vr w' ⟨_, hK, ?_⟩
  rw [hps] at hret
  have hY : ∀ b, lentY (A.sig f).ps (z.d.get [.fld j] :: ds) (fun _ => ⟨[v0], none, (ph k).L.kid j, []⟩) b ↔ b ∈ ((ph k).L.kid j).blocks := by rw [hps]; exact hlY
  have hro : retOb (A.sig f).rs (A.sig f).ps r 0 = some ⟨false, ft, .slc .imm none, r.getD 0 .und⟩ := by
    rw [hrs, hps]
    rfl
  have hol := hret.objs.ok 0 _ hro
  have hll := hret.lent 0 (0, ft, .slc .imm none, false) (by rw [hps]; rfl)
  rw [hrs] at hll
  have hrb0 : (phR 0).rb = none := hll.1
  have hag := (hpart.header hv).2
  have hcs2 : (phR 0).cs = [v0] := by
    have h1 := own_slc1 hol.own
    have h2 : mkV P ft (phR 0).cs = mkV P ft [v0] := hll.2 rfl
    rw [h2, mkV_one hag] at h1
    exact h1
  have hown := hO.own
  rw [hsh] at hown
  obtain ⟨kids, dz, hL, hd, hk1, hk2, hk3, hkf⟩ : ∃ kids dz, (ph k).L = .agg kids ∧ z.d = .agg dz ∧ (ph k).cs.length = P.cellsOf z.t ∧ kids.length = fs.length ∧ dz.length = fs.length ∧
      ∀ (j ft o : Nat), fs[j]? = some (ft, o) → Own P A (Xof X0 (lookO g.ob) ph) w (kids.getD j .leaf) (fldL m j) ft (seg (ph k).cs o (P.cellsOf ft)) (dz.getD j .und) := by
    generalize (ph k).L = L at hown ⊢
    generalize z.d = dd at hown ⊢
    generalize (ph k).cs = cc at hown ⊢
    cases hown with
    | agg q1 q2 q3 q4 q5 =>
      rw [hk] at q1
      injection q1 with q1
      subst q1
      exact ⟨_, _, rfl, rfl, q2, q3, q4, q5⟩
  have hkid : (ph k).L.kid j = kids.getD j .leaf := by rw [hL]; rfl
  have hjl : j < fs.length := (List.getElem?_eq_some_iff.1 hj).1
  have hcsj : seg (ph k).cs off (P.cellsOf ft) = [v0] := by
    have h1 := hkf j ft off hj
    rw [← hkid] at h1
    exact (h1.header hv).1
  have hput : D.put P z.t z.d [.fld j] (r.getD 0 .und) = .agg (fs.zipIdx.map fun x => cond (Nat.beq x.2 j) (r.getD 0 .und) (z.d.fld x.2)) := by
    simp only [D.put, hk]
  have hget : ∀ i, i < fs.length → (fs.zipIdx.map fun x => cond (Nat.beq x.2 j) (r.getD 0 .und) (z.d.fld x.2)).getD i .und = if i = j then r.getD 0 .und else dz.getD i .und := fun i hi => by
    rw [List.getD_eq_getElem?_getD, List.getElem?_map, List.getElem?_zipIdx, List.getElem?_eq_getElem hi]
    simp only [Option.map_some, Option.getD_some, Nat.zero_add, cond_eq, beq_iff]
    rw [hd]
    rfl
  have hnd : (ph k).L.blocks.Nodup := by
    have := hO.nodup
    simp only [Ph.F, Ph.S, List.nodup_append] at this
    exact this.2.1.1
  have hnk : (blocksL kids).Nodup := by rw [hL] at hnd; exact hnd
  obtain ⟨hn1, hn2⟩ := nodup_blocksL hnk
  have hset : ∀ i, (kids.set j (phR 0).L).getD i .leaf = if i = j then (phR 0).L else kids.getD i .leaf := fun i => by
    rw [List.getD_eq_getElem?_getD, List.getElem?_set]
    by_cases e : j = i
    · subst e
      rw [if_pos rfl, if_pos rfl, if_pos (by omega)]
      rfl
    · rw [if_neg e, if_neg (fun h => e h.symm), ← List.getD_eq_getElem?_getD]
  have hL2 : ∀ b, b ∈ (phR 0).L.blocks → b ∈ (kids.getD j .leaf).blocks ∨ w.heap.size ≤ b := fun b hb => by
    rcases hret.objs.ours 0 _ hro b (by simp only [Ph.F, Ph.S, List.mem_append]; exact .inr (.inl hb)) with h | h
    · left; rw [← hkid]; exact (hlY b).1 h
    · exact .inr h
  have hL2n : (phR 0).L.blocks.Nodup := by
    have := hol.nodup
    simp only [Ph.F, Ph.S, List.nodup_append] at this
    exact this.2.1.1
  have hkeep : ∀ b, b < w.heap.size → b ∉ (kids.getD j .leaf).blocks → w'.heap[b]? = w.heap[b]? := fun b hb hn => hret.keeps.block b hb fun h => hn (by rw [← hkid]; exact (hlY b).1 h)
  have hinL : ∀ i b, i < fs.length → b ∈ (kids.getD i .leaf).blocks → b ∈ (ph k).F := fun i b hi hb => by
    simp only [Ph.F, Ph.S, List.mem_append, hL, Lt.blocks]
    exact .inr (.inl (mem_blocksL.2 ⟨i, by omega, hb⟩))
  let ph' : Nat → Ph := fun c => if c = k then { ph k with L := .agg (kids.set j (phR 0).L) } else ph c
  have hphk : ph' k = { ph k with L := .agg (kids.set j (phR 0).L) } := if_pos rfl
  have hLb : ∀ b, b ∈ (Lt.agg (kids.set j (phR 0).L)).blocks → b ∈ (ph k).L.blocks ∨ w.heap.size ≤ b := fun b hb => by
    simp only [Lt.blocks] at hb
    obtain ⟨i, hi, hb⟩ := mem_blocksL.1 hb
    rw [hset] at hb
    rw [List.length_set] at hi
    rw [hL]
    simp only [Lt.blocks]
    split at hb
    · rcases hL2 b hb with h | h
      · exact .inl (mem_blocksL.2 ⟨j, by omega, h⟩)
      · exact .inr h
    · exact .inl (mem_blocksL.2 ⟨i, hi, hb⟩)
  have hLn : (Lt.agg (kids.set j (phR 0).L)).blocks.Nodup := by
    simp only [Lt.blocks]
    refine nodup_blocksL_mk (fun i hi => ?_) (fun i i' b hi hi' hb hb' => ?_)
    · rw [hset]
      rw [List.length_set] at hi
      split
      · exact hL2n
      · exact hn1 i hi
    · rw [hset] at hb hb'
      rw [List.length_set] at hi hi'
      have hold : ∀ i, i < kids.length → b ∈ (kids.getD i .leaf).blocks → b < w.heap.size := fun i hi h => hO.lt b (hinL i b (by omega) h)
      split at hb
      · rename_i e1
        split at hb'
        · rename_i e2; rw [e1, e2]
        · rename_i e2
          exfalso
          rcases hL2 b hb with h | h
          · exact e2 (hn2 i' j b hi' (by omega) hb' h)
          · have := hold i' hi' hb'; omega
      · rename_i e1
        split at hb'
        · exfalso
          rcases hL2 b hb' with h | h
          · exact e1 (hn2 i j b hi (by omega) hb h)
          · have := hold i hi hb; omega
        · exact hn2 i i' b hi hi' hb hb'
  have hup : ∀ c, upO [(k, some { z with d := D.put P z.t z.d [.fld j] (r.getD 0 .und) })] (lookO g.ob) c = if c = k then some { z with d := D.put P z.t z.d [.fld j] (r.getD 0 .und) } else lookO g.ob c := fun c => by
    simp only [upO, findO]
    by_cases hck : c = k
    · subst hck; simp
    · rw [if_neg (fun e => hck e.symm), if_neg hck]; rfl
  have hFk : ∀ b, b ∈ (ph' k).F → b ∈ (ph k).F ∨ w.heap.size ≤ b := fun b hb => by
    rw [hphk] at hb
    simp only [Ph.F, Ph.S, List.mem_append] at hb ⊢
    rcases hb with h | h | h
    · exact .inl (.inl h)
    · rcases hLb b h with h | h
      · exact .inl (.inr (.inl h))
      · exact .inr h
    · exact .inl (.inr (.inr h))
  refine RelD.upd (D := fun c => c = k) (ph' := ph') R (hret.keeps.mono fun b hb => ⟨k, rfl, z, hz, ?_⟩) (fun c hc => ⟨by rw [hup, if_neg hc], if_neg hc⟩) (fun c y hd' hy b hb => ?_) (fun c y c' y' hd1 hd2 _ _ hcc => absurd (hd1.trans hd2.symm) hcc) (fun hX c y hd' hy => ?_) (fun hX s => ?_) (fun hX => ?_)
  · exact hinL j b hjl (by rw [← hkid]; exact (hlY b).1 hb)
  · subst hd'
    rcases hFk b hb with h | h
    · exact .inr ⟨c, z, rfl, hz, h⟩
    · exact .inl h
  · subst hd'
    rw [hup, if_pos rfl] at hy
    injection hy with hy
    subst hy
    have hnF := hO.nodup
    simp only [Ph.F, Ph.S] at hnF
    obtain ⟨n1, n2, n3⟩ := List.nodup_append.1 hnF
    obtain ⟨n4, n5, n6⟩ := List.nodup_append.1 n2
    have hpL : ∀ b, b ∈ (kids.getD j .leaf).blocks → b ∈ (ph c).L.blocks := fun b hb => by rw [hL]; simp only [Lt.blocks]; exact mem_blocksL.2 ⟨j, by omega, hb⟩
    have hX2 : ∀ b, Xof X0 (upO [(c, some { z with d := D.put P z.t z.d [.fld j] (r.getD 0 .und) })] (lookO g.ob)) ph' b → Xof (fun b => Xof X0 (lookO g.ob) ph b ∧ b ∉ ((ph c).L.kid j).blocks) (retOb (A.sig f).rs (A.sig f).ps r) phR b := by
      rintro b (h | ⟨q, y, hy, hb⟩)
      · exact .inl ⟨.inl h, fun hp => R.objs.free c z hz b (hinL j b hjl (by rw [← hkid]; exact hp)) h⟩
      · rw [hup] at hy
        by_cases hq : q = c
        · subst hq
          rw [hphk] at hb
          simp only [Ph.F, Ph.S, List.mem_append] at hb
          rcases hb with h | h | h
          · exact .inl ⟨.inr ⟨q, z, hz, by simp only [Ph.F, Ph.S, List.mem_append]; exact .inl h⟩, fun hp => n3 b h b (List.mem_append.2 (.inl (hpL b (by rw [← hkid]; exact hp)))) rfl⟩
          · simp only [Lt.blocks] at h
            obtain ⟨i, hi, h⟩ := mem_blocksL.1 h
            rw [hset] at h
            rw [List.length_set] at hi
            split at h
            · exact .inr ⟨0, _, hro, by simp only [Ph.F, Ph.S, List.mem_append]; exact .inr (.inl h)⟩
            · rename_i hne
              exact .inl ⟨.inr ⟨q, z, hz, hinL i b (by omega) h⟩, fun hp => hne (hn2 i j b hi (by omega) h (by rw [← hkid]; exact hp))⟩
          · exact .inl ⟨.inr ⟨q, z, hz, by simp only [Ph.F, Ph.S, List.mem_append]; exact .inr (.inr h)⟩, fun hp => n6 b (hpL b (by rw [← hkid]; exact hp)) b h rfl⟩
        · rw [if_neg hq] at hy
          have hpq : ph' q = ph q := if_neg hq
          rw [hpq] at hb
          exact .inl ⟨.inr ⟨q, y, hy, hb⟩, fun hp => R.objs.apart q y c z hy hz hq b hb (hinL j b hjl (by rw [← hkid]; exact hp))⟩
    generalize hXX : Xof X0 (upO [(c, some { z with d := D.put P z.t z.d [.fld j] (r.getD 0 .und) })] (lookO g.ob)) ph' = XX at hX hX2 ⊢
    refine ⟨?_, fun _ => ?_, fun h => ?_, ?_, fun b hb => ?_⟩
    · show Own P A XX w' (ph' c).L z.sh z.t (ph' c).cs (D.put P z.t z.d [.fld j] (r.getD 0 .und))
      rw [hphk, hsh, hput]
      refine Own.agg hk hk1 (by rw [List.length_set]; exact hk2) (by simp) fun i ft' o' hi => ?_
      have hil := (List.getElem?_eq_some_iff.1 hi).1
      rw [hset, hget i hil]
      by_cases e : i = j
      · subst e
        rw [hj] at hi
        injection hi with hi
        injection hi with e1 e2
        subst e1 e2
        rw [if_pos rfl, if_pos rfl, hm, hcsj]
        have h1 := hol.own
        have h2 : Own P A _ w' (phR 0).L (.slc .imm none) ft (phR 0).cs (r.getD 0 .und) := h1
        rw [hcs2] at h2
        exact h2.frame (Nat.le_refl _) (fun b _ h => hX2 b h) (fun _ _ _ => rfl) fun _ _ => rfl
      · rw [if_neg e, if_neg e]
        refine (hkf i ft' o' hi).frame hret.keeps.size hX (fun b hb hn => hkeep b hb fun h => hn (.inr ⟨c, z, hz, hinL j b hjl h⟩)) fun b hb => hkeep b (hO.lt b (hinL i b hil hb)) fun h => e (hn2 i j b (by omega) (by omega) hb h)
    · obtain ⟨b, E, cc, q1, q2, q3⟩ := hO.box hbx
      refine ⟨b, E, cc, by rw [hphk]; exact q1, ?_, by rw [hphk]; exact q3⟩
      rw [hkeep b (Array.getElem?_eq_some_iff.1 q2).1 fun h => n3 b (by rw [q1]; simp) b (List.mem_append.2 (.inl (hpL b h))) rfl]
      exact q2
    · have h : z.box = false := h
      rw [hbx] at h
      cases h
    · rw [hphk]
      simp only [Ph.F, Ph.S]
      have hlt : ∀ b, b ∈ (ph c).rb.toList ∨ b ∈ (ph c).G → b < w.heap.size := fun b hb => hO.lt b (by
        simp only [Ph.F, Ph.S, List.mem_append]
        rcases hb with h | h
        · exact .inl h
        · exact .inr (.inr h))
      refine List.nodup_append.2 ⟨n1, List.nodup_append.2 ⟨hLn, n5, fun b hb b' hb' e => ?_⟩, fun b hb b' hb' e => ?_⟩
      · subst e
        rcases hLb b hb with h | h
        · exact n6 b h b hb' rfl
        · have := hlt b (.inr hb'); omega
      · subst e
        rcases List.mem_append.1 hb' with h | h
        · rcases hLb b h with h | h
          · exact n3 b hb b (List.mem_append.2 (.inl h)) rfl
          · have := hlt b (.inl hb); omega
        · exact n3 b hb b (List.mem_append.2 (.inr h)) rfl
    · rw [hphk] at hb
      simp only [Ph.F, Ph.S, List.mem_append] at hb
      have old : b ∈ (ph c).F → b < w'.heap.size := fun h => Nat.lt_of_lt_of_le (hO.lt b h) hret.keeps.size
      rcases hb with h | h | h
      · exact old (by simp only [Ph.F, Ph.S, List.mem_append]; exact .inl h)
      · simp only [Lt.blocks] at h
        obtain ⟨i, hi, h⟩ := mem_blocksL.1 h
        rw [hset] at h
        rw [List.length_set] at hi
        split at h
        · exact hol.lt b (by simp only [Ph.F, Ph.S, List.mem_append]; exact .inr (.inl h))
        · exact old (hinL i b (by omega) h)
      · exact old (by simp only [Ph.F, Ph.S, List.mem_append]; exact .inr (.inr h))
  · refine AVR.stays (ks := [(k, .ln)]) (ph := ph) (ph' := ph') hret.keeps.size hX (fun b hb hn => hkeep b hb fun h => hn (.inr ⟨k, z, hz, hinL j b hjl h⟩)) (by simp [KM.isApp]) (fun q y hy => ?_) (fun q y y' hy hy' _ _ hln b hb hm => ?_) (R.slots s)
    · rw [hup] at hy
      by_cases hq : q = k
      · subst hq
        rw [if_pos rfl] at hy
        exact .ln (List.mem_singleton.2 rfl) hz ((hup _).trans (if_pos rfl)) rfl (by rw [hphk])
      · rw [if_neg hq] at hy
        refine .same (by rw [hup, if_neg hq]) (if_neg hq) fun b hb => hkeep b ((R.objs.ok q y hy).lt b hb) fun h => R.objs.apart q y k z hy hz hq b hb (hinL j b hjl h)
    · by_cases hq : q = k
      · subst hq
        exact absurd (List.mem_singleton.2 rfl) hln.1
      · have : ph' q = ph q := if_neg hq
        rw [this] at hm
        exact ⟨hX b hb hm.1, hm.2⟩
  · have hvv := hret.val
    have hvz : vs.size = 0 := by have := hret.size; rw [hrs] at this; simpa using this
    rw [dif_neg (by omega)] at hvv
    rw [hvv]
    show Value.tuple vs = undef
    rw [Array.eq_empty_of_size_eq_zero hvz]
    rfl
end
end Go.Ab

/- A function that calls a closure again and again. -/
namespace Go.Ab
variable {P : Program} {A : Ann}

theorem fillL_len : ∀ (ps : List PK) (ds r : List D) (j : Nat), ds.length = ps.length → (fillL j ps ds r).length = ps.length
  | [], [], _, _, _ => rfl
  | [], _ :: _, _, _, h => by simp at h
  | p :: ps, [], _, _, h => by simp at h
  | p :: ps, d :: ds, r, j, h => by
    have ih := fun j => fillL_len ps ds r j (by simpa using h)
    cases p <;> simp only [fillL, List.length_cons, ih]
theorem fillL_other : ∀ (ps : List PK) (ds r : List D) (j i : Nat) (p : PK), ds.length = ps.length → ps[i]? = some p → (∀ e sh bx, p ≠ .lent e sh bx) → (fillL j ps ds r).getD i .und = ds.getD i .und
  | [], _, _, _, _, _, _, h, _ => by simp at h
  | p :: ps, [], _, _, _, _, h, _, _ => by simp at h
  | p :: ps, d :: ds, r, j, i, q, hl, h, hn => by
    cases i with
    | zero =>
      simp only [List.getElem?_cons_zero, Option.some.injEq] at h
      subst h
      cases p with
      | lent e sh bx => exact absurd rfl (hn e sh bx)
      | _ => simp [fillL]
    | succ i =>
      have ih := fun j => fillL_other ps ds r j i q (by simpa using hl) (by simpa using h) hn
      cases p <;> simp only [fillL, List.getD_cons_succ, ih]
theorem fillL_lent : ∀ (ps : List PK) (ds r : List D) (j k i : Nat) (y : Nat × Nat × Sh × Bool), ds.length = ps.length → (lentL k ps)[i]? = some y → (fillL j ps ds r).getD (y.1 - k) .und = r.getD (j + i) .und
  | [], _, _, _, _, _, _, _, h => by simp [lentL] at h
  | p :: ps, [], _, _, _, _, _, h, _ => by simp at h
  | p :: ps, d :: ds, r, j, k, i, y, hl, h => by
    have ih := fun j i h => fillL_lent ps ds r j (k + 1) i y (by simpa using hl) h
    have hge : ∀ i, (lentL (k + 1) ps)[i]? = some y → y.1 - k = (y.1 - (k + 1)) + 1 := fun i h => by
      have := (lentL_ge ps (k + 1) y (List.mem_of_getElem? h)).1
      omega
    cases p with
    | lent e sh bx =>
      cases i with
      | zero =>
        simp only [lentL, List.getElem?_cons_zero, Option.some.injEq] at h
        subst h
        simp [fillL]
      | succ i =>
        simp only [lentL, List.getElem?_cons_succ] at h
        rw [hge i h]
        simp only [fillL, List.getD_cons_succ, ih _ _ h]
        rw [show j + 1 + i = j + (i + 1) by omega]
    | imm t =>
      simp only [lentL] at h
      rw [hge i h]
      simp only [fillL, List.getD_cons_succ, ih _ _ h]
    | iptr t =>
      simp only [lentL] at h
      rw [hge i h]
      simp only [fillL, List.getD_cons_succ, ih _ _ h]
theorem lentDs_get : ∀ (ps : List PK) (ds : List D) (k i : Nat) (y : Nat × Nat × Sh × Bool), ds.length = ps.length → (lentL k ps)[i]? = some y → (lentDs ps ds).getD i .und = ds.getD (y.1 - k) .und
  | [], _, _, _, _, _, h => by simp [lentL] at h
  | p :: ps, [], _, _, _, h, _ => by simp at h
  | p :: ps, d :: ds, k, i, y, hl, h => by
    have ih := fun i h => lentDs_get ps ds (k + 1) i y (by simpa using hl) h
    have hge : ∀ i, (lentL (k + 1) ps)[i]? = some y → y.1 - k = (y.1 - (k + 1)) + 1 := fun i h => by
      have := (lentL_ge ps (k + 1) y (List.mem_of_getElem? h)).1
      omega
    cases p with
    | lent e sh bx =>
      cases i with
      | zero =>
        simp only [lentL, List.getElem?_cons_zero, Option.some.injEq] at h
        subst h
        simp [lentDs]
      | succ i =>
        simp only [lentL, List.getElem?_cons_succ] at h
        rw [hge i h]
        simp only [lentDs, List.getD_cons_succ, ih _ h]
    | imm t =>
      simp only [lentL] at h
      rw [hge i h]
      simp only [lentDs, List.getD_cons_succ, ih _ h]
    | iptr t =>
      simp only [lentL] at h
      rw [hge i h]
      simp only [lentDs, List.getD_cons_succ, ih _ h]

theorem retOb_nil {ps : List PK} {r : List D} {j : Nat} : retOb [] ps r j = ((lentL 0 ps)[j]?).map fun y => ⟨y.2.2.2, y.2.1, y.2.2.1, r.getD j .und⟩ := by
  simp [retOb]

/-- The blocks of what was lent. -/
def retF (ps : List PK) (phR : Nat → Ph) (b : Nat) : Prop := ∃ j y, (lentL 0 ps)[j]? = some y ∧ b ∈ (phR j).F

/-- Which of the lent ones a parameter is. -/
theorem lent_idx (ps : List PK) (j : Nat) (y : Nat × Nat × Sh × Bool) (hy : (lentL 0 ps)[j]? = some y) : ((lentL 0 ps).findIdx fun z => z.1 == y.1) = j := by
  have hnd := lentL_nodup ps 0
  generalize lentL 0 ps = Ls at hy hnd
  induction Ls generalizing j with
  | nil => simp at hy
  | cons z Ls ih =>
    simp only [List.map_cons, List.nodup_cons] at hnd
    rw [List.findIdx_cons]
    cases j with
    | zero =>
      simp only [List.getElem?_cons_zero, Option.some.injEq] at hy
      subst hy
      simp
    | succ j =>
      simp only [List.getElem?_cons_succ] at hy
      have hne : z.1 ≠ y.1 := fun e => hnd.1 (List.mem_map.2 ⟨y, List.mem_of_getElem? hy, e.symm⟩)
      have hb : (z.1 == y.1) = false := by simpa using hne
      rw [hb, cond_false, ih j hy hnd.2]

section
variable {Xc : Nat → Prop} {w w1 w2 : World} {e : Nat} {ps : List PK} {vals0 vals : Array Value} {z0 d0 : D} {ds r : List D} {phL phR : Nat → Ph} {v0 : Value} {vs0 : Array Value}

/-- The objects at a later call. -/
theorem again_ob (hl : ds.length = ps.length) {i : Nat} {x : Obj} (hx : lookO (initOb 0 (.imm e :: ps) (d0 :: fillL 0 ps ds r)) i = some x) :
    ∃ j y, (lentL 0 (.imm e :: ps))[j]? = some y ∧ y.1 = i ∧ x = ⟨y.2.2.2, y.2.1, y.2.2.1, r.getD j .und⟩ ∧ retOb [] (.imm e :: ps) r j = some x ∧ (PK.imm e :: ps)[i]? = some (.lent y.2.1 y.2.2.1 y.2.2.2) := by
  rw [lookO_init, if_pos (Nat.zero_le _), Nat.sub_zero] at hx
  split at hx <;> try contradiction
  rename_i e' sh bx hp
  simp only [Option.some.injEq] at hx
  obtain ⟨j, hj⟩ := List.mem_iff_getElem?.1 (mem_lentL (.imm e :: ps) 0 i e' sh bx (Nat.zero_le _) (by rw [Nat.sub_zero]; exact hp))
  have hd : (d0 :: fillL 0 ps ds r).getD i .und = r.getD j .und := by
    cases i with
    | zero => simp at hp
    | succ i =>
      rw [List.getD_cons_succ]
      have := fillL_lent ps ds r 0 1 j _ hl (show (lentL 1 ps)[j]? = some (i + 1, e', sh, bx) from hj)
      simpa using this
  rw [hd] at hx
  refine ⟨j, _, hj, rfl, hx.symm, ?_, hp⟩
  rw [retOb_nil, hj, ← hx]
  rfl

/-- ARGUMENTS OF A LATER CALL: what is lent is what the call before left. -/
theorem args_again (hA : Args P A Xc w [] (.imm e :: ps) vals0 (z0 :: ds) phL) (hR : Ret P A Xc (lentY (.imm e :: ps) (z0 :: ds) phL) w w1 ⟨.imm e :: ps, [], []⟩ phL v0 r phR vs0)
    (hbx : ∀ p ∈ ps, ∀ e' sh bx, p = .lent e' sh bx → bx = true) (hsz : vals.size = vals0.size) (hvr : ∀ i, vals.getD (i + 1) undef = vals0.getD (i + 1) undef)
    (h0 : RepV P A (fun b => Xc b ∨ retF (.imm e :: ps) phR b) w1 e (vals.getD 0 undef) d0) :
    ∃ phL', Args P A Xc w1 [] (.imm e :: ps) vals (d0 :: fillL 0 ps ds r) phL' ∧ (∀ j y, (lentL 0 (.imm e :: ps))[j]? = some y → phL' y.1 = phR j) ∧
      (∀ b, lentY (.imm e :: ps) (d0 :: fillL 0 ps ds r) phL' b → retF (.imm e :: ps) phR b) := by
  have hl : ds.length = ps.length := by simpa using hA.dlen
  let phL' : Nat → Ph := fun i => phR ((lentL 0 (.imm e :: ps)).findIdx fun y => y.1 == i)
  have hph : ∀ j y, (lentL 0 (.imm e :: ps))[j]? = some y → phL' y.1 = phR j := fun j y hy => by
    simp only [phL']
    rw [lent_idx _ j y hy]
  have hF : ∀ i x b, lookO (initOb 0 (.imm e :: ps) (d0 :: fillL 0 ps ds r)) i = some x → b ∈ (phL' i).F → retF (.imm e :: ps) phR b := fun i x b hx hb => by
    obtain ⟨j, y, h1, h2, _⟩ := again_ob hl hx
    rw [← h2, hph j y h1] at hb
    exact ⟨j, y, h1, hb⟩
  have hob : ∀ j y, (lentL 0 (.imm e :: ps))[j]? = some y → retOb [] (.imm e :: ps) r j = some ⟨y.2.2.2, y.2.1, y.2.2.1, r.getD j .und⟩ := fun j y hy => by rw [retOb_nil, hy]; rfl
  have hX1 : ∀ b, Xof Xc (lookO (initOb 0 (.imm e :: ps) (d0 :: fillL 0 ps ds r))) phL' b → Xc b ∨ retF (.imm e :: ps) phR b := by
    rintro b (h | ⟨i, x, hx, hb⟩)
    · exact .inl h
    · exact .inr (hF i x b hx hb)
  have hXr : ∀ b, Xc b ∨ retF (.imm e :: ps) phR b → Xof Xc (retOb [] (.imm e :: ps) r) phR b := by
    rintro b (h | ⟨j, y, hy, hb⟩)
    · exact .inl h
    · exact .inr ⟨j, _, hob j y hy, hb⟩
  have hY : ∀ b, retF (.imm e :: ps) phR b → lentY (.imm e :: ps) (z0 :: ds) phL b ∨ w.heap.size ≤ b := fun b ⟨j, y, hy, hb⟩ => hR.objs.ours j _ (hob j y hy) b hb
  -- what is old and out of reach stays
  have hXw : ∀ b, b < w.heap.size → Xof Xc (lookO (initOb 0 (.imm e :: ps) (d0 :: fillL 0 ps ds r))) phL' b → Xof Xc (lookO (initOb 0 (.imm e :: ps) (z0 :: ds))) phL b := fun b hb h => by
    rcases hX1 b h with h | h
    · exact .inl h
    · rcases hY b h with ⟨i, x, hx, hm⟩ | h
      · exact .inr ⟨i, x, hx, hm⟩
      · omega
  have hkw : ∀ b, b < w.heap.size → ¬ Xof Xc (lookO (initOb 0 (.imm e :: ps) (z0 :: ds))) phL b → w1.heap[b]? = w.heap[b]? := fun b hb hn => hR.keeps.block b hb fun ⟨i, x, hx, hm⟩ => hn (.inr ⟨i, x, hx, hm⟩)
  refine ⟨phL', ⟨by rw [hsz]; exact hA.asize, by simp [fillL_len ps ds r 0 hl], ⟨fun i x hx => ?_, fun i x i' x' hx hx' hne b hb hb' => ?_, fun i x hx b hb => ?_, fun i x hx b hb => .inl ⟨i, x, hx, hb⟩, fun b hb => ?_⟩, fun i => ?_⟩, hph, fun b ⟨i, x, hx, hb⟩ => hF i x b hx hb⟩
  · obtain ⟨j, y, h1, h2, _, h4, _⟩ := again_ob hl hx
    rw [← h2, hph j y h1]
    exact (hR.objs.ok j x h4).frame (Nat.le_refl _) (fun b _ h => hXr b (hX1 b h)) (fun _ _ _ => rfl) fun _ _ => rfl
  · obtain ⟨j, y, h1, h2, _, h4, _⟩ := again_ob hl hx
    obtain ⟨j', y', h1', h2', _, h4', _⟩ := again_ob hl hx'
    rw [← h2, hph j y h1] at hb
    rw [← h2', hph j' y' h1'] at hb'
    refine hR.objs.apart j x j' x' h4 h4' (fun e => ?_) b hb hb'
    subst e
    rw [h1] at h1'
    injection h1' with h1'
    subst h1'
    exact hne (h2.symm.trans h2')
  · obtain ⟨j, y, h1, h2, _, h4, _⟩ := again_ob hl hx
    rw [← h2, hph j y h1] at hb
    exact hR.objs.free j x h4 b hb
  · have := hA.objs.old b hb
    have := hR.keeps.size
    omega
  · have hs := hA.slots i
    rw [look_init, if_pos (Nat.zero_le _), Nat.sub_zero] at hs ⊢
    cases i with
    | zero =>
      simp only [List.getElem?_cons_zero, List.getD_cons_zero]
      exact h0.frame (Nat.le_refl _) (fun b _ h => hX1 b h) fun _ _ _ => rfl
    | succ i =>
      rw [hvr i]
      simp only [List.getElem?_cons_succ, List.getD_cons_succ] at hs ⊢
      have hob1 : ∀ p e' sh bx, ps[i]? = some p → p = .lent e' sh bx → ∃ j y, (lentL 0 (.imm e :: ps))[j]? = some y ∧ y = (i + 1, e', sh, bx) := fun p e' sh bx hp h => by
        subst h
        obtain ⟨j, hj⟩ := List.mem_iff_getElem?.1 (mem_lentL (.imm e :: ps) 0 (i + 1) e' sh bx (Nat.zero_le _) (by simpa using hp))
        exact ⟨j, _, hj, rfl⟩
      split at hs
      · rename_i t hp
        rw [fillL_other ps ds r 0 i _ hl hp (by simp)]
        exact RepV.frame hR.keeps.size hXw hkw hs
      · rename_i t hp
        rw [fillL_other ps ds r 0 i _ hl hp (by simp)]
        obtain ⟨b, off, cs, h1, h2, h3, h4, h5⟩ := hs
        refine ⟨b, off, cs, h1, fun h => h2 (hXw b h3 h), Nat.lt_of_lt_of_le h3 hR.keeps.size, fun k hk => ?_, h5.frame hR.keeps.size hXw hkw⟩
        rw [← h4 k hk]
        simp only [World.cell?, hkw b h3 h2]
      · rename_i e' sh bx hp
        have hb1 := hbx _ (List.mem_of_getElem? hp) e' sh bx rfl
        subst hb1
        obtain ⟨j, y, hj, hy⟩ := hob1 _ _ _ _ hp rfl
        have hrb := (hR.lent j y hj).1
        simp only [List.length_nil, Nat.zero_add] at hrb
        have hpj := hph j y hj
        subst hy
        simp only at hpj hrb
        simp only [cond_true, isCel, List.any_nil, cond_false] at hs ⊢
        have hx0 : lookO (initOb 0 (.imm e :: ps) (z0 :: ds)) (i + 1) = some ⟨true, e', sh, (z0 :: ds).getD (i + 1) .und⟩ := by
          rw [lookO_init, if_pos (Nat.zero_le _), Nat.sub_zero, List.getElem?_cons_succ, hp]
        intro x hx
        obtain ⟨b, off, u, g1, g2, g3, g4⟩ := hs _ hx0
        have hxx : x.t = e' := by
          rw [lookO_init, if_pos (Nat.zero_le _), Nat.sub_zero, List.getElem?_cons_succ, hp] at hx
          injection hx with hx
          rw [← hx]
        refine ⟨b, off, u, g1, ?_, by rw [hxx]; exact g3, g4⟩
        rw [hxx]
        simp only [Lt.loc, Ph.root, hpj, hrb] at g2 ⊢
        exact g2
      · trivial

/-- One call after the other. -/
theorem ret_trans {phL' phR' : Nat → Ph} {v' : Value} {r' : List D} {vs' : Array Value} {DS : List D} (hA : Args P A Xc w [] (.imm e :: ps) vals0 (z0 :: ds) phL) (hR : Ret P A Xc (lentY (.imm e :: ps) (z0 :: ds) phL) w w1 ⟨.imm e :: ps, [], []⟩ phL v0 r phR vs0)
    (hph : ∀ j y, (lentL 0 (.imm e :: ps))[j]? = some y → phL' y.1 = phR j) (hF : ∀ b, lentY (.imm e :: ps) DS phL' b → retF (.imm e :: ps) phR b)
    (hR' : Ret P A Xc (lentY (.imm e :: ps) DS phL') w1 w2 ⟨.imm e :: ps, [], []⟩ phL' v' r' phR' vs') :
    Ret P A Xc (lentY (.imm e :: ps) (z0 :: ds) phL) w w2 ⟨.imm e :: ps, [], []⟩ phL v' r' phR' vs' := by
  have hY : ∀ b, lentY (.imm e :: ps) DS phL' b → lentY (.imm e :: ps) (z0 :: ds) phL b ∨ w.heap.size ≤ b := fun b hb => by
    obtain ⟨j, y, hy, hm⟩ := hF b hb
    exact hR.objs.ours j _ (by rw [retOb_nil, hy]; rfl) b hm
  refine ⟨⟨hR'.objs.ok, hR'.objs.apart, hR'.objs.free, fun o x hx b hb => ?_, hA.objs.old⟩, hR.keeps.trans hR'.keeps (fun _ h => h) fun b hb h => ?_, hR'.size, hR'.val, hR'.res, fun j y hy => ?_⟩
  · rcases hR'.objs.ours o x hx b hb with h | h
    · exact hY b h
    · have := hR.keeps.size; exact .inr (by omega)
  · rcases hY b h with h | h
    · exact h
    · omega
  · obtain ⟨h1, h2⟩ := hR'.lent j y hy
    obtain ⟨g1, g2⟩ := hR.lent j y hy
    simp only [List.length_nil, Nat.zero_add] at h1 h2 g1 g2 ⊢
    rw [hph j y hy] at h1 h2
    exact ⟨h1.trans g1, fun hb => (h2 hb).trans (g2 hb)⟩

/-- What is lent is let alone for a while. -/
theorem ret_ext (W : WF P) {N : Nat → Prop} (hR : Ret P A Xc (lentY (.imm e :: ps) (z0 :: ds) phL) w w1 ⟨.imm e :: ps, [], []⟩ phL v0 r phR vs0) (hk : Keeps N w1 w2) (hN : ∀ b, N b → w.heap.size ≤ b) (hd : ∀ b, retF (.imm e :: ps) phR b → ¬ N b)
    (hfl : ∀ p ∈ ps, ∀ e' sh bx, p = .lent e' sh bx → shFlat P 8 e' sh = true) :
    Ret P A Xc (lentY (.imm e :: ps) (z0 :: ds) phL) w w2 ⟨.imm e :: ps, [], []⟩ phL v0 r phR vs0 := by
  have hy : ∀ j x, retOb [] (.imm e :: ps) r j = some x → ∃ y, (lentL 0 (.imm e :: ps))[j]? = some y ∧ x = ⟨y.2.2.2, y.2.1, y.2.2.1, r.getD j .und⟩ := fun j x hx => by
    rw [retOb_nil] at hx
    obtain ⟨y, h1, h2⟩ := Option.map_eq_some_iff.1 hx
    exact ⟨y, h1, h2.symm⟩
  refine ⟨⟨fun o x hx => ?_, hR.objs.apart, hR.objs.free, hR.objs.ours, hR.objs.old⟩, hR.keeps.trans hk (fun _ h => h) fun b hb h => ?_, hR.size, hR.val, fun k x hx => by simp at hx, hR.lent⟩
  · have h0 := hR.objs.ok o x hx
    obtain ⟨y, hy1, rfl⟩ := hy o x hx
    have hfl1 : shFlat P 8 y.2.1 y.2.2.1 = true := by
      obtain ⟨h1, h2⟩ := lentL_ge (.imm e :: ps) 0 y (List.mem_of_getElem? hy1)
      rw [Nat.sub_zero] at h2
      have hm := List.mem_of_getElem? h2
      rcases List.mem_cons.1 hm with hm | hm
      · cases hm
      · exact hfl _ hm _ _ _ rfl
    have hblk : ∀ b, b ∈ (phR o).F → w2.heap[b]? = w1.heap[b]? := fun b hb => hk.block b (h0.lt b hb) (hd b ⟨o, y, hy1, hb⟩)
    refine ⟨?_, fun hb => ?_, h0.hdr, h0.nodup, fun b hb => Nat.lt_of_lt_of_le (h0.lt b hb) hk.size⟩
    · have hT : Own P A (fun _ => True) w1 (phR o).L y.2.2.1 y.2.1 (phR o).cs (r.getD o .und) := Own.flat W 8 hfl1 h0.own
      exact Own.flat W 8 hfl1 (hT.frame (X' := fun _ => True) hk.size (fun _ _ _ => trivial) (fun _ _ h => absurd trivial h) fun b hb => hblk b (by simp only [Ph.F, Ph.S, List.mem_append]; exact .inr (.inl hb)))
    · obtain ⟨b, E, c, h1, h2, h3⟩ := h0.box hb
      exact ⟨b, E, c, h1, (hblk b (by simp [Ph.F, h1])).trans h2, h3⟩
  · have := hN b h
    omega

/-- Before the first call. -/
theorem ret_refl (hA : Args P A Xc w [] (.imm e :: ps) vals0 (z0 :: ds) phL) :
    Ret P A Xc (lentY (.imm e :: ps) (z0 :: ds) phL) w w ⟨.imm e :: ps, [], []⟩ phL undef (lentDs ps ds) (fun j => phL (((lentL 0 (.imm e :: ps)).getD j (0, 0, .imm, false)).1)) #[] := by
  have hl : ds.length = ps.length := by simpa using hA.dlen
  have hph : ∀ (j : Nat) (y : Nat × Nat × Sh × Bool), (lentL 0 (.imm e :: ps))[j]? = some y → phL (((lentL 0 (.imm e :: ps)).getD j (0, 0, .imm, false)).1) = phL y.1 := fun j y hy => by
    rw [List.getD_eq_getElem?_getD, hy]
    rfl
  have key : ∀ j x, retOb [] (.imm e :: ps) (lentDs ps ds) j = some x → ∃ y, (lentL 0 (.imm e :: ps))[j]? = some y ∧ lookO (initOb 0 (.imm e :: ps) (z0 :: ds)) y.1 = some x := fun j x hx => by
    rw [retOb_nil] at hx
    obtain ⟨y, hy, rfl⟩ := Option.map_eq_some_iff.1 hx
    refine ⟨y, hy, ?_⟩
    obtain ⟨h1, h2⟩ := lentL_ge (.imm e :: ps) 0 y (List.mem_of_getElem? hy)
    rw [lookO_init, if_pos (Nat.zero_le _), h2]
    have := lentDs_get ps ds 1 j y hl (show (lentL 1 ps)[j]? = some y from hy)
    rw [this]
    have h3 : 1 ≤ y.1 := (lentL_ge ps 1 y (List.mem_of_getElem? (show (lentL 1 ps)[j]? = some y from hy))).1
    rw [Nat.sub_zero]
    obtain ⟨k, hk⟩ : ∃ k, y.1 = k + 1 := ⟨y.1 - 1, by omega⟩
    rw [hk, List.getD_cons_succ, Nat.add_sub_cancel]
  refine ⟨⟨fun o x hx => ?_, fun o x o' x' hx hx' hne b hb hb' => ?_, fun o x hx b hb => ?_, fun o x hx b hb => ?_, hA.objs.old⟩, Keeps.refl _ w, rfl, rfl, fun k x hx => by simp at hx, fun j y hy => ?_⟩
  · obtain ⟨y, hy, hx1⟩ := key o x hx
    simp only [hph o y hy]
    refine (hA.objs.ok _ _ hx1).frame (Nat.le_refl _) ?_ (fun _ _ _ => rfl) fun _ _ => rfl
    rintro b _ (h | ⟨j, z, hz, hm⟩)
    · exact .inl h
    · obtain ⟨y', hy', hz1⟩ := key j z hz
      simp only [hph j y' hy'] at hm
      exact .inr ⟨_, z, hz1, hm⟩
  · obtain ⟨y, hy, hx1⟩ := key o x hx
    obtain ⟨y', hy', hx1'⟩ := key o' x' hx'
    simp only [hph o y hy] at hb
    simp only [hph o' y' hy'] at hb'
    refine hA.objs.apart _ _ _ _ hx1 hx1' (fun e => hne ?_) b hb hb'
    have h1 := lent_idx _ o y hy
    have h2 := lent_idx _ o' y' hy'
    rw [← h1, ← h2, e]
  · obtain ⟨y, hy, hx1⟩ := key o x hx
    simp only [hph o y hy] at hb
    exact hA.objs.free _ _ hx1 b hb
  · obtain ⟨y, hy, hx1⟩ := key o x hx
    simp only [hph o y hy] at hb
    exact .inl ⟨_, x, hx1, hb⟩
  · simp only [List.length_nil, Nat.zero_add, hph j y hy]
    exact ⟨trivial, fun _ => trivial⟩

theorem rep_i64 {X : Nat → Prop} {u : Nat} {cc : List Value} {x : D} (h : Rep P A X w u cc x) (hu : tk P u = .int .i64) : cc = [.int .i64 x.i] := by
  cases h <;> simp_all [D.i]
/-- Numbers of a slice that is only read. -/
theorem boxAt_of (W : WF P) {X : Nat → Prop} {t u : Nat} {v : Value} {d : D} (h : RepV P A X w t v d) (ht : tk P t = .slc u) (hu : tk P u = .int .i64) : BoxAt w v (d.xs.map D.i) := by
  obtain ⟨cs, hr, rfl⟩ := h
  cases hr with
  | @slcN _ _ p h1 => exact .inl ⟨p, by simp [mkV, ht, isAgg], rfl⟩
  | slc h1 hx hb hcap hcl hrow hel =>
    rename_i e b off cap xs css
    rw [ht] at h1
    injection h1 with h1
    subst h1
    refine .inr ⟨b, off, cap, by simp [mkV, ht, isAgg, D.xs], fun i hi => ?_⟩
    simp only [D.xs, List.length_map] at hi ⊢
    have h2 := rep_i64 (hel i hi) hu
    have h3 := hrow i hi
    have h4 := hcl i hi
    rw [h2] at h3 h4
    have h5 := h3 0 (by simp)
    simp only [List.length_cons, List.length_nil, Nat.zero_add] at h4
    rw [← h4, Nat.mul_one, Nat.add_zero] at h5
    rw [h5]
    simp [hi]
  | _ => simp_all

end

section
variable {X0 Y0 : Nat → Prop} {w0 : World} {g : St} {ph : Nat → Ph} {a : Act} {w : World} {o : Oper} {K : Dl → Prop}

/-- A CALL OF A FUNCTION THAT GOES THROUGH ALL COLUMNS. -/
theorem step_every (W : WF P) {H : Hnd} (hH : CallOk P A H.cal) (R : RelA P A X0 Y0 w0 g ph a w) {c : Call} {x : Operand} {h : Nat} (ho : o.op = .call c) (hc : c.callee = .value x) (hav : g.av x = .fn h) (hE : everyD P A H h (c.args.toList.map g.av) (lookO g.ob) K) :
    Does P o a w (Out P A X0 Y0 w0 g a K) := by
  have hx := AVR.eval R x
  rw [hav] at hx
  have hx' : a.eval x = .func (.func h) #[] #[] := hx
  unfold everyD at hE
  split at hE <;> try contradiction
  rename_i t d f l hal
  split at hE <;> try contradiction
  rename_i e ps u hps hrs htk
  split at hE <;> try contradiction
  rename_i ds bs os u' har hu he
  obtain ⟨hg, hev, hxs, hlen, hvis⟩ := of_cond hE
  clear hE
  simp only [Bool.and_eq_true, List.isEmpty_iff] at hg
  obtain ⟨hu', hn, hap, hna, hcel, hbx⟩ := hg
  have hsig : A.sig f = ⟨.imm e :: ps, [], []⟩ := by
    cases hs : A.sig f with
    | mk p r cc => rw [hs] at hps hrs hcel; simp only at hps hrs hcel; rw [hps, hrs, hcel]
  rw [hsig] at hna
  have hbx' : ∀ p ∈ ps, ∀ e' sh bx, p = .lent e' sh bx → bx = true := fun p hp e' sh bx h1 => by
    have := List.all_eq_true.1 hbx p hp
    subst h1
    exact this
  have hfl : ∀ p ∈ ps, ∀ e' sh bx, p = .lent e' sh bx → shFlat P 8 e' sh = true := fun p hp e' sh bx h1 => by
    have h2 := hna
    simp only [noAlias, Bool.and_eq_true, List.all_eq_true] at h2
    have := h2.2 p (List.mem_cons_of_mem _ hp)
    subst h1
    exact this
  have hiu' : tk P u' = .int .i64 := by
    unfold isI at hu'
    split at hu' <;> try contradiction
    assumption
  have hargs : c.args.size = 2 := by
    have := congrArg List.length hal
    simpa using this
  have h0 : AVR P A (Xof X0 (lookO g.ob) ph) w (lookO g.ob) ph (.imm t d) ((c.args.map a.eval).getD 0 undef) := map_eval R 0 _ (by rw [hal]; rfl)
  have h1 : AVR P A (Xof X0 (lookO g.ob) ph) w (lookO g.ob) ph (.clo f l) ((c.args.map a.eval).getD 1 undef) := map_eval R 1 _ (by rw [hal]; rfl)
  have hvals : c.args.map a.eval = #[(c.args.map a.eval).getD 0 undef, (c.args.map a.eval).getD 1 undef] := by
    apply Array.ext
    · simp [hargs]
    · intro i hi hi'
      have hi2 : i < 2 := by simpa [hargs] using hi
      have : i = 0 ∨ i = 1 := by omega
      rcases this with rfl | rfl <;> simp [Array.getD_eq_getD_getElem?, hargs]
  generalize hv0 : (c.args.map a.eval).getD 0 undef = bv at h0 hvals
  generalize hv1 : (c.args.map a.eval).getD 1 undef = cv at h1 hvals
  obtain ⟨cvs, rfl, hcs, hcl⟩ := h1
  have h0 : RepV P A (Xof X0 (lookO g.ob) ph) w t bv d := h0
  -- the first call's arguments
  have har' : argsD P A (lookO g.ob) [] 0 (.imm e :: ps) (.imm e (.slc []) :: l) = some (.slc [] :: ds, bs, os) := by
    have : argD P A (lookO g.ob) (.imm e) (.imm e (.slc [])) = some (.slc [], [], []) := by simp [argD, capD, St.data, sameK, cond_eq, beq_iff]
    simp only [argsD, isCel, List.any_nil, cond_false, this, har, List.nil_append]
  obtain ⟨phL, hA, hosl, hbs, hos, hY⟩ := args_of W R.objs R.keeps.size (cs := []) (vals := #[.slice none 0 0] ++ cvs) har' (by simp [hcs]; omega) (fun i b hb => by
    cases i with
    | zero =>
      simp only [List.getElem?_cons_zero, Option.some.injEq] at hb
      subst hb
      refine ⟨[.slice none 0 0], .slcN he, ?_⟩
      simp [mkV, he, isAgg, Array.getD_eq_getD_getElem?, Array.getElem?_append]
    | succ i =>
      simp only [List.getElem?_cons_succ] at hb
      have : (#[Value.slice none 0 0] ++ cvs).getD (i + 1) undef = cvs.getD i undef := by
        simp [Array.getD_eq_getD_getElem?, Array.getElem?_append]
      rw [this]
      exact (hcl i b hb).all) hn hap
  let Y := lentY (.imm e :: ps) (.slc [] :: ds) phL
  let Xc := Xcal X0 (lookO g.ob) ph bs os
  let J : (Nat → Prop) → List D → World → Prop := fun N r w1 => ∃ phR, Ret P A Xc Y w w1 ⟨.imm e :: ps, [], []⟩ phL undef r phR #[] ∧ (∀ b, N b → w.heap.size ≤ b ∧ b < w1.heap.size) ∧ ∀ b, retF (.imm e :: ps) phR b → ¬ N b
  have hYX : ∀ b, Y b → Xof X0 (lookO g.ob) ph b := fun b hb => by
    obtain ⟨o, ho, x, hx, hm⟩ := hY b hb
    exact .inr ⟨o, x, hx, hm⟩
  have hcalls := hev.2 (List D) J f cvs bv (d.xs.map D.i) _ (fun N r w1 hJ => ?_) (fun N N' r w1 w2 hJ hk hN' => ?_) (fun N r w1 b pre Q hNb hb hJ hcell hleaf => ?_) (fun x hx => ?_) (by simpa using hlen) (lentDs ps ds) w _ ⟨_, ret_refl hA, fun b hb => hb.elim, fun _ _ h => h⟩ hvis
  · intro next Q hnext
    unfold Oper.wp
    obtain ⟨fn, hf, hb⟩ := hev.1
    have hex := run_callV (w := w) W ho hc hx' hf hb
    rw [Array.append_empty, hvals] at hex
    rw [hex]
    refine Calls.mono hcalls fun e' w' he' => ?_
    obtain ⟨N, r, rfl, hK, phR, hR, _⟩ := he'
    refine hnext _ w' ?_
    have hm := merge (v := .und) (val := undef) (base := 0) (fz := []) W R (by rw [hna]; rfl) hn hap hosl hbs hos hY hR fun _ _ _ _ _ => rfl
    simp only [resVs, List.nil_append, List.length_nil, overs, List.map_nil, wks, List.append_nil] at hm
    exact ⟨_, hK, hm⟩
  · obtain ⟨phR, hR, _⟩ := hJ
    exact boxAt_of W (h0.frame hR.keeps.size (fun _ _ h => h) fun b hb hn => hR.keeps.block b hb fun h => hn (hYX b h)) htk hu
  · obtain ⟨phR, hR, hN, hd⟩ := hJ
    refine ⟨phR, ret_ext W hR hk (fun b hb => (hN b hb).1) hd hfl, fun b hb => ?_, fun b hb hb' => ?_⟩
    · obtain ⟨h1, h2⟩ := hN' b hb
      rcases h1 with h1 | h1
      · exact ⟨(hN b h1).1, h2⟩
      · have := hR.keeps.size
        exact ⟨by omega, h2⟩
    · rcases (hN' b hb').1 with h1 | h1
      · exact hd b hb h1
      · obtain ⟨j, y, hy, hm⟩ := hb
        have := (hR.objs.ok j _ (by rw [retOb_nil, hy]; rfl)).lt b hm
        omega
  · obtain ⟨phR, hR, hN, hd⟩ := hJ
    have hc1 : P.cellsOf u' = 1 := W.one u' (by rw [hiu']; rfl) (by rw [hiu']; simp)
    obtain ⟨phL', hA', hph, hF⟩ := args_again hA hR (vals := #[.slice (some ⟨b, 0, none⟩) pre.length pre.length] ++ cvs) (d0 := .slc (pre.map .int)) hbx' (by simp) (fun i => by simp [Array.getD_eq_getD_getElem?, Array.getElem?_append]) (by
      refine ⟨[.slice (some ⟨b, 0, none⟩) (pre.map D.int).length pre.length], .slc (css := fun i => [.int .i64 (pre.getD i 0)]) he ?_ hb (by simp) (fun i _ => by simp [hc1]) (fun i hi => ?_) (fun i hi => ?_), ?_⟩
      · rintro (h | h)
        · have := hA.objs.old b h
          have := (hN b hNb).1
          omega
        · exact hd b h hNb
      · intro k hk
        have : k = 0 := by simp at hk; omega
        subst this
        rw [hc1, Nat.mul_one, Nat.zero_add, Nat.add_zero, hcell i (by simpa using hi)]
        rfl
      · have hi' : i < pre.length := by simpa using hi
        have : (pre.map D.int).getD i .und = .int (pre.getD i 0) := by simp [hi']
        rw [this]
        exact .int hiu'
      · simp [mkV, he, isAgg, Array.getD_eq_getD_getElem?, Array.getElem?_append])
    obtain ⟨⟨fn, hf, hb2, _⟩, hC⟩ := hH f _ _ hleaf
    rw [hsig] at hC
    refine ⟨⟨fn, hf, hb2⟩, Calls.mono (hC Xc w1 _ phL' hA') fun e' w2 he' => ?_⟩
    obtain ⟨v, r', phR', vs, rfl, hQ, hR'⟩ := he'
    have hvs : vs = #[] := Array.eq_empty_of_size_eq_zero hR'.size
    have hv : v = undef := by
      rw [hR'.val, dif_neg (by rw [hvs]; simp), hvs]
      rfl
    subst hvs hv
    refine ⟨r', rfl, hQ, ⟨phR', ret_trans hA hR hph hF hR', fun b hb => ⟨(hN b hb).1, Nat.lt_of_lt_of_le (hN b hb).2 hR'.keeps.size⟩, fun b hb hb' => ?_⟩, hR'.keeps.mono fun b hb => hd b (hF b hb)⟩
    obtain ⟨j, y, hy, hm⟩ := hb
    rcases hR'.objs.ours j _ (by rw [retOb_nil, hy]; rfl) b hm with h | h
    · exact hd b (hF b h) hb'
    · have := (hN b hb').2
      omega
  · obtain ⟨y, hy, rfl⟩ := List.mem_map.1 hx
    exact hxs y hy
end
end Go.Ab

/- Every operation. -/
namespace Go.Ab
variable {P : Program} {A : Ann}

section
variable {X0 Y0 : Nat → Prop} {w0 : World} {g : St} {ph : Nat → Ph} {a : Act} {w : World} {o : Oper} {K : Dl → Prop}

theorem of_emptyOr {α : Type _} {l : List α} {b : Bool} (h : (l.isEmpty || b) = true) : l = [] ∨ b = true := by
  rcases Bool.or_eq_true_iff.1 h with h | h
  · exact .inl (List.isEmpty_iff.1 h)
  · exact .inr h

theorem step_call (W : WF P) {H : Hnd} (hH : HndOk P A H) (R : RelA P A X0 Y0 w0 g ph a w) {f : Nat} {c : Call} (hop : o.op = .call c) (h : stepD P A H f o g.av (lookO g.ob) K) : Does P o a w (Out P A X0 Y0 w0 g a K) := by
  unfold stepD at h
  rw [hop] at h
  simp only at h
  split at h <;> try contradiction
  · rename_i x name hc
    split at h <;> try contradiction
    rename_i t d hav
    split at h <;> try contradiction
    rename_i ds bs os har
    obtain ⟨hb, h⟩ := of_cond h
    exact step_call_inv W hH R hop hc hav har (of_emptyOr hb) h
  · rename_i hc
    split at h <;> try contradiction
    rename_i t x ht hx
    exact step_len W hop hc ht hx R h
  · rename_i hc
    split at h <;> try contradiction
    rename_i dst t u x y hd ht hx
    obtain ⟨htu, h⟩ := of_cond h
    exact step_append W hop hc ht hx htu R h
  · rename_i hc
    exact step_minmax (mx := false) W hop hc R h
  · rename_i hc
    exact step_minmax (mx := true) W hop hc R h
  · rename_i x hc
    split at h <;> try contradiction
    · rename_i f' hav
      rw [cond_eq] at h
      split at h
      · exact step_prim W R hop hc hav h
      · rw [cond_eq] at h
        split at h
        · exact step_part W hH.cal R hop hc hav h
        · rw [cond_eq] at h
          split at h
          · exact step_every W hH.cal R hop hc hav h
          · exact step_call_fn W hH.cal R hop hc hav h
    · rename_i f' l hav
      exact step_call_clo W hH.cal R hop hc hav h
    · rename_i t d hav
      split at h <;> try contradiction
      rename_i ds bs os har
      obtain ⟨hb, h⟩ := of_cond h
      exact step_call_dyn W hH R hop hc hav har (of_emptyOr hb) h

theorem takeV_flat {ob : Nat → Option Obj} {t : Nat} {av : AV} {r : Option Sh × D × Objs} (h : takeV P ob t av = some r) : av.flatA = true := by
  cases av <;> first | rfl | simp [takeV] at h

/-- A box for what is lent. -/
theorem step_boxD {f t dst : Nat} {x : Operand} {C : Prop} (W : WF P) (ho : o.op = .box t x) (R : RelA P A X0 Y0 w0 g ph a w) (h : boxD P A f dst t (g.av x) (lookO g.ob) K C) (hC : C → Does P o a w (Out P A X0 Y0 w0 g a K)) :
    Does P o a w (Out P A X0 Y0 w0 g a K) := by
  unfold boxD at h
  split at h
  · rename_i k u hav
    rw [cond_eq] at h
    split at h
    · obtain ⟨hk, h⟩ := of_cond h
      split at h <;> try contradiction
      rename_i z hz
      split at h <;> try contradiction
      rename_i l hsh
      obtain ⟨hbx, h⟩ := of_cond' h
      have hx := AVR.eval R x
      rw [hav] at hx
      have hx : AVR1v P A (Xof X0 (lookO g.ob) ph) w (lookO g.ob) ph k [] u (a.eval x) := hx
      have hO := R.objs.ok k z hz
      have hni : z.sh ≠ .it := by rw [hsh]; simp
      obtain ⟨u', g1, g2, g3⟩ := (hx z hz).2 hni
      simp only [tyAt, Option.some.injEq] at g1
      subst g1
      have hown := hO.own
      have hv : a.eval x = mkV P z.t (ph k).cs := by
        rcases g3 with g3 | ⟨_, _, g3⟩
        · exfalso
          rw [hsh] at hown
          simp only [Lt.sub] at g3
          generalize (ph k).L = L at hown g3
          generalize z.d = dd at hown
          generalize (ph k).cs = cc at hown
          cases hown with
          | agg => simp [Lt.hv] at g3
        · exact g3
      have htz : tk P t = tk P z.t := (sameK_eq hk).trans g2.symm
      have hc' : (mkV P z.t (ph k).cs).cells = (ph k).cs.toArray := by rw [← Array.toList_inj, own_cells hown (by rw [hsh]; simp)]
      have hlen := hown.length W
      have hne : tk P t ≠ .other := by
        rw [htz]
        rw [hsh] at hown
        generalize z.d = dd at hown
        generalize (ph k).L = L at hown
        generalize (ph k).cs = cc at hown
        cases hown with
        | agg h => rw [h]; simp
      refine Does.value (v := .pointer (some ⟨w.heap.size, 0, none⟩)) (w' := addRow w (ph k).cs.toArray t) ?_ ⟨_, h, ?_⟩
      · simp [execOp, ho, Instr.box, newVar, newRow, hv, hc', addRow]
      · have hkp := addRow_keeps w (ph k).cs.toArray t
        refine RelD.upd (D := fun _ => False) (ph' := ph) R (hkp.mono fun _ h => h.elim) (fun c _ => ⟨rfl, rfl⟩) (fun c y hd => hd.elim) (fun c y c' y' hd => hd.elim) (fun _ c y hd => hd.elim) (fun hX s => ?_) (fun hX => ?_)
        · exact AVR.stays (ks := []) (ph := ph) (ph' := ph) hkp.size hX (fun b hb _ => hkp.block b hb id) (by simp) (fun q y hy => .same rfl rfl fun b hb => hkp.block b ((R.objs.ok q y hy).lt b hb) id) (fun q y y' hy hy' _ _ _ b hb hm => ⟨hX b hb hm.1, hm.2⟩) (R.slots s)
        · refine ⟨w.heap.size, 0, (ph k).cs, rfl, fun hX' => ?_, by rw [addRow_size]; omega, fun i hi => ?_, by rw [hlen]; exact (W.kind _ _ htz hne).symm, fun y hy => ?_⟩
          · rcases hX' with h | ⟨c, y, hy, hm⟩
            · have := R.objs.old _ h
              have := R.keeps.size
              omega
            · have := (R.objs.ok c y hy).lt _ hm
              omega
          · rw [Nat.zero_add, cell_of_block (addRow_here w _ _), List.getElem?_toArray]
          · rw [show upO [] (lookO g.ob) k = lookO g.ob k from rfl, hz] at hy
            injection hy with hy
            subst hy
            exact ⟨fun e => absurd e hni, fun _ => ⟨z.t, rfl, htz.symm, .inr ⟨rfl, hO.hdr hbx, mkV_kind htz⟩⟩⟩
    · exact hC h
  · rename_i k u hav
    split at h
    · rename_i e hte
      rw [cond_eq] at h
      split at h
      · split at h
        · rename_i z hz
          have hx := AVR.eval R x
          rw [hav] at hx
          have hx : AVR1p P (lookO g.ob) ph k [] u (a.eval x) := hx
          obtain ⟨b, off, u', e1, _⟩ := hx z hz
          have hkp := addRow_keeps w #[a.eval x] t
          refine Does.value (v := .pointer (some ⟨w.heap.size, 0, none⟩)) (w' := addRow w #[a.eval x] t) (by simp [execOp, ho, Instr.box, newVar, newRow, e1, Value.cells, addRow]) ⟨_, h, ?_⟩
          refine RelD.upd (D := fun _ => False) (ph' := ph) R (hkp.mono fun _ h => h.elim) (fun c _ => ⟨rfl, rfl⟩) (fun c y hd => hd.elim) (fun c y c' y' hd => hd.elim) (fun _ c y hd => hd.elim) (fun hX s => ?_) (fun hX => ?_)
          · exact AVR.stays (ks := []) (ph := ph) (ph' := ph) hkp.size hX (fun b hb _ => hkp.block b hb id) (by simp) (fun q y hy => .same rfl rfl fun b hb => hkp.block b ((R.objs.ok q y hy).lt b hb) id) (fun q y y' hy hy' _ _ _ b hb hm => ⟨hX b hb hm.1, hm.2⟩) (R.slots s)
          · refine ⟨w.heap.size, 0, a.eval x, rfl, fun hX' => ?_, by rw [addRow_size]; omega, fun i hi => ?_, hx⟩
            · rcases hX' with h | ⟨c, y, hy, hm⟩
              · have := R.objs.old _ h
                have := R.keeps.size
                omega
              · have := (R.objs.ok c y hy).lt _ hm
                omega
            · have : i = 0 := by simp at hi; omega
              subst this
              rw [Nat.zero_add, cell_of_block (addRow_here w _ _)]
              rfl
        · exact hC h
      · exact hC h
    · exact hC h
  · exact hC h

/-- ONE OPERATION, BY ITS RULE. -/
theorem step_all (W : WF P) {H : Hnd} (hH : HndOk P A H) (R : RelA P A X0 Y0 w0 g ph a w) {f : Nat} (h : stepD P A H f o g.av (lookO g.ob) K) : Does P o a w (Out P A X0 Y0 w0 g a K) := by
  cases hop : o.op with
  | call c => exact step_call W hH R hop h
  | move x =>
    unfold stepD at h
    rw [hop] at h
    simp only at h
    split at h
    · exact h.elim
    · exact step_move (.inl hop) R h
  | assign x =>
    unfold stepD at h
    rw [hop] at h
    simp only at h
    split at h
    · exact h.elim
    · exact step_move (.inr hop) R h
  | pick c x y => unfold stepD at h; rw [hop] at h; exact step_pick W hop R h
  | alloc t =>
    unfold stepD at h
    rw [hop] at h
    simp only at h
    split at h <;> try contradiction
    obtain ⟨hg, h⟩ := of_cond h
    exact step_alloc W hop R hg h
  | box t x =>
    unfold stepD at h
    rw [hop] at h
    simp only at h
    split at h <;> try contradiction
    · rename_i dst sv d os hd ht
      exact step_boxD W hop R h fun h => step_box W hop R ht (takeV_flat ht) h
    · exact step_boxD W hop R h fun h => h.elim
  | load t x => unfold stepD at h; rw [hop] at h; exact step_load W hop R h
  | store t x y => unfold stepD at h; rw [hop] at h; exact step_store W hop R h
  | nilCheck x => unfold stepD at h; rw [hop] at h; exact step_nilCheck hop R h
  | binOp op tx x y ty => unfold stepD at h; rw [hop] at h; exact step_binOp W hop R h
  | unOp op t x => unfold stepD at h; rw [hop] at h; exact step_unOp W hop R h
  | index t x i => unfold stepD at h; rw [hop] at h; exact step_index W hop R h
  | lookup t m k b =>
    cases b with
    | false => unfold stepD at h; rw [hop] at h; exact step_lookup W hop R h
    | true => unfold stepD at h; rw [hop] at h; exact (show False from h).elim
  | convert s d x => unfold stepD at h; rw [hop] at h; exact step_convert W hop R h
  | fieldAddr s x j => unfold stepD at h; rw [hop] at h; exact step_fieldAddr W hop R h
  | indexAddr t x i => unfold stepD at h; rw [hop] at h; exact step_indexAddr W hop R h
  | build t parts =>
    unfold stepD at h
    rw [hop] at h
    simp only at h
    split at h <;> try contradiction
    cases hk : tk P t with
    | struct fs => exact step_build_struct W hop R hk h
    | arr n e => exact step_build_arr W hop R hk h
    | _ => unfold buildD at h; rw [hk] at h; exact (show False from h).elim
  | buildSlice t n parts =>
    unfold stepD at h
    rw [hop] at h
    simp only at h
    split at h <;> try contradiction
    cases hk : tk P t with
    | slc e => exact step_buildSlice W hop R hk h
    | _ => unfold buildSliceD at h; rw [hk] at h; exact (show False from h).elim
  | makeSlice t x y =>
    unfold stepD at h
    rw [hop] at h
    simp only at h
    split at h <;> try contradiction
    rename_i dst l c hd hl hc
    exact step_makeSlice W hop R hl hc h
  | slice t x lo hi mx =>
    cases mx with
    | none => unfold stepD at h; rw [hop] at h; exact step_slice W hop R h
    | some m => unfold stepD at h; rw [hop] at h; exact (show False from h).elim
  | makeFunc fn first caps =>
    cases fn with
    | func f' =>
      unfold stepD at h
      rw [hop] at h
      simp only at h
      obtain ⟨hg, h⟩ := of_cond h
      simp only [Bool.and_eq_true, List.all_eq_true] at hg
      exact step_makeFunc hop hg.1 R hg.2 h
    | _ => unfold stepD at h; rw [hop] at h; exact (show False from h).elim
  | makeMap t m =>
    cases m with
    | some m => unfold stepD at h; rw [hop] at h; exact (show False from h).elim
    | none =>
      unfold stepD at h
      rw [hop] at h
      simp only at h
      split at h <;> try contradiction
      rename_i dst k e hd hk
      exact step_makeMap hop R hk h
  | range t x =>
    unfold stepD at h
    rw [hop] at h
    simp only at h
    split at h <;> try contradiction
    rename_i dst k e m u hd hk hav
    obtain ⟨htu, h⟩ := of_cond h
    split at h <;> try contradiction
    rename_i ob hob
    split at h <;> try contradiction
    rename_i hsh
    obtain ⟨hmd, h⟩ := of_cond' h
    exact step_range hop R hk hav htu hob hsh (fun e => by rw [beq_iff.2 e] at hmd; cases hmd) h
  | next x b =>
    cases b with
    | true => unfold stepD at h; rw [hop] at h; exact (show False from h).elim
    | false =>
      unfold stepD at h
      rw [hop] at h
      simp only at h
      split at h <;> try contradiction
      rename_i q m t hav
      split at h <;> try contradiction
      rename_i kt et ob om hk hq hm
      split at h <;> try contradiction
      rename_i hsh
      obtain ⟨hB, h⟩ := of_cond h
      exact step_next W hop R hav hk hq hm hsh hB h.1 h.2
  | mapUpdate t x y z =>
    unfold stepD at h
    rw [hop] at h
    simp only [mapStoreD] at h
    split at h <;> try contradiction
    rename_i kt et hk
    obtain ⟨hkey, h⟩ := of_cond h
    split at h <;> try contradiction
    rename_i m u kd sv vd os hav hdk htv
    obtain ⟨hg, h⟩ := of_cond h
    simp only [Bool.and_eq_true] at hg
    split at h <;> try contradiction
    rename_i ob hob
    split at h <;> try contradiction
    rename_i hsh
    obtain ⟨hany, h⟩ := of_cond' h
    exact step_mapUpdate W hop R hk hkey hav hdk htv hg.1 (fun s e => by have := hg.2; rw [e] at this; exact this) hob hsh hany h
  | makeInterface t x => unfold stepD at h; rw [hop] at h; exact step_makeInterface W hop R h
  | typeAssert x xt t ok =>
    cases ok with
    | true => unfold stepD at h; rw [hop] at h; exact step_typeAssert W hop R h
    | false => unfold stepD at h; rw [hop] at h; exact (show False from h).elim
  | extract x i =>
    unfold stepD at h
    rw [hop] at h
    simp only at h
    split at h <;> try contradiction
    rename_i l hav
    exact step_extract hop R hav h
  | _ => unfold stepD at h; rw [hop] at h; exact (show False from h).elim

end
end Go.Ab

/- Regions, code, functions. -/
namespace Go.Ab
variable {P : Program} {A : Ann}

/-- What stays true of an activation: its size, no deferred calls, and where lent memory lies. -/
structure Act' (N : Nat) (ids : List Nat) (av : Nat → Value) (a : Act) : Prop where
  size : N ≤ a.tmps.size
  defers : a.defers = []
  lent : ∀ k ∈ ids, a.tmps.getD k undef = av k

theorem Act'.put {N : Nat} {ids : List Nat} {av : Nat → Value} {a : Act} (h : Act' N ids av a) {d : Option Nat} {v : Value} (hd : ∀ k, d = some k → k ∉ ids) : Act' N ids av (a.put d v) := by
  cases d with
  | none => exact h
  | some d =>
    refine ⟨by simp only [Act.put, Array.size_setIfInBounds]; exact h.size, h.defers, fun k hk => ?_⟩
    have hne : k ≠ d := fun e => hd d rfl (by subst e; exact hk)
    rw [put_other hne]
    exact h.lent k hk

theorem exists_min {p : Nat → Prop} (h : ∃ n, p n) : ∃ n, p n ∧ ∀ m, p m → n ≤ m := by
  obtain ⟨n, hn⟩ := h
  induction n using Nat.strongRecOn with
  | _ n ih =>
    by_cases hm : ∃ m, m < n ∧ p m
    · obtain ⟨m, h1, h2⟩ := hm
      exact ih m h1 h2
    · exact ⟨n, hn, fun m hp => Nat.le_of_not_lt fun hl => hm ⟨m, hl, hp⟩⟩

section
variable {X0 Y0 : Nat → Prop} {w0 : World} {f N : Nat} {av0 : Nat → Value} {H : Hnd}

/-- A state stands for an activation in a world. -/
def Stands (P : Program) (A : Ann) (X0 Y0 : Nat → Prop) (w0 : World) (f : Nat) (av0 : Nat → Value) (g : St) (a : Act) (w : World) : Prop :=
  (∃ ph, RelA P A X0 Y0 w0 g ph a w) ∧ Act' (ntm P f) (lentIds 0 (A.sig f).ps) av0 a

theorem dstOk_spec {d : Option Nat} (h : dstOk P A f d = true) : ∀ k, d = some k → k < ntm P f ∧ k ∉ lentIds 0 (A.sig f).ps := by
  rintro k rfl
  simp only [dstOk, Bool.and_eq_true, Nat.blt_eq, Bool.not_eq_true', List.any_eq_false, beq_iff] at h
  exact ⟨h.1, fun hm => h.2 k hm rfl⟩

theorem Stands.app {g : St} {a : Act} {w' : World} {δ : Dl} {v : Value} {dst : Option Nat} (S : Act' (ntm P f) (lentIds 0 (A.sig f).ps) av0 a) (hd : dstOk P A f dst = true) (h : RelD P A X0 Y0 w0 (look g.sl) (lookO g.ob) a.tmps δ v w') : Stands P A X0 Y0 w0 f av0 (g.app dst δ) (a.put dst v) w' := by
  have h2 := dstOk_spec hd
  exact ⟨h.app fun d e => Nat.lt_of_lt_of_le (h2 d e).1 S.size, S.put fun k e => (h2 k e).2⟩

theorem Stands.und {g : St} {a : Act} {w : World} {dst : Option Nat} (S : Stands P A X0 Y0 w0 f av0 g a w) (hd : dstOk P A f dst = true) : Stands P A X0 Y0 w0 f av0 (g.app dst { v := .und }) (a.put dst undef) w := by
  obtain ⟨⟨ph, R⟩, hA⟩ := S
  exact Stands.app hA hd (RelD.pure R rfl)

theorem step_rel (W : WF P) (hH : HndOk P A H) {g : St} {a : Act} {w : World} {o : Oper} {K : St → Prop} (S : Stands P A X0 Y0 w0 f av0 g a w) (h : g.step P A H f o K) (next : Act → World → Prop) (Q : Exit → Act → World → Prop) (hn : ∀ g' a' w', Stands P A X0 Y0 w0 f av0 g' a' w' → K g' → next a' w') : o.wp P a w next Q := by
  obtain ⟨⟨ph, R⟩, hA⟩ := S
  unfold St.step at h
  obtain ⟨hd, h⟩ := of_cond h
  refine step_all W hH R h next Q fun v w' hv => ?_
  obtain ⟨δ, hK, hD⟩ := hv
  exact hn _ _ _ (Stands.app hA hd hD) hK

theorem yielded_eq {ops : Array Oper} {a : Act} {j s : Nat} (h : (ops[j]?).bind (·.dst) = some s) : yielded ops a.tmps j = match a.tmps.getD s undef with
    | .bool b => some b
    | _ => none := by
  unfold yielded
  rw [h, Option.bind_some, Array.getD_eq_getD_getElem?]
  cases a.tmps[s]? with
  | none => rfl
  | some v => cases v <;> rfl

/-- One operation of a region, under its guard. -/
theorem guard_rel (W : WF P) (hH : HndOk P A H) {ops : Array Oper} {g : St} {a : Act} {w : World} {o : Oper} {K : St → Prop} (S : Stands P A X0 Y0 w0 f av0 g a w) (h : g.guard P A H f ops o K) (next : Act → World → Prop) (Q : Exit → Act → World → Prop)
    (hn : ∀ g' a' w', Stands P A X0 Y0 w0 f av0 g' a' w' → K g' → next a' w') : if Region.wanted o (yielded ops a.tmps) then o.wp P a w next Q else next (a.put o.dst undef) w := by
  unfold St.guard at h
  split at h
  · rename_i hg
    rw [if_pos (by simp [Region.wanted, hg])]
    exact step_rel W hH S h next Q hn
  · rename_i j want hg
    split at h <;> try contradiction
    rename_i s hs
    split at h <;> try contradiction
    · rename_i t d hl
      obtain ⟨hB, h⟩ := of_cond h
      obtain ⟨⟨ph, R⟩, hA⟩ := S
      obtain ⟨b, hb, hdb, R'⟩ := know_rel R hl (isB_eq hB)
      have S' : Stands P A X0 Y0 w0 f av0 (g.know s b) a w := ⟨⟨ph, R'⟩, hA⟩
      have hy : yielded ops a.tmps j = some b := by rw [yielded_eq hs, hb]
      have hw : Region.wanted o (yielded ops a.tmps) = (b == want) := by
        simp only [Region.wanted, hg, hy]
        cases b <;> cases want <;> rfl
      rw [hw]
      rw [hdb] at h
      cases b <;> cases want <;> simp only [cond_true, cond_false] at h
      · rw [if_pos (by decide)]; exact step_rel W hH S' h next Q hn
      · rw [if_neg (by decide)]
        obtain ⟨hd, h⟩ := of_cond h
        exact hn _ _ _ (S'.und hd) h
      · rw [if_neg (by decide)]
        obtain ⟨hd, h⟩ := of_cond h
        exact hn _ _ _ (S'.und hd) h
      · rw [if_pos (by decide)]; exact step_rel W hH S' h next Q hn
    · rename_i hl
      obtain ⟨hd, h⟩ := of_cond h
      obtain ⟨⟨ph, R⟩, hA⟩ := id S
      have hv : a.tmps.getD s undef = undef := by
        have := R.slots s
        rw [hl] at this
        exact this
      have hy : yielded ops a.tmps j = none := by rw [yielded_eq hs, hv]; rfl
      rw [if_neg (by simp [Region.wanted, hg, hy])]
      exact hn _ _ _ (S.und hd) h

/-- Operations by their numbers. -/
def wpI (P : Program) (A : Ann) (H : Hnd) (f : Nat) (ops : Array Oper) : List Nat → St → (St → Prop) → Prop
  | [], g, K => K g
  | i :: is, g, K => match ops[i]? with
    | none => wpI P A H f ops is g K
    | some o => g.guard P A H f ops o fun g' => wpI P A H f ops is g' K

theorem wpI_wpL {ops : Array Oper} {K : St → Prop} : ∀ (is : List Nat) (g : St), wpI P A H f ops is g K = wpL P A H f ops (is.filterMap fun i => ops[i]?) g K
  | [], g => rfl
  | i :: is, g => by
    simp only [wpI, List.filterMap_cons]
    cases h : ops[i]? with
    | none => exact wpI_wpL is g
    | some o =>
      simp only [wpL]
      congr 1
      funext g'
      exact wpI_wpL is g'

theorem range_ops (ops : Array Oper) : ((List.range ops.size).filterMap fun i => ops[i]?) = ops.toList := by
  apply List.ext_getElem?
  intro i
  have : ∀ (l : List Oper), ((List.range l.length).filterMap fun i => l[i]?) = l := by
    intro l
    induction l with
    | nil => rfl
    | cons x l ih =>
      rw [List.length_cons, List.range_succ_eq_map, List.filterMap_cons]
      simp only [List.getElem?_cons_zero, List.filterMap_map]
      congr 1
  have h := this ops.toList
  simp only [Array.length_toList, Array.getElem?_toList] at h
  rw [h]

theorem wpI_rel (W : WF P) (hH : HndOk P A H) {ops : Array Oper} {K : St → Prop} {Q : Exit → Act → World → Prop} (hQ : ∀ g' a' w', Stands P A X0 Y0 w0 f av0 g' a' w' → K g' → Q .normal a' w') : ∀ (is : List Nat) (g : St) (a : Act) (w : World), Stands P A X0 Y0 w0 f av0 g a w → wpI P A H f ops is g K → wpOps P ops Q is a w
  | [], g, a, w, S, h => hQ g a w S h
  | i :: is, g, a, w, S, h => by
    simp only [wpI] at h
    simp only [wpOps]
    cases ho : ops[i]? with
    | none =>
      rw [ho] at h
      exact wpI_rel W hH hQ is g a w S h
    | some o =>
      rw [ho] at h
      simp only at h ⊢
      have := guard_rel W hH S h (wpOps P ops Q is) Q fun g' a' w' S' h' => wpI_rel W hH hQ is g' a' w' S' h'
      split at this
      · rename_i hw; rw [if_pos hw]; exact .inl this
      · rename_i hw; rw [if_neg hw]; exact this

def Ex.exit : Ex → Exit
  | .nrm => .normal
  | .ext i => .exit i
  | .ret => .ret

theorem Stands.run (W : WF P) {g : St} {a : Act} {w : World} {K : St → Prop} {l : List Cmd} (S : Stands P A X0 Y0 w0 f av0 g a w) (h : g.run P l K) : ∃ g', Stands P A X0 Y0 w0 f av0 g' a w ∧ K g' := by
  obtain ⟨⟨ph, R⟩, hA⟩ := S
  obtain ⟨g', ph', R', h'⟩ := run_rel W l g ph R h
  exact ⟨g', ⟨⟨ph', R'⟩, hA⟩, h'⟩

theorem Stands.keep {g : St} {a : Act} {w : World} (S : Stands P A X0 Y0 w0 f av0 g a w) (l : List Nat × List Nat) : Stands P A X0 Y0 w0 f av0 (g.keep l) a w := by
  obtain ⟨⟨ph, R⟩, hA⟩ := S
  exact ⟨⟨ph, keep_rel R l⟩, hA⟩

/-- Regions whose order is drawn, by the rule: what is asked of the rule. -/
def DrawOk (P : Program) (A : Ann) (H : Hnd) : Prop := ∀ (f : Nat) (ops : Array Oper) (g : St) (K : St → Prop), fwdOk ops = true → wpD P A H f ops (List.range ops.size) [] g K →
  ∀ (X0 Y0 : Nat → Prop) (w0 : World) (av0 : Nat → Value) (a : Act) (w : World) (Q : Exit → Act → World → Prop) (id : Nat), Stands P A X0 Y0 w0 f av0 g a w → (∀ g' a' w', Stands P A X0 Y0 w0 f av0 g' a' w' → K g' → Q .normal a' w') → (Code.region id ops true).wp P Q a w

theorem code_rel (W : WF P) (hH : HndOk P A H) (hDr : DrawOk P A H) {n : Nat} : ∀ (c : Code) (g : St) (K : Ex → St → Prop) (a : Act) (w : World) (Q : Exit → Act → World → Prop), Stands P A X0 Y0 w0 f av0 g a w → wpC P A H f n c g K → (∀ e g' a' w', K e g' → Stands P A X0 Y0 w0 f av0 g' a' w' → Q e.exit a' w') → c.wp P Q a w
  | .skip, g, K, a, w, Q, S, h, hQ => wp_skip (hQ .nrm g a w h S)
  | .ret, g, K, a, w, Q, S, h, hQ => wp_ret (hQ .ret g a w h S)
  | .exit i, g, K, a, w, Q, S, h, hQ => wp_exit (hQ (.ext i) g a w h S)
  | .region id ops draw, g, K, a, w, Q, S, h, hQ => by
    simp only [wpC] at h
    obtain ⟨g1, S1, h1⟩ := S.run W h
    cases draw with
    | false =>
      refine wp_region (wpI_rel W hH (fun g' a' w' S' hK => hQ .nrm g' a' w' hK S') (List.range ops.size) g1 a w S1 ?_)
      rw [wpI_wpL, range_ops]
      exact h1
    | true => exact hDr f ops g1 (K .nrm) (of_cond h1).1 (of_cond h1).2 X0 Y0 w0 av0 a w Q id S1 fun g' a' w' S' hK => hQ .nrm g' a' w' hK S'
  | .seq x y, g, K, a, w, Q, S, h, hQ => by
    simp only [wpC] at h
    refine wp_seq (code_rel W hH hDr x g _ a w _ S h fun e g' a' w' hk S' => ?_)
    cases e with
    | nrm => exact code_rel W hH hDr y g' K a' w' Q S' hk hQ
    | ext i => exact hQ (.ext i) g' a' w' hk S'
    | ret => exact hQ .ret g' a' w' hk S'
  | .cond c x y, g, K, a, w, Q, S, h, hQ => by
    simp only [wpC] at h
    split at h <;> try contradiction
    · rename_i t d hav
      split at h <;> try contradiction
      rename_i s
      obtain ⟨hB, h⟩ := of_cond h
      obtain ⟨⟨ph, R⟩, hA⟩ := S
      obtain ⟨b, hb, hdb, R'⟩ := know_rel R hav (isB_eq hB)
      have S' : Stands P A X0 Y0 w0 f av0 (g.know s b) a w := ⟨⟨ph, R'⟩, hA⟩
      rw [hdb] at h
      refine wp_cond (t := b) hb ?_
      cases b
      · exact code_rel W hH hDr y _ K a w Q S' h hQ
      · exact code_rel W hH hDr x _ K a w Q S' h hQ
    · rename_i v hav
      have hev : a.eval c = .bool v := by
        obtain ⟨⟨ph, R⟩, hA⟩ := S
        have := AVR.eval R c
        rw [hav] at this
        exact this
      refine wp_cond (t := v) hev ?_
      cases v
      · exact code_rel W hH hDr y _ K a w Q S h hQ
      · exact code_rel W hH hDr x _ K a w Q S h hQ
  | .block id c, g, K, a, w, Q, S, h, hQ => by
    simp only [wpC] at h
    refine wp_block (code_rel W hH hDr c g _ a w _ S h fun e g' a' w' hk S' => ?_)
    cases e with
    | nrm => exact hQ .nrm g' a' w' hk S'
    | ret => exact hQ .ret g' a' w' hk S'
    | ext i =>
      simp only [kBlock, cond_eq, beq_iff] at hk
      simp only [Ex.exit, Exit.inBlock]
      split at hk
      · rename_i e; rw [if_pos e]; exact hQ .nrm g' a' w' hk S'
      · rename_i e; rw [if_neg e]; exact hQ (.ext i) g' a' w' hk S'
  | .loop c, g, K, a, w, Q, S, h, hQ => by
    simp only [wpC] at h
    let nm := nmK P (A.loop f (firstRegion c))
    let I : Act → World → Nat → Prop := fun a w m => ∃ g, Stands P A X0 Y0 w0 f av0 g a w ∧ loopK (wpC P A H f n c) nm m g K
    have hnm : ∀ (g : St) (a : Act) (w : World) (m : Nat), Stands P A X0 Y0 w0 f av0 g a w → nm g (fun g => loopK (wpC P A H f n c) nm m g K) → I a w m := fun g a w m S h => by
      obtain ⟨g1, S1, h1⟩ := S.run W h
      exact ⟨_, S1.keep _, h1⟩
    classical
    refine wp_loop (fun a w => ∃ m, I a w m) (fun a w => if h : ∃ m, I a w m then (exists_min h).choose else 0) ⟨n, hnm g a w n S h⟩ fun a w hI => ?_
    rw [dif_pos hI]
    obtain ⟨g1, S1, h1⟩ := (exists_min hI).choose_spec.1
    generalize hm0 : (exists_min hI).choose = m0 at h1
    cases m0 with
    | zero => exact h1.elim
    | succ m =>
      simp only [loopK] at h1
      refine code_rel W hH hDr c g1 _ a w _ S1 h1 fun e g' a' w' hk S' => ?_
      cases e with
      | nrm =>
        have hI' := hnm g' a' w' m S' hk
        have hex : ∃ m, I a' w' m := ⟨m, hI'⟩
        refine ⟨hex, ?_⟩
        rw [dif_pos hex]
        exact Nat.lt_succ_of_le ((exists_min hex).choose_spec.2 m hI')
      | ext i => exact hQ (.ext i) g' a' w' hk S'
      | ret => exact hQ .ret g' a' w' hk S'
  | .label _, g, K, a, w, Q, S, h, hQ => h.elim
  | .goto _, g, K, a, w, Q, S, h, hQ => h.elim
  | .scope _, g, K, a, w, Q, S, h, hQ => h.elim
  | .refuse _, g, K, a, w, Q, S, h, hQ => h.elim
  | .rangeFunc .., g, K, a, w, Q, S, h, hQ => h.elim

end
end Go.Ab

/- Functions. -/
namespace Go.Ab
variable {P : Program} {A : Ann}

theorem mem_lentIds {ps : List PK} {k : Nat} (h : k ∈ lentIds 0 ps) : k < ps.length := by
  rw [← lentL_ids] at h
  obtain ⟨y, hy, rfl⟩ := List.mem_map.1 h
  have := (lentL_ge ps 0 y hy).2
  rw [Nat.sub_zero] at this
  exact (List.getElem?_eq_some_iff.1 this).1

/-- A FUNCTION DOES WHAT ITS RULE SAYS. -/
theorem fun_ok (W : WF P) {n f : Nat} (hDr : DrawOk P A (hnd P A n)) {fn : Func} (hH : HndOk P A (hnd P A n)) (hf : P.funcs[f]? = some fn) {ds : List D} {Q : List D → Prop} (h : wpB P A (hnd P A n) n f fn ds Q) :
    fn.body.isSome = true ∧ ∀ (X0 : Nat → Prop) (w : World) (args : Array Value) (phL : Nat → Ph), Args P A X0 w (A.sig f).cel (A.sig f).ps args ds phL →
      Calls P f args w fun e w' => ∃ v r phR vs, e = .returned v ∧ Q r ∧ Ret P A X0 (lentY (A.sig f).ps ds phL) w w' (A.sig f) phL v r phR vs := by
  unfold wpB at h
  split at h <;> try contradiction
  rename_i c hb
  obtain ⟨_, h⟩ := of_cond h
  refine ⟨by rw [hb]; rfl, fun X0 w args phL hA => calls_of_wp hf hb ?_⟩
  have hgd : ∀ s, s < args.size → (args ++ Array.replicate (fn.ntmps - args.size) undef).getD s undef = args.getD s undef := fun s hs => by
    simp only [Array.getD_eq_getD_getElem?]
    rw [Array.getElem?_append_left hs]
  have hslot : ∀ s, AVR P A (Xof X0 (lookO (initOb 0 (A.sig f).ps ds)) phL) w (lookO (initOb 0 (A.sig f).ps ds)) phL (look (initSl (A.sig f).cel 0 (A.sig f).ps ds) s) ((args ++ Array.replicate (fn.ntmps - args.size) undef).getD s undef) := fun s => by
    by_cases hs : s < args.size
    · rw [hgd s hs]; exact hA.slots s
    · rw [look_init, if_pos (Nat.zero_le _), Nat.sub_zero, List.getElem?_eq_none (by have := hA.asize; omega)]
      trivial
  have S : Stands P A X0 (lentY (A.sig f).ps ds phL) w f (fun k => args.getD k undef) { sl := initSl (A.sig f).cel 0 (A.sig f).ps ds, ob := initOb 0 (A.sig f).ps ds } { tmps := args ++ Array.replicate (fn.ntmps - args.size) undef, defers := [] } w := by
    refine ⟨⟨phL, ⟨hA.objs, hslot, Keeps.refl _ w⟩⟩, ?_, rfl, fun k hk => hgd k (by rw [hA.asize]; exact mem_lentIds hk)⟩
    simp only [ntm, hf, Option.map_some, Option.getD_some, Array.size_append, Array.size_replicate]
    omega
  refine code_rel W hH hDr c _ _ _ _ _ S h fun e g' a' w' hk S' => ?_
  obtain ⟨⟨ph, R⟩, hA'⟩ := S'
  have fin : (match outR P g' fn.results.toList (A.sig f).rs, outL g' (A.sig f).cel 0 (A.sig f).ps with
      | some (r, ids), some l => cond (nodupB (ids ++ lentIds 0 (A.sig f).ps)) (Q (r ++ l)) False
      | _, _ => False) → a'.defers = [] ∧ ∃ v, (results fn a'.tmps).run P w' = .ok v w' ∧ ∃ v1 r phR vs, Ending.returned v = .returned v1 ∧ Q r ∧ Ret P A X0 (lentY (A.sig f).ps ds phL) w w' (A.sig f) phL v1 r phR vs := fun h => by
    have hT : ∀ y ∈ lentL 0 (A.sig f).ps, LentAt P (fun _ => False) w' (isCel (A.sig f).cel y.1) y (a'.tmps.getD y.1 undef) (phL y.1) := fun y hy => by
      have hid : y.1 ∈ lentIds 0 (A.sig f).ps := by rw [← lentL_ids]; exact List.mem_map_of_mem hy
      rw [hA'.lent y.1 hid]
      have hs := hA.slots y.1
      obtain ⟨_, hp⟩ := lentL_ge _ 0 y hy
      rw [Nat.sub_zero] at hp
      rw [look_init, if_pos (Nat.zero_le _), Nat.sub_zero, hp] at hs
      have hob : lookO (initOb 0 (A.sig f).ps ds) y.1 = some ⟨y.2.2.2, y.2.1, y.2.2.1, ds.getD y.1 .und⟩ := by
        rw [lookO_init, if_pos (Nat.zero_le _), Nat.sub_zero, hp]
      refine ⟨fun hbx hcel => ?_, fun hbx hcel => ?_, fun hbx => ?_⟩
      · rw [hbx] at hs
        simp only [hcel, cond_true, cond_false] at hs
        have hs : AVR P A (Xof X0 (lookO (initOb 0 (A.sig f).ps ds)) phL) w (lookO (initOb 0 (A.sig f).ps ds)) phL (.ptr y.1 [] y.2.1) (args.getD y.1 undef) := hs
        obtain ⟨b, off, u, e1, e2, _, _⟩ := hs _ hob
        simp only [Lt.loc] at e2
        unfold Ph.root at e2
        cases hr : (phL y.1).rb with
        | none => rw [hr] at e2; cases e2
        | some b2 =>
          rw [hr] at e2
          simp only [Option.map_some, Option.some.injEq, Prod.mk.injEq] at e2
          exact ⟨b, by rw [e1, ← e2.2], by rw [e2.1]⟩
      · rw [hbx] at hs
        simp only [hcel, cond_true] at hs
        have hs : AVR P A (Xof X0 (lookO (initOb 0 (A.sig f).ps ds)) phL) w (lookO (initOb 0 (A.sig f).ps ds)) phL (.celp y.1 y.2.1) (args.getD y.1 undef) := hs
        obtain ⟨q, off, u1, e1, e2, e3, e4, e5⟩ := hs
        obtain ⟨b, off2, u, g1, g2, _, _⟩ := e5 _ hob
        subst g1
        simp only [Lt.loc] at g2
        unfold Ph.root at g2
        have hq : ¬ lentY (A.sig f).ps ds phL q := fun ⟨o, x, hx, hm⟩ => e2 (.inr ⟨o, x, hx, hm⟩)
        cases hr : (phL y.1).rb with
        | none => rw [hr] at g2; cases g2
        | some b2 =>
          rw [hr] at g2
          simp only [Option.map_some, Option.some.injEq, Prod.mk.injEq] at g2
          obtain ⟨rfl, rfl⟩ := g2
          exact ⟨q, off, b2, e1, fun h => h, Nat.lt_of_lt_of_le e3 R.keeps.size, Row.keeps R.keeps hq e4, rfl⟩
      · rw [hbx] at hs
        have hs : AVR P A (Xof X0 (lookO (initOb 0 (A.sig f).ps ds)) phL) w (lookO (initOb 0 (A.sig f).ps ds)) phL (.val y.1 [] y.2.1) (args.getD y.1 undef) := hs
        have hO := hA.objs.ok _ _ hob
        obtain ⟨s1, s2⟩ := hs _ hob
        refine ⟨?_, hO.hdr hbx⟩
        by_cases hit : y.2.2.1 = .it
        · obtain ⟨m, hm, _⟩ := s1 hit
          cases hm
        · obtain ⟨u', _, _, s3⟩ := s2 hit
          rcases s3 with s3 | ⟨_, _, s3⟩
          · obtain ⟨e1, e2⟩ := hO.own.header s3
            have e1 : (phL y.1).cs = [args.getD y.1 undef] := e1
            rw [e1, mkV_one e2]
          · exact s3
    obtain ⟨v, r, phR, vs, h1, h2, h3⟩ := ret_of_end (phL := phL) W R hT h
    exact ⟨hA'.defers, v, h1, v, r, phR, vs, rfl, h2, h3⟩
  cases e with
  | nrm => exact fin hk
  | ret => exact fin hk
  | ext i => exact hk.elim

theorem hnd_ok (W : WF P) (hDr : ∀ n, HndOk P A (hnd P A n) → DrawOk P A (hnd P A n)) : ∀ n, HndOk P A (hnd P A n)
  | 0 => ⟨fun f ds Q h => h.elim, fun _ _ _ _ _ h => h, fun _ _ _ _ _ _ h => h⟩
  | n + 1 => ⟨fun f ds Q h => by
      have h' : wpF P A (n + 1) f ds Q := h
      unfold wpF at h'
      split at h' <;> try contradiction
      rename_i fn hf
      obtain ⟨h1, h2⟩ := fun_ok W (hDr n (hnd_ok W hDr n)) (hnd_ok W hDr n) hf h'
      exact ⟨⟨fn, hf, h1, W.names f fn hf⟩, h2⟩, fun _ _ _ _ _ h => h, fun _ _ _ _ _ _ h => h⟩

/-- EVERY FUNCTION DOES WHAT ITS RULE SAYS. -/
theorem wpF_ok (W : WF P) (hDr : ∀ n, HndOk P A (hnd P A n) → DrawOk P A (hnd P A n)) {n f : Nat} {ds : List D} {Q : List D → Prop} (h : wpF P A n f ds Q) {X0 : Nat → Prop} {w : World} {args : Array Value} {phL : Nat → Ph} (hA : Args P A X0 w (A.sig f).cel (A.sig f).ps args ds phL) :
    Calls P f args w fun e w' => ∃ v r phR vs, e = .returned v ∧ Q r ∧ Ret P A X0 (lentY (A.sig f).ps ds phL) w w' (A.sig f) phL v r phR vs :=
  ((hnd_ok W hDr n).cal f ds Q h).2 X0 w args phL hA

end Go.Ab

/- Rules are monotone, and have an outcome. -/
namespace Go.Ab
variable {P : Program} {A : Ann}

/-- What the rules of calls keep to. -/
structure HndM (H : Hnd) : Prop where
  cal : ∀ f ds Q Q', (∀ r, Q r → Q' r) → H.cal f ds Q → H.cal f ds Q'
  dyn : ∀ d ks rs ds Q Q', (∀ r, Q r → Q' r) → H.dyn d ks rs ds Q → H.dyn d ks rs ds Q'
  inv : ∀ d s ks rs ds Q Q', (∀ r, Q r → Q' r) → H.inv d s ks rs ds Q → H.inv d s ks rs ds Q'
  calE : ∀ f ds Q, H.cal f ds Q → ∃ r, Q r
  dynE : ∀ d ks rs ds Q, H.dyn d ks rs ds Q → ∃ r, Q r
  invE : ∀ d s ks rs ds Q, H.inv d s ks rs ds Q → ∃ r, Q r

section
variable {ob : Nat → Option Obj}

theorem loadD_mono {t : Nat} {a : AV} {K K' : AV → Prop} (hK : ∀ v, K v → K' v) : loadD P ob t a K → loadD P ob t a K' := by
  unfold loadD
  simp only [cond_eq]
  repeat' split
  all_goals first | exact hK _ | exact id
theorem fieldD_mono {t j : Nat} {a : AV} {K K' : AV → Prop} (hK : ∀ v, K v → K' v) : fieldD P ob t a j K → fieldD P ob t a j K' := by
  unfold fieldD
  simp only [cond_eq]
  repeat' split
  all_goals first | exact hK _ | exact id
theorem indexD_mono {t : Nat} {a i : AV} {K K' : AV → Prop} (hK : ∀ v, K v → K' v) : indexD P ob t a i K → indexD P ob t a i K' := by
  unfold indexD
  simp only [cond_eq]
  repeat' split
  all_goals first | exact hK _ | exact id | exact fun h => ⟨h.1, hK _ h.2⟩
theorem storeD_mono {t : Nat} {a x : AV} {K K' : Dl → Prop} (hK : ∀ v, K v → K' v) : storeD P ob t a x K → storeD P ob t a x K' := by
  unfold storeD
  simp only [cond_eq]
  repeat' split
  all_goals first | exact hK _ | exact id | exact fun h => ⟨h.1, hK _ h.2⟩
theorem intOp_mono {op : BinOp} {k : IntKind} {a b : Int} {K K' : D → Prop} (hK : ∀ v, K v → K' v) : intOp op k a b K → intOp op k a b K' := by
  unfold intOp
  split
  all_goals first | exact hK _ | exact id | exact fun h => ⟨h.1, hK _ h.2⟩
theorem shOp_mono {op : BinOp} {k : IntKind} {a b : Int} {K K' : D → Prop} (hK : ∀ v, K v → K' v) : shOp op k a b K → shOp op k a b K' := by
  unfold shOp
  split
  all_goals first | exact hK _ | exact id | exact fun h => ⟨h.1, hK _ h.2⟩
theorem binD_mono {op : BinOp} {tx ty tr : Nat} {x y : AV} {K K' : AV → Prop} (hK : ∀ v, K v → K' v) : binD P ob op tx ty tr x y K → binD P ob op tx ty tr x y K' := by
  unfold binD
  simp only [cond_eq]
  repeat' split
  all_goals first | exact hK _ | exact id | exact fun h => ⟨h.1, hK _ h.2⟩ | exact shOp_mono (fun _ => hK _) | exact intOp_mono (fun _ => hK _) | exact fun h b hb => hK _ (h b hb)
theorem unD_mono {op : UnOp} {t : Nat} {x : AV} {K K' : AV → Prop} (hK : ∀ v, K v → K' v) : unD P ob op t x K → unD P ob op t x K' := by
  unfold unD
  repeat' split
  all_goals first | exact hK _ | exact id
theorem lenD_mono {t tr : Nat} {x : AV} {K K' : AV → Prop} (hK : ∀ v, K v → K' v) : lenD P ob t x K tr → lenD P ob t x K' tr := by
  unfold lenD
  simp only [cond_eq]
  repeat' split
  all_goals first | exact hK _ | exact id
theorem appendD_mono {dst t : Nat} {x y : AV} {K K' : Dl → Prop} (hK : ∀ v, K v → K' v) : appendD P ob dst t x y K → appendD P ob dst t x y K' := by
  unfold appendD
  simp only [cond_eq]
  repeat' split
  all_goals first | exact hK _ | exact id | exact fun h => ⟨h.1, hK _ h.2⟩
theorem buildD_mono {own : Bool} {dst t : Nat} {l : List (Nat × AV)} {K K' : Dl → Prop} (hK : ∀ v, K v → K' v) : buildD P own ob dst t l K → buildD P own ob dst t l K' := by
  unfold buildD
  simp only [cond_eq]
  repeat' split
  all_goals first | exact hK _ | exact id
theorem buildSliceD_mono {dst t n : Nat} {l : List (Nat × AV)} {K K' : Dl → Prop} (hK : ∀ v, K v → K' v) : buildSliceD P ob dst t n l K → buildSliceD P ob dst t n l K' := by
  unfold buildSliceD
  simp only [cond_eq]
  repeat' split
  all_goals first | exact hK _ | exact id
theorem makeSliceD_mono {dst t : Nat} {l c : Int} {K K' : Dl → Prop} (hK : ∀ v, K v → K' v) : makeSliceD P ob dst t l c K → makeSliceD P ob dst t l c K' := by
  unfold makeSliceD
  simp only [cond_eq]
  repeat' split
  all_goals first | exact hK _ | exact id | exact fun h => ⟨h.1, hK _ h.2⟩
theorem sliceOfD_mono {t : Nat} {x : AV} {lo hi : Option Int} {K K' : AV → Prop} (hK : ∀ v, K v → K' v) : sliceOfD P ob t x lo hi K → sliceOfD P ob t x lo hi K' := by
  unfold sliceOfD
  simp only
  repeat' split
  all_goals first | exact hK _ | exact id | exact fun h => ⟨h.1, hK _ h.2⟩
theorem mapStoreD_mono {t : Nat} {m k v : AV} {K K' : Dl → Prop} (hK : ∀ v, K v → K' v) : mapStoreD P ob t m k v K → mapStoreD P ob t m k v K' := by
  unfold mapStoreD
  simp only [cond_eq]
  repeat' split
  all_goals first | exact hK _ | exact id
theorem lookupD_mono {t : Nat} {m k : AV} {K K' : AV → Prop} (hK : ∀ v, K v → K' v) : lookupD P ob t m k K → lookupD P ob t m k K' := by
  unfold lookupD
  simp only [cond_eq]
  repeat' split
  all_goals first | exact hK _ | exact id
theorem indexSD_mono {t tr : Nat} {x i : AV} {K K' : AV → Prop} (hK : ∀ v, K v → K' v) : indexSD P ob t tr x i K → indexSD P ob t tr x i K' := by
  unfold indexSD
  simp only [cond_eq]
  repeat' split
  all_goals first | exact id | exact fun h => ⟨h.1, hK _ h.2⟩
theorem callD_mono {H : Hnd} (hM : HndM H) {dst : Option Nat} {f : Nat} {l : List AV} {K K' : Dl → Prop} (hK : ∀ v, K v → K' v) : callD P A H dst f l ob K → callD P A H dst f l ob K' := by
  unfold callD
  simp only [cond_eq]
  split <;> try exact id
  split <;> try exact id
  split <;> try exact id
  refine hM.cal _ _ _ _ fun r => ?_
  split
  all_goals first | exact hK _ | exact id
theorem boxD_mono {f dst t : Nat} {x : AV} {K K' : Dl → Prop} {C C' : Prop} (hK : ∀ v, K v → K' v) (hC : C → C') : boxD P A f dst t x ob K C → boxD P A f dst t x ob K' C' := by
  unfold boxD
  simp only [cond_eq]
  repeat' split
  all_goals first | exact id | exact hC | exact hK _
theorem primD_mono {dst : Option Nat} {f : Nat} {l : List AV} {K K' : Dl → Prop} (hK : ∀ v, K v → K' v) : primD P dst f l ob K → primD P dst f l ob K' := by
  unfold primD
  simp only [cond_eq]
  repeat' split
  all_goals first | exact id | exact fun h => ⟨h.1, hK _ h.2⟩
theorem partD_mono {H : Hnd} (hM : HndM H) {f : Nat} {l : List AV} {K K' : Dl → Prop} (hK : ∀ v, K v → K' v) : partD P A H f l ob K → partD P A H f l ob K' := by
  unfold partD
  simp only [cond_eq]
  repeat' split
  all_goals first | exact id | exact hM.cal _ _ _ _ fun r => hK _
theorem itD_mono {S : Type} {body : Int → S → (S → Prop) → Prop} (hb : ∀ v s (Q Q' : S → Prop), (∀ r, Q r → Q' r) → body v s Q → body v s Q') : ∀ (n : Nat) (v : Int) (s : S) (Q Q' : S → Prop), (∀ r, Q r → Q' r) → itD body n v s Q → itD body n v s Q'
  | 0, _, s, _, _, h => h s
  | n + 1, v, s, Q, Q', h => hb v s _ _ fun s' => itD_mono hb n (v + 1) s' Q Q' h
theorem visD_mono {S : Type} {leaf : List Int → S → (S → Prop) → Prop} (hl : ∀ pre s (Q Q' : S → Prop), (∀ r, Q r → Q' r) → leaf pre s Q → leaf pre s Q') : ∀ (bx pre : List Int) (s : S) (Q Q' : S → Prop), (∀ r, Q r → Q' r) → visD leaf bx pre s Q → visD leaf bx pre s Q'
  | [], pre, s, Q, Q', h => hl pre s Q Q' h
  | m :: bx, pre, s, Q, Q', h => itD_mono (fun v s Q Q' h => visD_mono hl bx (pre ++ [v]) s Q Q' h) _ 0 s Q Q' h
theorem everyD_mono {H : Hnd} (hM : HndM H) {f : Nat} {l : List AV} {K K' : Dl → Prop} (hK : ∀ v, K v → K' v) : everyD P A H f l ob K → everyD P A H f l ob K' := by
  unfold everyD
  simp only [cond_eq]
  repeat' split
  all_goals first
    | exact id
    | (intro h
       refine ⟨h.1, h.2.1, h.2.2.1, visD_mono ?_ _ _ _ _ _ (fun r => hK _) h.2.2.2⟩
       exact fun _ _ _ _ h => hM.cal _ _ _ _ h)
theorem bothI_mono {look : Operand → AV} {o : Option Operand} {K K' : Option Int → Prop} (hK : ∀ v, K v → K' v) : bothI P look o K → bothI P look o K' := by
  unfold bothI
  repeat' split
  all_goals first | exact hK _ | exact id

/-- RULES ARE MONOTONE. -/
theorem stepD_mono {H : Hnd} (hM : HndM H) {f : Nat} {o : Oper} {av : Operand → AV} {K K' : Dl → Prop} (hK : ∀ v, K v → K' v) : stepD P A H f o av ob K → stepD P A H f o av ob K' := by
  have hV : ∀ v, onV K v → onV K' v := fun v => hK _
  unfold stepD
  cases hop : o.op with
  | call c =>
    simp only [cond_eq]
    repeat' split
    all_goals first | exact id | exact hK _ | exact lenD_mono hV | exact appendD_mono hK | exact callD_mono hM hK | exact primD_mono hK | exact partD_mono hM hK | exact everyD_mono hM hK | exact hM.dyn _ _ _ _ _ _ (fun r => hK _) | exact hM.inv _ _ _ _ _ _ _ (fun r => hK _)
  | load t x => exact loadD_mono hV
  | store t x y => exact storeD_mono hK
  | fieldAddr s x j => exact fieldD_mono hV
  | indexAddr t x i => exact indexD_mono hV
  | binOp op tx x y ty => exact binD_mono hV
  | unOp op t x => exact unD_mono hV
  | index t x i => exact indexSD_mono hV
  | lookup t m k b =>
    cases b with
    | false => exact lookupD_mono hV
    | true => exact id
  | build t parts =>
    simp only
    split
    · exact buildD_mono hK
    · exact id
  | buildSlice t n parts =>
    simp only
    split
    · exact buildSliceD_mono hK
    · exact id
  | makeSlice t x y =>
    simp only
    split
    · exact makeSliceD_mono hK
    · exact id
  | mapUpdate t x y z => exact mapStoreD_mono hK
  | slice t x lo hi mx =>
    cases mx with
    | none => exact bothI_mono fun l => bothI_mono fun h => sliceOfD_mono hV
    | some m => exact id
  | next x b =>
    cases b with
    | true => exact id
    | false =>
      simp only [cond_eq]
      repeat' split
      all_goals first | exact id | exact fun h => ⟨fun e => hK _ (h.1 e), fun i hi => hK _ (h.2 i hi)⟩
  | makeFunc fn first caps =>
    cases fn with
    | func f' =>
      simp only [cond_eq]
      split
      · exact hK _
      · exact id
    | _ => exact id
  | box t x =>
    simp only
    split
    · exact boxD_mono hK (hK _)
    · exact boxD_mono hK id
    · exact id
  | makeMap t m =>
    cases m with
    | some m => exact id
    | none =>
      simp only
      split
      · exact hK _
      · exact id
  | typeAssert x xt t ok =>
    cases ok with
    | false => exact id
    | true =>
      simp only [cond_eq]
      repeat' split
      all_goals first | exact id | exact hK _
  | _ =>
    simp only [cond_eq]
    repeat' split
    all_goals first | exact id | exact hK _ | exact hV _

end
end Go.Ab

/- Rules have an outcome; many have one alone. -/
namespace Go.Ab
variable {P : Program} {A : Ann}

/-- One outcome alone. -/
structure Det {α : Type} (T : (α → Prop) → Prop) : Prop where
  one : ∀ K, T K → ∃ x, K x ∧ T fun y => y = x
  same : ∀ K K', T K → T K' → ∃ x, K x ∧ K' x

theorem Det.pure {α : Type} (x : α) : Det fun K : α → Prop => K x := ⟨fun K h => ⟨x, h, rfl⟩, fun K K' h h' => ⟨x, h, h'⟩⟩
theorem Det.false {α : Type} : Det fun _ : α → Prop => False := ⟨fun _ h => h.elim, fun _ _ h => h.elim⟩
theorem Det.map {α β : Type} {T : (α → Prop) → Prop} {g : α → β} (h : Det T) (hm : ∀ K K', (∀ x, K x → K' x) → T K → T K') : Det fun K : β → Prop => T fun x => K (g x) :=
  ⟨fun K hT => by
    obtain ⟨x, h1, h2⟩ := h.one _ hT
    exact ⟨g x, h1, hm _ _ (fun y e => by rw [e]) h2⟩, fun K K' h1 h2 => by
    obtain ⟨x, h3, h4⟩ := h.same _ _ h1 h2
    exact ⟨g x, h3, h4⟩⟩

section
variable {ob : Nat → Option Obj}

theorem loadD_ex {t : Nat} {a : AV} {K : AV → Prop} : loadD P ob t a K → ∃ v, K v := by
  unfold loadD
  simp only [cond_eq]
  repeat' split
  all_goals first | exact fun h => h.elim | exact fun h => h.2.elim | exact fun h => ⟨_, h⟩ | exact fun h => ⟨_, h.2⟩
theorem loadD_det {t : Nat} {a : AV} : Det fun K : AV → Prop => loadD P ob t a K := by
  constructor
  · intro K
    unfold loadD
    simp only [cond_eq]
    repeat' split
    all_goals first | exact fun h => h.elim | exact fun h => h.2.elim | exact fun h => ⟨_, h, rfl⟩ | exact fun h => ⟨_, h.2, h.1, rfl⟩
  · intro K K'
    unfold loadD
    simp only [cond_eq]
    repeat' split
    all_goals first | exact fun h => h.elim | exact fun h => h.2.elim | exact fun h h' => ⟨_, h, h'⟩ | exact fun h h' => ⟨_, h.2, h'.2⟩
theorem fieldD_ex {t j : Nat} {a : AV} {K : AV → Prop} : fieldD P ob t a j K → ∃ v, K v := by
  unfold fieldD
  simp only [cond_eq]
  repeat' split
  all_goals first | exact fun h => h.elim | exact fun h => h.2.elim | exact fun h => ⟨_, h⟩ | exact fun h => ⟨_, h.2⟩
theorem fieldD_det {t j : Nat} {a : AV} : Det fun K : AV → Prop => fieldD P ob t a j K := by
  constructor
  · intro K
    unfold fieldD
    simp only [cond_eq]
    repeat' split
    all_goals first | exact fun h => h.elim | exact fun h => h.2.elim | exact fun h => ⟨_, h, rfl⟩ | exact fun h => ⟨_, h.2, h.1, rfl⟩
  · intro K K'
    unfold fieldD
    simp only [cond_eq]
    repeat' split
    all_goals first | exact fun h => h.elim | exact fun h => h.2.elim | exact fun h h' => ⟨_, h, h'⟩ | exact fun h h' => ⟨_, h.2, h'.2⟩
theorem indexD_ex {t : Nat} {a i : AV} {K : AV → Prop} : indexD P ob t a i K → ∃ v, K v := by
  unfold indexD
  simp only [cond_eq]
  repeat' split
  all_goals first | exact fun h => h.elim | exact fun h => h.2.elim | exact fun h => ⟨_, h⟩ | exact fun h => ⟨_, h.2⟩
theorem indexD_det {t : Nat} {a i : AV} : Det fun K : AV → Prop => indexD P ob t a i K := by
  constructor
  · intro K
    unfold indexD
    simp only [cond_eq]
    repeat' split
    all_goals first | exact fun h => h.elim | exact fun h => h.2.elim | exact fun h => ⟨_, h, rfl⟩ | exact fun h => ⟨_, h.2, h.1, rfl⟩
  · intro K K'
    unfold indexD
    simp only [cond_eq]
    repeat' split
    all_goals first | exact fun h => h.elim | exact fun h => h.2.elim | exact fun h h' => ⟨_, h, h'⟩ | exact fun h h' => ⟨_, h.2, h'.2⟩
theorem storeD_ex {t : Nat} {a x : AV} {K : Dl → Prop} : storeD P ob t a x K → ∃ v, K v := by
  unfold storeD
  simp only [cond_eq]
  repeat' split
  all_goals first | exact fun h => h.elim | exact fun h => h.2.elim | exact fun h => ⟨_, h⟩ | exact fun h => ⟨_, h.2⟩
theorem storeD_det {t : Nat} {a x : AV} : Det fun K : Dl → Prop => storeD P ob t a x K := by
  constructor
  · intro K
    unfold storeD
    simp only [cond_eq]
    repeat' split
    all_goals first | exact fun h => h.elim | exact fun h => h.2.elim | exact fun h => ⟨_, h, rfl⟩ | exact fun h => ⟨_, h.2, h.1, rfl⟩
  · intro K K'
    unfold storeD
    simp only [cond_eq]
    repeat' split
    all_goals first | exact fun h => h.elim | exact fun h => h.2.elim | exact fun h h' => ⟨_, h, h'⟩ | exact fun h h' => ⟨_, h.2, h'.2⟩
theorem intOp_ex {op : BinOp} {k : IntKind} {a b : Int} {K : D → Prop} : intOp op k a b K → ∃ v, K v := by
  unfold intOp
  repeat' split
  all_goals first | exact fun h => h.elim | exact fun h => h.2.elim | exact fun h => ⟨_, h⟩ | exact fun h => ⟨_, h.2⟩
theorem intOp_det {op : BinOp} {k : IntKind} {a b : Int} : Det fun K : D → Prop => intOp op k a b K := by
  constructor
  · intro K
    unfold intOp
    repeat' split
    all_goals first | exact fun h => h.elim | exact fun h => h.2.elim | exact fun h => ⟨_, h, rfl⟩ | exact fun h => ⟨_, h.2, h.1, rfl⟩
  · intro K K'
    unfold intOp
    repeat' split
    all_goals first | exact fun h => h.elim | exact fun h => h.2.elim | exact fun h h' => ⟨_, h, h'⟩ | exact fun h h' => ⟨_, h.2, h'.2⟩
theorem shOp_ex {op : BinOp} {k : IntKind} {a b : Int} {K : D → Prop} : shOp op k a b K → ∃ v, K v := by
  unfold shOp
  repeat' split
  all_goals first | exact fun h => h.elim | exact fun h => h.2.elim | exact fun h => ⟨_, h⟩ | exact fun h => ⟨_, h.2⟩
theorem shOp_det {op : BinOp} {k : IntKind} {a b : Int} : Det fun K : D → Prop => shOp op k a b K := by
  constructor
  · intro K
    unfold shOp
    repeat' split
    all_goals first | exact fun h => h.elim | exact fun h => h.2.elim | exact fun h => ⟨_, h, rfl⟩ | exact fun h => ⟨_, h.2, h.1, rfl⟩
  · intro K K'
    unfold shOp
    repeat' split
    all_goals first | exact fun h => h.elim | exact fun h => h.2.elim | exact fun h h' => ⟨_, h, h'⟩ | exact fun h h' => ⟨_, h.2, h'.2⟩
theorem unD_ex {op : UnOp} {t : Nat} {x : AV} {K : AV → Prop} : unD P ob op t x K → ∃ v, K v := by
  unfold unD
  repeat' split
  all_goals first | exact fun h => h.elim | exact fun h => h.2.elim | exact fun h => ⟨_, h⟩ | exact fun h => ⟨_, h.2⟩
theorem unD_det {op : UnOp} {t : Nat} {x : AV} : Det fun K : AV → Prop => unD P ob op t x K := by
  constructor
  · intro K
    unfold unD
    repeat' split
    all_goals first | exact fun h => h.elim | exact fun h => h.2.elim | exact fun h => ⟨_, h, rfl⟩ | exact fun h => ⟨_, h.2, h.1, rfl⟩
  · intro K K'
    unfold unD
    repeat' split
    all_goals first | exact fun h => h.elim | exact fun h => h.2.elim | exact fun h h' => ⟨_, h, h'⟩ | exact fun h h' => ⟨_, h.2, h'.2⟩
theorem lenD_ex {t tr : Nat} {x : AV} {K : AV → Prop} : lenD P ob t x K tr → ∃ v, K v := by
  unfold lenD
  simp only [cond_eq]
  repeat' split
  all_goals first | exact fun h => h.elim | exact fun h => h.2.elim | exact fun h => ⟨_, h⟩ | exact fun h => ⟨_, h.2⟩
theorem lenD_det {t tr : Nat} {x : AV} : Det fun K : AV → Prop => lenD P ob t x K tr := by
  constructor
  · intro K
    unfold lenD
    simp only [cond_eq]
    repeat' split
    all_goals first | exact fun h => h.elim | exact fun h => h.2.elim | exact fun h => ⟨_, h, rfl⟩ | exact fun h => ⟨_, h.2, h.1, rfl⟩
  · intro K K'
    unfold lenD
    simp only [cond_eq]
    repeat' split
    all_goals first | exact fun h => h.elim | exact fun h => h.2.elim | exact fun h h' => ⟨_, h, h'⟩ | exact fun h h' => ⟨_, h.2, h'.2⟩
theorem appendD_ex {dst t : Nat} {x y : AV} {K : Dl → Prop} : appendD P ob dst t x y K → ∃ v, K v := by
  unfold appendD
  simp only [cond_eq]
  repeat' split
  all_goals first | exact fun h => h.elim | exact fun h => h.2.elim | exact fun h => ⟨_, h⟩ | exact fun h => ⟨_, h.2⟩
theorem appendD_det {dst t : Nat} {x y : AV} : Det fun K : Dl → Prop => appendD P ob dst t x y K := by
  constructor
  · intro K
    unfold appendD
    simp only [cond_eq]
    repeat' split
    all_goals first | exact fun h => h.elim | exact fun h => h.2.elim | exact fun h => ⟨_, h, rfl⟩ | exact fun h => ⟨_, h.2, h.1, rfl⟩
  · intro K K'
    unfold appendD
    simp only [cond_eq]
    repeat' split
    all_goals first | exact fun h => h.elim | exact fun h => h.2.elim | exact fun h h' => ⟨_, h, h'⟩ | exact fun h h' => ⟨_, h.2, h'.2⟩
theorem buildD_ex {own : Bool} {dst t : Nat} {l : List (Nat × AV)} {K : Dl → Prop} : buildD P own ob dst t l K → ∃ v, K v := by
  unfold buildD
  simp only [cond_eq]
  repeat' split
  all_goals first | exact fun h => h.elim | exact fun h => h.2.elim | exact fun h => ⟨_, h⟩ | exact fun h => ⟨_, h.2⟩
theorem buildD_det {own : Bool} {dst t : Nat} {l : List (Nat × AV)} : Det fun K : Dl → Prop => buildD P own ob dst t l K := by
  constructor
  · intro K
    unfold buildD
    simp only [cond_eq]
    repeat' split
    all_goals first | exact fun h => h.elim | exact fun h => h.2.elim | exact fun h => ⟨_, h, rfl⟩ | exact fun h => ⟨_, h.2, h.1, rfl⟩
  · intro K K'
    unfold buildD
    simp only [cond_eq]
    repeat' split
    all_goals first | exact fun h => h.elim | exact fun h => h.2.elim | exact fun h h' => ⟨_, h, h'⟩ | exact fun h h' => ⟨_, h.2, h'.2⟩
theorem buildSliceD_ex {dst t n : Nat} {l : List (Nat × AV)} {K : Dl → Prop} : buildSliceD P ob dst t n l K → ∃ v, K v := by
  unfold buildSliceD
  simp only [cond_eq]
  repeat' split
  all_goals first | exact fun h => h.elim | exact fun h => h.2.elim | exact fun h => ⟨_, h⟩ | exact fun h => ⟨_, h.2⟩
theorem buildSliceD_det {dst t n : Nat} {l : List (Nat × AV)} : Det fun K : Dl → Prop => buildSliceD P ob dst t n l K := by
  constructor
  · intro K
    unfold buildSliceD
    simp only [cond_eq]
    repeat' split
    all_goals first | exact fun h => h.elim | exact fun h => h.2.elim | exact fun h => ⟨_, h, rfl⟩ | exact fun h => ⟨_, h.2, h.1, rfl⟩
  · intro K K'
    unfold buildSliceD
    simp only [cond_eq]
    repeat' split
    all_goals first | exact fun h => h.elim | exact fun h => h.2.elim | exact fun h h' => ⟨_, h, h'⟩ | exact fun h h' => ⟨_, h.2, h'.2⟩
theorem makeSliceD_ex {dst t : Nat} {l c : Int} {K : Dl → Prop} : makeSliceD P ob dst t l c K → ∃ v, K v := by
  unfold makeSliceD
  simp only [cond_eq]
  repeat' split
  all_goals first | exact fun h => h.elim | exact fun h => h.2.elim | exact fun h => ⟨_, h⟩ | exact fun h => ⟨_, h.2⟩
theorem makeSliceD_det {dst t : Nat} {l c : Int} : Det fun K : Dl → Prop => makeSliceD P ob dst t l c K := by
  constructor
  · intro K
    unfold makeSliceD
    simp only [cond_eq]
    repeat' split
    all_goals first | exact fun h => h.elim | exact fun h => h.2.elim | exact fun h => ⟨_, h, rfl⟩ | exact fun h => ⟨_, h.2, h.1, rfl⟩
  · intro K K'
    unfold makeSliceD
    simp only [cond_eq]
    repeat' split
    all_goals first | exact fun h => h.elim | exact fun h => h.2.elim | exact fun h h' => ⟨_, h, h'⟩ | exact fun h h' => ⟨_, h.2, h'.2⟩

end
end Go.Ab

/- Rules of code are monotone, and have an outcome. -/
namespace Go.Ab
variable {P : Program} {A : Ann}

section
variable {ob : Nat → Option Obj}

theorem binD_ex {op : BinOp} {tx ty tr : Nat} {x y : AV} {K : AV → Prop} : binD P ob op tx ty tr x y K → ∃ v, K v := by
  unfold binD
  simp only [cond_eq]
  repeat' split
  all_goals first | exact fun h => h.elim | exact fun h => (shOp_ex h).elim fun d hd => ⟨_, hd⟩ | exact fun h => (intOp_ex h).elim fun d hd => ⟨_, hd⟩ | exact fun h => ⟨_, h false (fun e => by cases e)⟩ | exact fun h => ⟨_, h⟩
theorem sliceOfD_ex {t : Nat} {x : AV} {lo hi : Option Int} {K : AV → Prop} : sliceOfD P ob t x lo hi K → ∃ v, K v := by
  unfold sliceOfD
  simp only
  repeat' split
  all_goals first | exact fun h => h.elim | exact fun h => h.2.elim | exact fun h => ⟨_, h⟩ | exact fun h => ⟨_, h.2⟩
theorem mapStoreD_ex {t : Nat} {m k v : AV} {K : Dl → Prop} : mapStoreD P ob t m k v K → ∃ v, K v := by
  unfold mapStoreD
  simp only [cond_eq]
  repeat' split
  all_goals first | exact fun h => h.elim | exact fun h => ⟨_, h⟩
theorem lookupD_ex {t : Nat} {m k : AV} {K : AV → Prop} : lookupD P ob t m k K → ∃ v, K v := by
  unfold lookupD
  simp only [cond_eq]
  repeat' split
  all_goals first | exact fun h => h.elim | exact fun h => ⟨_, h⟩
theorem indexSD_ex {t tr : Nat} {x i : AV} {K : AV → Prop} : indexSD P ob t tr x i K → ∃ v, K v := by
  unfold indexSD
  simp only [cond_eq]
  repeat' split
  all_goals first | exact fun h => h.elim | exact fun h => ⟨_, h.2⟩
theorem bothI_ex {look : Operand → AV} {o : Option Operand} {K : Option Int → Prop} : bothI P look o K → ∃ v, K v := by
  unfold bothI
  repeat' split
  all_goals first | exact fun h => h.elim | exact fun h => ⟨_, h⟩
theorem callD_ex {H : Hnd} (hM : HndM H) {dst : Option Nat} {f : Nat} {l : List AV} {K : Dl → Prop} : callD P A H dst f l ob K → ∃ v, K v := by
  unfold callD
  simp only [cond_eq]
  split <;> try exact fun h => h.elim
  split <;> try exact fun h => h.elim
  split <;> try exact fun h => h.elim
  intro h
  obtain ⟨r, hr⟩ := hM.calE _ _ _ h
  split at hr
  all_goals first | exact ⟨_, hr⟩ | exact hr.elim

theorem boxD_ex {f dst t : Nat} {x : AV} {K : Dl → Prop} {C : Prop} (hC : C → ∃ v, K v) : boxD P A f dst t x ob K C → ∃ v, K v := by
  unfold boxD
  simp only [cond_eq]
  repeat' split
  all_goals first | exact fun h => h.elim | exact hC | exact fun h => ⟨_, h⟩
theorem primD_ex {dst : Option Nat} {f : Nat} {l : List AV} {K : Dl → Prop} : primD P dst f l ob K → ∃ v, K v := by
  unfold primD
  simp only [cond_eq]
  repeat' split
  all_goals first | exact fun h => h.elim | exact fun h => ⟨_, h.2⟩

theorem partD_ex {H : Hnd} (hM : HndM H) {f : Nat} {l : List AV} {K : Dl → Prop} : partD P A H f l ob K → ∃ v, K v := by
  unfold partD
  simp only [cond_eq]
  repeat' split
  all_goals first | exact fun h => h.elim | exact fun h => (hM.calE _ _ _ h).elim fun r hr => ⟨_, hr⟩
theorem itD_ex {S : Type} {body : Int → S → (S → Prop) → Prop} (hb : ∀ v s (Q : S → Prop), body v s Q → ∃ r, Q r) : ∀ (n : Nat) (v : Int) (s : S) (Q : S → Prop), itD body n v s Q → ∃ r, Q r
  | 0, _, s, _, h => ⟨s, h⟩
  | n + 1, v, s, Q, h => (hb v s _ h).elim fun s' h' => itD_ex hb n (v + 1) s' Q h'
theorem visD_ex {S : Type} {leaf : List Int → S → (S → Prop) → Prop} (hl : ∀ pre s (Q : S → Prop), leaf pre s Q → ∃ r, Q r) : ∀ (bx pre : List Int) (s : S) (Q : S → Prop), visD leaf bx pre s Q → ∃ r, Q r
  | [], pre, s, Q, h => hl pre s Q h
  | m :: bx, pre, s, Q, h => itD_ex (fun v s Q h => visD_ex hl bx (pre ++ [v]) s Q h) _ 0 s Q h
theorem everyD_ex {H : Hnd} (hM : HndM H) {f : Nat} {l : List AV} {K : Dl → Prop} : everyD P A H f l ob K → ∃ v, K v := by
  unfold everyD
  simp only [cond_eq]
  repeat' split
  all_goals first
    | exact fun h => h.elim
    | (intro h
       refine Exists.elim (visD_ex ?_ _ _ _ _ h.2.2.2) fun r hr => ⟨_, hr⟩
       exact fun _ _ _ h => hM.calE _ _ _ h)

/-- RULES HAVE AN OUTCOME. -/
theorem stepD_ex {H : Hnd} (hM : HndM H) {f : Nat} {o : Oper} {av : Operand → AV} {K : Dl → Prop} : stepD P A H f o av ob K → ∃ δ, K δ := by
  have hV : (∃ v, onV K v) → ∃ δ, K δ := fun ⟨v, h⟩ => ⟨_, h⟩
  unfold stepD
  cases hop : o.op with
  | call c =>
    simp only [cond_eq]
    repeat' split
    all_goals first | exact fun h => h.elim | exact fun h => ⟨_, h⟩ | exact fun h => hV (lenD_ex h) | exact appendD_ex | exact callD_ex hM | exact primD_ex | exact partD_ex hM | exact everyD_ex hM | exact fun h => (hM.dynE _ _ _ _ _ h).elim fun r hr => ⟨_, hr⟩ | exact fun h => (hM.invE _ _ _ _ _ _ h).elim fun r hr => ⟨_, hr⟩
  | load t x => exact fun h => hV (loadD_ex h)
  | store t x y => exact storeD_ex
  | fieldAddr s x j => exact fun h => hV (fieldD_ex h)
  | indexAddr t x i => exact fun h => hV (indexD_ex h)
  | binOp op tx x y ty => exact fun h => hV (binD_ex h)
  | unOp op t x => exact fun h => hV (unD_ex h)
  | index t x i => exact fun h => hV (indexSD_ex h)
  | lookup t m k b =>
    cases b with
    | false => exact fun h => hV (lookupD_ex h)
    | true => exact fun h => h.elim
  | build t parts =>
    simp only
    split
    · exact buildD_ex
    · exact fun h => h.elim
  | buildSlice t n parts =>
    simp only
    split
    · exact buildSliceD_ex
    · exact fun h => h.elim
  | makeSlice t x y =>
    simp only
    split
    · exact makeSliceD_ex
    · exact fun h => h.elim
  | mapUpdate t x y z => exact mapStoreD_ex
  | slice t x lo hi mx =>
    cases mx with
    | none => exact fun h => (bothI_ex h).elim fun l h => (bothI_ex h).elim fun u h => hV (sliceOfD_ex h)
    | some m => exact fun h => h.elim
  | next x b =>
    cases b with
    | true => exact fun h => h.elim
    | false =>
      simp only [cond_eq]
      repeat' split
      all_goals first
        | exact fun h => h.elim
        | (intro h
           rename_i q m t hav _ _ _ kt et obq obm hk hq hm _ hsh hB
           cases hes : obq.d.es with
           | nil => exact ⟨_, h.1 hes⟩
           | cons z l => exact ⟨_, h.2 0 (by rw [hes]; simp)⟩)
        | skip
      all_goals (intro h; by_cases hes : (_ : List (D × D)) = [] <;> first | exact ⟨_, h.1 hes⟩ | exact ⟨_, h.2 0 (List.length_pos_iff.2 hes)⟩)
  | makeFunc fn first caps =>
    cases fn with
    | func f' =>
      simp only [cond_eq]
      split
      · exact fun h => ⟨_, h⟩
      · exact fun h => h.elim
    | _ => exact fun h => h.elim
  | box t x =>
    simp only
    split
    · exact boxD_ex fun h => ⟨_, h⟩
    · exact boxD_ex fun h => h.elim
    · exact fun h => h.elim
  | makeMap t m =>
    cases m with
    | some m => exact fun h => h.elim
    | none =>
      simp only
      split
      · exact fun h => ⟨_, h⟩
      · exact fun h => h.elim
  | typeAssert x xt t ok =>
    cases ok with
    | false => exact fun h => h.elim
    | true =>
      simp only [cond_eq]
      repeat' split
      all_goals first | exact fun h => h.elim | exact fun h => ⟨_, h⟩
  | _ =>
    simp only [cond_eq]
    repeat' split
    all_goals first | exact fun h => h.elim | exact fun h => ⟨_, h⟩ | exact fun h => hV ⟨_, h⟩

theorem binD_det {op : BinOp} {tx ty tr : Nat} {x y : AV} (hs : ∀ e, tk P tx ≠ .slc e) : Det fun K : AV → Prop => binD P ob op tx ty tr x y K := by
  unfold binD
  cases hk : tk P tx with
  | slc e => exact absurd hk (hs e)
  | int k =>
    simp only
    cases okRes P op k tr with
    | false => exact Det.false
    | true =>
      simp only [cond_true]
      cases St.data P ob tx x with
      | none => exact Det.false
      | some a =>
        have h1 : ∀ b : Int, Det fun K : AV → Prop => intOp op k a.i b fun d => K (.imm (resT P op tr) d) := fun b => Det.map (g := fun d => AV.imm (resT P op tr) d) intOp_det fun _ _ h => intOp_mono h
        have h2 : ∀ b : Int, Det fun K : AV → Prop => shOp op k a.i b fun d => K (.imm (resT P op tr) d) := fun b => Det.map (g := fun d => AV.imm (resT P op tr) d) shOp_det fun _ _ h => shOp_mono h
        have h3 : Det fun K : AV → Prop => match tk P ty with
            | .int _ => match St.data P ob ty y with
              | some b => shOp op k a.i b.i fun d => K (.imm (resT P op tr) d)
              | none => False
            | _ => False := by
          cases tk P ty <;> first | exact Det.false | skip
          cases St.data P ob ty y with
          | none => exact Det.false
          | some b => exact h2 b.i
        have h4 : Det fun K : AV → Prop => match St.data P ob tx y with
            | some b => intOp op k a.i b.i fun d => K (.imm (resT P op tr) d)
            | none => False := by
          cases St.data P ob tx y with
          | none => exact Det.false
          | some b => exact h1 b.i
        cases op <;> first | exact h3 | exact h4
  | bool =>
    simp only
    cases isB P P.rt.bool with
    | false => exact Det.false
    | true =>
      simp only [cond_true]
      cases St.data P ob tx x with
      | none => exact Det.false
      | some a =>
        cases St.data P ob tx y with
        | none => exact Det.false
        | some b => cases op <;> first | exact Det.pure _ | exact Det.false
  | struct fs =>
    simp only
    cases (eqT P 8 tx && isB P P.rt.bool) with
    | false => exact Det.false
    | true =>
      simp only [cond_true]
      cases St.data P ob tx x with
      | none => exact Det.false
      | some a =>
        cases St.data P ob tx y with
        | none => exact Det.false
        | some b => cases op <;> first | exact Det.pure _ | exact Det.false
  | _ => exact Det.false

theorem detV {T : (AV → Prop) → Prop} (h : Det T) (hm : ∀ K K', (∀ x, K x → K' x) → T K → T K') : Det fun K : Dl → Prop => T (onV K) := Det.map (g := fun v => ({ v := v } : Dl)) h hm

/-- Operations with one outcome. -/
theorem boxD_det {f dst t : Nat} {x : AV} {δ0 : Dl} : Det fun K : Dl → Prop => boxD P A f dst t x ob K (K δ0) := by
  unfold boxD
  simp only [cond_eq]
  split
  · split
    · split
      · split
        · split
          · split
            · exact Det.false
            · exact Det.pure _
          · exact Det.false
        · exact Det.false
      · exact Det.false
    · exact Det.pure _
  · split
    · split
      · split
        · exact Det.pure _
        · exact Det.pure _
      · exact Det.pure _
    · exact Det.pure _
  · exact Det.pure _

theorem boxD_detF {f dst t : Nat} {x : AV} : Det fun K : Dl → Prop => boxD P A f dst t x ob K False := by
  unfold boxD
  simp only [cond_eq]
  split
  · split
    · split
      · split
        · split
          · split
            · exact Det.false
            · exact Det.pure _
          · exact Det.false
        · exact Det.false
      · exact Det.false
    · exact Det.false
  · split
    · split
      · split
        · exact Det.pure _
        · exact Det.false
      · exact Det.false
    · exact Det.false
  · exact Det.false

theorem stepD_det {H : Hnd} {f : Nat} {o : Oper} {av : Operand → AV} (hs : simOp P o.op = true) : Det fun K : Dl → Prop => stepD P A H f o av ob K := by
  unfold stepD
  cases hop : o.op with
  | call c =>
    rw [hop] at hs
    simp only [simOp] at hs
    simp only
    split at hs <;> try contradiction
    · rename_i hc
      rw [hc]
      simp only
      constructor
      · intro K
        split
        · exact (detV lenD_det fun _ _ h => lenD_mono h).one K
        · exact fun h => h.elim
      · intro K K'
        split
        · exact (detV lenD_det fun _ _ h => lenD_mono h).same K K'
        · exact fun h => h.elim
    · rename_i hc
      rw [hc]
      simp only [cond_eq]
      constructor
      · intro K
        split
        · split
          · exact appendD_det.one K
          · exact fun h => h.elim
        · exact fun h => h.elim
      · intro K K'
        split
        · split
          · exact appendD_det.same K K'
          · exact fun h => h.elim
        · exact fun h => h.elim
    · rename_i hc
      rw [hc]
      simp only
      constructor
      · intro K
        split
        · exact fun h => ⟨_, h, rfl⟩
        · exact fun h => h.elim
      · intro K K'
        split
        · exact fun h h' => ⟨_, h, h'⟩
        · exact fun h => h.elim
    · rename_i hc
      rw [hc]
      simp only
      constructor
      · intro K
        split
        · exact fun h => ⟨_, h, rfl⟩
        · exact fun h => h.elim
      · intro K K'
        split
        · exact fun h h' => ⟨_, h, h'⟩
        · exact fun h => h.elim
  | load t x => exact detV loadD_det fun _ _ h => loadD_mono h
  | store t x y => exact storeD_det
  | fieldAddr s x j => exact detV fieldD_det fun _ _ h => fieldD_mono h
  | indexAddr t x i => exact detV indexD_det fun _ _ h => indexD_mono h
  | unOp op t x => exact detV unD_det fun _ _ h => unD_mono h
  | binOp op tx x y ty =>
    rw [hop] at hs
    simp only [simOp] at hs
    exact detV (binD_det fun e he => by rw [he] at hs; cases hs) fun _ _ h => binD_mono h
  | build t parts =>
    simp only
    cases o.dst with
    | none => exact Det.false
    | some d => exact buildD_det
  | buildSlice t n parts =>
    simp only
    cases o.dst with
    | none => exact Det.false
    | some d => exact buildSliceD_det
  | makeSlice t x y =>
    constructor
    · intro K
      simp only
      split
      · exact makeSliceD_det.one K
      · exact fun h => h.elim
    · intro K K'
      simp only
      split
      · exact makeSliceD_det.same K K'
      · exact fun h => h.elim
  | box t x =>
    constructor
    · intro K
      simp only
      split
      · exact boxD_det.one K
      · exact boxD_detF.one K
      · exact fun h => h.elim
    · intro K K'
      simp only
      split
      · exact boxD_det.same K K'
      · exact boxD_detF.same K K'
      · exact fun h => h.elim
  | move x | assign x | pick c x y | nilCheck x | convert s d x | alloc t | extract x i =>
    constructor
    · intro K
      simp only [cond_eq]
      repeat' split
      all_goals first | exact fun h => h.elim | exact fun h => ⟨_, h, rfl⟩
    · intro K K'
      simp only [cond_eq]
      repeat' split
      all_goals first | exact fun h => h.elim | exact fun h h' => ⟨_, h, h'⟩
  | _ => rw [hop] at hs; cases hs

end
end Go.Ab

/- Rules of code are monotone, and have an outcome: code and functions. -/
namespace Go.Ab
variable {P : Program} {A : Ann}

section
variable {H : Hnd} {f : Nat}

theorem St.step_mono (hM : HndM H) {o : Oper} {g : St} {K K' : St → Prop} (hK : ∀ g, K g → K' g) (h : g.step P A H f o K) : g.step P A H f o K' := by
  unfold St.step at h ⊢
  obtain ⟨h1, h2⟩ := of_cond h
  rw [h1]
  exact stepD_mono hM (fun _ => hK _) h2
theorem St.step_ex (hM : HndM H) {o : Oper} {g : St} {K : St → Prop} (h : g.step P A H f o K) : ∃ g', K g' := by
  unfold St.step at h
  obtain ⟨h1, h2⟩ := of_cond h
  obtain ⟨δ, h⟩ := stepD_ex hM h2
  exact ⟨_, h⟩

theorem St.guard_mono (hM : HndM H) {ops : Array Oper} {o : Oper} {g : St} {K K' : St → Prop} (hK : ∀ g, K g → K' g) : g.guard P A H f ops o K → g.guard P A H f ops o K' := by
  unfold St.guard
  simp only [cond_eq]
  repeat' split
  all_goals first | exact id | exact St.step_mono hM hK | exact hK _
theorem St.guard_ex (hM : HndM H) {ops : Array Oper} {o : Oper} {g : St} {K : St → Prop} : g.guard P A H f ops o K → ∃ g', K g' := by
  unfold St.guard
  simp only [cond_eq]
  repeat' split
  all_goals first | exact fun h => h.elim | exact St.step_ex hM | exact fun h => ⟨_, h⟩

theorem wpL_mono (hM : HndM H) {ops : Array Oper} {K K' : St → Prop} (hK : ∀ g, K g → K' g) : ∀ (l : List Oper) (g : St), wpL P A H f ops l g K → wpL P A H f ops l g K'
  | [], g, h => hK g h
  | o :: l, g, h => St.guard_mono hM (fun g' h' => wpL_mono hM hK l g' h') h
theorem wpL_ex (hM : HndM H) {ops : Array Oper} {K : St → Prop} : ∀ (l : List Oper) (g : St), wpL P A H f ops l g K → ∃ g', K g'
  | [], g, h => ⟨g, h⟩
  | o :: l, g, h => by
    obtain ⟨g', h'⟩ := St.guard_ex hM h
    exact wpL_ex hM l g' h'

theorem St.turn_mono (hM : HndM H) {ops : Array Oper} {o : Oper} {g : St} {K K' : Bool → St → Dl → Prop} (hK : ∀ r g δ, K r g δ → K' r g δ) : g.turn P A H f ops o K → g.turn P A H f ops o K' := by
  unfold St.turn
  simp only [cond_eq]
  repeat' split
  all_goals first | exact id | exact stepD_mono hM (fun _ => hK _ _ _) | exact hK _ _ _
theorem St.turn_ex (hM : HndM H) {ops : Array Oper} {o : Oper} {g : St} {K : Bool → St → Dl → Prop} : g.turn P A H f ops o K → ∃ r g' δ, K r g' δ := by
  unfold St.turn
  simp only [cond_eq]
  repeat' split
  all_goals first | exact fun h => h.elim | exact fun h => (stepD_ex hM h).elim fun δ h => ⟨_, _, δ, h⟩ | exact fun h => ⟨_, _, _, h⟩
theorem St.turn_guard (hM : HndM H) {ops : Array Oper} {o : Oper} {g : St} {K : St → Prop} (hd : dstOk P A f o.dst = true) (h : g.turn P A H f ops o fun _ g1 δ => K (g1.app o.dst δ)) : g.guard P A H f ops o K := by
  revert h
  unfold St.turn St.guard St.step
  simp only [hd, cond_true]
  split
  · exact id
  · split
    · split
      · exact id
      · exact id
      · exact id
    · exact id

theorem wpD_mono (hM : HndM H) {ops : Array Oper} {K K' : St → Prop} (hK : ∀ g, K g → K' g) : ∀ (l : List Nat) (fps fps' : List FP) (g : St), (∀ p ∈ fps', p ∈ fps) → wpD P A H f ops l fps g K → wpD P A H f ops l fps' g K'
  | [], fps, fps', g, _, h => hK g h
  | i :: l, fps, fps', g, hs, h => by
    have hall : ∀ (p : FP → Bool), fps.all p = true → fps'.all p = true := fun p hp => by
      rw [List.all_eq_true] at hp ⊢
      exact fun x hx => hp x (hs x hx)
    simp only [wpD] at h ⊢
    split
    · rename_i ho
      rw [ho] at h
      exact wpD_mono hM hK l fps fps' g hs h
    · rename_i o ho
      rw [ho] at h
      simp only at h
      obtain ⟨h1, h2⟩ := of_cond h
      rw [h1, cond_true]
      refine St.turn_mono hM (fun r g1 δ hδ => ?_) h2
      obtain ⟨h3, h4⟩ := of_cond hδ
      rw [hall _ h3, cond_true]
      exact wpD_mono hM hK l _ _ _ (fun p hp => by
        rcases List.mem_cons.1 hp with rfl | hp
        · simp
        · exact List.mem_cons_of_mem _ (hs p hp)) h4
theorem wpD_ex (hM : HndM H) {ops : Array Oper} {K : St → Prop} : ∀ (l : List Nat) (fps : List FP) (g : St), wpD P A H f ops l fps g K → ∃ g', K g'
  | [], fps, g, h => ⟨g, h⟩
  | i :: l, fps, g, h => by
    simp only [wpD] at h
    split at h
    · exact wpD_ex hM l fps g h
    · obtain ⟨_, h2⟩ := of_cond h
      obtain ⟨r, g1, δ, hδ⟩ := St.turn_ex hM h2
      exact wpD_ex hM l _ _ (of_cond hδ).2

theorem run_mono {K K' : St → Prop} (hK : ∀ g, K g → K' g) : ∀ (l : List Cmd) (g : St), g.run P l K → g.run P l K'
  | [], g, h => hK g h
  | c :: l, g, h => by
    simp only [St.run] at h ⊢
    split
    · rename_i hc; rw [hc] at h; exact run_mono hK l _ h
    · rename_i hc; rw [hc] at h; exact h
theorem run_ex {K : St → Prop} : ∀ (l : List Cmd) (g : St), g.run P l K → ∃ g', K g'
  | [], g, h => ⟨g, h⟩
  | c :: l, g, h => by
    simp only [St.run] at h
    split at h
    · exact run_ex l _ h
    · exact h.elim

theorem loopK_mono {body : St → (Ex → St → Prop) → Prop} {nm : St → (St → Prop) → Prop} (hb : ∀ g K K', (∀ e g, K e g → K' e g) → body g K → body g K') (hn : ∀ g K K', (∀ g, K g → K' g) → nm g K → nm g K') {K K' : Ex → St → Prop} (hK : ∀ e g, K e g → K' e g) : ∀ (m : Nat) (g : St), loopK body nm m g K → loopK body nm m g K'
  | 0, g, h => h
  | m + 1, g, h => hb _ _ _ (fun e g' h' => by
      cases e with
      | nrm => exact hn _ _ _ (fun g2 h2 => loopK_mono hb hn hK m g2 h2) h'
      | ext i => exact hK _ _ h'
      | ret => exact hK _ _ h') h
theorem loopK_ex {body : St → (Ex → St → Prop) → Prop} {nm : St → (St → Prop) → Prop} (hb : ∀ g K, body g K → ∃ e g', K e g') (hn : ∀ g K, nm g K → ∃ g', K g') {K : Ex → St → Prop} : ∀ (m : Nat) (g : St), loopK body nm m g K → ∃ e g', K e g'
  | 0, g, h => h.elim
  | m + 1, g, h => by
    obtain ⟨e, g', h'⟩ := hb _ _ h
    cases e with
    | nrm =>
      obtain ⟨g2, h2⟩ := hn _ _ h'
      exact loopK_ex hb hn m g2 h2
    | ext i => exact ⟨_, _, h'⟩
    | ret => exact ⟨_, _, h'⟩

theorem nmK_mono {l : List Cmd × List Nat × List Nat} {g : St} {K K' : St → Prop} (hK : ∀ g, K g → K' g) (h : nmK P l g K) : nmK P l g K' := run_mono (fun _ => hK _) _ _ h
theorem nmK_ex {l : List Cmd × List Nat × List Nat} {g : St} {K : St → Prop} (h : nmK P l g K) : ∃ g', K g' := by
  obtain ⟨g', h⟩ := run_ex _ _ h
  exact ⟨_, h⟩

theorem wpC_mono (hM : HndM H) {n : Nat} : ∀ (c : Code) (g : St) (K K' : Ex → St → Prop), (∀ e g, K e g → K' e g) → wpC P A H f n c g K → wpC P A H f n c g K'
  | .skip, g, K, K', hK, h => hK _ _ h
  | .ret, g, K, K', hK, h => hK _ _ h
  | .exit i, g, K, K', hK, h => hK _ _ h
  | .region id ops draw, g, K, K', hK, h => by
    simp only [wpC] at h ⊢
    refine run_mono (fun g' h' => ?_) _ _ h
    cases draw with
    | false => exact wpL_mono hM (fun _ => hK _ _) _ _ h'
    | true =>
      obtain ⟨h1, h2⟩ := of_cond h'
      show cond (fwdOk ops) _ False
      rw [h1]
      exact wpD_mono hM (fun _ => hK _ _) _ _ _ _ (fun _ h => h) h2
  | .seq x y, g, K, K', hK, h => by
    simp only [wpC] at h ⊢
    refine wpC_mono hM x g _ _ (fun e g' h' => ?_) h
    cases e with
    | nrm => exact wpC_mono hM y g' K K' hK h'
    | ext i => exact hK _ _ h'
    | ret => exact hK _ _ h'
  | .cond c x y, g, K, K', hK, h => by
    simp only [wpC] at h ⊢
    revert h
    simp only [cond_eq]
    repeat' split
    all_goals first | exact id | exact wpC_mono hM x _ K K' hK | exact wpC_mono hM y _ K K' hK
  | .block id c, g, K, K', hK, h => by
    simp only [wpC] at h ⊢
    refine wpC_mono hM c g _ _ (fun e g' h' => ?_) h
    cases e with
    | nrm => exact hK _ _ h'
    | ret => exact hK _ _ h'
    | ext i =>
      simp only [kBlock, cond_eq] at h' ⊢
      split
      · rename_i e; rw [if_pos e] at h'; exact hK _ _ h'
      · rename_i e; rw [if_neg e] at h'; exact hK _ _ h'
  | .loop c, g, K, K', hK, h => by
    simp only [wpC] at h ⊢
    exact nmK_mono (fun g' h' => loopK_mono (body := wpC P A H f n c) (nm := nmK P (A.loop f (firstRegion c))) (fun g K K' hK h => wpC_mono hM c g K K' hK h) (fun g K K' hK h => nmK_mono hK h) hK n g' h') h
  | .label _, g, K, K', hK, h => h.elim
  | .goto _, g, K, K', hK, h => h.elim
  | .scope _, g, K, K', hK, h => h.elim
  | .refuse _, g, K, K', hK, h => h.elim
  | .rangeFunc .., g, K, K', hK, h => h.elim

theorem wpC_ex (hM : HndM H) {n : Nat} : ∀ (c : Code) (g : St) (K : Ex → St → Prop), wpC P A H f n c g K → ∃ e g', K e g'
  | .skip, g, K, h => ⟨_, _, h⟩
  | .ret, g, K, h => ⟨_, _, h⟩
  | .exit i, g, K, h => ⟨_, _, h⟩
  | .region id ops draw, g, K, h => by
    simp only [wpC] at h
    obtain ⟨g', h'⟩ := run_ex _ _ h
    cases draw with
    | false => obtain ⟨g2, h2⟩ := wpL_ex hM _ _ h'; exact ⟨_, _, h2⟩
    | true => obtain ⟨g2, h2⟩ := wpD_ex hM _ _ _ (of_cond h').2; exact ⟨_, _, h2⟩
  | .seq x y, g, K, h => by
    simp only [wpC] at h
    obtain ⟨e, g', h'⟩ := wpC_ex hM x g _ h
    cases e with
    | nrm => exact wpC_ex hM y g' K h'
    | ext i => exact ⟨_, _, h'⟩
    | ret => exact ⟨_, _, h'⟩
  | .cond c x y, g, K, h => by
    simp only [wpC] at h
    revert h
    simp only [cond_eq]
    repeat' split
    all_goals first | exact fun h => h.elim | exact wpC_ex hM x _ K | exact wpC_ex hM y _ K
  | .block id c, g, K, h => by
    simp only [wpC] at h
    obtain ⟨e, g', h'⟩ := wpC_ex hM c g _ h
    cases e with
    | nrm => exact ⟨_, _, h'⟩
    | ret => exact ⟨_, _, h'⟩
    | ext i =>
      simp only [kBlock, cond_eq] at h'
      split at h' <;> exact ⟨_, _, h'⟩
  | .loop c, g, K, h => by
    simp only [wpC] at h
    obtain ⟨g', h'⟩ := nmK_ex h
    exact loopK_ex (body := wpC P A H f n c) (nm := nmK P (A.loop f (firstRegion c))) (fun g K h => wpC_ex hM c g K h) (fun g K h => nmK_ex h) n g' h'
  | .label _, g, K, h => h.elim
  | .goto _, g, K, h => h.elim
  | .scope _, g, K, h => h.elim
  | .refuse _, g, K, h => h.elim
  | .rangeFunc .., g, K, h => h.elim
end

theorem kEnd_mono {fn : Func} {s : Sig} {Q Q' : List D → Prop} (hQ : ∀ r, Q r → Q' r) : ∀ (e : Ex) (g : St), kEnd P fn s Q e g → kEnd P fn s Q' e g := by
  intro e g
  cases e with
  | ext i => exact id
  | nrm =>
    simp only [kEnd, cond_eq]
    repeat' split
    all_goals first | exact id | exact hQ _
  | ret =>
    simp only [kEnd, cond_eq]
    repeat' split
    all_goals first | exact id | exact hQ _
theorem kEnd_ex {fn : Func} {s : Sig} {Q : List D → Prop} : ∀ (e : Ex) (g : St), kEnd P fn s Q e g → ∃ r, Q r := by
  intro e g
  cases e with
  | ext i => exact fun h => h.elim
  | nrm =>
    simp only [kEnd, cond_eq]
    repeat' split
    all_goals first | exact fun h => h.elim | exact fun h => ⟨_, h⟩
  | ret =>
    simp only [kEnd, cond_eq]
    repeat' split
    all_goals first | exact fun h => h.elim | exact fun h => ⟨_, h⟩

theorem hnd_of {cal : Nat → List D → (List D → Prop) → Prop} (h1 : ∀ f ds Q Q', (∀ r, Q r → Q' r) → cal f ds Q → cal f ds Q') (h2 : ∀ f ds Q, cal f ds Q → ∃ r, Q r) : HndM { cal, dyn := dynH A cal, inv := invH P A cal } :=
  ⟨h1, fun d ks rs ds Q Q' hQ => by
    simp only [dynH]
    split
    · exact fun h => ⟨h.1, h1 _ _ _ _ hQ h.2⟩
    · exact id, fun d s ks rs ds Q Q' hQ => by
    simp only [invH]
    split
    · split
      · exact fun h => ⟨h.1, h1 _ _ _ _ hQ h.2⟩
      · exact id
    · exact id, h2, fun d ks rs ds Q => by
    simp only [dynH]
    split
    · exact fun h => h2 _ _ _ h.2
    · exact fun h => h.elim, fun d s ks rs ds Q => by
    simp only [invH]
    split
    · split
      · exact fun h => h2 _ _ _ h.2
      · exact fun h => h.elim
    · exact fun h => h.elim⟩

theorem wpF_me : ∀ n, (∀ f ds Q Q', (∀ r, Q r → Q' r) → wpF P A n f ds Q → wpF P A n f ds Q') ∧ ∀ f ds Q, wpF P A n f ds Q → ∃ r, Q r
  | 0 => ⟨fun _ _ _ _ _ h => h, fun _ _ _ h => h.elim⟩
  | n + 1 => by
    obtain ⟨i1, i2⟩ := wpF_me n
    have hM : HndM (hnd P A n) := hnd_of i1 i2
    constructor
    · intro f ds Q Q' hQ h
      simp only [wpF] at h ⊢
      split
      · rename_i fn hf
        rw [hf] at h
        simp only [wpB] at h ⊢
        split
        · rename_i c hc
          rw [hc] at h
          simp only at h
          obtain ⟨h1, h2⟩ := of_cond h
          rw [h1]
          exact wpC_mono hM c _ _ _ (kEnd_mono hQ) h2
        · rename_i hc; rw [hc] at h; exact h
      · rename_i hf; rw [hf] at h; exact h
    · intro f ds Q h
      simp only [wpF] at h
      split at h
      · simp only [wpB] at h
        split at h
        · obtain ⟨_, h2⟩ := of_cond h
          obtain ⟨e, g', h'⟩ := wpC_ex hM _ _ _ h2
          exact kEnd_ex e g' h'
        · exact h.elim
      · exact h.elim

theorem hnd_m (n : Nat) : HndM (hnd P A n) := hnd_of (wpF_me n).1 (wpF_me n).2

end Go.Ab

/- What a rule looks at. -/
namespace Go.Ab
variable {P : Program} {A : Ann}

section
variable {ob ob' : Nat → Option Obj}

theorem refs_val {o t : Nat} {p : Pth} : o ∈ (AV.val o p t).refs := by
  cases p with
  | nil => simp [AV.refs, AV.refs1]
  | cons x p =>
    cases p with
    | nil => cases x <;> simp [AV.refs, AV.refs1]
    | cons y p => cases x <;> simp [AV.refs, AV.refs1]
theorem refs_celp {o t : Nat} : o ∈ (AV.celp o t).refs := by simp [AV.refs, AV.refs1]
theorem refs_vptr {o t : Nat} {p : Pth} : o ∈ (AV.vptr o p t).refs := by
  cases p with
  | nil => simp [AV.refs, AV.refs1]
  | cons x p =>
    cases p with
    | nil => cases x <;> simp [AV.refs, AV.refs1]
    | cons y p => cases x <;> simp [AV.refs, AV.refs1]
theorem refs_ptr {o t : Nat} {p : Pth} : o ∈ (AV.ptr o p t).refs := by simp [AV.refs, AV.refs1]
theorem refs_old {o t : Nat} {d : D} : o ∈ (AV.old o t d).refs := by simp [AV.refs, AV.refs1]
theorem refs_flat {a : AV} (h : a.flatA = true) : a.refs = a.refs1 := by
  cases a <;> first | rfl | simp [AV.flatA] at h

theorem data_local {t : Nat} {a : AV} (h : ∀ c ∈ a.refs, ob c = ob' c) : St.data P ob t a = St.data P ob' t a := by
  cases a with
  | val o p u => simp only [St.data, h o refs_val]
  | old o u d => simp only [St.data, h o refs_old]
  | _ => rfl
theorem takeV_local {t : Nat} {a : AV} (h : ∀ c ∈ a.refs, ob c = ob' c) : takeV P ob t a = takeV P ob' t a := by
  cases a with
  | val o p u => cases p <;> simp only [takeV, h o refs_val]
  | con v => unfold takeV; split <;> first | rfl | (rename_i heq; cases heq)
  | _ => rfl
theorem capD_local {k : PK} {a : AV} (h : ∀ c ∈ a.refs, ob c = ob' c) : capD P ob k a = capD P ob' k a := by
  cases k with
  | imm t =>
    cases a with
    | val o p u => simp only [capD, data_local h, immAt, h o refs_val]
    | old o u d => simp only [capD, data_local h]
    | _ => simp only [capD, data_local h]
  | iptr e =>
    cases a with
    | ptr o p u => simp only [capD, h o refs_ptr]
    | _ => rfl
  | lent e s bx => cases a <;> rfl
theorem capD_ids {k : PK} {a : AV} {d : D} {bs : List (Nat × Option Pth)} (h : capD P ob k a = some (d, bs)) : ∀ x ∈ bs, x.1 ∈ a.refs := by
  cases k with
  | imm t =>
    cases a with
    | val o p u =>
      simp only [capD] at h
      split at h <;> try contradiction
      simp only [Option.some.injEq, Prod.mk.injEq] at h
      obtain ⟨_, rfl⟩ := h
      intro x hx
      cases hi : immAt ob o p with
      | true => rw [hi] at hx; simp at hx
      | false =>
        rw [hi] at hx
        simp only [cond_false, List.mem_singleton] at hx
        subst hx
        exact refs_val
    | old o u d' =>
      simp only [capD] at h
      split at h <;> try contradiction
      simp only [Option.some.injEq, Prod.mk.injEq] at h
      obtain ⟨_, rfl⟩ := h
      intro x hx
      simp only [List.mem_singleton] at hx
      subst hx
      exact refs_old
    | _ =>
      simp only [capD] at h
      split at h <;> first | contradiction | (simp only [Option.some.injEq, Prod.mk.injEq] at h; obtain ⟨_, rfl⟩ := h; simp; done) | (cases h; done)
  | iptr e =>
    cases a with
    | ptr o p u =>
      simp only [capD, cond_eq] at h
      split at h <;> try contradiction
      split at h <;> try contradiction
      split at h <;> try contradiction
      split at h <;> try contradiction
      simp only [Option.some.injEq, Prod.mk.injEq] at h
      obtain ⟨_, rfl⟩ := h
      intro x hx
      simp only [List.mem_singleton] at hx
      subst hx
      exact refs_ptr
    | iptr u d' =>
      simp only [capD] at h
      obtain ⟨_, h⟩ := of_condO h
      simp only [Prod.mk.injEq] at h
      obtain ⟨_, rfl⟩ := h
      simp
    | _ => simp [capD] at h
  | lent e s bx => cases a <;> simp [capD] at h


theorem capsD_local : ∀ (ks : List PK) (l : List AV), (∀ a ∈ l, ∀ c ∈ a.refs1, ob c = ob' c) → capsD P ob ks l = capsD P ob' ks l
  | [], [], _ => rfl
  | [], _ :: _, _ => rfl
  | _ :: _, [], _ => rfl
  | k :: ks, a :: l, h => by
    have h1 : capD P ob k a = capD P ob' k a := by
      by_cases hf : a.flatA = true
      · exact capD_local fun c hc => h a (by simp) c (by rw [refs_flat hf] at hc; exact hc)
      · cases a <;> first | simp [AV.flatA] at hf; done | skip
        all_goals cases k <;> rfl
    simp only [capsD, h1, capsD_local ks l fun b hb => h b (List.mem_cons_of_mem _ hb)]
theorem capsD_ids : ∀ (ks : List PK) (l : List AV) (ds : List D) (bs : List (Nat × Option Pth)), capsD P ob ks l = some (ds, bs) → ∀ x ∈ bs, ∃ a ∈ l, x.1 ∈ a.refs1
  | [], [], ds, bs, h => by simp only [capsD, Option.some.injEq, Prod.mk.injEq] at h; obtain ⟨_, rfl⟩ := h; simp
  | [], _ :: _, ds, bs, h => by simp [capsD] at h
  | _ :: _, [], ds, bs, h => by simp [capsD] at h
  | k :: ks, a :: l, ds, bs, h => by
    simp only [capsD] at h
    split at h <;> try contradiction
    rename_i d b1 ds2 b2 h1 h2
    simp only [Option.some.injEq, Prod.mk.injEq] at h
    obtain ⟨_, rfl⟩ := h
    intro x hx
    rcases List.mem_append.1 hx with hx | hx
    · refine ⟨a, by simp, ?_⟩
      have h3 := capD_ids h1 x hx
      by_cases hf : a.flatA = true
      · rw [refs_flat hf] at h3; exact h3
      · cases a <;> first | simp [AV.flatA] at hf; done | skip
        all_goals cases k <;> simp [capD, St.data] at h1
    · obtain ⟨b, hb, h3⟩ := capsD_ids ks l ds2 b2 h2 x hx
      exact ⟨b, List.mem_cons_of_mem _ hb, h3⟩

theorem argD_local {k : PK} {a : AV} (h : ∀ c ∈ a.refs, ob c = ob' c) : argD P A ob k a = argD P A ob' k a := by
  cases k with
  | imm t =>
    cases a with
    | clo f l =>
      simp only [argD]
      rw [capsD_local _ l fun b hb c hc => h c (by simp only [AV.refs, List.mem_flatMap]; exact ⟨b, hb, hc⟩)]
    | fn f => rfl
    | _ => simp only [argD, capD_local h]
  | iptr e =>
    cases a with
    | iptr u d => rfl
    | ptr o p u => simp only [argD, capD_local h]
    | _ => rfl
  | lent e s bx =>
    cases bx with
    | true =>
      cases a with
      | ptr o p u => cases p <;> simp only [argD, h o refs_ptr]
      | _ => rfl
    | false =>
      cases a with
      | val o p u => cases p <;> simp only [argD, h o refs_val]
      | _ => rfl
theorem argD_ids {k : PK} {a : AV} {d : D} {bs : List (Nat × Option Pth)} {os : List Nat} (h : argD P A ob k a = some (d, bs, os)) : (∀ x ∈ bs, x.1 ∈ a.refs) ∧ ∀ o ∈ os, o ∈ a.refs := by
  have cap : ∀ (k : PK), (match (generalizing := false) capD P ob k a with
    | some (d, os) => some (d, os, ([] : List Nat))
    | none => none) = some (d, bs, os) → (∀ x ∈ bs, x.1 ∈ a.refs) ∧ ∀ o ∈ os, o ∈ a.refs := fun k h => by
    split at h <;> try contradiction
    rename_i d' b' hc
    simp only [Option.some.injEq, Prod.mk.injEq] at h
    obtain ⟨_, rfl, rfl⟩ := h
    exact ⟨capD_ids hc, by simp⟩
  cases k with
  | imm t =>
    cases a with
    | clo f l =>
      simp only [argD] at h
      split at h <;> try contradiction
      split at h <;> try contradiction
      rename_i ds b' hc
      simp only [Option.some.injEq, Prod.mk.injEq] at h
      obtain ⟨_, rfl, rfl⟩ := h
      refine ⟨fun x hx => ?_, by simp⟩
      obtain ⟨b, hb, h3⟩ := capsD_ids _ l _ _ hc x hx
      simp only [AV.refs, List.mem_flatMap]
      exact ⟨b, hb, h3⟩
    | fn f =>
      simp only [argD] at h
      split at h <;> try contradiction
      simp only [Option.some.injEq, Prod.mk.injEq] at h
      obtain ⟨_, rfl, rfl⟩ := h
      simp
    | _ => exact cap (.imm t) h
  | iptr e =>
    cases a with
    | iptr u d' =>
      simp only [argD] at h
      obtain ⟨_, h⟩ := of_condO h
      simp only [Prod.mk.injEq] at h
      obtain ⟨_, rfl, rfl⟩ := h
      simp
    | ptr o p u =>
      simp only [argD] at h
      split at h <;> try contradiction
      rename_i d' b' hc
      simp only [Option.some.injEq, Prod.mk.injEq] at h
      obtain ⟨_, rfl, rfl⟩ := h
      exact ⟨capD_ids hc, by simp⟩
    | _ => simp [argD] at h
  | lent e s bx =>
    cases bx with
    | true =>
      cases a with
      | ptr o p u =>
        cases p with
        | nil =>
          simp only [argD, cond_eq] at h
          split at h <;> try contradiction
          split at h <;> try contradiction
          split at h <;> try contradiction
          simp only [Option.some.injEq, Prod.mk.injEq] at h
          obtain ⟨_, rfl, rfl⟩ := h
          refine ⟨by simp, fun x hx => ?_⟩
          simp only [List.mem_singleton] at hx
          subst hx
          exact refs_ptr
        | cons z p => simp [argD] at h
      | _ => simp [argD] at h
    | false =>
      cases a with
      | val o p u =>
        cases p with
        | nil =>
          simp only [argD, cond_eq] at h
          split at h <;> try contradiction
          split at h <;> try contradiction
          split at h <;> try contradiction
          simp only [Option.some.injEq, Prod.mk.injEq] at h
          obtain ⟨_, rfl, rfl⟩ := h
          refine ⟨by simp, fun x hx => ?_⟩
          simp only [List.mem_singleton] at hx
          subst hx
          exact refs_val
        | cons z p => simp [argD] at h
      | _ => simp [argD] at h

theorem argC_local {k : PK} {a : AV} (h : ∀ c ∈ a.refs, ob c = ob' c) : argC P ob k a = argC P ob' k a := by
  cases k with
  | lent e s bx =>
    cases bx with
    | true =>
      cases a with
      | celp o u => simp only [argC, h o refs_celp]
      | _ => rfl
    | false => rfl
  | _ => rfl
theorem argC_ids {k : PK} {a : AV} {d : D} {bs : List (Nat × Option Pth)} {os : List Nat} (h : argC P ob k a = some (d, bs, os)) : (∀ x ∈ bs, x.1 ∈ a.refs) ∧ ∀ o ∈ os, o ∈ a.refs := by
  unfold argC at h
  split at h <;> try contradiction
  simp only [cond_eq] at h
  split at h <;> try contradiction
  split at h <;> try contradiction
  split at h <;> try contradiction
  simp only [Option.some.injEq, Prod.mk.injEq] at h
  obtain ⟨_, rfl, rfl⟩ := h
  refine ⟨by simp, fun x hx => ?_⟩
  simp only [List.mem_singleton] at hx
  subst hx
  exact refs_celp
theorem argsD_local {cs : List Nat} : ∀ (i : Nat) (ks : List PK) (l : List AV), (∀ a ∈ l, ∀ c ∈ a.refs, ob c = ob' c) → argsD P A ob cs i ks l = argsD P A ob' cs i ks l
  | _, [], [], _ => rfl
  | _, [], _ :: _, _ => rfl
  | _, _ :: _, [], _ => rfl
  | i, k :: ks, a :: l, h => by
    simp only [argsD, argD_local (h a (by simp)), argC_local (h a (by simp)), argsD_local (i + 1) ks l fun b hb => h b (List.mem_cons_of_mem _ hb)]
theorem argsD_ids {cs : List Nat} : ∀ (i : Nat) (ks : List PK) (l : List AV) (ds : List D) (bs : List (Nat × Option Pth)) (os : List Nat), argsD P A ob cs i ks l = some (ds, bs, os) → (∀ x ∈ bs, ∃ a ∈ l, x.1 ∈ a.refs) ∧ ∀ o ∈ os, ∃ a ∈ l, o ∈ a.refs
  | _, [], [], ds, bs, os, h => by simp only [argsD, Option.some.injEq, Prod.mk.injEq] at h; obtain ⟨_, rfl, rfl⟩ := h; simp
  | _, [], _ :: _, ds, bs, os, h => by simp [argsD] at h
  | _, _ :: _, [], ds, bs, os, h => by simp [argsD] at h
  | i, k :: ks, a :: l, ds, bs, os, h => by
    simp only [argsD] at h
    split at h <;> try contradiction
    rename_i d b1 o1 ds2 b2 o2 h1 h2
    simp only [Option.some.injEq, Prod.mk.injEq] at h
    obtain ⟨_, rfl, rfl⟩ := h
    have hone : (∀ x ∈ b1, x.1 ∈ a.refs) ∧ ∀ o ∈ o1, o ∈ a.refs := by
      cases hc : isCel cs i with
      | true => rw [hc, cond_true] at h1; exact argC_ids h1
      | false => rw [hc, cond_false] at h1; exact argD_ids h1
    obtain ⟨i1, i2⟩ := hone
    obtain ⟨j1, j2⟩ := argsD_ids (i + 1) ks l ds2 b2 o2 h2
    refine ⟨fun x hx => ?_, fun x hx => ?_⟩
    · rcases List.mem_append.1 hx with hx | hx
      · exact ⟨a, by simp, i1 x hx⟩
      · obtain ⟨b, hb, h3⟩ := j1 x hx
        exact ⟨b, List.mem_cons_of_mem _ hb, h3⟩
    · rcases List.mem_append.1 hx with hx | hx
      · exact ⟨a, by simp, i2 x hx⟩
      · obtain ⟨b, hb, h3⟩ := j2 x hx
        exact ⟨b, List.mem_cons_of_mem _ hb, h3⟩

theorem frz_local {bs : List (Nat × Option Pth)} : ∀ (l : List (Nat × Option Pth)), (∀ x ∈ l, ob x.1 = ob' x.1) → frz ob bs l = frz ob' bs l
  | [], _ => rfl
  | (o, q) :: l, h => by simp only [frz, h (o, q) (by simp), frz_local l fun x hx => h x (List.mem_cons_of_mem _ hx)]
theorem lentUp_local (r : List D) : ∀ (os : List Nat) (k : Nat), (∀ o ∈ os, ob o = ob' o) → lentUp ob k r os = lentUp ob' k r os
  | [], _, _ => rfl
  | o :: os, k, h => by simp only [lentUp, h o (by simp), lentUp_local r os (k + 1) fun x hx => h x (List.mem_cons_of_mem _ hx)]

theorem boxD_local {f dst t : Nat} {x : AV} {K : Dl → Prop} {C : Prop} (h : ∀ c ∈ x.refs, ob c = ob' c) : boxD P A f dst t x ob K C = boxD P A f dst t x ob' K C := by
  cases x with
  | val o p u =>
    cases p with
    | nil => simp only [boxD, h o refs_val]
    | cons _ _ => rfl
  | ptr o p u =>
    cases p with
    | nil => simp only [boxD, h o refs_ptr]
    | cons _ _ => rfl
  | _ => rfl
theorem primD_local {dst : Option Nat} {f : Nat} {l : List AV} {K : Dl → Prop} (h : ∀ a ∈ l, ∀ c ∈ a.refs, ob c = ob' c) : primD P dst f l ob K = primD P dst f l ob' K := by
  unfold primD
  cases dst with
  | none => rfl
  | some d =>
    cases l with
    | nil => rfl
    | cons a l =>
      cases l with
      | cons _ _ =>
        cases a with
        | val o p u => cases p <;> rfl
        | _ => rfl
      | nil =>
        cases a with
        | val o p u =>
          cases p with
          | nil => simp only [h (.val o [] u) (List.mem_singleton.2 rfl) o refs_val]
          | cons _ _ => rfl
        | _ => rfl
theorem callD_local {H : Hnd} {dst : Option Nat} {f : Nat} {l : List AV} {K : Dl → Prop} (h : ∀ a ∈ l, ∀ c ∈ a.refs, ob c = ob' c) : callD P A H dst f l ob K = callD P A H dst f l ob' K := by
  unfold callD
  rw [argsD_local _ _ l h]
  split
  · rename_i ds bs os har
    obtain ⟨i1, i2⟩ := argsD_ids _ _ _ _ _ _ har
    have hf : frz ob bs bs = frz ob' bs bs := frz_local bs fun x hx => by
      obtain ⟨a, ha, hc⟩ := i1 x hx
      exact h a ha _ hc
    have hl : ∀ (r : List D) (k : Nat), lentUp ob k r os = lentUp ob' k r os := fun r k => lentUp_local r os k fun o ho => by
      obtain ⟨a, ha, hc⟩ := i2 o ho
      exact h a ha _ hc
    have hm : (os.map fun o => (o, lnM ob o)) = os.map fun o => (o, lnM ob' o) := List.map_congr_left fun o ho => by
      obtain ⟨a, ha, hc⟩ := i2 o ho
      unfold lnM
      rw [h a ha _ hc]
    simp only [hf, hl, hm]
  · rfl

theorem partD_local {H : Hnd} {f : Nat} {l : List AV} {K : Dl → Prop} (h : ∀ a ∈ l, ∀ c ∈ a.refs, ob c = ob' c) : partD P A H f l ob K = partD P A H f l ob' K := by
  unfold partD
  split
  · rename_i o j u l' e sh ps _ _
    have ho : ob o = ob' o := h (.val o [.fld j] u) (by simp) o refs_val
    have hl : argsD P A ob [] 1 ps l' = argsD P A ob' [] 1 ps l' := argsD_local _ _ l' fun a ha => h a (List.mem_cons_of_mem _ ha)
    simp only [ho, hl]
  · rfl
theorem everyD_local {H : Hnd} {f : Nat} {l : List AV} {K : Dl → Prop} (hn : ∀ a ∈ l, a.nest = true) (h : ∀ a ∈ l, ∀ c ∈ a.refs, ob c = ob' c) : everyD P A H f l ob K = everyD P A H f l ob' K := by
  unfold everyD
  split
  · rename_i t d f' l'
    have hm : AV.clo f' l' ∈ [AV.imm t d, AV.clo f' l'] := by simp
    have hl' : ∀ b ∈ l', ∀ c ∈ b.refs, ob c = ob' c := fun b hb c hc => by
      have hn1 := hn _ hm
      simp only [AV.nest, List.all_eq_true] at hn1
      exact h _ hm c (by simp only [AV.refs, List.mem_flatMap]; exact ⟨b, hb, by rw [← refs_flat (hn1 b hb)]; exact hc⟩)
    split
    · rename_i e ps u _ _ _
      simp only [argsD_local (A := A) (cs := []) 1 ps l' hl']
      split
      · rename_i ds bs os u' har _ _
        obtain ⟨_, i2⟩ := argsD_ids _ _ _ _ _ _ har
        have hl : ∀ (r : List D) (k : Nat), lentUp ob k r os = lentUp ob' k r os := fun r k => lentUp_local r os k fun o ho => by
          obtain ⟨a, ha, hc⟩ := i2 o ho
          exact hl' a ha _ hc
        have hm : (os.map fun o => (o, lnM ob o)) = os.map fun o => (o, lnM ob' o) := List.map_congr_left fun o ho => by
          obtain ⟨a, ha, hc⟩ := i2 o ho
          unfold lnM
          rw [hl' a ha _ hc]
        simp only [hl, hm]
      · rfl
    · rfl
  · rfl

theorem partsD_local {ty : Nat → Option Nat} : ∀ (l : List (Nat × AV)), (∀ x ∈ l, ∀ c ∈ x.2.refs, ob c = ob' c) → partsD P ob ty l = partsD P ob' ty l
  | [], _ => rfl
  | (j, a) :: l, h => by
    have h1 : ∀ t, takeV P ob t a = takeV P ob' t a := fun t => takeV_local (h (j, a) (by simp))
    simp only [partsD, h1, partsD_local l fun x hx => h x (List.mem_cons_of_mem _ hx)]

theorem tail_local {t : Nat} {a : AV} (h : ∀ c ∈ a.refs, ob c = ob' c) : appTail P ob t a = appTail P ob' t a := by
  cases a with
  | val o p u => cases p <;> simp only [appTail, h o refs_val]
  | old o u d => simp only [appTail, data_local h]
  | _ => simp only [appTail, data_local h]

theorem loadD_local {t : Nat} {a : AV} {K : AV → Prop} (h : ∀ c ∈ loadRefs a, ob c = ob' c) : loadD P ob t a K = loadD P ob' t a K := by
  cases a with
  | ptr o p u =>
    have := h o (show o ∈ loadRefs (.ptr o p u) from refs_ptr (o := o) (p := p) (t := u))
    simp only [loadD, this]
  | _ => rfl
theorem fieldD_local {t j : Nat} {a : AV} {K : AV → Prop} (h : ∀ c ∈ a.refs, ob c = ob' c) : fieldD P ob t a j K = fieldD P ob' t a j K := by
  cases a with
  | ptr o p u => simp only [fieldD, h o refs_ptr]
  | vptr o p e =>
    cases p with
    | nil => simp only [fieldD, h o refs_vptr]
    | cons _ _ => rfl
  | _ => rfl
theorem indexD_local {t : Nat} {a i : AV} {K : AV → Prop} (h : ∀ c ∈ a.refs, ob c = ob' c) : indexD P ob t a i K = indexD P ob' t a i K := by
  cases a with
  | ptr o p u => simp only [indexD, h o refs_ptr]
  | val o p u => simp only [indexD, h o refs_val]
  | _ => rfl
theorem storeD_local {t : Nat} {a x : AV} {K : Dl → Prop} (h : ∀ c ∈ a.refs, ob c = ob' c) (h' : ∀ c ∈ x.refs, ob c = ob' c) : storeD P ob t a x K = storeD P ob' t a x K := by
  cases a with
  | ptr o p u => simp only [storeD, h o refs_ptr, takeV_local h']
  | _ => rfl
theorem appendD_local {dst t : Nat} {x y : AV} {K : Dl → Prop} (h : ∀ c ∈ x.refs, ob c = ob' c) (h' : ∀ c ∈ y.refs, ob c = ob' c) : appendD P ob dst t x y K = appendD P ob' dst t x y K := by
  unfold appendD
  rw [tail_local h']
  cases x with
  | val o p u => simp only [norm, h o refs_val, newO]
  | con v =>
    have : ∀ o p u, norm P t (.con v) ≠ .val o p u := fun o p u e => by
      simp only [norm] at e
      split at e
      · cases e
      · split at e <;> cases e
    generalize hn : norm P t (.con v) = n at this
    cases n with
    | val o p u => exact absurd rfl (this o p u)
    | _ => simp only [newO]
  | _ => simp only [norm, newO]
theorem binD_local {op : BinOp} {tx ty tr : Nat} {x y : AV} {K : AV → Prop} (h : ∀ c ∈ x.refs, ob c = ob' c) (h' : ∀ c ∈ y.refs, ob c = ob' c) : binD P ob op tx ty tr x y K = binD P ob' op tx ty tr x y K := by
  have h1 : ∀ t, St.data P ob t x = St.data P ob' t x := fun t => data_local h
  have h2 : ∀ t, St.data P ob t y = St.data P ob' t y := fun t => data_local h'
  simp only [binD, h1, h2]

def moveOp : Op → Bool
  | .move _ | .assign _ | .pick .. => true
  | _ => false
def extOp : Op → Bool
  | .extract .. => true
  | _ => false

theorem ints_local {k : TK} : ∀ (ts : List Nat) (l : List AV), (∀ a ∈ l, ∀ c ∈ a.refs, ob c = ob' c) → ints P ob k ts l = ints P ob' k ts l
  | [], [], _ => rfl
  | [], _ :: _, _ => rfl
  | _ :: _, [], _ => rfl
  | t :: ts, a :: l, h => by
    simp only [ints, data_local (h a (by simp)), ints_local ts l fun b hb => h b (by simp [hb])]

/-- WHAT A RULE LOOKS AT. -/
theorem stepD_local {H : Hnd} {f : Nat} {o : Oper} {av av' : Operand → AV} (hl : (simOp P o.op || calOp o.op) = true) (hnest : ∀ x ∈ o.op.operands.toList, (av x).nest = true) (hav : ∀ x ∈ o.op.operands.toList, av x = av' x) (hobr : ∀ c ∈ opRefs av o.op, ob c = ob' c) (K : Dl → Prop) :
    stepD P A H f o av ob K = stepD P A H f o av' ob' K := by
  have hob : (moveOp o.op || extOp o.op) = true ∨ ((∀ t x, o.op ≠ .load t x) → ∀ x ∈ o.op.operands.toList, ∀ c ∈ (av x).refs, ob c = ob' c) := by
    cases hm : (moveOp o.op || extOp o.op) with
    | true => exact .inl rfl
    | false =>
      right
      intro hl x hx c hc
      refine hobr c ?_
      have e : opRefs av o.op = o.op.operands.toList.flatMap fun x => (av x).refs := by
        cases hop : o.op <;> first | rfl | (rw [hop] at hm; simp [moveOp, extOp] at hm; done) | exact absurd hop (hl _ _)
      rw [e]
      exact List.mem_flatMap.2 ⟨x, hx, hc⟩
  unfold stepD
  cases hop : o.op with
  | move x =>
    have e := hav x (by simp [hop, Op.operands])
    simp only [e]
  | assign x =>
    have e := hav x (by simp [hop, Op.operands])
    simp only [e]
  | pick c x y =>
    have e1 := hav c (by simp [hop, Op.operands])
    have e2 := hav x (by simp [hop, Op.operands])
    have e3 := hav y (by simp [hop, Op.operands])
    simp only [e1, e2, e3]
  | load t x =>
    have e := hav x (by simp [hop, Op.operands])
    have r : ∀ c ∈ loadRefs (av x), ob c = ob' c := fun c hc => hobr c (by rw [hop]; exact hc)
    simp only [← e]
    exact loadD_local r
  | nilCheck x =>
    have e := hav x (by simp [hop, Op.operands])
    have r := (hob.resolve_left (by simp [hop, moveOp, extOp]) (by simp [hop])) x (by simp [hop, Op.operands])
    simp only [← e]
    cases hx : av x with
    | ptr q p u => rw [hx] at r; simp only [r q refs_ptr]
    | _ => rfl
  | fieldAddr s x j =>
    have e := hav x (by simp [hop, Op.operands])
    have r := (hob.resolve_left (by simp [hop, moveOp, extOp]) (by simp [hop])) x (by simp [hop, Op.operands])
    simp only [← e]
    exact fieldD_local r
  | indexAddr t x i =>
    have e := hav x (by simp [hop, Op.operands])
    have e2 := hav i (by simp [hop, Op.operands])
    have r := (hob.resolve_left (by simp [hop, moveOp, extOp]) (by simp [hop])) x (by simp [hop, Op.operands])
    simp only [← e, ← e2]
    exact indexD_local r
  | unOp op t x =>
    have e := hav x (by simp [hop, Op.operands])
    have r := (hob.resolve_left (by simp [hop, moveOp, extOp]) (by simp [hop])) x (by simp [hop, Op.operands])
    simp only [← e, unD, data_local r]
  | convert s d x =>
    have e := hav x (by simp [hop, Op.operands])
    have r := (hob.resolve_left (by simp [hop, moveOp, extOp]) (by simp [hop])) x (by simp [hop, Op.operands])
    simp only [← e, data_local r]
  | binOp op tx x y ty =>
    have e := hav x (by simp [hop, Op.operands])
    have e2 := hav y (by simp [hop, Op.operands])
    have r := (hob.resolve_left (by simp [hop, moveOp, extOp]) (by simp [hop])) x (by simp [hop, Op.operands])
    have r2 := (hob.resolve_left (by simp [hop, moveOp, extOp]) (by simp [hop])) y (by simp [hop, Op.operands])
    simp only [← e, ← e2]
    exact binD_local r r2
  | makeSlice t x y =>
    have e := hav x (by simp [hop, Op.operands])
    have e2 := hav y (by simp [hop, Op.operands])
    simp only [← e, ← e2, makeSliceD, newO]
  | alloc t => simp only [newO]
  | box t x =>
    have e := hav x (by simp [hop, Op.operands])
    have r := (hob.resolve_left (by simp [hop, moveOp, extOp]) (by simp [hop])) x (by simp [hop, Op.operands])
    simp only [← e, takeV_local r, newO, boxD_local r]
  | store t x y =>
    have e := hav x (by simp [hop, Op.operands])
    have e2 := hav y (by simp [hop, Op.operands])
    have r := (hob.resolve_left (by simp [hop, moveOp, extOp]) (by simp [hop])) x (by simp [hop, Op.operands])
    have r2 := (hob.resolve_left (by simp [hop, moveOp, extOp]) (by simp [hop])) y (by simp [hop, Op.operands])
    simp only [← e, ← e2]
    exact storeD_local r r2
  | build t parts =>
    have hp : parts.toList.map (fun x => (x.1, av x.2)) = parts.toList.map (fun x => (x.1, av' x.2)) := List.map_congr_left fun x hx => by
      rw [hav x.2 (by simp only [hop, Op.operands, List.toList_toArray]; exact List.mem_map_of_mem hx)]
    have r : ∀ x ∈ parts.toList.map (fun x => (x.1, av x.2)), ∀ c ∈ x.2.refs, ob c = ob' c := fun x hx => by
      obtain ⟨y, hy, rfl⟩ := List.mem_map.1 hx
      exact (hob.resolve_left (by simp [hop, moveOp, extOp]) (by simp [hop])) y.2 (by simp only [hop, Op.operands, List.toList_toArray]; exact List.mem_map_of_mem hy)
    simp only [← hp, buildD, partsD_local _ r, newO]
  | buildSlice t n parts =>
    have hp : parts.toList.map (fun x => (x.1, av x.2)) = parts.toList.map (fun x => (x.1, av' x.2)) := List.map_congr_left fun x hx => by
      rw [hav x.2 (by simp only [hop, Op.operands, List.toList_toArray]; exact List.mem_map_of_mem hx)]
    have r : ∀ x ∈ parts.toList.map (fun x => (x.1, av x.2)), ∀ c ∈ x.2.refs, ob c = ob' c := fun x hx => by
      obtain ⟨y, hy, rfl⟩ := List.mem_map.1 hx
      exact (hob.resolve_left (by simp [hop, moveOp, extOp]) (by simp [hop])) y.2 (by simp only [hop, Op.operands, List.toList_toArray]; exact List.mem_map_of_mem hy)
    simp only [← hp, buildSliceD, partsD_local _ r, newO]
  | call c =>
    rw [hop] at hl hav hob hnest
    have hm : (moveOp (.call c) || extOp (.call c)) = true → False := fun h => by simp [moveOp, extOp] at h
    have hob := hob.resolve_left hm (fun _ _ h => by cases h)
    have hargs : ∀ x ∈ c.args.toList, x ∈ (Op.call c).operands.toList := fun x hx => by
      simp only [Op.operands, Call.operands]
      cases c.callee <;> simp <;> simp at hx <;> first | exact .inl hx | exact .inr hx | exact hx
    have ha : c.args.toList.map av = c.args.toList.map av' := List.map_congr_left fun x hx => hav x (hargs x hx)
    have hr : ∀ b ∈ c.args.toList.map av, ∀ q ∈ b.refs, ob q = ob' q := fun b hb => by
      obtain ⟨x, hx, rfl⟩ := List.mem_map.1 hb
      exact hob x (hargs x hx)
    have hna : ∀ b ∈ c.args.toList.map av, b.nest = true := fun b hb => by
      obtain ⟨x, hx, rfl⟩ := List.mem_map.1 hb
      exact hnest x (hargs x hx)
    simp only [simOp, calOp] at hl
    simp only
    cases hc : c.callee with
    | builtin b =>
      rw [hc] at hl
      cases b <;> simp only [Bool.or_self, Bool.false_eq_true] at hl <;> simp only
      · -- append
        cases o.dst with
        | none => rfl
        | some d =>
          split
          · rename_i d' t u x y _ ht hx
            have m1 := hargs x (by rw [hx]; simp)
            have m2 := hargs y (by rw [hx]; simp)
            rw [← hav x m1, ← hav y m2, appendD_local (hob x m1) (hob y m2)]
          · rfl
      · cases ht : c.argTypes.toList with
        | nil => rfl
        | cons t ts =>
          cases ts with
          | cons _ _ => rfl
          | nil =>
            cases hx : c.args.toList with
            | nil => rfl
            | cons x xs =>
              cases xs with
              | cons _ _ => rfl
              | nil =>
                have m1 := hargs x (by rw [hx]; simp)
                simp only [← hav x m1, lenD, data_local (hob x m1)]
      · simp only [← ha, ints_local _ _ hr]
      · simp only [← ha, ints_local _ _ hr]
    | value x =>
      have hx : x ∈ (Op.call c).operands.toList := by simp [Op.operands, Call.operands, hc]
      simp only [← hav x hx, ← ha]
      cases hvx : av x with
      | fn h => simp only [callD_local hr, primD_local hr, partD_local hr, everyD_local hna hr]
      | clo h l =>
        refine callD_local fun b hb => ?_
        rcases List.mem_append.1 hb with hb | hb
        · exact hr b hb
        · intro q hq
          refine hob x hx q ?_
          have hn := hnest x hx
          rw [hvx] at hn ⊢
          simp only [AV.nest, List.all_eq_true] at hn
          simp only [AV.refs, List.mem_flatMap]
          exact ⟨b, hb, by rw [← refs_flat (hn b hb)]; exact hq⟩
      | imm t d => simp only [argsD_local _ _ _ hr]
      | _ => rfl
    | invoke x nm => rw [hc] at hl; cases hl
  | extract x i =>
    have e := hav x (by simp [hop, Op.operands])
    rw [hop] at hobr
    simp only [opRefs] at hobr
    simp only [← e]
    cases hx : av x with
    | tup l =>
      rw [hx] at hobr
      simp only at hobr ⊢
      cases hl : l[i]? with
      | none => rfl
      | some b =>
        rw [hl] at hobr
        simp only at hobr
        cases b with
        | val k p u =>
          cases p with
          | nil => simp only [hobr k (by simp [AV.refs1]), newO]
          | cons _ _ => rfl
        | ptr k p u =>
          cases p with
          | nil => simp only [hobr k (by simp [AV.refs1]), newO]
          | cons _ _ => rfl
        | _ => rfl
    | _ => rfl
  | _ => exact absurd hl (by rw [hop]; simp [simOp, calOp])

end
end Go.Ab

/- Operations that may change places. -/
namespace Go.Ab
variable {P : Program} {A : Ann}

theorem fall1_cases (o : Nat) (m : KM) (a : AV) : fall1 o m a = a ∨ fall1 o m a = .dead ∨ (m.app? = true ∧ ∃ t x, fall1 o m a = .old o t x) := by
  cases m <;> cases a <;> first
    | exact .inl rfl
    | (simp only [fall1]; rcases cond_or (Nat.beq _ _ : Bool) _ _ with h | h <;> first | exact .inl h | exact .inr (.inl h))
    | (simp only [fall1]; rcases cond_or _ _ _ with h | h <;> first | exact .inl h | exact .inr (.inl h))
    | skip
  rename_i x o' p t
  simp only [fall1]
  cases hb : Nat.beq o o' with
  | false => exact .inl rfl
  | true =>
    cases p with
    | nil => rw [← beq_iff.1 hb]; exact .inr (.inr ⟨rfl, t, x, rfl⟩)
    | cons z p => exact .inr (.inl rfl)

theorem fall1_same {o : Nat} {m : KM} {a : AV} (h : Nat.beq (fall1 o m a).tag a.tag = true) : fall1 o m a = a := by
  rw [beq_iff] at h
  rcases fall1_cases o m a with e | e | ⟨hm, t, x, e⟩
  · exact e
  · rw [e] at h ⊢
    cases a <;> simp [AV.tag] at h
    rfl
  · rw [e] at h
    cases a with
    | old o' t' d' =>
      cases m with
      | app x' =>
        simp only [fall1] at e ⊢
        cases hb : Nat.beq o o' with
        | false => rfl
        | true => rw [hb] at e; cases e
      | _ => cases hm
    | _ => simp [AV.tag] at h

theorem strike1_same {ks : List (Nat × KM)} {a : AV} (h : keeps1 ks a = true) : strike1 ks a = a := by
  induction ks with
  | nil => rfl
  | cons k ks ih =>
    simp only [keeps1, List.all_cons, Bool.and_eq_true] at h
    simp only [strike1, fall1_same h.1]
    exact ih h.2
theorem strike_same {ks : List (Nat × KM)} {a : AV} (h : keepsV ks a = true) : strike ks a = a := by
  by_cases hf : a.flatA = true
  · rw [(strike_flat ks hf).1]
    refine strike1_same ?_
    cases a <;> first | exact h | simp [AV.flatA] at hf
  · cases a <;> first | simp [AV.flatA] at hf; done | skip
    · rename_i l
      simp only [keepsV, List.all_eq_true] at h
      rw [strike_tup]
      congr 1
      conv => rhs; rw [← List.map_id l]
      exact List.map_congr_left fun b hb => strike1_same (h b hb)
    · rename_i f l
      simp only [keepsV, List.all_eq_true] at h
      rw [strike_clo]
      congr 1
      conv => rhs; rw [← List.map_id l]
      exact List.map_congr_left fun b hb => strike1_same (h b hb)

theorem strike1_old (ks : List (Nat × KM)) (o t : Nat) (d : D) : strike1 ks (.old o t d) = .old o t d ∨ strike1 ks (.old o t d) = .dead := by
  induction ks with
  | nil => exact .inl rfl
  | cons k ks ih =>
    simp only [strike1]
    rcases fall1_cases k.1 k.2 (.old o t d) with e | e | ⟨hm, t', x, e⟩
    · rw [e]; exact ih
    · rw [e, strike1_dead]; exact .inr rfl
    · cases hk : k.2 <;> rw [hk] at hm e <;> simp [KM.app?] at hm
      simp only [fall1] at e
      cases hb : Nat.beq k.1 o <;> rw [hb] at e <;> simp at e
      simp only [fall1, hb, cond_false]
      exact ih

theorem strike1_kept {ks : List (Nat × KM)} {a : AV} (hl : (strike1 ks a).live1 = true) (ha : ∀ k ∈ ks, k.2.app? = true → k.1 ∉ (strike1 ks a).refs1) : strike1 ks a = a := by
  induction ks generalizing a with
  | nil => rfl
  | cons k ks ih =>
    simp only [strike1] at hl ha ⊢
    rcases fall1_cases k.1 k.2 a with e | e | ⟨hm, t, x, e⟩
    · rw [e] at hl ha ⊢
      exact ih hl fun k' hk' => ha k' (List.mem_cons_of_mem _ hk')
    · rw [e, strike1_dead] at hl
      cases hl
    · exfalso
      have h2 := ha k (by simp) hm
      rw [e] at hl h2
      rcases strike1_old ks k.1 t x with e2 | e2
      · rw [e2] at h2; simp [AV.refs1] at h2
      · rw [e2] at hl; cases hl

theorem strike_kept {ks : List (Nat × KM)} {a : AV} (h : keptV ks (strike ks a) = true) : strike ks a = a := by
  simp only [keptV, Bool.and_eq_true, List.all_eq_true, Bool.or_eq_true, Bool.not_eq_true', List.any_eq_false, beq_iff] at h
  obtain ⟨h1, h2⟩ := h
  have h3 : ∀ k ∈ ks, k.2.app? = true → k.1 ∉ (strike ks a).refs := fun k hk hm hr => by
    rcases h2 k hk with h | h
    · rw [hm] at h; cases h
    · exact h k.1 hr rfl
  by_cases hf : a.flatA = true
  · obtain ⟨e1, e2⟩ := strike_flat ks hf
    rw [e1] at h1 h3 ⊢
    refine strike1_kept ?_ fun k hk hm => ?_
    · generalize strike1 ks a = b at h1 e2
      cases b <;> first | exact h1 | simp [AV.flatA] at e2
    · have := h3 k hk hm
      rw [refs_flat e2] at this
      exact this
  · cases a <;> first | simp [AV.flatA] at hf; done | skip
    · rename_i l
      rw [strike_tup] at h1 h3 ⊢
      simp only [AV.live, List.all_eq_true, List.mem_map] at h1
      congr 1
      conv => rhs; rw [← List.map_id l]
      refine List.map_congr_left fun b hb => strike1_kept (h1 _ ⟨b, hb, rfl⟩) fun k hk hm hr => h3 k hk hm ?_
      simp only [AV.refs, List.mem_flatMap, List.mem_map]
      exact ⟨_, ⟨b, hb, rfl⟩, hr⟩
    · rename_i f l
      rw [strike_clo] at h1 h3 ⊢
      simp only [AV.live, List.all_eq_true, List.mem_map] at h1
      congr 1
      conv => rhs; rw [← List.map_id l]
      refine List.map_congr_left fun b hb => strike1_kept (h1 _ ⟨b, hb, rfl⟩) fun k hk hm hr => h3 k hk hm ?_
      simp only [AV.refs, List.mem_flatMap, List.mem_map]
      exact ⟨_, ⟨b, hb, rfl⟩, hr⟩

theorem app?_eq {m : KM} (h : m.app? = false) : m.isApp = false := by cases m <;> first | rfl | cases h

theorem strike1_comm {ks ls : List (Nat × KM)} (hk : ∀ k ∈ ks, k.2.app? = false) (hl : ∀ k ∈ ls, k.2.app? = false) (a : AV) : strike1 ks (strike1 ls a) = strike1 ls (strike1 ks a) := by
  have h1 := strike1_or ks a fun k h => .inl (app?_eq (hk k h))
  have h2 := strike1_or ls a fun k h => .inl (app?_eq (hl k h))
  rcases h1 with h1 | ⟨h1, _⟩ <;> rcases h2 with h2 | ⟨h2, _⟩ <;> rw [h1, h2] <;> simp only [strike1_dead, h1, h2]
theorem fall1_cases' (o : Nat) (m : KM) (a : AV) : fall1 o m a = a ∨ fall1 o m a = .dead ∨ ∃ t x, a = .val o [] t ∧ fall1 o m a = .old o t x := by
  cases m <;> cases a <;> first
    | exact .inl rfl
    | (simp only [fall1]; rcases cond_or (Nat.beq _ _ : Bool) _ _ with h | h <;> first | exact .inl h | exact .inr (.inl h))
    | (simp only [fall1]; rcases cond_or _ _ _ with h | h <;> first | exact .inl h | exact .inr (.inl h))
    | skip
  rename_i x o' p t
  simp only [fall1]
  cases hb : Nat.beq o o' with
  | false => exact .inl rfl
  | true =>
    cases p with
    | nil =>
      have := beq_iff.1 hb
      subst this
      exact .inr (.inr ⟨t, x, rfl, rfl⟩)
    | cons z p => exact .inr (.inl rfl)
theorem beq_ne {a b : Nat} (h : a ≠ b) : Nat.beq a b = false := by
  cases e : Nat.beq a b with
  | false => rfl
  | true => exact absurd (beq_iff.1 e) h
theorem fall1_dead (o : Nat) (m : KM) : fall1 o m .dead = .dead := by cases m <;> rfl
theorem fall1_old {o q : Nat} (h : o ≠ q) (m : KM) (t : Nat) (d : D) : fall1 o m (.old q t d) = .old q t d := by
  cases m <;> simp only [fall1, beq_ne h, Bool.false_and, cond_false]
theorem fall1_val {o q : Nat} (h : o ≠ q) (m : KM) (t : Nat) : fall1 o m (.val q [] t) = .val q [] t := by
  cases m <;> simp only [fall1, beq_ne h, Bool.false_and, Bool.or_false, cond_false]
/-- What falls by one object and by another, falls in any order. -/
theorem fall1_comm {o q : Nat} (hne : o ≠ q) (m n : KM) (a : AV) : fall1 o m (fall1 q n a) = fall1 q n (fall1 o m a) := by
  rcases fall1_cases' o m a with h1 | h1 | ⟨t, x, rfl, h1⟩
  · rcases fall1_cases' q n a with h2 | h2 | ⟨t, x, rfl, h2⟩
    · rw [h2, h1, h2]
    · rw [h2, h1, h2, fall1_dead]
    · rw [h1, h2, fall1_old hne]
  · rcases fall1_cases' q n a with h2 | h2 | ⟨t, x, rfl, h2⟩
    · rw [h2, h1, fall1_dead]
    · rw [h2, h1, fall1_dead, fall1_dead]
    · rw [fall1_val hne] at h1; cases h1
  · rw [fall1_val fun h => hne h.symm, h1, fall1_old fun h => hne h.symm]
theorem fall1_strike1 {k : Nat × KM} {ls : List (Nat × KM)} (h : ∀ l ∈ ls, k.1 ≠ l.1) : ∀ a, fall1 k.1 k.2 (strike1 ls a) = strike1 ls (fall1 k.1 k.2 a) := by
  induction ls with
  | nil => intro a; rfl
  | cons l ls ih =>
    intro a
    simp only [strike1]
    rw [ih (fun l hl => h l (by simp [hl])), fall1_comm (h l (by simp))]
theorem strike1_comm' {ks ls : List (Nat × KM)} (h : ∀ k ∈ ks, ∀ l ∈ ls, k.1 ≠ l.1) : ∀ a, strike1 ks (strike1 ls a) = strike1 ls (strike1 ks a) := by
  induction ks with
  | nil => intro a; rfl
  | cons k ks ih =>
    intro a
    simp only [strike1]
    rw [fall1_strike1 (h k (by simp)), ih fun k hk => h k (by simp [hk])]
theorem strike_of1 {ks ls : List (Nat × KM)} (key : ∀ a, strike1 ks (strike1 ls a) = strike1 ls (strike1 ks a)) (a : AV) : strike ks (strike ls a) = strike ls (strike ks a) := by
  by_cases hf : a.flatA = true
  · obtain ⟨e1, e2⟩ := strike_flat ls hf
    obtain ⟨e3, e4⟩ := strike_flat ks hf
    rw [e1, e3, (strike_flat ks e2).1, (strike_flat ls e4).1]
    exact key a
  · cases a <;> first | simp [AV.flatA] at hf; done | skip
    · rename_i l
      simp only [strike_tup, List.map_map]
      congr 1
      exact List.map_congr_left fun b _ => key b
    · rename_i f l
      simp only [strike_clo, List.map_map]
      congr 1
      exact List.map_congr_left fun b _ => key b
theorem strike_comm {ks ls : List (Nat × KM)} (h : ks = [] ∨ ls = [] ∨ ((∀ k ∈ ks, k.2.app? = false) ∧ ∀ k ∈ ls, k.2.app? = false) ∨ ∀ k ∈ ks, ∀ l ∈ ls, k.1 ≠ l.1) (a : AV) : strike ks (strike ls a) = strike ls (strike ks a) := by
  rcases h with rfl | rfl | ⟨hk, hl⟩ | hd
  · rfl
  · rfl
  · exact strike_of1 (strike1_comm hk hl) a
  · exact strike_of1 (strike1_comm' hd) a

/-- States that look alike. -/
def EqSt (g g' : St) : Prop := look g.sl = look g'.sl ∧ lookO g.ob = lookO g'.ob
theorem EqSt.av {g g' : St} (h : EqSt g g') : g.av = g'.av := by
  funext x
  cases x <;> simp only [St.av, h.1]
theorem look_app (g : St) (dst : Option Nat) (δ : Dl) (s : Nat) : look (g.app dst δ).sl s = if dst = some s then δ.v else strike δ.ks (look g.sl s) := by
  cases dst with
  | none => rw [if_neg (by simp)]; exact look_strikes δ.ks g.sl s
  | some d =>
    show look ((d, δ.v) :: strikes δ.ks g.sl) s = _
    rw [look_cons]
    by_cases e : d = s
    · rw [if_pos e, if_pos (by rw [e])]
    · rw [if_neg e, if_neg (fun h => e (Option.some.inj h)), look_strikes]
theorem lookO_app (g : St) (dst : Option Nat) (δ : Dl) (c : Nat) : lookO (g.app dst δ).ob c = upO δ.os (lookO g.ob) c := lookO_append δ.os g.ob c
theorem EqSt.app {g g' : St} (h : EqSt g g') (dst : Option Nat) (δ : Dl) : EqSt (g.app dst δ) (g'.app dst δ) :=
  ⟨funext fun s => by rw [look_app, look_app, h.1], funext fun c => by rw [lookO_app, lookO_app, h.2]⟩
theorem EqSt.know {g g' : St} (h : EqSt g g') (s : Nat) (b : Bool) : EqSt (g.know s b) (g'.know s b) :=
  ⟨funext fun k => by simp only [St.know]; rw [look_cons, look_cons, h.1], h.2⟩
theorem EqSt.symm {g g' : St} (h : EqSt g g') : EqSt g' g := ⟨h.1.symm, h.2.symm⟩

def Closed (K : St → Prop) : Prop := ∀ g g', EqSt g g' → K g → K g'

section
variable {H : Hnd} {f : Nat}

theorem turn_eqSt {ops : Array Oper} {o : Oper} {g g' : St} {K K' : Bool → St → Dl → Prop} (hM : HndM H) (hK : ∀ r g g' δ, EqSt g g' → K r g δ → K' r g' δ) (he : EqSt g g') (h : g.turn P A H f ops o K) : g'.turn P A H f ops o K' := by
  unfold St.turn at h ⊢
  split
  · rename_i hg
    rw [hg] at h
    simp only at h
    rw [← he.av, ← he.2]
    exact stepD_mono hM (fun δ hδ => hK _ _ _ _ he hδ) h
  · rename_i j want hg
    rw [hg] at h
    simp only at h
    split
    · rename_i s hs
      rw [hs] at h
      simp only at h
      rw [← he.1]
      split
      · rename_i t d hl
        rw [hl] at h
        simp only at h
        revert h
        rw [← (he.know s true).av, ← (he.know s false).av, ← he.2]
        simp only [cond_eq]
        repeat' split
        all_goals first | exact id | exact stepD_mono hM (fun δ hδ => hK _ _ _ _ (he.know s _) hδ) | exact hK _ _ _ _ (he.know s _)
      · rename_i hl
        rw [hl] at h
        exact hK _ _ _ _ he h
      · rename_i h1 h2
        split at h
        · rename_i t d hl; exact absurd hl (h1 t d)
        · rename_i hl; exact absurd hl h2
        · exact h
    · rename_i hs; rw [hs] at h; exact h

theorem wpD_eq (hM : HndM H) {ops : Array Oper} {K : St → Prop} (hK : Closed K) : ∀ (l : List Nat) (fps : List FP) (g g' : St), EqSt g g' → wpD P A H f ops l fps g K → wpD P A H f ops l fps g' K
  | [], fps, g, g', he, h => hK g g' he h
  | i :: l, fps, g, g', he, h => by
    simp only [wpD] at h ⊢
    split
    · rename_i ho; rw [ho] at h; exact wpD_eq hM hK l fps g g' he h
    · rename_i o ho
      rw [ho] at h
      simp only at h
      obtain ⟨h1, h2⟩ := of_cond h
      rw [h1, cond_true]
      refine turn_eqSt hM (fun r g1 g2 δ he' hδ => ?_) he h2
      obtain ⟨h3, h4⟩ := of_cond hδ
      rw [← he'.av, h3, cond_true]
      exact wpD_eq hM hK l _ _ _ (he'.app o.dst δ) h4

end
end Go.Ab

/- A slice is taken out of a field: whoever looks at another field does not see it. -/
namespace Go.Ab
variable {P : Program} {A : Ann}

/-- An object that has lost something at field 'j', and nothing else. -/
def Soft (q j : Nat) (ob ob' : Nat → Option Obj) : Prop := ∃ x sh', ob q = some x ∧ ob' q = some { x with sh := sh' } ∧ ∀ i, i ≠ j → sh'.fld i = x.sh.fld i

section
variable {ob ob' : Nat → Option Obj} {H : Hnd} {f : Nat}

theorem hole_fld {s s' : Sh} {j : Nat} {p : Pth} (h : s.hole (.fld j :: p) = some s') {i : Nat} (hi : i ≠ j) : s'.fld i = s.fld i := by
  simp only [Sh.hole] at h
  split at h <;> try contradiction
  split at h <;> try contradiction
  rw [Sh.setFld_fld h, if_neg hi]

theorem appendD_soft {d t q j u : Nat} {p : Pth} {y : AV} {K : Dl → Prop} (hd : q ≠ d) (h : appendD P ob d t (.val q (.fld j :: p) u) y K) : appendD P ob d t (.val q (.fld j :: p) u) y fun δ => K δ ∧ Soft q j ob (upO δ.os ob) := by
  unfold appendD at h ⊢
  simp only [norm, cond_eq] at h ⊢
  revert h
  repeat' split
  all_goals first
    | exact id
    | (rename_i x hx _ _ _ _ _ sh hh _
       intro h
       refine ⟨h.1, h.2, x, sh, hx, ?_, fun i hi => hole_fld hh hi⟩
       have e1 : Nat.beq d q = false := beq_ne fun e => hd e.symm
       have e2 : Nat.beq q d = false := beq_ne hd
       have e3 : Nat.beq q q = true := beq_iff.2 rfl
       simp [upO, newO, findO, e1, e2, e3, hd, Ne.symm hd])

theorem stepD_soft {o : Oper} {av : Operand → AV} {q j : Nat} {K : Dl → Prop} (hs : softW av o = some (q, j)) (h : stepD P A H f o av ob K) : stepD P A H f o av ob fun δ => K δ ∧ Soft q j ob (upO δ.os ob) := by
  unfold softW at hs
  split at hs <;> try contradiction
  rename_i c hop
  split at hs <;> try contradiction
  rename_i hc
  split at hs <;> try contradiction
  rename_i x y hx
  split at hs <;> try contradiction
  rename_i q' j' p u d hav hd
  rw [cond_eq] at hs
  split at hs <;> try contradiction
  rename_i hne
  simp only [Option.some.injEq, Prod.mk.injEq] at hs
  obtain ⟨rfl, rfl⟩ := hs
  unfold stepD at h ⊢
  rw [hop] at h ⊢
  simp only [hc, hd, hx] at h ⊢
  split at h <;> try contradiction
  rename_i e1 e2 e3
  simp only [Option.some.injEq, List.cons.injEq, and_true] at e1 e3
  obtain ⟨rfl, rfl⟩ := e3
  subst e1
  simp only [cond_eq] at h ⊢
  split at h <;> try contradiction
  rename_i hg
  rw [if_pos hg]
  rw [hav] at h ⊢
  exact appendD_soft (fun e => hne (beq_iff.2 e)) h

theorem stepD_see {o : Oper} {av : Operand → AV} {q j : Nat} {i : Option Nat} {K : Dl → Prop} (hs : softR av o.op = some (q, i)) (hi : ∀ k, i = some k → k ≠ j) (h : Soft q j ob ob') : stepD P A H f o av ob' K = stepD P A H f o av ob K := by
  obtain ⟨x, sh', h1, h2, h3⟩ := h
  unfold softR at hs
  unfold stepD
  split at hs <;> try contradiction
  · rename_i y hop
    split at hs <;> try contradiction
    rename_i q' p u hav
    simp only [Option.some.injEq, Prod.mk.injEq] at hs
    obtain ⟨rfl, _⟩ := hs
    rw [hop]
    simp only [hav, h1, h2]
  · rename_i s y k hop
    split at hs <;> try contradiction
    rename_i q' p u hav
    simp only [Option.some.injEq, Prod.mk.injEq] at hs
    obtain ⟨rfl, _⟩ := hs
    rw [hop]
    simp only [hav, fieldD, h1, h2]
  · rename_i t y hop
    split at hs <;> try contradiction
    rename_i q' k p u hav
    simp only [Option.some.injEq, Prod.mk.injEq] at hs
    obtain ⟨rfl, rfl⟩ := hs
    have hg : sh'.get (.fld k :: p) = x.sh.get (.fld k :: p) := by
      simp only [Sh.get, h3 k (hi k rfl)]
    rw [hop]
    simp only [hav, loadD, h1, h2, hg]

end
end Go.Ab

/- Orders that are drawn. -/
namespace Go.Ab
variable {P : Program} {A : Ann}

section
variable {H : Hnd} {f : Nat}

theorem inD_iff {d : Option Nat} {l : List Nat} (h : inD d l = false) : ∀ k, d = some k → k ∉ l := by
  rintro k rfl hm
  simp only [inD, List.any_eq_false, beq_iff] at h
  exact h k hm rfl

theorem mem_slots {o : Oper} {s : Nat} (h : Operand.tmp s ∈ o.op.operands.toList) : s ∈ opSlots o := by
  unfold opSlots
  exact List.mem_filterMap.2 ⟨_, h, rfl⟩

theorem mem_slotsR {r : Bool} {o : Oper} {s : Nat} (h : Operand.tmp s ∈ opnds r o) : s ∈ slotsR r o := by
  cases r with
  | false => simp [opnds] at h
  | true => exact mem_slots h

/-- A rule of an operation that runs, or does not. -/
def stpD (P : Program) (A : Ann) (H : Hnd) (f : Nat) (r : Bool) (o : Oper) (av : Operand → AV) (ob : Nat → Option Obj) (K : Dl → Prop) : Prop := cond r (stepD P A H f o av ob K) (K { v := .und })

theorem stpD_mono (hM : HndM H) {r : Bool} {o : Oper} {av : Operand → AV} {ob : Nat → Option Obj} {K K' : Dl → Prop} (hK : ∀ v, K v → K' v) : stpD P A H f r o av ob K → stpD P A H f r o av ob K' := by
  cases r with
  | false => exact hK _
  | true => exact stepD_mono hM hK
theorem stpD_ex (hM : HndM H) {r : Bool} {o : Oper} {av : Operand → AV} {ob : Nat → Option Obj} {K : Dl → Prop} : stpD P A H f r o av ob K → ∃ δ, K δ := by
  cases r with
  | false => exact fun h => ⟨_, h⟩
  | true => exact stepD_ex hM
theorem stpD_local {r : Bool} {o : Oper} {av av' : Operand → AV} {ob ob' : Nat → Option Obj} (hl : locR P r o = true) (hnest : ∀ x ∈ opnds r o, (av x).nest = true) (hav : ∀ x ∈ opnds r o, av x = av' x) (hob : ∀ c ∈ refsR r o av, ob c = ob' c) (K : Dl → Prop) :
    stpD P A H f r o av ob K = stpD P A H f r o av' ob' K := by
  cases r with
  | false => rfl
  | true => exact stepD_local (by simpa [locR] using hl) hnest hav hob K
theorem stpD_det {r : Bool} {o : Oper} {av : Operand → AV} {ob : Nat → Option Obj} (hs : simR P r o = true) : Det fun K : Dl → Prop => stpD P A H f r o av ob K := by
  cases r with
  | false => exact Det.pure _
  | true => exact stepD_det (by simpa [simR] using hs)

/-- What two operations that may change places keep to. -/
structure Ind (P : Program) (rj ri : Bool) (oj oi : Oper) (av av1 : Operand → AV) (δj δi : Dl) : Prop where
  locj : locR P rj oj = true
  loci : locR P ri oi = true
  sim : simR P rj oj = true ∨ simR P ri oi = true
  d1 : ∀ k, oj.dst = some k → k ∉ slotsR ri oi
  d2 : ∀ k, oi.dst = some k → k ∉ slotsR rj oj
  d3 : ∀ k, oj.dst = some k → oi.dst ≠ some k
  o1 : ∀ c ∈ refsR ri oi av1, c ∉ δj.os.map (·.1) ∨ softOk (cond rj (softW av oj) none) (cond ri (softR av1 oi.op) none) c = true
  o2 : ∀ c ∈ refsR rj oj av, c ∉ δi.os.map (·.1)
  o3 : ∀ c ∈ δj.os.map (·.1), c ∉ δi.os.map (·.1)
  ks : δj.ks = [] ∨ δi.ks = [] ∨ ((∀ k ∈ δj.ks, k.2.app? = false) ∧ ∀ k ∈ δi.ks, k.2.app? = false) ∨ ∀ k ∈ δj.ks, ∀ l ∈ δi.ks, k.1 ≠ l.1
  kept : ∀ x ∈ opnds ri oi, keptV δj.ks (av1 x) = true
  keeps : ∀ x ∈ opnds rj oj, keepsV δi.ks (av x) = true
  vi : keepsV δj.ks δi.v = true
  vj : keepsV δi.ks δj.v = true
  nj : ∀ x ∈ opnds rj oj, (av x).nest = true
  ni : ∀ x ∈ opnds ri oi, (av1 x).nest = true

/-- What guards keep to. -/
structure Gds (ops : Array Oper) (rj ri : Bool) (oj oi : Oper) : Prop where
  g1 : ∀ s, gslot ops oj = some s → oi.dst ≠ some s
  g2 : ∀ s, gslot ops oi = some s → oj.dst ≠ some s
  g3 : ∀ s, gslot ops oj = some s → s ∈ slotsR ri oi → gslot ops oi = some s
  g4 : ∀ s, gslot ops oi = some s → s ∈ slotsR rj oj → gslot ops oj = some s

theorem gOk_iff {a b : FP} (h : gOk a b = true) : ∀ s, a.gs = some s → b.dst ≠ some s ∧ (s ∈ b.sl → b.gs = some s) := by
  intro s hs
  simp only [gOk, hs, Bool.and_eq_true, Bool.or_eq_true, Bool.not_eq_true'] at h
  refine ⟨fun e => inD_iff h.1 s e (by simp), fun hm => ?_⟩
  rcases h.2 with h2 | h2
  · rw [List.any_eq_false] at h2
    exact absurd (by simp) (h2 s hm)
  · cases hb : b.gs with
    | none => rw [hb] at h2; simp at h2
    | some s' => rw [hb] at h2; simp only [beq_iff] at h2; rw [h2]

theorem ind_of {ops : Array Oper} {rj ri : Bool} {oj oi : Oper} {j i : Nat} {av av1 : Operand → AV} {δj δi : Dl} (h : indep (mkFP P ops j rj oj av δj) (mkFP P ops i ri oi av1 δi) = true) : Ind P rj ri oj oi av av1 δj δi ∧ Gds ops rj ri oj oi := by
  simp only [indep, Bool.and_eq_true, Bool.not_eq_true', List.all_eq_true, List.mem_map, Bool.or_eq_true, List.isEmpty_iff, List.any_eq_false] at h
  obtain ⟨⟨⟨⟨⟨⟨⟨⟨⟨⟨⟨⟨⟨⟨⟨⟨⟨h1, h2⟩, h3⟩, h4⟩, h5⟩, h6⟩, h7⟩, h8⟩, h9⟩, h10⟩, h11⟩, h12⟩, h13⟩, h14⟩, h15⟩, h16⟩, h17⟩, h18⟩ := h
  have hro : ∀ (m l : List Nat), apartB l m = true → ∀ c ∈ m, c ∉ l := fun m l h c hc hl => apartB_iff h c hl hc
  have ho1 : ∀ c ∈ refsR ri oi av1, c ∉ δj.os.map (·.1) ∨ softOk (cond rj (softW av oj) none) (cond ri (softR av1 oi.op) none) c = true := fun c hc => by
    rcases h9 c hc with h | h
    · exact .inl fun hm => h c hm (beq_iff.2 rfl)
    · exact .inr h
  refine ⟨⟨h3, h4, h5, inD_iff h6, inD_iff h7, fun k hk e => inD_iff h8 k hk (by show k ∈ oi.dst.toList; rw [e]; simp), ho1, hro _ _ h10, apartB_iff h11, ?_, fun x hx => h13 _ (List.mem_map.2 ⟨x, hx, rfl⟩), fun x hx => h14 _ (List.mem_map.2 ⟨x, hx, rfl⟩), h15, h16, fun x hx => h17 _ (List.mem_map.2 ⟨x, hx, rfl⟩), fun x hx => h18 _ (List.mem_map.2 ⟨x, hx, rfl⟩)⟩,
    ⟨fun s hs => (gOk_iff h1 s hs).1, fun s hs => (gOk_iff h2 s hs).1, fun s hs => (gOk_iff h1 s hs).2, fun s hs => (gOk_iff h2 s hs).2⟩⟩
  rcases h12 with ((h | h) | ⟨h, h'⟩) | h
  · exact .inl h
  · exact .inr (.inl h)
  · exact .inr (.inr (.inl ⟨fun k hk => by have := h k hk; simpa using this, fun k hk => by have := h' k hk; simpa using this⟩))
  · exact .inr (.inr (.inr fun k hk l hl e => apartB_iff h k.1 (List.mem_map.2 ⟨k, hk, rfl⟩) (List.mem_map.2 ⟨l, hl, e.symm⟩)))

theorem findO_not {os : Objs} {c : Nat} (h : c ∉ os.map (·.1)) : findO os c = none := by
  cases e : findO os c with
  | none => rfl
  | some x => exact absurd (findO_mem e) h

theorem upO_not {os : Objs} {ob : Nat → Option Obj} {c : Nat} (h : c ∉ os.map (·.1)) : upO os ob c = ob c := by
  simp only [upO, findO_not h]; rfl

theorem stpD_soft (hM : HndM H) {r : Bool} {o : Oper} {av : Operand → AV} {ob : Nat → Option Obj} {K : Dl → Prop} (h : stpD P A H f r o av ob K) : stpD P A H f r o av ob fun δ => K δ ∧ ∀ q j, cond r (softW av o) none = some (q, j) → Soft q j ob (upO δ.os ob) := by
  cases r with
  | false => exact ⟨h, fun _ _ e => by cases e⟩
  | true =>
    unfold stpD at h ⊢
    simp only [cond_true] at h ⊢
    cases hs : softW av o with
    | none => exact stepD_mono hM (fun δ hδ => ⟨hδ, fun _ _ e => by cases e⟩) h
    | some qj =>
      obtain ⟨q, j⟩ := qj
      refine stepD_mono hM (fun δ hδ => ⟨hδ.1, fun q' j' e => ?_⟩) (stepD_soft hs h)
      simp only [Option.some.injEq, Prod.mk.injEq] at e
      obtain ⟨rfl, rfl⟩ := e
      exact hδ.2

theorem Ind.see1 {rj ri : Bool} {oj oi : Oper} {g : St} {δj δi : Dl} (h : Ind P rj ri oj oi g.av (g.app oj.dst δj).av δj δi) : ∀ x ∈ opnds ri oi, (g.app oj.dst δj).av x = g.av x := fun x hx => by
  cases x with
  | tmp s =>
    have hs := mem_slotsR hx
    have hne : oj.dst ≠ some s := fun e => h.d1 s e hs
    have e : (g.app oj.dst δj).av (.tmp s) = strike δj.ks (look g.sl s) := by
      show look (g.app oj.dst δj).sl s = _
      rw [look_app, if_neg hne]
    have hk := h.kept _ hx
    rw [e] at hk ⊢
    exact strike_kept hk
  | const v => rfl
  | func f => rfl
  | global q => rfl
/-- The later one sees the same before. -/
theorem Ind.seeI {rj ri : Bool} {oj oi : Oper} {g : St} {δj δi : Dl} (h : Ind P rj ri oj oi g.av (g.app oj.dst δj).av δj δi) (hs : ∀ q j, cond rj (softW g.av oj) none = some (q, j) → Soft q j (lookO g.ob) (upO δj.os (lookO g.ob))) :
    (∀ x ∈ opnds ri oi, (g.app oj.dst δj).av x = g.av x) ∧ ∀ K, stpD P A H f ri oi (g.app oj.dst δj).av (lookO (g.app oj.dst δj).ob) K = stpD P A H f ri oi g.av (lookO g.ob) K := by
  have s1 := h.see1
  refine ⟨s1, fun K => ?_⟩
  have hob : lookO (g.app oj.dst δj).ob = upO δj.os (lookO g.ob) := funext fun c => lookO_app g oj.dst δj c
  by_cases hall : ∀ c ∈ refsR ri oi (g.app oj.dst δj).av, c ∉ δj.os.map (·.1)
  · exact stpD_local h.loci h.ni s1 (fun c hc => by rw [hob, upO_not (hall c hc)]) K
  · have hex : ∃ c, c ∈ refsR ri oi (g.app oj.dst δj).av ∧ c ∈ δj.os.map (·.1) := by
      apply Classical.byContradiction
      intro hn
      exact hall fun c hc hm => hn ⟨c, hc, hm⟩
    obtain ⟨c, hc, hm⟩ := hex
    have hso := (h.o1 c hc).resolve_left fun hn => hn hm
    unfold softOk at hso
    split at hso <;> try contradiction
    rename_i q j q' i h1 h2
    simp only [Bool.and_eq_true, beq_iff] at hso
    obtain ⟨e1, e2, h3⟩ := hso
    have hS := hs q j h1
    rw [e1, ← e2] at hS
    cases ri with
    | false => cases h2
    | true =>
      have hi : ∀ k, i = some k → k ≠ j := fun k hk e => by
        subst hk
        simp only [e, Bool.not_eq_true', beq_iff.2 rfl] at h3
        cases h3
      show stepD P A H f oi (g.app oj.dst δj).av (lookO (g.app oj.dst δj).ob) K = stepD P A H f oi g.av (lookO g.ob) K
      rw [hob, stepD_see (H := H) (f := f) (K := K) h2 hi hS]
      exact stepD_local (by simpa [locR] using h.loci) h.ni s1 (fun _ _ => rfl) K

/-- The earlier one sees the same behind. -/
theorem Ind.seeJ {rj ri : Bool} {oj oi : Oper} {g : St} {av1 : Operand → AV} {δj δi : Dl} (h : Ind P rj ri oj oi g.av av1 δj δi) : (∀ x ∈ opnds rj oj, (g.app oi.dst δi).av x = g.av x) ∧ (∀ c ∈ refsR rj oj g.av, lookO (g.app oi.dst δi).ob c = lookO g.ob c) := by
  refine ⟨fun x hx => ?_, fun c hc => by rw [lookO_app, upO_not (h.o2 c hc)]⟩
  cases x with
  | tmp s =>
    have hs := mem_slotsR hx
    have hne : oi.dst ≠ some s := fun e => h.d2 s e hs
    show look (g.app oi.dst δi).sl s = look g.sl s
    rw [look_app, if_neg hne]
    exact strike_same (h.keeps _ hx)
  | const v => rfl
  | func f => rfl
  | global q => rfl

theorem Ind.states {rj ri : Bool} {oj oi : Oper} {g : St} {av av1 : Operand → AV} {δj δi : Dl} (h : Ind P rj ri oj oi av av1 δj δi) : EqSt ((g.app oj.dst δj).app oi.dst δi) ((g.app oi.dst δi).app oj.dst δj) := by
  refine ⟨funext fun s => ?_, funext fun c => ?_⟩
  · simp only [look_app]
    by_cases e1 : oi.dst = some s
    · have e2 : oj.dst ≠ some s := fun e => h.d3 s e e1
      rw [if_pos e1, if_neg e2, if_pos e1, strike_same h.vi]
    · rw [if_neg e1]
      by_cases e2 : oj.dst = some s
      · rw [if_pos e2, if_pos e2, strike_same h.vj]
      · rw [if_neg e2, if_neg e2, if_neg e1]
        refine strike_comm ?_ _
        rcases h.ks with h | h | ⟨h, h'⟩ | h
        · exact .inr (.inl h)
        · exact .inl h
        · exact .inr (.inr (.inl ⟨h', h⟩))
        · exact .inr (.inr (.inr fun k hk l hl e => h l hl k hk e.symm))
  · simp only [lookO_app]
    show upO δi.os (lookO (g.app oj.dst δj).ob) c = upO δj.os (lookO (g.app oi.dst δi).ob) c
    unfold upO
    rw [lookO_app, lookO_app]
    unfold upO
    cases e1 : findO δi.os c with
    | none => cases e2 : findO δj.os c <;> rfl
    | some x =>
      have : findO δj.os c = none := findO_not fun hm => h.o3 c hm (findO_mem e1)
      rw [this]
      rfl

theorem opRefs_same {op : Op} {av av' : Operand → AV} (h : ∀ x ∈ op.operands.toList, av x = av' x) : opRefs av op = opRefs av' op := by
  have h2 : (op.operands.toList.flatMap fun x => (av x).refs) = op.operands.toList.flatMap fun x => (av' x).refs := by
    rw [List.flatMap_def, List.flatMap_def]
    congr 1
    exact List.map_congr_left fun x hx => by rw [h x hx]
  cases op <;> first | rfl | exact h2 | skip
  · rename_i t x
    simp only [opRefs, h x (by simp [Op.operands])]
  · rename_i x i
    simp only [opRefs, h x (by simp [Op.operands])]
theorem refsR_same {r : Bool} {o : Oper} {av av' : Operand → AV} (h : ∀ x ∈ opnds r o, av x = av' x) : refsR r o av = refsR r o av' := by
  cases r with
  | false => rfl
  | true => exact opRefs_same h
theorem softR_same {op : Op} {av av' : Operand → AV} (h : ∀ x ∈ op.operands.toList, av x = av' x) : softR av op = softR av' op := by
  cases op with
  | nilCheck x => simp only [softR, h x (by simp [Op.operands])]
  | fieldAddr s x j => simp only [softR, h x (by simp [Op.operands])]
  | load t x => simp only [softR, h x (by simp [Op.operands])]
  | _ => rfl
theorem softW_same {o : Oper} {av av' : Operand → AV} (h : ∀ x ∈ o.op.operands.toList, av x = av' x) : softW av o = softW av' o := by
  unfold softW
  split
  · rename_i c hop
    split
    · rename_i hc
      split
      · rename_i x y hx
        have : x ∈ o.op.operands.toList := by
          have hm : x ∈ c.args.toList := by rw [hx]; simp
          rw [hop]
          simp only [Op.operands, Call.operands, hc]
          simpa using hm
        rw [h x this]
      · rfl
    · rfl
  · rfl
theorem mkFP_same {ops : Array Oper} {i : Nat} {r : Bool} {o : Oper} {av av' : Operand → AV} {δ : Dl} (h : ∀ x ∈ opnds r o, av x = av' x) : mkFP P ops i r o av δ = mkFP P ops i r o av' δ := by
  have h1 : (opnds r o).map av = (opnds r o).map av' := List.map_congr_left h
  have h2 : cond r (softR av o.op) none = cond r (softR av' o.op) none := by
    cases r with
    | false => rfl
    | true => exact softR_same h
  have h3 : cond r (softW av o) none = cond r (softW av' o) none := by
    cases r with
    | false => rfl
    | true => exact softW_same h
  simp only [mkFP, h1, refsR_same h, h2, h3]

/-- TWO OPERATIONS CHANGE PLACES. -/
theorem swap (hM : HndM H) {ops : Array Oper} {i j : Nat} {rj ri : Bool} {oi oj : Oper} {g : St} {R : Dl → Dl → St → Prop}
    (h : stpD P A H f rj oj g.av (lookO g.ob) fun δj => stpD P A H f ri oi (g.app oj.dst δj).av (lookO (g.app oj.dst δj).ob) fun δi => indep (mkFP P ops j rj oj g.av δj) (mkFP P ops i ri oi (g.app oj.dst δj).av δi) = true ∧ R δj δi ((g.app oj.dst δj).app oi.dst δi)) :
    stpD P A H f ri oi g.av (lookO g.ob) fun δi => stpD P A H f rj oj (g.app oi.dst δi).av (lookO (g.app oi.dst δi).ob) fun δj => mkFP P ops j rj oj (g.app oi.dst δi).av δj = mkFP P ops j rj oj g.av δj ∧ mkFP P ops i ri oi (g.app oj.dst δj).av δi = mkFP P ops i ri oi g.av δi ∧ ∃ g', EqSt g' ((g.app oi.dst δi).app oj.dst δj) ∧ R δj δi g' := by
  -- the later one, seen before
  have h := stpD_soft hM h
  have hI : ∀ δj, (stpD P A H f ri oi (g.app oj.dst δj).av (lookO (g.app oj.dst δj).ob) fun δi => indep (mkFP P ops j rj oj g.av δj) (mkFP P ops i ri oi (g.app oj.dst δj).av δi) = true ∧ R δj δi ((g.app oj.dst δj).app oi.dst δi)) ∧ (∀ q j, cond rj (softW g.av oj) none = some (q, j) → Soft q j (lookO g.ob) (upO δj.os (lookO g.ob))) →
      stpD P A H f ri oi g.av (lookO g.ob) fun δi => Ind P rj ri oj oi g.av (g.app oj.dst δj).av δj δi ∧ mkFP P ops i ri oi (g.app oj.dst δj).av δi = mkFP P ops i ri oi g.av δi ∧ ∃ g', EqSt g' ((g.app oi.dst δi).app oj.dst δj) ∧ R δj δi g' := fun δj ⟨h1, hso⟩ => by
    obtain ⟨δi0, h2, _⟩ := stpD_ex hM h1
    have hi := (ind_of h2).1
    obtain ⟨s1, hl⟩ := hi.seeI (A := A) (H := H) (f := f) hso
    rw [hl] at h1
    refine stpD_mono hM (fun δi hd => ?_) h1
    have hi' := (ind_of hd.1).1
    exact ⟨hi', mkFP_same s1, _, hi'.states, hd.2⟩
  have h' : stpD P A H f rj oj g.av (lookO g.ob) fun δj => stpD P A H f ri oi g.av (lookO g.ob) fun δi => Ind P rj ri oj oi g.av (g.app oj.dst δj).av δj δi ∧ mkFP P ops i ri oi (g.app oj.dst δj).av δi = mkFP P ops i ri oi g.av δi ∧ ∃ g', EqSt g' ((g.app oi.dst δi).app oj.dst δj) ∧ R δj δi g' := stpD_mono hM hI h
  -- the earlier one, seen behind
  have hJ : ∀ δj δi K, Ind P rj ri oj oi g.av (g.app oj.dst δj).av δj δi → (stpD P A H f rj oj g.av (lookO g.ob) K → stpD P A H f rj oj (g.app oi.dst δi).av (lookO (g.app oi.dst δi).ob) K) ∧ ∀ δ, mkFP P ops j rj oj (g.app oi.dst δi).av δ = mkFP P ops j rj oj g.av δ := fun δj δi K hi => by
    obtain ⟨s1, s2⟩ := hi.seeJ
    have hl := stpD_local (A := A) (H := H) (f := f) hi.locj hi.nj (fun x hx => (s1 x hx).symm) (fun c hc => (s2 c hc).symm) K
    exact ⟨fun h => hl ▸ h, fun δ => mkFP_same s1⟩
  obtain ⟨δj0, h0⟩ := stpD_ex hM h'
  obtain ⟨δi1, hi1, _⟩ := stpD_ex hM h0
  rcases hi1.sim with hs | hs
  · -- the earlier one has one outcome
    have hD := stpD_det (A := A) (H := H) (f := f) (av := g.av) (ob := lookO g.ob) hs
    obtain ⟨δj1, hT, hU⟩ := hD.one _ h'
    refine stpD_mono hM (fun δi hd => ?_) hT
    obtain ⟨j1, j2⟩ := hJ δj1 δi _ hd.1
    refine j1 (stpD_mono hM (fun δj e => ?_) hU)
    subst e
    exact ⟨j2 _, hd.2⟩
  · have hD := stpD_det (A := A) (H := H) (f := f) (av := g.av) (ob := lookO g.ob) hs
    obtain ⟨δi0, hT, hU⟩ := hD.one _ h0
    have hall : stpD P A H f rj oj g.av (lookO g.ob) fun δj => Ind P rj ri oj oi g.av (g.app oj.dst δj).av δj δi0 ∧ mkFP P ops i ri oi (g.app oj.dst δj).av δi0 = mkFP P ops i ri oi g.av δi0 ∧ ∃ g', EqSt g' ((g.app oi.dst δi0).app oj.dst δj) ∧ R δj δi0 g' := stpD_mono hM (fun δj hd => by
      obtain ⟨x, hx, e⟩ := hD.same _ _ hd hU
      subst e
      exact hx) h'
    refine stpD_mono hM (fun δi e => ?_) hU
    subst e
    obtain ⟨j1, j2⟩ := hJ δj0 _ _ hT.1
    exact j1 (stpD_mono hM (fun δj hd => ⟨j2 _, hd.2⟩) hall)

/-! Guards. -/
def goutV (P : Program) (s : Nat) (want : Bool) : AV → Option (Bool × Option (Nat × Bool))
  | .imm t d => if isB P t = true then some (d.b == want, some (s, d.b)) else none
  | .und => some (false, none)
  | _ => none
/-- A guard's outcome: does the operation run, what is known of the guard. -/
def gout (P : Program) (ops : Array Oper) (o : Oper) (g : St) : Option (Bool × Option (Nat × Bool)) := match o.guard with
  | none => some (true, none)
  | some (j, want) => match (ops[j]?).bind (·.dst) with
    | some s => goutV P s want (look g.sl s)
    | none => none
def St.kn (g : St) : Option (Nat × Bool) → St
  | none => g
  | some (s, b) => g.know s b

theorem kn_ob (g : St) (k : Option (Nat × Bool)) : (g.kn k).ob = g.ob := by
  cases k <;> rfl

theorem turn_eq {ops : Array Oper} {o : Oper} {g : St} {K : Bool → St → Dl → Prop} : g.turn P A H f ops o K = match gout P ops o g with
    | none => False
    | some (r, k) => stpD P A H f r o (g.kn k).av (lookO g.ob) fun δ => K r (g.kn k) δ := by
  unfold St.turn gout
  cases o.guard with
  | none => rfl
  | some jw =>
    obtain ⟨j, want⟩ := jw
    simp only
    cases (ops[j]?).bind (·.dst) with
    | none => rfl
    | some s =>
      simp only
      cases look g.sl s with
      | imm t d =>
        simp only [goutV]
        cases isB P t with
        | false => rfl
        | true => cases d.b <;> cases want <;> rfl
      | _ => rfl

/-- What a guard's outcome says. -/
theorem gout_inv {ops : Array Oper} {o : Oper} {g : St} {r : Bool} {s : Nat} {b : Bool} (h : gout P ops o g = some (r, some (s, b))) : gslot ops o = some s ∧ ∃ t d, look g.sl s = .imm t d ∧ b = d.b := by
  unfold gout at h
  unfold gslot
  cases hg : o.guard with
  | none => rw [hg] at h; simp at h
  | some jw =>
    obtain ⟨j, want⟩ := jw
    rw [hg] at h
    simp only at h ⊢
    cases hs : (ops[j]?).bind (·.dst) with
    | none => rw [hs] at h; cases h
    | some s' =>
      rw [hs] at h
      simp only at h
      cases hl : look g.sl s' with
      | imm t d =>
        rw [hl] at h
        simp only [goutV] at h
        split at h
        · simp only [Option.some.injEq, Prod.mk.injEq] at h
          obtain ⟨_, rfl, rfl⟩ := h
          exact ⟨rfl, t, d, hl, rfl⟩
        · cases h
      | _ => rw [hl] at h; simp [goutV] at h
theorem gout_run {ops : Array Oper} {o : Oper} {g : St} {r : Bool} {s : Nat} {k : Option (Nat × Bool)} (h : gout P ops o g = some (r, k)) (hs : gslot ops o = some s) : (∃ t d, look g.sl s = .imm t d ∧ k = some (s, d.b)) ∨ (look g.sl s = .und ∧ k = none) := by
  unfold gslot at hs
  unfold gout at h
  cases hg : o.guard with
  | none => rw [hg] at hs; cases hs
  | some jw =>
    obtain ⟨j, want⟩ := jw
    rw [hg] at h hs
    simp only at h hs
    rw [hs] at h
    simp only at h
    cases hl : look g.sl s with
    | imm t d =>
      rw [hl] at h
      simp only [goutV] at h
      split at h
      · simp only [Option.some.injEq, Prod.mk.injEq] at h
        exact .inl ⟨t, d, rfl, h.2.symm⟩
      · cases h
    | und =>
      rw [hl] at h
      simp only [goutV, Option.some.injEq, Prod.mk.injEq] at h
      exact .inr ⟨rfl, h.2.symm⟩
    | _ => rw [hl] at h; simp [goutV] at h

theorem strike_imm (t : Nat) (d : D) : ∀ ks, strike ks (.imm t d) = .imm t d
  | [] => rfl
  | k :: ks => by
    have : fall k (.imm t d) = .imm t d := by
      obtain ⟨o, m⟩ := k
      cases m <;> rfl
    rw [strike, this, strike_imm t d ks]

theorem goutV_fall (s : Nat) (want : Bool) (k : Nat × KM) (a : AV) : goutV P s want (fall k a) = goutV P s want a := by
  obtain ⟨o, m⟩ := k
  have key : ∀ a : AV, goutV P s want (fall1 o m a) = goutV P s want a := by
    intro a
    have hI : ∀ t d, fall1 o m (.imm t d) = .imm t d := fun t d => by cases m <;> rfl
    have hU : fall1 o m .und = .und := by cases m <;> rfl
    cases a with
    | imm t d => rw [hI]
    | und => rw [hU]
    | _ =>
      rcases fall1_cases o m _ with h | h | ⟨_, t, x, h⟩ <;> rw [h] <;> rfl
  cases a with
  | clo f l => rfl
  | tup l => rfl
  | _ => exact key _
theorem goutV_strike (s : Nat) (want : Bool) : ∀ (ks : List (Nat × KM)) (a : AV), goutV P s want (strike ks a) = goutV P s want a
  | [], a => rfl
  | k :: ks, a => by rw [strike, goutV_strike s want ks, goutV_fall]

theorem look_know (g : St) (s : Nat) (b : Bool) (k : Nat) : look (g.know s b).sl k = if s = k then (match look g.sl s with
    | .imm t _ => .imm t (.bool b)
    | a => a) else look g.sl k := by
  show look ((s, _) :: g.sl) k = _
  rw [look_cons]
  rfl

/-- A guard's outcome stays. -/
theorem gout_stable {ops : Array Oper} {oj oi : Oper} {g : St} {rj : Bool} {kj : Option (Nat × Bool)} (hj : gout P ops oj g = some (rj, kj)) (hd : ∀ s, gslot ops oi = some s → oj.dst ≠ some s) (δ : Dl) : gout P ops oi ((g.kn kj).app oj.dst δ) = gout P ops oi g := by
  unfold gout
  cases hg : oi.guard with
  | none => rfl
  | some jw =>
    obtain ⟨j, want⟩ := jw
    simp only
    cases hs : (ops[j]?).bind (·.dst) with
    | none => rfl
    | some s =>
      simp only
      rw [look_app, if_neg (hd s (by unfold gslot; rw [hg]; exact hs)), goutV_strike]
      cases kj with
      | none => rfl
      | some sb =>
        obtain ⟨s', b⟩ := sb
        obtain ⟨_, t, d, hl, rfl⟩ := gout_inv hj
        show goutV P s want (look (g.know s' d.b).sl s) = _
        rw [look_know]
        by_cases e : s' = s
        · subst e
          rw [if_pos rfl, hl]
          rfl
        · rw [if_neg e]

theorem kn_comm {ops : Array Oper} {oj oi : Oper} {g : St} {rj ri : Bool} {kj ki : Option (Nat × Bool)} (hj : gout P ops oj g = some (rj, kj)) (hi : gout P ops oi g = some (ri, ki)) : EqSt ((g.kn kj).kn ki) ((g.kn ki).kn kj) := by
  refine ⟨funext fun k => ?_, by rw [kn_ob, kn_ob, kn_ob, kn_ob]⟩
  cases kj with
  | none => rfl
  | some a =>
    cases ki with
    | none => rfl
    | some b =>
      obtain ⟨s, x⟩ := a
      obtain ⟨s', y⟩ := b
      obtain ⟨_, t, d, hl, rfl⟩ := gout_inv hj
      obtain ⟨_, t', d', hl', rfl⟩ := gout_inv hi
      show look ((g.know s d.b).know s' d'.b).sl k = look ((g.know s' d'.b).know s d.b).sl k
      simp only [look_know, hl, hl']
      by_cases e : s = s'
      · subst e
        rw [hl] at hl'
        injection hl' with h1 h2
        subst h1; subst h2
        rfl
      · by_cases e1 : s' = k
        · subst e1
          simp [e]
        · by_cases e2 : s = k
          · subst e2
            simp [e1]
          · simp [e1, e2]

/-- What is known of another guard does not matter. -/
theorem kn_same {ops : Array Oper} {oj oi : Oper} {g : St} {rj ri : Bool} {kj ki : Option (Nat × Bool)} (hj : gout P ops oj g = some (rj, kj)) (hi : gout P ops oi g = some (ri, ki)) (hg : ∀ s, gslot ops oi = some s → s ∈ slotsR rj oj → gslot ops oj = some s) :
    ∀ x ∈ opnds rj oj, (g.kn kj).av x = ((g.kn kj).kn ki).av x := by
  intro x hx
  cases ki with
  | none => rfl
  | some b =>
    obtain ⟨s', y⟩ := b
    obtain ⟨h1, t', d', hl', rfl⟩ := gout_inv hi
    cases x with
    | tmp s =>
      show look (g.kn kj).sl s = look ((g.kn kj).know s' d'.b).sl s
      rw [look_know]
      by_cases e : s' = s
      · subst e
        rw [if_pos rfl]
        have h2 := hg s' h1 (mem_slotsR hx)
        rcases gout_run hj h2 with ⟨t, d, h3, rfl⟩ | ⟨h3, rfl⟩
        · rw [hl'] at h3
          injection h3 with h3 h4
          subst h3; subst h4
          show look (g.know s' d'.b).sl s' = _
          rw [look_know, if_pos rfl, hl']
          show _ = match look (g.know s' d'.b).sl s' with
            | .imm t _ => AV.imm t (.bool d'.b)
            | a => a
          rw [look_know, if_pos rfl, hl']
        · rw [hl'] at h3; cases h3
      · rw [if_neg e]
    | const v => rfl
    | func f => rfl
    | global q => rfl

theorem kn_app {ops : Array Oper} {oj oi : Oper} {g : St} {rj ri : Bool} {kj ki : Option (Nat × Bool)} (hj : gout P ops oj g = some (rj, kj)) (hi : gout P ops oi g = some (ri, ki)) (hd : ∀ s, gslot ops oi = some s → oj.dst ≠ some s) (δ : Dl) :
    EqSt (((g.kn kj).app oj.dst δ).kn ki) (((g.kn kj).kn ki).app oj.dst δ) := by
  refine ⟨funext fun k => ?_, funext fun c => by rw [kn_ob, lookO_app, lookO_app, kn_ob ((g.kn kj))]⟩
  cases ki with
  | none => rfl
  | some b =>
    obtain ⟨s', y⟩ := b
    obtain ⟨h1, t', d', hl', rfl⟩ := gout_inv hi
    have hn := hd s' h1
    have hlj : ∃ z, look (g.kn kj).sl s' = .imm t' z := by
      cases kj with
      | none => exact ⟨d', hl'⟩
      | some a =>
        obtain ⟨s, x⟩ := a
        show ∃ z, look (g.know s x).sl s' = .imm t' z
        rw [look_know]
        by_cases e : s = s'
        · subst e
          rw [if_pos rfl, hl']
          exact ⟨_, rfl⟩
        · rw [if_neg e]
          exact ⟨_, hl'⟩
    obtain ⟨z, hz⟩ := hlj
    show look (((g.kn kj).app oj.dst δ).know s' d'.b).sl k = look (((g.kn kj).know s' d'.b).app oj.dst δ).sl k
    rw [look_know, look_app, look_app, look_app, look_know]
    rw [if_neg hn, hz, strike_imm]
    by_cases e : s' = k
    · subst e
      rw [if_pos rfl, if_neg hn, if_pos rfl, strike_imm]
    · rw [if_neg e, if_neg e]

/-- TWO OPERATIONS UNDER THEIR GUARDS CHANGE PLACES. -/
theorem swapG (hM : HndM H) {ops : Array Oper} {i j : Nat} {oi oj : Oper} {g : St} {R : FP → FP → St → Prop}
    (h : g.turn P A H f ops oj fun rj gj δj => (gj.app oj.dst δj).turn P A H f ops oi fun ri gi δi => indep (mkFP P ops j rj oj gj.av δj) (mkFP P ops i ri oi gi.av δi) = true ∧ R (mkFP P ops j rj oj gj.av δj) (mkFP P ops i ri oi gi.av δi) (gi.app oi.dst δi)) :
    g.turn P A H f ops oi fun ri gi δi => (gi.app oi.dst δi).turn P A H f ops oj fun rj gj δj => ∃ g', EqSt g' (gj.app oj.dst δj) ∧ R (mkFP P ops j rj oj gj.av δj) (mkFP P ops i ri oi gi.av δi) g' := by
  rw [turn_eq] at h
  cases hj : gout P ops oj g with
  | none => rw [hj] at h; exact h.elim
  | some rkj =>
    obtain ⟨rj, kj⟩ := rkj
    rw [hj] at h
    simp only at h
    obtain ⟨δj0, h0⟩ := stpD_ex hM h
    rw [turn_eq] at h0
    cases hi0 : gout P ops oi ((g.kn kj).app oj.dst δj0) with
    | none => rw [hi0] at h0; exact h0.elim
    | some rki =>
      obtain ⟨ri, ki⟩ := rki
      rw [hi0] at h0
      simp only at h0
      obtain ⟨δi0, h1, _⟩ := stpD_ex hM h0
      obtain ⟨I0, G0⟩ := ind_of h1
      have hi : gout P ops oi g = some (ri, ki) := by rw [← hi0]; exact (gout_stable hj G0.g2 δj0).symm
      have sj := kn_same hj hi G0.g4
      have si0 := kn_same hi hj G0.g3
      have cm := kn_comm hj hi
      have si : ∀ x ∈ opnds ri oi, (g.kn ki).av x = ((g.kn kj).kn ki).av x := fun x hx => by rw [si0 x hx, ← cm.av]
      have aj := fun δ => kn_app hj hi G0.g2 δ
      have ai := fun δ => kn_app hi hj G0.g1 δ
      have obG : ((g.kn kj).kn ki).ob = g.ob := by rw [kn_ob, kn_ob]
      -- all at one state
      have hA : stpD P A H f rj oj ((g.kn kj).kn ki).av (lookO ((g.kn kj).kn ki).ob) fun δj => stpD P A H f ri oi (((g.kn kj).kn ki).app oj.dst δj).av (lookO (((g.kn kj).kn ki).app oj.dst δj).ob) fun δi =>
          indep (mkFP P ops j rj oj ((g.kn kj).kn ki).av δj) (mkFP P ops i ri oi (((g.kn kj).kn ki).app oj.dst δj).av δi) = true ∧ ∃ g', EqSt g' ((((g.kn kj).kn ki).app oj.dst δj).app oi.dst δi) ∧ R (mkFP P ops j rj oj ((g.kn kj).kn ki).av δj) (mkFP P ops i ri oi (((g.kn kj).kn ki).app oj.dst δj).av δi) g' := by
        have hloc := stpD_local (P := P) (A := A) (H := H) (f := f) (ob := lookO g.ob) (ob' := lookO ((g.kn kj).kn ki).ob) I0.locj I0.nj sj (fun _ _ => by rw [obG])
        rw [← hloc]
        refine stpD_mono hM (fun δj h2 => ?_) h
        rw [turn_eq, gout_stable hj G0.g2 δj, hi] at h2
        simp only at h2
        have eo : lookO ((g.kn kj).app oj.dst δj).ob = lookO (((g.kn kj).kn ki).app oj.dst δj).ob := by
          have := (aj δj).2
          rw [kn_ob] at this
          exact this
        rw [(aj δj).av, eo] at h2
        refine stpD_mono hM (fun δi h3 => ?_) h2
        rw [mkFP_same sj] at h3
        exact ⟨h3.1, _, (aj δj).app oi.dst δi, h3.2⟩
      have hS := swap (R := fun δj δi X => ∃ g', EqSt g' X ∧ R (mkFP P ops j rj oj ((g.kn kj).kn ki).av δj) (mkFP P ops i ri oi (((g.kn kj).kn ki).app oj.dst δj).av δi) g') hM hA
      rw [turn_eq, hi]
      simp only
      have hnI : ∀ x ∈ opnds ri oi, (((g.kn kj).kn ki).av x).nest = true := fun x hx => by
        obtain ⟨δj1, h2⟩ := stpD_ex hM hA
        obtain ⟨δi1, h3, _⟩ := stpD_ex hM h2
        have I1 := (ind_of h3).1
        have := I1.ni x hx
        rw [I1.see1 x hx] at this
        exact this
      have hloc := stpD_local (P := P) (A := A) (H := H) (f := f) (ob := lookO ((g.kn kj).kn ki).ob) (ob' := lookO g.ob) I0.loci hnI (fun x hx => (si x hx).symm) (fun _ _ => by rw [obG])
      rw [← hloc]
      refine stpD_mono hM (fun δi h2 => ?_) hS
      rw [turn_eq, gout_stable hi G0.g1 δi, hj]
      simp only
      have e1 : EqSt (((g.kn ki).app oi.dst δi).kn kj) (((g.kn kj).kn ki).app oi.dst δi) := by
        have h3 := ai δi
        have h4 := cm.symm.app oi.dst δi
        exact ⟨h3.1.trans h4.1, h3.2.trans h4.2⟩
      have eo : lookO ((g.kn ki).app oi.dst δi).ob = lookO (((g.kn kj).kn ki).app oi.dst δi).ob := by
        have := e1.2
        rw [kn_ob] at this
        exact this
      rw [e1.av, eo]
      refine stpD_mono hM (fun δj h3 => ?_) h2
      obtain ⟨f1, f2, g1, he, g2, he2, hR⟩ := h3
      have e2 := e1.symm.app oj.dst δj
      refine ⟨g2, ⟨(he2.1.trans he.1).trans e2.1, (he2.2.trans he.2).trans e2.2⟩, ?_⟩
      rw [mkFP_same si, f1, ← f2]
      exact hR

/-- An operation's turn, where its rule is met. -/
def Turn (P : Program) (A : Ann) (H : Hnd) (f : Nat) (ops : Array Oper) (i : Nat) (oi : Oper) (fps : List FP) (g : St) (R : List Nat) (K : St → Prop) : Prop :=
  dstOk P A f oi.dst = true ∧ g.turn P A H f ops oi fun r g1 δi => (fps.all fun p => anc ops ops.size i p.i || indep p (mkFP P ops i r oi g1.av δi)) = true ∧ wpD P A H f ops R fps (g1.app oi.dst δi) K

/-- AN OPERATION COMES FIRST. -/
theorem front (hM : HndM H) {ops : Array Oper} {K : St → Prop} (hK : Closed K) {i : Nat} {oi : Oper} (hi : ops[i]? = some oi) : ∀ (R : List Nat) (fps : List FP) (g : St), i ∈ R → R.Nodup → (∀ j ∈ R, anc ops ops.size i j = false) → (∀ j ∈ R, j < ops.size) → wpD P A H f ops R fps g K → Turn P A H f ops i oi fps g (R.erase i) K
  | [], fps, g, hm, _, _, _, _ => by cases hm
  | j :: R, fps, g, hm, hnd, ha, hlt, h => by
    by_cases e : j = i
    · subst e
      rw [List.erase_cons_head]
      simp only [wpD, hi] at h
      obtain ⟨h1, h2⟩ := of_cond h
      refine ⟨h1, St.turn_mono hM (fun r g1 δ hδ => ?_) h2⟩
      obtain ⟨h3, h4⟩ := of_cond hδ
      exact ⟨h3, wpD_mono hM (fun _ h => h) _ _ _ _ (fun p hp => List.mem_cons_of_mem _ hp) h4⟩
    · have hm' : i ∈ R := (List.mem_cons.1 hm).resolve_left fun h => e h.symm
      have hnd' := (List.nodup_cons.1 hnd).2
      rw [List.erase_cons_tail (by simpa using e)]
      have IH := fun fps g h => front hM hK hi R fps g hm' hnd' (fun j hj => ha j (List.mem_cons_of_mem _ hj)) (fun j hj => hlt j (List.mem_cons_of_mem _ hj)) h
      have hj : ops[j]? = some ops[j]! := by
        have := hlt j (by simp)
        simp [this]
      generalize ops[j]! = oj at hj
      simp only [wpD, hj] at h
      obtain ⟨h1, h2⟩ := of_cond h
      have haj : anc ops ops.size i j = false := ha j (by simp)
      have h3 := St.turn_mono hM (K' := fun rj gj δj => (gj.app oj.dst δj).turn P A H f ops oi fun ri gi δi => indep (mkFP P ops j rj oj gj.av δj) (mkFP P ops i ri oi gi.av δi) = true ∧
        ((fps.all fun p => anc ops ops.size j p.i || indep p (mkFP P ops j rj oj gj.av δj)) = true ∧ dstOk P A f oi.dst = true ∧ (fps.all fun p => anc ops ops.size i p.i || indep p (mkFP P ops i ri oi gi.av δi)) = true ∧ wpD P A H f ops (R.erase i) (mkFP P ops j rj oj gj.av δj :: fps) (gi.app oi.dst δi) K)) (fun rj gj δj hδ => by
          obtain ⟨h3, h4⟩ := of_cond hδ
          obtain ⟨h5, h6⟩ := IH _ _ h4
          refine St.turn_mono hM (fun ri gi δi h7 => ?_) h6
          obtain ⟨h8, h9⟩ := h7
          simp only [List.all_cons, Bool.and_eq_true, Bool.or_eq_true] at h8
          refine ⟨?_, h3, h5, h8.2, h9⟩
          rcases h8.1 with h10 | h10
          · have h11 : anc ops ops.size i j = true := h10
            rw [haj] at h11; cases h11
          · exact h10) h2
      have h4 := swapG (i := i) (j := j) (R := fun fj fi g' => (fps.all fun p => anc ops ops.size j p.i || indep p fj) = true ∧ dstOk P A f oi.dst = true ∧ (fps.all fun p => anc ops ops.size i p.i || indep p fi) = true ∧ wpD P A H f ops (R.erase i) (fj :: fps) g' K) hM h3
      have hdst : dstOk P A f oi.dst = true := by
        obtain ⟨_, _, _, h5⟩ := St.turn_ex hM h4
        obtain ⟨_, _, _, g', _, h6⟩ := St.turn_ex hM h5
        exact h6.2.1
      refine ⟨hdst, St.turn_mono hM (fun ri gi δi h5 => ?_) h4⟩
      obtain ⟨_, _, _, g0, _, h6⟩ := St.turn_ex hM h5
      refine ⟨h6.2.2.1, ?_⟩
      simp only [wpD, hj]
      rw [h1, cond_true]
      refine St.turn_mono hM (fun rj gj δj h7 => ?_) h5
      obtain ⟨g', he, h8⟩ := h7
      rw [h8.1, cond_true]
      exact wpD_eq hM hK _ _ _ _ he h8.2.2.2

end
end Go.Ab

/- Regions whose order is drawn. -/
namespace Go.Ab
variable {P : Program} {A : Ann}

section
variable {H : Hnd} {f : Nat}

/-- What is left to do. -/
def leftR (ops : Array Oper) (listed : Array Bool) : List Nat := (List.range ops.size).filter fun i => !listed.getD i true

/-- What is listed has what is ahead of it listed. -/
def ClosedL (ops : Array Oper) (listed : Array Bool) : Prop := ∀ (i : Nat) (o : Oper), ops[i]? = some o → listed.getD i false = true → ∀ e ∈ o.after, Region.binds .any e = true → listed.getD e.on false = true

theorem getD_tf {listed : Array Bool} {i : Nat} (h : i < listed.size) : listed.getD i true = listed.getD i false := by
  simp [Array.getD_eq_getD_getElem?, h]

theorem anc_listed {ops : Array Oper} {listed : Array Bool} (hc : ClosedL ops listed) : ∀ (n i j : Nat), (∀ (o : Oper), ops[i]? = some o → ∀ e ∈ o.after, Region.binds .any e = true → listed.getD e.on false = true) → anc ops n i j = true → listed.getD j false = true
  | 0, i, j, _, h => by simp [anc] at h
  | n + 1, i, j, hp, h => by
    simp only [anc] at h
    split at h
    · rename_i o ho
      obtain ⟨e, he, hb⟩ := List.any_eq_true.1 h
      simp only [Bool.and_eq_true, Bool.or_eq_true, beq_iff] at hb
      have hl := hp o ho e (by simpa using he) hb.1
      rcases hb.2 with h2 | h2
      · rw [← h2]; exact hl
      · exact anc_listed hc n e.on j (fun o' ho' e' he' hb' => hc e.on o' ho' hl e' he' hb') h2
    · cases h

theorem Stands.drew {X0 Y0 : Nat → Prop} {w0 : World} {av0 : Nat → Value} {g : St} {a : Act} {w : World} (S : Stands P A X0 Y0 w0 f av0 g a w) : Stands P A X0 Y0 w0 f av0 g a { w with drawn := w.drawn + 1 } := by
  obtain ⟨⟨ph, R⟩, hA⟩ := S
  have hk : Keeps (fun _ => False) w { w with drawn := w.drawn + 1 } := ⟨rfl, rfl, rfl, Nat.le_refl _, fun _ _ _ => rfl⟩
  refine ⟨⟨ph, ⟨fun o x hx => ?_, R.objs.apart, R.objs.free, R.objs.ours, R.objs.old⟩, fun s => ?_, R.keeps.trans hk (fun _ h => h) fun _ _ h => h.elim⟩, hA⟩
  · exact OkObj.frame (w := w) (w' := { w with drawn := w.drawn + 1 }) (Nat.le_refl w.heap.size) (fun _ _ h => h) (fun _ _ _ => rfl) (R.objs.ok o x hx) fun _ _ => rfl
  · exact AVR.stays (ks := []) (w := w) (w' := { w with drawn := w.drawn + 1 }) (Nat.le_refl _) (fun _ _ h => h) (fun _ _ _ => rfl) (by simp) (fun c z hz => .same rfl rfl fun _ _ => rfl) (fun c z z' _ _ _ _ _ b _ hh => hh) (R.slots s)

theorem left_set {ops : Array Oper} {listed : Array Bool} {i : Nat} (hs : listed.size = ops.size) (hi : i ∈ leftR ops listed) : leftR ops (listed.setIfInBounds i true) = (leftR ops listed).erase i := by
  have hlt : i < ops.size := by
    have := (List.mem_filter.1 hi).1
    simpa using this
  have hnd : (leftR ops listed).Nodup := List.Pairwise.filter _ List.nodup_range
  rw [hnd.erase_eq_filter]
  unfold leftR
  rw [List.filter_filter]
  refine List.filter_congr fun j hj => ?_
  have hj' : j < ops.size := by simpa using hj
  by_cases e : j = i
  · subst e
    simp [Array.getD_eq_getD_getElem?, hs, hlt]
  · have : (listed.setIfInBounds i true).getD j true = listed.getD j true := by
      simp only [Array.getD_eq_getD_getElem?, Array.getElem?_setIfInBounds, if_neg (fun h => e (Eq.symm h))]
    rw [this]
    simp [e]

theorem any_ok (W : WF P) (hH : HndOk P A H) (hM : HndM H) {ops : Array Oper} (hf : fwdOk ops = true) {X0 Y0 : Nat → Prop} {w0 : World} {av0 : Nat → Value} {K : St → Prop} (hK : Closed K) {Q : Exit → Act → World → Prop} (hQ : ∀ g' a' w', Stands P A X0 Y0 w0 f av0 g' a' w' → K g' → Q .normal a' w') :
    ∀ (fuel : Nat) (listed : Array Bool) (g : St) (a : Act) (w : World), Stands P A X0 Y0 w0 f av0 g a w → listed.size = ops.size → ClosedL ops listed → (leftR ops listed).length ≤ fuel → wpD P A H f ops (leftR ops listed) [] g K → wpAny P .any ops Q fuel listed a w := by
  have hmem : ∀ (listed : Array Bool) (i : Nat), i ∈ Region.ready .any ops listed → i ∈ leftR ops listed := fun listed i hi => by
    obtain ⟨h1, o, ho, _⟩ := mem_ready.1 hi
    exact List.mem_filter.2 ⟨by simpa using (Array.getElem?_eq_some_iff.1 ho).1, by rw [h1]; rfl⟩
  have hempty : ∀ (listed : Array Bool), listed.size = ops.size → Region.ready .any ops listed = [] → leftR ops listed = [] := fun listed hs he => by
    cases hR : leftR ops listed with
    | nil => rfl
    | cons x R =>
      exfalso
      obtain ⟨i, hi, hmin⟩ := exists_min (p := fun i => i ∈ leftR ops listed) ⟨x, by rw [hR]; simp⟩
      have hlt : i < ops.size := by simpa using (List.mem_filter.1 hi).1
      have ho : ops[i]? = some ops[i] := by simp [hlt]
      have : i ∈ Region.ready .any ops listed := by
        refine mem_ready.2 ⟨by have := (List.mem_filter.1 hi).2; simpa using this, ops[i], ho, fun e he' hb => ?_⟩
        have h1 := List.all_eq_true.1 hf i (by simpa using hlt)
        rw [ho] at h1
        have h2 := List.all_eq_true.1 h1 e (by simpa using he')
        rw [hb] at h2
        simp only [Bool.not_true, Bool.false_or, Nat.blt_eq] at h2
        have h3 : e.on < listed.size := by omega
        rw [← getD_tf h3]
        cases h4 : listed.getD e.on true with
        | true => rfl
        | false =>
          have := hmin e.on (List.mem_filter.2 ⟨by simp; omega, by rw [h4]; rfl⟩)
          omega
      rw [he] at this
      cases this
  intro fuel
  induction fuel with
  | zero =>
    intro listed g a w S hs hc hl h
    have hR : leftR ops listed = [] := List.eq_nil_of_length_eq_zero (by omega)
    rw [hR] at h
    refine ⟨?_, hQ g a w S h⟩
    apply List.eq_nil_iff_forall_not_mem.2
    intro i hi
    have := hmem listed i hi
    rw [hR] at this
    cases this
  | succ fuel ih =>
    intro listed g a w S hs hc hl h
    refine ⟨fun he => ?_, fun i hi => ?_⟩
    · rw [hempty listed hs he] at h
      exact hQ g a w S h
    · have hiR := hmem listed i hi
      obtain ⟨h1, o, ho, hpre⟩ := mem_ready.1 hi
      have hlt : i < ops.size := (Array.getElem?_eq_some_iff.1 ho).1
      have hnd : (leftR ops listed).Nodup := List.Pairwise.filter _ List.nodup_range
      have hall : ∀ j ∈ leftR ops listed, j < ops.size := fun j hj => by simpa using (List.mem_filter.1 hj).1
      have hanc : ∀ j ∈ leftR ops listed, anc ops ops.size i j = false := fun j hj => by
        cases e : anc ops ops.size i j with
        | false => rfl
        | true =>
          have h2 := anc_listed hc ops.size i j (fun o' ho' e' he' hb' => by rw [ho] at ho'; injection ho' with ho'; subst ho'; exact hpre e' he' hb') e
          have h3 := (List.mem_filter.1 hj).2
          rw [← getD_tf (by rw [hs]; exact hall j hj)] at h2
          rw [h2] at h3
          cases h3
      have hset := left_set hs hiR
      have hc' : ClosedL ops (listed.setIfInBounds i true) := fun j oj hj hl' e he hb => by
        have hkeep : ∀ k, listed.getD k false = true → (listed.setIfInBounds i true).getD k false = true := fun k hk => getD_set_true hk
        by_cases e1 : j = i
        · subst e1
          rw [ho] at hj
          injection hj with hj
          subst hj
          exact hkeep _ (hpre e he hb)
        · have : listed.getD j false = true := by
            have e2 : (listed.setIfInBounds i true).getD j false = listed.getD j false := getD_set_ne false fun h => e1 h.symm
            rw [← e2]; exact hl'
          exact hkeep _ (hc j oj hj this e he hb)
      have hlen : ((leftR ops listed).erase i).length ≤ fuel := by
        have := List.length_erase_of_mem hiR
        omega
      have next : ∀ g' a' w', Stands P A X0 Y0 w0 f av0 g' a' w' → wpD P A H f ops ((leftR ops listed).erase i) [] g' K → wpAny P .any ops Q fuel (listed.setIfInBounds i true) a' w' := fun g' a' w' S' h' => ih _ g' a' w' S' (by simp [hs]) hc' (by rw [hset]; exact hlen) (by rw [hset]; exact h')
      unfold wpOp
      rw [ho]
      simp only
      obtain ⟨h2, h3⟩ := front hM hK ho _ [] g hiR hnd hanc hall h
      have hst : g.guard P A H f ops o fun g' => wpD P A H f ops ((leftR ops listed).erase i) [] g' K :=
        St.turn_guard hM h2 (St.turn_mono hM (fun r g1 δ hδ => hδ.2) h3)
      have := guard_rel W hH S hst _ Q next
      split at this
      · rename_i hw; rw [if_pos hw]; exact .inl this
      · rename_i hw; rw [if_neg hw]; exact this

/-- A region whose order is drawn does what its rule says. -/
theorem draw_ok (W : WF P) (hm : P.follows .mixedOrders = true) (hH : HndOk P A H) (hM : HndM H) : DrawOk P A H := by
  intro f ops g K hf h X0 Y0 w0 av0 a w Q id S hQ
  refine wp_region_any hm ?_
  have hK : Closed fun g => ∃ g', EqSt g' g ∧ K g' := fun g1 g2 he ⟨g', h1, h2⟩ => ⟨g', ⟨h1.1.trans he.1, h1.2.trans he.2⟩, h2⟩
  have hleft : leftR ops (Array.replicate ops.size false) = List.range ops.size := by
    unfold leftR
    rw [List.filter_eq_self]
    intro i hi
    have hi' : i < ops.size := by simpa using hi
    simp [Array.getD_eq_getD_getElem?, hi']
  refine any_ok W hH hM hf hK (fun g' a' w' S' h' => ?_) ops.size _ g a _ S.drew (by simp) (fun i o _ hl => ?_) (by rw [hleft]; simp) (by
    rw [hleft]
    exact wpD_mono hM (fun g h => ⟨g, ⟨rfl, rfl⟩, h⟩) _ _ _ _ (fun _ h => h) h)
  · obtain ⟨g2, he, h2⟩ := h'
    obtain ⟨⟨ph, R⟩, hA⟩ := S'
    have R2 : RelA P A X0 Y0 w0 g2 ph a' w' := by
      have e1 : look g2.sl = look g'.sl := he.1
      have e2 : lookO g2.ob = lookO g'.ob := he.2
      unfold RelA at R ⊢
      rw [e1, e2]
      exact R
    exact hQ g2 a' w' ⟨⟨ph, R2⟩, hA⟩ h2
  · exfalso
    rw [Array.getD_eq_getD_getElem?, Array.getElem?_replicate] at hl
    split at hl <;> cases hl

end

/-- EVERY FUNCTION DOES WHAT ITS RULE SAYS. -/
theorem rule_ok (W : WF P) (hm : P.follows .mixedOrders = true) {n f : Nat} {ds : List D} {Q : List D → Prop} (h : wpF P A n f ds Q) {X0 : Nat → Prop} {w : World} {args : Array Value} {phL : Nat → Ph} (hA : Args P A X0 w (A.sig f).cel (A.sig f).ps args ds phL) :
    Calls P f args w fun e w' => ∃ v r phR vs, e = .returned v ∧ Q r ∧ Ret P A X0 (lentY (A.sig f).ps ds phL) w w' (A.sig f) phL v r phR vs :=
  wpF_ok W (fun n hH => draw_ok W hm hH (hnd_m n)) h hA

end Go.Ab

/- A program is well formed, as far as the rules ask: a check, and what it gives. -/
namespace Go.Ab

def notOther (P : Program) (t : Nat) : Bool := match tk P t with
  | .other => false
  | _ => true
theorem notOther_ok {P : Program} {t : Nat} (h : notOther P t = true) : tk P t ≠ .other := by
  intro e; simp [notOther, e] at h

def tileB (P : Program) : List (Nat × Nat) → Nat → Nat → Bool
  | [], o, n => Nat.beq o n
  | (ft, p) :: r, o, n => Nat.beq p o && notOther P ft && tileB P r (o + P.cellsOf ft) n

def tyB (P : Program) (t : Nat) : Bool := match tk P t with
  | .other => true
  | .struct fs => tileB P fs 0 (P.cellsOf t)
  | .arr n e => Nat.beq (P.cellsOf t) (n * P.cellsOf e) && notOther P e
  | .slc e => Nat.beq (P.cellsOf t) 1 && notOther P e
  | _ => Nat.beq (P.cellsOf t) 1

def zeroB (P : Program) (t : Nat) : Bool := !(goodT P 8 t) || match P.info? t with
  | some i => match i.zero with
    | some (.agg cs) => isAgg (tk P t) && zOk P 8 t cs.toList
    | some v => !(isAgg (tk P t)) && zOk P 8 t [v]
    | none => false
  | none => false

def typesB (P : Program) : Bool := (List.range P.types.size).all fun t => tyB P t && zeroB P t
def namesB (P : Program) : Bool := P.funcs.toList.all fun f => !(f.name == "runtime.NumGoroutine")

theorem tk_other {P : Program} {t : Nat} (h : ¬ t < P.types.size) : tk P t = .other := by
  unfold tk
  have : Nat.blt t P.types.size = false := by
    cases hb : Nat.blt t P.types.size
    · rfl
    · exact absurd (by simpa [Nat.blt_eq] using hb) h
  rw [this]; rfl

theorem tile_total {P : Program} : ∀ {fs : List (Nat × Nat)} {o n : Nat}, tileB P fs o n = true → o ≤ n
  | [], o, n, h => by simp only [tileB, Nat.beq_eq] at h; omega
  | (ft, p) :: r, o, n, h => by
    simp only [tileB, Bool.and_eq_true, Nat.beq_eq] at h
    have := tile_total h.2
    omega

theorem tile_at {P : Program} : ∀ {fs : List (Nat × Nat)} {o n : Nat}, tileB P fs o n = true → ∀ (j ft p : Nat), fs[j]? = some (ft, p) → o ≤ p ∧ p + P.cellsOf ft ≤ n ∧ tk P ft ≠ .other
  | [], o, n, _, j, ft, p, hj => by simp at hj
  | (gt, q) :: r, o, n, h, j, ft, p, hj => by
    simp only [tileB, Bool.and_eq_true, Nat.beq_eq] at h
    cases j with
    | zero =>
      simp only [List.getElem?_cons_zero, Option.some.injEq, Prod.mk.injEq] at hj
      obtain ⟨rfl, rfl⟩ := hj
      have := tile_total h.2
      exact ⟨by omega, by omega, notOther_ok h.1.2⟩
    | succ j =>
      have := tile_at h.2 j ft p (by simpa using hj)
      exact ⟨by omega, this.2.1, this.2.2⟩

theorem tile_cover {P : Program} : ∀ {fs : List (Nat × Nat)} {o n : Nat}, tileB P fs o n = true → ∀ i, o ≤ i → i < n → ∃ (j ft p : Nat), fs[j]? = some (ft, p) ∧ p ≤ i ∧ i < p + P.cellsOf ft
  | [], o, n, h, i, h1, h2 => by simp only [tileB, Nat.beq_eq] at h; omega
  | (gt, q) :: r, o, n, h, i, h1, h2 => by
    simp only [tileB, Bool.and_eq_true, Nat.beq_eq] at h
    by_cases hi : i < o + P.cellsOf gt
    · exact ⟨0, gt, q, rfl, by omega, by omega⟩
    · obtain ⟨j, ft, p, h3, h4, h5⟩ := tile_cover h.2 i (by omega) h2
      exact ⟨j + 1, ft, p, by simpa using h3, h4, h5⟩

theorem tile_order {P : Program} : ∀ {fs : List (Nat × Nat)} {o n : Nat}, tileB P fs o n = true → ∀ (j ft p k fu q : Nat), fs[j]? = some (ft, p) → fs[k]? = some (fu, q) → j < k → p + P.cellsOf ft ≤ q
  | [], o, n, _, j, ft, p, k, fu, q, hj, _, _ => by simp at hj
  | (gt, q') :: r, o, n, h, j, ft, p, k, fu, q, hj, hk, hl => by
    simp only [tileB, Bool.and_eq_true, Nat.beq_eq] at h
    cases k with
    | zero => omega
    | succ k =>
      cases j with
      | zero =>
        simp only [List.getElem?_cons_zero, Option.some.injEq, Prod.mk.injEq] at hj
        obtain ⟨rfl, rfl⟩ := hj
        have := tile_at h.2 k fu q (by simpa using hk)
        omega
      | succ j => exact tile_order h.2 j ft p k fu q (by simpa using hj) (by simpa using hk) (by omega)

/-- EACH TYPE IS LAID OUT AS THE RULES TAKE IT, no function bears the name of one that counts: a check. -/
theorem wf_of {P : Program} (h : typesB P = true) (hn : namesB P = true) (hcpt : ∀ h, isCpt P h = true → CompactAt P h) : WF P := by
  have at_ : ∀ t, tk P t ≠ .other → tyB P t = true ∧ zeroB P t = true := by
    intro t ht
    by_cases hl : t < P.types.size
    · have := List.all_eq_true.1 h t (by simpa using hl)
      simpa using this
    · exact absurd (tk_other hl) ht
  have hone : ∀ t, isAgg (tk P t) = false → tk P t ≠ .other → P.cellsOf t = 1 := by
    intro t h1 h2
    have h3 := (at_ t h2).1
    unfold tyB at h3
    revert h1 h2 h3
    cases tk P t <;> simp [isAgg]
    all_goals (try (intro h3; first | (intro _; exact h3) | exact h3))
  have hst : ∀ t fs, tk P t = .struct fs → tileB P fs 0 (P.cellsOf t) = true := by
    intro t fs ht
    have h3 := (at_ t (by simp [ht])).1
    simpa [tyB, ht] using h3
  have harr : ∀ t n e, tk P t = .arr n e → P.cellsOf t = n * P.cellsOf e ∧ tk P e ≠ .other := by
    intro t n e ht
    have h3 := (at_ t (by simp [ht])).1
    simp only [tyB, ht, Bool.and_eq_true, Nat.beq_eq] at h3
    exact ⟨h3.1, notOther_ok h3.2⟩
  have hend : ∀ (fs : List (Nat × Nat)) (o n m : Nat), tileB P fs o n = true → tileB P fs o m = true → n = m := by
    intro fs
    induction fs with
    | nil => intro o n m h1 h2; simp only [tileB, Nat.beq_eq] at h1 h2; omega
    | cons x r ih =>
      obtain ⟨ft, p⟩ := x
      intro o n m h1 h2
      simp only [tileB, Bool.and_eq_true] at h1 h2
      exact ih _ _ _ h1.2 h2.2
  refine ⟨hone, ?_, ?_, ?_, harr, ?_, ?_, ?_, hcpt, ?_⟩
  · intro t fs ht j ft o hj
    have := tile_at (hst t fs ht) j ft o hj
    exact ⟨this.2.1, this.2.2⟩
  · intro t fs ht i hi
    exact tile_cover (hst t fs ht) i (Nat.zero_le _) hi
  · intro t fs ht j ft o k fu p hj hk hl
    exact tile_order (hst t fs ht) j ft o k fu p hj hk hl
  · intro t u hu ho
    by_cases ha : isAgg (tk P t) = true
    · cases ht : tk P t <;> simp [ht, isAgg] at ha
      · exact hend _ _ _ _ (hst t _ ht) (hst u _ (hu ▸ ht))
      · rw [(harr t _ _ ht).1, (harr u _ _ (hu ▸ ht)).1]
    · rw [hone t (by simpa using ha) ho, hone u (by rw [← hu]; simpa using ha) (hu ▸ ho)]
  · intro t e ht
    have h3 := (at_ t (by simp [ht])).1
    simp only [tyB, ht, Bool.and_eq_true] at h3
    exact notOther_ok h3.2
  · intro f fn hf he
    have hm : fn ∈ P.funcs.toList := by
      have := Array.mem_of_getElem? hf
      exact Array.mem_toList_iff.2 this
    have := List.all_eq_true.1 hn fn hm
    simp [he] at this
  · intro t hg
    have ho : tk P t ≠ .other := by
      intro e
      simp [goodT, e] at hg
    have h3 := (at_ t ho).2
    unfold zeroB at h3
    rw [hg] at h3
    simp only [Bool.not_true, Bool.false_or] at h3
    cases hi : P.info? t with
    | none => rw [hi] at h3; simp at h3
    | some i =>
      rw [hi] at h3
      simp only at h3
      cases hz : i.zero with
      | none => rw [hz] at h3; simp at h3
      | some v =>
        rw [hz] at h3
        by_cases hv : ∃ cs, v = .agg cs
        · obtain ⟨cs, rfl⟩ := hv
          simp only [Bool.and_eq_true] at h3
          exact ⟨i, cs.toList, rfl, by rw [hz]; simp [mkV, h3.1], h3.2⟩
        · have h4 : isAgg (tk P t) = false ∧ zOk P 8 t [v] = true := by
            cases v with
            | agg cs => exact absurd ⟨cs, rfl⟩ hv
            | _ => simpa using h3
          exact ⟨i, [v], rfl, by rw [hz]; simp [mkV, h4.1], h4.2⟩

end Go.Ab
