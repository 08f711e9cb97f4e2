/- The abstraction layer, part 7: rules that read a program as plain data, and that they are sound. Conditions: those in each theorem. -/
import Derived.Test.YtdbahkmnhodhmaaAbPart6
import Derived.Test.YtdbahkmnhodhmaaRows
import Derived.ProofKit
import Derived.OpenShut
import Derived.JoinedCond
import Derived.WideKeyArgs
set_option linter.unusedVariables false
set_option linter.unusedSimpArgs false
/- From a rule of a law to the law's statement: arguments of plain data, their bulk, the call. -/
namespace Go.Ab
open Go.ChangeShapes Go.WideShapes Go.RowKit
open Go.Proofs.Ytdbahkmnhodhmaa (Rows.uptoBulk Rows.uptoBulkAll Rows.uptoSmall)

def inI (n : Int) : Prop := -9223372036854775808 ≤ n ∧ n ≤ 9223372036854775807

/-- Data of an argument, and its bulk. -/
inductive Raw (P : Program) : Nat → D → Nat → Prop
  | int {t n b} : tk P t = .int .i64 → inI n → 1 ≤ b → Raw P t (.int n) b
  | bool {t x b} : tk P t = .bool → 1 ≤ b → Raw P t (.bool x) b
  | ints {t e b} {l : List Int} : tk P t = .slc e → tk P e = .int .i64 → (∀ n ∈ l, inI n) → l.length + 1 ≤ b → Raw P t (.slc (l.map .int)) b

inductive Raws (P : Program) : List Nat → List D → Nat → Prop
  | nil : Raws P [] [] 0
  | cons {t ts d ds b c} : Raw P t d b → Raws P ts ds c → Raws P (t :: ts) (d :: ds) (b + c)

def argB (P : Program) (t : Nat) : Bool := Nat.blt t P.types.size && P.readableRec t && match tk P t with
  | .int .i64 => true
  | .bool => true
  | .slc e => match tk P e with
    | .int .i64 => true
    | _ => false
  | _ => false

theorem bulk_pos {H : Type} (d : DataW H) : 1 ≤ Rows.uptoBulk d := by
  cases d with
  | lit l => cases l <;> simp [Rows.uptoBulk]
  | _ => simp [Rows.uptoBulk]

theorem bulk_len {H : Type} : ∀ (l : List (DataW H)), l.length ≤ Rows.uptoBulkAll l
  | [] => by simp [Rows.uptoBulkAll]
  | x :: r => by have := bulk_pos x; have := bulk_len r; simp only [Rows.uptoBulkAll, List.length_cons]; omega

theorem tk_lt {P : Program} {t : Nat} (h : tk P t ≠ .other) : t < P.types.size := by
  by_cases hl : t < P.types.size
  · exact hl
  · exact absurd (tk_other hl) h

theorem under_of {P : Program} {t : Nat} {k : TK} (h : tk P t = k) (hk : k ≠ .other) : (match P.underlying t with
  | some (.int k) => TK.int k
  | some .bool => .bool
  | some .string => .str
  | some (.slice e) => .slc e
  | some (.struct fs) => .struct (fs.toList.map fun f => (f.type, f.offset))
  | some (.array n e) => .arr n e
  | some (.pointer e) => .ptr e
  | some (.func ..) => .fn
  | some (.interface _) => .ifc
  | some (.map k e) => .map k e
  | _ => .other) = k := by
  have hl : t < P.types.size := tk_lt (h ▸ hk)
  have hb : Nat.blt t P.types.size = true := by simpa [Nat.blt_eq] using hl
  rw [← h]
  unfold tk
  rw [hb]
  rfl

theorem under_int {P : Program} {t : Nat} {k : IntKind} (h : tk P t = .int k) : P.underlying t = some (.int k) := by
  have h1 := under_of h (by simp)
  split at h1 <;> first | (injection h1 with h1; subst h1; assumption) | (cases h1)
theorem under_bool {P : Program} {t : Nat} (h : tk P t = .bool) : P.underlying t = some .bool := by
  have h1 := under_of h (by simp)
  split at h1 <;> first | assumption | (cases h1)
theorem under_slc {P : Program} {t e : Nat} (h : tk P t = .slc e) : P.underlying t = some (.slice e) := by
  have h1 := under_of h (by simp)
  split at h1 <;> first | (injection h1 with h1; subst h1; assumption) | (cases h1)

section
variable {H : Type} {enc : TypeId × Value → H} {P : Program} {A : Ann} {w : World}

theorem wf_in {n : Int} (h : (Lit.int .i64 n).wf = true) : inI n := by
  simp [Lit.wf, IntKind.min, IntKind.max, IntKind.signed, IntKind.bits] at h
  unfold inI; omega

/-- ONE ARGUMENT. -/
theorem raw_of (W : WF P) {t : Nat} {v : Value} {d : DataW H} {ps : List MemPlace} {base : Nat} (hb : argB P t = true) (hval : Value.okWide P w .any base t v)
    (hd : DataW.Trod enc P w 0 (fun _ => true) true t v d ps) : ∃ x, RepV P A (fun _ => False) w t v x ∧ Raw P t x (Rows.uptoBulk d) := by
  simp only [argB, Bool.and_eq_true] at hb
  obtain ⟨_, hb⟩ := hb
  cases ht : tk P t with
  | int k =>
    rw [ht] at hb
    cases k <;> simp at hb
    obtain ⟨n, rfl, rfl, rfl, hw⟩ := open_int (under_int ht) hval hd
    exact ⟨.int n, ⟨_, .int ht, by simp [mkV, ht, isAgg]⟩, .int ht (wf_in hw) (bulk_pos _)⟩
  | bool =>
    obtain ⟨b, rfl, rfl, rfl⟩ := open_bool (under_bool ht) hval hd
    exact ⟨.bool b, ⟨_, .bool ht, by simp [mkV, ht, isAgg]⟩, .bool ht (bulk_pos _)⟩
  | slc e =>
    rw [ht] at hb
    simp only at hb
    cases he : tk P e with
    | int k =>
      rw [he] at hb
      cases k <;> simp at hb
      have ut := under_slc ht
      have ue := under_int he
      have hc : P.cellsOf e = 1 := W.one' he rfl (by simp)
      have hok : Cell.okWide P w .any base t v := by simpa [Value.okWide, ut] using hval
      obtain ⟨fuel, hf⟩ := hd
      have hcs : v.cells.toList = [v] := by
        cases v <;> first | rfl | (simp [Cell.okWide, Cell.ok, ut] at hok)
      rw [hcs] at hf
      rcases open_ints ut ue hc hf with ⟨h1, h2⟩ | ⟨a, len, cap, zs, h1, _, hl, hm, hz, hx, hcell, hwf⟩
      · simp only [List.cons.injEq, and_true] at h1
        subst h1
        simp only [Prod.mk.injEq] at h2
        obtain ⟨rfl, rfl⟩ := h2
        exact ⟨.slc [], ⟨_, .slcN ht, by simp [mkV, ht, isAgg]⟩, .ints (l := []) ht he (by simp) (bulk_pos _)⟩
      · simp only [List.cons.injEq, and_true] at h1
        subst h1
        simp only [Prod.mk.injEq] at hx
        obtain ⟨rfl, rfl⟩ := hx
        simp only [if_true] at hz
        have hsp : a.spot = none ∧ a.block < w.heap.size := by
          simp only [Cell.okWide, ut, Cell.ok, World.has] at hok
          obtain ⟨_, _, _, h3, r, c, h4, _⟩ := hok
          refine ⟨h3, ?_⟩
          by_cases hlt : a.block < w.heap.size
          · exact hlt
          · have : w.heap[a.block]? = none := by simpa using hlt
            simp [World.shape?, this] at h4
        obtain ⟨b, off, sp⟩ := a
        obtain ⟨rfl, hblt⟩ := hsp
        simp only at hblt
        have hlen : (zs.take len).length = len := by simp; omega
        refine ⟨.slc ((zs.take len).map .int), ⟨[.slice (some ⟨b, off, none⟩) len cap], ?_, by simp [mkV, ht, isAgg]⟩, .ints ht he (fun n hn => wf_in (hwf n (List.mem_of_mem_take hn))) ?_⟩
        · have := Rep.slc (P := P) (A := A) (X := fun _ => False) (w := w) (t := t) (e := e) (b := b) (off := off) (cap := cap) (xs := (zs.take len).map D.int) (css := fun i => [.int .i64 (zs.getD i 0)]) ht (fun h => h) hblt
            (by simpa using Nat.le_trans (Nat.min_le_left _ _) hl) (fun i _ => by simp [hc]) (fun i hi j hj => by
              have hj0 : j = 0 := by simpa using hj
              subst hj0
              have hi' : i < zs.length := by simp at hi; omega
              have := hcell i hi'
              rw [hc, Nat.mul_one, Nat.add_zero]
              have ea : (⟨b, off, none⟩ : Addr).add i = ⟨b, off + i, none⟩ := by
                unfold Addr.add
                split
                · rename_i h0; subst h0; rfl
                · rfl
              rw [ea] at this
              simpa using this) (fun i hi => by
              have hi' : i < len := by simp at hi; omega
              have hiz : i < zs.length := by omega
              have e1 : ((zs.take len).map D.int).getD i .und = .int (zs.getD i 0) := by
                simp [List.getD, hi', hiz]
              rw [e1]
              exact .int he)
          have e2 : ((zs.take len).map D.int).length = len := by simpa using hlen
          rw [e2] at this
          exact this
        · simp only [Rows.uptoBulk]
          have := bulk_len (lits (H := H) .i64 (zs.take len))
          have e3 : (lits (H := H) .i64 (zs.take len)).length = (zs.take len).length := by simp [lits]
          omega
    | _ => rw [he] at hb; simp at hb
  | _ => rw [ht] at hb; simp at hb

/-- ALL ARGUMENTS. -/
theorem raws_of (W : WF P) {base : Nat} : ∀ {ts : List Nat} {vs : List Value} {ds : List (DataW H)} {ps : List MemPlace}, ts.all (argB P) = true →
    (∀ (j : Nat) t v, ts[j]? = some t → vs[j]? = some v → Value.okWide P w .any base t v) → DataW.TrodAll enc P w 0 (fun _ => true) true ts vs ds ps →
    vs.length = ts.length ∧ ∃ xs, xs.length = ts.length ∧ (∀ (j : Nat) t, ts[j]? = some t → RepV P A (fun _ => False) w t (vs.getD j undef) (xs.getD j .und)) ∧ ∃ b, b ≤ Rows.uptoBulkAll ds ∧ Raws P ts xs b
  | [], vs, ds, ps, _, _, h => by
    obtain ⟨rfl, rfl, rfl⟩ := trodAll_nil h
    exact ⟨rfl, [], rfl, fun j t hj => by simp at hj, 0, Nat.zero_le _, .nil⟩
  | t :: ts, vs, ds, ps, ha, hval, h => by
    obtain ⟨v, vs', d, ds', p, q, rfl, rfl, rfl, h1, h2⟩ := trodAll_cons h
    simp only [List.all_cons, Bool.and_eq_true] at ha
    obtain ⟨x, hx, hr⟩ := raw_of (A := A) W ha.1 (hval 0 t v rfl rfl) h1
    obtain ⟨hl, xs, hxl, hxs, b, hb, hrs⟩ := raws_of W ha.2 (fun j u z hj hz => hval (j + 1) u z (by simpa using hj) (by simpa using hz)) h2
    refine ⟨by simp [hl], x :: xs, by simp [hxl], ?_, _, ?_, .cons hr hrs⟩
    · intro j u hj
      cases j with
      | zero => simp only [List.getElem?_cons_zero, Option.some.injEq] at hj; subst hj; simpa using hx
      | succ j => simpa using hxs j u (by simpa using hj)
    · simp only [Rows.uptoBulkAll]; omega

theorem trodAll_stays (hl : laidOutB P = true) {w' : World} {sp' : Nat → Bool} : ∀ {ts : List Nat} {vs : List Value} {ds : List (DataW H)} {ps : List MemPlace}, ts.all (argB P) = true →
    DataW.TrodAll enc P w 0 (fun _ => true) true ts vs ds ps → (∀ p ∈ ps, w.sameAt w' p) → (∀ p ∈ ps, sp' p.block = true) → DataW.TrodAll enc P w' 0 sp' true ts vs ds ps
  | [], vs, ds, ps, _, h, _, _ => by
    obtain ⟨rfl, rfl, rfl⟩ := trodAll_nil h
    exact trodAll_mk0
  | t :: ts, vs, ds, ps, ha, h, h1, h2 => by
    obtain ⟨v, vs', d, ds', p, q, rfl, rfl, rfl, h3, h4⟩ := trodAll_cons h
    simp only [List.all_cons, Bool.and_eq_true] at ha
    have hb := ha.1
    simp only [argB, Bool.and_eq_true] at hb
    exact trodAll_cons_mk (Go.WideElems.Trod_stays hl hb.1.2 (by simpa [Nat.blt_eq] using hb.1.1) h3 (fun x hx => h1 x (by simp [hx])) (fun x hx => h2 x (by simp [hx])))
      (trodAll_stays hl ha.2 h4 (fun x hx => h1 x (by simp [hx])) (fun x hx => h2 x (by simp [hx])))

theorem kept_of {w' : World} (h : Keeps (fun _ => False) w w') (may : MemPlace → Prop) : w.keptBut w' may := by
  refine ⟨h.os, h.output, fun i hi => ?_⟩
  rw [h.block i hi (fun x => x)]
  cases w.heap[i]? with
  | none => trivial
  | some o => cases o <;> simp

theorem trodAll_length : ∀ {ts : List Nat} {vs : List Value} {ds : List (DataW H)} {ps : List MemPlace} {base : Nat} {sp : Nat → Bool} {hd : Bool},
    DataW.TrodAll enc P w base sp hd ts vs ds ps → ds.length = ts.length
  | [], vs, ds, ps, _, _, _, h => by
    obtain ⟨rfl, rfl, rfl⟩ := trodAll_nil h
    rfl
  | t :: ts, vs, ds, ps, _, _, _, h => by
    obtain ⟨v, vs', d, ds', p, q, rfl, rfl, rfl, h1, h2⟩ := trodAll_cons h
    simp [trodAll_length h2]

/-- THE LAW's CALL: what its rule says is what its statement asks. -/
theorem contract_of (W : WF P) (hm : P.follows .mixedOrders = true) (hl : laidOutB P = true) {f tb : Nat} {fn : Func} {s : ChangeSpec} {again : Bool}
    (hsig : A.sig f = ⟨fn.params.toList.map .imm, [.val tb .imm]⟩) (htb : tk P tb = .bool) (hres : fn.resultTypes = #[tb]) (hps : fn.params.toList.all (argB P) = true)
    (hvars : s.vars = []) (hfn : ∀ ds : List (DataW H), ds.length = fn.params.toList.length → s.fn H ds = { results := [.lit (.bool true)], args := ds })
    (hwp : ∀ ds b, Raws P fn.params.toList ds b → b ≤ 1048576 → ∃ n, wpF P A n f ds fun r => r = [.bool true])
    {base : Nat} {args : Array Value} {ds gs : List (DataW H)} {before : List MemPlace}
    (hval : ∀ (j : Nat) t v, fn.params[j]? = some t → args[j]? = some v → Value.okWide P w .any base t v)
    (hW : DataW.Whole enc P fn.params.toList s.vars false w args.toList ds gs before) (hk : Rows.uptoSmall H (ds ++ gs) = true) :
    Calls P f args w fun e w' => ∃ v, e = .returned v ∧ s.post enc P fn false true false again w args v w' := by
  have hW' := hW
  obtain ⟨p, q, hA0, hV, rfl, hfz, hnd⟩ := hW
  rw [hvars] at hV
  obtain ⟨rfl, rfl⟩ := trodVars_none hV
  have hk' : Rows.uptoBulkAll (ds ++ []) ≤ 1048576 := of_decide_eq_true hk
  simp only [List.append_nil] at hk' hfz hW'
  obtain ⟨hlen, xs, hxl, hxs, b, hb, hraw⟩ := raws_of (A := A) W hps (fun j t v hj hv => hval j t v (by simpa using hj) (by simpa using hv)) hA0
  obtain ⟨n, hwp'⟩ := hwp xs b hraw (Nat.le_trans hb hk')
  have hargs : Args P A (fun _ => False) w (A.sig f).ps args xs (fun _ => default) := by
    rw [hsig]
    refine args_read (by simp) (by simpa using hlen) (by simpa using hxl) (fun b h => h.elim) (fun i k hi => ?_) _
    simp only [List.getElem?_map, Option.map_eq_some_iff] at hi
    obtain ⟨t, ht, rfl⟩ := hi
    have := hxs i t ht
    simpa [ArgAt] using this
  have hdl : ds.length = fn.params.toList.length := trodAll_length hA0
  refine (rule_ok W hm hwp' hargs).mono fun e w' => ?_
  rintro ⟨v, r, phR, vs, rfl, hr, hret⟩
  subst hr
  refine ⟨v, rfl, ?_⟩
  have hkeep : Keeps (fun _ => False) w w' := hret.keeps.mono fun b hb => by
    obtain ⟨o, x, hx, _⟩ := hb
    have hno := (no_lent (ps := (A.sig f).ps) (by rw [hsig]; simp)).2
    rw [hno] at hx
    cases hx
  have hv : v = .bool true := by
    have h1 := hret.size
    have h2 := hret.res 0 (.val tb .imm) (by rw [hsig]; rfl)
    rw [hsig] at h1
    have h3 := hret.val
    have h1' : vs.size = 1 := by simpa using h1
    obtain ⟨cs, hc, hv1⟩ : RepV P A _ w' tb (vs.getD 0 undef) (.bool true) := h2
    rw [h3, dif_pos h1']
    have h4 : vs.getD 0 undef = vs[0] := by simp [Array.getD, h1']
    rw [← h4, hv1]
    cases hc with
    | bool _ => simp [mkV, htb, isAgg]
  subst hv
  have hplt := hW'.lt
  have hsame : ∀ x ∈ p, w.sameAt w' x := by
    intro x hx
    have hx' := hplt x hx
    cases x with
    | cell b off => simp only [World.sameAt, World.cell?]; rw [hkeep.block b hx' (fun h => h)]
    | map b => simp only [World.sameAt]; rw [hkeep.block b hx' (fun h => h)]
  have hfz' : ∀ b off, MemPlace.cell b off ∈ p → w'.frozen? ⟨b, off, none⟩ = w.frozen? ⟨b, off, none⟩ := by
    intro b off hx
    simp only [World.frozen?]
    rw [hkeep.block b (hplt _ hx) (fun h => h)]
  have hspec := hfn ds hdl
  have hres1 : ∀ (b : Nat) (sp : Nat → Bool) (hd : Bool), DataW.TrodAll enc P w' b sp hd fn.resultTypes.toList ((Value.bool true).resultList fn.resultTypes.size) (s.fn H (ds ++ [])).results [] := by
    intro b sp hd
    rw [List.append_nil, hspec, hres]
    exact trodAll_cons_mk (shut_bool (under_bool htb) true) trodAll_mk0
  have hvars1 : ∀ sp : Nat → Bool, DataW.TrodVars enc P w' sp s.vars (s.fn H (ds ++ [])).vars [] := by
    intro sp
    rw [List.append_nil, hspec, hvars]
    rfl
  have hargs1 : ∀ sp : Nat → Bool, (∀ x ∈ p, sp x.block = true) → DataW.TrodAll enc P w' 0 sp true fn.params.toList args.toList (s.fn H (ds ++ [])).args p := by
    intro sp hsp
    rw [List.append_nil, hspec]
    exact trodAll_stays hl hps hA0 hsame hsp
  have hold : ∀ x ∈ p, (fun b => decide (b < w.heap.size)) x.block = true := fun x hx => by simpa using hplt x hx
  refine ⟨ds, [], p, [], p, [], hW', hres1 _ _ _, hargs1 _ hold, hvars1 _, kept_of hkeep _, fun _ => ⟨?_, ?_⟩⟩
  · intro j t r hj hr
    rw [hres] at hj hr
    cases j with
    | zero =>
      simp at hj hr
      subst hj
      have hr' : r = .bool true := by simpa [Value.resultList] using hr.symm
      subst hr'
      exact okWide_bool_mk (under_bool htb) true
    | succ j => simp at hj
  · refine ⟨_, _, [] ++ p ++ [], ⟨[] ++ p, [], trodAll_append (hargs1 _ (fun _ _ => rfl)) (hres1 _ _ _), hvars1 _, rfl, ?_, ?_⟩, ?_⟩
    · intro b off hx
      simp only [List.nil_append, List.append_nil] at hx
      rw [hfz' b off hx]
      exact hfz b off hx
    · intro h; cases h
    · intro x hx _
      simpa using hx

end
end Go.Ab
