/- The abstraction layer, part 6: rules that read a program as plain data, and that they are sound. Conditions: those in each theorem. -/
import Derived.Test.YtaeedloefcbjlaaGreatAbsPart5
import Derived.Test.YtaeedloefcbjlaaGreatRows
import Derived.ProofKit
import Derived.OpenShut
import Derived.JoinedCond
import Derived.WideKeyArgs
set_option linter.unusedVariables false
set_option linter.unusedSimpArgs false
/- From a rule of a law to the law's statement: arguments of plain data, their bulk, the call. -/
namespace Go.Ab
open Go.ChangeShapes Go.WideShapes Go.RowKit
open Go.Proofs.YtaeedloefcbjlaaGreat (Rows.uptoBulk Rows.uptoBulkAll Rows.uptoSmall)

def inI (n : Int) : Prop := -9223372036854775808 ≤ n ∧ n ≤ 9223372036854775807

mutual
/-- Data of an argument, and its bulk. -/
inductive Raw (P : Program) : Nat → D → Nat → Prop
 | int {t n b} : tk P t = .int .i64 → inI n → 1 ≤ b → Raw P t (.int n) b
 | byte {t n b} : tk P t = .int .u8 → 0 ≤ n → n ≤ 255 → 1 ≤ b → Raw P t (.int n) b
 | bool {t x b} : tk P t = .bool → 1 ≤ b → Raw P t (.bool x) b
 | str {t s b} : tk P t = .str → s.size + 1 ≤ b → Raw P t (.str s) b
 | slc {t e xs b c} : tk P t = .slc e → Raws P (List.replicate xs.length e) xs c → c + 1 ≤ b → Raw P t (.slc xs) b
 | struct {t fs ds b c} : tk P t = .struct fs → Raws P (fs.map (·.1)) ds c → c + 1 ≤ b → Raw P t (.agg ds) b
inductive Raws (P : Program) : List Nat → List D → Nat → Prop
 | nil : Raws P [] [] 0
 | cons {t ts d ds b c} : Raw P t d b → Raws P ts ds c → Raws P (t :: ts) (d :: ds) (b + c)
end

/-- Types of arguments that are read. -/
def argT (P : Program) : Nat → Nat → Bool
 | 0, _ => false
 | n + 1, t => match tk P t with
  | .int .i64 => true
  | .int .u8 => true
  | .bool => true
  | .str => true
  | .slc e => Nat.blt 0 (P.cellsOf e) && argT P n e
  | .struct fs => fs.all fun x => argT P n x.1
  | _ => false
def argB (P : Program) (t : Nat) : Bool := Nat.blt t P.types.size && P.readableRec t && argT P 8 t

theorem ints_of {P : Program} {e : Nat} (he : tk P e = .int .i64) : ∀ {xs : List D} {c : Nat}, Raws P (List.replicate xs.length e) xs c → ∃ l : List Int, xs = l.map .int ∧ (∀ n ∈ l, inI n) ∧ l.length ≤ c
 | [], _, h => ⟨[], rfl, by simp, by simp⟩
 | x :: xs, _, h => by
  rw [List.length_cons, List.replicate_succ] at h
  cases h with
  | cons h1 h2 =>
   obtain ⟨l, rfl, h3, h4⟩ := ints_of he h2
   cases h1 with
   | @int _ n _ _ hn hb =>
    refine ⟨n :: l, rfl, fun m hm => ?_, by simp; omega⟩
    rcases List.mem_cons.mp hm with rfl | hm
    ·exact hn
    ·exact h3 m hm
   | _ => simp_all

theorem Raw.ints {P : Program} {t e b : Nat} {x : D} (h : Raw P t x b) (ht : tk P t = .slc e) (he : tk P e = .int .i64) : ∃ l : List Int, x = .slc (l.map .int) ∧ (∀ n ∈ l, inI n) ∧ l.length + 1 ≤ b := by
 cases h with
 | slc h1 h2 h3 =>
  rw [ht] at h1
  injection h1 with h1
  subst h1
  obtain ⟨l, rfl, h4, h5⟩ := ints_of he h2
  exact ⟨l, rfl, h4, by omega⟩
 | _ => simp_all
theorem bulk_pos {H : Type} (d : DataW H) : 1 ≤ Rows.uptoBulk d := by
 cases d with
 | lit l => cases l <;> simp [Rows.uptoBulk]
 | _ => simp [Rows.uptoBulk]

theorem tk_lt {P : Program} {t : Nat} (h : tk P t ≠ .other) : t < P.types.size := by
 by_cases hl : t < P.types.size
 ·exact hl
 ·exact absurd (tk_other hl) h

theorem under_of {P : Program} {t : Nat} {k : TK} (h : tk P t = k) (hk : k ≠ .other) : (match P.underlying t with
 | some (.int k) => TK.int k
 | some .bool => .bool
 | some .string => .str
 | some (.slice e) => .slc e
 | some (.struct fs) => .struct (fs.toList.map fun f => (f.type, f.offset))
 | some (.array n e) => .arr n e
 | some (.pointer e) => .ptr e
 | some (.func ..) => .fn
 | some (.interface _) => .ifc
 | some (.map k e) => .map k e
 | _ => .other) = k := by
 have hl : t < P.types.size := tk_lt (h ▸ hk)
 have hb : Nat.blt t P.types.size = true := by simpa [Nat.blt_eq] using hl
 rw [← h]
 unfold tk
 rw [hb]
 rfl

theorem under_int {P : Program} {t : Nat} {k : IntKind} (h : tk P t = .int k) : P.underlying t = some (.int k) := by
 have h1 := under_of h (by simp)
 split at h1 <;> first | (injection h1 with h1; subst h1; assumption) | (cases h1)
theorem under_bool {P : Program} {t : Nat} (h : tk P t = .bool) : P.underlying t = some .bool := by
 have h1 := under_of h (by simp)
 split at h1 <;> first | assumption | (cases h1)
theorem under_str {P : Program} {t : Nat} (h : tk P t = .str) : P.underlying t = some .string := by
 have h1 := under_of h (by simp)
 split at h1 <;> first | assumption | (cases h1)
theorem under_struct {P : Program} {t : Nat} {fs : List (Nat × Nat)} (h : tk P t = .struct fs) : ∃ fsA, P.underlying t = some (.struct fsA) ∧ fs = fsA.toList.map fun f => (f.type, f.offset) := by
 have h1 := under_of h (by simp)
 split at h1 <;> first | (injection h1 with h1; exact ⟨_, by assumption, h1.symm⟩) | (cases h1)
theorem under_slc {P : Program} {t e : Nat} (h : tk P t = .slc e) : P.underlying t = some (.slice e) := by
 have h1 := under_of h (by simp)
 split at h1 <;> first | (injection h1 with h1; subst h1; assumption) | (cases h1)

section
variable {H : Type} {enc : TypeId × Value → H} {P : Program} {A : Ann} {w : World}

theorem wf_in {n : Int} (h : (Lit.int .i64 n).wf = true) : inI n := by
 simp [Lit.wf, IntKind.min, IntKind.max, IntKind.signed, IntKind.bits] at h
 unfold inI; omega

theorem wf_byte {n : Int} (h : (Lit.int .u8 n).wf = true) : 0 ≤ n ∧ n ≤ 255 := by
 simp [Lit.wf, IntKind.min, IntKind.max, IntKind.signed, IntKind.bits] at h
 omega

/-- Several pieces of data, one by one. -/
theorem raws_mk : ∀ (ts : List Nat) (xs : List (DataW H)) (dd : Nat → D), xs.length = ts.length → (∀ i t x, ts[i]? = some t → xs[i]? = some x → Raw P t (dd i) (Rows.uptoBulk x)) →
  Raws P ts ((List.range ts.length).map dd) (Rows.uptoBulkAll xs)
 | [], [], dd, _, _ => .nil
 | [], _ :: _, dd, h, _ => by simp at h
 | _ :: _, [], dd, h, _ => by simp at h
 | t :: ts, x :: xs, dd, h, hr => by
  rw [List.length_cons, List.range_succ_eq_map, List.map_cons, List.map_map, Rows.uptoBulkAll]
  exact .cons (hr 0 t x rfl rfl) (raws_mk ts xs (dd ∘ Nat.succ) (by simpa using h) fun i t' x' h1 h2 => hr (i + 1) t' x' (by simpa using h1) (by simpa using h2))

theorem pick2 {α β : Type} [Inhabited α] [Inhabited β] {n : Nat} {p : Nat → α → β → Prop} (h : ∀ i, i < n → ∃ a b, p i a b) : ∃ (f : Nat → α) (g : Nat → β), ∀ i, i < n → p i (f i) (g i) := by
 have h' : ∀ i, ∃ ab : α × β, i < n → p i ab.1 ab.2 := fun i => by
  by_cases hi : i < n
  ·obtain ⟨a, b, hab⟩ := h i hi
   exact ⟨(a, b), fun _ => hab⟩
  ·exact ⟨default, fun h => absurd h hi⟩
 obtain ⟨f, hf⟩ := Classical.axiomOfChoice h'
 exact ⟨fun i => (f i).1, fun i => (f i).2, hf⟩

theorem range_getD (n : Nat) (dd : Nat → D) {i : Nat} (h : i < n) : ((List.range n).map dd).getD i .und = dd i := by
 simp [List.getD, h]

/-- WHAT IS READ IS DATA. -/
theorem raw_trod (W : WF P) : ∀ (n : Nat) {t fuel : Nat} {cs : List Value} {x : DataW H × List MemPlace}, argT P n t = true → DataW.trod enc P w 0 (fun _ => true) true fuel t cs = some x →
  ∃ d, Rep P A (fun _ => False) w t cs d ∧ Raw P t d (Rows.uptoBulk x.1)
 | 0, t, fuel, cs, x, ha, _ => by simp [argT] at ha
 | n + 1, t, fuel, cs, x, ha, h => by
  simp only [argT] at ha
  cases ht : tk P t with
  | int k =>
   rw [ht] at ha
   cases k <;> simp at ha
   ·obtain ⟨m, rfl, rfl, hw⟩ := DataW.trod_int (under_int ht) h
    exact ⟨.int m, .int ht, .int ht (wf_in hw) (bulk_pos _)⟩
   ·obtain ⟨m, rfl, rfl, hw⟩ := DataW.trod_int (under_int ht) h
    exact ⟨.int m, .int ht, .byte ht (wf_byte hw).1 (wf_byte hw).2 (bulk_pos _)⟩
  | bool =>
   obtain ⟨b, rfl, rfl⟩ := DataW.trod_bool (under_bool ht) h
   exact ⟨.bool b, .bool ht, .bool ht (bulk_pos _)⟩
  | str =>
   obtain ⟨b, rfl, rfl, _⟩ := DataW.trod_string (under_str ht) h
   refine ⟨.str b, .str ht, .str ht ?_⟩
   have e : b.data.toList.length = b.size := Array.length_toList
   simp only [Rows.uptoBulk]
   omega
  | slc e =>
   rw [ht] at ha
   simp only [Bool.and_eq_true, Nat.blt_eq] at ha
   obtain ⟨hc, hae⟩ := ha
   rcases DataW.trod_slice (under_slc ht) h with ⟨rfl, rfl⟩ | ⟨a, len, cap, elems, rest, n', _, rfl, rfl, _, hl, _, hlen, hel, hsp, _⟩
   ·exact ⟨.slc [], .slcN ht, .slc ht (by simpa using Raws.nil) (by simp [Rows.uptoBulk])⟩
   ·obtain ⟨hrl, hr⟩ := hsp rfl
    by_cases hcap : cap = 0
    ·subst hcap
     have h0 : len = 0 := by omega
     subst h0
     exact ⟨.slc [], .slcN ht, .slc ht (by simpa using Raws.nil) (by simp [Rows.uptoBulk])⟩
    ·obtain ⟨cs0, h0⟩ : ∃ cs0, w.cells? 0 a (P.cellsOf e) = some cs0 := by
      by_cases hl0 : 0 < len
      ·have := hel 0 hl0
       have hs : ∃ y, elems[0]? = some y := by
        rw [List.getElem?_eq_getElem (by omega)]; exact ⟨_, rfl⟩
       obtain ⟨y, hy⟩ := hs
       rw [hy, Option.bind_eq_some_iff] at this
       obtain ⟨c, h1, _⟩ := this
       exact ⟨c, by simpa [Addr.add] using h1⟩
      ·have := hr 0 (by omega)
       have hs : ∃ y, rest[0]? = some y := by
        rw [List.getElem?_eq_getElem (by omega)]; exact ⟨_, rfl⟩
       obtain ⟨y, hy⟩ := hs
       rw [hy, Option.bind_eq_some_iff] at this
       obtain ⟨c, h1, _⟩ := this
       have hl1 : len = 0 := by omega
       subst hl1
       exact ⟨c, by simpa [Addr.add] using h1⟩
     have hblt := World.cells?_block h0 hc
     obtain ⟨_, hl0, hc0⟩ := World.cells?_some h0
     obtain ⟨b, off, sp⟩ := a
     have hsp : sp = none := by
      have h1 := hc0 0 hc
      rw [List.getElem?_eq_getElem (by omega)] at h1
      simp only [Addr.add, World.cell?] at h1
      cases sp with
      | none => rfl
      | some z =>
       exfalso
       split at h1
       ·simp at h1
       ·cases h1
     subst hsp
     have hadd : ∀ k, (⟨b, off, none⟩ : Addr).add k = ⟨b, off + k, none⟩ := fun k => by
      unfold Addr.add
      split
      ·rename_i h0; subst h0; rfl
      ·rfl
     have each : ∀ i, i < len → ∃ (c : List Value) (d : D), c.length = P.cellsOf e ∧ Row w b (off + i * P.cellsOf e) c ∧ Rep P A (fun _ => False) w e c d ∧ ∀ y, elems[i]? = some y → Raw P e d (Rows.uptoBulk y.1) := fun i hi => by
      have h1 := hel i hi
      rw [List.getElem?_eq_getElem (by omega), Option.bind_eq_some_iff] at h1
      obtain ⟨c, h2, h3⟩ := h1
      obtain ⟨_, h4, h5⟩ := World.cells?_some h2
      obtain ⟨d, h6, h7⟩ := raw_trod W n hae h3
      refine ⟨c, d, h4, fun j hj => ?_, h6, fun y hy => ?_⟩
      ·have := h5 j (by omega)
       rw [hadd] at this
       have e2 : (⟨b, off + i * P.cellsOf e, none⟩ : Addr).add j = ⟨b, off + i * P.cellsOf e + j, none⟩ := by
        unfold Addr.add
        split
        ·rename_i h0; subst h0; rfl
        ·rfl
       rw [e2] at this
       exact this
      ·rw [List.getElem?_eq_getElem (by omega)] at hy
       injection hy with hy
       rw [← hy]
       exact h7
     obtain ⟨css, dd, hcd⟩ := pick2 each
     refine ⟨.slc ((List.range len).map dd), ?_, ?_⟩
     ·have hll : ((List.range len).map dd).length = len := by simp
      have := Rep.slc (P := P) (A := A) (X := fun _ => False) (w := w) (t := t) (e := e) (b := b) (off := off) (cap := cap) (xs := (List.range len).map dd) (css := css) ht (fun h => h) hblt (by simpa using hl)
       (fun i hi => (hcd i (by simpa using hi)).1) (fun i hi => (hcd i (by simpa using hi)).2.1) (fun i hi => by
        have hi' : i < len := by simpa using hi
        rw [range_getD len dd hi']
        exact (hcd i hi').2.2.1)
      rw [hll] at this
      exact this
     ·refine .slc ht (c := Rows.uptoBulkAll (elems.map (·.1))) ?_ ?_
      ·have := raws_mk (P := P) (List.replicate len e) (elems.map (·.1)) dd (by simp [hlen]) (fun i u y h1 h2 => ?_)
       ·simpa using this
       ·have hi : i < len := by
         have := (List.getElem?_eq_some_iff.1 h1).1
         simpa using this
        have hu : u = e := by
         rw [List.getElem?_replicate] at h1
         simp [hi] at h1
         exact h1.symm
        subst hu
        rw [List.getElem?_map, Option.map_eq_some_iff] at h2
        obtain ⟨y', hy1, rfl⟩ := h2
        exact (hcd i hi).2.2.2 y' hy1
      ·simp only [Rows.uptoBulk]; omega
  | struct fs =>
   rw [ht] at ha
   simp only at ha
   obtain ⟨fsA, hu, hfs⟩ := under_struct ht
   obtain ⟨xs, n', _, rfl, hlen, hxl, hxs⟩ := DataW.trod_struct hu h
   have each : ∀ i, i < fs.length → ∃ (c : Unit) (d : D), ∀ ft off, fs[i]? = some (ft, off) → Rep P A (fun _ => False) w ft (seg cs off (P.cellsOf ft)) d ∧ ∀ y, xs[i]? = some y → Raw P ft d (Rows.uptoBulk y.1) := fun i hi => by
    have hi' : i < fsA.size := by rw [hfs] at hi; simpa using hi
    have hf : fsA[i]? = some fsA[i] := by simp [hi']
    have h1 := hxs i _ hf
    rw [List.getElem?_eq_getElem (by omega)] at h1
    have h2 : argT P n fsA[i].type = true := by
     have h3 : (fsA[i].type, fsA[i].offset) ∈ fs := by
      rw [hfs]
      exact List.mem_map.mpr ⟨fsA[i], by simp, rfl⟩
     simpa using List.all_eq_true.1 ha _ h3
    obtain ⟨d, h4, h5⟩ := raw_trod W n h2 h1
    refine ⟨(), d, fun ft off hfo => ?_⟩
    rw [hfs, List.getElem?_map, Option.map_eq_some_iff] at hfo
    obtain ⟨z, hz, hz2⟩ := hfo
    have hz' : z = fsA[i] := by
     rw [Array.getElem?_toList, hf] at hz
     injection hz with hz
     exact hz.symm
    subst hz'
    simp only [Prod.mk.injEq] at hz2
    obtain ⟨rfl, rfl⟩ := hz2
    refine ⟨h4, fun y hy => ?_⟩
    rw [List.getElem?_eq_getElem (by omega)] at hy
    injection hy with hy
    rw [← hy]
    exact h5
   obtain ⟨_, dd, hdd⟩ := pick2 each
   refine ⟨.agg ((List.range fs.length).map dd), .struct ht hlen (by simp) (fun j ft off hj => ?_), ?_⟩
   ·have hj' := (List.getElem?_eq_some_iff.1 hj).1
    rw [range_getD fs.length dd hj']
    exact (hdd j hj' ft off hj).1
   ·have hfl : fs.length = fsA.size := by rw [hfs]; simp
    refine .struct ht (c := Rows.uptoBulkAll (xs.map (·.1))) ?_ (by simp [Rows.uptoBulk])
    have := raws_mk (P := P) (fs.map (·.1)) (xs.map (·.1)) dd (by simp [hxl, hfl]) (fun i u y h1 h2 => ?_)
    ·simpa using this
    ·rw [List.getElem?_map, Option.map_eq_some_iff] at h1
     obtain ⟨z, hz, rfl⟩ := h1
     rw [List.getElem?_map, Option.map_eq_some_iff] at h2
     obtain ⟨y', hy1, rfl⟩ := h2
     exact (hdd i (List.getElem?_eq_some_iff.1 hz).1 z.1 z.2 hz).2 y' hy1
  | _ => rw [ht] at ha; simp at ha

theorem mkV_cells {t : Nat} {v : Value} {base n : Nat} (hb : argT P (n + 1) t = true) (hval : Value.okWide P w .any base t v) : v = mkV P t v.cells.toList := by
 simp only [argT] at hb
 have one : ∀ {k : TK}, tk P t = k → isAgg k = false → Cell.okWide P w .any base t v → (∀ x, Cell.okWide P w .any base t (.agg x) → False) → v = mkV P t v.cells.toList := fun hk ha hok hno => by
  simp only [mkV, hk, ha]
  cases v <;> first | rfl | exact (hno _ hok).elim
 cases ht : tk P t with
 | int k =>
  have u := under_int ht
  exact one ht rfl (by simpa [Value.okWide, u] using hval) fun x h => by simp [Cell.okWide, Cell.ok, u] at h
 | bool =>
  have u := under_bool ht
  exact one ht rfl (by simpa [Value.okWide, u] using hval) fun x h => by simp [Cell.okWide, Cell.ok, u] at h
 | str =>
  have u := under_str ht
  exact one ht rfl (by simpa [Value.okWide, u] using hval) fun x h => by simp [Cell.okWide, Cell.ok, u] at h
 | slc e =>
  have u := under_slc ht
  exact one ht rfl (by simpa [Value.okWide, u] using hval) fun x h => by simp [Cell.okWide, Cell.ok, u] at h
 | struct fs =>
  obtain ⟨fsA, u, _⟩ := under_struct ht
  simp only [Value.okWide, u] at hval
  obtain ⟨cs, rfl, _⟩ := hval
  simp [mkV, ht, isAgg, Value.cells]
 | _ => rw [ht] at hb; simp at hb

/-- ONE ARGUMENT. -/
theorem raw_of (W : WF P) {t : Nat} {v : Value} {d : DataW H} {ps : List MemPlace} {base : Nat} (hb : argB P t = true) (hval : Value.okWide P w .any base t v)
  (hd : DataW.Trod enc P w 0 (fun _ => true) true t v d ps) : ∃ x, RepV P A (fun _ => False) w t v x ∧ Raw P t x (Rows.uptoBulk d) := by
 simp only [argB, Bool.and_eq_true] at hb
 obtain ⟨fuel, hf⟩ := hd
 obtain ⟨x, h1, h2⟩ := raw_trod (A := A) W 8 hb.2 hf
 refine ⟨x, ⟨_, h1, ?_⟩, h2⟩
 exact mkV_cells (n := 7) hb.2 hval

/-- ALL ARGUMENTS. -/
theorem raws_of (W : WF P) {base : Nat} : ∀ {ts : List Nat} {vs : List Value} {ds : List (DataW H)} {ps : List MemPlace}, ts.all (argB P) = true →
  (∀ (j : Nat) t v, ts[j]? = some t → vs[j]? = some v → Value.okWide P w .any base t v) → DataW.TrodAll enc P w 0 (fun _ => true) true ts vs ds ps →
  vs.length = ts.length ∧ ∃ xs, xs.length = ts.length ∧ (∀ (j : Nat) t, ts[j]? = some t → RepV P A (fun _ => False) w t (vs.getD j undef) (xs.getD j .und)) ∧ ∃ b, b ≤ Rows.uptoBulkAll ds ∧ Raws P ts xs b
 | [], vs, ds, ps, _, _, h => by
  obtain ⟨rfl, rfl, rfl⟩ := trodAll_nil h
  exact ⟨rfl, [], rfl, fun j t hj => by simp at hj, 0, Nat.zero_le _, .nil⟩
 | t :: ts, vs, ds, ps, ha, hval, h => by
  obtain ⟨v, vs', d, ds', p, q, rfl, rfl, rfl, h1, h2⟩ := trodAll_cons h
  simp only [List.all_cons, Bool.and_eq_true] at ha
  obtain ⟨x, hx, hr⟩ := raw_of (A := A) W ha.1 (hval 0 t v rfl rfl) h1
  obtain ⟨hl, xs, hxl, hxs, b, hb, hrs⟩ := raws_of W ha.2 (fun j u z hj hz => hval (j + 1) u z (by simpa using hj) (by simpa using hz)) h2
  refine ⟨by simp [hl], x :: xs, by simp [hxl], ?_, _, ?_, .cons hr hrs⟩
  ·intro j u hj
   cases j with
   | zero => simp only [List.getElem?_cons_zero, Option.some.injEq] at hj; subst hj; simpa using hx
   | succ j => simpa using hxs j u (by simpa using hj)
  ·simp only [Rows.uptoBulkAll]; omega

theorem trodAll_stays (hl : laidOutB P = true) {w' : World} {sp' : Nat → Bool} : ∀ {ts : List Nat} {vs : List Value} {ds : List (DataW H)} {ps : List MemPlace}, ts.all (argB P) = true →
  DataW.TrodAll enc P w 0 (fun _ => true) true ts vs ds ps → (∀ p ∈ ps, w.sameAt w' p) → (∀ p ∈ ps, sp' p.block = true) → DataW.TrodAll enc P w' 0 sp' true ts vs ds ps
 | [], vs, ds, ps, _, h, _, _ => by
  obtain ⟨rfl, rfl, rfl⟩ := trodAll_nil h
  exact trodAll_mk0
 | t :: ts, vs, ds, ps, ha, h, h1, h2 => by
  obtain ⟨v, vs', d, ds', p, q, rfl, rfl, rfl, h3, h4⟩ := trodAll_cons h
  simp only [List.all_cons, Bool.and_eq_true] at ha
  have hb := ha.1
  simp only [argB, Bool.and_eq_true] at hb
  exact trodAll_cons_mk (Go.WideElems.Trod_stays hl hb.1.2 (by simpa [Nat.blt_eq] using hb.1.1) h3 (fun x hx => h1 x (by simp [hx])) (fun x hx => h2 x (by simp [hx])))
   (trodAll_stays hl ha.2 h4 (fun x hx => h1 x (by simp [hx])) (fun x hx => h2 x (by simp [hx])))

theorem kept_of {w' : World} (h : Keeps (fun _ => False) w w') (may : MemPlace → Prop) : w.keptBut w' may := by
 refine ⟨h.os, h.output, fun i hi => ?_⟩
 rw [h.block i hi (fun x => x)]
 cases w.heap[i]? with
 | none => trivial
 | some o => cases o <;> simp

theorem trodAll_length : ∀ {ts : List Nat} {vs : List Value} {ds : List (DataW H)} {ps : List MemPlace} {base : Nat} {sp : Nat → Bool} {hd : Bool},
  DataW.TrodAll enc P w base sp hd ts vs ds ps → ds.length = ts.length
 | [], vs, ds, ps, _, _, _, h => by
  obtain ⟨rfl, rfl, rfl⟩ := trodAll_nil h
  rfl
 | t :: ts, vs, ds, ps, _, _, _, h => by
  obtain ⟨v, vs', d, ds', p, q, rfl, rfl, rfl, h1, h2⟩ := trodAll_cons h
  simp [trodAll_length h2]

/-- THE LAW's CALL: what its rule says is what its statement asks. -/
theorem contract_of (W : WF P) (hm : P.follows .mixedOrders = true) (hl : laidOutB P = true) {f tb : Nat} {fn : Func} {s : ChangeSpec} {again : Bool}
  (hsig : A.sig f = ⟨fn.params.toList.map .imm, [.val tb .imm], []⟩) (htb : tk P tb = .bool) (hres : fn.resultTypes = #[tb]) (hps : fn.params.toList.all (argB P) = true)
  (hvars : s.vars = []) (hfn : ∀ ds : List (DataW H), ds.length = fn.params.toList.length → s.fn H ds = { results := [.lit (.bool true)], args := ds })
  (hwp : ∀ ds b, Raws P fn.params.toList ds b → b ≤ 1048576 → ∃ n, wpF P A n f ds fun r => r = [.bool true])
  {base : Nat} {args : Array Value} {ds gs : List (DataW H)} {before : List MemPlace}
  (hval : ∀ (j : Nat) t v, fn.params[j]? = some t → args[j]? = some v → Value.okWide P w .any base t v)
  (hW : DataW.Whole enc P fn.params.toList s.vars false w args.toList ds gs before) (hk : Rows.uptoSmall H (ds ++ gs) = true) (hSp : SpOk P A := by exact fun _ _ h => nomatch h) :
  Calls P f args w fun e w' => ∃ v, e = .returned v ∧ s.post enc P fn false true false again w args v w' := by
 have hW' := hW
 obtain ⟨p, q, hA0, hV, rfl, hfz, hnd⟩ := hW
 rw [hvars] at hV
 obtain ⟨rfl, rfl⟩ := trodVars_none hV
 have hk' : Rows.uptoBulkAll (ds ++ []) ≤ 1048576 := of_decide_eq_true hk
 simp only [List.append_nil] at hk' hfz hW'
 obtain ⟨hlen, xs, hxl, hxs, b, hb, hraw⟩ := raws_of (A := A) W hps (fun j t v hj hv => hval j t v (by simpa using hj) (by simpa using hv)) hA0
 obtain ⟨n, hwp'⟩ := hwp xs b hraw (Nat.le_trans hb hk')
 have hargs : Args P A (fun _ => False) w (A.sig f).cel (A.sig f).ps args xs (fun _ => default) := by
  rw [hsig]
  refine args_read (by simp) (by simpa using hlen) (by simpa using hxl) (fun b h => h.elim) (fun i k hi => ?_) _
  simp only [List.getElem?_map, Option.map_eq_some_iff] at hi
  obtain ⟨t, ht, rfl⟩ := hi
  have := hxs i t ht
  simpa [ArgAt] using this
 have hdl : ds.length = fn.params.toList.length := trodAll_length hA0
 refine (rule_ok W hSp hm hwp' hargs).mono fun e w' => ?_
 rintro ⟨v, r, phR, vs, rfl, hr, hret⟩
 subst hr
 refine ⟨v, rfl, ?_⟩
 have hkeep : Keeps (fun _ => False) w w' := hret.keeps.mono fun b hb => by
  obtain ⟨o, x, hx, _⟩ := hb
  have hno := (no_lent (ps := (A.sig f).ps) (by rw [hsig]; simp)).2
  rw [hno] at hx
  cases hx
 have hv : v = .bool true := by
  have h1 := hret.size
  have h2 := hret.res 0 (.val tb .imm) (by rw [hsig]; rfl)
  rw [hsig] at h1
  have h3 := hret.val
  have h1' : vs.size = 1 := by simpa using h1
  obtain ⟨cs, hc, hv1⟩ : RepV P A _ w' tb (vs.getD 0 undef) (.bool true) := h2
  rw [h3, dif_pos h1']
  have h4 : vs.getD 0 undef = vs[0] := by simp [Array.getD, h1']
  rw [← h4, hv1]
  cases hc with
  | bool _ => simp [mkV, htb, isAgg]
 subst hv
 have hplt := hW'.lt
 have hsame : ∀ x ∈ p, w.sameAt w' x := by
  intro x hx
  have hx' := hplt x hx
  cases x with
  | cell b off => simp only [World.sameAt, World.cell?]; rw [hkeep.block b hx' (fun h => h)]
  | map b => simp only [World.sameAt]; rw [hkeep.block b hx' (fun h => h)]
 have hfz' : ∀ b off, MemPlace.cell b off ∈ p → w'.frozen? ⟨b, off, none⟩ = w.frozen? ⟨b, off, none⟩ := by
  intro b off hx
  simp only [World.frozen?]
  rw [hkeep.block b (hplt _ hx) (fun h => h)]
 have hspec := hfn ds hdl
 have hres1 : ∀ (b : Nat) (sp : Nat → Bool) (hd : Bool), DataW.TrodAll enc P w' b sp hd fn.resultTypes.toList ((Value.bool true).resultList fn.resultTypes.size) (s.fn H (ds ++ [])).results [] := by
  intro b sp hd
  rw [List.append_nil, hspec, hres]
  exact trodAll_cons_mk (shut_bool (under_bool htb) true) trodAll_mk0
 have hvars1 : ∀ sp : Nat → Bool, DataW.TrodVars enc P w' sp s.vars (s.fn H (ds ++ [])).vars [] := by
  intro sp
  rw [List.append_nil, hspec, hvars]
  rfl
 have hargs1 : ∀ sp : Nat → Bool, (∀ x ∈ p, sp x.block = true) → DataW.TrodAll enc P w' 0 sp true fn.params.toList args.toList (s.fn H (ds ++ [])).args p := by
  intro sp hsp
  rw [List.append_nil, hspec]
  exact trodAll_stays hl hps hA0 hsame hsp
 have hold : ∀ x ∈ p, (fun b => decide (b < w.heap.size)) x.block = true := fun x hx => by simpa using hplt x hx
 refine ⟨ds, [], p, [], p, [], hW', hres1 _ _ _, hargs1 _ hold, hvars1 _, kept_of hkeep _, fun _ => ⟨?_, ?_⟩⟩
 ·intro j t r hj hr
  rw [hres] at hj hr
  cases j with
  | zero =>
   simp at hj hr
   subst hj
   have hr' : r = .bool true := by simpa [Value.resultList] using hr.symm
   subst hr'
   exact okWide_bool_mk (under_bool htb) true
  | succ j => simp at hj
 ·refine ⟨_, _, [] ++ p ++ [], ⟨[] ++ p, [], trodAll_append (hargs1 _ (fun _ _ => rfl)) (hres1 _ _ _), hvars1 _, rfl, ?_, ?_⟩, ?_⟩
  ·intro b off hx
   simp only [List.nil_append, List.append_nil] at hx
   rw [hfz' b off hx]
   exact hfz b off hx
  ·intro h; cases h
  ·intro x hx _
   simpa using hx

end
end Go.Ab
