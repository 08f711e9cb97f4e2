/- The abstraction layer, part 2: rules that read a program as plain data, and that they are sound. Conditions: those in each theorem. -/
import Derived.Test.YtpkjnlmniacnaaaAbPart1
import Derived.Laws.CopyRow
import Derived.Laws.Entries
import Derived.Laws.StructEq
import Derived.Laws.Cover3
set_option linter.unusedVariables false
set_option linter.unusedSimpArgs false
/- An owned tree read as one that owns less. -/
namespace Go.Ab
variable {P : Program} {A : Ann}

theorem list_choice {α : Type} (d : α) {R : Nat → α → Prop} : ∀ n, (∀ i, i < n → ∃ x, R i x) → ∃ l : List α, l.length = n ∧ ∀ i, i < n → R i (l.getD i d)
  | 0, _ => ⟨[], rfl, fun i hi => absurd hi (by omega)⟩
  | n + 1, h => by
    obtain ⟨l, hl, hr⟩ := list_choice d n fun i hi => h i (by omega)
    obtain ⟨x, hx⟩ := h n (by omega)
    refine ⟨l ++ [x], by simp [hl], fun i hi => ?_⟩
    rw [List.getD_eq_getElem?_getD]
    by_cases e : i < n
    · rw [List.getElem?_append_left (by omega), ← List.getD_eq_getElem?_getD]
      exact hr i e
    · have : i = n := by omega
      subst this
      rw [List.getElem?_append_right (by omega), hl]
      simpa using hx

theorem fldL_all {l : List (Nat × Sh)} {f : Sh → Bool} (h : (l.all fun x => f x.2) = true) (j : Nat) : fldL l j = .imm ∨ f (fldL l j) = true := by
  induction l with
  | nil => exact .inl rfl
  | cons x l ih =>
    obtain ⟨i, s⟩ := x
    simp only [List.all_cons, Bool.and_eq_true] at h
    rw [fldL_cons]
    by_cases e : i = j
    · rw [if_pos e]; exact .inr h.1
    · rw [if_neg e]; exact ih h.2

/-- What is owned as a whole may be given away to be read. -/
theorem Own.plain {X X' : Nat → Prop} {w : World} (hX : ∀ b, b < w.heap.size → X' b → X b) {L : Lt} {s : Sh} {t : Nat} {cs : List Value} {d : D} (h : Own P A X w L s t cs d) :
    ∀ n, s = .imm ∨ s.plain n = true → (∀ b ∈ L.blocks, ¬ X' b) → Rep P A X' w t cs d := by
  induction h with
  | imm h => exact fun _ _ _ => h.anti hX
  | nil h => exact fun _ _ _ => .slcN h
  | slc h hb h1 h2 h3 h4 ih =>
    rename_i t e s ex b off cap E c kids xs
    intro n hp hB
    rcases hp with hp | hp
    · cases hp
    · cases n with
      | zero => simp [Sh.plain] at hp
      | succ n =>
        cases ex with
        | some x => simp [Sh.plain] at hp
        | none =>
          simp only [Sh.plain] at hp
          have hroom : ∀ k, k < xs.length → off + k * P.cellsOf e + P.cellsOf e ≤ c.size := by
            intro k hk'
            have := Nat.mul_le_mul_right (P.cellsOf e) (show k + 1 ≤ cap by omega)
            rw [Nat.add_mul] at this
            omega
          refine .slc h (hB _ (by simp [Lt.blocks])) (Array.getElem?_eq_some_iff.1 hb).1 h2 (fun i hi => seg_length (by simpa using hroom i hi)) (fun i hi => Row.of_block hb (hroom i hi)) fun i hi => ?_
          refine ih i hi n (.inr (by simpa [elS] using hp)) fun b' hb' => hB b' ?_
          simp only [Lt.blocks, List.mem_cons, mem_blocksL]
          exact .inr ⟨i, by omega, hb'⟩
  | agg h h1 h2 h3 h4 ih =>
    rename_i t l fs kids cs ds
    intro n hp hB
    have hf : ∀ j, ∃ m, fldL l j = .imm ∨ (fldL l j).plain m = true := by
      intro j
      rcases hp with hp | hp
      · cases hp
      · cases n with
        | zero => simp [Sh.plain] at hp
        | succ n => exact ⟨n, fldL_all (by simpa [Sh.plain] using hp) j⟩
    refine .struct h h1 h3 fun j ft o hj => ?_
    obtain ⟨m, hm⟩ := hf j
    refine ih j ft o hj m hm fun b' hb' => hB b' ?_
    simp only [Lt.blocks, mem_blocksL]
    exact ⟨j, by rw [h2]; exact (List.getElem?_eq_some_iff.1 hj).1, hb'⟩
  | gone => intro n hp; rcases hp with hp | hp <;> cases n <;> simp [Sh.plain] at hp
  | mp h hr h1 h2 h3 h4 h5 h6 h7 =>
    intro n _ hB
    exact .map h (hB _ (by simp [Lt.blocks])) hr h1 h2 h3 (fun j hj => (h4 j hj).anti hX) (fun j hj => (h5 j hj).anti hX)
  | it => intro n hp; rcases hp with hp | hp <;> cases n <;> simp [Sh.plain] at hp

/-- What of a tree is left. -/
structure Less (P : Program) (A : Ann) (X : Nat → Prop) (w : World) (L L' : Lt) (u : Sh) (t : Nat) (cs : List Value) (d : D) : Prop where
  sub : ∀ b ∈ L'.blocks, b ∈ L.blocks
  nodup : L'.blocks.Nodup
  hv : L'.hv = L.hv ∨ L' = .leaf
  own : ∀ X' : Nat → Prop, (∀ b, b < w.heap.size → X' b → X b) → (∀ b ∈ L.blocks, b ∉ L'.blocks → ¬ X' b) → Own P A X' w L' u t cs d

theorem Own.weakN {X : Nat → Prop} {w : World} {L : Lt} {s : Sh} {t : Nat} {cs : List Value} {d : D} (h : Own P A X w L s t cs d) :
    ∀ n u, s.weakN n u = true → L.blocks.Nodup → ∃ L', Less P A X w L L' u t cs d := by
  have himm : ∀ n, s.plain n = true → ∃ L', Less P A X w L L' .imm t cs d := fun n hp =>
    ⟨.leaf, by simp [Lt.blocks], by simp [Lt.blocks], .inr rfl, fun X' hX hB => .imm (h.plain hX n (.inr hp) fun b hb => hB b hb (by simp [Lt.blocks]))⟩
  induction h with
  | imm h =>
    intro n u hw _
    cases n with
    | zero => simp [Sh.weakN] at hw
    | succ n => cases u <;> simp [Sh.weakN] at hw; exact himm 1 (by simp [Sh.plain])
  | nil h =>
    intro n u hw _
    cases n with
    | zero => simp [Sh.weakN] at hw
    | succ n =>
      cases u with
      | imm => exact himm (n + 1) (by simpa [Sh.weakN] using hw)
      | slc u ex =>
        cases ex with
        | none => exact ⟨.nil, by simp, by simp [Lt.blocks], .inl rfl, fun _ _ _ => .nil h⟩
        | some => simp [Sh.weakN] at hw
      | _ => simp [Sh.weakN] at hw
  | slc h hb h1 h2 h3 h4 ih =>
    rename_i t e s ex b off cap E c kids xs
    intro n u hw hn
    cases n with
    | zero => simp [Sh.weakN] at hw
    | succ n =>
      cases u with
      | imm => exact himm (n + 1) (by simpa [Sh.weakN] using hw)
      | slc u eu =>
        cases ex with
        | some => cases eu <;> simp [Sh.weakN] at hw
        | none =>
          cases eu with
          | some => simp [Sh.weakN] at hw
          | none =>
            simp only [Sh.weakN] at hw
            simp only [Lt.blocks, List.nodup_cons] at hn
            have hnk := nodup_blocksL hn.2
            obtain ⟨ks, hks, hr⟩ := list_choice Lt.leaf xs.length (R := fun i L' => Less P A X w (kids.getD i .leaf) L' u e (seg c.toList (off + i * P.cellsOf e) (P.cellsOf e)) (xs.getD i .und))
              fun i hi => ih i hi (fun m hm => ⟨.leaf, by simp [Lt.blocks], by simp [Lt.blocks], .inr rfl, fun X' hX hB => .imm ((h4 i hi).plain hX m (.inr hm) fun b hb => hB b hb (by simp [Lt.blocks]))⟩) n u hw (hnk.1 i (by omega))
            refine ⟨.slc b off cap ks, fun b' hb' => ?_, ?_, .inl (by simp [Lt.hv, hks, h1]), fun X' hX hB => ?_⟩
            · simp only [Lt.blocks, List.mem_cons, mem_blocksL] at hb' ⊢
              rcases hb' with hb' | ⟨i, hi, hb'⟩
              · exact .inl hb'
              · exact .inr ⟨i, by omega, (hr i (by omega)).sub b' hb'⟩
            · simp only [Lt.blocks, List.nodup_cons]
              refine ⟨fun hb' => ?_, nodup_blocksL_mk (fun i hi => (hr i (by omega)).nodup) fun i j b' hi hj hb1 hb2 => hnk.2 i j b' (by omega) (by omega) ((hr i (by omega)).sub b' hb1) ((hr j (by omega)).sub b' hb2)⟩
              obtain ⟨i, hi, hb'⟩ := mem_blocksL.1 hb'
              exact hn.1 (mem_blocksL.2 ⟨i, by omega, (hr i (by omega)).sub b hb'⟩)
            · refine .slc h hb (by omega) h2 h3 fun i hi => ?_
              refine (hr i hi).own X' hX fun b' hb1 hb2 => hB b' ?_ fun hb3 => ?_
              · simp only [Lt.blocks, List.mem_cons, mem_blocksL]
                exact .inr ⟨i, by omega, hb1⟩
              · simp only [Lt.blocks, List.mem_cons, mem_blocksL] at hb3
                rcases hb3 with hb3 | ⟨k, hk, hb3⟩
                · exact hn.1 (mem_blocksL.2 ⟨i, by omega, hb3 ▸ hb1⟩)
                · have := hnk.2 k i b' (by omega) (by omega) ((hr k (by omega)).sub b' hb3) hb1
                  exact hb2 (this ▸ hb3)
      | _ => simp [Sh.weakN] at hw
  | agg h h1 h2 h3 h4 ih =>
    rename_i t l fs kids cs ds
    intro n u hw hn
    cases n with
    | zero => simp [Sh.weakN] at hw
    | succ n =>
      cases u with
      | imm => exact himm (n + 1) (by simpa [Sh.weakN] using hw)
      | agg m =>
        simp only [Sh.weakN, Bool.and_eq_true, List.all_eq_true] at hw
        have hwj : ∀ j, fldL l j = fldL m j ∨ (fldL l j).weakN n (fldL m j) = true := by
          intro j
          have mem : ∀ (l : List (Nat × Sh)) (j : Nat), fldL l j = .imm ∨ (j, fldL l j) ∈ l := by
            intro l j
            induction l with
            | nil => exact .inl rfl
            | cons x l ih =>
              obtain ⟨i, s⟩ := x
              rw [fldL_cons]
              by_cases e : i = j
              · rw [if_pos e, e]; exact .inr (by simp)
              · rw [if_neg e]; exact ih.imp id fun h => List.mem_cons_of_mem _ h
          rcases mem l j with h1 | h1
          · rcases mem m j with h2 | h2
            · exact .inl (h1.trans h2.symm)
            · exact .inr (hw.2 _ h2)
          · exact .inr (hw.1 _ h1)
        simp only [Lt.blocks] at hn
        have hnk := nodup_blocksL hn
        obtain ⟨ks, hks, hr⟩ := list_choice Lt.leaf fs.length (R := fun j L' => ∀ (ft o : Nat), fs[j]? = some (ft, o) → Less P A X w (kids.getD j .leaf) L' (fldL m j) ft (seg cs o (P.cellsOf ft)) (ds.getD j .und))
          fun j hj => by
            have hj' : fs[j]? = some (fs[j].1, fs[j].2) := by simp [List.getElem?_eq_getElem hj]
            have hnj := hnk.1 j (by omega)
            have := h4 j _ _ hj'
            rcases hwj j with e | e
            · refine ⟨kids.getD j .leaf, fun ft o hf => ?_⟩
              have hL := h4 j ft o hf
              rw [← e]
              exact ⟨fun _ h => h, hnj, .inl rfl, fun X' hX _ => hL.frame (Nat.le_refl _) hX (fun _ _ _ => rfl) fun _ _ => rfl⟩
            · obtain ⟨L', hL'⟩ := ih j _ _ hj' (fun m hm => ⟨.leaf, by simp [Lt.blocks], by simp [Lt.blocks], .inr rfl, fun X' hX hB => .imm (this.plain hX m (.inr hm) fun b hb => hB b hb (by simp [Lt.blocks]))⟩) n _ e hnj
              refine ⟨L', fun ft o hf => ?_⟩
              rw [hj'] at hf
              injection hf with hf
              injection hf with e1 e2
              subst e1 e2
              exact hL'
        have hget : ∀ j, j < fs.length → ∃ ft o, fs[j]? = some (ft, o) := fun j hj => ⟨fs[j].1, fs[j].2, by simp [List.getElem?_eq_getElem hj]⟩
        refine ⟨.agg ks, fun b' hb' => ?_, ?_, .inl rfl, fun X' hX hB => ?_⟩
        · simp only [Lt.blocks, mem_blocksL] at hb' ⊢
          obtain ⟨j, hj, hb'⟩ := hb'
          obtain ⟨ft, o, hf⟩ := hget j (by omega)
          exact ⟨j, by omega, (hr j (by omega) ft o hf).sub b' hb'⟩
        · simp only [Lt.blocks]
          refine nodup_blocksL_mk (fun j hj => ?_) fun i j b' hi hj hb1 hb2 => ?_
          · obtain ⟨ft, o, hf⟩ := hget j (by omega)
            exact (hr j (by omega) ft o hf).nodup
          · obtain ⟨ft, o, hf⟩ := hget j (by omega)
            obtain ⟨ft', o', hf'⟩ := hget i (by omega)
            exact hnk.2 i j b' (by omega) (by omega) ((hr i (by omega) _ _ hf').sub b' hb1) ((hr j (by omega) _ _ hf).sub b' hb2)
        · refine .agg h h1 hks h3 fun j ft o hf => ?_
          have hj := (List.getElem?_eq_some_iff.1 hf).1
          refine (hr j hj ft o hf).own X' hX fun b' hb1 hb2 => hB b' ?_ fun hb3 => ?_
          · simp only [Lt.blocks, mem_blocksL]
            exact ⟨j, by omega, hb1⟩
          · simp only [Lt.blocks, mem_blocksL] at hb3
            obtain ⟨k, hk, hb3⟩ := hb3
            obtain ⟨ft', o', hf'⟩ := hget k (by omega)
            have := hnk.2 k j b' (by omega) (by omega) ((hr k (by omega) _ _ hf').sub b' hb3) hb1
            exact hb2 (this ▸ hb3)
      | _ => simp [Sh.weakN] at hw
  | gone h =>
    intro n u hw _
    cases n with
    | zero => simp [Sh.weakN] at hw
    | succ n =>
      cases u <;> simp [Sh.weakN, Sh.plain] at hw
      exact ⟨.gone, by simp, by simp [Lt.blocks], .inl rfl, fun _ _ _ => .gone h⟩
  | mp h hr h1 h2 h3 h4 h5 h6 h7 =>
    intro n u hw hn
    cases n with
    | zero => simp [Sh.weakN] at hw
    | succ n =>
      cases u <;> simp [Sh.weakN] at hw
      · exact himm (n + 1) hw
      exact ⟨_, fun _ h => h, hn, .inl rfl, fun X' hX _ => .mp h hr h1 h2 h3 (fun j hj => (h4 j hj).anti hX) (fun j hj => (h5 j hj).anti hX) h6 h7⟩
  | it h hr =>
    intro n u hw _
    cases n with
    | zero => simp [Sh.weakN] at hw
    | succ n => cases u <;> simp [Sh.weakN, Sh.plain] at hw

end Go.Ab

/- How slots and objects stand to the world, and what of it outlasts a change. -/
namespace Go.Ab

/-- Where an object lies: its own cells, their block (a box), its tree, and blocks that it has left behind. -/
structure Ph where
  cs : List Value
  rb : Option Nat
  L : Lt
  G : List Nat
def Ph.S (p : Ph) : List Nat := p.L.blocks ++ p.G
def Ph.F (p : Ph) : List Nat := p.rb.toList ++ p.S
def Ph.root (p : Ph) : Option (Nat × Nat) := p.rb.map fun b => (b, 0)

section
variable (P : Program) (A : Ann)

structure OkObj (X : Nat → Prop) (w : World) (x : Obj) (p : Ph) : Prop where
  own : Own P A X w p.L x.sh x.t p.cs x.d
  box : x.box = true → ∃ b E c, p.rb = some b ∧ w.heap[b]? = some (.cells c E (0, 0)) ∧ c.toList = p.cs
  hdr : x.box = false → p.rb = none
  nodup : p.F.Nodup
  lt : ∀ b ∈ p.F, b < w.heap.size

/-- An iterator over a map, and what is left of it. -/
def Iter (X : Nat → Prop) (w : World) (x y : Obj) (q m : Ph) (v : Value) : Prop :=
  ∃ (r rm since last clock : Nat) (seen : Array Nat) (es : Array MapEntry) (k e : Nat) (ck ce : Nat → List Value),
    q.L = .it r ∧ v = .pointer (some ⟨r, 0, none⟩) ∧ m.L = .mp rm ∧ y.sh = .mp ∧ tk P x.t = .map k e ∧ w.heap[r]? = some (.mapIter (some rm) since seen last) ∧
    w.heap[rm]? = some (.map es clock) ∧ (∀ z ∈ es.toList, z.born < since) ∧ (es.toList.map (·.born)).Nodup ∧
    (es.filter fun z => !seen.contains z.born).size = x.d.es.length ∧
    (∀ j, j < x.d.es.length → ((es.filter fun z => !seen.contains z.born)[j]?).map (·.key) = some (mkV P k (ck j)) ∧ ((es.filter fun z => !seen.contains z.born)[j]?).map (·.val) = some (mkV P e (ce j)) ∧
      Rep P A X w k (ck j) (x.d.es.getD j (.und, .und)).1 ∧ Rep P A X w e (ce j) (x.d.es.getD j (.und, .und)).2) ∧
    since ≤ last ∧ clock = since

def AVR1v (X : Nat → Prop) (w : World) (ob : Nat → Option Obj) (ph : Nat → Ph) (o : Nat) (p : Pth) (t : Nat) (v : Value) : Prop :=
  ∀ x, ob o = some x → (x.sh = .it → ∃ m, p = [.fld m] ∧ tk P x.t = tk P t ∧ ∀ y, ob m = some y → Iter P A X w x y (ph o) (ph m) v) ∧
      (x.sh ≠ .it → ∃ u, tyAt P x.t p = some u ∧ tk P u = tk P t ∧ (((ph o).L.sub p).hv = some v ∨ (p = [] ∧ (ph o).rb = none ∧ v = mkV P x.t (ph o).cs)))

def AVR1 (X : Nat → Prop) (w : World) (ob : Nat → Option Obj) (ph : Nat → Ph) : AV → Value → Prop
  | .dead, _ => True
  | .und, v => v = undef
  | .con c, v => v = c
  | .imm t d, v => RepV P A X w t v d
  | .nils t, v => v = .slice none 0 0 ∧ ∃ e, tk P t = .slc e
  | .iptr e d, v => ∃ b off cs, v = .pointer (some ⟨b, off, none⟩) ∧ ¬ X b ∧ b < w.heap.size ∧ Row w b off cs ∧ Rep P A X w e cs d
  | .ptr o p e, v => ∀ x, ob o = some x → ∃ b off u, v = .pointer (some ⟨b, off, none⟩) ∧ (ph o).L.loc P (ph o).root x.t p = some (b, off) ∧ tyAt P x.t p = some u ∧ tk P u = tk P e
  | .val o p t, v => ∀ x, ob o = some x → (x.sh = .it → ∃ m, p = [.fld m] ∧ tk P x.t = tk P t ∧ ∀ y, ob m = some y → Iter P A X w x y (ph o) (ph m) v) ∧
      (x.sh ≠ .it → ∃ u, tyAt P x.t p = some u ∧ tk P u = tk P t ∧ (((ph o).L.sub p).hv = some v ∨ (p = [] ∧ (ph o).rb = none ∧ v = mkV P x.t (ph o).cs)))
  | .old o t d, v => ∀ x, ob o = some x → RepV P A (fun b => X b ∧ b ∉ (ph o).S) w t v d
  | .fn f, v => v = .func (.func f) #[] #[]
  | .vptr o p t, v => ∃ b off cs, v = .pointer (some ⟨b, off, none⟩) ∧ ¬ X b ∧ b < w.heap.size ∧ Row w b off cs ∧ cs.length = P.cellsOf t ∧ AVR1v P A X w ob ph o p t (mkV P t cs)
  | _, _ => False

def AVR (X : Nat → Prop) (w : World) (ob : Nat → Option Obj) (ph : Nat → Ph) : AV → Value → Prop
  | .tup l, v => ∃ vs : Array Value, v = .tuple vs ∧ vs.size = l.length ∧ ∀ (i : Nat) (a : AV), l[i]? = some a → AVR1 P A X w ob ph a (vs.getD i undef)
  | .clo f l, v => ∃ vs : Array Value, v = .func (.func f) #[] vs ∧ vs.size = l.length ∧ ∀ (i : Nat) (a : AV), l[i]? = some a → AVR1 P A X w ob ph a (vs.getD i undef)
  | a, v => AVR1 P A X w ob ph a v

/-- What is out of reach: what the caller keeps, and what is owned. -/
def Xof (X0 : Nat → Prop) (ob : Nat → Option Obj) (ph : Nat → Ph) : Nat → Prop := fun b => X0 b ∨ ∃ o x, ob o = some x ∧ b ∈ (ph o).F

/-- Objects in a world: apart from each other, from what the caller keeps, and new or lent. -/
structure Objs' (X0 Y0 : Nat → Prop) (n0 : Nat) (ob : Nat → Option Obj) (ph : Nat → Ph) (w : World) : Prop where
  ok : ∀ o x, ob o = some x → OkObj P A (Xof X0 ob ph) w x (ph o)
  apart : ∀ o x o' x', ob o = some x → ob o' = some x' → o ≠ o' → ∀ b ∈ (ph o).F, b ∉ (ph o').F
  free : ∀ o x, ob o = some x → ∀ b ∈ (ph o).F, ¬ X0 b
  ours : ∀ o x, ob o = some x → ∀ b ∈ (ph o).F, Y0 b ∨ n0 ≤ b
  old : ∀ b, X0 b → b < n0

structure Rel (X0 Y0 : Nat → Prop) (w0 : World) (g : Nat → AV) (ob : Nat → Option Obj) (ph : Nat → Ph) (tmps : Array Value) (w : World) : Prop where
  objs : Objs' P A X0 Y0 w0.heap.size ob ph w
  slots : ∀ s, AVR P A (Xof X0 ob ph) w ob ph (g s) (tmps.getD s undef)
  keeps : Keeps Y0 w0 w
end

variable {P : Program} {A : Ann}

def AV.ref : AV → Option Nat
  | .ptr o _ _ => some o
  | .val o _ _ => some o
  | .old o _ _ => some o
  | _ => none

def strike1 : List (Nat × KM) → AV → AV
  | [], a => a
  | k :: ks, a => strike1 ks (fall1 k.1 k.2 a)

theorem strike1_dead (ks : List (Nat × KM)) : strike1 ks .dead = .dead := by
  induction ks with
  | nil => rfl
  | cons k ks ih => obtain ⟨o, m⟩ := k; cases m <;> exact ih

def KM.isApp : KM → Bool
  | .app _ => true
  | _ => false

theorem cond_or {α : Type _} (b : Bool) (x y : α) : cond b x y = y ∨ cond b x y = x := by cases b <;> simp

theorem fall1_or (o : Nat) (m : KM) (a : AV) (h : m.isApp = false ∨ a.ref ≠ some o) : fall1 o m a = a ∨ fall1 o m a = .dead := by
  have hne : ∀ o', a.ref = some o' → m.isApp = true → Nat.beq o o' = false := by
    intro o' e hm
    rcases h with h | h
    · rw [h] at hm; cases hm
    · rw [Bool.eq_false_iff, Ne, beq_iff]
      exact fun e' => h (e' ▸ e)
  cases m <;> cases a <;> first
    | exact .inl rfl
    | exact cond_or _ _ _
    | (left; simp only [fall1, hne _ rfl rfl, cond_false])

theorem strike1_or : ∀ (ks : List (Nat × KM)) (a : AV), (∀ k ∈ ks, k.2.isApp = false ∨ a.ref ≠ some k.1) → strike1 ks a = .dead ∨ (strike1 ks a = a ∧ ∀ k ∈ ks, fall1 k.1 k.2 a = a)
  | [], a, _ => .inr ⟨rfl, by simp⟩
  | k :: ks, a, h => by
    simp only [strike1]
    rcases fall1_or k.1 k.2 a (h k (by simp)) with e | e
    · rw [e]
      rcases strike1_or ks a (fun k hk => h k (List.mem_cons_of_mem _ hk)) with h1 | ⟨h1, h2⟩
      · exact .inl h1
      · exact .inr ⟨h1, fun k' hk' => by
          rcases List.mem_cons.1 hk' with rfl | hk'
          · exact e
          · exact h2 k' hk'⟩
    · rw [e, strike1_dead]
      exact .inl rfl

theorem strike_tup (ks : List (Nat × KM)) : ∀ l, strike ks (.tup l) = .tup (l.map (strike1 ks)) := by
  induction ks with
  | nil => intro l; simp [strike, strike1]
  | cons k ks ih => intro l; simp only [strike, fall, ih, List.map_map]; rfl
theorem strike_clo (ks : List (Nat × KM)) (f : Nat) : ∀ l, strike ks (.clo f l) = .clo f (l.map (strike1 ks)) := by
  induction ks with
  | nil => intro l; simp [strike, strike1]
  | cons k ks ih => intro l; simp only [strike, fall, ih, List.map_map]; rfl

theorem fall_flat (k : Nat × KM) {a : AV} (h : a.flatA = true) : fall k a = fall1 k.1 k.2 a ∧ (fall1 k.1 k.2 a).flatA = true := by
  obtain ⟨o, m⟩ := k
  cases a <;> simp only [AV.flatA, Bool.false_eq_true] at h <;> refine ⟨rfl, ?_⟩ <;> cases m <;> simp only [fall1, cond_eq] <;> (repeat' split) <;> rfl
theorem strike_flat : ∀ (ks : List (Nat × KM)) {a : AV}, a.flatA = true → strike ks a = strike1 ks a ∧ (strike1 ks a).flatA = true
  | [], a, h => ⟨rfl, h⟩
  | k :: ks, a, h => by
    obtain ⟨e, h'⟩ := fall_flat k h
    simp only [strike, strike1, e]
    exact strike_flat ks h'

/-- How references to an object outlast a step. -/
inductive Stays (P : Program) (ob ob' : Nat → Option Obj) (ph ph' : Nat → Ph) (w w' : World) (ks : List (Nat × KM)) (o : Nat) : Prop
  | all : (o, KM.all) ∈ ks → Stays P ob ob' ph ph' w w' ks o
  | same : ob' o = ob o → ph' o = ph o → (∀ b ∈ (ph o).F, w'.heap[b]? = w.heap[b]?) → Stays P ob ob' ph ph' w w' ks o
  | pth {x x' : Obj} (p : Pth) : (o, KM.pth p) ∈ ks → ob o = some x → ob' o = some x' → x'.t = x.t → x.sh ≠ .it → x'.sh ≠ .it → (x.sh = .mp → under p [.fld o] = true) → (ph' o).rb = (ph o).rb → ((ph o).rb = none → p ≠ [] ∧ (ph' o).cs = (ph o).cs) →
      (∀ q, underIdx p q = false → (ph' o).L.loc P (ph o).root x.t q = (ph o).L.loc P (ph o).root x.t q) → (∀ q, under p q = false → ((ph' o).L.sub q).hv = ((ph o).L.sub q).hv) →
      ((o, KM.cut) ∉ ks → p.any Stp.isIdx = false → ∀ b ∈ (ph o).S, w'.heap[b]? = w.heap[b]?) → Stays P ob ob' ph ph' w w' ks o
  | wk {x x' : Obj} (bx : Bool) : (o, KM.wk bx) ∈ ks → ob o = some x → ob' o = some x' → x'.t = x.t → x.sh ≠ .it → x'.sh ≠ .it → (ph' o).rb = (ph o).rb → (bx = false → (ph o).rb = none ∧ (ph' o).cs = (ph o).cs ∧ ∀ v, (ph o).L.hv = some v → v = mkV P x.t (ph o).cs) →
      (∀ b ∈ (ph o).S, w'.heap[b]? = w.heap[b]?) → Stays P ob ob' ph ph' w w' ks o
  | ln {x x' : Obj} : (o, KM.ln) ∈ ks → ob o = some x → ob' o = some x' → x'.t = x.t → (ph' o).rb = (ph o).rb → Stays P ob ob' ph ph' w w' ks o
  | lv {x x' : Obj} : (o, KM.lv) ∈ ks → ob o = some x → ob' o = some x' → x'.t = x.t → x.sh ≠ .it → x'.sh ≠ .it → (ph' o).rb = none → (∀ v, ((ph o).L.hv = some v ∨ v = mkV P x.t (ph o).cs) → v = mkV P x.t (ph' o).cs) → Stays P ob ob' ph ph' w w' ks o

theorem cond_dead {b : Bool} {a : AV} (h : cond b .dead a = a) (ha : a ≠ .dead) : b = false := by
  cases b
  · rfl
  · exact absurd h.symm ha

section
variable {X0 : Nat → Prop} {ob ob' : Nat → Option Obj} {ph ph' : Nat → Ph} {w w' : World} {ks : List (Nat × KM)}

theorem Iter.frame {X X' : Nat → Prop} (hs : w.heap.size ≤ w'.heap.size) (hX : ∀ b, b < w.heap.size → X' b → X b) (hk : ∀ b, b < w.heap.size → ¬ X b → w'.heap[b]? = w.heap[b]?) {x y : Obj} {q m : Ph} {v : Value}
    (h : Iter P A X w x y q m v) (hq : ∀ b ∈ q.F, w'.heap[b]? = w.heap[b]?) (hm : ∀ b ∈ m.F, w'.heap[b]? = w.heap[b]?) : Iter P A X' w' x y q m v := by
  obtain ⟨r, rm, since, last, clock, seen, es, k, e, ck, ce, h1, h2, h3, h4, h5, h6, h7, h8, h9, h10, h11, h12⟩ := h
  refine ⟨r, rm, since, last, clock, seen, es, k, e, ck, ce, h1, h2, h3, h4, h5, (hq r ?_).trans h6, (hm rm ?_).trans h7, h8, h9, h10, fun j hj => ?_, h12⟩
  · simp [Ph.F, Ph.S, h1, Lt.blocks]
  · simp [Ph.F, Ph.S, h3, Lt.blocks]
  · obtain ⟨a, b, c, d⟩ := h11 j hj
    exact ⟨a, b, c.frame hs hX hk, d.frame hs hX hk⟩

theorem AVR1.stays0 {X X' : Nat → Prop} (hs : w.heap.size ≤ w'.heap.size) (hX : ∀ b, b < w.heap.size → X' b → X b) (hk : ∀ b, b < w.heap.size → ¬ X b → w'.heap[b]? = w.heap[b]?)
    (happ : ∀ k ∈ ks, k.2.isApp = false) (hst : ∀ o x', ob' o = some x' → Stays P ob ob' ph ph' w w' ks o)
    (hS : ∀ o x x', ob o = some x → ob' o = some x' → (o, KM.all) ∉ ks → (o, KM.cut) ∉ ks → ((o, KM.ln) ∉ ks ∧ (o, KM.lv) ∉ ks) → ∀ b, b < w.heap.size → (X' b ∧ b ∉ (ph' o).S) → (X b ∧ b ∉ (ph o).S))
    {a : AV} {v : Value} (hnv : ∀ o p t, a ≠ .vptr o p t) (h : AVR1 P A X w ob ph a v) : AVR1 P A X' w' ob' ph' (strike1 ks a) v := by
  rcases strike1_or ks a (fun k hk => .inl (happ k hk)) with e | ⟨e, hf⟩
  · rw [e]; trivial
  · rw [e]
    cases a with
    | dead => trivial
    | und => exact h
    | con c => exact h
    | imm t d => exact RepV.frame hs hX hk h
    | nils t => exact h
    | iptr e d =>
      obtain ⟨b, off, cs, h1, h2, h3, h4, h5⟩ := h
      exact ⟨b, off, cs, h1, fun y => h2 (hX b h3 y), Nat.lt_of_lt_of_le h3 hs, fun i hi => by rw [← h4 i hi]; simp only [World.cell?, hk b h3 h2], h5.frame hs hX hk⟩
    | ptr o p e =>
      intro x' hx'
      cases hst o x' hx' with
      | all hm =>
        have := hf _ hm
        simp [fall1] at this
      | same h1 h2 _ =>
        obtain ⟨b, off, u, g1, g2, g3, g4⟩ := h x' (h1 ▸ hx')
        exact ⟨b, off, u, g1, by rw [h2]; exact g2, g3, g4⟩
      | pth p0 hm h1 h2 h3 _ _ _ h5 _ h7 _ _ =>
        have hu := cond_dead (hf _ hm) (by simp)
        simp only [beq_iff.2 rfl, Bool.true_and] at hu
        rw [hx'] at h2
        injection h2 with h2
        subst h2
        obtain ⟨b, off, u, g1, g2, g3, g4⟩ := h _ h1
        refine ⟨b, off, u, g1, ?_, by rw [h3]; exact g3, g4⟩
        have hr : (ph' o).root = (ph o).root := by simp only [Ph.root, h5]
        rw [hr, h3, h7 p hu]
        exact g2
      | wk bx hm h1 h2 h3 _ _ h5 _ _ =>
        have hu := cond_dead (hf _ hm) (by simp)
        simp only [beq_iff.2 rfl, Bool.true_and] at hu
        rw [hx'] at h2
        injection h2 with h2
        subst h2
        obtain ⟨b, off, u, g1, g2, g3, g4⟩ := h _ h1
        refine ⟨b, off, u, g1, ?_, by rw [h3]; exact g3, g4⟩
        have hr : (ph' o).root = (ph o).root := by simp only [Ph.root, h5]
        rw [hr, h3, loc_noIdx p _ _ (ph o).L _ hu]
        exact g2
      | ln hm h1 h2 h3 h5 =>
        have hu := cond_dead (hf _ hm) (by simp)
        simp only [beq_iff.2 rfl, Bool.true_and] at hu
        rw [hx'] at h2
        injection h2 with h2
        subst h2
        obtain ⟨b, off, u, g1, g2, g3, g4⟩ := h _ h1
        refine ⟨b, off, u, g1, ?_, by rw [h3]; exact g3, g4⟩
        have hr : (ph' o).root = (ph o).root := by simp only [Ph.root, h5]
        rw [hr, h3, loc_noIdx p _ _ (ph o).L _ hu]
        exact g2
      | lv hm =>
        have := hf _ hm
        simp [fall1] at this
    | val o p t =>
      intro x' hx'
      cases hst o x' hx' with
      | all hm =>
        have := hf _ hm
        simp [fall1] at this
      | same h1 h2 h3 =>
        obtain ⟨g1, g2⟩ := h x' (h1 ▸ hx')
        refine ⟨fun hit => ?_, fun hn => by rw [h2]; exact g2 hn⟩
        obtain ⟨m, hp, ht, hy⟩ := g1 hit
        subst hp
        refine ⟨m, rfl, ht, fun y' hy' => ?_⟩
        cases hst m y' hy' with
        | all hm =>
          have := hf _ hm
          simp [fall1] at this
        | same k1 k2 k3 =>
          rw [h2, k2]
          exact (hy y' (k1 ▸ hy')).frame hs hX hk h3 k3
        | pth p0 hm k1 k2 k3 _ _ k4 _ _ _ _ _ =>
          exfalso
          have hsh : _ := hy _ k1
          obtain ⟨r, rm, since, last, clock, seen, es, k, e, ck, ce, _, _, _, hmp, _⟩ := hsh
          have := hf _ hm
          simp [fall1, k4 hmp] at this
        | wk bx hm =>
          exfalso
          have := hf _ hm
          simp [fall1] at this
        | ln hm =>
          exfalso
          have := hf _ hm
          simp [fall1] at this
        | lv hm =>
          exfalso
          have := hf _ hm
          simp [fall1] at this
      | pth p0 hm h1 h2 h3 h4 h5 _ h6 h7 _ h8 _ =>
        have hu := cond_dead (hf _ hm) (by simp)
        simp only [beq_iff.2 rfl, Bool.true_and, Bool.or_eq_false_iff] at hu
        rw [hx'] at h2
        injection h2 with h2
        subst h2
        obtain ⟨_, g2⟩ := h _ h1
        refine ⟨fun hit => absurd hit h5, fun _ => ?_⟩
        obtain ⟨u, a1, a2, a3⟩ := g2 h4
        refine ⟨u, by rw [h3]; exact a1, a2, ?_⟩
        rcases a3 with a3 | ⟨b1, b2, b3⟩
        · exact .inl ((h8 p hu.1).trans a3)
        · refine .inr ⟨b1, by rw [h6]; exact b2, ?_⟩
          rw [h3, (h7 b2).2]
          exact b3
      | wk bx hm h1 h2 h3 h4 h5 h6 h7 _ =>
        have hu := cond_dead (hf _ hm) (by simp)
        simp only [beq_iff.2 rfl, Bool.true_and, Bool.or_eq_false_iff] at hu
        obtain ⟨⟨hbx, hp⟩, _⟩ := hu
        obtain ⟨c1, c2, c3⟩ := h7 hbx
        have hp' : p = [] := by simpa using hp
        subst hp'
        rw [hx'] at h2
        injection h2 with h2
        subst h2
        obtain ⟨_, g2⟩ := h _ h1
        refine ⟨fun hit => absurd hit h5, fun _ => ?_⟩
        obtain ⟨u, a1, a2, a3⟩ := g2 h4
        refine ⟨u, by rw [h3]; exact a1, a2, .inr ⟨rfl, by rw [h6]; exact c1, ?_⟩⟩
        rw [h3, c2]
        rcases a3 with a3 | ⟨_, _, b3⟩
        · exact c3 _ a3
        · exact b3
      | ln hm =>
        exfalso
        have := hf _ hm
        simp [fall1] at this
      | lv hm h1 h2 h3 h4 h5 h6 h7 =>
        have hu := cond_dead (hf _ hm) (by simp)
        simp only [beq_iff.2 rfl, Bool.true_and, Bool.or_eq_false_iff] at hu
        obtain ⟨hp, _⟩ := hu
        have hp' : p = [] := by simpa using hp
        subst hp'
        rw [hx'] at h2
        injection h2 with h2
        subst h2
        obtain ⟨_, g2⟩ := h _ h1
        refine ⟨fun hit => absurd hit h5, fun _ => ?_⟩
        obtain ⟨u, a1, a2, a3⟩ := g2 h4
        refine ⟨u, by rw [h3]; exact a1, a2, .inr ⟨rfl, h6, ?_⟩⟩
        rw [h3]
        refine h7 v ?_
        rcases a3 with a3 | ⟨_, _, b3⟩
        · exact .inl a3
        · exact .inr b3
    | old o t d =>
      intro x' hx'
      cases hst o x' hx' with
      | all hm =>
        have := hf _ hm
        simp [fall1] at this
      | same h1 h2 h3 =>
        have hna : (o, KM.all) ∉ ks := fun hm => by have := hf _ hm; simp [fall1] at this
        have hnc : (o, KM.cut) ∉ ks := fun hm => by have := hf _ hm; simp [fall1] at this
        have hnl : (o, KM.ln) ∉ ks ∧ (o, KM.lv) ∉ ks := ⟨fun hm => by have := hf _ hm; simp [fall1] at this, fun hm => by have := hf _ hm; simp [fall1] at this⟩
        refine RepV.frame hs (hS o x' x' (h1 ▸ hx') hx' hna hnc hnl) (fun b hb hn => ?_) (h x' (h1 ▸ hx'))
        by_cases hb' : b ∈ (ph o).S
        · exact h3 b (by simp [Ph.F, hb'])
        · by_cases hXb : X b
          · exact absurd ⟨hXb, hb'⟩ hn
          · exact hk b hb hXb
      | pth p0 hm h1 h2 h3 _ _ _ _ _ _ _ h9 =>
        have hna : (o, KM.all) ∉ ks := fun hm => by have := hf _ hm; simp [fall1] at this
        have hnc : (o, KM.cut) ∉ ks := fun hm => by have := hf _ hm; simp [fall1] at this
        have hnl : (o, KM.ln) ∉ ks ∧ (o, KM.lv) ∉ ks := ⟨fun hm => by have := hf _ hm; simp [fall1] at this, fun hm => by have := hf _ hm; simp [fall1] at this⟩
        have hu := cond_dead (hf _ hm) (by simp)
        simp only [beq_iff.2 rfl, Bool.true_and] at hu
        refine RepV.frame hs (hS o _ x' h1 hx' hna hnc hnl) (fun b hb hn => ?_) (h _ h1)
        by_cases hb' : b ∈ (ph o).S
        · exact h9 hnc hu b hb'
        · by_cases hXb : X b
          · exact absurd ⟨hXb, hb'⟩ hn
          · exact hk b hb hXb
      | wk bx hm h1 h2 h3 _ _ _ _ h9 =>
        have hna : (o, KM.all) ∉ ks := fun hm => by have := hf _ hm; simp [fall1] at this
        have hnc : (o, KM.cut) ∉ ks := fun hm => by have := hf _ hm; simp [fall1] at this
        have hnl : (o, KM.ln) ∉ ks ∧ (o, KM.lv) ∉ ks := ⟨fun hm => by have := hf _ hm; simp [fall1] at this, fun hm => by have := hf _ hm; simp [fall1] at this⟩
        refine RepV.frame hs (hS o _ x' h1 hx' hna hnc hnl) (fun b hb hn => ?_) (h _ h1)
        by_cases hb' : b ∈ (ph o).S
        · exact h9 b hb'
        · by_cases hXb : X b
          · exact absurd ⟨hXb, hb'⟩ hn
          · exact hk b hb hXb
      | ln hm =>
        exfalso
        have := hf _ hm
        simp [fall1] at this
      | lv hm =>
        exfalso
        have := hf _ hm
        simp [fall1] at this
    | vptr o p t => exact absurd rfl (hnv o p t)
    | tup l => exact h.elim
    | fn f => exact h
    | clo f l => exact h.elim

theorem AVR1.stays {X X' : Nat → Prop} (hs : w.heap.size ≤ w'.heap.size) (hX : ∀ b, b < w.heap.size → X' b → X b) (hk : ∀ b, b < w.heap.size → ¬ X b → w'.heap[b]? = w.heap[b]?)
    (happ : ∀ k ∈ ks, k.2.isApp = false) (hst : ∀ o x', ob' o = some x' → Stays P ob ob' ph ph' w w' ks o)
    (hS : ∀ o x x', ob o = some x → ob' o = some x' → (o, KM.all) ∉ ks → (o, KM.cut) ∉ ks → ((o, KM.ln) ∉ ks ∧ (o, KM.lv) ∉ ks) → ∀ b, b < w.heap.size → (X' b ∧ b ∉ (ph' o).S) → (X b ∧ b ∉ (ph o).S))
    {a : AV} {v : Value} (h : AVR1 P A X w ob ph a v) : AVR1 P A X' w' ob' ph' (strike1 ks a) v := by
  by_cases hnv : ∀ o p t, a ≠ .vptr o p t
  · exact AVR1.stays0 hs hX hk happ hst hS hnv h
  obtain ⟨o, p, t, rfl⟩ : ∃ o p t, a = .vptr o p t := by
    cases a <;> first | (exfalso; apply hnv; intro _ _ _ h; cases h; done) | exact ⟨_, _, _, rfl⟩
  rcases strike1_or ks (.vptr o p t) (fun k hk => .inl (happ k hk)) with e | ⟨e, hf⟩
  · rw [e]; trivial
  · rw [e]
    obtain ⟨b, off, cs, h1, h2, h3, h4, h5, h6⟩ := h
    have hval : strike1 ks (.val o p t) = .val o p t := by
      have : ∀ (l : List (Nat × KM)), (∀ k ∈ l, k.2.isApp = false) → (∀ k ∈ l, fall1 k.1 k.2 (.vptr o p t) = .vptr o p t) → strike1 l (.val o p t) = .val o p t := by
        intro l
        induction l with
        | nil => intro _ _; rfl
        | cons k l ih =>
          intro ha hl
          have h0 := hl k (by simp)
          have h1 := ha k (by simp)
          have e : fall1 k.1 k.2 (.val o p t) = .val o p t := by
            obtain ⟨q, m⟩ := k
            cases m with
            | app d => cases h1
            | cut => rfl
            | it =>
              have := cond_dead h0 (by simp)
              simp only [Bool.or_eq_false_iff] at this
              simp only [fall1, this.2, cond_false]
            | _ =>
              have := cond_dead h0 (by simp)
              simp only [fall1, this, cond_false]
          simp only [strike1, e]
          exact ih (fun k hk => ha k (List.mem_cons_of_mem _ hk)) fun k hk => hl k (List.mem_cons_of_mem _ hk)
      exact this ks happ hf
    have hv : AVR1 P A X' w' ob' ph' (strike1 ks (.val o p t)) (mkV P t cs) := AVR1.stays0 hs hX hk happ hst hS (by intro _ _ _ h; cases h) (a := .val o p t) h6
    rw [hval] at hv
    exact ⟨b, off, cs, h1, fun y => h2 (hX b h3 y), Nat.lt_of_lt_of_le h3 hs, fun i hi => by rw [← h4 i hi]; simp only [World.cell?, hk b h3 h2], h5, hv⟩

theorem AVR.stays {X X' : Nat → Prop} (hs : w.heap.size ≤ w'.heap.size) (hX : ∀ b, b < w.heap.size → X' b → X b) (hk : ∀ b, b < w.heap.size → ¬ X b → w'.heap[b]? = w.heap[b]?)
    (happ : ∀ k ∈ ks, k.2.isApp = false) (hst : ∀ o x', ob' o = some x' → Stays P ob ob' ph ph' w w' ks o)
    (hS : ∀ o x x', ob o = some x → ob' o = some x' → (o, KM.all) ∉ ks → (o, KM.cut) ∉ ks → ((o, KM.ln) ∉ ks ∧ (o, KM.lv) ∉ ks) → ∀ b, b < w.heap.size → (X' b ∧ b ∉ (ph' o).S) → (X b ∧ b ∉ (ph o).S))
    {a : AV} {v : Value} (h : AVR P A X w ob ph a v) : AVR P A X' w' ob' ph' (strike ks a) v := by
  by_cases hfl : a.flatA = true
  · obtain ⟨e, hf'⟩ := strike_flat ks hfl
    rw [e]
    have h1 : AVR1 P A X w ob ph a v := by cases a <;> first | exact h | simp [AV.flatA] at hfl
    have h2 := AVR1.stays (X := X) (X' := X') hs hX hk happ hst hS h1
    generalize strike1 ks a = c at h2 hf'
    cases c <;> first | exact h2 | simp [AV.flatA] at hf'
  · cases a <;> first | simp [AV.flatA] at hfl; done | skip
    · rename_i l
      rw [strike_tup]
      obtain ⟨vs, h1, h2, h3⟩ := h
      refine ⟨vs, h1, by simpa using h2, fun i a ha => ?_⟩
      simp only [List.getElem?_map, Option.map_eq_some_iff] at ha
      obtain ⟨a', ha', rfl⟩ := ha
      exact AVR1.stays (X := X) (X' := X') hs hX hk happ hst hS (h3 i a' ha')
    · rename_i f l
      rw [strike_clo]
      obtain ⟨vs, h1, h2, h3⟩ := h
      refine ⟨vs, h1, by simpa using h2, fun i a ha => ?_⟩
      simp only [List.getElem?_map, Option.map_eq_some_iff] at ha
      obtain ⟨a', ha', rfl⟩ := ha
      exact AVR1.stays (X := X) (X' := X') hs hX hk happ hst hS (h3 i a' ha')
end

end Go.Ab

/- What single operations of the model do, said by kinds of types. -/
namespace Go.Ab
variable {P : Program} {A : Ann}

theorem und_of_tk {t : Nat} (h : tk P t ≠ .other) : ∃ d, P.underlying t = some d ∧ t < P.types.size := by
  unfold tk at h
  rw [cond_eq] at h
  split at h
  · rename_i hb
    cases hu : P.underlying t with
    | none => rw [hu] at h; exact absurd rfl h
    | some d => exact ⟨d, rfl, by have := hb; simp [Nat.blt] at this; omega⟩
  · exact absurd rfl h

theorem tk_of_und {t : Nat} {k : TK} (h : tk P t = k) (hk : k ≠ .other) : tk P t = (match P.underlying t with
  | some (.int k) => .int k
  | some .bool => .bool
  | some .string => .str
  | some (.slice e) => .slc e
  | some (.struct fs) => .struct (fs.toList.map fun f => (f.type, f.offset))
  | some (.array n e) => .arr n e
  | some (.pointer e) => .ptr e
  | some (.func ..) => .fn
  | some (.interface _) => .ifc
  | some (.map k e) => .map k e
  | _ => .other) := by
  subst h
  unfold tk at hk ⊢
  rw [cond_eq] at hk ⊢
  split at hk
  · rename_i hb; rw [if_pos hb]; rfl
  · exact absurd rfl hk

theorem und_int {t : Nat} {k : IntKind} (h : tk P t = .int k) : P.underlying t = some (.int k) := by
  have := (tk_of_und h (by simp)).symm.trans h
  split at this <;> simp_all
theorem und_bool {t : Nat} (h : tk P t = .bool) : P.underlying t = some .bool := by
  have := (tk_of_und h (by simp)).symm.trans h
  split at this <;> simp_all
theorem und_str {t : Nat} (h : tk P t = .str) : P.underlying t = some .string := by
  have := (tk_of_und h (by simp)).symm.trans h
  split at this <;> simp_all
theorem und_slc {t e : Nat} (h : tk P t = .slc e) : P.underlying t = some (.slice e) := by
  have := (tk_of_und h (by simp)).symm.trans h
  split at this <;> simp_all
theorem und_ptr {t e : Nat} (h : tk P t = .ptr e) : P.underlying t = some (.pointer e) := by
  have := (tk_of_und h (by simp)).symm.trans h
  split at this <;> simp_all
theorem und_arr {t n e : Nat} (h : tk P t = .arr n e) : P.underlying t = some (.array n e) := by
  have := (tk_of_und h (by simp)).symm.trans h
  split at this <;> simp_all
theorem und_map {t k e : Nat} (h : tk P t = .map k e) : P.underlying t = some (.map k e) := by
  have := (tk_of_und h (by simp)).symm.trans h
  split at this <;> simp_all
theorem und_struct {t : Nat} {fs : List (Nat × Nat)} (h : tk P t = .struct fs) : ∃ f : Array Field, P.underlying t = some (.struct f) ∧ fs = f.toList.map fun f => (f.type, f.offset) := by
  have := (tk_of_und h (by simp)).symm.trans h
  split at this <;> simp_all
theorem und_ifc {t : Nat} (h : tk P t = .ifc) : ∃ m, P.underlying t = some (.interface m) := by
  have := (tk_of_und h (by simp)).symm.trans h
  split at this <;> simp_all

theorem info_of_tk {t : Nat} (h : tk P t ≠ .other) : ∃ i, P.info? t = some i ∧ i.size = P.cellsOf t ∧ i.bytes = P.bytesOf t := by
  obtain ⟨d, hd, _⟩ := und_of_tk h
  cases hi : P.info? t with
  | none => simp [Program.underlying, hi] at hd
  | some i => exact ⟨i, rfl, by simp [Program.cellsOf, hi], by simp [Program.bytesOf, hi]⟩

theorem run_sizeOf {t : Nat} (h : tk P t ≠ .other) (w : World) : (sizeOf t).run P w = .ok (P.cellsOf t) w := by
  obtain ⟨i, hi, hs, _⟩ := info_of_tk h
  simp [sizeOf, typeInfo, hi, hs]

theorem run_isAgg {t : Nat} (h : tk P t ≠ .other) (w : World) : (Go.isAgg t).run P w = .ok (isAgg (tk P t)) w := by
  obtain ⟨d, hd, _⟩ := und_of_tk h
  have := tk_of_und (k := tk P t) rfl h
  rw [hd] at this
  rw [this]
  cases d <;> simp [Go.isAgg, run_underlying hd, isAgg]

theorem addr_add (b o n : Nat) : (⟨b, o, none⟩ : Addr).add n = ⟨b, o + n, none⟩ := by
  unfold Addr.add
  by_cases h : n = 0
  · simp [h]
  · simp [h]

theorem run_loadVarRow {t b o : Nat} {cs : List Value} {w : World} (W : WF P) (ht : tk P t ≠ .other) (hr : Row w b o cs) (hl : cs.length = P.cellsOf t) :
    (loadVar t ⟨b, o, none⟩).run P w = .ok (mkV P t cs) w := by
  unfold loadVar
  simp only [Sem.run_bind, run_isAgg ht, Result.andThen_ok]
  by_cases ha : isAgg (tk P t) = true
  · have := run_loadCells_list (P := P) (w := w) ⟨b, o, none⟩ cs fun j v hj => by
      rw [addr_add, hr j (List.getElem?_eq_some_iff.1 hj).1, hj]
    rw [if_pos ha]
    simp only [Sem.run_bind, run_sizeOf ht, Result.andThen_ok, ← hl, this, Sem.run_pure, mkV, if_pos ha]
  · have h1 := W.one t (by simpa using ha) ht
    rw [if_neg ha]
    match cs, hl.trans h1 with
    | [v], _ =>
      have := hr 0 (by simp)
      simp only [Nat.add_zero, List.getElem?_cons_zero] at this
      simp [this, mkV, ha]

theorem run_storeVarAt {t b o : Nat} {ncs : List Value} {w : World} (W : WF P) (ht : tk P t ≠ .other) (hl : ncs.length = P.cellsOf t) {c : Array Value} {E : TypeId}
    (hb : w.heap[b]? = some (.cells c E (0, 0))) (hf : o + ncs.length ≤ c.size) (h1 : ∀ v ∈ ncs, v.oneCell' = true) :
    ∃ w', (storeVar t ⟨b, o, none⟩ (mkV P t ncs)).run P w = .ok () w' ∧ Wr w w' b o ncs := by
  have hcells : (mkV P t ncs).cells.toList = ncs := by
    unfold mkV
    by_cases ha : isAgg (tk P t) = true
    · rw [if_pos ha]; rfl
    · have h2 := W.one t (by simpa using ha) ht
      rw [if_neg ha]
      match ncs, hl.trans h2, h1 with
      | [v], _, h1 =>
        have := h1 v (by simp)
        cases v <;> first | rfl | simp [Value.oneCell'] at this
  have hsz : (mkV P t ncs).cells.size = P.cellsOf t := by rw [← Array.length_toList, hcells, hl]
  have hst := run_storeCells_at (P := P) b o E ncs 0 c w hb (by simpa using hf) h1
  refine ⟨w.setRow b (c.toList.take (o + 0) ++ ncs ++ c.toList.drop (o + 0 + ncs.length)).toArray, ?_, ?_⟩
  · unfold storeVar
    simp only [Sem.run_bind, run_sizeOf ht, Result.andThen_ok, hsz, ne_eq, not_true, if_false, hcells, hst]
  · have hbl := (Array.getElem?_eq_some_iff.1 hb).1
    refine ⟨rfl, rfl, rfl, by simp [World.setRow], fun b' hb' => ?_, c, _, E, hb, ?_, hf, rfl⟩
    · simp only [World.setRow]
      rw [Array.getElem?_modify]
      rw [if_neg (fun e => hb' e.symm)]
    · rw [setRow_heap w b c _ E _ hb]
      simp

end Go.Ab

/- Operations that only compute or read. -/
namespace Go.Ab
variable {P : Program} {A : Ann}

def findO : Objs → Nat → Option (Option Obj)
  | [], _ => none
  | (i, v) :: r, k => if i = k then some v else findO r k
/-- Objects behind a change. -/
def upO (os : Objs) (ob : Nat → Option Obj) (k : Nat) : Option Obj := (findO os k).getD (ob k)

theorem lookO_append (os l : Objs) (k : Nat) : lookO (os ++ l) k = upO os (lookO l) k := by
  induction os with
  | nil => rfl
  | cons x os ih =>
    obtain ⟨i, v⟩ := x
    simp only [List.cons_append, lookO, cond_eq, beq_iff, upO, findO]
    by_cases h : i = k
    · simp [h]
    · simp only [if_neg h, ih]; rfl

theorem strike_dead (ks : List (Nat × KM)) : strike ks .dead = .dead := by
  rw [(strike_flat ks rfl).1, strike1_dead]

theorem look_strikes (ks : List (Nat × KM)) (sl : Env) (k : Nat) : look (strikes ks sl) k = strike ks (look sl k) := by
  cases ks with
  | nil => rfl
  | cons x ks =>
    simp only [strikes]
    induction sl with
    | nil => exact (strike_dead (x :: ks)).symm
    | cons y sl ih =>
      obtain ⟨i, v⟩ := y
      simp only [List.map_cons, look, cond_eq]
      split <;> simp_all

section
variable (P : Program) (A : Ann) (X0 Y0 : Nat → Prop) (w0 : World) (g : Nat → AV) (ob : Nat → Option Obj) (tmps : Array Value)
/-- What stands behind an operation, before its slot is written. -/
def RelD (δ : Dl) (v : Value) (w' : World) : Prop :=
  ∃ ph', Objs' P A X0 Y0 w0.heap.size (upO δ.os ob) ph' w' ∧
    (∀ s, AVR P A (Xof X0 (upO δ.os ob) ph') w' (upO δ.os ob) ph' (strike δ.ks (g s)) (tmps.getD s undef)) ∧
    AVR P A (Xof X0 (upO δ.os ob) ph') w' (upO δ.os ob) ph' δ.v v ∧ Keeps Y0 w0 w'
end

/-- An operation comes to a value, whatever stands behind it. -/
def Does (P : Program) (o : Oper) (a : Act) (w : World) (R : Value → World → Prop) : Prop :=
  ∀ (next : Act → World → Prop) (Q : Exit → Act → World → Prop), (∀ v w', R v w' → next (a.put o.dst v) w') → o.wp P a w next Q

theorem Does.value {o : Oper} {a : Act} {w w' : World} {R : Value → World → Prop} {v : Value} (h : (execOp a.eval o).run P w = .ok (.value v) w') (hr : R v w') : Does P o a w R :=
  fun next Q hn => by unfold Oper.wp; rw [h]; exact hn v w' hr
theorem Does.skip {o : Oper} {a : Act} {w w' : World} {R : Value → World → Prop} (h : (execOp a.eval o).run P w = .ok .skip w') (hr : R undef w') : Does P o a w R :=
  fun next Q hn => by unfold Oper.wp; rw [h]; exact hn undef w' hr
theorem Does.mono {o : Oper} {a : Act} {w : World} {R R' : Value → World → Prop} (h : Does P o a w R) (hr : ∀ v w', R v w' → R' v w') : Does P o a w R' :=
  fun next Q hn => h next Q fun v w' h' => hn v w' (hr v w' h')

section
variable {X0 Y0 : Nat → Prop} {w0 : World} {g : St} {ph : Nat → Ph} {a : Act} {w : World}

/-- Slots, objects and the world. -/
abbrev RelA (P : Program) (A : Ann) (X0 Y0 : Nat → Prop) (w0 : World) (g : St) (ph : Nat → Ph) (a : Act) (w : World) : Prop :=
  Rel P A X0 Y0 w0 (look g.sl) (lookO g.ob) ph a.tmps w

theorem upO_nil (ob : Nat → Option Obj) : upO [] ob = ob := rfl

theorem RelD.pure (R : RelA P A X0 Y0 w0 g ph a w) {av : AV} {v : Value} (h : AVR P A (Xof X0 (lookO g.ob) ph) w (lookO g.ob) ph av v) :
    RelD P A X0 Y0 w0 (look g.sl) (lookO g.ob) a.tmps { v := av } v w :=
  ⟨ph, R.objs, fun s => R.slots s, h, R.keeps⟩

/-- A draw changes nothing that is told. -/
theorem AVR.eval (R : RelA P A X0 Y0 w0 g ph a w) (x : Operand) : AVR P A (Xof X0 (lookO g.ob) ph) w (lookO g.ob) ph (g.av x) (a.eval x) := by
  cases x with
  | tmp t => exact R.slots t
  | const v => exact rfl
  | global g => trivial
  | func f => exact rfl

theorem sameK_eq {t u : Nat} (h : sameK P t u = true) : tk P t = tk P u := by
  unfold sameK at h
  rw [cond_eq] at h
  split at h
  · rename_i hb; rw [beq_iff.1 hb]
  · simpa using h

theorem RepV.kind (W : WF P) {X : Nat → Prop} {w : World} {t u : Nat} {v : Value} {d : D} (h : RepV P A X w t v d) (e : tk P t = tk P u) : RepV P A X w u v d := by
  obtain ⟨cs, r, hv⟩ := h
  exact ⟨cs, r.kind W.kind e, by rw [hv, mkV_kind e]⟩

theorem mkV_one {t : Nat} {v : Value} (h : isAgg (tk P t) = false) : mkV P t [v] = v := by simp [mkV, h]

theorem conD_rep {X : Nat → Prop} {w : World} {t : Nat} {c : Value} {d : D} (h : conD P t c = some d) : RepV P A X w t c d := by
  unfold conD at h
  split at h <;> try contradiction
  · rename_i k k' n hk
    rw [cond_eq] at h
    split at h <;> try contradiction
    rename_i hkk
    simp only [Option.some.injEq] at h
    subst h
    have : k = k' := by simpa using hkk
    subst this
    exact ⟨_, .int hk, (mkV_one (by rw [hk]; rfl)).symm⟩
  · rename_i hk; simp only [Option.some.injEq] at h; subst h; exact ⟨_, .bool hk, (mkV_one (by rw [hk]; rfl)).symm⟩
  · rename_i hk; simp only [Option.some.injEq] at h; subst h; exact ⟨_, .str hk, (mkV_one (by rw [hk]; rfl)).symm⟩
  · rename_i hk; simp only [Option.some.injEq] at h; subst h; exact ⟨_, .slcN hk, (mkV_one (by rw [hk]; rfl)).symm⟩
  · rename_i hk; simp only [Option.some.injEq] at h; subst h; exact ⟨_, .ptrN hk, (mkV_one (by rw [hk]; rfl)).symm⟩
  · rename_i hk; simp only [Option.some.injEq] at h; subst h; exact ⟨_, .fnN hk, (mkV_one (by rw [hk]; rfl)).symm⟩
  · rename_i hk; simp only [Option.some.injEq] at h; subst h; exact ⟨_, .ifcN hk, (mkV_one (by rw [hk]; rfl)).symm⟩
  · rename_i hk; simp only [Option.some.injEq] at h; subst h; exact ⟨_, .mapN hk, (mkV_one (by rw [hk]; rfl)).symm⟩

theorem leaf_sub : ∀ p : Pth, Lt.leaf.sub p = .leaf
  | [] => rfl
  | .fld _ :: p => leaf_sub p
  | .idx _ :: p => leaf_sub p
  | .arr _ :: p => leaf_sub p

/-- What lies at a place that has a header. -/
theorem Own.sub (W : WF P) {X : Nat → Prop} {w : World} : ∀ (p : Pth) {L : Lt} {s : Sh} {t : Nat} {cs : List Value} {d : D} {u : Nat} {v : Sh} {hv : Value},
    Own P A X w L s t cs d → s.get p = some v → tyAt P t p = some u → (L.sub p).hv = some hv → ∃ cs', Own P A X w (L.sub p) v u cs' (d.get p)
  | [], L, s, t, cs, d, u, v, hv, h, hs, ht, _ => by
    simp only [Sh.get, tyAt, Option.some.injEq] at hs ht
    subst hs ht
    exact ⟨cs, h⟩
  | .fld j :: p, L, s, t, cs, d, u, v, hv, h, hs, ht, hh => by
    simp only [Sh.get] at hs
    split at hs <;> try contradiction
    rename_i sj hsj
    simp only [tyAt] at ht
    split at ht <;> try contradiction
    rename_i fs hk
    split at ht <;> try contradiction
    rename_i ft o hj
    obtain ⟨ds, rfl, hd, hc, hf⟩ := h.fields hk (Sh.fld_all hsj)
    exact Own.sub W p (hf j ft o hj sj hsj) hs ht hh
  | .idx i :: p, L, s, t, cs, d, u, v, hv, h, hs, ht, hh => by
    cases h with
    | slc hk hb h1 h2 h3 h4 =>
      rename_i e s' ex b off cap E c kids xs
      cases ex with
      | some x => simp [Sh.get] at hs
      | none =>
        simp only [Sh.get] at hs
        simp only [tyAt, hk] at ht
        simp only [Lt.sub, Lt.el] at hh
        by_cases hi : i < xs.length
        · exact Own.sub W p (h4 i hi : Own P A X w _ s' e _ _) hs ht hh
        · rw [List.getD_eq_getElem?_getD, List.getElem?_eq_none (by omega)] at hh
          simp [leaf_sub, Lt.hv] at hh
    | imm => simp [Sh.get] at hs
    | nil => simp [Lt.sub, Lt.el, leaf_sub, Lt.hv] at hh
    | agg => simp [Sh.get] at hs
    | gone => simp [Sh.get] at hs
    | mp => simp [Sh.get] at hs
    | it => simp [Sh.get] at hs
  | .arr i :: p, L, s, t, cs, d, u, v, hv, h, hs, ht, hh => by simp [Lt.sub, leaf_sub, Lt.hv] at hh

theorem Own.header {X : Nat → Prop} {w : World} {L : Lt} {s : Sh} {t : Nat} {cs : List Value} {d : D} (h : Own P A X w L s t cs d) {hv : Value} (hh : L.hv = some hv) :
    cs = [hv] ∧ isAgg (tk P t) = false := by
  cases h with
  | nil h => simp only [Lt.hv, Option.some.injEq] at hh; subst hh; rw [h]; exact ⟨rfl, rfl⟩
  | slc h _ h2 => simp only [Lt.hv, Option.some.injEq] at hh; subst hh; rw [h]; exact ⟨by rw [h2], rfl⟩
  | mp h => simp only [Lt.hv, Option.some.injEq] at hh; subst hh; rw [h]; exact ⟨rfl, rfl⟩
  | it h => simp only [Lt.hv, Option.some.injEq] at hh; subst hh; rw [h]; exact ⟨rfl, rfl⟩
  | imm => simp [Lt.hv] at hh
  | agg => simp [Lt.hv] at hh
  | gone => simp [Lt.hv] at hh

/-- DATA OF A SLOT stands for its value, where what is owned may be read. -/
theorem data_rep (W : WF P) {ob : Nat → Option Obj} {t : Nat} {av : AV} {d : D} {v : Value} {w : World} {ph : Nat → Ph} (hob : Objs' P A X0 Y0 w0.heap.size ob ph w)
    (h : AVR1 P A (Xof X0 ob ph) w ob ph av v) (hd : St.data P ob t av = some d) : ∃ X1 : Nat → Prop, (∀ b, X1 b → Xof X0 ob ph b) ∧ RepV P A X1 w t v d := by
  unfold St.data at hd
  split at hd <;> try contradiction
  · rename_i u d'
    rw [cond_eq] at hd
    split at hd <;> try contradiction
    rename_i hk
    simp only [Option.some.injEq] at hd
    subst hd
    exact ⟨_, fun _ h => h, RepV.kind W h (sameK_eq hk).symm⟩
  · rename_i c
    have : v = c := h
    subst this
    exact ⟨_, fun _ h => h, conD_rep hd⟩
  · rename_i u
    rw [cond_eq] at hd
    split at hd <;> try contradiction
    rename_i hk
    simp only [Option.some.injEq] at hd
    subst hd
    obtain ⟨rfl, e, he⟩ := h
    have := (sameK_eq hk).trans he
    exact ⟨_, fun _ h => h, _, .slcN this, (mkV_one (by rw [this]; rfl)).symm⟩
  · rename_i o u d'
    rw [cond_eq] at hd
    split at hd <;> try contradiction
    rename_i hk
    split at hd <;> try contradiction
    rename_i x hx
    simp only [Option.some.injEq] at hd
    subst hd
    exact ⟨_, fun _ h => h.1, RepV.kind W (h x hx) (sameK_eq hk).symm⟩
  · rename_i o p u
    rw [cond_eq] at hd
    split at hd <;> try contradiction
    rename_i hk
    split at hd <;> try contradiction
    rename_i x hx
    split at hd <;> try contradiction
    rename_i s hs
    rw [cond_eq] at hd
    split at hd <;> try contradiction
    rename_i hp
    simp only [Option.some.injEq] at hd
    subst hd
    obtain ⟨h1, h2⟩ := h x hx
    have ho := hob.ok o x hx
    have hit : x.sh ≠ .it := by
      intro e
      obtain ⟨m, rfl, _⟩ := h1 e
      rw [e] at hs
      simp [Sh.get, Sh.fld] at hs
    obtain ⟨u', hu, hk', h3⟩ := h2 hit
    have hsub : ∀ L : Lt, ∀ p, (∀ b ∈ (L.sub p).blocks, b ∈ L.blocks) := by
      intro L p
      induction p generalizing L with
      | nil => exact fun _ h => h
      | cons y p ih =>
        cases y with
        | fld j => exact fun b hb => blocks_of_kid (ih _ b hb)
        | idx i =>
          intro b hb
          have := ih _ b hb
          cases L <;> simp only [Lt.el, Lt.blocks, List.not_mem_nil] at this ⊢
          rename_i ks
          by_cases hi : i < ks.length
          · exact List.mem_cons_of_mem _ (mem_blocksL.2 ⟨i, hi, this⟩)
          · rw [List.getD_eq_getElem?_getD, List.getElem?_eq_none (by omega)] at this
            simp [Lt.blocks] at this
        | arr i => intro b hb; simp [Lt.sub, leaf_sub, Lt.blocks] at hb
    refine ⟨fun b => Xof X0 ob ph b ∧ b ∉ (ph o).F, fun _ h => h.1, ?_⟩
    refine RepV.kind W (t := u') ?_ (hk'.trans (sameK_eq hk).symm)
    rcases h3 with h3 | ⟨rfl, hrb, hv⟩
    · obtain ⟨cs', hO⟩ := ho.own.sub W p hs hu h3
      obtain ⟨rfl, hag⟩ := hO.header h3
      refine ⟨_, hO.plain (fun _ _ h => h.1) 8 (.inr hp) fun b hb hX => hX.2 ?_, (mkV_one hag).symm⟩
      simp only [Ph.F, Ph.S, List.mem_append]
      exact .inr (.inl (hsub _ _ b hb))
    · simp only [tyAt, Option.some.injEq, Sh.get] at hu hs
      subst hu hs
      exact ⟨_, ho.own.plain (fun _ _ h => h.1) 8 (.inr hp) fun b hb hX => hX.2 (by simp [Ph.F, Ph.S, hb]), hv⟩

end
end Go.Ab

/- Each operation that only computes or reads, by the rules. -/
namespace Go.Ab
variable {P : Program} {A : Ann}
section
variable {X0 Y0 : Nat → Prop} {w0 : World} {g : St} {ph : Nat → Ph} {a : Act} {w : World} {o : Oper} {K : Dl → Prop}

/-- What an operation's rule promises. -/
def Out (P : Program) (A : Ann) (X0 Y0 : Nat → Prop) (w0 : World) (g : St) (a : Act) (K : Dl → Prop) (v : Value) (w' : World) : Prop :=
  ∃ δ, K δ ∧ RelD P A X0 Y0 w0 (look g.sl) (lookO g.ob) a.tmps δ v w'

theorem Out.pure (R : RelA P A X0 Y0 w0 g ph a w) {av : AV} {v : Value} (hK : K { v := av }) (h : AVR P A (Xof X0 (lookO g.ob) ph) w (lookO g.ob) ph av v) : Out P A X0 Y0 w0 g a K v w :=
  ⟨_, hK, RelD.pure R h⟩

theorem AVR.one {X : Nat → Prop} {ob : Nat → Option Obj} {av : AV} {v : Value} (h : AVR P A X w ob ph av v) (hf : av.flatA = true) : AVR1 P A X w ob ph av v := by
  cases av <;> first | exact h | simp [AV.flatA] at hf
theorem AVR1.all {X : Nat → Prop} {ob : Nat → Option Obj} {av : AV} {v : Value} (h : AVR1 P A X w ob ph av v) : AVR P A X w ob ph av v := by
  cases av <;> first | exact h | exact h.elim

theorem norm_rel {X : Nat → Prop} {ob : Nat → Option Obj} {t : Nat} {av : AV} {v : Value} (h : AVR P A X w ob ph av v) : AVR P A X w ob ph (norm P t av) v := by
  unfold norm
  split
  · rename_i c
    have : v = c := h
    subst this
    split
    · rename_i hk; exact ⟨rfl, _, hk⟩
    · split
      · rename_i d hd; exact conD_rep hd
      · trivial
  · exact h

theorem step_move {x : Operand} (ho : o.op = .move x ∨ o.op = .assign x) (R : RelA P A X0 Y0 w0 g ph a w) (h : K { v := norm P o.type (g.av x) }) : Does P o a w (Out P A X0 Y0 w0 g a K) :=
  Does.value (v := a.eval x) (w' := w) (by rcases ho with ho | ho <;> simp [execOp, ho]) (Out.pure R h (norm_rel (AVR.eval R x)))

theorem ob_ok (R : RelA P A X0 Y0 w0 g ph a w) {k : Nat} {x : Obj} (h : lookO g.ob k = some x) : OkObj P A (Xof X0 (lookO g.ob) ph) w x (ph k) := R.objs.ok k x h

theorem OkObj.rows {X : Nat → Prop} {x : Obj} {p : Ph} (h : OkObj P A X w x p) : ∀ b o, p.root = some (b, o) → Row w b o p.cs ∧ b ∉ p.L.blocks := by
  intro b o e
  unfold Ph.root at e
  cases hr : p.rb with
  | none => rw [hr] at e; cases e
  | some b' =>
    rw [hr] at e
    simp only [Option.map_some, Option.some.injEq, Prod.mk.injEq] at e
    obtain ⟨rfl, rfl⟩ := e
    have hb : x.box = true := by
      cases hx : x.box
      · rw [h.hdr hx] at hr; cases hr
      · rfl
    obtain ⟨b1, E, c, e1, e2, e3⟩ := h.box hb
    rw [hr] at e1
    injection e1 with e1
    subst e1
    refine ⟨fun i hi => ?_, fun hm => ?_⟩
    · rw [Nat.zero_add, cell_of_block e2, ← e3, Array.getElem?_toList]
    · have := h.nodup
      simp only [Ph.F, Ph.S, hr, Option.toList, List.singleton_append, List.nodup_cons, List.mem_append, not_or] at this
      exact this.1.1 hm

theorem sub_blocks : ∀ (p : Pth) (L : Lt), ∀ b ∈ (L.sub p).blocks, b ∈ L.blocks
  | [], _, _, h => h
  | .fld _ :: p, _, b, hb => blocks_of_kid (sub_blocks p _ b hb)
  | .idx i :: p, L, b, hb => by
    have := sub_blocks p _ b hb
    cases L <;> simp only [Lt.el, Lt.blocks, List.not_mem_nil] at this ⊢
    rename_i ks
    by_cases hi : i < ks.length
    · exact List.mem_cons_of_mem _ (mem_blocksL.2 ⟨i, hi, this⟩)
    · rw [List.getD_eq_getElem?_getD, List.getElem?_eq_none (by omega)] at this
      simp [Lt.blocks] at this
  | .arr _ :: p, _, b, hb => by simp [Lt.sub, leaf_sub, Lt.blocks] at hb

theorem not_it_of_get {x : Obj} {p : Pth} {s : Sh} (h : x.sh.get p = some s) (hs : s ≠ .it) : x.sh ≠ .it := by
  intro e
  rw [e] at h
  cases p with
  | nil => simp only [Sh.get, Option.some.injEq] at h; exact hs h.symm
  | cons y p => cases y <;> simp [Sh.get, Sh.fld] at h

theorem Rep.tk_ne {X : Nat → Prop} {t : Nat} {cs : List Value} {d : D} (h : Rep P A X w t cs d) : tk P t ≠ .other := by
  cases h <;> (rename_i h; first | (rw [h]; simp) | skip)
  all_goals first | (rename_i h _ _ _ _ _ _; rw [h]; simp) | skip
  all_goals simp_all

theorem Own.tk_ne {X : Nat → Prop} {L : Lt} {s : Sh} {t : Nat} {cs : List Value} {d : D} (h : Own P A X w L s t cs d) (hg : s ≠ .gone) : tk P t ≠ .other := by
  cases h with
  | imm h => exact h.tk_ne
  | nil h => rw [h]; simp
  | slc h => rw [h]; simp
  | agg h => rw [h]; simp
  | gone => exact absurd rfl hg
  | mp h => rw [h]; simp
  | it h => rw [h]; simp

theorem Own.slc_hv {X : Nat → Prop} {L : Lt} {s : Sh} {ex : Option (Nat × Sh)} {t : Nat} {cs : List Value} {d : D} (h : Own P A X w L (.slc s ex) t cs d) : L.hv = some (mkV P t cs) := by
  cases h with
  | nil h => rw [Lt.hv, mkV_one (by rw [h]; rfl)]
  | slc h _ h2 => rw [Lt.hv, mkV_one (by rw [h]; rfl), h2]
theorem Own.mp_hv {X : Nat → Prop} {L : Lt} {t : Nat} {cs : List Value} {d : D} (h : Own P A X w L .mp t cs d) : L.hv = some (mkV P t cs) := by
  cases h with
  | mp h => rw [Lt.hv, mkV_one (by rw [h]; rfl)]

theorem step_load {t : Nat} {x : Operand} (W : WF P) (ho : o.op = .load t x) (R : RelA P A X0 Y0 w0 g ph a w) (h : loadD P (lookO g.ob) t (g.av x) (onV K)) : Does P o a w (Out P A X0 Y0 w0 g a K) := by
  have hx := AVR.eval R x
  unfold loadD at h
  split at h <;> try contradiction
  · rename_i u d hav
    rw [cond_eq] at h
    split at h <;> try contradiction
    rename_i hk
    rw [hav] at hx
    obtain ⟨b, off, cs, e1, e2, e3, e4, e5⟩ := hx
    have hR := e5.kind W.kind (sameK_eq hk).symm
    refine Does.value (v := mkV P t cs) (w' := w) ?_ (Out.pure R h ⟨cs, hR, rfl⟩)
    simp only [execOp, ho, Instr.loadAt, Instr.sureAddr, e1, Sem.run_bind, Sem.run_pure, Result.andThen_ok, run_loadVarRow W hR.tk_ne e4 (hR.length W)]
  · rename_i k p u hav
    rw [cond_eq] at h
    split at h <;> try contradiction
    rename_i hk
    split at h <;> try contradiction
    rename_i x' hx'
    rw [hav] at hx
    obtain ⟨b, off, u', e1, e2, e3, e4⟩ := hx x' hx'
    have ho' := ob_ok R hx'
    have hkk : tk P u' = tk P t := e4.trans (sameK_eq hk).symm
    have main : ∀ s, x'.sh.get p = some s → s ≠ .gone → (∀ s' y, s ≠ .slc s' (some y)) → s ≠ .it → tk P u' ≠ .other ∧ ∃ cs', Own P A (Xof X0 (lookO g.ob) ph) w ((ph k).L.sub p) s u' cs' (x'.d.get p) ∧ (execOp a.eval o).run P w = .ok (.value (mkV P t cs')) w := by
      intro s hs hg hhole hit
      obtain ⟨cs', hO, hr⟩ := Own.get W p ho'.own hs e3 e2 (fun b o e => (ho'.rows b o e).1)
      have hne : tk P u' ≠ .other := hO.tk_ne hg
      refine ⟨hne, cs', hO, ?_⟩
      have hl := hO.length W
      rw [W.kind _ _ hkk hne] at hl
      simp only [execOp, ho, Instr.loadAt, Instr.sureAddr, e1, Sem.run_bind, Sem.run_pure, Result.andThen_ok, run_loadVarRow W (hkk ▸ hne) hr hl]
    split at h <;> try contradiction
    · rename_i hs
      obtain ⟨hne, cs', hO, hrun⟩ := main _ hs (by simp) (by simp) (by simp)
      exact Does.value hrun (Out.pure R h ⟨cs', (hO.leaf_of_imm.2).kind W.kind hkk, rfl⟩)
    · rename_i s' hs
      obtain ⟨hne, cs', hO, hrun⟩ := main _ hs (by simp) (by simp) (by simp)
      refine Does.value hrun (Out.pure R h ?_)
      intro x2 hx2
      rw [hx'] at hx2
      injection hx2 with hx2
      subst hx2
      refine ⟨fun e => absurd e (not_it_of_get hs (by simp)), fun _ => ⟨u', e3, hkk, .inl ?_⟩⟩
      rw [hO.slc_hv, mkV_kind hkk]
    · rename_i hs
      obtain ⟨hne, cs', hO, hrun⟩ := main _ hs (by simp) (by simp) (by simp)
      refine Does.value hrun (Out.pure R h ?_)
      intro x2 hx2
      rw [hx'] at hx2
      injection hx2 with hx2
      subst hx2
      refine ⟨fun e => absurd e (not_it_of_get hs (by simp)), fun _ => ⟨u', e3, hkk, .inl ?_⟩⟩
      rw [hO.mp_hv, mkV_kind hkk]
    · rename_i l hs
      rw [cond_eq] at h
      split at h <;> try contradiction
      rename_i hw
      obtain ⟨hne, cs', hO, hrun⟩ := main _ hs (by simp) (by simp) (by simp)
      refine Does.value hrun (Out.pure R h ?_)
      intro x2 hx2
      refine ⟨cs', ?_, rfl⟩
      refine (hO.plain (fun _ _ h => h.1) 8 (.inr hw) fun b' hb hX => hX.2 ?_).kind W.kind hkk
      simp only [Ph.S, List.mem_append]
      exact .inl (sub_blocks p _ b' hb)
  · rename_i k p u hav
    rw [cond_eq] at h
    split at h <;> try contradiction
    rename_i hk
    have hne : tk P t ≠ .other := by
      split at h <;> first | contradiction | (rename_i e hte; rw [hte]; simp)
    have h : onV K (.val k p t) := by
      split at h <;> first | contradiction | exact h
    rw [hav] at hx
    obtain ⟨b, off, cs, e1, e2, e3, e4, e5, e6⟩ := hx
    have hkk := sameK_eq hk
    have hl : cs.length = P.cellsOf t := by rw [e5]; exact W.kind _ _ hkk.symm (hkk ▸ hne)
    refine Does.value (v := mkV P t cs) (w' := w) ?_ (Out.pure R h ?_)
    · simp only [execOp, ho, Instr.loadAt, Instr.sureAddr, e1, Sem.run_bind, Sem.run_pure, Result.andThen_ok, run_loadVarRow W hne e4 hl]
    · intro x2 hx2
      obtain ⟨g1, g2⟩ := e6 x2 hx2
      rw [mkV_kind hkk]
      refine ⟨fun hit => ?_, fun hni => ?_⟩
      · obtain ⟨m, m1, m2, m3⟩ := g1 hit
        exact ⟨m, m1, m2.trans hkk.symm, m3⟩
      · obtain ⟨u', m1, m2, m3⟩ := g2 hni
        exact ⟨u', m1, m2.trans hkk.symm, m3⟩

end
end Go.Ab

/- Arithmetic, addresses, lengths. -/
namespace Go.Ab
variable {P : Program} {A : Ann}
section
variable {X0 Y0 : Nat → Prop} {w0 : World} {g : St} {ph : Nat → Ph} {a : Act} {w : World} {o : Oper} {K : Dl → Prop}

theorem isB_eq {t : Nat} (h : isB P t = true) : tk P t = .bool := by
  unfold isB at h
  split at h
  · assumption
  · cases h
theorem isI_eq {t : Nat} (h : isI P t = true) : tk P t = .int .i64 := by
  unfold isI at h
  split at h
  · assumption
  · cases h

theorem data_flat {ob : Nat → Option Obj} {t : Nat} {av : AV} {d : D} (h : St.data P ob t av = some d) : av.flatA = true := by
  cases av <;> first | rfl | (simp [St.data] at h)

theorem slot_rep (W : WF P) (R : RelA P A X0 Y0 w0 g ph a w) {t : Nat} {x : Operand} {d : D} (h : St.data P (lookO g.ob) t (g.av x) = some d) :
    ∃ X1 : Nat → Prop, (∀ b, X1 b → Xof X0 (lookO g.ob) ph b) ∧ RepV P A X1 w t (a.eval x) d :=
  data_rep W R.objs ((AVR.eval R x).one (data_flat h)) h

theorem slot_int (W : WF P) (R : RelA P A X0 Y0 w0 g ph a w) {t : Nat} {x : Operand} {d : D} {k : IntKind} (hk : tk P t = .int k) (h : St.data P (lookO g.ob) t (g.av x) = some d) :
    ∃ n, a.eval x = .int k n ∧ d = .int n := by
  obtain ⟨X1, _, cs, hr, hv⟩ := slot_rep W R h
  cases hr <;> first
    | (rename_i h'; rw [hk] at h'; injection h' with h'; subst h'; exact ⟨_, hv.trans (mkV_one (by rw [hk]; rfl)), rfl⟩)
    | (exfalso; simp_all; done)

theorem slot_bool (W : WF P) (R : RelA P A X0 Y0 w0 g ph a w) {t : Nat} {x : Operand} {d : D} (hk : tk P t = .bool) (h : St.data P (lookO g.ob) t (g.av x) = some d) :
    ∃ b, a.eval x = .bool b ∧ d = .bool b := by
  obtain ⟨X1, _, cs, hr, hv⟩ := slot_rep W R h
  cases hr <;> first
    | exact ⟨_, hv.trans (mkV_one (by rw [hk]; rfl)), rfl⟩
    | (exfalso; simp_all; done)

theorem rep_int {X : Nat → Prop} {t : Nat} {k : IntKind} {n : Int} (hk : tk P t = .int k) : RepV P A X w t (.int k n) (.int n) := ⟨_, .int hk, (mkV_one (by rw [hk]; rfl)).symm⟩
theorem rep_bool {X : Nat → Prop} {t : Nat} {b : Bool} (hk : tk P t = .bool) : RepV P A X w t (.bool b) (.bool b) := ⟨_, .bool hk, (mkV_one (by rw [hk]; rfl)).symm⟩

theorem step_nilCheck {x : Operand} (ho : o.op = .nilCheck x) (R : RelA P A X0 Y0 w0 g ph a w) (h : match g.av x with
    | .ptr o p e => match lookO g.ob o with
      | some _ => K { v := .ptr o p e }
      | none => False
    | .iptr e d => K { v := .iptr e d }
    | .clo f l => K { v := .clo f l }
    | _ => False) : Does P o a w (Out P A X0 Y0 w0 g a K) := by
  have hx := AVR.eval R x
  split at h <;> try contradiction
  · rename_i k p e hav
    split at h <;> try contradiction
    rename_i y hy
    rw [hav] at hx
    obtain ⟨b, off, u, e1, _⟩ := hx y hy
    refine Does.value (v := a.eval x) (w' := w) ?_ (Out.pure R h hx)
    simp only [execOp, ho, e1, Sem.run_pure]
  · rename_i e d hav
    rw [hav] at hx
    have hx' := hx
    obtain ⟨b, off, cs, e1, _⟩ := hx
    refine Does.value (v := a.eval x) (w' := w) ?_ (Out.pure R h hx')
    simp only [execOp, ho, e1, Sem.run_pure]
  · rename_i f l hav
    rw [hav] at hx
    have hx' := hx
    obtain ⟨vs, e1, _⟩ := hx
    refine Does.value (v := a.eval x) (w' := w) ?_ (Out.pure R h hx')
    simp only [execOp, ho, e1, Sem.run_pure]

theorem step_pick {c x y : Operand} (W : WF P) (ho : o.op = .pick c x y) (R : RelA P A X0 Y0 w0 g ph a w)
    (h : match g.av c with
    | .imm t d => cond (isB P t) (cond d.b (onV K (norm P o.type (g.av x))) (onV K (norm P o.type (g.av y)))) False
    | .con (.bool v) => cond v (onV K (norm P o.type (g.av x))) (onV K (norm P o.type (g.av y)))
    | _ => False) : Does P o a w (Out P A X0 Y0 w0 g a K) := by
  have key : ∀ b, a.eval c = .bool b → cond b (onV K (norm P o.type (g.av x))) (onV K (norm P o.type (g.av y))) → Does P o a w (Out P A X0 Y0 w0 g a K) := by
    intro b hb hK
    refine Does.value (v := if b then a.eval x else a.eval y) (w' := w) (by simp [execOp, ho, hb, asBool]) ?_
    cases b
    · exact Out.pure R hK (norm_rel (AVR.eval R y))
    · exact Out.pure R hK (norm_rel (AVR.eval R x))
  have hx := AVR.eval R c
  split at h <;> try contradiction
  · rename_i t d hav
    have : St.data P (lookO g.ob) t (g.av c) = some d := by rw [hav]; simp [St.data, sameK, cond_eq]
    rw [cond_eq] at h
    split at h <;> try contradiction
    rename_i hb
    obtain ⟨b, e1, rfl⟩ := slot_bool W R (isB_eq hb) this
    exact key b e1 h
  · rename_i v hav
    rw [hav] at hx
    exact key v hx h

theorem int_beq (m n : Int) : (m == n) = decide (m = n) := by rw [Bool.eq_iff_iff]; simp

theorem intOp_run {op : BinOp} {k : IntKind} {m n : Int} {K : D → Prop} {x y : Operand} {tx ty : Nat} (ho : o.op = .binOp op tx x y ty) (hx : a.eval x = .int k m) (hy : a.eval y = .int k n) (hs : op ≠ .shl ∧ op ≠ .shr) (h : intOp op k m n K) :
    ∃ v d, (execOp a.eval o).run P w = .ok (.value v) w ∧ K d ∧ ((∃ r, v = .int k r ∧ d = .int r) ∨ ∃ b, v = .bool b ∧ d = .bool b) := by
  have hg : ∀ w, (eqGuard op tx x y (.int k m) (.int k n)).run P w = .ok () w := by
    intro w
    unfold eqGuard
    cases op <;> simp
  unfold intOp at h
  split at h <;> try contradiction
  all_goals try (exact absurd rfl hs.1)
  all_goals try (exact absurd rfl hs.2)
  · exact ⟨_, _, by simp only [execOp, ho, hx, hy, Sem.run_bind, hg, Result.andThen_ok]; simp [binOp, Op.intArith], h, .inl ⟨_, rfl, rfl⟩⟩
  · exact ⟨_, _, by simp only [execOp, ho, hx, hy, Sem.run_bind, hg, Result.andThen_ok]; simp [binOp, Op.intArith], h, .inl ⟨_, rfl, rfl⟩⟩
  · exact ⟨_, _, by simp only [execOp, ho, hx, hy, Sem.run_bind, hg, Result.andThen_ok]; simp [binOp, Op.intArith], h, .inl ⟨_, rfl, rfl⟩⟩
  · exact ⟨_, _, by simp only [execOp, ho, hx, hy, Sem.run_bind, hg, Result.andThen_ok]; simp [binOp, Op.intDiv, h.1], h.2, .inl ⟨_, rfl, rfl⟩⟩
  · exact ⟨_, _, by simp only [execOp, ho, hx, hy, Sem.run_bind, hg, Result.andThen_ok]; simp [binOp, Op.intDiv, h.1], h.2, .inl ⟨_, rfl, rfl⟩⟩
  · exact ⟨_, _, by simp only [execOp, ho, hx, hy, Sem.run_bind, hg, Result.andThen_ok]; simp [binOp, Op.intBits], h, .inl ⟨_, rfl, rfl⟩⟩
  · exact ⟨_, _, by simp only [execOp, ho, hx, hy, Sem.run_bind, hg, Result.andThen_ok]; simp [binOp, Op.intBits], h, .inl ⟨_, rfl, rfl⟩⟩
  · exact ⟨_, _, by simp only [execOp, ho, hx, hy, Sem.run_bind, hg, Result.andThen_ok]; simp [binOp, Op.intBits], h, .inl ⟨_, rfl, rfl⟩⟩
  · exact ⟨.bool (decide (m = n)), _, by simp only [execOp, ho, hx, hy, Sem.run_bind, hg, Result.andThen_ok]; simp [binOp, Op.intCmp, int_beq], h, .inr ⟨_, rfl, rfl⟩⟩
  · exact ⟨.bool (!decide (m = n)), _, by simp only [execOp, ho, hx, hy, Sem.run_bind, hg, Result.andThen_ok]; simp [binOp, Op.intCmp, bne, int_beq], h, .inr ⟨_, rfl, rfl⟩⟩
  · exact ⟨_, _, by simp only [execOp, ho, hx, hy, Sem.run_bind, hg, Result.andThen_ok]; simp [binOp, Op.intCmp], h, .inr ⟨_, rfl, rfl⟩⟩
  · exact ⟨_, _, by simp only [execOp, ho, hx, hy, Sem.run_bind, hg, Result.andThen_ok]; simp [binOp, Op.intCmp], h, .inr ⟨_, rfl, rfl⟩⟩
  · exact ⟨_, _, by simp only [execOp, ho, hx, hy, Sem.run_bind, hg, Result.andThen_ok]; simp [binOp, Op.intCmp], h, .inr ⟨_, rfl, rfl⟩⟩
  · exact ⟨_, _, by simp only [execOp, ho, hx, hy, Sem.run_bind, hg, Result.andThen_ok]; simp [binOp, Op.intCmp], h, .inr ⟨_, rfl, rfl⟩⟩

end
end Go.Ab

/- The remaining operations that only compute or read. -/
namespace Go.Ab
variable {P : Program} {A : Ann}
section
variable {X0 Y0 : Nat → Prop} {w0 : World} {g : St} {ph : Nat → Ph} {a : Act} {w : World} {o : Oper} {K : Dl → Prop}

theorem res_kind {op : BinOp} {k : IntKind} {tr : Nat} (h : okRes P op k tr = true) :
    (resT P op tr = tr ∧ tk P tr = .int k ∧ op ≠ .eql ∧ op ≠ .neq ∧ op ≠ .lss ∧ op ≠ .leq ∧ op ≠ .gtr ∧ op ≠ .geq) ∨ (resT P op tr = P.rt.bool ∧ tk P P.rt.bool = .bool ∧ (op = .eql ∨ op = .neq ∨ op = .lss ∨ op = .leq ∨ op = .gtr ∨ op = .geq)) := by
  unfold okRes at h
  cases op <;> first
    | exact .inr ⟨rfl, isB_eq h, by simp⟩
    | exact .inl ⟨rfl, by simpa using h, by simp, by simp, by simp, by simp, by simp, by simp⟩

theorem step_int {op : BinOp} {tx ty : Nat} {x y : Operand} {k : IntKind} (W : WF P) (ho : o.op = .binOp op tx x y ty) (R : RelA P A X0 Y0 w0 g ph a w) (hk : tk P tx = .int k)
    (hs : op ≠ .shl ∧ op ≠ .shr) (hr : okRes P op k o.type = true) {dx dy : D} (hx : St.data P (lookO g.ob) tx (g.av x) = some dx) (hy : St.data P (lookO g.ob) tx (g.av y) = some dy)
    (h : intOp op k dx.i dy.i fun d => onV K (.imm (resT P op o.type) d)) : Does P o a w (Out P A X0 Y0 w0 g a K) := by
  obtain ⟨m, e1, rfl⟩ := slot_int W R hk hx
  obtain ⟨n, e2, rfl⟩ := slot_int W R hk hy
  obtain ⟨v, d, hrun, hK, hv⟩ := intOp_run (w := w) ho e1 e2 hs h
  refine Does.value hrun (Out.pure R hK ?_)
  rcases res_kind hr with ⟨h1, h2, n1, n2, n3, n4, n5, n6⟩ | ⟨h1, h2, hc⟩
  · rcases hv with ⟨r, rfl, rfl⟩ | ⟨b, rfl, rfl⟩
    · show RepV P A _ w _ _ _
      rw [h1]; exact rep_int h2
    · exfalso
      simp only [execOp, ho, e1, e2, Sem.run_bind] at hrun
      cases op <;> simp_all [eqGuard, binOp, Op.intArith, Op.intDiv, Op.intBits, intOp, D.i]
  · rcases hv with ⟨r, rfl, rfl⟩ | ⟨b, rfl, rfl⟩
    · exfalso
      simp only [execOp, ho, e1, e2, Sem.run_bind] at hrun
      rcases hc with rfl | rfl | rfl | rfl | rfl | rfl <;> simp [eqGuard, binOp, Op.intCmp] at hrun
    · show RepV P A _ w _ _ _
      rw [h1]; exact rep_bool h2

theorem step_shift {op : BinOp} {tx ty : Nat} {x y : Operand} {k k' : IntKind} (W : WF P) (ho : o.op = .binOp op tx x y ty) (R : RelA P A X0 Y0 w0 g ph a w) (hk : tk P tx = .int k) (hk' : tk P ty = .int k')
    (hs : op = .shl ∨ op = .shr) (hr : okRes P op k o.type = true) {dx dy : D} (hx : St.data P (lookO g.ob) tx (g.av x) = some dx) (hy : St.data P (lookO g.ob) ty (g.av y) = some dy)
    (h : shOp op k dx.i dy.i fun d => onV K (.imm (resT P op o.type) d)) : Does P o a w (Out P A X0 Y0 w0 g a K) := by
  obtain ⟨m, e1, rfl⟩ := slot_int W R hk hx
  obtain ⟨n, e2, rfl⟩ := slot_int W R hk' hy
  rcases res_kind hr with ⟨h1, h2, _⟩ | ⟨_, _, hc⟩
  · rcases hs with rfl | rfl
    · obtain ⟨hn, hK⟩ := h
      have hn' : ¬ n < 0 := by simpa [D.i] using hn
      refine Does.value (v := .int k (k.wrap (m * 2 ^ min n.toNat k.bits))) (w' := w) ?_ (Out.pure R hK (by show RepV P A _ w _ _ _; rw [h1]; exact rep_int h2))
      simp [execOp, ho, e1, e2, eqGuard, binOp, Op.shift, hn']
    · obtain ⟨hn, hK⟩ := h
      have hn' : ¬ n < 0 := by simpa [D.i] using hn
      refine Does.value (v := .int k (m.fdiv (2 ^ min n.toNat k.bits))) (w' := w) ?_ (Out.pure R hK (by show RepV P A _ w _ _ _; rw [h1]; exact rep_int h2))
      simp [execOp, ho, e1, e2, eqGuard, binOp, Op.shift, hn']
  · rcases hs with rfl | rfl <;> simp at hc

theorem step_unOp {op : UnOp} {t : Nat} {x : Operand} (W : WF P) (ho : o.op = .unOp op t x) (R : RelA P A X0 Y0 w0 g ph a w) (h : unD P (lookO g.ob) op t (g.av x) (onV K)) : Does P o a w (Out P A X0 Y0 w0 g a K) := by
  unfold unD at h
  split at h <;> try contradiction
  · rename_i k d hk hd
    obtain ⟨n, e, rfl⟩ := slot_int W R hk hd
    exact Does.value (v := .int k (k.wrap (0 - n))) (w' := w) (by simp [execOp, ho, e, Op.unary, Op.intArith]) (Out.pure R h (rep_int hk))
  · rename_i d hk hd
    obtain ⟨b, e, rfl⟩ := slot_bool W R hk hd
    exact Does.value (v := .bool (!b)) (w' := w) (by simp [execOp, ho, e, Op.unary]) (Out.pure R h (rep_bool hk))

theorem step_convert {s d : Nat} {x : Operand} (W : WF P) (ho : o.op = .convert s d x) (R : RelA P A X0 Y0 w0 g ph a w) (h : match tk P s, tk P d, St.data P (lookO g.ob) s (g.av x) with
    | .int _, .int k, some a => K { v := .imm d (.int (k.wrap a.i)) }
    | _, _, _ => False) : Does P o a w (Out P A X0 Y0 w0 g a K) := by
  split at h <;> try contradiction
  rename_i k k' dx hs hd hx
  obtain ⟨n, e, rfl⟩ := slot_int W R hs hx
  refine Does.value (v := .int k' (k'.wrap n)) (w' := w) ?_ (Out.pure R h (rep_int hd))
  simp [execOp, ho, e, convert, run_underlying (und_int hs), run_underlying (und_int hd), Conv.intToInt]

theorem intOf_eval (W : WF P) (R : RelA P A X0 Y0 w0 g ph a w) {x : Operand} {n : Int} (h : intOf P (g.av x) = some n) : ∃ k, a.eval x = .int k n := by
  have hx := AVR.eval R x
  unfold intOf at h
  split at h <;> try contradiction
  · rename_i t d hav
    split at h <;> try contradiction
    rename_i k hk
    simp only [Option.some.injEq] at h
    have : St.data P (lookO g.ob) t (g.av x) = some d := by rw [hav]; simp [St.data, sameK, cond_eq]
    obtain ⟨m, e, rfl⟩ := slot_int W R hk this
    exact ⟨k, by rw [e]; simpa [D.i] using h⟩
  · rename_i k m hav
    rw [hav] at hx
    simp only [Option.some.injEq] at h
    exact ⟨k, by rw [← h]; exact hx⟩

theorem step_index {t : Nat} {x i : Operand} (W : WF P) (ho : o.op = .index t x i) (R : RelA P A X0 Y0 w0 g ph a w) (h : indexSD P (lookO g.ob) t o.type (g.av x) (g.av i) (onV K)) : Does P o a w (Out P A X0 Y0 w0 g a K) := by
  unfold indexSD at h
  split at h <;> try contradiction
  rename_i d n hk hd hn
  rw [cond_eq] at h
  split at h <;> try contradiction
  rename_i ht
  have ht' : tk P o.type = .int .u8 := by simpa using ht
  obtain ⟨⟨h0, h1⟩, h⟩ := h
  obtain ⟨k, hi⟩ := intOf_eval W R hn
  obtain ⟨X1, _, cs, hr, hv⟩ := slot_rep W R hd
  obtain ⟨s, hs, rfl⟩ : ∃ s, a.eval x = .string s ∧ d = .str s := by
    cases hr <;> first
      | exact ⟨_, hv.trans (mkV_one (by rw [hk]; rfl)), rfl⟩
      | (exfalso; simp_all; done)
  simp only [D.s] at h1 h
  have hlt : n.toNat < s.size := by omega
  have hg : s[n.toNat]? = some (s.data.getD n.toNat 0) := by
    rw [getElem?_pos s n.toNat hlt]
    simp [Array.getD, ByteArray.getElem_eq_getElem_data]
    intro e
    omega
  refine Does.value (v := .int .u8 ((s.data.getD n.toNat 0).toNat : Int)) (w' := w) ?_ (Out.pure R h (rep_int ht'))
  have ha : (asIntOf (.int k n)).run P w = .ok (k, n) w := rfl
  simp only [execOp, ho, hs, hi, Instr.index, Sem.run_bind, ha, Result.andThen_ok, run_underlying (und_str hk), if_pos h0, hg, Sem.run_pure]

theorem step_fieldAddr {s : Nat} {x : Operand} {j : Nat} (W : WF P) (ho : o.op = .fieldAddr s x j) (R : RelA P A X0 Y0 w0 g ph a w)
    (h : fieldD P (lookO g.ob) s (g.av x) j (onV K)) : Does P o a w (Out P A X0 Y0 w0 g a K) := by
  have hx := AVR.eval R x
  unfold fieldD at h
  split at h <;> try contradiction
  rename_i fs hs
  split at h <;> try contradiction
  rename_i ft off hj
  rw [cond_eq] at h
  split at h <;> try contradiction
  rename_i hz
  have hz' : P.cellsOf ft ≠ 0 := fun e => hz (beq_iff.2 e)
  obtain ⟨f, hf, hfs⟩ := und_struct hs
  have hne := (W.struct _ _ hs _ _ _ hj).2
  obtain ⟨fd, hfd, hft, hfo⟩ : ∃ fd : Field, f[j]? = some fd ∧ fd.type = ft ∧ fd.offset = off := by
    rw [hfs] at hj
    simp only [List.getElem?_map, Option.map_eq_some_iff, Array.getElem?_toList] at hj
    obtain ⟨fd, h1, h2⟩ := hj
    simp only [Prod.mk.injEq] at h2
    exact ⟨fd, h1, h2.1, h2.2⟩
  have hrun : ∀ b o1, a.eval x = .pointer (some ⟨b, o1, none⟩) → (execOp a.eval o).run P w = .ok (.value (.pointer (some ⟨b, o1 + off, none⟩))) w := by
    intro b o1 e
    simp [execOp, ho, e, Instr.fieldAt, run_underlying hf, hfd, Instr.sureAddr, fieldPlace, hft, run_sizeOf hne, hz', addr_add, hfo]
  split at h <;> try contradiction
  · rename_i u d hav
    rw [cond_eq] at h
    split at h <;> try contradiction
    rename_i hk
    rw [hav] at hx
    obtain ⟨b, o1, cs, e1, e2, e3, e4, e5⟩ := hx
    refine Does.value (hrun b o1 e1) (Out.pure R h ?_)
    have hR := e5.kind W.kind (sameK_eq hk).symm
    cases hR with
    | struct h' hc hd hf' =>
      rw [hs] at h'
      injection h' with h'
      subst h'
      exact ⟨b, o1 + off, _, rfl, e2, e3, e4.sub (by rw [hc]; exact (W.struct _ _ hs _ _ _ hj).1), hf' j ft off hj⟩
    | _ => simp_all
  · rename_i k p u hav
    rw [cond_eq] at h
    split at h <;> try contradiction
    rename_i hk
    split at h <;> try contradiction
    rename_i y hy
    rw [hav] at hx
    obtain ⟨b, o1, u', e1, e2, e3, e4⟩ := hx y hy
    refine Does.value (hrun b o1 e1) (Out.pure R h ?_)
    intro x2 hx2
    rw [hy] at hx2
    injection hx2 with hx2
    subst hx2
    have htk : tk P u' = .struct fs := (e4.trans (sameK_eq hk).symm).trans hs
    have hloc : ∀ (p : Pth) (lc : Option (Nat × Nat)) (t : Nat) (L : Lt), Lt.loc P lc t L p = some (b, o1) → tyAt P t p = some u' → Lt.loc P lc t L (p ++ [.fld j]) = some (b, o1 + off) ∧ tyAt P t (p ++ [.fld j]) = some ft := by
      intro p
      induction p with
      | nil =>
        intro lc t L h1 h2
        simp only [Lt.loc, tyAt, Option.some.injEq] at h1 h2
        subst h1 h2
        simp only [List.nil_append, Lt.loc, tyAt, htk, hj, Option.map_some, and_self]
      | cons z p ih =>
        intro lc t L h1 h2
        cases z with
        | fld i =>
          simp only [List.cons_append, Lt.loc, tyAt] at h1 h2 ⊢
          split at h2 <;> try contradiction
          rename_i hk'
          rw [hk'] at h1
          simp only at h1
          split at h2 <;> try contradiction
          rename_i hj'
          rw [hj'] at h1
          exact ih _ _ _ h1 h2
        | idx i =>
          cases L <;> simp only [List.cons_append, Lt.loc, tyAt, reduceCtorEq] at h1 h2 ⊢
          split at h2 <;> try contradiction
          rename_i hk'
          rw [hk'] at h1
          simp only at h1
          split at h1 <;> try contradiction
          rename_i hi
          simp only [if_pos hi]
          exact ih _ _ _ h1 h2
        | arr i =>
          simp only [List.cons_append, Lt.loc, tyAt] at h1 h2 ⊢
          split at h2 <;> try contradiction
          rename_i hk'
          rw [hk'] at h1
          simp only at h1
          split at h2 <;> try contradiction
          rename_i hi
          simp only [if_pos hi] at h1 ⊢
          exact ih _ _ _ h1 h2
    obtain ⟨g1, g2⟩ := hloc p _ _ _ e2 e3
    exact ⟨b, o1 + off, ft, rfl, g1, g2, rfl⟩
  · rename_i k u hav
    rw [cond_eq] at h
    split at h <;> try contradiction
    rename_i hk
    split at h <;> try contradiction
    rename_i y hy
    split at h <;> try contradiction
    rename_i s0 hs0
    rw [hav] at hx
    obtain ⟨b, o1, cs, e1, e2, e3, e4, e5, e6⟩ := hx
    have hO := R.objs.ok k y hy
    have hni : y.sh ≠ .it := not_it_of_get hs0 (by simp)
    obtain ⟨l, hsh⟩ : ∃ l, y.sh = .agg l := by
      cases hsh : y.sh with
      | agg l => exact ⟨l, rfl⟩
      | imm => rw [hsh] at hs0; simp [Sh.get, Sh.fld] at hs0
      | _ => rw [hsh] at hs0; simp [Sh.get, Sh.fld] at hs0
    obtain ⟨u', g1, g2, g3⟩ := (e6 y hy).2 hni
    simp only [tyAt, Option.some.injEq] at g1
    subst g1
    have hus : tk P u = .struct fs := (sameK_eq hk).symm.trans hs
    have hyt : tk P y.t = .struct fs := g2.trans hus
    have hown := hO.own
    have hcs : cs = (ph k).cs := by
      rcases g3 with g3 | ⟨_, _, g3⟩
      · exfalso
        rw [hsh] at hown
        simp only [Lt.sub] at g3
        generalize (ph k).L = L at hown g3
        generalize y.d = dd at hown
        generalize (ph k).cs = cc at hown
        cases hown with
        | agg => simp [Lt.hv] at g3
      · simp only [mkV, hus, hyt, isAgg, if_true, Value.agg.injEq] at g3
        have := congrArg Array.toList g3
        simpa using this
    subst hcs
    obtain ⟨ds, hd, hdl, hcl, hf'⟩ := hown.fields hyt (fun j => by rw [hsh]; exact ⟨_, rfl⟩)
    have hsj : y.sh.fld j = some (.slc s0 none) := by
      simp only [Sh.get] at hs0
      split at hs0
      · rename_i u2 hu2
        rw [hu2]
        simpa [Sh.get] using hs0
      · cases hs0
    have hF := hf' j ft off hj _ hsj
    have hle := (W.struct _ _ hyt _ _ _ hj).1
    refine Does.value (hrun b o1 e1) (Out.pure R h ?_)
    refine ⟨b, o1 + off, _, rfl, e2, e3, e4.sub (o := off) (n := P.cellsOf ft) (by rw [hcl]; exact hle), seg_length (by rw [hcl]; exact hle), fun x2 hx2 => ?_⟩
    rw [hy] at hx2
    injection hx2 with hx2
    subst hx2
    refine ⟨fun e => absurd e hni, fun _ => ⟨ft, ?_, rfl, .inl ?_⟩⟩
    · simp only [tyAt, hyt, hj]
    · exact hF.slc_hv

end
end Go.Ab

/- Elements, lengths, parts of slices. -/
namespace Go.Ab
variable {P : Program} {A : Ann}

theorem loc_append (q : Pth) : ∀ (p : Pth) (lc : Option (Nat × Nat)) (t : Nat) (L : Lt) (x : Nat × Nat) (u : Nat), Lt.loc P lc t L p = some x → tyAt P t p = some u →
    Lt.loc P lc t L (p ++ q) = Lt.loc P (some x) u (L.sub p) q ∧ tyAt P t (p ++ q) = tyAt P u q := by
  intro p
  induction p with
  | nil =>
    intro lc t L x u h1 h2
    simp only [Lt.loc, tyAt, Option.some.injEq] at h1 h2
    subst h1 h2
    exact ⟨rfl, rfl⟩
  | cons z p ih =>
    intro lc t L x u h1 h2
    cases z with
    | fld i =>
      simp only [List.cons_append, Lt.loc, tyAt, Lt.sub] at h1 h2 ⊢
      split at h2 <;> try contradiction
      rename_i hk'
      rw [hk'] at h1
      simp only at h1
      split at h2 <;> try contradiction
      rename_i hj'
      rw [hj'] at h1
      exact ih _ _ _ _ _ h1 h2
    | idx i =>
      cases L <;> simp only [List.cons_append, Lt.loc, tyAt, reduceCtorEq, Lt.sub, Lt.el] at h1 h2 ⊢
      split at h2 <;> try contradiction
      rename_i hk'
      rw [hk'] at h1
      simp only at h1
      split at h1 <;> try contradiction
      rename_i hi
      simp only [if_pos hi]
      exact ih _ _ _ _ _ h1 h2
    | arr i =>
      simp only [List.cons_append, Lt.loc, tyAt, Lt.sub] at h1 h2 ⊢
      split at h2 <;> try contradiction
      rename_i hk'
      rw [hk'] at h1
      simp only at h1
      split at h2 <;> try contradiction
      rename_i hi
      simp only [if_pos hi] at h1 ⊢
      exact ih _ _ _ _ _ h1 h2

/-- Places of headers are typed places, wherever they lie. -/
theorem tyAt_append (q : Pth) : ∀ (p : Pth) (t u : Nat), tyAt P t p = some u → tyAt P t (p ++ q) = tyAt P u q := by
  intro p
  induction p with
  | nil => intro t u h; simp only [tyAt, Option.some.injEq] at h; subst h; rfl
  | cons z p ih =>
    intro t u h
    cases z <;> simp only [List.cons_append, tyAt] at h ⊢ <;> repeat' (split at h <;> try contradiction)
    all_goals first | exact ih _ _ h | (rename_i hi; rw [if_pos hi]; exact ih _ _ h) | skip

/-- The element of a slice whose header lies at 'p'. -/
theorem loc_idx : ∀ (p : Pth) (lc : Option (Nat × Nat)) (t : Nat) (L : Lt) (u e : Nat) (b off cap : Nat) (ks : List Lt) (i : Nat), tyAt P t p = some u → tk P u = .slc e → L.sub p = .slc b off cap ks → i < ks.length →
    (∀ (P' : Prop), (Lt.loc P lc t L p = none → p ≠ [] → P') → P' ∨ True) →
    Lt.loc P lc t L (p ++ [.idx i]) = some (b, off + i * P.cellsOf e) ∧ tyAt P t (p ++ [.idx i]) = some e := by
  intro p
  induction p with
  | nil =>
    intro lc t L u e b off cap ks i h1 h2 h3 h4 _
    simp only [tyAt, Option.some.injEq] at h1
    subst h1
    simp only [Lt.sub] at h3
    subst h3
    simp only [List.nil_append, Lt.loc, h2, if_pos h4, tyAt, and_self]
  | cons z p ih =>
    intro lc t L u e b off cap ks i h1 h2 h3 h4 hh
    cases z with
    | fld j =>
      simp only [List.cons_append, Lt.loc, tyAt, Lt.sub] at h1 h3 ⊢
      split at h1 <;> try contradiction
      rename_i hk'
      split at h1 <;> try contradiction
      rename_i hj'
      exact ih _ _ _ _ _ _ _ _ _ _ h1 h2 h3 h4 (fun _ _ => .inr trivial)
    | idx k =>
      cases L with
      | slc b' off' cap' ks' =>
        simp only [List.cons_append, Lt.loc, tyAt, Lt.sub, Lt.el] at h1 h3 ⊢
        split at h1 <;> try contradiction
        rename_i hk'
        by_cases hi : k < ks'.length
        · simp only [if_pos hi]
          exact ih _ _ _ _ _ _ _ _ _ _ h1 h2 h3 h4 (fun _ _ => .inr trivial)
        · rw [List.getD_eq_getElem?_getD, List.getElem?_eq_none (by omega)] at h3
          simp [leaf_sub] at h3
      | _ => simp [Lt.sub, Lt.el, leaf_sub] at h3
    | arr k => simp [Lt.sub, leaf_sub] at h3

section
variable {X0 Y0 : Nat → Prop} {w0 : World} {g : St} {ph : Nat → Ph} {a : Act} {w : World} {o : Oper} {K : Dl → Prop}

theorem rep_slc_inv {X : Nat → Prop} {t e : Nat} {v : Value} {d : D} (hk : tk P t = .slc e) (h : RepV P A X w t v d) :
    (∃ p, v = .slice p 0 0 ∧ d = .slc []) ∨ ∃ (b off cap : Nat) (xs : List D) (css : Nat → List Value), v = .slice (some ⟨b, off, none⟩) xs.length cap ∧ d = .slc xs ∧ ¬ X b ∧ b < w.heap.size ∧ xs.length ≤ cap ∧
      (∀ i, i < xs.length → (css i).length = P.cellsOf e) ∧ (∀ i, i < xs.length → Row w b (off + i * P.cellsOf e) (css i)) ∧ (∀ i, i < xs.length → Rep P A X w e (css i) (xs.getD i .und)) := by
  obtain ⟨cs, hr, hv⟩ := h
  cases hr with
  | slcN h => exact .inl ⟨_, hv.trans (mkV_one (by rw [h]; rfl)), rfl⟩
  | slc h h1 h2 h3 h4 h5 h6 =>
    rw [hk] at h
    injection h with h
    subst h
    exact .inr ⟨_, _, _, _, _, hv.trans (mkV_one (by rw [hk]; rfl)), rfl, h1, h2, h3, h4, h5, h6⟩
  | _ => simp_all

theorem run_index {t e b off n cap : Nat} {k : IntKind} {i : Int} {x ix : Operand} (hk : tk P t = .slc e) (ho : o.op = .indexAddr t x ix) (hx : a.eval x = .slice (some ⟨b, off, none⟩) n cap) (hi : a.eval ix = .int k i)
    (h0 : 0 ≤ i) (h1 : i < n) (hne : tk P e ≠ .other) : (execOp a.eval o).run P w = .ok (.value (.pointer (some ⟨b, off + i.toNat * P.cellsOf e, none⟩))) w := by
  simp [execOp, ho, hx, hi, Instr.indexAt, run_underlying (und_slc hk), asIntOf, h0, h1, run_sizeOf hne, addr_add]

theorem step_indexAddr {t : Nat} {x ix : Operand} (W : WF P) (ho : o.op = .indexAddr t x ix) (R : RelA P A X0 Y0 w0 g ph a w)
    (h : indexD P (lookO g.ob) t (g.av x) (g.av ix) (onV K)) : Does P o a w (Out P A X0 Y0 w0 g a K) := by
  have hx := AVR.eval R x
  unfold indexD at h
  split at h <;> try contradiction
  · rename_i e hk
    split at h <;> try contradiction
    rename_i n hn
    obtain ⟨k, hi⟩ := intOf_eval W R hn
    have immCase : ∀ (X1 : Nat → Prop) (d : D), (∀ b, X1 b → Xof X0 (lookO g.ob) ph b) → (∀ b, Xof X0 (lookO g.ob) ph b → X1 b) → RepV P A X1 w t (a.eval x) d → (0 ≤ n ∧ n < d.len) ∧ onV K (.iptr e (d.el n)) → Does P o a w (Out P A X0 Y0 w0 g a K) := by
      intro X1 d hX1 hX2 hr ⟨⟨h0, h1⟩, hK⟩
      rcases rep_slc_inv hk hr with ⟨_, e1, rfl⟩ | ⟨b, off, cap, xs, css, e1, rfl, g1, g2, g3, g4, g5, g6⟩
      · simp [D.len, D.xs] at h1; omega
      · have hlt : n.toNat < xs.length := by simp [D.len, D.xs] at h1; omega
        have hR := g6 n.toNat hlt
        refine Does.value (run_index hk ho e1 hi h0 (by omega) hR.tk_ne) (Out.pure R hK ?_)
        exact ⟨b, _, _, rfl, fun hb => g1 (hX2 b hb), g2, g5 _ hlt, hR.anti fun b _ hb => hX2 b hb⟩
    split at h <;> try contradiction
    · rename_i u d hav
      rw [cond_eq] at h
      split at h <;> try contradiction
      rename_i hku
      rw [hav] at hx
      exact immCase _ d (fun _ h => h) (fun _ h => h) (RepV.kind W hx (sameK_eq hku).symm) h
    · rename_i q p u hav
      rw [cond_eq] at h
      split at h <;> try contradiction
      rename_i hku
      split at h <;> try contradiction
      rename_i y hy
      rw [hav] at hx
      obtain ⟨_, hx2⟩ := hx y hy
      have hok := ob_ok R hy
      split at h <;> try contradiction
      · rename_i hs
        -- what is owned no more
        obtain ⟨u', hu, hk', h3⟩ := hx2 (not_it_of_get hs (by simp))
        have hkk : tk P u' = .slc e := (hk'.trans (sameK_eq hku).symm).trans hk
        rcases h3 with h3 | ⟨rfl, hrb, hv⟩
        · exfalso
          obtain ⟨cs', hO⟩ := hok.own.sub W p hs hu h3
          rw [(hO.leaf_of_imm).1] at h3
          simp [Lt.hv] at h3
        · simp only [tyAt, Option.some.injEq, Sh.get] at hu hs
          subst hu
          refine immCase _ y.d (fun _ h => h) (fun _ h => h) ?_ h
          have := hok.own
          rw [hs] at this
          exact RepV.kind W ⟨_, this.leaf_of_imm.2, hv⟩ (hk'.trans (sameK_eq hku).symm)
      · rename_i s' ex hs
        obtain ⟨⟨h0, h1⟩, hK⟩ := h
        obtain ⟨u', hu, hk', h3⟩ := hx2 (not_it_of_get hs (by simp))
        have hkk : tk P u' = .slc e := (hk'.trans (sameK_eq hku).symm).trans hk
        have hsub : ∃ cs', Own P A (Xof X0 (lookO g.ob) ph) w ((ph q).L.sub p) (.slc s' ex) u' cs' (y.d.get p) ∧ ((ph q).L.sub p).hv = some (a.eval x) := by
          rcases h3 with h3 | ⟨rfl, hrb, hv⟩
          · obtain ⟨cs', hO⟩ := hok.own.sub W p hs hu h3
            exact ⟨cs', hO, h3⟩
          · simp only [tyAt, Option.some.injEq, Sh.get] at hu hs
            subst hu
            have := hok.own
            rw [hs] at this
            exact ⟨_, this, by rw [Lt.sub, this.slc_hv, hv]⟩
        obtain ⟨cs', hO, hh⟩ := hsub
        generalize hL : (ph q).L.sub p = L at hO hh
        generalize hd : y.d.get p = dd at hO h1
        cases hO with
        | nil => simp [D.len, D.xs] at h1; omega
        | slc h' hb g1 g2 g3 g4 =>
          rename_i e' b off cap E c kids xs
          rw [hkk] at h'
          injection h' with h'
          subst h'
          have hlt : n.toNat < xs.length := by simp [D.len, D.xs] at h1; omega
          simp only [Lt.hv, Option.some.injEq] at hh
          have hne : tk P e ≠ .other := by
            by_cases hg : elS s' ex n.toNat = .gone
            · have := g4 n.toNat hlt
              rw [hg] at this
              exact W.elem u' e hkk
            · exact (g4 n.toNat hlt).tk_ne hg
          refine Does.value (run_index hk ho hh.symm hi h0 (by rw [g1]; simp [D.len, D.xs] at h1; omega) hne) (Out.pure R hK ?_)
          intro x2 hx3
          rw [hy] at hx3
          injection hx3 with hx3
          subst hx3
          obtain ⟨l1, l2⟩ := loc_idx p (ph q).root y.t (ph q).L u' e b off cap kids n.toNat hu hkk hL (by omega) (fun _ _ => .inr trivial)
          exact ⟨b, _, e, rfl, l1, l2, rfl⟩
  · rename_i m e hk
    split at h <;> try contradiction
    rename_i n hn
    obtain ⟨k, hi⟩ := intOf_eval W R hn
    have hne := (W.arr _ _ _ hk).2
    have hrun : ∀ b o1, a.eval x = .pointer (some ⟨b, o1, none⟩) → 0 ≤ n → n < m → (execOp a.eval o).run P w = .ok (.value (.pointer (some ⟨b, o1 + n.toNat * P.cellsOf e, none⟩))) w := by
      intro b o1 e1 h0 h1
      simp [execOp, ho, e1, hi, Instr.indexAt, run_underlying (und_arr hk), asIntOf, Instr.sureAddr, h0, h1, run_sizeOf hne, addr_add]
    split at h <;> try contradiction
    · rename_i u d hav
      rw [cond_eq] at h
      split at h <;> try contradiction
      rename_i hku
      obtain ⟨⟨h0, h1⟩, hK⟩ := h
      rw [hav] at hx
      obtain ⟨b, o1, cs, e1, e2, e3, e4, e5⟩ := hx
      refine Does.value (hrun b o1 e1 h0 h1) (Out.pure R hK ?_)
      have hR := e5.kind W.kind (sameK_eq hku).symm
      cases hR with
      | arr h' hc hd hf =>
        rename_i n1 e1' ds
        rw [hk] at h'
        injection h' with h' h''
        subst h' h''
        have hlt : n.toNat < m := by omega
        refine ⟨b, o1 + n.toNat * P.cellsOf e, _, rfl, e2, e3, e4.sub ?_, hf _ hlt⟩
        have := Nat.mul_le_mul_right (P.cellsOf e) (show n.toNat + 1 ≤ m from hlt)
        rw [Nat.add_mul, ← (W.arr _ _ _ hk).1, ← hc] at this
        simpa using this
      | _ => simp_all
    · rename_i q p u hav
      rw [cond_eq] at h
      split at h <;> try contradiction
      rename_i hku
      split at h <;> try contradiction
      rename_i y hy
      obtain ⟨⟨h0, h1⟩, hK⟩ := h
      rw [hav] at hx
      obtain ⟨b, o1, u', e1, e2, e3, e4⟩ := hx y hy
      refine Does.value (hrun b o1 e1 h0 h1) (Out.pure R hK ?_)
      intro x2 hx2
      rw [hy] at hx2
      injection hx2 with hx2
      subst hx2
      have htk : tk P u' = .arr m e := (e4.trans (sameK_eq hku).symm).trans hk
      have hlt : n.toNat < m := by omega
      obtain ⟨g1, g2⟩ := loc_append (P := P) [.arr n.toNat] p _ _ _ _ _ e2 e3
      exact ⟨b, o1 + n.toNat * P.cellsOf e, e, rfl, by rw [g1]; simp only [Lt.loc, htk, if_pos hlt, Option.map_some], by rw [g2]; simp only [tyAt, htk, if_pos hlt], rfl⟩

end
end Go.Ab

/- Comparisons, lengths, least ones, parts of slices, interfaces. -/
namespace Go.Ab
variable {P : Program} {A : Ann}
section
variable {X0 Y0 : Nat → Prop} {w0 : World} {g : St} {ph : Nat → Ph} {a : Act} {w : World} {o : Oper} {K : Dl → Prop}

theorem step_bool {op : BinOp} {tx ty : Nat} {x y : Operand} (W : WF P) (ho : o.op = .binOp op tx x y ty) (R : RelA P A X0 Y0 w0 g ph a w) (hk : tk P tx = .bool) (hB : isB P P.rt.bool = true)
    (h : match St.data P (lookO g.ob) tx (g.av x), St.data P (lookO g.ob) tx (g.av y) with
    | some a, some b => match (generalizing := false) op with
      | .eql => onV K (.imm P.rt.bool (.bool (decide (a.b = b.b))))
      | .neq => onV K (.imm P.rt.bool (.bool (!decide (a.b = b.b))))
      | _ => False
    | _, _ => False) : Does P o a w (Out P A X0 Y0 w0 g a K) := by
  split at h <;> try contradiction
  rename_i dx dy hx hy
  obtain ⟨m, e1, rfl⟩ := slot_bool W R hk hx
  obtain ⟨n, e2, rfl⟩ := slot_bool W R hk hy
  have hb : (m == n) = decide (m = n) := by rw [Bool.eq_iff_iff]; simp
  cases op <;> try exact (show False from h).elim
  · refine Does.value (v := .bool (decide (m = n))) (w' := w) ?_ (Out.pure R h (rep_bool (isB_eq hB)))
    simp [execOp, ho, e1, e2, eqGuard, binOp, run_equal_bool w tx m n (und_bool hk), hb]
  · refine Does.value (v := .bool (!decide (m = n))) (w' := w) ?_ (Out.pure R h (rep_bool (isB_eq hB)))
    simp [execOp, ho, e1, e2, eqGuard, binOp, run_equal_bool w tx m n (und_bool hk), hb]

theorem step_nilEq {op : BinOp} {tx ty e : Nat} {x y : Operand} (W : WF P) (ho : o.op = .binOp op tx x y ty) (R : RelA P A X0 Y0 w0 g ph a w) (hk : tk P tx = .slc e) (hB : isB P P.rt.bool = true)
    (h : match St.data P (lookO g.ob) tx (g.av x), g.av y with
    | some a, .con (.slice none 0 0) => match (generalizing := false) op with
      | .eql => ∀ b : Bool, (b = true → a.len = 0) → onV K (.imm P.rt.bool (.bool b))
      | .neq => ∀ b : Bool, (b = true → a.len = 0) → onV K (.imm P.rt.bool (.bool (!b)))
      | _ => False
    | _, _ => False) : Does P o a w (Out P A X0 Y0 w0 g a K) := by
  have hyr := AVR.eval R y
  split at h <;> try contradiction
  rename_i dx hx hy
  rw [hy] at hyr
  have e2 : a.eval y = .slice none 0 0 := hyr
  obtain ⟨X1, _, hr⟩ := slot_rep W R hx
  obtain ⟨ad, l, c, e1, hlen⟩ : ∃ (ad : Option Addr) (l c : Nat), a.eval x = .slice ad l c ∧ (ad.isNone = true → dx.len = 0) := by
    rcases rep_slc_inv hk hr with ⟨p, e1, rfl⟩ | ⟨b, off, cap, xs, css, e1, rfl, _⟩
    · exact ⟨_, _, _, e1, fun _ => rfl⟩
    · exact ⟨_, _, _, e1, fun h => by simp at h⟩
  cases op <;> try exact (show False from h).elim
  · refine Does.value (v := .bool ad.isNone) (w' := w) ?_ (Out.pure R (h ad.isNone hlen) (rep_bool (isB_eq hB)))
    simp [execOp, ho, e1, e2, eqGuard, binOp, run_equal_slice_nil w tx e ad l c (und_slc hk)]
  · refine Does.value (v := .bool (!ad.isNone)) (w' := w) ?_ (Out.pure R (h ad.isNone hlen) (rep_bool (isB_eq hB)))
    simp [execOp, ho, e1, e2, eqGuard, binOp, run_equal_slice_nil w tx e ad l c (und_slc hk)]

theorem run_getMap {r k : Nat} {x : Array MapEntry} (h : w.heap[r]? = some (.map x k)) : (getObj r).run P w = .ok (.map x k) w := by simp [getObj, Sem.run, h]
theorem run_getIter {r since last : Nat} {m : Option Nat} {seen : Array Nat} (h : w.heap[r]? = some (.mapIter m since seen last)) : (getObj r).run P w = .ok (.mapIter m since seen last) w := by simp [getObj, Sem.run, h]
theorem run_setMap {r k : Nat} {x : Array MapEntry} {y : Go.Obj} (h : w.heap[r]? = some (.map x k)) : (setObj r y).run P w = .ok () { w with heap := w.heap.setIfInBounds r y } := by simp [setObj, Sem.run, h]
theorem run_setIter {r since last : Nat} {m : Option Nat} {seen : Array Nat} {y : Go.Obj} (h : w.heap[r]? = some (.mapIter m since seen last)) : (setObj r y).run P w = .ok () { w with heap := w.heap.setIfInBounds r y } := by simp [setObj, Sem.run, h]

theorem goInt_eq (n : Nat) : goInt n = .int .i64 n := rfl

theorem step_len {c : Call} {t : Nat} {x : Operand} (W : WF P) (ho : o.op = .call c) (hc : c.callee = .builtin .len) (ht : c.argTypes.toList = [t]) (hxs : c.args.toList = [x]) (R : RelA P A X0 Y0 w0 g ph a w)
    (h : lenD P (lookO g.ob) t (g.av x) (onV K) o.type) : Does P o a w (Out P A X0 Y0 w0 g a K) := by
  have hat : c.argTypes = #[t] := by rw [← Array.toList_inj]; exact ht
  have hxa : c.args = #[x] := by rw [← Array.toList_inj]; exact hxs
  unfold lenD at h
  split at h <;> try contradiction
  rename_i d hd
  rw [cond_eq] at h
  split at h <;> try contradiction
  rename_i hI
  obtain ⟨X1, _, hr⟩ := slot_rep W R hd
  split at h <;> try contradiction
  · rename_i e hk
    rcases rep_slc_inv hk hr with ⟨p, e1, rfl⟩ | ⟨b, off, cap, xs, css, e1, rfl, _⟩
    · refine Does.value (v := .int .i64 (0 : Nat)) (w' := w) ?_ (Out.pure R h (rep_int (isI_eq hI)))
      simp [execOp, ho, resolve, hc, hat, hxa, invoke, builtin, Builtin.len_, e1, run_underlying (und_slc hk), goInt]
    · refine Does.value (v := .int .i64 xs.length) (w' := w) ?_ (Out.pure R h (rep_int (isI_eq hI)))
      simp [execOp, ho, resolve, hc, hat, hxa, invoke, builtin, Builtin.len_, e1, run_underlying (und_slc hk), goInt]
  · rename_i k e hk
    obtain ⟨cs, hr, hv⟩ := hr
    cases hr with
    | mapN h' =>
      refine Does.value (v := .int .i64 (0 : Nat)) (w' := w) ?_ (Out.pure R h (rep_int (isI_eq hI)))
      rw [mkV_one (by rw [hk]; rfl)] at hv
      simp [execOp, ho, resolve, hc, hat, hxa, invoke, builtin, Builtin.len_, hv, run_underlying (und_map hk), goInt]
    | map h' hx' hb hl =>
      rename_i k' e' r clock es l ck ce _ _ _ _
      refine Does.value (v := .int .i64 l.length) (w' := w) ?_ (Out.pure R h (rep_int (isI_eq hI)))
      rw [mkV_one (by rw [hk]; rfl)] at hv
      simp [execOp, ho, resolve, hc, hat, hxa, invoke, builtin, Builtin.len_, hv, run_underlying (und_map hk), goInt, run_getMap hb, hl]
    | _ => simp_all
  · rename_i hk
    obtain ⟨cs, hr, hv⟩ := hr
    cases hr with
    | str h' =>
      rename_i s
      refine Does.value (v := .int .i64 s.size) (w' := w) ?_ (Out.pure R h (rep_int (isI_eq hI)))
      rw [mkV_one (by rw [hk]; rfl)] at hv
      simp [execOp, ho, resolve, hc, hat, hxa, invoke, builtin, Builtin.len_, hv, run_underlying (und_str hk), goInt]
    | _ => simp_all

theorem step_makeFunc {f : Nat} {first caps : Array Operand} (ho : o.op = .makeFunc (.func f) first caps) (hf : Nat.beq first.size 0 = true) (R : RelA P A X0 Y0 w0 g ph a w)
    (hfl : ∀ x ∈ caps.toList, (g.av x).flatA = true) (h : K { v := .clo f (caps.toList.map g.av) }) : Does P o a w (Out P A X0 Y0 w0 g a K) := by
  have h0 : first = #[] := by have := beq_iff.1 hf; exact Array.eq_empty_of_size_eq_zero this
  refine Does.value (v := .func (.func f) #[] (caps.map a.eval)) (w' := w) (by simp [execOp, ho, h0, Instr.makeFunc]) (Out.pure R h ?_)
  refine ⟨_, rfl, by simp, fun i av hi => ?_⟩
  simp only [List.getElem?_map, Option.map_eq_some_iff, Array.getElem?_toList] at hi
  obtain ⟨x, hx, rfl⟩ := hi
  have := (AVR.eval R x).one (hfl x (by rw [Array.mem_toList_iff]; exact Array.mem_of_getElem? hx))
  simpa [Array.getD_eq_getD_getElem?, hx] using this

def AV.fixed : AV → Bool
  | .val _ _ _ => false
  | .old _ _ _ => false
  | _ => true
theorem data_imm (W : WF P) {X : Nat → Prop} {ob : Nat → Option Obj} {t : Nat} {av : AV} {d : D} {v : Value} (h : AVR1 P A X w ob ph av v) (hd : St.data P ob t av = some d)
    (hv : av.fixed = true) : RepV P A X w t v d := by
  cases av with
  | imm u d' =>
    simp only [St.data, cond_eq] at hd
    split at hd <;> try contradiction
    rename_i hk
    simp only [Option.some.injEq] at hd
    subst hd
    exact RepV.kind W h (sameK_eq hk).symm
  | con c =>
    have : v = c := h
    subst this
    exact conD_rep hd
  | nils u =>
    simp only [St.data, cond_eq] at hd
    split at hd <;> try contradiction
    rename_i hk
    simp only [Option.some.injEq] at hd
    subst hd
    obtain ⟨rfl, e, he⟩ := h
    have := (sameK_eq hk).trans he
    exact ⟨_, .slcN this, (mkV_one (by rw [this]; rfl)).symm⟩
  | val => simp [AV.fixed] at hv
  | old => simp [AV.fixed] at hv
  | _ => simp [St.data] at hd

theorem val_imm (W : WF P) {X : Nat → Prop} {ob : Nat → Option Obj} {t q : Nat} {p : Pth} {x : Obj} {v : Value} (ho : OkObj P A X w x (ph q)) (hq : ob q = some x) (h : AVR1 P A X w ob ph (.val q p t) v) (hs : x.sh.get p = some .imm) :
    RepV P A X w t v (x.d.get p) := by
  obtain ⟨_, hx2⟩ := h x hq
  obtain ⟨u', hu, hk', h3⟩ := hx2 (not_it_of_get hs (by simp))
  rcases h3 with h3 | ⟨rfl, hrb, hv⟩
  · exfalso
    obtain ⟨cs', hO⟩ := ho.own.sub W p hs hu h3
    rw [(hO.leaf_of_imm).1] at h3
    simp [Lt.hv] at h3
  · simp only [tyAt, Option.some.injEq, Sh.get] at hu hs
    subst hu
    have := ho.own
    rw [hs] at this
    exact RepV.kind W ⟨_, this.leaf_of_imm.2, hv⟩ hk'

theorem isIfc_eq {t : Nat} (h : isIfc P t = true) : tk P t = .ifc := by
  unfold isIfc at h
  split at h
  · assumption
  · cases h

theorem step_makeInterface {t : Nat} {x : Operand} (W : WF P) (ho : o.op = .makeInterface t x) (R : RelA P A X0 Y0 w0 g ph a w) (h : match St.data P (lookO g.ob) t (g.av x), tk P t with
    | some _, .ifc => False
    | some _, .other => False
    | some d, _ => cond (isIfc P o.type) (match g.av x with
      | .val _ _ _ => False
      | .old _ _ _ => False
      | _ => K { v := .imm o.type (.ifc t d) }) False
    | none, _ => False) : Does P o a w (Out P A X0 Y0 w0 g a K) := by
  cases hd : St.data P (lookO g.ob) t (g.av x) with
  | none => rw [hd] at h; exact h.elim
  | some d =>
    rw [hd] at h
    by_cases h1 : tk P t = .ifc
    · rw [h1] at h; exact h.elim
    · by_cases h2 : tk P t = .other
      · rw [h2] at h; exact h.elim
      · have h' : cond (isIfc P o.type) (match g.av x with
          | .val _ _ _ => False
          | .old _ _ _ => False
          | _ => K { v := .imm o.type (.ifc t d) }) False := by
          revert h
          cases hk : tk P t <;> simp_all
        rw [cond_eq] at h'
        split at h' <;> try contradiction
        rename_i hi
        have hr : RepV P A (Xof X0 (lookO g.ob) ph) w t (a.eval x) d := by
          refine data_imm W ((AVR.eval R x).one (data_flat hd)) hd ?_
          cases hav : g.av x <;> first | rfl | (rw [hav] at h'; exact h'.elim)
        have hK : K { v := .imm o.type (.ifc t d) } := by
          revert h'
          cases g.av x <;> simp
        obtain ⟨dd, hdd, _⟩ := und_of_tk h2
        refine Does.value (v := .iface t (a.eval x)) (w' := w) ?_ (Out.pure R hK ?_)
        · have := tk_of_und (k := tk P t) rfl h2
          rw [hdd] at this
          cases dd <;> simp_all [execOp, Instr.makeInterface, run_underlying hdd]
        · obtain ⟨cs, hr, hv⟩ := hr
          exact ⟨_, .ifc (isIfc_eq hi) h1 hr, by rw [hv, mkV_one (by rw [isIfc_eq hi]; rfl)]⟩

theorem step_slice {t : Nat} {x : Operand} {lo hi : Option Operand} (W : WF P) (ho : o.op = .slice t x lo hi none) (R : RelA P A X0 Y0 w0 g ph a w)
    (h : bothI P g.av lo fun l => bothI P g.av hi fun h => sliceOfD P (lookO g.ob) t (g.av x) l h (onV K)) : Does P o a w (Out P A X0 Y0 w0 g a K) := by
  have both : ∀ {z : Option Operand} {F : Option Int → Prop}, bothI P g.av z F → ∃ n, F n ∧ (∀ y, z = some y → ∃ k m, a.eval y = .int k m ∧ n = some m) ∧ (z = none → n = none) := by
    intro z F hF
    cases z with
    | none => exact ⟨none, hF, by simp, by simp⟩
    | some y =>
      simp only [bothI] at hF
      split at hF <;> try contradiction
      rename_i n hn
      obtain ⟨k, hk⟩ := intOf_eval W R hn
      exact ⟨_, hF, fun y' e => by injection e with e; subst e; exact ⟨k, n, hk, rfl⟩, by simp⟩
  obtain ⟨l, h, hl1, hl2⟩ := both h
  obtain ⟨u, h, hu1, hu2⟩ := both h
  unfold sliceOfD at h
  split at h <;> try contradiction
  rename_i e d hk hd
  obtain ⟨hr, h0, h1, h2, hK⟩ : RepV P A (Xof X0 (lookO g.ob) ph) w t (a.eval x) d ∧ 0 ≤ l.getD 0 ∧ l.getD 0 ≤ u.getD d.len ∧ u.getD d.len ≤ d.len ∧ onV K (.imm t (.slc ((d.xs.take (u.getD d.len).toNat).drop (l.getD 0).toNat))) := by
    have hx := AVR.eval R x
    simp only at h
    split at h
    · rename_i q p t' hav
      split at h <;> try contradiction
      rename_i y hy
      split at h <;> try contradiction
      rename_i hs
      rw [hav] at hx hd
      have hR := val_imm W (ob_ok R hy) hy hx hs
      simp only [St.data, cond_eq] at hd
      split at hd <;> try contradiction
      rename_i hkk
      rw [hy] at hd
      simp only [hs, Sh.plain, if_true, Option.some.injEq] at hd
      rw [← hd] at h ⊢
      exact ⟨RepV.kind W hR (sameK_eq hkk).symm, h.1.1, h.1.2.1, h.1.2.2, h.2⟩
    · contradiction
    · rename_i hn1 hn2
      refine ⟨data_imm W (hx.one (data_flat hd)) hd ?_, h.1.1, h.1.2.1, h.1.2.2, h.2⟩
      cases hav : g.av x <;> first | rfl | exact (hn1 _ _ _ hav).elim | exact (hn2 _ _ _ hav).elim
  have hne := W.elem _ _ hk
  obtain ⟨ad, cap, e1, hcap, hcell⟩ : ∃ (ad : Option Addr) (cap : Nat), a.eval x = .slice ad d.xs.length cap ∧ d.xs.length ≤ cap ∧
      ∀ (i n : Nat), i + n ≤ d.xs.length → RepV P A (Xof X0 (lookO g.ob) ph) w t (.slice (if cap = i then ad else ad.map (·.add (i * P.cellsOf e))) n (cap - i)) (.slc ((d.xs.drop i).take n)) := by
    have h1c : ∀ v, mkV P t [v] = v := fun v => mkV_one (by rw [hk]; rfl)
    rcases rep_slc_inv hk hr with ⟨p, e1, rfl⟩ | ⟨b, off, cap, xs, css, e1, rfl, g1, g2, g3, g4, g5, g6⟩
    · refine ⟨p, 0, e1, Nat.le_refl _, fun i n hi => ?_⟩
      simp only [D.xs, List.length_nil, Nat.le_zero, Nat.add_eq_zero_iff] at hi
      obtain ⟨rfl, rfl⟩ := hi
      exact ⟨[.slice p 0 0], .slcN hk, by simp [h1c]⟩
    · refine ⟨_, cap, e1, g3, fun i n hi => ?_⟩
      simp only [D.xs] at hi ⊢
      have hlen : ((xs.drop i).take n).length = n := by simp; omega
      by_cases hci : cap = i
      · have hn : n = 0 := by omega
        subst hn
        refine ⟨_, .slc (b := b) (off := off) (cap := cap - i) (xs := (xs.drop i).take 0) (css := css) hk g1 g2 (by simp) (by simp) (by simp) (by simp), by simp [h1c, hci]⟩
      · refine ⟨_, .slc (b := b) (off := off + i * P.cellsOf e) (cap := cap - i) (xs := (xs.drop i).take n) (css := fun j => css (i + j)) hk g1 g2 (by omega) (fun j hj => g4 _ (by omega)) (fun j hj => ?_) (fun j hj => ?_), ?_⟩
        · have := g5 (i + j) (by omega)
          rw [Nat.add_mul, ← Nat.add_assoc] at this
          exact this
        · have := g6 (i + j) (by omega)
          rw [List.getD_eq_getElem?_getD, List.getElem?_take_of_lt (by omega), List.getElem?_drop, ← List.getD_eq_getElem?_getD]
          exact this
        · rw [h1c, hlen, if_neg hci]
          simp [addr_add]
  have hD : d.len = d.xs.length := rfl
  obtain ⟨uN, huN⟩ : ∃ n : Nat, u.getD d.len = n := ⟨(u.getD d.len).toNat, by omega⟩
  obtain ⟨lN, hlN⟩ : ∃ n : Nat, l.getD 0 = n := ⟨(l.getD 0).toNat, by omega⟩
  rw [huN, hlN] at hK h1
  rw [hlN] at h0
  rw [huN, hD] at h2
  have hsb : (Instr.sliceBounds true d.xs.length cap (lo.map a.eval) (hi.map a.eval) none).run P w = .ok (lN, uN, cap) w := by
    have hh : (match hi.map a.eval with | some v => Instr.sliceBound v cap .sliceAcap | none => pure d.xs.length : Sem Nat).run P w = .ok uN w := by
      cases hi with
      | none => rw [hu2 rfl] at huN; simp only [Option.getD_none, hD, Int.natCast_inj] at huN; simp [huN]
      | some z =>
        obtain ⟨k, m, e2, rfl⟩ := hu1 z rfl
        simp only [Option.getD_some] at huN
        subst huN
        simp only [Option.map_some, Instr.sliceBound, e2, asIntOf, Sem.run_bind, Sem.run_pure, Result.andThen_ok]
        rw [if_pos (by omega)]
        simp
    have hl' : (match lo.map a.eval with | some v => Instr.sliceBound v uN .sliceB | none => pure 0 : Sem Nat).run P w = .ok lN w := by
      cases lo with
      | none => rw [hl2 rfl] at hlN; simp only [Option.getD_none] at hlN; simp; omega
      | some z =>
        obtain ⟨k, m, e2, rfl⟩ := hl1 z rfl
        simp only [Option.getD_some] at hlN
        subst hlN
        simp only [Option.map_some, Instr.sliceBound, e2, asIntOf, Sem.run_bind, Sem.run_pure, Result.andThen_ok]
        rw [if_pos (by omega)]
        simp
    unfold Instr.sliceBounds
    cases hi <;> cases lo <;> simp_all
  refine Does.value (v := .slice (if cap = lN then ad else ad.map (·.add (lN * P.cellsOf e))) (uN - lN) (cap - lN)) (w' := w) ?_ (Out.pure R hK ?_)
  · simp only [execOp, ho, Instr.sliceAt, Instr.slice, Sem.run_bind, run_underlying (und_slc hk), Result.andThen_ok, e1, Option.map_none, hsb, run_sizeOf hne, Sem.run_pure]
  · have := hcell lN (uN - lN) (by omega)
    rw [List.take_drop] at this
    have e3 : lN + (uN - lN) = uN := by omega
    rw [e3] at this
    simp only [Int.toNat_natCast]
    exact this

theorem ints_spec (W : WF P) (R : RelA P A X0 Y0 w0 g ph a w) {k : TK} : ∀ (ts : List Nat) (xs : List Operand) (ns : List Int), ints P (lookO g.ob) k ts (xs.map g.av) = some ns → ns ≠ [] →
    ∃ q, k = .int q ∧ xs.map a.eval = ns.map (Value.int q)
  | [], [], ns, h, hn => by simp only [ints, List.map_nil, Option.some.injEq] at h; exact absurd h.symm hn
  | [], x :: xs, ns, h, _ => by simp [ints] at h
  | t :: ts, [], ns, h, _ => by simp [ints] at h
  | t :: ts, x :: xs, ns, h, _ => by
    simp only [ints, List.map_cons, cond_eq] at h
    split at h <;> try contradiction
    rename_i ht
    split at h <;> try contradiction
    rename_i q d r hd hr
    simp only [Option.some.injEq] at h
    subst h
    obtain ⟨n, e, rfl⟩ := slot_int W R (by simpa using ht) hd
    refine ⟨q, rfl, ?_⟩
    rw [List.map_cons, List.map_cons, e]
    by_cases hrn : r = []
    · subst hrn
      cases ts <;> cases xs <;> simp only [ints, List.map_cons, List.map_nil, reduceCtorEq] at hr
      · rfl
      · rw [cond_eq] at hr
        split at hr <;> try contradiction
        split at hr <;> simp at hr
    · obtain ⟨q', hq, he⟩ := ints_spec W R ts xs r hr hrn
      injection hq with hq
      subst hq
      rw [he]
      rfl

theorem step_minmax {c : Call} {mx : Bool} (W : WF P) (ho : o.op = .call c) (hc : c.callee = .builtin (if mx then .max else .min)) (R : RelA P A X0 Y0 w0 g ph a w)
    (h : match ints P (lookO g.ob) (tk P o.type) c.argTypes.toList (c.args.toList.map g.av) with
      | some (a :: l) => K { v := .imm o.type (.int (foldMM mx a l)) }
      | _ => False) : Does P o a w (Out P A X0 Y0 w0 g a K) := by
  split at h <;> try contradiction
  rename_i n l hn
  obtain ⟨q, hq, he⟩ := ints_spec W R _ _ _ hn (by simp)
  have hfold : ∀ (l : List Int) (n : Int), ((l.map (Value.int q)).foldlM (if mx then Builtin.max2 else Builtin.min2) (Value.int q n)).run P w = .ok (.int q (foldMM mx n l)) w := by
    intro l
    induction l with
    | nil => intro n; simp [foldMM]
    | cons m l ih =>
      intro n
      have h2 : ((if mx then Builtin.max2 else Builtin.min2) (Value.int q n) (Value.int q m)).run P w = .ok (.int q (minmax mx n m)) w := by
        cases mx <;> simp [Builtin.max2, Builtin.min2, minmax]
      simp only [List.map_cons, List.foldlM_cons, Sem.run_bind, h2, Result.andThen_ok, foldMM]
      exact ih _
  have hargs : (c.args.map a.eval).toList = Value.int q n :: l.map (Value.int q) := by simpa using he
  refine Does.value (v := .int q (foldMM mx n l)) (w' := w) ?_ (Out.pure R h (rep_int hq))
  cases mx
  · simp only [execOp, ho, resolve, hc, Bool.false_eq_true, if_false, Sem.run_bind, Sem.run_pure, Result.andThen_ok, invoke, builtin, Builtin.min_, hargs]
    have := hfold l n
    simp only [Bool.false_eq_true, if_false] at this
    simp [this]
  · simp only [execOp, ho, resolve, hc, if_true, Sem.run_bind, Sem.run_pure, Result.andThen_ok, invoke, builtin, Builtin.max_, hargs]
    have := hfold l n
    simp only [if_true] at this
    simp [this]

end
end Go.Ab

/- Equality of structs; interfaces again; parts of results. -/
namespace Go.Ab
variable {P : Program} {A : Ann}

theorem run_partAt (W : WF P) {t off : Nat} {cs : List Value} (ht : tk P t ≠ .other) (hl : off + P.cellsOf t ≤ cs.length) (w : World) :
    (part t cs.toArray off).run P w = .ok (mkV P t (seg cs off (P.cellsOf t))) w := by
  unfold part
  simp only [Sem.run_bind, run_isAgg ht, Result.andThen_ok]
  by_cases ha : isAgg (tk P t) = true
  · simp only [if_pos ha, Sem.run_bind, run_sizeOf ht, Result.andThen_ok, Sem.run_pure, mkV]
    congr 2
    apply Array.ext'
    simp [seg, List.extract_eq_take_drop]
  · have h1 := W.one t (by simpa using ha) ht
    rw [h1] at hl ⊢
    simp only [if_neg ha]
    have : cs.toArray[off]? = some cs[off] := by simp [show off < cs.length by omega]
    rw [this]
    simp only [Sem.run_pure, mkV, if_neg ha, seg]
    rw [List.drop_eq_getElem_cons (show off < cs.length by omega)]
    rfl

/-- Flat data is compared part by part. -/
theorem run_same (W : WF P) {X X' : Nat → Prop} {w : World} : ∀ (n t : Nat) (cs cs' : List Value) (dx dy : D) (d : Nat), eqT P n t = true → Rep P A X w t cs dx → Rep P A X' w t cs' dy → n ≤ d →
    (Op.equalIn d t (mkV P t cs) (mkV P t cs')).run P w = .ok (D.same n dx dy) w
  | 0, _, _, _, _, _, _, h, _, _, _ => by simp [eqT] at h
  | n + 1, t, cs, cs', dx, dy, d, h, hx, hy, hd => by
    obtain ⟨d, rfl⟩ : ∃ e, d = e + 1 := ⟨d - 1, by omega⟩
    simp only [eqT] at h
    split at h <;> try contradiction
    · rename_i k hk
      cases hx <;> first | (exfalso; simp_all; done) | skip
      cases hy <;> first | (exfalso; simp_all; done) | skip
      rename_i k1 n1 h1 k2 n2 h2
      rw [hk] at h1 h2
      injection h1 with h1
      injection h2 with h2
      subst h1 h2
      rw [mkV_one (by rw [hk]; rfl), mkV_one (by rw [hk]; rfl), run_equalIn_int w d t _ _ _ _ (und_int hk)]
      simp [D.same, int_beq]
    · rename_i hk
      cases hx <;> first | (exfalso; simp_all; done) | skip
      cases hy <;> first | (exfalso; simp_all; done) | skip
      rename_i b1 _ b2 _
      rw [mkV_one (by rw [hk]; rfl), mkV_one (by rw [hk]; rfl), run_equalIn_bool w d t _ _ (und_bool hk)]
      simp only [D.same]
      congr 1
    · rename_i hk
      cases hx <;> first | (exfalso; simp_all; done) | skip
      cases hy <;> first | (exfalso; simp_all; done) | skip
      rename_i s1 _ s2 _
      rw [mkV_one (by rw [hk]; rfl), mkV_one (by rw [hk]; rfl), run_equalIn_string w d t _ _ (und_str hk)]
      simp only [D.same]
      congr 1
      rw [Bool.eq_iff_iff]; simp
    · rename_i fs hk
      simp only [Bool.and_eq_true, Bool.not_eq_true'] at h
      obtain ⟨⟨⟨hn, hst⟩, _⟩, hall⟩ := h
      obtain ⟨F, hF, hfs⟩ := und_struct hk
      have hFo : P.fieldsOf t = F := by simp [Program.fieldsOf, hF]
      simp only [named, hF, List.all_eq_true] at hn
      cases hx with
      | struct h1 hc hdl hf =>
        cases hy with
        | struct h1' hc' hdl' hf' =>
          rename_i fs1 ds fs2 ds'
          rw [hk] at h1 h1'
          injection h1 with h1
          injection h1' with h1'
          subst h1 h1'
          have ha : isAgg (tk P t) = true := by rw [hk]; rfl
          simp only [mkV, if_pos ha]
          rw [run_equalIn_struct w d t _ _ (by rw [hFo]; exact hF) hst, hFo]
          have main : ∀ (l : List Field) (i : Nat) (es es' : List D), (∀ f ∈ l, f.name ≠ "_") → (∀ j f, l[j]? = some f → fs[i + j]? = some (f.type, f.offset) ∧ eqT P n f.type = true) → es.length = l.length → es'.length = l.length →
              (∀ j, j < l.length → es.getD j .und = ds.getD (i + j) .und ∧ es'.getD j .und = ds'.getD (i + j) .und) → (Op.eqFields d cs.toArray cs'.toArray l).run P w = .ok (D.same.sames n es es') w := by
            intro l
            induction l with
            | nil =>
              intro i es es' _ _ h3 h4 _
              rw [List.length_eq_zero_iff.1 h3, List.length_eq_zero_iff.1 h4]
              simp [Op.eqFields, D.same.sames]
            | cons f l ih =>
              intro i es es' h1 h2 h3 h4 h5
              obtain ⟨a, es, rfl⟩ : ∃ a r, es = a :: r := by cases es with
                | nil => simp at h3
                | cons a r => exact ⟨a, r, rfl⟩
              obtain ⟨b, es', rfl⟩ : ∃ a r, es' = a :: r := by cases es' with
                | nil => simp at h4
                | cons a r => exact ⟨a, r, rfl⟩
              obtain ⟨hj, he⟩ := h2 0 f rfl
              obtain ⟨g1, g2⟩ := W.struct _ _ hk _ _ _ hj
              have ra := hf _ _ _ hj
              have rb := hf' _ _ _ hj
              have e5 := h5 0 (by simp)
              simp only [List.getD_cons_zero, Nat.add_zero] at e5
              simp only [Nat.add_zero] at ra rb
              rw [← e5.1] at ra
              rw [← e5.2] at rb
              have hs := run_same W n _ _ _ _ _ d he ra rb (by omega)
              simp only [Op.eqFields, if_pos (h1 f (by simp)), Sem.run_bind, run_partAt W g2 (by rw [hc]; exact g1), run_partAt W g2 (by rw [hc']; exact g1), Result.andThen_ok, hs, D.same.sames]
              cases hsa : D.same n a b
              · simp
              · simp only [Bool.not_true, Bool.false_eq_true, if_false, Bool.true_and]
                refine ih (i + 1) es es' (fun f hf => h1 f (List.mem_cons_of_mem _ hf)) (fun j f hj => ?_) (by simpa using h3) (by simpa using h4) fun j hj => ?_
                · have := h2 (j + 1) f (by simpa using hj)
                  rw [show i + 1 + j = i + (j + 1) by omega]
                  exact this
                · have := h5 (j + 1) (by simpa using hj)
                  rw [show i + 1 + j = i + (j + 1) by omega]
                  simpa using this
          have hlen : fs.length = F.toList.length := by rw [hfs]; simp
          simp only [D.same]
          refine main F.toList 0 ds ds' (fun f hf => by simpa using hn f hf) (fun j f hj => ?_) (by omega) (by omega) (fun j _ => by simp)
          have : fs[0 + j]? = some (f.type, f.offset) := by rw [hfs, Nat.zero_add, List.getElem?_map, hj]; rfl
          refine ⟨this, ?_⟩
          have := List.all_eq_true.1 hall _ (List.mem_of_getElem? this)
          exact this
        | _ => simp_all
      | _ => simp_all

section
variable {X0 Y0 : Nat → Prop} {w0 : World} {g : St} {ph : Nat → Ph} {a : Act} {w : World} {o : Oper} {K : Dl → Prop}

theorem step_structEq {op : BinOp} {tx ty : Nat} {x y : Operand} {fs : List (Nat × Nat)} (W : WF P) (ho : o.op = .binOp op tx x y ty) (R : RelA P A X0 Y0 w0 g ph a w) (hk : tk P tx = .struct fs) (hq : eqT P 8 tx = true) (hB : isB P P.rt.bool = true)
    (h : match St.data P (lookO g.ob) tx (g.av x), St.data P (lookO g.ob) tx (g.av y) with
    | some a, some b => match (generalizing := false) op with
      | .eql => onV K (.imm P.rt.bool (.bool (D.same 8 a b)))
      | .neq => onV K (.imm P.rt.bool (.bool (!D.same 8 a b)))
      | _ => False
    | _, _ => False) : Does P o a w (Out P A X0 Y0 w0 g a K) := by
  split at h <;> try contradiction
  rename_i dx dy hx hy
  obtain ⟨X1, _, cs, hr, e1⟩ := slot_rep W R hx
  obtain ⟨X2, _, cs', hr', e2⟩ := slot_rep W R hy
  have hs := run_same W 8 tx cs cs' dx dy 10000 hq hr hr' (by omega)
  have hg : P.eqGuardType P.depth tx = false := by
    simp only [eqT, hk, Bool.and_eq_true, Bool.not_eq_true'] at hq
    exact hq.1.2
  have ha : isAgg (tk P tx) = true := by rw [hk]; rfl
  simp only [mkV, if_pos ha] at e1 e2 hs
  cases op <;> try exact (show False from h).elim
  · refine Does.value (v := .bool (D.same 8 dx dy)) (w' := w) ?_ (Out.pure R h (rep_bool (isB_eq hB)))
    simp only [execOp, ho, e1, e2, Sem.run_bind, run_eqGuard_agg w .eql tx x y _ _ hg, Result.andThen_ok, run_eql_struct, hs, Sem.run_pure]
  · refine Does.value (v := .bool (!D.same 8 dx dy)) (w' := w) ?_ (Out.pure R h (rep_bool (isB_eq hB)))
    simp only [execOp, ho, e1, e2, Sem.run_bind, run_eqGuard_agg w .neq tx x y _ _ hg, Result.andThen_ok, run_neq_struct, hs, Sem.run_pure]

/-- TWO OPERANDS. -/
theorem step_binOp {op : BinOp} {tx ty : Nat} {x y : Operand} (W : WF P) (ho : o.op = .binOp op tx x y ty) (R : RelA P A X0 Y0 w0 g ph a w) (h : binD P (lookO g.ob) op tx ty o.type (g.av x) (g.av y) (onV K)) :
    Does P o a w (Out P A X0 Y0 w0 g a K) := by
  unfold binD at h
  split at h <;> try contradiction
  · rename_i k hk
    rw [cond_eq] at h
    split at h <;> try contradiction
    rename_i hr
    split at h <;> try contradiction
    rename_i dx hx
    by_cases hs : op = .shl ∨ op = .shr
    · have h' : match tk P ty with
          | .int _ => match St.data P (lookO g.ob) ty (g.av y) with
            | some b => shOp op k dx.i b.i fun d => onV K (.imm (resT P op o.type) d)
            | none => False
          | _ => False := by
        rcases hs with rfl | rfl <;> exact h
      split at h' <;> try contradiction
      rename_i k' hk'
      split at h' <;> try contradiction
      rename_i dy hy
      exact step_shift W ho R hk hk' hs hr hx hy h'
    · have hs' : op ≠ .shl ∧ op ≠ .shr := ⟨fun e => hs (.inl e), fun e => hs (.inr e)⟩
      have h' : match St.data P (lookO g.ob) tx (g.av y) with
          | some b => intOp op k dx.i b.i fun d => onV K (.imm (resT P op o.type) d)
          | none => False := by
        cases op <;> first | exact h | exact absurd rfl hs'.1 | exact absurd rfl hs'.2
      split at h' <;> try contradiction
      rename_i dy hy
      exact step_int W ho R hk hs' hr hx hy h'
  · rename_i hk
    rw [cond_eq] at h
    split at h <;> try contradiction
    rename_i hB
    exact step_bool W ho R hk hB h
  · rename_i e hk
    rw [cond_eq] at h
    split at h <;> try contradiction
    rename_i hB
    exact step_nilEq W ho R hk hB h
  · rename_i fs hk
    rw [cond_eq] at h
    split at h <;> try contradiction
    rename_i hB
    simp only [Bool.and_eq_true] at hB
    exact step_structEq W ho R hk hB.1 hB.2 h

end
end Go.Ab

/- New memory. -/
namespace Go.Ab
variable {P : Program} {A : Ann}

def upPh (ph : Nat → Ph) (k : Nat) (p : Ph) : Nat → Ph := fun j => if j = k then p else ph j

section
variable {X0 Y0 : Nat → Prop} {w0 : World} {g : St} {ph : Nat → Ph} {a : Act} {w : World} {o : Oper} {K : Dl → Prop}

/-- An object outlasts what only adds. -/
theorem OkObj.frame {X X' : Nat → Prop} {w w' : World} {x : Obj} {p : Ph} (hs : w.heap.size ≤ w'.heap.size) (hX : ∀ b, b < w.heap.size → X' b → X b) (hk : ∀ b, b < w.heap.size → ¬ X b → w'.heap[b]? = w.heap[b]?)
    (h : OkObj P A X w x p) (hF : ∀ b ∈ p.F, w'.heap[b]? = w.heap[b]?) : OkObj P A X' w' x p :=
  ⟨h.own.frame hs hX hk fun b hb => hF b (by simp [Ph.F, Ph.S, hb]), fun hb => by
    obtain ⟨b, E, c, h1, h2, h3⟩ := h.box hb
    exact ⟨b, E, c, h1, (hF b (by simp [Ph.F, h1])).trans h2, h3⟩, h.hdr, h.nodup, fun b hb => Nat.lt_of_lt_of_le (h.lt b hb) hs⟩

/-- New memory; what is consumed moves into it. -/
theorem RelD.fresh (R : RelA P A X0 Y0 w0 g ph a w) {dst : Nat} {x : Obj} {cons : Nat → Prop} {p : Ph} {w' : World} {v : AV} {val : Value} {os : Objs} (hw : Keeps (fun _ => False) w w')
    (h1 : upO os (lookO g.ob) dst = some x) (h2 : ∀ k, k ≠ dst → cons k → upO os (lookO g.ob) k = none) (h3 : ∀ k, k ≠ dst → ¬ cons k → upO os (lookO g.ob) k = lookO g.ob k)
    (hp : ∀ b ∈ p.F, w.heap.size ≤ b ∨ ∃ c y, cons c ∧ lookO g.ob c = some y ∧ b ∈ (ph c).F)
    (hok : (∀ b, b < w.heap.size → Xof X0 (upO os (lookO g.ob)) (upPh ph dst p) b → Xof X0 (lookO g.ob) ph b) → OkObj P A (Xof X0 (upO os (lookO g.ob)) (upPh ph dst p)) w' x p)
    (hv : (∀ b, b < w.heap.size → Xof X0 (upO os (lookO g.ob)) (upPh ph dst p) b → Xof X0 (lookO g.ob) ph b) → AVR P A (Xof X0 (upO os (lookO g.ob)) (upPh ph dst p)) w' (upO os (lookO g.ob)) (upPh ph dst p) v val) :
    RelD P A X0 Y0 w0 (look g.sl) (lookO g.ob) a.tmps { v, os, ks := [(dst, .all)] } val w' := by
  have hh : ∀ b, b < w.heap.size → w'.heap[b]? = w.heap[b]? := fun b hb => hw.block b hb id
  have hn0 : w0.heap.size ≤ w.heap.size := R.keeps.size
  have hob : ∀ k y, k ≠ dst → upO os (lookO g.ob) k = some y → lookO g.ob k = some y ∧ ¬ cons k := by
    intro k y hk hy
    by_cases hc : cons k
    · rw [h2 k hk hc] at hy; cases hy
    · exact ⟨by rw [← h3 k hk hc]; exact hy, hc⟩
  have hX : ∀ b, b < w.heap.size → Xof X0 (upO os (lookO g.ob)) (upPh ph dst p) b → Xof X0 (lookO g.ob) ph b := by
    rintro b hb (h | ⟨k, y, hy, hm⟩)
    · exact .inl h
    · by_cases hk : k = dst
      · subst hk
        simp only [upPh, if_true] at hm
        rcases hp b hm with h | ⟨c, z, _, hz, hm⟩
        · omega
        · exact .inr ⟨c, z, hz, hm⟩
      · simp only [upPh, if_neg hk] at hm
        exact .inr ⟨k, y, (hob k y hk hy).1, hm⟩
  have hO := R.objs
  refine ⟨upPh ph dst p, ⟨fun k y hy => ?_, fun k y k' y' hy hy' hkk b hb hb' => ?_, fun k y hy b hb hx => ?_, fun k y hy b hb => ?_, hO.old⟩, fun s => ?_, hv hX, R.keeps.trans hw (fun _ h => h) (fun _ _ h => h.elim)⟩
  · by_cases hk : k = dst
    · subst hk
      rw [h1] at hy
      injection hy with hy
      subst hy
      simp only [upPh, if_true]
      exact hok hX
    · simp only [upPh, if_neg hk]
      have h0 := hO.ok k y (hob k y hk hy).1
      exact h0.frame hw.size hX (fun b hb _ => hh b hb) fun b hb => hh b (h0.lt b hb)
  · have key : ∀ k y b, k ≠ dst → upO os (lookO g.ob) k = some y → b ∈ (ph k).F → b ∈ p.F → False := by
      intro k y b hk hy hb hb'
      obtain ⟨e1, e2⟩ := hob k y hk hy
      rcases hp b hb' with h | ⟨c, z, hc, hz, hm⟩
      · have := (hO.ok k y e1).lt b hb; omega
      · exact hO.apart k y c z e1 hz (fun e => e2 (e ▸ hc)) b hb hm
    by_cases hk : k = dst
    · have hk' : k' ≠ dst := fun e => hkk (hk.trans e.symm)
      simp only [upPh, if_pos hk, if_neg hk'] at hb hb'
      exact key k' y' b hk' hy' hb' hb
    · by_cases hk' : k' = dst
      · simp only [upPh, if_neg hk, if_pos hk'] at hb hb'
        exact key k y b hk hy hb hb'
      · simp only [upPh, if_neg hk, if_neg hk'] at hb hb'
        exact hO.apart k y k' y' (hob k y hk hy).1 (hob k' y' hk' hy').1 hkk b hb hb'
  · by_cases hk : k = dst
    · simp only [upPh, if_pos hk] at hb
      rcases hp b hb with h | ⟨c, z, _, hz, hm⟩
      · have := hO.old b hx; omega
      · exact hO.free c z hz b hm hx
    · simp only [upPh, if_neg hk] at hb
      exact hO.free k y (hob k y hk hy).1 b hb hx
  · by_cases hk : k = dst
    · simp only [upPh, if_pos hk] at hb
      rcases hp b hb with h | ⟨c, z, _, hz, hm⟩
      · exact .inr (by omega)
      · exact hO.ours c z hz b hm
    · simp only [upPh, if_neg hk] at hb
      exact hO.ours k y (hob k y hk hy).1 b hb
  · refine AVR.stays hw.size hX (fun b hb _ => hh b hb) (by simp [KM.isApp]) (fun k y hy => ?_) (fun k y y' hy hy' hks _ _ b hb => ?_) (R.slots s)
    · by_cases hk : k = dst
      · exact .all (by simp [hk])
      · obtain ⟨e1, e2⟩ := hob k y hk hy
        exact .same (h3 k hk e2) (by simp [upPh, hk]) fun b hb => hh b ((hO.ok k y e1).lt b hb)
    · have hk : k ≠ dst := fun e => hks (by simp [e])
      simp only [upPh, if_neg hk]
      exact fun h => ⟨hX b hb h.1, h.2⟩

end
end Go.Ab

/- What is taken for good. -/
namespace Go.Ab
variable {P : Program} {A : Ann}

/-- The tree of a value that is taken; a nil slice is owned as one wishes. -/
def Taken (P : Program) (A : Ann) (X : Nat → Prop) (w : World) (sv : Option Sh) (t : Nat) (cs : List Value) (d : D) (L : Lt) : Prop :=
  match sv with
  | some s => Own P A X w L s t cs d
  | none => L = .nil ∧ cs = [.slice none 0 0] ∧ d = .slc [] ∧ ∃ e, tk P t = .slc e

theorem Taken.own {X : Nat → Prop} {w : World} {sv : Option Sh} {t : Nat} {cs : List Value} {d : D} {L : Lt} (h : Taken P A X w sv t cs d L) (s : Sh) (hs : sv = none → s = .imm ∨ ∃ u, s = .slc u none) (hs' : ∀ u, sv = some u → s = u) :
    ∃ L', Own P A X w L' s t cs d ∧ L'.blocks = L.blocks := by
  cases sv with
  | some u => obtain rfl := hs' u rfl; exact ⟨L, h, rfl⟩
  | none =>
    obtain ⟨rfl, rfl, rfl, e, he⟩ := h
    rcases hs rfl with rfl | ⟨u, rfl⟩
    · exact ⟨.leaf, .imm (.slcN he), rfl⟩
    · exact ⟨.nil, .nil he, rfl⟩

theorem Taken.length (W : WF P) {X : Nat → Prop} {w : World} {sv : Option Sh} {t : Nat} {cs : List Value} {d : D} {L : Lt} (h : Taken P A X w sv t cs d L) : cs.length = P.cellsOf t := by
  cases sv with
  | some u => exact Own.length W h
  | none => obtain ⟨_, rfl, _, e, he⟩ := h; exact (W.one' he rfl (by simp)).symm

theorem Taken.frame {X X' : Nat → Prop} {w w' : World} (hs : w.heap.size ≤ w'.heap.size) (hX : ∀ b, b < w.heap.size → X' b → X b) (hk : ∀ b, b < w.heap.size → ¬ X b → w'.heap[b]? = w.heap[b]?)
    {sv : Option Sh} {t : Nat} {cs : List Value} {d : D} {L : Lt} (h : Taken P A X w sv t cs d L) (hB : ∀ b ∈ L.blocks, w'.heap[b]? = w.heap[b]?) : Taken P A X' w' sv t cs d L := by
  cases sv with
  | some u => exact Own.frame hs hX hk h hB
  | none => exact h

section
variable {X0 Y0 : Nat → Prop} {w0 : World} {ob : Nat → Option Obj} {ph : Nat → Ph} {w : World}

theorem Rep.taken {X : Nat → Prop} {t : Nat} {v : Value} {d : D} (h : RepV P A X w t v d) : ∃ cs L, v = mkV P t cs ∧ Taken P A X w (some .imm) t cs d L ∧ L.blocks = [] := by
  obtain ⟨cs, hr, hv⟩ := h
  exact ⟨cs, .leaf, hv, Own.imm hr, rfl⟩

/-- What a slot's value is, when it is taken. -/
def TakenAt (P : Program) (A : Ann) (X : Nat → Prop) (ob : Nat → Option Obj) (ph : Nat → Ph) (w : World) (sv : Option Sh) (t : Nat) (v : Value) (d : D) (os : Objs) : Prop :=
  ∃ cs L, v = mkV P t cs ∧ Taken P A X w sv t cs d L ∧ L.blocks.Nodup ∧ sv ≠ some .gone ∧ ((os = [] ∧ L.blocks = []) ∨ ∃ o x, os = [(o, none)] ∧ ob o = some x ∧ x.box = false ∧ ∀ b ∈ L.blocks, b ∈ (ph o).F)

theorem Own.kind (W : WF P) {X : Nat → Prop} {L : Lt} {s : Sh} {t u : Nat} {cs : List Value} {d : D} (h : Own P A X w L s t cs d) (e : tk P t = tk P u) (hs : s ≠ .gone) : Own P A X w L s u cs d := by
  cases h with
  | imm h => exact .imm (h.kind W.kind e)
  | nil h => exact .nil (e ▸ h)
  | slc h a b c d f => exact .slc (e ▸ h) a b c d f
  | agg h a b c d => exact .agg (e ▸ h) (by rw [a]; exact W.kind _ _ e (by rw [h]; simp)) b c d
  | gone => exact absurd rfl hs
  | mp h a b c d f g i j => exact .mp (e ▸ h) a b c d f g i j
  | it h a => exact .it (e ▸ h) a

/-- WHAT IS TAKEN: a value's cells, its tree, and which object it was. -/
theorem takeV_spec (W : WF P) (hO : Objs' P A X0 Y0 w0.heap.size ob ph w) {t : Nat} {av : AV} {v : Value} {sv : Option Sh} {d : D} {os : Objs} (h : AVR1 P A (Xof X0 ob ph) w ob ph av v) (ht : takeV P ob t av = some (sv, d, os)) :
    TakenAt P A (Xof X0 ob ph) ob ph w sv t v d os := by
  have imm : ∀ d', RepV P A (Xof X0 ob ph) w t v d' → sv = some .imm → d = d' → os = [] → TakenAt P A (Xof X0 ob ph) ob ph w sv t v d os := fun d' hr e1 e2 e3 => by
    obtain ⟨cs, L, a1, a2, a3⟩ := Rep.taken hr
    subst e1 e2 e3
    exact ⟨cs, L, a1, a2, by rw [a3]; exact List.nodup_nil, by simp, .inl ⟨rfl, a3⟩⟩
  have nil : ∀ e, tk P t = .slc e → v = .slice none 0 0 → sv = none → d = .slc [] → os = [] → TakenAt P A (Xof X0 ob ph) ob ph w sv t v d os := by
    intro e he hv e1 e2 e3
    subst e1 e2 e3
    exact ⟨_, .nil, by rw [mkV_one (by rw [he]; rfl)]; exact hv, ⟨rfl, rfl, rfl, e, he⟩, by simp [Lt.blocks], by simp, .inl ⟨rfl, rfl⟩⟩
  cases av with
  | val o p u =>
    cases p with
    | nil =>
      simp only [takeV, cond_eq] at ht
      split at ht <;> try contradiction
      rename_i hk
      split at ht <;> try contradiction
      rename_i x hx
      split at ht <;> try contradiction
      rename_i hb
      simp only [Bool.or_eq_true, not_or, Bool.not_eq_true] at hb
      have hg : x.sh ≠ .gone := fun e => by have := hb.2; rw [e] at this; cases this
      simp only [Option.some.injEq, Prod.mk.injEq] at ht
      obtain ⟨rfl, rfl, rfl⟩ := ht
      have ho := hO.ok o x hx
      obtain ⟨g1, g2⟩ := h x hx
      have hit : x.sh ≠ .it := fun e => by obtain ⟨m, hm, _⟩ := g1 e; cases hm
      obtain ⟨u', a1, a2, a3⟩ := g2 hit
      simp only [tyAt, Option.some.injEq] at a1
      subst a1
      have hkk : tk P x.t = tk P t := a2.trans (sameK_eq hk).symm
      have hvv : v = mkV P t (ph o).cs := by
        rw [← mkV_kind hkk]
        rcases a3 with a3 | ⟨_, _, a3⟩
        · obtain ⟨e1, e2⟩ := ho.own.header a3
          rw [e1, mkV_one e2]
        · exact a3
      have hown : Own P A (Xof X0 ob ph) w (ph o).L x.sh t (ph o).cs x.d := ho.own.kind W hkk hg
      refine ⟨_, _, hvv, hown, ?_, by simpa using hg, ?_⟩
      · have := ho.nodup
        simp only [Ph.F, Ph.S, List.nodup_append] at this
        exact this.2.1.1
      · by_cases hi : x.sh.isImm = true
        · left
          rw [if_pos hi]
          refine ⟨rfl, ?_⟩
          have := hown
          rw [isImm_iff.1 hi] at this
          rw [this.leaf_of_imm.1]
          rfl
        · right
          rw [if_neg hi]
          exact ⟨o, x, rfl, hx, hb.1, fun b hb => by simp [Ph.F, Ph.S, hb]⟩
    | cons y p =>
      simp only [takeV, cond_eq] at ht
      split at ht <;> try contradiction
      rename_i hk
      split at ht <;> try contradiction
      rename_i x hx
      split at ht <;> try contradiction
      rename_i hs
      simp only [Option.some.injEq, Prod.mk.injEq] at ht
      obtain ⟨rfl, rfl, rfl⟩ := ht
      exact imm _ (RepV.kind W (val_imm W (hO.ok o x hx) hx h hs) (sameK_eq hk).symm) rfl rfl rfl
  | nils u =>
    simp only [takeV, cond_eq] at ht
    split at ht <;> try contradiction
    rename_i hk
    simp only [Option.some.injEq, Prod.mk.injEq] at ht
    obtain ⟨rfl, rfl, rfl⟩ := ht
    obtain ⟨hv, e, he⟩ := h
    exact nil e ((sameK_eq hk).trans he) hv rfl rfl rfl
  | imm u d' =>
    simp only [takeV, cond_eq] at ht
    split at ht <;> try contradiction
    rename_i hk
    simp only [Option.some.injEq, Prod.mk.injEq] at ht
    obtain ⟨rfl, rfl, rfl⟩ := ht
    exact imm _ (RepV.kind W h (sameK_eq hk).symm) rfl rfl rfl
  | con c =>
    have hv : v = c := h
    subst hv
    have con : ∀ d', conD P t v = some d' → some (some Sh.imm, d', ([] : Objs)) = some (sv, d, os) → TakenAt P A (Xof X0 ob ph) ob ph w sv t v d os := fun d' hc e => by
      simp only [Option.some.injEq, Prod.mk.injEq] at e
      exact imm d' (conD_rep hc) e.1.symm e.2.1.symm e.2.2.symm
    unfold takeV at ht
    split at ht <;> try contradiction
    · split at ht <;> try contradiction
      rename_i e hk
      simp only [Option.some.injEq, Prod.mk.injEq] at ht
      obtain ⟨rfl, rfl, rfl⟩ := ht
      rename_i hc _
      injection hc with hc
      exact nil e hk hc rfl rfl rfl
    · rename_i c' _ hc
      injection hc with hc
      subst hc
      split at ht <;> try contradiction
      rename_i d' hd
      exact con d' hd ht
  | _ => simp [takeV] at ht

end
end Go.Ab

/- Zero values; new variables. -/
namespace Go.Ab
variable {P : Program} {A : Ann}

theorem size_zero {s : ByteArray} (h : s.size = 0) : s = ByteArray.empty := by
  obtain ⟨⟨l⟩⟩ := s
  simp [ByteArray.size] at h
  subst h
  rfl

/-- A type's zero is its data. -/
theorem zero_rep {X : Nat → Prop} {w : World} : ∀ (n t : Nat) (cs : List Value), zOk P n t cs = true → Rep P A X w t cs (zD P n t)
  | 0, _, _, h => by simp [zOk] at h
  | n + 1, t, cs, h => by
    simp only [zOk] at h
    simp only [zD]
    split at h <;> rename_i hk <;> simp only [hk]
    · split at h <;> try contradiction
      simp only [Bool.and_eq_true, decide_eq_true_eq] at h
      obtain ⟨rfl, rfl⟩ := h
      exact .int hk
    · split at h <;> try contradiction
      exact .bool hk
    · split at h <;> try contradiction
      rw [size_zero (beq_iff.1 h)]
      exact .str hk
    · split at h <;> try contradiction
      exact .slcN hk
    · simp only [Bool.and_eq_true, beq_iff, List.all_eq_true] at h
      refine .struct hk h.1 (by simp) fun j ft o hj => ?_
      rename_i fs
      have := zero_rep (X := X) (w := w) n _ _ (h.2 _ (List.mem_of_getElem? hj))
      rw [List.getD_eq_getElem?_getD, List.getElem?_map, hj]
      exact this
    · simp only [Bool.and_eq_true, beq_iff, List.all_eq_true] at h
      refine .arr hk h.1 (by simp) fun j hj => ?_
      have := zero_rep (X := X) (w := w) n _ _ (h.2 j (by simpa using hj))
      rw [List.getD_eq_getElem?_getD, List.getElem?_replicate, if_pos hj]
      exact this
    · split at h <;> try contradiction
      exact .ptrN hk
    · split at h <;> try contradiction
      exact .fnN hk
    · split at h <;> try contradiction
      exact .ifcN hk
    · split at h <;> try contradiction
      exact .mapN hk
    · cases h

theorem fldL_filter (l : List (Nat × Sh)) (j : Nat) : fldL (l.filter fun x => !x.2.isImm) j = fldL l j ∨ (∃ s, (j, s) ∈ l ∧ s = .imm) := by
  induction l with
  | nil => exact .inl rfl
  | cons x l ih =>
    obtain ⟨i, s⟩ := x
    by_cases hs : s.isImm = true
    · simp only [List.filter_cons, hs, Bool.not_true, Bool.false_eq_true, if_false]
      by_cases e : i = j
      · subst e; exact .inr ⟨s, by simp, isImm_iff.1 hs⟩
      · rw [fldL_cons, if_neg e]
        rcases ih with ih | ⟨s', h1, h2⟩
        · exact .inl ih
        · exact .inr ⟨s', List.mem_cons_of_mem _ h1, h2⟩
    · simp only [List.filter_cons, hs, Bool.not_false, if_true, fldL_cons]
      by_cases e : i = j
      · rw [if_pos e, if_pos e]; exact .inl rfl
      · rw [if_neg e, if_neg e]
        rcases ih with ih | ⟨s', h1, h2⟩
        · exact .inl ih
        · exact .inr ⟨s', List.mem_cons_of_mem _ h1, h2⟩

/-- The shape of a field of a zero. -/
theorem fld_zSh {n t : Nat} {fs : List (Nat × Nat)} (hk : tk P t = .struct fs) {j ft o : Nat} (hj : fs[j]? = some (ft, o)) {u : Sh} (hu : (zSh P (n + 1) t).fld j = some u) : u = zSh P n ft := by
  simp only [zSh, hk, fld_mkAgg, Option.some.injEq] at hu
  have hl := (List.getElem?_eq_some_iff.1 hj).1
  have hgen : ∀ (l : List (Nat × Nat)) (k j ft o : Nat), l[j]? = some (ft, o) → fldL (((l.zipIdx k).map fun x => (x.2, zSh P n x.1.1)).filter fun x => !x.2.isImm) (k + j) = zSh P n ft := by
    intro l
    induction l with
    | nil => intro k j ft o h; simp at h
    | cons x l ih =>
      intro k j ft o h
      cases j with
      | zero =>
        simp only [List.getElem?_cons_zero, Option.some.injEq] at h
        subst h
        simp only [List.zipIdx_cons, List.map_cons, List.filter_cons]
        split
        · simp [fldL_cons]
        · rename_i hi
          have hi' : zSh P n ft = .imm := isImm_iff.1 (by simpa using hi)
          rw [hi']
          have hno : ∀ (l : List (Nat × Nat)) (m : Nat), k < m → fldL (((l.zipIdx m).map fun x => (x.2, zSh P n x.1.1)).filter fun x => !x.2.isImm) (k + 0) = .imm := by
            intro l
            induction l with
            | nil => intro m _; rfl
            | cons y l ih2 =>
              intro m hm
              simp only [List.zipIdx_cons, List.map_cons, List.filter_cons]
              split
              · rw [fldL_cons, if_neg (by simp; omega)]
                exact ih2 (m + 1) (by omega)
              · exact ih2 (m + 1) (by omega)
          exact hno l (k + 1) (by omega)
      | succ j =>
        simp only [List.getElem?_cons_succ] at h
        have := ih (k + 1) j ft o h
        rw [show k + 1 + j = k + (j + 1) by omega] at this
        simp only [List.zipIdx_cons, List.map_cons, List.filter_cons]
        split
        · rw [fldL_cons, if_neg (by simp)]
          exact this
        · exact this
  have := hgen fs 0 j ft o hj
  rw [Nat.zero_add] at this
  rw [← hu]
  exact this

/-- A zero may be owned: its slices are nil. -/
theorem zero_own (W : WF P) {X : Nat → Prop} {w : World} : ∀ (m n t : Nat) (cs : List Value), zOk P n t cs = true → ∃ L, Own P A X w L (zSh P m t) t cs (zD P n t) ∧ L.blocks = []
  | 0, n, t, cs, h => ⟨.leaf, .imm (zero_rep n t cs h), rfl⟩
  | m + 1, 0, t, cs, h => by simp [zOk] at h
  | m + 1, n + 1, t, cs, h => by
    have hr := zero_rep (A := A) (X := X) (w := w) (n + 1) t cs h
    cases hk : tk P t with
    | slc e =>
      simp only [zOk, hk] at h
      simp only [zSh, zD, hk]
      split at h <;> try contradiction
      exact ⟨.nil, .nil hk, rfl⟩
    | struct fs =>
      simp only [zOk, hk, Bool.and_eq_true, beq_iff, List.all_eq_true] at h
      have hfl : ∀ j, ∃ u, (zSh P (m + 1) t).fld j = some u := fun j => by simp only [zSh, hk, fld_mkAgg]; exact ⟨_, rfl⟩
      have hall : ∀ j, j < fs.length → ∃ L, (∀ ft o, fs[j]? = some (ft, o) → Own P A X w L (zSh P m ft) ft (seg cs o (P.cellsOf ft)) (zD P n ft)) ∧ L.blocks = [] := by
        intro j hj
        have hj' : fs[j]? = some (fs[j].1, fs[j].2) := by simp [List.getElem?_eq_getElem hj]
        obtain ⟨L, h1, h2⟩ := zero_own W m n _ _ (h.2 _ (List.mem_of_getElem? hj'))
        refine ⟨L, fun ft o hf => ?_, h2⟩
        rw [hj'] at hf
        injection hf with hf
        injection hf with e1 e2
        subst e1 e2
        exact h1
      obtain ⟨Ls, hLl, hLs⟩ := list_choice Lt.leaf fs.length hall
      obtain ⟨L, g1, _, g3, _⟩ := own_of_fields (A := A) (X := X) (w := w) (s := zSh P (m + 1) t) (cs := cs) (ds := fs.map fun x => zD P n x.1) hk hfl h.1 (by simp) (fun j => Ls.getD j .leaf) fun j ft o hj u hu => by
        have hl := (List.getElem?_eq_some_iff.1 hj).1
        have hd : (List.map (fun x => zD P n x.fst) fs).getD j D.und = zD P n ft := by rw [List.getD_eq_getElem?_getD, List.getElem?_map, hj]; rfl
        rw [fld_zSh hk hj hu, hd]
        exact (hLs j hl).1 ft o hj
      refine ⟨L, by simp only [zD, hk]; exact g1, ?_⟩
      apply List.eq_nil_iff_forall_not_mem.2
      intro b hb
      obtain ⟨j, hj, hb⟩ := g3 b hb
      rw [(hLs j hj).2] at hb
      cases hb
    | _ => simp only [zSh, hk]; exact ⟨.leaf, .imm hr, rfl⟩

end Go.Ab
