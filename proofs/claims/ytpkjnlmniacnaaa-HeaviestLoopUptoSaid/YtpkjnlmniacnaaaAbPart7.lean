/- The abstraction layer, part 7: rules that read a program as plain data, and that they are sound. Conditions: those in each theorem. -/
import Derived.Test.YtpkjnlmniacnaaaAbPart6
set_option linter.unusedVariables false
set_option linter.unusedSimpArgs false
/- A program is well formed, as far as the rules ask: a check, and what it gives. -/
namespace Go.Ab

def notOther (P : Program) (t : Nat) : Bool := match tk P t with
  | .other => false
  | _ => true
theorem notOther_ok {P : Program} {t : Nat} (h : notOther P t = true) : tk P t ≠ .other := by
  intro e; simp [notOther, e] at h

def tileB (P : Program) : List (Nat × Nat) → Nat → Nat → Bool
  | [], o, n => Nat.beq o n
  | (ft, p) :: r, o, n => Nat.beq p o && notOther P ft && tileB P r (o + P.cellsOf ft) n

def tyB (P : Program) (t : Nat) : Bool := match tk P t with
  | .other => true
  | .struct fs => tileB P fs 0 (P.cellsOf t)
  | .arr n e => Nat.beq (P.cellsOf t) (n * P.cellsOf e) && notOther P e
  | .slc e => Nat.beq (P.cellsOf t) 1 && notOther P e
  | _ => Nat.beq (P.cellsOf t) 1

def zeroB (P : Program) (t : Nat) : Bool := !(goodT P 8 t) || match P.info? t with
  | some i => match i.zero with
    | some (.agg cs) => isAgg (tk P t) && zOk P 8 t cs.toList
    | some v => !(isAgg (tk P t)) && zOk P 8 t [v]
    | none => false
  | none => false

def typesB (P : Program) : Bool := (List.range P.types.size).all fun t => tyB P t && zeroB P t
def namesB (P : Program) : Bool := P.funcs.toList.all fun f => !(f.name == "runtime.NumGoroutine")

theorem tk_other {P : Program} {t : Nat} (h : ¬ t < P.types.size) : tk P t = .other := by
  unfold tk
  have : Nat.blt t P.types.size = false := by
    cases hb : Nat.blt t P.types.size
    · rfl
    · exact absurd (by simpa [Nat.blt_eq] using hb) h
  rw [this]; rfl

theorem tile_total {P : Program} : ∀ {fs : List (Nat × Nat)} {o n : Nat}, tileB P fs o n = true → o ≤ n
  | [], o, n, h => by simp only [tileB, Nat.beq_eq] at h; omega
  | (ft, p) :: r, o, n, h => by
    simp only [tileB, Bool.and_eq_true, Nat.beq_eq] at h
    have := tile_total h.2
    omega

theorem tile_at {P : Program} : ∀ {fs : List (Nat × Nat)} {o n : Nat}, tileB P fs o n = true → ∀ (j ft p : Nat), fs[j]? = some (ft, p) → o ≤ p ∧ p + P.cellsOf ft ≤ n ∧ tk P ft ≠ .other
  | [], o, n, _, j, ft, p, hj => by simp at hj
  | (gt, q) :: r, o, n, h, j, ft, p, hj => by
    simp only [tileB, Bool.and_eq_true, Nat.beq_eq] at h
    cases j with
    | zero =>
      simp only [List.getElem?_cons_zero, Option.some.injEq, Prod.mk.injEq] at hj
      obtain ⟨rfl, rfl⟩ := hj
      have := tile_total h.2
      exact ⟨by omega, by omega, notOther_ok h.1.2⟩
    | succ j =>
      have := tile_at h.2 j ft p (by simpa using hj)
      exact ⟨by omega, this.2.1, this.2.2⟩

theorem tile_cover {P : Program} : ∀ {fs : List (Nat × Nat)} {o n : Nat}, tileB P fs o n = true → ∀ i, o ≤ i → i < n → ∃ (j ft p : Nat), fs[j]? = some (ft, p) ∧ p ≤ i ∧ i < p + P.cellsOf ft
  | [], o, n, h, i, h1, h2 => by simp only [tileB, Nat.beq_eq] at h; omega
  | (gt, q) :: r, o, n, h, i, h1, h2 => by
    simp only [tileB, Bool.and_eq_true, Nat.beq_eq] at h
    by_cases hi : i < o + P.cellsOf gt
    · exact ⟨0, gt, q, rfl, by omega, by omega⟩
    · obtain ⟨j, ft, p, h3, h4, h5⟩ := tile_cover h.2 i (by omega) h2
      exact ⟨j + 1, ft, p, by simpa using h3, h4, h5⟩

theorem tile_order {P : Program} : ∀ {fs : List (Nat × Nat)} {o n : Nat}, tileB P fs o n = true → ∀ (j ft p k fu q : Nat), fs[j]? = some (ft, p) → fs[k]? = some (fu, q) → j < k → p + P.cellsOf ft ≤ q
  | [], o, n, _, j, ft, p, k, fu, q, hj, _, _ => by simp at hj
  | (gt, q') :: r, o, n, h, j, ft, p, k, fu, q, hj, hk, hl => by
    simp only [tileB, Bool.and_eq_true, Nat.beq_eq] at h
    cases k with
    | zero => omega
    | succ k =>
      cases j with
      | zero =>
        simp only [List.getElem?_cons_zero, Option.some.injEq, Prod.mk.injEq] at hj
        obtain ⟨rfl, rfl⟩ := hj
        have := tile_at h.2 k fu q (by simpa using hk)
        omega
      | succ j => exact tile_order h.2 j ft p k fu q (by simpa using hj) (by simpa using hk) (by omega)

/-- EACH TYPE IS LAID OUT AS THE RULES TAKE IT, no function bears the name of one that counts: a check. -/
theorem wf_of {P : Program} (h : typesB P = true) (hn : namesB P = true) (hcpt : ∀ h, isCpt P h = true → CompactAt P h) : WF P := by
  have at_ : ∀ t, tk P t ≠ .other → tyB P t = true ∧ zeroB P t = true := by
    intro t ht
    by_cases hl : t < P.types.size
    · have := List.all_eq_true.1 h t (by simpa using hl)
      simpa using this
    · exact absurd (tk_other hl) ht
  have hone : ∀ t, isAgg (tk P t) = false → tk P t ≠ .other → P.cellsOf t = 1 := by
    intro t h1 h2
    have h3 := (at_ t h2).1
    unfold tyB at h3
    revert h1 h2 h3
    cases tk P t <;> simp [isAgg]
    all_goals (try (intro h3; first | (intro _; exact h3) | exact h3))
  have hst : ∀ t fs, tk P t = .struct fs → tileB P fs 0 (P.cellsOf t) = true := by
    intro t fs ht
    have h3 := (at_ t (by simp [ht])).1
    simpa [tyB, ht] using h3
  have harr : ∀ t n e, tk P t = .arr n e → P.cellsOf t = n * P.cellsOf e ∧ tk P e ≠ .other := by
    intro t n e ht
    have h3 := (at_ t (by simp [ht])).1
    simp only [tyB, ht, Bool.and_eq_true, Nat.beq_eq] at h3
    exact ⟨h3.1, notOther_ok h3.2⟩
  have hend : ∀ (fs : List (Nat × Nat)) (o n m : Nat), tileB P fs o n = true → tileB P fs o m = true → n = m := by
    intro fs
    induction fs with
    | nil => intro o n m h1 h2; simp only [tileB, Nat.beq_eq] at h1 h2; omega
    | cons x r ih =>
      obtain ⟨ft, p⟩ := x
      intro o n m h1 h2
      simp only [tileB, Bool.and_eq_true] at h1 h2
      exact ih _ _ _ h1.2 h2.2
  refine ⟨hone, ?_, ?_, ?_, harr, ?_, ?_, ?_, hcpt, ?_⟩
  · intro t fs ht j ft o hj
    have := tile_at (hst t fs ht) j ft o hj
    exact ⟨this.2.1, this.2.2⟩
  · intro t fs ht i hi
    exact tile_cover (hst t fs ht) i (Nat.zero_le _) hi
  · intro t fs ht j ft o k fu p hj hk hl
    exact tile_order (hst t fs ht) j ft o k fu p hj hk hl
  · intro t u hu ho
    by_cases ha : isAgg (tk P t) = true
    · cases ht : tk P t <;> simp [ht, isAgg] at ha
      · exact hend _ _ _ _ (hst t _ ht) (hst u _ (hu ▸ ht))
      · rw [(harr t _ _ ht).1, (harr u _ _ (hu ▸ ht)).1]
    · rw [hone t (by simpa using ha) ho, hone u (by rw [← hu]; simpa using ha) (hu ▸ ho)]
  · intro t e ht
    have h3 := (at_ t (by simp [ht])).1
    simp only [tyB, ht, Bool.and_eq_true] at h3
    exact notOther_ok h3.2
  · intro f fn hf he
    have hm : fn ∈ P.funcs.toList := by
      have := Array.mem_of_getElem? hf
      exact Array.mem_toList_iff.2 this
    have := List.all_eq_true.1 hn fn hm
    simp [he] at this
  · intro t hg
    have ho : tk P t ≠ .other := by
      intro e
      simp [goodT, e] at hg
    have h3 := (at_ t ho).2
    unfold zeroB at h3
    rw [hg] at h3
    simp only [Bool.not_true, Bool.false_or] at h3
    cases hi : P.info? t with
    | none => rw [hi] at h3; simp at h3
    | some i =>
      rw [hi] at h3
      simp only at h3
      cases hz : i.zero with
      | none => rw [hz] at h3; simp at h3
      | some v =>
        rw [hz] at h3
        by_cases hv : ∃ cs, v = .agg cs
        · obtain ⟨cs, rfl⟩ := hv
          simp only [Bool.and_eq_true] at h3
          exact ⟨i, cs.toList, rfl, by rw [hz]; simp [mkV, h3.1], h3.2⟩
        · have h4 : isAgg (tk P t) = false ∧ zOk P 8 t [v] = true := by
            cases v with
            | agg cs => exact absurd ⟨cs, rfl⟩ hv
            | _ => simpa using h3
          exact ⟨i, [v], rfl, by rw [hz]; simp [mkV, h4.1], h4.2⟩

end Go.Ab
