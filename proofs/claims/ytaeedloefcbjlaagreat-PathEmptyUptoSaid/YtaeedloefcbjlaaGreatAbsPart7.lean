/- The abstraction layer, part 7: rules that read a program as plain data, and that they are sound. Conditions: those in each theorem. -/
import Derived.Test.YtaeedloefcbjlaaGreatAbsPart6
import Derived.Test.YtaeedloefcbjlaaGreatPart2
set_option linter.unusedVariables false
set_option linter.unusedSimpArgs false
/- Data of arguments, taken apart. -/
namespace Go.Ab
variable {P : Program}

theorem Raw.pos {t b : Nat} {x : D} (h : Raw P t x b) : 1 ≤ b := by
 cases h <;> omega
theorem Raw.mono {t b c : Nat} {x : D} (h : Raw P t x b) (hb : b ≤ c) : Raw P t x c := by
 cases h with
 | int h1 h2 h3 => exact .int h1 h2 (by omega)
 | byte h1 h2 h3 h4 => exact .byte h1 h2 h3 (by omega)
 | bool h1 h2 => exact .bool h1 (by omega)
 | str h1 h2 => exact .str h1 (by omega)
 | slc h1 h2 h3 => exact .slc h1 h2 (by omega)
 | struct h1 h2 h3 => exact .struct h1 h2 (by omega)
theorem Raws.each : ∀ {ts : List Nat} {ds : List D} {c : Nat}, Raws P ts ds c → ds.length ≤ c ∧ ds.length = ts.length ∧ ∀ (i t : Nat), ts[i]? = some t → Raw P t (ds.getD i .und) c
 | _, _, _, .nil => ⟨by simp, rfl, by simp⟩
 | _, _, _, .cons h1 h2 => by
  obtain ⟨g1, g2, g3⟩ := h2.each
  have := h1.pos
  refine ⟨by simp; omega, by simp [g2], fun i t hi => ?_⟩
  cases i with
  | zero =>
   simp only [List.getElem?_cons_zero, Option.some.injEq] at hi
   subst hi
   exact h1.mono (by omega)
  | succ i =>
   simp only [List.getElem?_cons_succ] at hi
   exact (g3 i t hi).mono (by omega)

/-- A slice of an argument. -/
theorem Raw.slice {t e b : Nat} {x : D} (h : Raw P t x b) (ht : tk P t = .slc e) : ∃ xs, x = .slc xs ∧ xs.length ≤ b ∧ ∀ y ∈ xs, Raw P e y b := by
 cases h with
 | slc h1 h2 h3 =>
  rw [ht] at h1
  injection h1 with h1
  subst h1
  obtain ⟨g1, g2, g3⟩ := h2.each
  refine ⟨_, rfl, by omega, fun y hy => ?_⟩
  obtain ⟨i, hi⟩ := List.mem_iff_getElem?.1 hy
  have hlt := (List.getElem?_eq_some_iff.1 hi).1
  have := g3 i e (by simp [hlt])
  rw [List.getD, hi, Option.getD_some] at this
  exact this.mono (by omega)
 | _ => simp_all
/-- A struct of an argument. -/
theorem Raw.fields {t b : Nat} {fs : List (Nat × Nat)} {x : D} (h : Raw P t x b) (ht : tk P t = .struct fs) : ∃ ds, x = .agg ds ∧ ds.length = fs.length ∧ ∀ (j ft o : Nat), fs[j]? = some (ft, o) → Raw P ft (ds.getD j .und) b := by
 cases h with
 | struct h1 h2 h3 =>
  rw [ht] at h1
  injection h1 with h1
  subst h1
  obtain ⟨g1, g2, g3⟩ := h2.each
  refine ⟨_, rfl, by simpa using g2, fun j ft o hj => ?_⟩
  exact (g3 j ft (by simp [hj])).mono (by omega)
 | _ => simp_all
/-- A list of bytes. -/
theorem Raw.bytes {t e b : Nat} {x : D} (h : Raw P t x b) (ht : tk P t = .slc e) (he : tk P e = .int .u8) : ∃ l : List Int, x = .slc (l.map .int) ∧ ∀ n ∈ l, 0 ≤ n ∧ n ≤ 255 := by
 obtain ⟨xs, rfl, _, hx⟩ := h.slice ht
 have one : ∀ y ∈ xs, D.int (D.i y) = y ∧ 0 ≤ D.i y ∧ D.i y ≤ 255 := fun y hy => by
  have := hx y hy
  cases this with
  | byte _ h1 h2 _ => exact ⟨rfl, h1, h2⟩
  | _ => simp_all
 refine ⟨xs.map D.i, ?_, fun n hn => ?_⟩
 ·rw [List.map_map]
  congr 1
  exact (List.map_id xs).symm.trans (List.map_congr_left fun y hy => (one y hy).1.symm)
 ·obtain ⟨y, hy, rfl⟩ := List.mem_map.mp hn
  exact (one y hy).2
end Go.Ab
