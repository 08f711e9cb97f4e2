/- The abstraction layer, part 8: rules that read a program as plain data, and that they are sound. Conditions: those in each theorem. -/
import Derived.Test.YtaeedloefcbjlaaGreatPart2
set_option linter.unusedVariables false
set_option linter.unusedSimpArgs false
/- Loops of laws: searches, sums. -/
namespace Go.Ab

theorem ln0 (d : D) : 0 ≤ D.len d := by simp [D.len]
theorem lnN (d : D) : D.len d = ((D.len d).toNat : Nat) := by have := ln0 d; omega
theorem anyB_all {p : Nat → Bool} {a i : Nat} (h : anyB p a = false) (hi : i < a) : p i = false := by
 cases hp : p i with
 | false => rfl
 | true => rw [anyB_true hi hp] at h; cases h

/-- A LOOP that ends at the first fault. -/
theorem all_loop {L : Nat → D → Prop} {bad : Nat → Bool} {N : Nat} {F : Prop} (hN : N ≤ 4000000000)
  (step : ∀ m k, k < N → IntKind.wrap .i64 ((k : Int) + 1) = (k : Int) + 1 → (bad k = true → F) → (bad k = false → L m (.int ((k : Int) + 1))) → L (m + 1) (.int (k : Int)))
  (hbad : anyB bad N = true → F) (good : anyB bad N = false → ∀ m, L (m + 1) (.int (N : Int))) :
  ∀ m k, k ≤ N → N - k < m → (∀ t, t < k → bad t = false) → L m (.int (k : Int)) := by
 intro m
 induction m with
 | zero => intro k _ h; omega
 | succ m ih =>
  intro k h1 h2 h3
  by_cases hk : k = N
  ·subst hk
   exact good (anyB_false h3) m
  ·refine step m k (by omega) (wrap_id (by omega) (by omega)) (fun hb => hbad (anyB_true (by omega) hb)) fun hb => ?_
   exact ih (k + 1) (by omega) (by omega) fun t ht => by
    by_cases e : t = k
    ·subst e; exact hb
    ·exact h3 t (by omega)

/-- A LOOP that folds. -/
theorem fold_loop {S : Type} {L : Nat → D → S → Prop} {step : S → Nat → S} {s0 : S} {N : Nat} (hN : N ≤ 4000000000)
  (hstep : ∀ m k, k < N → IntKind.wrap .i64 ((k : Int) + 1) = (k : Int) + 1 → L m (.int ((k : Int) + 1)) (iter step s0 (k + 1)) → L (m + 1) (.int (k : Int)) (iter step s0 k))
  (hend : ∀ m, L (m + 1) (.int (N : Int)) (iter step s0 N)) : ∀ m k, k ≤ N → N - k < m → L m (.int (k : Int)) (iter step s0 k) := by
 intro m
 induction m with
 | zero => intro k _ h; omega
 | succ m ih =>
  intro k h1 h2
  by_cases hk : k = N
  ·subst hk
   exact hend m
  ·exact hstep m k (by omega) (wrap_id (by omega) (by omega)) (ih (k + 1) (by omega) (by omega))

/-- A rule of faults, one after the other. -/
theorem or_bad {c b : Bool} {F G R : Prop} (hb : (c || b) = true → F) (hg : (c || b) = false → G) (h : c = false → (b = true → F) → (b = false → G) → R) : cond c F R := by
 cases c
 ·exact h rfl (fun e => hb (by rw [e]; rfl)) fun e => hg (by rw [e]; rfl)
 ·exact hb rfl
end Go.Ab
namespace Go.Ab
/-- Steps that may fail. -/
def iterO {S : Type} (step : S → Nat → Option S) (s : S) : Nat → Option S
 | 0 => some s
 | k + 1 => (iterO step s k).bind fun t => step t k
theorem iterO_none {S : Type} {step : S → Nat → Option S} {s : S} {k : Nat} (h : iterO step s k = none) : ∀ j, k ≤ j → iterO step s j = none := by
 intro j hj
 induction j with
 | zero => have : k = 0 := by omega
           subst this; exact h
 | succ j ih =>
  by_cases e : k = j + 1
  ·subst e; exact h
  ·simp only [iterO]
   rw [ih (by omega)]
   rfl
/-- A LOOP that folds, or ends at the first fault. -/
theorem opt_loop {S : Type} {L : Nat → D → S → Prop} {step : S → Nat → Option S} {s0 : S} {N : Nat} {F : Prop} (hN : N ≤ 4000000000)
  (hstep : ∀ m k s, k < N → iterO step s0 k = some s → IntKind.wrap .i64 ((k : Int) + 1) = (k : Int) + 1 → (step s k = none → F) → (∀ s', step s k = some s' → L m (.int ((k : Int) + 1)) s') → L (m + 1) (.int (k : Int)) s)
  (hF : iterO step s0 N = none → F) (hend : ∀ s, iterO step s0 N = some s → ∀ m, L (m + 1) (.int (N : Int)) s) : ∀ m k s, k ≤ N → N - k < m → iterO step s0 k = some s → L m (.int (k : Int)) s := by
 intro m
 induction m with
 | zero => intro k s _ h; omega
 | succ m ih =>
  intro k s h1 h2 h3
  by_cases hk : k = N
  ·subst hk
   exact hend s h3 m
  ·refine hstep m k s (by omega) h3 (wrap_id (by omega) (by omega)) (fun hn => hF ?_) fun s' hs => ?_
   ·refine iterO_none (k := k + 1) ?_ N (by omega)
    simp only [iterO]
    rw [h3]
    exact hn
   ·refine ih (k + 1) s' (by omega) (by omega) ?_
    simp only [iterO]
    rw [h3]
    exact hs
end Go.Ab
