/- Equations and plain laws of the functions that the statement reaches, part 6. Conditions: those in each theorem. -/
import Derived.Test.YtpkjnlmniacnaaaProg
import Derived.Test.YtpkjnlmniacnaaaAbPart1
import Derived.WalkKit
import Derived.Deep.QuietTactic
import Derived.Deep.LoopGhost
import Derived.BigQuiet
import Derived.KernelRfl
import Derived.Test.YtpkjnlmniacnaaaPart1
import Derived.Test.YtpkjnlmniacnaaaPart3
import Derived.OwnWalk
import Derived.Laws.MakeOwn
import Derived.Test.YtpkjnlmniacnaaaPart5
import Derived.Test.YtpkjnlmniacnaaaPart4
set_option linter.unusedVariables false
set_option linter.unusedSimpArgs false
/- integer.every's closure: it goes through all columns behind the first ones. -/
namespace Go.Ab
open Go.Proofs
set_option maxRecDepth 100000

/-- The closure's memory. -/
structure VW (N : Nat → Prop) (mv : Value) (f : Nat) (caps : Array Value) (n b0 b1 b2 b3 b4 : Nat) (w : World) (l : List Int) : Prop where
  hm : w.cell? ⟨b0, 0, none⟩ = some mv
  hf : w.cell? ⟨b1, 0, none⟩ = some (.func (.func f) #[] caps)
  hX : ∀ i, i < n → w.cell? ⟨b2, i, none⟩ = some (.int .i64 (l.getD i 0))
  hz : ∀ i, i < n → w.frozen? ⟨b2, i, none⟩ = false
  hx : w.cell? ⟨b3, 0, none⟩ = some (.slice (some ⟨b2, 0, none⟩) n n)
  hv : w.cell? ⟨b4, 0, none⟩ = some (.func (.func 175) #[] #[.pointer (some ⟨b0, 0, none⟩), .pointer (some ⟨b1, 0, none⟩), .pointer (some ⟨b3, 0, none⟩), .pointer (some ⟨b4, 0, none⟩)])
  hl : l.length = n
  d0 : b0 ≠ b2
  d1 : b1 ≠ b2
  d3 : b3 ≠ b2
  d4 : b4 ≠ b2
  n2 : N b2
  hb : ∀ b, N b → b < w.heap.size

section
variable {N : Nat → Prop} {mv : Value} {f : Nat} {caps : Array Value} {n b0 b1 b2 b3 b4 : Nat} {w w' : World} {l : List Int}

theorem VW.drew (h : VW N mv f caps n b0 b1 b2 b3 b4 w l) (q : Nat) : VW N mv f caps n b0 b1 b2 b3 b4 (w.drewN q) l :=
  ⟨by simpa using h.hm, by simpa using h.hf, fun i hi => by simpa using h.hX i hi, fun i hi => h.hz i hi, by simpa using h.hx, by simpa using h.hv, h.hl, h.d0, h.d1, h.d3, h.d4, h.n2, h.hb⟩

theorem VW.keeps (h : VW N mv f caps n b0 b1 b2 b3 b4 w l) {Y : Nat → Prop} (k : Keeps Y w w') (h0 : ¬ Y b0) (h1 : ¬ Y b1) (h2 : ¬ Y b2) (h3 : ¬ Y b3) (h4 : ¬ Y b4) : VW N mv f caps n b0 b1 b2 b3 b4 w' l :=
  ⟨cell_keeps k h0 h.hm, cell_keeps k h1 h.hf, fun i hi => cell_keeps k h2 (h.hX i hi), fun i hi => by
    have := h.hz i hi
    simp only [World.frozen?, k.block b2 (h.hb b2 h.n2) h2] at this ⊢
    exact this, cell_keeps k h3 h.hx, cell_keeps k h4 h.hv, h.hl, h.d0, h.d1, h.d3, h.d4, h.n2, fun b hb => Nat.lt_of_lt_of_le (h.hb b hb) k.size⟩

theorem VW.set (h : VW N mv f caps n b0 b1 b2 b3 b4 w l) {k : Nat} (hk : k < n) (v : Int) : VW N mv f caps n b0 b1 b2 b3 b4 (w.setCell ⟨b2, k, none⟩ (.int .i64 v)) (l.set k v) := by
  have other : ∀ b o u, b ≠ b2 → w.cell? ⟨b, o, none⟩ = some u → (w.setCell ⟨b2, k, none⟩ (.int .i64 v)).cell? ⟨b, o, none⟩ = some u := fun b o u hb hc => by
    rw [World.cell?_setCell_other _ _ _ _ (fun e => hb (by injection e with e1; exact e1.symm))]
    exact hc
  refine ⟨other _ _ _ h.d0 h.hm, other _ _ _ h.d1 h.hf, fun i hi => ?_, fun i hi => by rw [World.frozen?_setCell]; exact h.hz i hi, other _ _ _ h.d3 h.hx, other _ _ _ h.d4 h.hv, by rw [List.length_set]; exact h.hl, h.d0, h.d1, h.d3, h.d4, h.n2, by rw [World.size_setCell]; exact h.hb⟩
  by_cases e : k = i
  · subst e
    rw [World.cell?_setCell_same _ _ _ (h.hX k hi)]
    simp [h.hl, hk]
  · rw [World.cell?_setCell_other _ _ _ _ (fun e' => e (by injection e'))]
    rw [h.hX i hi]
    simp [e]

theorem keeps_set1 (w : World) (b o : Nat) (v : Value) : Keeps (fun x => x = b) w (w.setCell ⟨b, o, none⟩ v) := by
  refine ⟨rfl, rfl, rfl, ?_, fun c hc hn => ?_⟩
  · simp [World.setCell]
  · simp only [World.setCell, Array.getElem?_modify, if_neg (fun e => hn (Eq.symm e))]
theorem keeps_drewN (w : World) (q : Nat) : Keeps (fun _ => False) w (w.drewN q) := ⟨rfl, rfl, rfl, Nat.le_refl _, fun _ _ _ => rfl⟩
end

section
variable {S : Type} {J : (Nat → Prop) → S → World → Prop} {f : Nat} {caps : Array Value} {bv : Value} {xs : List Int} {leaf : List Int → S → (S → Prop) → Prop} {N : Nat → Prop} {b0 b1 b2 b3 b4 : Nat}

/-- What the closure asks of whom it calls. -/
structure EvCtx (J : (Nat → Prop) → S → World → Prop) (f : Nat) (caps : Array Value) (bv : Value) (xs : List Int) (leaf : List Int → S → (S → Prop) → Prop) (N : Nat → Prop) (b0 b1 b2 b3 b4 : Nat) : Prop where
  box : ∀ s w, J N s w → BoxAt w bv xs
  mono : ∀ s w w', J N s w → Keeps N w w' → (∀ b, N b → b < w'.heap.size) → J N s w'
  call : ∀ s w pre Q, b2 < w.heap.size → J N s w → (∀ i, i < pre.length → w.cell? ⟨b2, i, none⟩ = some (.int .i64 (pre.getD i 0))) → leaf pre s Q →
      (∃ fn, Try.prog.funcs[f]? = some fn ∧ fn.body.isSome = true) ∧ Calls Try.prog f (#[.slice (some ⟨b2, 0, none⟩) pre.length pre.length] ++ caps) w fun e w' => ∃ s', e = .returned (.tuple #[]) ∧ Q s' ∧ J N s' w' ∧ Keeps (fun b => ¬ N b) w w'
  i0 : N b0
  i1 : N b1
  i2 : N b2
  i3 : N b3
  i4 : N b4

theorem EvCtx.set (C : EvCtx J f caps bv xs leaf N b0 b1 b2 b3 b4) {s : S} {w : World} (hb : ∀ b, N b → b < w.heap.size) (h : J N s w) (k : Nat) (v : Value) : J N s (w.setCell ⟨b2, k, none⟩ v) :=
  C.mono s w _ h ((keeps_set1 w b2 k v).mono fun b e => e ▸ C.i2) (by rw [World.size_setCell]; exact hb)
theorem EvCtx.drew (C : EvCtx J f caps bv xs leaf N b0 b1 b2 b3 b4) {s : S} {w : World} (hb : ∀ b, N b → b < w.heap.size) (h : J N s w) (q : Nat) : J N s (w.drewN q) :=
  C.mono s w _ h ((keeps_drewN w q).mono fun b e => e.elim) hb

theorem set_rep (pr : List Int) (v x : Int) (m : Nat) : (pr ++ x :: List.replicate m 0).set pr.length v = pr ++ v :: List.replicate m 0 := by
  simp

theorem visit_ok (C : EvCtx J f caps bv xs leaf N b0 b1 b2 b3 b4) (hlen : (xs.length : Int) ≤ 1000000) (hxs : ∀ x ∈ xs, x < 9223372036854775807)
    (hcf : ∀ (fn : Func) (args : Array Value) (w : World), Try.prog.funcs[f]? = some fn → fn.body.isSome = true → (callFunc f args).run Try.prog w = .ok (.enter f args) w) :
    ∀ (bx pr : List Int), pr.length + bx.length = xs.length → (∀ i, i < bx.length → xs.getD (pr.length + i) 0 = bx.getD i 0) → ∀ s w Q, VW N bv f caps xs.length b0 b1 b2 b3 b4 w (pr ++ List.replicate bx.length 0) → J N s w → visD leaf bx pr s Q →
      Calls Try.prog 175 #[.int .i64 (pr.length : Int), .pointer (some ⟨b0, 0, none⟩), .pointer (some ⟨b1, 0, none⟩), .pointer (some ⟨b3, 0, none⟩), .pointer (some ⟨b4, 0, none⟩)] w fun e w' => ∃ s', e = .returned (.tuple #[]) ∧ Q s' ∧ J N s' w' ∧ VW N bv f caps xs.length b0 b1 b2 b3 b4 w' (pr ++ List.replicate bx.length 0) := by
  intro bx
  induction bx with
  | nil =>
    intro pr hpl _ s w Q hV hJ hvis
    simp only [List.length_nil, List.replicate_zero, List.append_nil, Nat.add_zero] at hV hpl ⊢
    simp only [visD] at hvis
    rw [← hpl] at hV hlen
    have hbox := C.box s w hJ
    have hm := hV.hm
    have h2 := hV.hf
    have h3 := hV.hx
    obtain ⟨⟨fn, hfn, hbody⟩, hcall⟩ := C.call s w pr Q (hV.hb b2 hV.n2) hJ hV.hX hvis
    have hfin : Calls Try.prog f (#[.slice (some ⟨b2, 0, none⟩) pr.length pr.length] ++ caps) w fun e w' => e = .returned (.tuple #[]) ∧ ∃ s', Q s' ∧ J N s' w' ∧ VW N bv f caps pr.length b0 b1 b2 b3 b4 w' pr := Calls.mono hcall fun e w' ⟨s', he, hq, hj, hk⟩ => ⟨he, s', hq, hj, hV.keeps hk (fun h => h C.i0) (fun h => h C.i1) (fun h => h C.i2) (fun h => h C.i3) (fun h => h C.i4)⟩
    have hcf' := hcf fn (#[.slice (some ⟨b2, 0, none⟩) pr.length pr.length] ++ caps) w hfn hbody
    have hmv : ∃ ad cap, bv = .slice ad pr.length cap := by
      rcases hbox with ⟨p, e1, e2⟩ | ⟨b, off, cap, e1, _⟩
      · rw [e2] at hpl
        exact ⟨p, 0, by rw [e1, hpl]; rfl⟩
      · exact ⟨_, cap, by rw [e1, hpl]⟩
    obtain ⟨ad, cap, hmv⟩ := hmv
    rw [hmv] at hm
    rw [← hpl]
    clear hbox hV hJ hvis hcall hfn hbody hmv hcf hpl hxs C
    generalize pr.length = n at *
    go_enter Try.func175, Try.ntmps175
    go_wp2_with fail
    refine Calls.mono hfin ?_
    rintro e w' ⟨rfl, s', hq, hj, hv⟩
    go_wp2_with fail
    exact bodyPost_ret (results_none rfl _ _ _) rfl ⟨s', rfl, hq, hj, hv⟩
  | cons m bx ih =>
    intro pr hpl hel s w Q hV hJ hvis
    simp only [List.length_cons, List.replicate_succ] at hV hpl ⊢
    simp only [visD] at hvis
    have hm0 : xs.getD pr.length 0 = m := by simpa using hel 0 (by simp)
    have hel' : ∀ i, i < bx.length → xs.getD (pr.length + 1 + i) 0 = bx.getD i 0 := fun i hi => by
      have := hel (i + 1) (by simpa using hi)
      rw [show pr.length + (i + 1) = pr.length + 1 + i by omega] at this
      simpa using this
    have hmx : m < 9223372036854775807 := by
      rw [← hm0, List.getD_eq_getElem?_getD, List.getElem?_eq_getElem (by omega)]
      exact hxs _ (List.getElem_mem _)
    have hkn : pr.length < xs.length := by omega
    obtain ⟨bb, oo, cc, hbv⟩ : ∃ bb oo cc, bv = .slice (some ⟨bb, oo, none⟩) xs.length cc := by
      rcases C.box s w hJ with ⟨p, e1, e2⟩ | ⟨b, off, cap, e1, _⟩
      · rw [e2] at hkn; exact absurd hkn (by simp)
      · exact ⟨b, off, cap, e1⟩
    have hbk : ∀ s w, J N s w → w.cell? ⟨bb, oo + pr.length, none⟩ = some (.int .i64 m) := fun s w hJ => by
      rcases C.box s w hJ with ⟨p, e1, e2⟩ | ⟨b, off, cap, e1, e2⟩
      · rw [e2] at hkn; exact absurd hkn (by simp)
      · rw [hbv] at e1
        injection e1 with e1 _ _
        injection e1 with e1
        injection e1 with e1 e1'
        subst e1 e1'
        rw [e2 _ hkn, hm0]
    have hxk : ∀ v, (pr ++ v :: List.replicate bx.length 0).getD pr.length 0 = v := fun v => by simp
    have hn9 : (xs.length : Int) ≤ 1000000 := hlen
    have ihc : ∀ (v : Int) (s : S) (w : World) (Q : S → Prop), VW N bv f caps xs.length b0 b1 b2 b3 b4 w (pr ++ v :: List.replicate bx.length 0) → J N s w → visD leaf bx (pr ++ [v]) s Q →
        Calls Try.prog 175 #[.int .i64 ((pr.length : Int) + 1), .pointer (some ⟨b0, 0, none⟩), .pointer (some ⟨b1, 0, none⟩), .pointer (some ⟨b3, 0, none⟩), .pointer (some ⟨b4, 0, none⟩)] w fun e w' => ∃ s', e = .returned (.tuple #[]) ∧ Q s' ∧ J N s' w' ∧ VW N bv f caps xs.length b0 b1 b2 b3 b4 w' (pr ++ v :: List.replicate bx.length 0) := fun v s w Q hV hJ hvis => by
      have h := ih (pr ++ [v]) (by simp; omega) (by simpa using hel') s w Q (by simpa using hV) hJ hvis
      simpa using h
    have hset : ∀ (v x : Int), (pr ++ x :: List.replicate bx.length 0).set pr.length v = pr ++ v :: List.replicate bx.length 0 := fun v x => set_rep pr v x bx.length
    have VWk : ∀ (w : World) (x : Int), VW N bv f caps xs.length b0 b1 b2 b3 b4 w (pr ++ x :: List.replicate bx.length 0) → w.cell? ⟨b0, 0, none⟩ = some (.slice (some ⟨bb, oo, none⟩) xs.length cc) ∧ w.cell? ⟨b3, 0, none⟩ = some (.slice (some ⟨b2, 0, none⟩) xs.length xs.length) ∧ w.cell? ⟨b2, pr.length, none⟩ = some (.int .i64 x) ∧ w.frozen? ⟨b2, pr.length, none⟩ = false ∧ w.cell? ⟨b4, 0, none⟩ = some (.func (.func 175) #[] #[.pointer (some ⟨b0, 0, none⟩), .pointer (some ⟨b1, 0, none⟩), .pointer (some ⟨b3, 0, none⟩), .pointer (some ⟨b4, 0, none⟩)]) := fun w x h => ⟨by rw [← hbv]; exact h.hm, h.hx, by rw [h.hX _ hkn, hxk], h.hz _ hkn, h.hv⟩
    have VWs : ∀ (w : World) (x v : Int), VW N bv f caps xs.length b0 b1 b2 b3 b4 w (pr ++ x :: List.replicate bx.length 0) → VW N bv f caps xs.length b0 b1 b2 b3 b4 (w.setCell ⟨b2, pr.length, none⟩ (.int .i64 v)) (pr ++ v :: List.replicate bx.length 0) := fun w x v h => by
      have := h.set hkn v
      rwa [hset] at this
    have VWd : ∀ (w : World) (x : Int) (q : Nat), VW N bv f caps xs.length b0 b1 b2 b3 b4 w (pr ++ x :: List.replicate bx.length 0) → VW N bv f caps xs.length b0 b1 b2 b3 b4 (w.drewN q) (pr ++ x :: List.replicate bx.length 0) := fun w x q h => h.drew q
    have Vb : ∀ (w : World) (x : Int), VW N bv f caps xs.length b0 b1 b2 b3 b4 w (pr ++ x :: List.replicate bx.length 0) → ∀ b, N b → b < w.heap.size := fun w x h => h.hb
    have Js : ∀ s w v, (∀ b, N b → b < w.heap.size) → J N s w → J N s (w.setCell ⟨b2, pr.length, none⟩ (.int .i64 v)) := fun s w v hb h => C.set hb h _ _
    have Jd : ∀ s w q, (∀ b, N b → b < w.heap.size) → J N s w → J N s (w.drewN q) := fun s w q hb h => C.drew hb h q
    have hfin : ∀ s' w' (v : Int), Q s' → J N s' w' → VW N bv f caps xs.length b0 b1 b2 b3 b4 w' (pr ++ v :: List.replicate bx.length 0) → Q s' ∧ J N s' (w'.setCell ⟨b2, pr.length, none⟩ (.int .i64 0)) ∧ VW N bv f caps xs.length b0 b1 b2 b3 b4 (w'.setCell ⟨b2, pr.length, none⟩ (.int .i64 0)) (pr ++ 0 :: List.replicate bx.length 0) := fun s' w' v h1 h2 h3 => ⟨h1, Js _ _ _ (Vb _ _ h3) h2, VWs _ _ _ h3⟩
    clear ih hel hel' hm0 hxk hset hxs hlen hpl C hcf hbv
    generalize hR : (fun (w' : World) (x : Int) => VW N bv f caps xs.length b0 b1 b2 b3 b4 w' (pr ++ x :: List.replicate bx.length 0)) = V at *
    have hR' : ∀ w' x, VW N bv f caps xs.length b0 b1 b2 b3 b4 w' (pr ++ x :: List.replicate bx.length 0) = V w' x := fun w' x => congrFun (congrFun hR w') x
    clear hR
    simp only [hR'] at *
    clear hR'
    generalize xs.length = n at *
    generalize hk : pr.length = k at *
    clear hk
    obtain ⟨c1, c2, c3, c4, _⟩ := VWk _ _ hV
    have hkn' : ((k : Int) == (n : Int)) = false := by simp; omega
    go_enter Try.func175, Try.ntmps175
    go_wp2_with fail
    go_loopg [] (m + 1).toNat (fun g wr => ∃ v s, V wr v ∧ J N s wr ∧ itD (fun v s K => visD leaf bx (pr ++ [v]) s K) g v s Q ∧ 0 ≤ v ∧ v ≤ 9223372036854775807 ∧ (v ≤ m → (g : Int) = m + 1 - v) ∧ (m < v → g = 0))
    case atStart => exact ⟨0, s, VWs _ _ _ hV, Js _ _ _ (Vb _ _ hV) hJ, hvis, by omega, by omega, by omega, by omega⟩
    case round =>
      clear c1 c2 c3 c4 hvis hV hJ
      obtain ⟨v, s1, hV1, hJ1, hit, hv0, hv9, hle, hgt⟩ := hrel
      obtain ⟨c1, c2, c3, c4, c5⟩ := VWk _ _ hV1
      have c6 := hbk _ _ hJ1
      by_cases hvm : v ≤ m
      · obtain ⟨g', rfl⟩ : ∃ g', gk = g' + 1 := ⟨gk - 1, by have := hle hvm; omega⟩
        have hle' : (g' : Int) = m - v := by have := hle hvm; omega
        simp only [itD] at hit
        clear hle hgt
        go_wp2_with fail
        go_quiet (fail)
        have hcall := ihc v s1 (wr.drewN nq) _ ((VWd _ _ _ hV1)) (Jd _ _ nq (Vb _ _ hV1) hJ1) hit
        go_wp2_with (go_at_call 175; refine hcall.mono ?_; rintro e w2 ⟨s2, rfl, hq2, hJ2, hV2⟩; obtain ⟨e1, e2, e3, e4, _⟩ := VWk _ _ hV2; clear c1 c2 c3 c4 c5 c6 hcall)
        go_roundg g'
        case measure => omega
        case rel => exact ⟨v + 1, s2, VWs _ _ _ hV2, Js _ _ _ (Vb _ _ hV2) hJ2, hq2, by omega, by omega, by omega, by omega⟩
      · have hg0 : gk = 0 := hgt (by omega)
        subst hg0
        simp only [itD] at hit
        clear hle hgt
        go_wp2_with fail
        go_quiet (fail)
        go_wp2_with fail
        go_end0
        exact ⟨s1, rfl, hit, Js _ _ _ (Vb _ _ (VWd _ _ nq hV1)) (Jd _ _ nq (Vb _ _ hV1) hJ1), VWs _ _ _ (VWd _ _ _ hV1)⟩
end
end Go.Ab

/- integer.every goes through all columns within a box. -/
namespace Go.Ab
open Go.Proofs
set_option maxRecDepth 100000

theorem info3 : (Try.prog.info? 3).map (fun i => (i.zero, i.size, i.bytes)) = some (some (.int .i64 0), 1, 8) := by kernel_rfl
theorem und29 : Try.prog.underlying 29 = some (.slice 3) := by kernel_rfl

theorem made_get (n i : Nat) (h : i < n) : (madeCells #[Value.int .i64 0] (n * 1))[i]? = some (.int .i64 0) := by
  unfold madeCells
  simp [h, Nat.mod_one]

theorem run_mk (n : Nat) (hn : (n : Int) ≤ 1000000) (w : World) : (Instr.makeSlice 29 (.int .i64 (n : Int)) (.int .i64 (n : Int))).run Try.prog w = .ok (.slice (some ⟨w.heap.size, 0, none⟩) n n) (w.alloc (.cells (madeCells #[Value.int .i64 0] (n * 1)) 3)) := by
  obtain ⟨i, hi, hz, h1, h2⟩ := info_parts info3
  have h := run_make (P := Try.prog) w 29 3 i _ und29 hi hz .i64 .i64 (n : Int) (n : Int) (by omega) (by omega) (by rw [h2]; omega) (by omega)
  rw [h1] at h
  exact h

theorem keeps_alloc (w : World) (o : Go.Obj) : Keeps (fun _ => False) w (w.alloc o) :=
  ⟨rfl, rfl, rfl, by rw [World.size_alloc]; omega, fun b hb _ => by
    show (w.heap.push o)[b]? = _
    rw [Array.getElem?_push, if_neg (by omega)]⟩

theorem cell_old {w : World} {o : Go.Obj} {b i : Nat} (h : b ≠ w.heap.size) : (w.alloc o).cell? ⟨b, i, none⟩ = w.cell? ⟨b, i, none⟩ := World.cell?_alloc_old _ _ _ h
theorem cell_new {w : World} {c : Array Value} {t b i : Nat} (h : b = w.heap.size) : (w.alloc (.cells c t)).cell? ⟨b, i, none⟩ = c[i]? := by
  subst h
  exact World.cell?_alloc_new _ _ _ _
theorem frz_old {w : World} {o : Go.Obj} {b i : Nat} (h : b ≠ w.heap.size) : (w.alloc o).frozen? ⟨b, i, none⟩ = w.frozen? ⟨b, i, none⟩ := World.frozen?_alloc_old _ _ _ h
theorem frz_new {w : World} {c : Array Value} {t b i : Nat} (h : b = w.heap.size) : (w.alloc (.cells c t)).frozen? ⟨b, i, none⟩ = false := by
  subst h
  exact World.frozen?_alloc_new _ _ _ _

/-- THE FUNCTION GOES THROUGH ALL COLUMNS WITHIN A BOX. -/
theorem every_ok : EvrOk Try.prog 112 := by
  refine ⟨⟨Try.f112, by kernel_rfl, by kernel_rfl⟩, fun S J f caps bv xs leaf H1 H2 H3 hxs hlen s w Q hJ hvis => ?_⟩
  have W : WF Try.prog := wf_of types_ok names_ok cpt_ok
  have hbv : ∃ ad cap, bv = .slice ad xs.length cap := by
    rcases H1 _ _ _ hJ with ⟨p, e1, e2⟩ | ⟨b, off, cap, e1, _⟩
    · exact ⟨p, 0, by rw [e1, e2]; rfl⟩
    · exact ⟨_, cap, e1⟩
  obtain ⟨ad, cap, hbv⟩ := hbv
  let N : Nat → Prop := fun b => w.heap.size ≤ b ∧ b < w.heap.size + 5
  have C : EvCtx J f caps bv xs leaf N w.heap.size (w.heap.size + 1) (w.heap.size + 2) (w.heap.size + 3) (w.heap.size + 4) := by
    refine ⟨fun s w h => H1 _ _ _ h, fun s w1 w2 h hk hb => H2 _ _ _ _ _ h hk fun b hN => ⟨.inl hN, hb b hN⟩, fun s w1 pre Q hb h hc hl => H3 _ _ _ _ _ _ ⟨by omega, by omega⟩ hb h hc hl, ⟨by omega, by omega⟩, ⟨by omega, by omega⟩, ⟨by omega, by omega⟩, ⟨by omega, by omega⟩, ⟨by omega, by omega⟩⟩
  have hcall : ∀ w', Keeps (fun _ => False) w w' → VW N bv f caps xs.length w.heap.size (w.heap.size + 1) (w.heap.size + 2) (w.heap.size + 3) (w.heap.size + 4) w' (List.replicate xs.length 0) → w'.heap.size = w.heap.size + 5 →
      Calls Try.prog 175 #[.int .i64 0, .pointer (some ⟨w.heap.size, 0, none⟩), .pointer (some ⟨w.heap.size + 1, 0, none⟩), .pointer (some ⟨w.heap.size + 3, 0, none⟩), .pointer (some ⟨w.heap.size + 4, 0, none⟩)] w' fun e w' => e = .returned (.tuple #[]) ∧ ∃ s', Q s' ∧ J N s' w' := fun w' hk hv hs => by
    have h := visit_ok C hlen hxs (fun fn args w h1 h2 => run_callFunc W h1 h2) xs [] (by simp) (fun i hi => by simp) s w' Q (by simpa using hv) (H2 _ _ _ _ _ hJ hk fun b hb => ⟨.inr hb.1, by rw [hs]; exact hb.2⟩) hvis
    exact Calls.mono h fun e w2 ⟨s', he, hq, hj, _⟩ => ⟨he, s', hq, hj⟩
  have hmk := run_mk xs.length hlen
  have hst : ∀ (w : World) (a : Addr) (m : Mode) (fn : Fn) (first captured : Array Value), (store a (.func fn first captured) m).run Try.prog w = stored Try.prog w a (.func fn first captured) m := fun w a m fn first captured => run_store Try.prog w a _ m rfl
  clear C H1 H2 H3 hvis hJ hxs
  subst hbv
  generalize xs.length = n at *
  go_enter Try.func112, Try.ntmps112
  go_wp2_with fail
  refine Calls.mono (hcall _ ?_ ?_ ?_) ?_
  · exact ((((keeps_alloc _ _).trans (keeps_alloc _ _) (fun _ h => h) fun _ _ h => h).trans (keeps_alloc _ _) (fun _ h => h) fun _ _ h => h).trans (keeps_alloc _ _) (fun _ h => h) fun _ _ h => h).trans (keeps_alloc _ _) (fun _ h => h) fun _ _ h => h
  · refine ⟨?_, ?_, fun i hi => ?_, fun i hi => ?_, ?_, ?_, by simp, by omega, by omega, by omega, by omega, ⟨by omega, by omega⟩, fun b hb => ?_⟩
    · rw [cell_old (by simp only [World.size_alloc]; omega), cell_old (by simp only [World.size_alloc]; omega), cell_old (by simp only [World.size_alloc]; omega), cell_old (by simp only [World.size_alloc]; omega), cell_new rfl]; rfl
    · rw [cell_old (by simp only [World.size_alloc]; omega), cell_old (by simp only [World.size_alloc]; omega), cell_old (by simp only [World.size_alloc]; omega), cell_new (by simp only [World.size_alloc])]; rfl
    · rw [cell_old (by simp only [World.size_alloc]; omega), cell_old (by simp only [World.size_alloc]; omega), cell_new (by simp only [World.size_alloc]), ← Nat.mul_one n, made_get n i hi]
      simp [hi]
    · rw [frz_old (by simp only [World.size_alloc]; omega), frz_old (by simp only [World.size_alloc]; omega), frz_new (by simp only [World.size_alloc])]
    · rw [cell_old (by simp only [World.size_alloc]; omega), cell_new (by simp only [World.size_alloc])]; rfl
    · rw [cell_new (by simp only [World.size_alloc])]; rfl
    · have := hb.2
      simp only [World.size_alloc]
      omega
  · simp only [World.size_alloc]
  · rintro e w2 ⟨rfl, s', hq, hj⟩
    go_wp2_with fail
    go_end0
    exact ⟨N, s', rfl, hq, hj⟩
end Go.Ab

/- The greatest value within a box: both answers are one. -/
namespace Go.Ab
open Go.Proofs
attribute [local irreducible] wpF

/-! Columns in the order of lists. -/
def blk (L : List (List Int)) : Nat → Int → List (List Int)
  | 0, _ => []
  | n + 1, v => L.map (v :: ·) ++ blk L n (v + 1)
def cols : List Int → List (List Int)
  | [] => [[]]
  | m :: bx => blk (cols bx) (m + 1).toNat 0
def inB : List Int → List Int → Prop
  | [], [] => True
  | m :: bx, v :: x => 0 ≤ v ∧ v ≤ m ∧ inB bx x
  | _, _ => False
def zers (n : Nat) : List Int := List.replicate n 0
/-- The columns from some on. -/
def frm : List Int → List Int → List (List Int)
  | [], [] => [[]]
  | m :: bx, v :: x => (frm bx x).map (v :: ·) ++ blk (cols bx) (m - v).toNat (v + 1)
  | _, _ => []
/-- The next ones. -/
def nxt : List Int → List Int → Option (List Int)
  | m :: bx, v :: x => match nxt bx x with
    | some y => some (v :: y)
    | none => if v = m then none else some ((v + 1) :: zers bx.length)
  | _, _ => none

theorem inB_len : ∀ {bx x : List Int}, inB bx x → x.length = bx.length
  | [], [], _ => rfl
  | m :: bx, v :: x, h => by simp [inB_len h.2.2]
  | [], _ :: _, h => h.elim
  | _ :: _, [], h => h.elim
theorem inB_zers : ∀ {bx : List Int}, (∀ v ∈ bx, 0 ≤ v) → inB bx (zers bx.length)
  | [], _ => trivial
  | m :: bx, h => by
    have := h m (by simp)
    exact ⟨by omega, this, inB_zers fun v hv => h v (List.mem_cons_of_mem _ hv)⟩
theorem frm_zers : ∀ {bx : List Int}, (∀ v ∈ bx, 0 ≤ v) → frm bx (zers bx.length) = cols bx
  | [], _ => rfl
  | m :: bx, h => by
    have h0 := h m (by simp)
    have ih := frm_zers (bx := bx) fun v hv => h v (List.mem_cons_of_mem _ hv)
    show (frm bx (zers bx.length)).map (0 :: ·) ++ blk (cols bx) (m - 0).toNat (0 + 1) = blk (cols bx) (m + 1).toNat 0
    rw [ih, show (m + 1).toNat = (m - 0).toNat + 1 by omega]
    rfl
theorem frm_nxt : ∀ {bx x : List Int}, inB bx x → (∀ v ∈ bx, 0 ≤ v) → frm bx x = x :: (match nxt bx x with
    | none => []
    | some y => frm bx y)
  | [], [], _, _ => rfl
  | [], _ :: _, h, _ => h.elim
  | _ :: _, [], h, _ => h.elim
  | m :: bx, v :: x, h, h0 => by
    have hb := fun v hv => h0 v (List.mem_cons_of_mem m hv)
    have ih := frm_nxt (bx := bx) (x := x) h.2.2 hb
    simp only [frm, nxt, ih]
    cases hn : nxt bx x with
    | some y => simp [frm]
    | none =>
      by_cases e : v = m
      · subst e
        simp [blk]
      · rw [if_neg e]
        simp only [List.map_cons, List.map_nil, List.singleton_append, frm, frm_zers hb]
        have := h.2.1
        rw [show (m - v).toNat = (m - (v + 1)).toNat + 1 by omega]
        rfl
theorem nxt_in : ∀ {bx x y : List Int}, inB bx x → (∀ v ∈ bx, 0 ≤ v) → nxt bx x = some y → inB bx y
  | [], [], _, _, _, h => by simp [nxt] at h
  | [], _ :: _, _, h, _, _ => h.elim
  | _ :: _, [], _, h, _, _ => h.elim
  | m :: bx, v :: x, y, h, h0, hn => by
    have hb := fun v hv => h0 v (List.mem_cons_of_mem m hv)
    simp only [nxt] at hn
    cases hn2 : nxt bx x with
    | some z =>
      rw [hn2] at hn
      injection hn with hn
      subst hn
      exact ⟨h.1, h.2.1, nxt_in h.2.2 hb hn2⟩
    | none =>
      rw [hn2] at hn
      simp only at hn
      by_cases e : v = m
      · rw [if_pos e] at hn; cases hn
      · rw [if_neg e] at hn
        injection hn with hn
        subst hn
        have := h.1
        have := h.2.1
        exact ⟨by omega, by omega, inB_zers hb⟩
theorem zers_snoc (n : Nat) : zers n ++ [0] = zers (n + 1) := by simp [zers, List.replicate_succ']
theorem zers_cons (n : Nat) : zers (n + 1) = 0 :: zers n := rfl
theorem nxt_snoc : ∀ {ba a : List Int} {m v : Int}, a.length = ba.length → nxt (ba ++ [m]) (a ++ [v]) = if v = m then (nxt ba a).map (· ++ [0]) else some (a ++ [v + 1])
  | [], [], m, v, _ => by simp [nxt, zers]
  | [], _ :: _, _, _, h => by simp at h
  | _ :: _, [], _, _, h => by simp at h
  | b :: ba, w :: a, m, v, h => by
    have ih := nxt_snoc (ba := ba) (a := a) (m := m) (v := v) (by simpa using h)
    simp only [List.cons_append, nxt, ih]
    by_cases e : v = m
    · rw [if_pos e, if_pos e]
      cases hn : nxt ba a with
      | some y => simp
      | none =>
        simp only [Option.map_none]
        by_cases e2 : w = b
        · simp [e2]
        · rw [if_neg e2, if_neg e2]
          simp only [Option.map_some, List.cons_append, zers_snoc, List.length_append, List.length_singleton]
    · rw [if_neg e, if_neg e]

theorem blk_len (L : List (List Int)) : ∀ (n : Nat) (v : Int), (blk L n v).length = n * L.length
  | 0, _ => by simp [blk]
  | n + 1, v => by rw [blk, List.length_append, List.length_map, blk_len L n (v + 1), Nat.succ_mul, Nat.add_comm]
theorem cols_len : ∀ {bx : List Int}, (∀ v ∈ bx, 0 ≤ v ∧ v ≤ 3) → (cols bx).length ≤ 4 ^ bx.length
  | [], _ => by simp [cols]
  | m :: bx, h => by
    have ih := cols_len (bx := bx) fun v hv => h v (List.mem_cons_of_mem _ hv)
    have := h m (by simp)
    rw [cols, blk_len, List.length_cons, Nat.pow_succ, Nat.mul_comm]
    exact Nat.mul_le_mul ih (by omega)

/-- The greatest so far. -/
def upd (b v : Option Int) : Option Int := match v with
  | none => b
  | some v => match b with
    | none => some v
    | some w => cond (iLt w v) (some v) (some w)

theorem inB_mem : ∀ {bx : List Int}, (∀ v ∈ bx, 0 ≤ v) → ∀ X ∈ cols bx, inB bx X
  | [], _, X, hX => by
    simp only [cols, List.mem_singleton] at hX
    subst hX
    trivial
  | m :: bx, h, X, hX => by
    have hb := fun v hv => h v (List.mem_cons_of_mem m hv)
    have ih := inB_mem hb
    have key : ∀ (n : Nat) (v : Int), 0 ≤ v → v + n ≤ m + 1 → ∀ X ∈ blk (cols bx) n v, inB (m :: bx) X := by
      intro n
      induction n with
      | zero => intro v _ _ X hX; cases hX
      | succ n ihn =>
        intro v h0 h1 X hX
        rw [blk] at hX
        rcases List.mem_append.1 hX with hX | hX
        · obtain ⟨Y, hY, rfl⟩ := List.mem_map.1 hX
          exact ⟨h0, by omega, ih Y hY⟩
        · exact ihn (v + 1) (by omega) (by omega) X hX
    have := h m (by simp)
    exact key _ 0 (by omega) (by omega) X hX

/-- What goes through all columns does what a fold does. -/
theorem visD_rel {S B : Type} {leaf : List Int → S → (S → Prop) → Prop} (R : B → S → Prop) (step : B → List Int → B) (ok : List Int → Prop)
    (hl : ∀ pre b s Q, ok pre → R b s → (∀ s', R (step b pre) s' → Q s') → leaf pre s Q) : ∀ (bx pre : List Int) (b : B) (s : S) (Q : S → Prop), (∀ X ∈ cols bx, ok (pre ++ X)) → R b s →
      (∀ s', R (((cols bx).map (pre ++ ·)).foldl step b) s' → Q s') → visD leaf bx pre s Q
  | [], pre, b, s, Q, ho, hR, hQ => by
    simp only [visD]
    refine hl pre b s Q (by simpa [cols] using ho) hR fun s' h => hQ s' ?_
    simpa [cols] using h
  | m :: bx, pre, b, s, Q, ho, hR, hQ => by
    simp only [visD]
    have ih := visD_rel R step ok hl bx
    have key : ∀ (n : Nat) (v : Int) (b : B) (s : S) (Q : S → Prop), (∀ X ∈ blk (cols bx) n v, ok (pre ++ X)) → R b s → (∀ s', R (((blk (cols bx) n v).map (pre ++ ·)).foldl step b) s' → Q s') → itD (fun v s K => visD leaf bx (pre ++ [v]) s K) n v s Q := by
      intro n
      induction n with
      | zero => intro v b s Q _ hR hQ; exact hQ s (by simpa [blk] using hR)
      | succ n ihn =>
        intro v b s Q ho hR hQ
        simp only [itD]
        refine ih (pre ++ [v]) b s _ (fun X hX => ?_) hR fun s' hs' => ?_
        · have := ho (v :: X) (by rw [blk]; exact List.mem_append.2 (.inl (List.mem_map_of_mem hX)))
          simpa using this
        · refine ihn (v + 1) _ s' Q (fun X hX => ho X (by rw [blk]; exact List.mem_append.2 (.inr hX))) hs' fun s2 h2 => hQ s2 ?_
          rw [blk, List.map_append, List.foldl_append, List.map_map]
          have e : ((fun x => pre ++ x) ∘ fun x => v :: x) = fun x => pre ++ [v] ++ x := by funext x; simp
          rw [e]
          exact h2
    exact key _ 0 b s Q ho hR hQ

/-! Values. -/
def badR (m : D) (X : List Int) (t : Nat) : Bool := iLt (D.i (D.fld (D.el (D.fld m 1) t) 1)) (dot (D.fld (D.el (D.fld m 1) t) 0) X)
def valO (m : D) (X : List Int) : Option Int := cond (anyB (badR m X) (D.len (D.fld m 1)).toNat) none (some (D.i (D.fld m 3) + dot (D.fld m 2) X))
theorem feas_iff {m : D} {X : List Int} : feas m X ↔ anyB (badR m X) (D.len (D.fld m 1)).toNat = false := by
  constructor
  · intro h
    exact anyB_false fun t ht => iLt_not.mpr (by have := h t (by omega); omega)
  · intro h t ht
    have := anyB_all h (show t < (D.len (D.fld m 1)).toNat by omega)
    have := iLt_not.mp this
    omega
theorem valO_feas {m : D} {X : List Int} (h : feas m X) : valO m X = some (D.i (D.fld m 3) + dot (D.fld m 2) X) := by
  unfold valO; rw [feas_iff.1 h]; rfl
theorem valO_bad {m : D} {X : List Int} (h : ¬ feas m X) : valO m X = none := by
  unfold valO
  cases e : anyB (badR m X) (D.len (D.fld m 1)).toNat with
  | true => rfl
  | false => exact absurd (feas_iff.2 e) h
def best (m : D) (bx : List Int) : Option Int := ((cols bx).map (valO m)).foldl upd none

theorem inB_box {bx X : List Int} (h : inB bx X) (hb : ∀ v ∈ bx, 0 ≤ v ∧ v ≤ 3) : ∀ v ∈ X, 0 ≤ v ∧ v ≤ 3 := by
  induction bx generalizing X with
  | nil => cases X with
    | nil => intro v hv; cases hv
    | cons => exact h.elim
  | cons m bx ih => cases X with
    | nil => exact h.elim
    | cons w X =>
      intro v hv
      rcases List.mem_cons.1 hv with rfl | hv
      · have := hb m (by simp)
        have := h.1
        have := h.2.1
        omega
      · exact ih h.2.2 (fun v hv => hb v (List.mem_cons_of_mem _ hv)) v hv

section
variable {n : Nat} {Q : List D → Prop}

theorem valR_wp {m : D} {c : Nat} {rows goal : List D} {k : Int} {box : List Int} (hm : SM m c rows goal k box) {X : List Int} (hX : X.length = c) (hv : ∀ v ∈ X, 0 ≤ v ∧ v ≤ 3) (hn : 100 ≤ n)
    (h : Q [.int ((valO m X).getD 0), .bool (valO m X).isSome]) : wpF Try.prog A n 69 [m, lst X] Q := by
  refine value_wp hm hX hv hn (fun hf => ?_) fun hf => ?_
  · rw [valO_bad hf] at h; exact h
  · rw [valO_feas hf] at h
    have e2 : D.fld m 2 = .slc goal := by rw [hm.eq]; rfl
    have e3 : D.fld m 3 = .int k := by rw [hm.eq]; rfl
    rw [e2, e3] at h
    exact h

theorem sumT_wp {l : D} {c : Nat} {X : List Int} (hl : termsB l c 9 = true) (hc : c ≤ 5) (hX : X.length = c) (hv : ∀ v ∈ X, 0 ≤ v ∧ v ≤ 3) (hn : 50 ≤ n) (h : Q [.int (dot l X)]) : wpF Try.prog A n 178 [l, lst X] Q := by
  obtain ⟨p, rfl⟩ : ∃ p, n = p + 1 := ⟨n - 1, by omega⟩
  rw [E178]
  have hll := terms_len hl (by omega)
  have h0 := ln0 l
  have key : ∀ (m0 t : Nat), (t : Int) ≤ D.len l → (D.len l).toNat - t < m0 → L178_3 p m0 (lst X) (.int (dotN l X t)) l (.int (D.len l)) (.int (t : Int)) Q := by
    intro m0
    induction m0 with
    | zero => intro t _ h; omega
    | succ m0 ih =>
      intro t h1 h2
      rw [L178_3_eq]
      simp only [i_int, len_lst]
      refine cLt (fun ht => ⟨by omega, trivial, ?_⟩) fun ht => ?_
      · have f := badT_facts (terms_at hl ht)
        have b1 := dot_bd hl hX hv t (by omega)
        have b2 := dot_step hl hX hv ht
        have ih := ih (t + 1) (by omega) (by omega)
        rw [dotN_succ] at ih
        have eo : D.i (D.fld (D.el l (t : Int)) 0) = tof l t := rfl
        have ec : D.i (D.fld (D.el l (t : Int)) 1) = tco l t := rfl
        rw [eo, ec, el_of f.1 (by omega), i_int]
        rw [wrap_id (show -9223372036854775808 ≤ tco l t * X.getD (tof l t).toNat 0 by omega) (by omega), wrap_id (show -9223372036854775808 ≤ dotN l X t + tco l t * X.getD (tof l t).toNat 0 by omega) (by omega), wrap_id (by omega) (by omega), show ((t : Int) + 1) = ((t + 1 : Nat) : Int) by omega]
        exact ⟨by omega, ih⟩
      · have e : t = (D.len l).toNat := by omega
        subst e
        exact h
  exact key p 0 (by omega) (by omega)

/-- The first row that columns do not obey. -/
theorem broken_wp {m : D} {c : Nat} {rows goal : List D} {k : Int} {box : List Int} (hm : SM m c rows goal k box) {X : List Int} (hX : X.length = c) (hv : ∀ v ∈ X, 0 ≤ v ∧ v ≤ 3) (hn : 200 ≤ n)
    (hgood : feas m X → Q [.int (-1)]) (hbad : ∀ r : Nat, r < (rows ++ boxR box c).length → badR m X r = true → Q [.int (r : Int)]) : wpF Try.prog A n 177 [m, lst X] Q := by
  obtain ⟨q, rfl⟩ : ∃ q, n = q + 3 := ⟨n - 3, by omega⟩
  rw [E177, E210]
  have hrl := hm.rlen
  have hc := hm.cols
  have hfew := hm.few
  have e1 : D.fld m 1 = .slc (rows ++ boxR box c) := by rw [hm.eq]; rfl
  have hlen : D.len (D.fld m 1) = ((rows ++ boxR box c).length : Nat) := by rw [e1, len_slc]
  rw [hlen]
  refine find_loop (x1 := .fn 211 [.ptr (lst X)]) (N := (rows ++ boxR box c).length) (p := badR m X) (L := L210_2 (q + 1)) (call := fun x1 e Q => dynH A (wpF Try.prog A (q + 1)) x1 [.imm 129] [.val 4 .imm] [e] Q) (fun m0 x0 x1 x7 x8 Q => L210_2_eq (q + 1) m0 x0 x1 x7 x8 Q) hlen (by omega)
    (fun i hi Q hQ => ⟨⟨rfl, rfl, rfl, rfl⟩, ?_⟩) (q + 1) 0 (by omega) (by omega) (fun i hi hpi => ?_) fun hn => ?_
  · show wpF Try.prog A (q + 1) 211 [D.el (D.fld m 1) (i : Int), lst X] Q
    rw [E211]
    obtain ⟨s, mo, e, h4, h5, h6⟩ := hm.all _ (el_mem (d := .slc (rows ++ boxR box c)) (i := i) (by rw [len_slc]; omega))
    unfold badR at hQ
    rw [e1] at hQ ⊢
    rw [e] at hQ ⊢
    simp only [fld0, fldS, i_int] at hQ ⊢
    refine sumT_wp h4 (by omega) hX hv (by omega) ?_
    rw [rs0, i_int]
    exact hQ
  · rw [rs0]
    exact hbad i hi hpi
  · rw [rs0]
    refine hgood (feas_iff.2 ?_)
    rw [hlen, toNat_nat]
    exact anyB_false fun i hi => hn i (by omega) hi

theorem valP_wp {m : D} {c : Nat} {rows goal : List D} {k : Int} {box : List Int} (hm : SM m c rows goal k box) {X : List Int} (hX : X.length = c) (hv : ∀ v ∈ X, 0 ≤ v ∧ v ≤ 3) (hn : 1100500 ≤ n)
    (h : Q [.int ((valO m X).getD 0), .bool (valO m X).isSome]) : wpF Try.prog A n 114 [m, lst X] Q := by
  obtain ⟨p, rfl⟩ : ∃ p, n = p + 1 := ⟨n - 1, by omega⟩
  rw [E114]
  refine model_wp hm.mo (by omega) ?_
  have hc := hm.cols
  have hg := hm.goal
  have k0 := hm.k0
  have k1 := hm.k1
  have e0 : D.fld m 0 = .int (c : Int) := by rw [hm.eq]; rfl
  have e2 : D.fld m 2 = .slc goal := by rw [hm.eq]; rfl
  have e3 : D.fld m 3 = .int k := by rw [hm.eq]; rfl
  rw [rs0, b_bool, hm.mv, e0, e2, e3, len_lst, i_int]
  simp only [Bool.not_true, cond_false]
  refine cNe (fun c => by omega) fun _ => ?_
  refine hasI_wp (p := fun v => iLt v 0 || iLt 1048576 v) (by omega) (by omega) (fun q v Q hq hQ => ⟨⟨rfl, rfl, rfl, rfl⟩, ?_⟩) ?_
  · obtain ⟨u, rfl⟩ : ∃ u, q = u + 1 := ⟨q - 1, by omega⟩
    show wpF Try.prog A (u + 1) 176 [.int v] Q
    rw [E176, i_int]
    refine cnd (fun c => ?_) fun c => ?_
    · rw [c, Bool.true_or] at hQ; exact hQ
    · rw [c, Bool.false_or] at hQ; exact hQ
  rw [rs0, b_bool, anyB_false fun i hi => ?_, cond_false]
  · refine broken_wp hm hX hv (by omega) (fun hf => ?_) fun r hr hb => ?_
    · rw [rs0, i_int]
      refine cLe (fun c => by omega) fun _ => ?_
      refine sumT_wp hg (by omega) hX hv (by omega) ?_
      have hln := ln0 (.slc goal)
      have b := dot_bd hg hX hv (D.len (.slc goal)).toNat (by omega)
      have hgl := terms_len hg (by omega)
      have hb : dotN (.slc goal) X (D.len (.slc goal)).toNat = dot (.slc goal) X := rfl
      rw [hb] at b
      simp only [rs0, i_int]
      rw [wrap_id (by omega) (by omega)]
      rw [valO_feas hf, e2, e3] at h
      exact h
    · rw [rs0, i_int]
      refine cLe (fun _ => ?_) fun c => by omega
      have hnf : ¬ feas m X := fun hf => by
        have e1 : D.fld m 1 = .slc (rows ++ boxR box c) := by rw [hm.eq]; rfl
        have := anyB_all (feas_iff.1 hf) (show r < (D.len (D.fld m 1)).toNat by rw [e1, len_slc, toNat_nat]; exact hr)
        rw [hb] at this
        cases this
      rw [valO_bad hnf] at h
      exact h
  · have := hv _ (getD_mem (d := 0) hi)
    show (iLt (X.getD i 0) 0 || iLt 1048576 (X.getD i 0)) = false
    rw [iLt_not.mpr (by omega), iLt_not.mpr (by omega)]
    rfl
end
end Go.Ab

/- The greatest value within a box: what both functions answer. -/
namespace Go.Ab
open Go.Proofs
attribute [local irreducible] wpF

/-- What is answered. -/
def solQ (Q : List D → Prop) (b : Option Int) : Prop := match b with
  | none => Q [.int 0, .slc [], .int 34]
  | some v => ∀ a, Q [.int v, a, .int 0]

/-- The program's state. -/
def StB (b : Option Int) (r : List D) : Prop := ∃ a, r = [.bool b.isSome, .int (b.getD 0), a]

section
variable {n : Nat} {Q : List D → Prop}

theorem leafS_wp {m : D} {c : Nat} {rows goal : List D} {k : Int} {box : List Int} (hm : SM m c rows goal k box) {X : List Int} (hX : X.length = c) (hv : ∀ v ∈ X, 0 ≤ v ∧ v ≤ 3) (hn : 1100600 ≤ n) {b : Option Int} {a : D}
    (h : ∀ r, StB (upd b (valO m X)) r → Q r) : wpF Try.prog A n 113 [lst X, m, .bool b.isSome, .int (b.getD 0), a] Q := by
  obtain ⟨p, rfl⟩ : ∃ p, n = p + 1 := ⟨n - 1, by omega⟩
  rw [E113]
  have hc := hm.cols
  refine valP_wp hm hX hv (by omega) ?_
  simp only [rs0, rsS, b_bool, i_int]
  have hcl : ∀ Q : List D → Prop, (∀ a, Q [a]) → wpF Try.prog A p 115 [lst X] Q := fun Q h => cloneI_wp (by rw [len_lst]; omega) (by omega) (h _)
  cases hval : valO m X with
  | none =>
    simp only [Option.isSome_none, cond_false]
    rw [hval] at h
    exact h _ ⟨a, rfl⟩
  | some v =>
    rw [hval] at h
    simp only [Option.isSome_some, cond_true, Option.getD_some]
    cases b with
    | none =>
      simp only [Option.isSome_none, Bool.not_false, cond_true]
      exact hcl _ fun a' => ⟨trivial, trivial, trivial, h _ ⟨a', rfl⟩⟩
    | some w =>
      simp only [Option.isSome_some, Bool.not_true, cond_false, Option.getD_some] at h ⊢
      refine cLt (fun hlt => ?_) fun hlt => ?_
      · rw [show upd (some w) (some v) = some v by simp only [upd, iLt_iff.mpr hlt, cond_true]] at h
        exact hcl _ fun a' => ⟨trivial, trivial, trivial, h _ ⟨a', rfl⟩⟩
      · rw [show upd (some w) (some v) = some w by simp only [upd, iLt_not.mpr hlt, cond_false]] at h
        exact h _ ⟨a, rfl⟩

theorem solveP_wp {m : D} {c : Nat} {rows goal : List D} {k : Int} {most : List Int} (hm : DM m c rows goal k) (hl : most.length ≤ 1000) (hn : 1100700 ≤ n)
    (hbad : ¬ boxOk c most → Q [.int 0, .slc [], .int 33]) (hgood : boxOk c most → solQ Q (best (boxM c rows goal k most) most)) : wpF Try.prog A n 66 [m, lst most] Q := by
  obtain ⟨p, rfl⟩ : ∃ p, n = p + 1 := ⟨n - 1, by omega⟩
  rw [E66]
  refine boxP_wp hm hl (by omega) (fun hb => ?_) fun hb => ?_
  · simp only [rs0, rsS, i_int]
    exact ⟨trivial, cNe (fun _ => hbad hb) fun c => by omega⟩
  · have hg := hgood hb
    simp only [rs0, rsS, i_int]
    have hs := hm.sm hb
    obtain ⟨b1, b2, b3⟩ := hb
    have e : List.map D.i (D.xs (lst most)) = most := by
      show (most.map D.int).map D.i = most
      rw [List.map_map]
      exact (List.map_congr_left fun _ _ => rfl).trans (List.map_id most)
    have e2 : D.xs (lst most) = most.map .int := rfl
    refine ⟨trivial, cNe (fun c => by omega) fun _ => ⟨trivial, trivial, every_ok, fun x hx => ?_, by rw [e2, List.length_map]; omega, ?_⟩⟩
    · rw [e2] at hx
      obtain ⟨v, hv, rfl⟩ := List.mem_map.1 hx
      have := b3 v hv
      rw [i_int]
      omega
    · rw [e]
      refine visD_rel StB (fun b X => upd b (valO (boxM c rows goal k most) X)) (inB most) (fun X b s Q hX hR hQ => ?_) most [] none _ _ (fun X hX => ?_) ⟨.slc [], rfl⟩ fun r hr => ?_
      · obtain ⟨a, rfl⟩ := hR
        simp only [rs0, rsS]
        exact leafS_wp hs (by rw [inB_len hX, b2]) (inB_box hX b3) (by omega) hQ
      · exact inB_mem (fun v hv => (b3 v hv).1) X hX
      · have e3 : ((cols most).map ([] ++ ·)).foldl (fun b X => upd b (valO (boxM c rows goal k most) X)) none = best (boxM c rows goal k most) most := by
          unfold best
          rw [List.foldl_map]
          simp [List.foldl_map]
        rw [e3] at hr
        obtain ⟨a, rfl⟩ := hr
        simp only [rs0, rsS, b_bool]
        cases hbest : best (boxM c rows goal k most) most with
        | none => rw [hbest] at hg; exact hg
        | some v => rw [hbest] at hg; exact hg a

def outS (E : Prop) (G : D → Prop) (x15 x : D) : Prop :=
  cond (iLt (D.i x15) 0) E ((0 ≤ D.i x15 ∧ D.i x15 < D.len x) ∧ ((0 ≤ D.i x15 ∧ D.i x15 < D.len x) ∧ (True ∧ G (.slc (List.set (D.xs x) (Int.toNat (D.i x15)) (.int (IntKind.wrap .i64 (D.i (List.getD (D.xs x) (Int.toNat (D.i x15)) D.und) + 1))))))))
/-- The next columns, in the document's answer. -/
theorem next_col {L : Nat → D → D → Prop} {E : Prop} {G : D → Prop} {box : List Int} (hb : ∀ v ∈ box, 0 ≤ v ∧ v ≤ 3)
    (heq : ∀ (m1 : Nat) (x15 x : D), L (m1 + 1) x15 x = cond (iLe (0 : Int) (D.i x15))
      ((0 ≤ D.i x15 ∧ D.i x15 < D.len x) ∧ ((0 ≤ D.i x15 ∧ D.i x15 < D.len (lst box)) ∧ (cond (iEq (D.i (List.getD (D.xs x) (Int.toNat (D.i x15)) D.und)) (D.i (D.el (lst box) (D.i x15))))
        ((0 ≤ D.i x15 ∧ D.i x15 < D.len x) ∧ (True ∧ L m1 (.int (IntKind.wrap .i64 (D.i x15 - 1))) (.slc (List.set (D.xs x) (Int.toNat (D.i x15)) (.int 0)))))
        (outS E G x15 x))))
      (outS E G x15 x))
    {X : List Int} (hE : nxt box X = none → E) (hG : ∀ Y, nxt box X = some Y → G (lst Y)) :
    ∀ (i m1 : Nat) (a z : List Int), a.length = i → i ≤ box.length → a.length + z.length = box.length → z = zers z.length → (∀ v ∈ a, 0 ≤ v ∧ v ≤ 3) → nxt box X = (nxt (box.take i) a).map (· ++ z) → i < m1 → i ≤ 1000 → L m1 (.int ((i : Int) - 1)) (lst (a ++ z)) := by
  intro i
  induction i with
  | zero =>
    intro m1 a z ha _ _ _ _ hn hm _
    obtain ⟨m1, rfl⟩ : ∃ q, m1 = q + 1 := ⟨m1 - 1, by omega⟩
    have : a = [] := List.length_eq_zero_iff.1 ha
    subst this
    simp only [List.take_zero, nxt, Option.map_none] at hn
    rw [heq]
    simp only [i_int, outS]
    exact cLe (fun c => by omega) fun _ => cLt (fun _ => hE hn) fun c => by omega
  | succ i ih =>
    intro m1 a z ha hi haz hz hav hn hm hi9
    obtain ⟨m1, rfl⟩ : ∃ q, m1 = q + 1 := ⟨m1 - 1, by omega⟩
    obtain ⟨a', v, rfl⟩ : ∃ a' v, a = a' ++ [v] := by
      have hne : a ≠ [] := by intro e; rw [e] at ha; simp at ha
      exact ⟨a.dropLast, a.getLast hne, (List.dropLast_concat_getLast hne).symm⟩
    have ha' : a'.length = i := by simpa using ha
    have htake : box.take (i + 1) = box.take i ++ [box.getD i 0] := by
      rw [List.take_add_one, List.getElem?_eq_getElem (by omega)]
      simp [List.getD_eq_getElem?_getD, List.getElem?_eq_getElem (show i < box.length by omega)]
    rw [htake, nxt_snoc (by rw [List.length_take, ha']; omega)] at hn
    have hv := hav v (by simp)
    have hlen : (a' ++ [v] ++ z).length = box.length := by simp; simp at haz; omega
    have hget : (a' ++ [v] ++ z).getD i 0 = v := by
      rw [List.append_assoc, ← ha']
      simp
    have hset : ∀ w, (a' ++ [v] ++ z).set i w = a' ++ w :: z := fun w => by
      rw [List.append_assoc, ← ha']
      simp
    rw [heq]
    have hin : (i : Int) < D.len (lst (a' ++ [v] ++ z)) := by rw [len_lst, hlen]; omega
    have hinb : (i : Int) < D.len (lst box) := by rw [len_lst]; omega
    have e1 : ((i + 1 : Nat) : Int) - 1 = (i : Int) := by omega
    rw [e1]
    simp only [i_int, toNat_nat, outS]
    rw [lst_get34 (by omega), hget, el_lst _ _ (by omega), i_int, lst_set34, hset, lst_set34, hset, wrap_id (show -9223372036854775808 ≤ (i : Int) - 1 by omega) (by omega), wrap_id (show -9223372036854775808 ≤ v + 1 by omega) (by omega)]
    refine cLe (fun _ => ⟨⟨by omega, hin⟩, ⟨by omega, hinb⟩, ?_⟩) fun c => by omega
    refine cEq (fun e => ⟨⟨by omega, hin⟩, trivial, ?_⟩) fun e => cLt (fun c => by omega) fun _ => ⟨⟨by omega, hin⟩, ⟨by omega, hin⟩, trivial, ?_⟩
    · rw [if_pos e] at hn
      refine ih m1 a' (0 :: z) ha' (by omega) (by simp at haz ⊢; omega) ?_ (fun w hw => hav w (by simp [hw])) ?_ (by omega) (by omega)
      · rw [List.length_cons, zers_cons, ← hz]
      · rw [hn, Option.map_map]
        congr 1
        funext y
        simp
    · rw [if_neg e] at hn
      refine hG _ ?_
      rw [hn]
      simp

theorem foldl_cons_upd (m : D) (X : List Int) (L : List (List Int)) (b : Option Int) : ((X :: L).map (valO m)).foldl upd b = (L.map (valO m)).foldl upd (upd b (valO m X)) := rfl

theorem solveR_wp {m : D} {c : Nat} {rows goal : List D} {k : Int} {most : List Int} (hm : DM m c rows goal k) (hl : most.length ≤ 1000) (hn : 1100700 ≤ n)
    (hbad : ¬ boxOk c most → Q [.int 0, .slc [], .int 33]) (hgood : boxOk c most → solQ Q (best (boxM c rows goal k most) most)) : wpF Try.prog A n 37 [m, lst most] Q := by
  obtain ⟨p, rfl⟩ : ∃ p, n = p + 1 := ⟨n - 1, by omega⟩
  rw [E37]
  have e0 : D.fld m 0 = .int (c : Int) := by rw [hm.eq]; rfl
  refine boxR_wp hm hl (by omega) (fun hb => ?_) fun hb => ?_
  · simp only [rs0, rsS, i_int]
    exact ⟨trivial, cNe (fun _ => hbad hb) fun c => by omega⟩
  · have hg := hgood hb
    have hs := hm.sm hb
    obtain ⟨b1, b2, b3⟩ := hb
    have b0 : ∀ v ∈ most, 0 ≤ v := fun v hv => (b3 v hv).1
    rw [e0]
    simp only [rs0, rsS, i_int, toNat_nat]
    refine ⟨trivial, cNe (fun c => by omega) fun _ => ⟨⟨by omega, by omega, by unfold room; omega⟩, ?_⟩⟩
    generalize hM : boxM c rows goal k most = M at *
    have fin : ∀ (b : Option Int) (a : D), solQ Q b → cond (!D.b (.bool b.isSome)) (Q [.int 0, .slc [], .int 34]) (Q [.int (b.getD 0), a, .int 0]) := fun b a h => by
      cases b with
      | none => exact h
      | some v => exact h a
    have main : ∀ (L : List (List Int)) (X : List Int) (b : Option Int) (m0 : Nat) (a : D), frm most X = L → inB most X → L.length < m0 → solQ Q ((L.map (valO M)).foldl upd b) →
        L37_7 p m0 (lst most) (.int (b.getD 0)) (.bool b.isSome) m M a (lst X) Q := by
      intro L
      induction L with
      | nil =>
        intro X b m0 a hL hX
        rw [frm_nxt hX b0] at hL
        cases hL
      | cons Y L ih =>
        intro X b m0 a hL hX hlt hq
        obtain ⟨m0, rfl⟩ : ∃ q, m0 = q + 1 := ⟨m0 - 1, by omega⟩
        rw [frm_nxt hX b0] at hL
        injection hL with h1 h2
        subst h1
        rw [foldl_cons_upd] at hq
        have hXl := inB_len hX
        have hXv := inB_box hX b3
        rw [L37_7_eq]
        refine valR_wp hs (by omega) hXv (by omega) ?_
        simp only [rs0, rsS, b_bool, i_int]
        rw [e0, i_int]
        have hr : room ((List.length (D.xs (lst X)) : Nat) : Int) 8 := by
          have : (D.xs (lst X)).length = X.length := by simp [lst, D.xs]
          rw [this]; unfold room; omega
        have hw : IntKind.wrap .i64 ((c : Int) - 1) = (most.length : Int) - 1 := by rw [wrap_id (by omega) (by omega), b2]
        rw [hw]
        have hxs : D.slc (D.xs (lst X)) = lst X := rfl
        -- the next columns
        have go : ∀ (b' : Option Int) (a' : D), upd b (valO M X) = b' → (nxt most X = none → solQ Q b') ∧ ∀ Y, nxt most X = some Y → L37_7 p m0 (lst most) (.int (b'.getD 0)) (.bool b'.isSome) m M a' (lst Y) Q := fun b' a' hb' => by
          rw [hb'] at hq
          constructor
          · intro hn
            rw [hn] at h2
            subst h2
            exact hq
          · intro Y hY
            rw [hY] at h2
            exact ih Y b' m0 a' h2 (nxt_in hX b0 hY) (by simp only [List.length_cons] at hlt; omega) hq
        have stay : ∀ b', upd b (valO M X) = b' → b' = b → L37_11v1 p m0 p (lst most) (.int (b.getD 0)) (.bool b.isSome) (.int ((most.length : Int) - 1)) m M a (lst X) Q := fun b' hb' e => by
          subst e
          obtain ⟨g1, g2⟩ := go _ a hb'
          have := next_col (L := fun m1 x15 x => L37_11v1 p m0 m1 (lst most) (.int (b'.getD 0)) (.bool b'.isSome) x15 m M a x Q) (E := cond (!D.b (.bool b'.isSome)) (Q [.int 0, .slc [], .int 34]) (Q [.int (b'.getD 0), a, .int 0])) (G := fun y => L37_7 p m0 (lst most) (.int (b'.getD 0)) (.bool b'.isSome) m M a y Q) b3 (fun m1 x15 x => L37_11v1_eq p m0 m1 _ _ _ _ _ _ _ _ _) (X := X) (fun hn => fin _ _ (g1 hn)) g2 most.length p X [] (by omega) (Nat.le_refl _) (by simp; omega) rfl hXv (by simp) (by omega) (by omega)
          simpa using this
        have take : ∀ v, upd b (valO M X) = some v → L37_11 p m0 p (lst most) (.int v) (.bool true) (.int ((most.length : Int) - 1)) m M a (lst X) (lst X) Q := fun v hb' => by
          obtain ⟨g1, g2⟩ := go _ (lst X) hb'
          have := next_col (L := fun m1 x15 x => L37_11 p m0 m1 (lst most) (.int v) (.bool true) x15 m M a x (lst X) Q) (E := cond (!D.b (.bool true)) (Q [.int 0, .slc [], .int 34]) (Q [.int v, lst X, .int 0])) (G := fun y => L37_7 p m0 (lst most) (.int v) (.bool true) m M (lst X) y Q) b3 (fun m1 x15 x => L37_11_eq p m0 m1 _ _ _ _ _ _ _ _ _ _) (X := X) (fun hn => fin (some v) _ (g1 hn)) g2 most.length p X [] (by omega) (Nat.le_refl _) (by simp; omega) rfl hXv (by simp) (by omega) (by omega)
          simpa using this
        cases hval : valO M X with
        | none =>
          simp only [Option.isSome_none, cond_false]
          exact stay _ rfl (by rw [hval]; rfl)
        | some v =>
          simp only [Option.isSome_some, cond_true, Option.getD_some]
          cases b with
          | none =>
            simp only [Option.isSome_none, Bool.not_false, cond_true]
            exact ⟨hr, take v (by rw [hval]; rfl)⟩
          | some w =>
            simp only [Option.isSome_some, Bool.not_true, cond_false, Option.getD_some]
            refine cLt (fun hlt => ⟨hr, take v (by rw [hval]; simp only [upd, iLt_iff.mpr hlt, cond_true])⟩) fun hlt => ?_
            exact stay _ rfl (by rw [hval]; simp only [upd, iLt_not.mpr hlt, cond_false])
    have hz : D.slc (List.replicate c (.int 0)) = lst (zers most.length) := by
      rw [b2]; simp [lst, zers]
    rw [hz]
    have hcl := cols_len b3
    have h4 : 4 ^ most.length ≤ 4 ^ 4 := Nat.pow_le_pow_right (by omega) (by omega)
    have := main (cols most) (zers most.length) none p (.slc []) (frm_zers b0) (inB_zers b0) (by have : (4 : Nat) ^ 4 = 256 := rfl; omega) hg
    exact this
end
end Go.Ab

/- Trees of cases: what makes the list of their cases accepted. -/
namespace Go.Ab
open Go.Proofs
attribute [local irreducible] wpF

/-- A proof by cases. -/
inductive T where
  | lf (c : D)
  | nd (k : Nat) (v : Int) (l r : T)
def T.sz : T → Nat
  | .lf _ => 1
  | .nd _ _ l r => 1 + l.sz + r.sz
theorem T.pos (t : T) : 1 ≤ t.sz := by cases t <;> simp only [T.sz] <;> omega
def rootD (k : Nat) (v L R : Int) : D := .agg [.int L, .int R, .slc [tm (k : Int) 1], .int v, .slc [], .int 0]
/-- The list of cases from an index on. -/
def T.fl : T → Nat → List D
  | .lf c, _ => [c]
  | .nd k v l r, a => rootD k v ((a + 1 : Nat) : Int) ((a + 1 + l.sz : Nat) : Int) :: (l.fl (a + 1) ++ r.fl (a + 1 + l.sz))
theorem T.fl_len : ∀ (t : T) (a : Nat), (t.fl a).length = t.sz
  | .lf _, _ => rfl
  | .nd k v l r, a => by simp only [T.fl, T.sz, List.length_cons, List.length_append, T.fl_len l, T.fl_len r]; omega
def upR (k : Nat) (v : Int) : D := .agg [.slc [tm (k : Int) 1], .int v]
def dnR (k : Nat) (v : Int) : D := .agg [.slc [tm (k : Int) (-1)], .int (-v - 1)]
theorem sideL_root (k : Nat) (v L R : Int) : sideL (rootD k v L R) = upR k v := rfl
theorem sideR_root {k : Nat} {v : Int} (L R : Int) (h0 : 0 ≤ v) (h1 : v ≤ 3) : sideR (rootD k v L R) = dnR k v := by
  have e : IntKind.wrap .i64 (IntKind.wrap .i64 (0 - v) - 1) = -v - 1 := by
    rw [wrap_id (show -9223372036854775808 ≤ 0 - v by omega) (by omega), wrap_id (by omega) (by omega)]; omega
  have e2 : IntKind.wrap .i64 (0 - (1 : Int)) = -1 := by rw [wrap_id (by omega) (by omega)]; rfl
  show D.agg [.slc (negL (.slc [tm (k : Int) 1]) 1), .int (IntKind.wrap .i64 (IntKind.wrap .i64 (0 - v) - 1))] = _
  rw [e]
  show D.agg [.slc [.agg [.int (k : Int), .int (IntKind.wrap .i64 (0 - (1 : Int)))]], .int (-v - 1)] = _
  rw [e2]
  rfl

def bdV (w : Int) (v : Int × (Bool × Bool)) : Bool := !v.2.1 || (!v.2.2 && iLt w v.1)
/-- All leaves prove what they are to prove. -/
def Good (m : D) (w : Int) : List D → T → Prop
  | ab, .lf c => iEq (cL c) (-1) = true ∧ leafB c = true ∧ D.len (D.fld m 1) + ab.length ≤ 400 ∧ bdV w (leafV m ab c) = false ∧ CN 1000 c
  | ab, .nd k v l r => (k : Int) < D.i (D.fld m 0) ∧ 0 ≤ v ∧ v ≤ 3 ∧ D.len (D.fld m 1) + ab.length ≤ 400 ∧ Good m w (ab ++ [upR k v]) l ∧ Good m w (ab ++ [dnR k v]) r

/-- A tree's cases lie in a bound. -/
def Sub (b : D) (a : Nat) (t : T) : Prop := ∀ i, i < t.sz → cAs b ((a + i : Nat) : Int) = (t.fl a).getD i .und
theorem Sub.nd {b : D} {a k : Nat} {v : Int} {l r : T} (h : Sub b a (.nd k v l r)) : cAs b (a : Int) = rootD k v ((a + 1 : Nat) : Int) ((a + 1 + l.sz : Nat) : Int) ∧ Sub b (a + 1) l ∧ Sub b (a + 1 + l.sz) r := by
  have hl := T.fl_len l (a + 1)
  refine ⟨?_, fun i hi => ?_, fun i hi => ?_⟩
  · have := h 0 (by simp only [T.sz]; omega)
    rw [Nat.add_zero] at this
    rw [this]
    rfl
  · have := h (1 + i) (by simp only [T.sz]; omega)
    rw [← Nat.add_assoc] at this
    rw [this, Nat.add_comm 1 i]
    simp only [T.fl, List.getD_cons_succ]
    rw [List.getD_eq_getElem?_getD, List.getElem?_append_left (by omega), ← List.getD_eq_getElem?_getD]
  · have := h (1 + l.sz + i) (by simp only [T.sz]; omega)
    rw [show a + (1 + l.sz + i) = a + 1 + l.sz + i by omega] at this
    rw [this, show 1 + l.sz + i = (l.sz + i) + 1 by omega]
    simp only [T.fl, List.getD_cons_succ]
    rw [List.getD_eq_getElem?_getD, List.getElem?_append_right (by omega), hl, Nat.add_sub_cancel_left, ← List.getD_eq_getElem?_getD]

theorem set_b {l : List Bool} {i j : Nat} (h : i < l.length) : (l.set i true).getD j false = if i = j then true else l.getD j false := by
  simp only [List.getD_eq_getElem?_getD, List.getElem?_set]
  by_cases e : i = j
  · subst e; simp [h]
  · simp [e]

theorem root_split {m : D} {k : Nat} {v : Int} {L R : Int} {a : Int} (hk : (k : Int) < D.i (D.fld m 0)) (h0 : 0 ≤ v) (h1 : v ≤ 3) (hL : a < L) (hR : a < R) : splitB m (rootD k v L R) a = true := by
  have ht : termsB (.slc [tm (k : Int) 1]) (D.i (D.fld m 0)) 1048576 = true := terms_mono (by omega) (by omega) (one_terms hk)
  show (formB m (.slc [tm (k : Int) 1]) v && (iEq 0 0 && (iEq 0 0 && (iLt a L && iLt a R)))) = true
  unfold formB
  rw [ht, iLt_iff.mpr hL, iLt_iff.mpr hR, iLe_iff.mpr (by omega), iLt_iff.mpr (by omega)]
  rfl

/-- Every case but the first is named once. -/
theorem names_ok34 {m b : D} {w : Int} {N : Nat} (hN : D.len (cs b) = N) {init : List Bool} : ∀ (t : T) (ab : List D) (a : Nat) (nm : List Bool), Good m w ab t → Sub b a t → a + t.sz ≤ N → nm.length = N →
    (∀ j, a < j → j < a + t.sz → nm.getD j false = false) → iterO (vS m b) init a = some nm →
    ∃ nm', iterO (vS m b) init (a + t.sz) = some nm' ∧ nm'.length = N ∧ (∀ j, a < j → j < a + t.sz → nm'.getD j false = true) ∧ ∀ j, ¬ (a < j ∧ j < a + t.sz) → nm'.getD j false = nm.getD j false
  | .lf c, ab, a, nm, hG, hS, ha, hl, hf, hi => by
    have hc : cAs b (a : Int) = c := by have := hS 0 (by simp [T.sz]); simpa [T.fl] using this
    refine ⟨nm, ?_, hl, fun j h1 h2 => by simp only [T.sz] at h2; omega, fun _ _ => rfl⟩
    show (iterO (vS m b) init a).bind (fun t => vS m b t a) = some nm
    rw [hi, Option.bind_some, vS_leaf (by rw [hc]; exact hG.1), hc, hG.2.1]
    rfl
  | .nd k v l r, ab, a, nm, hG, hS, ha, hl, hf, hi => by
    obtain ⟨h1, h2, h3, h4, h5, h6⟩ := hG
    obtain ⟨s0, s1, s2⟩ := hS.nd
    have pl := l.pos
    have pr := r.pos
    simp only [T.sz] at ha hf ⊢
    have hcL : cL (rootD k v ((a + 1 : Nat) : Int) ((a + 1 + l.sz : Nat) : Int)) = ((a + 1 : Nat) : Int) := rfl
    have hcR : cR (rootD k v ((a + 1 : Nat) : Int) ((a + 1 + l.sz : Nat) : Int)) = ((a + 1 + l.sz : Nat) : Int) := rfl
    have hnl : iEq (cL (cAs b (a : Int))) (-1) = false := by rw [s0, hcL, iEq_not]; omega
    have step : vS m b nm a = some ((nm.set (a + 1) true).set (a + 1 + l.sz) true) := by
      rw [vS_split hnl, s0, hcL, hcR, root_split h1 h2 h3 (by omega) (by omega), cond_true, hN]
      unfold nameS
      rw [iLe_not.mpr (by omega), iLe_not.mpr (by omega)]
      simp only [cond_false, toNat_nat]
      rw [hf (a + 1) (by omega) (by omega)]
      simp only [cond_false, Option.bind_some]
      rw [set_b (by omega), if_neg (by omega), hf _ (by omega) (by omega)]
      rfl
    have i1 : iterO (vS m b) init (a + 1) = some ((nm.set (a + 1) true).set (a + 1 + l.sz) true) := by
      show (iterO (vS m b) init a).bind (fun t => vS m b t a) = _
      rw [hi, Option.bind_some, step]
    have hget : ∀ j, ((nm.set (a + 1) true).set (a + 1 + l.sz) true).getD j false = if a + 1 + l.sz = j then true else if a + 1 = j then true else nm.getD j false := fun j => by
      rw [set_b (by rw [List.length_set]; omega), set_b (by omega)]
    obtain ⟨nm1, j1, j2, j3, j4⟩ := names_ok34 hN l _ (a + 1) _ h5 s1 (by omega) (by simp [hl]) (fun j g1 g2 => by rw [hget, if_neg (by omega), if_neg (by omega)]; exact hf j (by omega) (by omega)) i1
    obtain ⟨nm2, q1, q2, q3, q4⟩ := names_ok34 hN r _ (a + 1 + l.sz) _ h6 s2 (by omega) j2 (fun j g1 g2 => by rw [j4 j (by omega), hget, if_neg (by omega), if_neg (by omega)]; exact hf j (by omega) (by omega)) j1
    refine ⟨nm2, by rw [← q1]; congr 1; omega, q2, fun j g1 g2 => ?_, fun j g => ?_⟩
    · by_cases e : a + 1 + l.sz < j
      · exact q3 j e (by omega)
      · rw [q4 j (by omega)]
        by_cases e2 : a + 1 < j ∧ j < a + 1 + l.sz
        · exact j3 j e2.1 e2.2
        · rw [j4 j e2, hget]
          by_cases e3 : a + 1 + l.sz = j
          · rw [if_pos e3]
          · rw [if_neg e3, if_pos (by omega)]
    · rw [q4 j (by omega), j4 j (by omega), hget, if_neg (by omega), if_neg (by omega)]

/-- The rows above each case. -/
theorem rows_ok34 {m b : D} {w : Int} {N : Nat} (hN : D.len (cs b) = N) : ∀ (t : T) (ab : List D) (a : Nat), Good m w ab t → Sub b a t → a + t.sz ≤ N → (abv b a).getD a [] = ab →
    (∀ i, i < t.sz → D.len (D.fld m 1) + ((abv b (a + i)).getD (a + i) []).length ≤ 400 ∧ (iEq (cL (cAs b ((a + i : Nat) : Int))) (-1) = true → bdV w (leafV m ((abv b (a + i)).getD (a + i) []) (cAs b ((a + i : Nat) : Int))) = false)) ∧
    ∀ j, ¬ (a < j ∧ j < a + t.sz) → (abv b (a + t.sz)).getD j [] = (abv b a).getD j []
  | .lf c, ab, a, hG, hS, ha, hab => by
    have hc : cAs b (a : Int) = c := by have := hS 0 (by simp [T.sz]); simpa [T.fl] using this
    refine ⟨fun i hi => ?_, fun j _ => ?_⟩
    · have : i = 0 := by simp only [T.sz] at hi; omega
      subst this
      rw [Nat.add_zero, hab, hc]
      exact ⟨hG.2.2.1, fun _ => hG.2.2.2.1⟩
    · show (aS b (abv b a) a).getD j [] = _
      unfold aS
      rw [hc, hG.1]
      rfl
  | .nd k v l r, ab, a, hG, hS, ha, hab => by
    obtain ⟨h1, h2, h3, h4, h5, h6⟩ := hG
    obtain ⟨s0, s1, s2⟩ := hS.nd
    have pl := l.pos
    have pr := r.pos
    simp only [T.sz] at ha ⊢
    have hcL : cL (rootD k v ((a + 1 : Nat) : Int) ((a + 1 + l.sz : Nat) : Int)) = ((a + 1 : Nat) : Int) := rfl
    have hcR : cR (rootD k v ((a + 1 : Nat) : Int) ((a + 1 + l.sz : Nat) : Int)) = ((a + 1 + l.sz : Nat) : Int) := rfl
    have hlen : (abv b a).length = N := by rw [abv_len, hN, toNat_nat]
    have e1 : abv b (a + 1) = ((abv b a).set (a + 1) (ab ++ [upR k v])).set (a + 1 + l.sz) (ab ++ [dnR k v]) := by
      show aS b (abv b a) a = _
      unfold aS
      rw [s0, hcL, hcR, iEq_not.mpr (by omega), cond_false, sideL_root, sideR_root _ _ h2 h3, toNat_nat, toNat_nat, hab]
    obtain ⟨p1, p2⟩ := rows_ok34 hN l _ (a + 1) h5 s1 (by omega) (by rw [e1, getD_set_ne' (by omega), getD_set_eq' (by omega)])
    obtain ⟨q1, q2⟩ := rows_ok34 hN r _ (a + 1 + l.sz) h6 s2 (by omega) (by rw [p2 _ (by omega), e1, getD_set_eq' (by rw [List.length_set]; omega)])
    refine ⟨fun i hi => ?_, fun j hj => ?_⟩
    · by_cases e0 : i = 0
      · subst e0
        rw [Nat.add_zero, hab]
        refine ⟨h4, fun h => ?_⟩
        rw [s0, hcL, iEq_iff] at h
        omega
      · by_cases e2 : i < 1 + l.sz
        · have := p1 (i - 1) (by omega)
          rw [show a + 1 + (i - 1) = a + i by omega] at this
          exact this
        · have := q1 (i - 1 - l.sz) (by omega)
          rw [show a + 1 + l.sz + (i - 1 - l.sz) = a + i by omega] at this
          exact this
    · rw [show a + (1 + l.sz + r.sz) = a + 1 + l.sz + r.sz by omega, q2 j (by omega), p2 j (by omega), e1, getD_set_ne' (by omega), getD_set_ne' (by omega)]

theorem good_cn {m : D} {w : Int} : ∀ (t : T) (ab : List D) (a : Nat), Good m w ab t → ∀ c ∈ t.fl a, CN 1000 c
  | .lf c, _, _, h, x, hx => by
    simp only [T.fl, List.mem_singleton] at hx
    subst hx
    exact h.2.2.2.2
  | .nd k v l r, _, a, h, x, hx => by
    obtain ⟨_, _, _, _, h5, h6⟩ := h
    simp only [T.fl] at hx
    rcases List.mem_cons.1 hx with rfl | hx
    · refine cn_agg (by simp [D.len, D.xs]) (by simp [D.len, D.xs]) (fun x hx => by cases hx) (fun x hx => ?_) fun x hx => by cases hx
      simp only [D.xs, List.mem_singleton] at hx
      exact ⟨_, _, hx⟩
    · rcases List.mem_append.1 hx with hx | hx
      · exact good_cn l _ _ h5 x hx
      · exact good_cn r _ _ h6 x hx

/-- A GOOD TREE IS ACCEPTED. -/
theorem tree_chk {m : D} {w : Int} {t : T} (hmv : modB m = true) (hG : Good m w [] t) (hs : t.sz ≤ 1000) :
    chkV m (.agg [.slc (t.fl 0), .int w]) = 0 ∧ BN 1000 (.agg [.slc (t.fl 0), .int w]) := by
  have pt := t.pos
  have hfl := T.fl_len t 0
  refine ⟨?_, bn_agg (by omega) fun c hc => good_cn t [] 0 hG c hc⟩
  generalize hb : D.agg [.slc (t.fl 0), .int w] = b
  have hcs : cs b = .slc (t.fl 0) := by rw [← hb]; rfl
  have hw : D.i (D.fld b 1) = w := by rw [← hb]; rfl
  have hN : D.len (cs b) = (t.sz : Nat) := by rw [hcs, len_slc, hfl]
  have hSub : Sub b 0 t := fun i hi => by
    unfold cAs
    rw [hcs]
    simp only [Nat.zero_add, D.el, D.xs, toNat_nat]
  have hr0 : ∀ j, (List.replicate t.sz false).getD j false = false := fun j => by
    simp [List.getD_eq_getElem?_getD, List.getElem?_replicate]
    split <;> rfl
  obtain ⟨nm, n1, n2, n3, _⟩ := names_ok34 (m := m) (b := b) (w := w) hN (init := List.replicate t.sz false) t [] 0 (List.replicate t.sz false) hG hSub (by omega) (by simp) (fun j _ _ => hr0 j) rfl
  have hbnd : bndB m b = true := by
    unfold bndB namesO
    rw [hN, toNat_nat, iLe_iff.mpr (by omega), iLe_iff.mpr (by omega)]
    rw [Nat.zero_add] at n1 n3
    rw [n1]
    simp only [Bool.true_and, allN, Bool.not_eq_true']
    refine anyB_false fun j hj => ?_
    rw [n3 (j + 1) (by omega) (by omega)]
    rfl
  obtain ⟨r1, _⟩ := rows_ok34 (m := m) (b := b) (w := w) hN t [] 0 hG hSub (by omega) (by
    show (List.replicate (D.len (cs b)).toNat []).getD 0 [] = []
    simp [List.getD_eq_getElem?_getD, List.getElem?_replicate]
    split <;> rfl)
  have hrows : ∀ k, k < t.sz → rowsOf b k = (abv b k).getD k [] := fun k hk => by
    unfold rowsOf
    rw [hN, toNat_nat]
    exact abv_stable hbnd t.sz (by omega) (by omega)
  unfold chkV
  rw [hmv, hbnd, hN, toNat_nat]
  simp only [cond_true]
  rw [anyB_false fun k hk => ?_, anyB_false fun k hk => ?_]
  · rfl
  · unfold badC
    have := (r1 k hk).2
    rw [Nat.zero_add] at this
    cases hl : iEq (cL (cAs b k)) (-1) with
    | false => rfl
    | true =>
      rw [hrows k hk, Bool.true_and]
      unfold badV
      rw [hw]
      exact this hl
  · unfold longB
    have := (r1 k hk).1
    rw [Nat.zero_add] at this
    rw [hrows k hk, iLt_not]
    omega
end Go.Ab

/- Sums of rows, by lists of pairs. -/
namespace Go.Ab
open Go.Proofs
attribute [local irreducible] wpF

def tms (ps : List (Int × Int)) : List D := ps.map fun p => tm p.1 p.2
theorem tms_len (ps : List (Int × Int)) : (tms ps).length = ps.length := by simp [tms]
theorem tms_app (ps qs : List (Int × Int)) : tms (ps ++ qs) = tms ps ++ tms qs := by simp [tms]
theorem tms_get {ps : List (Int × Int)} {k : Nat} (h : k < ps.length) : (tms ps).getD k .und = tm (ps.getD k (0, 0)).1 (ps.getD k (0, 0)).2 := by
  simp [tms, List.getD_eq_getElem?_getD, h]
theorem tms_el {ps : List (Int × Int)} {k : Nat} (h : k < ps.length) : D.el (.slc (tms ps)) (k : Int) = tm (ps.getD k (0, 0)).1 (ps.getD k (0, 0)).2 := tms_get h
theorem tof_tms {ps : List (Int × Int)} {k : Nat} (h : k < ps.length) : tof (.slc (tms ps)) (k : Int) = (ps.getD k (0, 0)).1 := by unfold tof; rw [tms_el h]; rfl
theorem tco_tms {ps : List (Int × Int)} {k : Nat} (h : k < ps.length) : tco (.slc (tms ps)) (k : Int) = (ps.getD k (0, 0)).2 := by unfold tco; rw [tms_el h]; rfl

/-- A linear sum. -/
def Sm (f : Int → Int) : List (Int × Int) → Int
  | [] => 0
  | p :: ps => p.2 * f p.1 + Sm f ps
theorem Sm_app (f : Int → Int) : ∀ ps qs : List (Int × Int), Sm f (ps ++ qs) = Sm f ps + Sm f qs
  | [], qs => by simp [Sm]
  | p :: ps, qs => by simp only [List.cons_append, Sm, Sm_app f ps qs]; omega
theorem Sm_perm (f : Int → Int) {ps qs : List (Int × Int)} (h : ps.Perm qs) : Sm f ps = Sm f qs := by
  induction h with
  | nil => rfl
  | cons x _ ih => simp only [Sm, ih]
  | swap x y l => simp only [Sm]; omega
  | trans _ _ ih1 ih2 => exact ih1.trans ih2
theorem Sm_one (f : Int → Int) (p : Int × Int) : Sm f [p] = p.2 * f p.1 := by simp [Sm]

theorem mul_b {a b : Int} (A B : Nat) (ha : a.natAbs ≤ A) (hb : b.natAbs ≤ B) : (a * b).natAbs ≤ A * B := by
  rw [Int.natAbs_mul]
  exact Nat.mul_le_mul ha hb

/-- A row of small numbers. -/
structure SRo (c : Nat) (x : D) : Prop where
  terms : termsB (D.fld x 0) c 9 = true
  lo : -50 ≤ D.i (D.fld x 1)
  hi : D.i (D.fld x 1) ≤ 50
theorem SR.sro {c : Nat} {x : D} (h : SR c x) : SRo c x := by
  obtain ⟨s, mo, rfl, h1, h2, h3⟩ := h
  exact ⟨h1, h2, h3⟩

theorem coef_bd {l : D} {c : Nat} (h : termsB l c 9 = true) (i : Int) : ∀ t : Nat, (t : Int) ≤ D.len l → (coefUp l i t).natAbs ≤ 9 := by
  intro t
  induction t with
  | zero => intro _; show (0 : Int).natAbs ≤ 9; decide
  | succ t ih =>
    intro ht
    have e : coefUp l i (t + 1) = cond (iEq (tof l (t : Nat)) i) (tco l (t : Nat)) (coefUp l i t) := rfl
    have f := badT_facts (terms_at h (show (t : Int) < D.len l by omega))
    rw [e]
    cases iEq (tof l (t : Nat)) i
    · exact ih (by omega)
    · simp only [cond_true]; omega

theorem row_get {c : Nat} {x : D} (hx : SRo c x) {co : Int} (h1 : 1 ≤ co) (h2 : co ≤ 1000) {s : List Int} (hs : s.length = c) (hb : Bd s 100000) : ∀ t : Nat, (t : Int) ≤ D.len (D.fld x 0) →
    ∀ i : Nat, i < c → (iter (inRow x co) s t).getD i 0 = s.getD i 0 + co * coefUp (D.fld x 0) i t := by
  intro t
  induction t with
  | zero => intro _ i _; show s.getD i 0 = s.getD i 0 + co * 0; omega
  | succ t ih =>
    intro ht i hi
    have ih := ih (by omega)
    have htl : (t : Int) < D.len (D.fld x 0) := by omega
    have f := badT_facts (terms_at hx.terms htl)
    have hl := row_len x co s t
    have e : iter (inRow x co) s (t + 1) = inRow x co (iter (inRow x co) s t) t := rfl
    have ec : coefUp (D.fld x 0) i (t + 1) = cond (iEq (tof (D.fld x 0) (t : Nat)) i) (tco (D.fld x 0) (t : Nat)) (coefUp (D.fld x 0) i t) := rfl
    obtain ⟨j, hj⟩ : ∃ j : Nat, tof (D.fld x 0) (t : Nat) = (j : Int) := ⟨(tof (D.fld x 0) (t : Nat)).toNat, by omega⟩
    have hjc : j < c := by omega
    have h0 : coefUp (D.fld x 0) (j : Int) t = 0 := coef_none t fun u hu => by
      have := terms_inc hx.terms hu htl
      omega
    have ihj := ih j hjc
    rw [h0] at ihj
    have hm := mul_b (a := co) (b := tco (D.fld x 0) (t : Nat)) 1000 9 (by omega) (by omega)
    have hbj := hb j
    rw [e, inRow, hj, toNat_nat, ihj, ec, hj, set_get, hl, hs]
    rw [wrap_id (show -9223372036854775808 ≤ co * tco (D.fld x 0) (t : Nat) by omega) (by omega), wrap_id (by omega) (by omega)]
    by_cases hij : j = i
    · subst hij
      rw [if_pos ⟨rfl, hjc⟩, iEq_iff.mpr rfl, cond_true]
      omega
    · rw [if_neg (fun h => hij h.1), iEq_not.mpr (by omega), cond_false]
      exact ih i hi

theorem Sm_bd {f : Int → Int} {A B : Nat} : ∀ {ps : List (Int × Int)}, (∀ p ∈ ps, p.2.natAbs ≤ A ∧ (f p.1).natAbs ≤ B) → (Sm f ps).natAbs ≤ ps.length * (A * B)
  | [], _ => by simp [Sm]
  | p :: ps, h => by
    have ih := Sm_bd (f := f) (ps := ps) fun q hq => h q (List.mem_cons_of_mem _ hq)
    have := h p (by simp)
    have h2 := mul_b A B this.1 this.2
    simp only [Sm, List.length_cons, Nat.add_mul, Nat.one_mul]
    omega

/-- What a leaf's rows add up to. -/
theorem sum_get {M : D} {c : Nat} {ab : List D} {qs : List (Int × Int)} (hM : D.i (D.fld M 0) = c) (hrow : ∀ p ∈ qs, SRo c (rowAt M ab p.1)) (hq : ∀ p ∈ qs, 1 ≤ p.2 ∧ p.2 ≤ 1000) (hl : qs.length ≤ 10) : ∀ k : Nat, k ≤ qs.length →
    (∀ i : Nat, i < c → (sumS34 M ab (.slc (tms qs)) k).1.getD i 0 = Sm (fun o => coefOf (D.fld (rowAt M ab o) 0) i) (qs.take k)) ∧
    (sumS34 M ab (.slc (tms qs)) k).2 = Sm (fun o => D.i (D.fld (rowAt M ab o) 1)) (qs.take k) := by
  intro k
  induction k with
  | zero =>
    intro _
    refine ⟨fun i hi => ?_, rfl⟩
    show (List.replicate (D.i (D.fld M 0)).toNat (0 : Int)).getD i 0 = 0
    simp [List.getD_eq_getElem?_getD, List.getElem?_replicate]
    split <;> rfl
  | succ k ih =>
    intro hk
    obtain ⟨ih1, ih2⟩ := ih (by omega)
    have hp : qs.getD k (0, 0) ∈ qs := getD_mem (by omega)
    have hlen := sum_len M ab (.slc (tms qs)) k
    rw [hM, toNat_nat] at hlen
    have e : sumS34 M ab (.slc (tms qs)) (k + 1) = mulS M ab (.slc (tms qs)) (sumS34 M ab (.slc (tms qs)) k) k := rfl
    rw [take_snoc (d := (0, 0)) (show k < qs.length by omega), e, mulS, tof_tms (by omega), tco_tms (by omega)]
    generalize qs.getD k (0, 0) = p at hp ⊢
    have hx := hrow p hp
    obtain ⟨q1, q2⟩ := hq p hp
    have hsub : ∀ q ∈ qs.take k, q ∈ qs := fun q hq => List.mem_of_mem_take hq
    have htl : (qs.take k).length ≤ 10 := Nat.le_trans (List.length_take_le _ _) (by omega)
    have b1 : ∀ i : Nat, (Sm (fun o => coefOf (D.fld (rowAt M ab o) 0) i) (qs.take k)).natAbs ≤ 90000 := fun i => by
      have := Sm_bd (f := fun o => coefOf (D.fld (rowAt M ab o) 0) i) (A := 1000) (B := 9) (ps := qs.take k) fun q hq' => by
        have h1 := hq q (hsub q hq')
        have h2 := (hrow q (hsub q hq')).terms
        have h3 := ln0 (D.fld (rowAt M ab q.1) 0)
        exact ⟨by omega, coef_bd h2 i _ (by omega)⟩
      have h4 : (qs.take k).length * (1000 * 9) ≤ 10 * (1000 * 9) := Nat.mul_le_mul_right _ htl
      omega
    have b2 : (Sm (fun o => D.i (D.fld (rowAt M ab o) 1)) (qs.take k)).natAbs ≤ 500000 := by
      have := Sm_bd (f := fun o => D.i (D.fld (rowAt M ab o) 1)) (A := 1000) (B := 50) (ps := qs.take k) fun q hq' => by
        have h1 := hq q (hsub q hq')
        have h2 := (hrow q (hsub q hq')).lo
        have h3 := (hrow q (hsub q hq')).hi
        exact ⟨by omega, by show (D.i (D.fld (rowAt M ab q.1) 1)).natAbs ≤ 50; omega⟩
      have h4 : (qs.take k).length * (1000 * 50) ≤ 10 * (1000 * 50) := Nat.mul_le_mul_right _ htl
      omega
    have hB : Bd (sumS34 M ab (.slc (tms qs)) k).1 100000 := fun i => by
      by_cases hi : i < c
      · have := b1 i
        rw [ih1 i hi]
        omega
      · rw [List.getD_eq_getElem?_getD, List.getElem?_eq_none (by omega)]
        simp
    refine ⟨fun i hi => ?_, ?_⟩
    · have h3 := ln0 (D.fld (rowAt M ab p.1) 0)
      show (rowS (rowAt M ab p.1) p.2 (sumS34 M ab (.slc (tms qs)) k).1).getD i 0 = _
      rw [rowS, row_get hx q1 q2 hlen hB _ (by omega) i hi, ih1 i hi, Sm_app, Sm_one]
      rfl
    · show IntKind.wrap .i64 ((sumS34 M ab (.slc (tms qs)) k).2 + IntKind.wrap .i64 (p.2 * D.i (D.fld (rowAt M ab p.1) 1))) = _
      have hm := mul_b (a := p.2) (b := D.i (D.fld (rowAt M ab p.1) 1)) 1000 50 (by omega) (by have := hx.lo; have := hx.hi; omega)
      rw [ih2, wrap_id (show -9223372036854775808 ≤ p.2 * D.i (D.fld (rowAt M ab p.1) 1) by omega) (by omega), wrap_id (by omega) (by omega), Sm_app, Sm_one]

/-! Sorting, and what is put together. -/
def srt (ps : List (Int × Int)) : Prop := ps.Pairwise fun p q => p.1 ≤ q.1
/-- Pairs of one place are put together. -/
def mrg (acc : List (Int × Int)) (t : Int × Int) : List (Int × Int) := match acc.getLast? with
  | some p => if p.1 = t.1 then acc.dropLast ++ [(p.1, p.2 + t.2)] else acc ++ [t]
  | none => [t]
theorem mrg_nil (t : Int × Int) : mrg [] t = [t] := rfl
theorem mrg_snoc (a : List (Int × Int)) (p t : Int × Int) : mrg (a ++ [p]) t = if p.1 = t.1 then a ++ [(p.1, p.2 + t.2)] else a ++ [p] ++ [t] := by
  simp [mrg]
/-- What is put together: places rise, and all are of the list. -/
structure Mrg (acc : List (Int × Int)) (ps : List (Int × Int)) : Prop where
  inc : acc.Pairwise fun p q => p.1 < q.1
  sum : ∀ f, Sm f acc = Sm f ps
  pl : ∀ p ∈ acc, ∃ q ∈ ps, q.1 = p.1
  co : ∀ p ∈ acc, 1 ≤ p.2
  len : acc.length ≤ ps.length
theorem Mrg.step {acc ps : List (Int × Int)} {t : Int × Int} (h : Mrg acc ps) (ht : ∀ q ∈ ps, q.1 ≤ t.1) (h1 : 1 ≤ t.2) : Mrg (mrg acc t) (ps ++ [t]) := by
  have hall : ∀ p ∈ acc, p.1 ≤ t.1 := fun p hp => by
    obtain ⟨q, hq, e⟩ := h.pl p hp
    have := ht q hq
    omega
  rcases List.eq_nil_or_concat acc with rfl | ⟨a, p, rfl⟩
  · rw [mrg_nil]
    refine ⟨by simp, fun f => ?_, fun p hp => ?_, fun p hp => ?_, by simp⟩
    · have := h.sum f
      rw [Sm_app, ← this]
      simp [Sm]
    · exact ⟨t, by simp, by rw [List.mem_singleton.1 hp]⟩
    · rw [List.mem_singleton.1 hp]; exact h1
  · rw [List.concat_eq_append] at *
    rw [mrg_snoc]
    have hinc := List.pairwise_append.1 h.inc
    by_cases e : p.1 = t.1
    · rw [if_pos e]
      refine ⟨List.pairwise_append.2 ⟨hinc.1, by simp, fun x hx y hy => ?_⟩, fun f => ?_, fun q hq => ?_, fun q hq => ?_, ?_⟩
      · rw [List.mem_singleton.1 hy]
        exact hinc.2.2 x hx p (by simp)
      · have := h.sum f
        rw [Sm_app, Sm_one] at this ⊢
        rw [Sm_app, Sm_one, ← this, ← e]
        show Sm f a + (p.2 + t.2) * f p.1 = _
        rw [Int.add_mul]
        omega
      · rcases List.mem_append.1 hq with hq | hq
        · obtain ⟨z, hz, ez⟩ := h.pl q (by simp [hq])
          exact ⟨z, by simp [hz], ez⟩
        · rw [List.mem_singleton.1 hq]
          exact ⟨t, by simp, e.symm⟩
      · rcases List.mem_append.1 hq with hq | hq
        · exact h.co q (by simp [hq])
        · rw [List.mem_singleton.1 hq]
          have := h.co p (by simp)
          show 1 ≤ p.2 + t.2
          omega
      · have := h.len
        simp only [List.length_append, List.length_singleton] at this ⊢
        omega
    · rw [if_neg e]
      refine ⟨List.pairwise_append.2 ⟨h.inc, by simp, fun x hx y hy => ?_⟩, fun f => ?_, fun q hq => ?_, fun q hq => ?_, ?_⟩
      · rw [List.mem_singleton.1 hy]
        have hp := hall p (by simp)
        rcases List.mem_append.1 hx with hx | hx
        · have := hinc.2.2 x hx p (by simp)
          omega
        · rw [List.mem_singleton.1 hx]; omega
      · rw [Sm_app, Sm_app f ps, h.sum f]
      · rcases List.mem_append.1 hq with hq | hq
        · obtain ⟨z, hz, ez⟩ := h.pl q hq
          exact ⟨z, by simp [hz], ez⟩
        · rw [List.mem_singleton.1 hq]
          exact ⟨t, by simp, rfl⟩
      · rcases List.mem_append.1 hq with hq | hq
        · exact h.co q hq
        · rw [List.mem_singleton.1 hq]; exact h1
      · have := h.len
        simp only [List.length_append, List.length_singleton] at this ⊢
        omega
theorem Sm_pos : ∀ {ps : List (Int × Int)}, (∀ p ∈ ps, 1 ≤ p.2) → 0 ≤ Sm (fun _ => 1) ps
  | [], _ => Int.le_refl 0
  | q :: ps, h => by
    have := h q (by simp)
    have := Sm_pos (ps := ps) fun p hp => h p (List.mem_cons_of_mem _ hp)
    simp only [Sm, Int.mul_one]
    omega
theorem Sm_const {ps : List (Int × Int)} (h : ∀ p ∈ ps, 1 ≤ p.2) : ∀ p ∈ ps, p.2 ≤ Sm (fun _ => 1) ps := by
  induction ps with
  | nil => intro p hp; cases hp
  | cons q ps ih =>
    have ih := ih fun p hp => h p (List.mem_cons_of_mem _ hp)
    have h0 : 0 ≤ Sm (fun _ => 1) ps := Sm_pos fun p hp => h p (List.mem_cons_of_mem _ hp)
    intro p hp
    simp only [Sm, Int.mul_one]
    rcases List.mem_cons.1 hp with rfl | hp
    · omega
    · have := ih p hp
      have := h q (by simp)
      omega
end Go.Ab

/- Leaves that fix all columns: the plain law. -/
namespace Go.Ab
open Go.Proofs
attribute [local irreducible] wpF

theorem coef_up (l : D) (i : Int) (k : Nat) : coefUp l i (k + 1) = cond (iEq (tof l (k : Nat)) i) (tco l (k : Nat)) (coefUp l i k) := rfl
theorem coef_one (j : Nat) (v : Int) (i : Nat) : coefOf (.slc [tm (j : Int) v]) (i : Int) = if j = i then v else 0 := by
  show coefUp (.slc [tm (j : Int) v]) i 1 = _
  rw [coef_up]
  show cond (iEq (j : Int) (i : Int)) v 0 = _
  by_cases e : j = i
  · rw [if_pos e, iEq_iff.mpr (by omega)]; rfl
  · rw [if_neg e, iEq_not.mpr (by omega)]; rfl

/-- A leaf's surroundings: the rows above, and the rows that fix each column. -/
structure LX (M : D) (c : Nat) (rows goal : List D) (k : Int) (box : List Int) (ab : List D) (X lo hi : List Int) : Prop where
  sm : SM M c rows goal k box
  xin : inB box X
  few : ab.length ≤ 100
  abok : ∀ x ∈ ab, SRo c x
  lol : lo.length = c
  hil : hi.length = c
  hiR : ∀ j, j < c → (0 ≤ hi.getD j 0 ∧ hi.getD j 0 < ((rows.length + c + ab.length : Nat) : Int)) ∧ rowAt M ab (hi.getD j 0) = upR j (X.getD j 0)
  loR : ∀ j, j < c → (lo.getD j 0 = -1 ∧ X.getD j 0 = 0) ∨ ((0 ≤ lo.getD j 0 ∧ lo.getD j 0 < ((rows.length + c + ab.length : Nat) : Int)) ∧ rowAt M ab (lo.getD j 0) = dnR j (X.getD j 0 - 1))

section
variable {M : D} {c : Nat} {rows goal : List D} {k : Int} {box : List Int} {ab : List D} {X lo hi : List Int}

theorem LX.len (h : LX M c rows goal k box ab X lo hi) : D.len (D.fld M 1) = ((rows.length + c : Nat) : Int) := by
  have e1 : D.fld M 1 = .slc (rows ++ boxR box c) := by rw [h.sm.eq]; rfl
  rw [e1, len_slc, h.sm.rlen]
theorem LX.colsM (h : LX M c rows goal k box ab X lo hi) : D.i (D.fld M 0) = (c : Int) := by rw [h.sm.eq]; rfl
theorem LX.row (h : LX M c rows goal k box ab X lo hi) {o : Int} (h0 : 0 ≤ o) (h1 : o < ((rows.length + c + ab.length : Nat) : Int)) : SRo c (rowAt M ab o) := by
  have hl := h.len
  have e1 : D.fld M 1 = .slc (rows ++ boxR box c) := by rw [h.sm.eq]; rfl
  have hrl := h.sm.rlen
  unfold rowAt
  cases c0 : iLt o (D.len (D.fld M 1)) with
  | true =>
    rw [cond_true]
    rw [iLt_iff] at c0
    obtain ⟨n, rfl⟩ : ∃ n : Nat, o = n := ⟨o.toNat, by omega⟩
    rw [e1]
    exact (h.sm.all _ (el_mem (d := .slc (rows ++ boxR box c)) (i := n) (by rw [len_slc]; omega))).sro
  | false =>
    rw [cond_false]
    rw [iLt_not] at c0
    rw [hl] at c0 ⊢
    obtain ⟨n, hn⟩ : ∃ n : Nat, o - ((rows.length + c : Nat) : Int) = n := ⟨(o - ((rows.length + c : Nat) : Int)).toNat, by omega⟩
    rw [hn]
    exact h.abok _ (el_mem (d := .slc ab) (i := n) (by rw [len_slc]; omega))

/-- What makes a leaf good. -/
theorem good_of (h : LX M c rows goal k box ab X lo hi) {w : Int} {acc : List (Int × Int)} {den : Int} (hinc : acc.Pairwise fun p q => p.1 < q.1) (hco : ∀ p ∈ acc, 1 ≤ p.2 ∧ p.2 ≤ 1000) (hlen : acc.length ≤ 10)
    (hidx : ∀ p ∈ acc, 0 ≤ p.1 ∧ p.1 < ((rows.length + c + ab.length : Nat) : Int)) (hsum : ∀ i : Nat, i < c → den * coefOf (D.fld M 2) i ≤ Sm (fun o => coefOf (D.fld (rowAt M ab o) 0) i) acc)
    (hval : (den = 1 ∧ k + Sm (fun o => D.i (D.fld (rowAt M ab o) 1)) acc ≤ w) ∨ (den = 0 ∧ Sm (fun o => D.i (D.fld (rowAt M ab o) 1)) acc < 0)) : Good M w ab (.lf (leafC (tms acc) (.int den))) := by
  have hl := h.len
  have hM := h.colsM
  have hcc := h.sm.cols
  have hfew := h.sm.few
  have hab := h.few
  have k0 := h.sm.k0
  have k1 := h.sm.k1
  have e3 : D.i (D.fld M 3) = k := by rw [h.sm.eq]; rfl
  have hat : ∀ j, j < acc.length → acc.getD j (0, 0) ∈ acc := fun j hj => getD_mem hj
  have hmul : mulB (.slc (tms acc)) = true := by
    refine mul_of fun j hj => ?_
    rw [len_slc, tms_len] at hj
    have hj : j < acc.length := by omega
    have h1 := hidx _ (hat j hj)
    have h2 := hco _ (hat j hj)
    rw [← tof_tms hj] at h1
    rw [← tco_tms hj] at h2
    refine badM_of h1.1 (fun hp => ?_) h2.1 (by omega)
    obtain ⟨i, rfl⟩ : ∃ i, j = i + 1 := ⟨j - 1, by omega⟩
    rw [show ((i + 1 : Nat) : Int) - 1 = (i : Int) by omega, tof_tms hj, tof_tms (show i < acc.length by omega)]
    have := List.pairwise_iff_getElem.1 hinc i (i + 1) (by omega) hj (by omega)
    simpa [List.getD_eq_getElem?_getD, hj, show i < acc.length by omega] using this
  have hd : 0 ≤ den ∧ den ≤ 1 := by rcases hval with ⟨e, _⟩ | ⟨e, _⟩ <;> omega
  refine ⟨rfl, ?_, by rw [hl]; omega, ?_, ?_⟩
  · show (iEq (-1) (-1) && (iEq (D.len (.slc [])) 0 && (iEq 0 0 && (iLe 0 den && (iLe den 1024 && mulB (.slc (tms acc))))))) = true
    rw [hmul, iLe_iff.mpr hd.1, iLe_iff.mpr (by omega)]
    rfl
  · have hout : outB M ab (.slc (tms acc)) = false := by
      unfold outB
      rw [len_slc, tms_len, toNat_nat]
      refine anyB_false fun j hj => ?_
      have h1 := hidx _ (hat j hj)
      rw [tof_tms hj, hl, iLe_not]
      omega
    obtain ⟨s1, s2⟩ := sum_get hM (fun p hp => h.row (hidx p hp).1 (hidx p hp).2) hco hlen acc.length (Nat.le_refl _)
    rw [List.take_length] at s1 s2
    have hshort : shortB M den (sumS34 M ab (.slc (tms acc)) acc.length).1 = false := by
      unfold shortB
      rw [hM, toNat_nat]
      refine anyB_false fun i hi => ?_
      rw [s1 i hi, iLt_not]
      have := hsum i hi
      omega
    have hb : (Sm (fun o => D.i (D.fld (rowAt M ab o) 1)) acc).natAbs ≤ 500000 := by
      have := Sm_bd (f := fun o => D.i (D.fld (rowAt M ab o) 1)) (A := 1000) (B := 50) (ps := acc) fun q hq' => by
        have h1 := hco q hq'
        have h2 := h.row (hidx q hq').1 (hidx q hq').2
        have h3 := h2.lo
        have h4 := h2.hi
        exact ⟨by omega, by show (D.i (D.fld (rowAt M ab q.1) 1)).natAbs ≤ 50; omega⟩
      have h4 : acc.length * (1000 * 50) ≤ 10 * (1000 * 50) := Nat.mul_le_mul_right _ hlen
      omega
    have ef : D.fld (leafC (tms acc) (.int den)) 4 = .slc (tms acc) := rfl
    have ed : cDen (leafC (tms acc) (.int den)) = den := rfl
    have el : (D.len (.slc (tms acc))).toNat = acc.length := by rw [len_slc, tms_len, toNat_nat]
    unfold leafV
    rw [ef, ed, el, hout, hshort, s2]
    simp only [cond_false]
    rcases hval with ⟨rfl, hv⟩ | ⟨rfl, hv⟩
    · rw [iLt_iff.mpr (by omega), cond_true, e3]
      have e4 : flo (Sm (fun o => D.i (D.fld (rowAt M ab o) 1)) acc) 1 = Sm (fun o => D.i (D.fld (rowAt M ab o) 1)) acc := by
        unfold flo
        rw [Int.tmod_one, iLt_not.mpr (by omega), cond_false, Int.tdiv_one, wrap_id (by omega) (by omega)]
      rw [e4, wrap_id (by omega) (by omega)]
      unfold bdV
      rw [iLt_not.mpr (by omega)]
      rfl
    · rw [iLt_not.mpr (by omega), cond_false, iLt_iff.mpr hv]
      rfl
  · refine cn_agg (by simp [D.len, D.xs]) (by rw [len_slc, tms_len]; omega) (fun x hx => ?_) (fun x hx => by cases hx) fun x hx => ?_
    · obtain ⟨p, hp, rfl⟩ := List.mem_map.1 hx
      have := hidx p hp
      show p.1 ≤ _
      omega
    · obtain ⟨p, _, rfl⟩ := List.mem_map.1 hx
      exact ⟨_, _, rfl⟩

/-! What is taken of each column's rows. -/
def addP (ps : List (Int × Int)) (row co : Int) : List (Int × Int) := cond (iLt 0 co) (cond (iLe 0 row) (ps ++ [(row, co)]) ps) ps
def colS (V lo hi : List Int) (ps : List (Int × Int)) (j : Nat) : List (Int × Int) := addP (addP ps (hi.getD j 0) (V.getD j 0)) (lo.getD j 0) (- V.getD j 0)
theorem colS_pos {V lo hi : List Int} {ps : List (Int × Int)} {j : Nat} (h : 0 < V.getD j 0) (hh : 0 ≤ hi.getD j 0) : colS V lo hi ps j = ps ++ [(hi.getD j 0, V.getD j 0)] := by
  unfold colS addP
  rw [iLt_iff.mpr h, iLe_iff.mpr hh, iLt_not.mpr (by omega)]
  rfl
theorem colS_neg {V lo hi : List Int} {ps : List (Int × Int)} {j : Nat} (h : V.getD j 0 < 0) (hh : 0 ≤ lo.getD j 0) : colS V lo hi ps j = ps ++ [(lo.getD j 0, - V.getD j 0)] := by
  have e1 : iLt 0 (V.getD j 0) = false := iLt_not.mpr (by omega)
  have e2 : iLt 0 (-V.getD j 0) = true := iLt_iff.mpr (by omega)
  have e3 : iLe 0 (lo.getD j 0) = true := iLe_iff.mpr hh
  unfold colS addP
  rw [e1, e2, e3]
  rfl
theorem colS_none {V lo hi : List Int} {ps : List (Int × Int)} {j : Nat} (h : V.getD j 0 = 0 ∨ (V.getD j 0 < 0 ∧ lo.getD j 0 = -1)) : colS V lo hi ps j = ps := by
  rcases h with h | ⟨h, h2⟩
  · unfold colS addP
    rw [h]; rfl
  · have e1 : iLt 0 (V.getD j 0) = false := iLt_not.mpr (by omega)
    have e2 : iLt 0 (-V.getD j 0) = true := iLt_iff.mpr (by omega)
    unfold colS addP
    rw [e1, e2, h2]; rfl

theorem dl_snoc : ∀ {a b : List Int} {u v : Int}, a.length = b.length → dl (a ++ [u]) (b ++ [v]) = dl a b + u * v
  | [], [], u, v, _ => by simp [dl]
  | [], _ :: _, _, _, h => by simp at h
  | _ :: _, [], _, _, h => by simp at h
  | x :: a, y :: b, u, v, h => by
    simp only [List.cons_append, dl, dl_snoc (a := a) (b := b) (u := u) (v := v) (by simpa using h)]
    omega
theorem take_snocI {l : List Int} {j : Nat} (h : j < l.length) : l.take (j + 1) = l.take j ++ [l.getD j 0] := take_snoc h

/-- What the columns' rows add up to. -/
theorem cols_sum (h : LX M c rows goal k box ab X lo hi) {V : List Int} (hV : V.length = c) (hV9 : ∀ i, (V.getD i 0).natAbs ≤ 9) {ps0 : List (Int × Int)} (h0 : ∀ p ∈ ps0, (1 ≤ p.2 ∧ p.2 ≤ 9) ∧ 0 ≤ p.1 ∧ p.1 < ((rows.length + c + ab.length : Nat) : Int)) : ∀ j, j ≤ c →
    (∀ p ∈ iter (colS V lo hi) ps0 j, (1 ≤ p.2 ∧ p.2 ≤ 9) ∧ 0 ≤ p.1 ∧ p.1 < ((rows.length + c + ab.length : Nat) : Int)) ∧ (iter (colS V lo hi) ps0 j).length ≤ ps0.length + j ∧
    (∀ i : Nat, i < c → Sm (fun o => coefOf (D.fld (rowAt M ab o) 0) i) (iter (colS V lo hi) ps0 j) = Sm (fun o => coefOf (D.fld (rowAt M ab o) 0) i) ps0 + (if i < j then (if V.getD i 0 < 0 ∧ lo.getD i 0 = -1 then 0 else V.getD i 0) else 0)) ∧
    Sm (fun o => D.i (D.fld (rowAt M ab o) 1)) (iter (colS V lo hi) ps0 j) = Sm (fun o => D.i (D.fld (rowAt M ab o) 1)) ps0 + dl (V.take j) (X.take j) := by
  have hX : X.length = c := by rw [inB_len h.xin, h.sm.len]
  intro j
  induction j with
  | zero => intro _; exact ⟨h0, by simp [iter], fun i _ => by simp [iter], by simp [iter, dl]⟩
  | succ j ih =>
    intro hj
    obtain ⟨i1, i2, i3, i4⟩ := ih (by omega)
    obtain ⟨⟨hi0, hi1⟩, hir⟩ := h.hiR j (by omega)
    have hv9 := hV9 j
    have e : iter (colS V lo hi) ps0 (j + 1) = colS V lo hi (iter (colS V lo hi) ps0 j) j := rfl
    have edl : dl (V.take (j + 1)) (X.take (j + 1)) = dl (V.take j) (X.take j) + V.getD j 0 * X.getD j 0 := by
      rw [take_snocI (show j < V.length by omega), take_snocI (show j < X.length by omega), dl_snoc (by rw [List.length_take, List.length_take]; omega)]
    have eF : ∀ i : Nat, i < c → (if i < j + 1 then (if V.getD i 0 < 0 ∧ lo.getD i 0 = -1 then (0 : Int) else V.getD i 0) else 0) = (if i < j then (if V.getD i 0 < 0 ∧ lo.getD i 0 = -1 then 0 else V.getD i 0) else 0) + (if j = i then (if V.getD j 0 < 0 ∧ lo.getD j 0 = -1 then 0 else V.getD j 0) else 0) := fun i _ => by
      by_cases e1 : j = i
      · subst e1
        rw [if_pos (show j < j + 1 by omega), if_neg (show ¬ j < j by omega), if_pos (show j = j from rfl)]
        omega
      · rw [if_neg e1]
        by_cases e2 : i < j
        · rw [if_pos (show i < j + 1 by omega), if_pos e2]; omega
        · rw [if_neg (show ¬ i < j + 1 by omega), if_neg e2]; omega
    rw [e, edl]
    by_cases hp : 0 < V.getD j 0
    · rw [colS_pos hp hi0]
      refine ⟨fun p hq => ?_, by rw [List.length_append, List.length_singleton]; omega, fun i hic => ?_, ?_⟩
      · rcases List.mem_append.1 hq with hq | hq
        · exact i1 p hq
        · rw [List.mem_singleton.1 hq]; exact ⟨⟨by show 1 ≤ V.getD j 0; omega, by show V.getD j 0 ≤ 9; omega⟩, hi0, hi1⟩
      · rw [Sm_app, i3 i hic, Sm_one, eF i hic]
        show _ + V.getD j 0 * coefOf (D.fld (rowAt M ab (hi.getD j 0)) 0) i = _
        rw [hir]
        show _ + V.getD j 0 * coefOf (.slc [tm (j : Int) 1]) i = _
        rw [coef_one, if_neg (show ¬ (V.getD j 0 < 0 ∧ lo.getD j 0 = -1) by omega)]
        by_cases e1 : j = i
        · rw [if_pos e1, if_pos e1]; omega
        · rw [if_neg e1, if_neg e1]; omega
      · rw [Sm_app, i4, Sm_one]
        show _ + V.getD j 0 * D.i (D.fld (rowAt M ab (hi.getD j 0)) 1) = _
        rw [hir]
        show _ + V.getD j 0 * X.getD j 0 = _
        omega
    · rcases h.loR j (by omega) with ⟨hl1, hx0⟩ | ⟨⟨hl0, hl1⟩, hlr⟩
      · rw [colS_none (by omega)]
        refine ⟨i1, by omega, fun i hic => ?_, ?_⟩
        · rw [i3 i hic, eF i hic]
          by_cases hz : V.getD j 0 < 0
          · rw [if_pos (show V.getD j 0 < 0 ∧ lo.getD j 0 = -1 from ⟨hz, hl1⟩)]
            split <;> split <;> omega
          · rw [if_neg (show ¬ (V.getD j 0 < 0 ∧ lo.getD j 0 = -1) from fun h => hz h.1), show V.getD j 0 = 0 by omega]
            split <;> split <;> omega
        · rw [i4, hx0]; omega
      · by_cases hz : V.getD j 0 < 0
        · rw [colS_neg hz hl0]
          refine ⟨fun p hq => ?_, by rw [List.length_append, List.length_singleton]; omega, fun i hic => ?_, ?_⟩
          · rcases List.mem_append.1 hq with hq | hq
            · exact i1 p hq
            · rw [List.mem_singleton.1 hq]; exact ⟨⟨by show 1 ≤ - V.getD j 0; omega, by show - V.getD j 0 ≤ 9; omega⟩, hl0, hl1⟩
          · rw [Sm_app, i3 i hic, Sm_one, eF i hic]
            show _ + (- V.getD j 0) * coefOf (D.fld (rowAt M ab (lo.getD j 0)) 0) i = _
            rw [hlr]
            show _ + (- V.getD j 0) * coefOf (.slc [tm (j : Int) (-1)]) i = _
            rw [coef_one, if_neg (show ¬ (V.getD j 0 < 0 ∧ lo.getD j 0 = -1) by omega)]
            by_cases e1 : j = i
            · rw [if_pos e1, if_pos e1]; omega
            · rw [if_neg e1, if_neg e1]; omega
          · rw [Sm_app, i4, Sm_one]
            show _ + (- V.getD j 0) * D.i (D.fld (rowAt M ab (lo.getD j 0)) 1) = _
            rw [hlr]
            show _ + (- V.getD j 0) * (-(X.getD j 0 - 1) - 1) = _
            rw [show -(X.getD j 0 - 1) - 1 = - X.getD j 0 by omega, Int.neg_mul_neg]
            omega
        · have hz0 : V.getD j 0 = 0 := by omega
          rw [colS_none (.inl hz0)]
          refine ⟨i1, by omega, fun i hic => ?_, by rw [i4, hz0]; omega⟩
          rw [i3 i hic, eF i hic, hz0]
          simp only [ite_self]
          omega

/-- What has to be made up for. -/
def vecS (sg : Int) (l : D) (s : List Int) (t : Nat) : List Int := s.set (tof l t).toNat (sg * tco l t)
theorem vec_get {l : D} (hl : termsB l c 9 = true) (sg : Int) (hsg : sg = 1 ∨ sg = -1) (hX : X.length = c) : ∀ t : Nat, (t : Int) ≤ D.len l →
    (iter (vecS sg l) (List.replicate c 0) t).length = c ∧ (∀ i : Nat, i < c → (iter (vecS sg l) (List.replicate c 0) t).getD i 0 = sg * coefUp l i t) ∧ dl (iter (vecS sg l) (List.replicate c 0) t) X = sg * dotN l X t := by
  intro t
  induction t with
  | zero =>
    intro _
    refine ⟨by simp [iter], fun i hi => ?_, ?_⟩
    · show (List.replicate c (0 : Int)).getD i 0 = sg * 0
      simp [List.getD_eq_getElem?_getD, List.getElem?_replicate, hi]
    · show dl (List.replicate c 0) X = sg * 0
      rw [dl_zero]; omega
  | succ t ih =>
    intro ht
    obtain ⟨i1, i2, i3⟩ := ih (by omega)
    have htl : (t : Int) < D.len l := by omega
    have f := badT_facts (terms_at hl htl)
    obtain ⟨j, hj⟩ : ∃ j : Nat, tof l (t : Nat) = (j : Int) := ⟨(tof l (t : Nat)).toNat, by omega⟩
    have hjc : j < c := by omega
    have h0 : coefUp l (j : Int) t = 0 := coef_none t fun u hu => by
      have := terms_inc hl hu htl
      omega
    have e : iter (vecS sg l) (List.replicate c 0) (t + 1) = (iter (vecS sg l) (List.replicate c 0) t).set j (sg * tco l t) := by
      show vecS sg l _ t = _
      unfold vecS
      rw [hj, toNat_nat]
    rw [e]
    refine ⟨by rw [List.length_set]; exact i1, fun i hi => ?_, ?_⟩
    · rw [set_get, i1, coef_up, hj]
      by_cases e1 : j = i
      · subst e1
        rw [if_pos ⟨rfl, hjc⟩, iEq_iff.mpr rfl, cond_true]
      · rw [if_neg (fun h => e1 h.1), iEq_not.mpr (by omega), cond_false, i2 i hi]
    · rw [dl_set _ _ _ _ (by omega) (by omega), i3, i2 j hjc, h0, dotN_succ, hj, toNat_nat]
      rcases hsg with rfl | rfl
      · simp only [Int.one_mul, Int.sub_zero]
      · simp only [Int.neg_mul, Int.one_mul, Int.neg_zero, Int.sub_zero]
        omega
end
end Go.Ab

/- Sorting of few: equations at small lengths. -/
namespace Go.Ab
open Go.Proofs
set_option maxRecDepth 100000
theorem E158_0 (n : Nat) (Q : List D → Prop) : wpF Try.prog A (n + 1) 158 [(D.int (0 : Int))] Q = ((0 ≤ (0 : Int) ∧ (0 : Int) < 256) ∧ Q [(D.int (0 : Int))]) := by kernel_rfl
theorem E212_0 (n : Nat) (d0 d3 d4 : D) (Q : List D → Prop) : wpF Try.prog A (n + 2) 212 [d0, (D.int (0 : Int)), (D.int (0 : Int)), d3, d4] Q = wpF Try.prog A (n + 1) 219 [d0, (D.int (0 : Int)), (D.int (0 : Int)), d4] fun r1 => Q [(rs r1 0)] := by kernel_rfl
theorem E158_1 (n : Nat) (Q : List D → Prop) : wpF Try.prog A (n + 1) 158 [(D.int (1 : Int))] Q = ((0 ≤ (1 : Int) ∧ (1 : Int) < 256) ∧ Q [(D.int (1 : Int))]) := by kernel_rfl
theorem E212_1 (n : Nat) (d0 d3 d4 : D) (Q : List D → Prop) : wpF Try.prog A (n + 2) 212 [d0, (D.int (0 : Int)), (D.int (1 : Int)), d3, d4] Q = wpF Try.prog A (n + 1) 219 [d0, (D.int (0 : Int)), (D.int (1 : Int)), d4] fun r1 => Q [(rs r1 0)] := by kernel_rfl
theorem E158_2 (n : Nat) (Q : List D → Prop) : wpF Try.prog A (n + 1) 158 [(D.int (2 : Int))] Q = ((0 ≤ (2 : Int) ∧ (2 : Int) < 256) ∧ Q [(D.int (2 : Int))]) := by kernel_rfl
theorem E212_2 (n : Nat) (d0 d3 d4 : D) (Q : List D → Prop) : wpF Try.prog A (n + 2) 212 [d0, (D.int (0 : Int)), (D.int (2 : Int)), d3, d4] Q = wpF Try.prog A (n + 1) 219 [d0, (D.int (0 : Int)), (D.int (2 : Int)), d4] fun r1 => Q [(rs r1 0)] := by kernel_rfl
theorem E158_3 (n : Nat) (Q : List D → Prop) : wpF Try.prog A (n + 1) 158 [(D.int (3 : Int))] Q = ((0 ≤ (3 : Int) ∧ (3 : Int) < 256) ∧ Q [(D.int (2 : Int))]) := by kernel_rfl
theorem E212_3 (n : Nat) (d0 d3 d4 : D) (Q : List D → Prop) : wpF Try.prog A (n + 2) 212 [d0, (D.int (0 : Int)), (D.int (3 : Int)), d3, d4] Q = wpF Try.prog A (n + 1) 219 [d0, (D.int (0 : Int)), (D.int (3 : Int)), d4] fun r1 => Q [(rs r1 0)] := by kernel_rfl
theorem E158_4 (n : Nat) (Q : List D → Prop) : wpF Try.prog A (n + 1) 158 [(D.int (4 : Int))] Q = ((0 ≤ (4 : Int) ∧ (4 : Int) < 256) ∧ Q [(D.int (3 : Int))]) := by kernel_rfl
theorem E212_4 (n : Nat) (d0 d3 d4 : D) (Q : List D → Prop) : wpF Try.prog A (n + 2) 212 [d0, (D.int (0 : Int)), (D.int (4 : Int)), d3, d4] Q = wpF Try.prog A (n + 1) 219 [d0, (D.int (0 : Int)), (D.int (4 : Int)), d4] fun r1 => Q [(rs r1 0)] := by kernel_rfl
theorem E158_5 (n : Nat) (Q : List D → Prop) : wpF Try.prog A (n + 1) 158 [(D.int (5 : Int))] Q = ((0 ≤ (5 : Int) ∧ (5 : Int) < 256) ∧ Q [(D.int (3 : Int))]) := by kernel_rfl
theorem E212_5 (n : Nat) (d0 d3 d4 : D) (Q : List D → Prop) : wpF Try.prog A (n + 2) 212 [d0, (D.int (0 : Int)), (D.int (5 : Int)), d3, d4] Q = wpF Try.prog A (n + 1) 219 [d0, (D.int (0 : Int)), (D.int (5 : Int)), d4] fun r1 => Q [(rs r1 0)] := by kernel_rfl
theorem E158_6 (n : Nat) (Q : List D → Prop) : wpF Try.prog A (n + 1) 158 [(D.int (6 : Int))] Q = ((0 ≤ (6 : Int) ∧ (6 : Int) < 256) ∧ Q [(D.int (3 : Int))]) := by kernel_rfl
theorem E212_6 (n : Nat) (d0 d3 d4 : D) (Q : List D → Prop) : wpF Try.prog A (n + 2) 212 [d0, (D.int (0 : Int)), (D.int (6 : Int)), d3, d4] Q = wpF Try.prog A (n + 1) 219 [d0, (D.int (0 : Int)), (D.int (6 : Int)), d4] fun r1 => Q [(rs r1 0)] := by kernel_rfl
end Go.Ab

/- Leaves that fix all columns: what the program makes. -/
namespace Go.Ab
open Go.Proofs
attribute [local irreducible] wpF

set_option maxRecDepth 100000
section
variable {n : Nat} {Q : List D → Prop}

theorem bits_wp (hn : 2 ≤ n) {v : Nat} (h1 : v ≤ 6) (h : ∀ w, Q [w]) : wpF Try.prog A n 88 [.int (IntKind.wrap .u64 (v : Int))] Q := by
  obtain ⟨p, rfl⟩ : ∃ p, n = p + 2 := ⟨n - 2, by omega⟩
  rw [E88]
  match v, h1 with
  | 0, _ => exact (E158_0 _ _).symm ▸ ⟨by decide, h _⟩
  | 1, _ => exact (E158_1 _ _).symm ▸ ⟨by decide, h _⟩
  | 2, _ => exact (E158_2 _ _).symm ▸ ⟨by decide, h _⟩
  | 3, _ => exact (E158_3 _ _).symm ▸ ⟨by decide, h _⟩
  | 4, _ => exact (E158_4 _ _).symm ▸ ⟨by decide, h _⟩
  | 5, _ => exact (E158_5 _ _).symm ▸ ⟨by decide, h _⟩
  | 6, _ => exact (E158_6 _ _).symm ▸ ⟨by decide, h _⟩

theorem few_wp {d0 d3 d4 : D} {N : Nat} (h1 : N ≤ 6) (h : wpF Try.prog A (n + 1) 219 [d0, .int 0, .int (N : Int), d4] fun r1 => Q [rs r1 0]) : wpF Try.prog A (n + 2) 212 [d0, .int 0, .int (N : Int), d3, d4] Q := by
  match N, h1, h with
  | 0, _, h => exact (E212_0 n d0 d3 d4 Q).mpr h
  | 1, _, h => exact (E212_1 n d0 d3 d4 Q).mpr h
  | 2, _, h => exact (E212_2 n d0 d3 d4 Q).mpr h
  | 3, _, h => exact (E212_3 n d0 d3 d4 Q).mpr h
  | 4, _, h => exact (E212_4 n d0 d3 d4 Q).mpr h
  | 5, _, h => exact (E212_5 n d0 d3 d4 Q).mpr h
  | 6, _, h => exact (E212_6 n d0 d3 d4 Q).mpr h

theorem swap_list {α : Type} (A B : List α) (x y : α) : ((A ++ y :: x :: B).set (A.length + 1) y).set A.length x = A ++ x :: y :: B := by
  rw [List.set_append_right _ _ (by omega), show A.length + 1 - A.length = 1 by omega, List.set_append_right _ _ (Nat.le_refl _), Nat.sub_self]
  rfl

/-- A search for the place. -/
theorem sort_in {ps0 : List (Int × Int)} {p N i : Nat} {m0 : Nat} (hN : N ≤ 12) (hp : 10 ≤ p) (hb : ∀ q ∈ ps0, 0 ≤ q.1 ∧ q.1 ≤ 100000) (hlen : ps0.length = N) (hi : i < N) {rest : List (Int × Int)}
    (next : ∀ ws : List (Int × Int), (ws ++ rest).Perm ps0 → srt ws → L219_1 p m0 (.int 0) (.int (N : Int)) (.fn 181 []) (.int ((i : Int) + 1)) (.slc (tms (ws ++ rest))) Q) :
    ∀ (j m1 : Nat) (a z : List (Int × Int)) (x : Int × Int), a.length = j → (a ++ x :: z ++ rest).Perm ps0 → srt (a ++ z) → (∀ y ∈ z, x.1 < y.1) → j < m1 → j ≤ i →
      L219_4 p m0 m1 (.int 0) (.int (N : Int)) (.fn 181 []) (.int (i : Int)) (.int (j : Int)) (.slc (tms (a ++ x :: z ++ rest))) Q := by
  intro j
  induction j with
  | zero =>
    intro m1 a z x ha hpm hs hz hm _
    obtain ⟨m1, rfl⟩ : ∃ q, m1 = q + 1 := ⟨m1 - 1, by omega⟩
    have : a = [] := List.length_eq_zero_iff.1 ha
    subst this
    rw [L219_4_eq]
    simp only [i_int]
    refine cLt (fun c => by omega) fun _ => ?_
    rw [wrap_id (by omega) (by omega)]
    refine next (x :: z) hpm (List.pairwise_cons.2 ⟨fun y hy => by have := hz y hy; omega, hs⟩)
  | succ j ih =>
    intro m1 a z x ha hpm hs hz hm hji
    obtain ⟨m1, rfl⟩ : ∃ q, m1 = q + 1 := ⟨m1 - 1, by omega⟩
    obtain ⟨a', y, rfl⟩ : ∃ a' y, a = a' ++ [y] := by
      have hne : a ≠ [] := by intro e; rw [e] at ha; simp at ha
      exact ⟨a.dropLast, a.getLast hne, (List.dropLast_concat_getLast hne).symm⟩
    have ha' : a'.length = j := by simpa using ha
    have hl := hpm.length_eq
    rw [hlen] at hl
    have eL : a' ++ [y] ++ x :: z ++ rest = a' ++ y :: x :: (z ++ rest) := by simp
    rw [eL] at hl hpm ⊢
    have hx := hb x (hpm.mem_iff.1 (by simp))
    have hy := hb y (hpm.mem_iff.1 (by simp))
    have hlD : D.len (.slc (tms (a' ++ y :: x :: (z ++ rest)))) = (N : Int) := by rw [len_slc, tms_len, hl]
    have gx : (tms (a' ++ y :: x :: (z ++ rest))).getD (j + 1) .und = tm x.1 x.2 := by
      rw [tms_get (by omega)]
      have : (a' ++ y :: x :: (z ++ rest)).getD (j + 1) (0, 0) = x := by
        rw [← ha', List.getD_eq_getElem?_getD, List.getElem?_append_right (by omega), show a'.length + 1 - a'.length = 1 by omega]
        rfl
      rw [this]
    have gy : (tms (a' ++ y :: x :: (z ++ rest))).getD j .und = tm y.1 y.2 := by
      rw [tms_get (by omega)]
      have : (a' ++ y :: x :: (z ++ rest)).getD j (0, 0) = y := by
        rw [← ha', List.getD_eq_getElem?_getD, List.getElem?_append_right (by omega), Nat.sub_self]
        rfl
      rw [this]
    have eS : List.set (List.set (tms (a' ++ y :: x :: (z ++ rest))) (j + 1) (tm y.1 y.2)) j (tm x.1 x.2) = tms (a' ++ x :: y :: (z ++ rest)) := by
      have e1 : ∀ u v : Int × Int, tms (a' ++ u :: v :: (z ++ rest)) = tms a' ++ tm u.1 u.2 :: tm v.1 v.2 :: tms (z ++ rest) := fun u v => by simp [tms]
      have e2 : (tms a').length = j := by rw [tms_len, ha']
      rw [e1, e1, ← e2, swap_list]
    rw [L219_4_eq]
    simp only [i_int, xs_slc]
    rw [wrap_id (show -9223372036854775808 ≤ ((j + 1 : Nat) : Int) - 1 by omega) (by omega), show ((j + 1 : Nat) : Int) - 1 = (j : Int) by omega, toNat_nat, toNat_nat, gx, gy, hlD, len_slc, List.length_set, tms_len, hl, eS]
    refine cLt (fun _ => ⟨by omega, by omega, ⟨rfl, rfl, rfl, rfl⟩, ?_⟩) fun c => by omega
    obtain ⟨u, rfl⟩ : ∃ u, p = u + 1 := ⟨p - 1, by omega⟩
    show wpF Try.prog A (u + 1) 181 [tm x.1 x.2, tm y.1 y.2] _
    rw [E181]
    simp only [rs0, i_int, tm, fld0]
    rw [wrap_id (by omega) (by omega)]
    refine cLt (fun c => ⟨by omega, by omega, by omega, trivial, by omega, trivial, ?_⟩) fun c => ?_
    · have := ih m1 a' (y :: z) x ha' ?_ ?_ ?_ (by omega) (by omega)
      · have e3 : a' ++ x :: y :: z ++ rest = a' ++ x :: y :: (z ++ rest) := by simp
        rw [e3] at this
        exact this
      · have e3 : a' ++ x :: y :: z ++ rest = a' ++ x :: y :: (z ++ rest) := by simp
        rw [e3]
        exact (List.Perm.append_left a' (List.Perm.swap y x _)).trans hpm
      · have e4 : a' ++ [y] ++ z = a' ++ y :: z := by simp
        rwa [e4] at hs
      · intro w hw
        rcases List.mem_cons.1 hw with rfl | hw
        · omega
        · exact hz w hw
    · rw [wrap_id (by omega) (by omega)]
      have e5 : a' ++ y :: x :: (z ++ rest) = (a' ++ [y] ++ x :: z) ++ rest := by simp
      have := next (a' ++ [y] ++ x :: z) (by rw [← e5]; exact hpm) ?_
      · rw [← e5] at this
        exact this
      · have hs2 := List.pairwise_append.1 hs
        refine List.pairwise_append.2 ⟨hs2.1, List.pairwise_cons.2 ⟨fun w hw => by have := hz w hw; omega, hs2.2.1⟩, fun v hv w hw => ?_⟩
        have hvy : v.1 ≤ y.1 := by
          have h1 := List.pairwise_append.1 hs2.1
          rcases List.mem_append.1 hv with hv | hv
          · exact h1.2.2 v hv y (by simp)
          · rw [List.mem_singleton.1 hv]; omega
        rcases List.mem_cons.1 hw with rfl | hw
        · omega
        · exact hs2.2.2 v hv w hw

/-- SORTING. -/
theorem sort_wp {ps : List (Int × Int)} (hl : ps.length ≤ 6) (hb : ∀ q ∈ ps, 0 ≤ q.1 ∧ q.1 ≤ 100000) (hn : 100 ≤ n) (h : ∀ qs : List (Int × Int), qs.Perm ps → srt qs → Q [.slc (tms qs)]) :
    wpF Try.prog A n 180 [.slc (tms ps), .fn 181 []] Q := by
  obtain ⟨p, rfl⟩ : ∃ p, n = p + 3 := ⟨n - 3, by omega⟩
  rw [E180, len_slc, tms_len]
  refine bits_wp (by omega) hl fun w => ?_
  rw [rs0]
  refine few_wp hl ?_
  rw [E219]
  simp only [rs0, i_int]
  rw [wrap_id (by omega) (by omega)]
  have outer : ∀ (r i m0 : Nat) (ws rest : List (Int × Int)), (ws ++ rest).Perm ps → srt ws → ws.length = i → ps.length - i = r → 1 ≤ i → r < m0 → (ps.length ≤ i → rest = []) → L219_1 p m0 (.int 0) (.int (ps.length : Int)) (.fn 181 []) (.int (i : Int)) (.slc (tms (ws ++ rest))) (fun r1 => Q [rs r1 0]) := by
    intro r
    induction r with
    | zero =>
      intro i m0 ws rest hpm hs hws hr h1 hm hre
      obtain ⟨m0, rfl⟩ : ∃ q, m0 = q + 1 := ⟨m0 - 1, by omega⟩
      rw [L219_1_eq]
      simp only [i_int]
      refine cLt (fun c => by omega) fun _ => ?_
      have e := hre (by omega)
      subst e
      rw [List.append_nil] at hpm ⊢
      exact h ws hpm hs
    | succ r ih =>
      intro i m0 ws rest hpm hs hws hr h1 hm hre
      obtain ⟨m0, rfl⟩ : ∃ q, m0 = q + 1 := ⟨m0 - 1, by omega⟩
      have hlen := hpm.length_eq
      rw [List.length_append] at hlen
      obtain ⟨x, rest, rfl⟩ : ∃ x t, rest = x :: t := by
        cases rest with
        | nil => simp at hlen; omega
        | cons x t => exact ⟨x, t, rfl⟩
      rw [L219_1_eq]
      simp only [i_int]
      refine cLt (fun _ => ?_) fun c => by omega
      have := sort_in (ps0 := ps) (p := p) (N := ps.length) (i := i) (m0 := m0) (Q := fun r1 => Q [rs r1 0]) (by omega) (by omega) hb rfl (by omega) (rest := rest) (fun vs hvp hvs => ?_) i p ws [] x hws (by simpa using hpm) (by simpa using hs) (fun y hy => by cases hy) (by omega) (Nat.le_refl _)
      · simpa using this
      · have hvl := hvp.length_eq
        rw [List.length_append] at hvl
        simp only [List.length_cons] at hlen
        exact ih (i + 1) m0 vs rest hvp hvs (by omega) (by omega) (by omega) (by omega) fun hle => List.length_eq_zero_iff.1 (by omega)
  cases ps with
  | nil =>
    obtain ⟨q, rfl⟩ : ∃ q, p = q + 1 := ⟨p - 1, by omega⟩
    rw [L219_1_eq]
    simp only [i_int]
    refine cLt (fun c => by simp at c) fun _ => h [] (List.Perm.refl _) List.Pairwise.nil
  | cons x ps =>
    exact outer ps.length 1 p [x] ps (List.Perm.refl _) (List.pairwise_singleton _ _) rfl (by simp) (Nat.le_refl _) (by simp at hl; omega) fun hle => by
      simp at hle
      exact hle

theorem add_wp {ps : List (Int × Int)} {row co : Int} {den : D} (hl : ps.length ≤ 100) (hn : 1 ≤ n) (h : Q [leafC (tms (addP ps row co)) den]) : wpF Try.prog A n 179 [.int row, .int co, leafC (tms ps) den] Q := by
  obtain ⟨p, rfl⟩ : ∃ p, n = p + 1 := ⟨n - 1, by omega⟩
  rw [E179]
  unfold addP at h
  simp only [i_int]
  refine cnd (fun c1 => ?_) fun c1 => ?_
  · rw [c1, cond_true] at h
    refine cnd (fun c2 => ?_) fun c2 => ?_
    · rw [c2, cond_true, tms_app] at h
      refine ⟨?_, trivial, h⟩
      show room (((tms ps).length : Int) + 1) 16
      rw [tms_len]; unfold room; omega
    · rw [c2, cond_false] at h; exact h
  · rw [c1, cond_false] at h; exact h
end
end Go.Ab

/- Leaves that fix all columns: the program's leaf is good. -/
namespace Go.Ab
open Go.Proofs
attribute [local irreducible] wpF
set_option maxRecDepth 100000

theorem cndL {c : Bool} {a b : List (Int × Int)} {N : Nat} (h1 : c = true → a.length ≤ N) (h2 : c = false → b.length ≤ N) : (cond c a b).length ≤ N := by
  cases c
  · exact h2 rfl
  · exact h1 rfl
theorem lst_getD {s : List Int} {j : Nat} (h : j < s.length) : List.getD (D.xs (lst s)) j D.und = .int (s.getD j 0) := el_lst s j h
theorem xs_lst_len (s : List Int) : (D.xs (lst s)).length = s.length := by simp [lst, D.xs]

/-- The builder's state. -/
def bst (M most : D) (lo hi X : List Int) (L : List D) : D := .agg [M, most, lst lo, lst hi, lst X, .slc L]

section
variable {n : Nat} {Q : List D → Prop} {M : D} {c : Nat} {rows goal : List D} {k : Int} {box : List Int} {ab : List D} {X lo hi : List Int}

/-- What is put together of a sorted list. -/
theorem merge_wp {p : Nat} {qs : List (Int × Int)} {den most : D} {L : List D} (hl : qs.length ≤ 10) (hs : srt qs) (hq : ∀ q ∈ qs, 1 ≤ q.2 ∧ q.2 ≤ 9) (hL : L.length ≤ 100000) (hp : 100 ≤ p)
    (h : ∀ acc, Mrg acc qs → Q [bst M most lo hi X (L ++ [leafC (tms acc) den])]) :
    L119_26 p p (.int (qs.length : Int)) (.int 0) (bst M most lo hi X L) (leafC (tms qs) den) (.slc []) Q := by
  have key : ∀ (r t m0 : Nat) (acc : List (Int × Int)), qs.length - t = r → t ≤ qs.length → r < m0 → Mrg acc (qs.take t) → L119_26 p m0 (.int (qs.length : Int)) (.int (t : Int)) (bst M most lo hi X L) (leafC (tms qs) den) (.slc (tms acc)) Q := by
    intro r
    induction r with
    | zero =>
      intro t m0 acc hr ht hm hM
      obtain ⟨m0, rfl⟩ : ∃ q, m0 = q + 1 := ⟨m0 - 1, by omega⟩
      rw [L119_26_eq]
      simp only [i_int]
      refine cLt (fun c => by omega) fun _ => ⟨trivial, ?_, trivial, ?_⟩
      · show room ((L.length : Int) + 1) 80
        unfold room; omega
      · have e : t = qs.length := by omega
        rw [e, List.take_length] at hM
        exact h acc hM
    | succ r ih =>
      intro t m0 acc hr ht hm hM
      obtain ⟨m0, rfl⟩ : ∃ q, m0 = q + 1 := ⟨m0 - 1, by omega⟩
      have htl : t < qs.length := by omega
      have hmem : qs.getD t (0, 0) ∈ qs := getD_mem htl
      have htake : qs.take (t + 1) = qs.take t ++ [qs.getD t (0, 0)] := take_snoc htl
      have hstep : Mrg (mrg acc (qs.getD t (0, 0))) (qs.take (t + 1)) := by
        rw [htake]
        refine hM.step (fun q hq' => ?_) (hq _ hmem).1
        have : srt (qs.take (t + 1)) := List.Pairwise.sublist (List.take_sublist _ _) hs
        rw [htake] at this
        exact (List.pairwise_append.1 this).2.2 q hq' _ (by simp)
      have ih := ih (t + 1) m0 (mrg acc (qs.getD t (0, 0))) (by omega) (by omega) (by omega) hstep
      have hal := hM.len
      have htl2 : (qs.take t).length ≤ 10 := Nat.le_trans (List.length_take_le _ _) (by omega)
      have gq : List.getD (D.xs (D.fld (leafC (tms qs) den) 4)) t D.und = tm (qs.getD t (0, 0)).1 (qs.getD t (0, 0)).2 := tms_get htl
      have hq1 := hq _ hmem
      rw [L119_26_eq]
      simp only [i_int, toNat_nat]
      rw [gq]
      generalize hz : qs.getD t (0, 0) = z at ih hstep hq1 ⊢
      have e4 : D.len (D.fld (leafC (tms qs) den) 4) = (qs.length : Int) := by
        show D.len (.slc (tms qs)) = _
        rw [len_slc, tms_len]
      rw [e4, wrap_id (show -9223372036854775808 ≤ (t : Int) + 1 by omega) (by omega)]
      refine cLt (fun _ => ⟨by omega, trivial, ?_⟩) fun c => by omega
      rw [len_slc, tms_len, xs_slc, tms_len]
      rcases List.eq_nil_or_concat acc with rfl | ⟨a, y, rfl⟩
      · refine cLt (fun c => by simp at c) fun _ => ⟨by unfold room; simp only [List.length_nil, List.length_singleton]; omega, ?_⟩
        rw [mrg_nil] at ih
        exact ih
      · rw [List.concat_eq_append] at *
        have hy1 := hM.co y (by simp)
        have hy2 : y.2 ≤ 90 := by
          have h1 := Sm_const hM.co y (by simp)
          rw [hM.sum] at h1
          have h2 := Sm_bd (f := fun _ => 1) (A := 9) (B := 1) (ps := qs.take t) fun q hq' => by
            have := hq q (List.mem_of_mem_take hq')
            exact ⟨by omega, by decide⟩
          have h3 : (qs.take t).length * (9 * 1) ≤ 10 * (9 * 1) := Nat.mul_le_mul_right _ htl2
          omega
        have ela : (a ++ [y]).length = a.length + 1 := by simp
        rw [ela, show ((a.length + 1 : Nat) : Int) = (a.length : Int) + 1 by omega]
        have halt : a.length ≤ 10 := by rw [ela] at hal; omega
        rw [wrap_id (show -9223372036854775808 ≤ (a.length : Int) + 1 - 1 by omega) (by omega), show (a.length : Int) + 1 - 1 = (a.length : Int) by omega, toNat_nat]
        have gy : (tms (a ++ [y])).getD a.length D.und = tm y.1 y.2 := by
          rw [tms_get (by omega)]
          have : (a ++ [y]).getD a.length (0, 0) = y := by
            rw [List.getD_eq_getElem?_getD, List.getElem?_append_right (Nat.le_refl _), Nat.sub_self]; rfl
          rw [this]
        rw [gy]
        simp only [tm, fld0, fldS, i_int]
        refine cLt (fun _ => ⟨by omega, ?_⟩) fun c => by omega
        rw [mrg_snoc] at ih
        refine cEq (fun e => ⟨by omega, by omega, trivial, ?_⟩) fun e => ⟨by unfold room; simp only [List.length_singleton]; omega, ?_⟩
        · rw [if_pos e] at ih
          rw [wrap_id (show -9223372036854775808 ≤ y.2 + z.2 by omega) (by omega)]
          have e5 : List.set (tms (a ++ [y])) a.length (.agg [.int y.1, .int (y.2 + z.2)]) = tms (a ++ [(y.1, y.2 + z.2)]) := by
            rw [tms_app, tms_app]
            have e2 : (tms a).length = a.length := tms_len a
            rw [← e2, List.set_append_right _ _ (Nat.le_refl _), Nat.sub_self]
            rfl
          rw [e5]
          exact ih
        · rw [if_neg e] at ih
          rw [tms_app (a ++ [y]) [z]] at ih
          exact ih
  have := key qs.length 0 p [] (by omega) (by omega) (by omega) ⟨List.Pairwise.nil, (fun _ => rfl), (fun _ h => by cases h), (fun _ h => by cases h), by simp⟩
  exact this

/-- From the columns' numbers on. -/
theorem tail_wp (hX : LX M c rows goal k box ab X lo hi) {w : Int} {p : Nat} {V : List Int} {ps0 : List (Int × Int)} {den : Int} {most : D} {L : List D} (hV : V.length = c) (hV9 : ∀ i, (V.getD i 0).natAbs ≤ 9)
    (h0 : ∀ p ∈ ps0, (1 ≤ p.2 ∧ p.2 ≤ 9) ∧ 0 ≤ p.1 ∧ p.1 < ((rows.length + c + ab.length : Nat) : Int)) (h0l : ps0.length ≤ 1) (hL : L.length ≤ 100000) (hp : 1000 ≤ p)
    (hsum : ∀ i : Nat, i < c → den * coefOf (D.fld M 2) i ≤ Sm (fun o => coefOf (D.fld (rowAt M ab o) 0) i) ps0 + (if V.getD i 0 < 0 ∧ lo.getD i 0 = -1 then 0 else V.getD i 0))
    (hval : (den = 1 ∧ k + (Sm (fun o => D.i (D.fld (rowAt M ab o) 1)) ps0 + dl V X) ≤ w) ∨ (den = 0 ∧ Sm (fun o => D.i (D.fld (rowAt M ab o) 1)) ps0 + dl V X < 0))
    (h : ∀ cs, Good M w ab (.lf cs) → Q [bst M most lo hi X (L ++ [cs])]) :
    L119_18 p p (.int (c : Int)) (.int 0) (bst M most lo hi X L) (leafC (tms ps0) (.int den)) (lst V) Q := by
  have hcc := hX.sm.cols
  have hfew := hX.sm.few
  have hab := hX.few
  have hlol := hX.lol
  have hhil := hX.hil
  have hXl : X.length = c := by rw [inB_len hX.xin, hX.sm.len]
  have hcs := cols_sum hX hV hV9 h0
  have key : ∀ (m0 j : Nat), j ≤ c → c - j < m0 → L119_18 p m0 (.int (c : Int)) (.int (j : Int)) (bst M most lo hi X L) (leafC (tms (iter (colS V lo hi) ps0 j)) (.int den)) (lst V) Q := by
    intro m0
    induction m0 with
    | zero => intro j _ h; omega
    | succ m0 ih =>
      intro j h1 h2
      rw [L119_18_eq]
      simp only [i_int, toNat_nat]
      obtain ⟨c1, c2, c3, c4⟩ := hcs j h1
      refine cLt (fun hj => ?_) fun hj => ?_
      · have hj' : j < c := by omega
        have g3 : List.getD (D.xs (D.fld (bst M most lo hi X L) 3)) j D.und = .int (hi.getD j 0) := lst_getD (s := hi) (by omega)
        have g2 : List.getD (D.xs (D.fld (bst M most lo hi X L) 2)) j D.und = .int (lo.getD j 0) := lst_getD (s := lo) (by omega)
        have l3 : D.len (D.fld (bst M most lo hi X L) 3) = (c : Int) := by show D.len (lst hi) = _; rw [len_lst, hhil]
        have l2 : D.len (D.fld (bst M most lo hi X L) 2) = (c : Int) := by show D.len (lst lo) = _; rw [len_lst, hlol]
        rw [g3, g2, l3, l2, lst_getD (by omega), len_lst, hV]
        have hv9 := hV9 j
        refine ⟨by omega, by omega, add_wp (by omega) (by omega) ⟨by omega, ?_⟩⟩
        rw [rs0, i_int, wrap_id (show -9223372036854775808 ≤ 0 - V.getD j 0 by omega) (by omega), show (0 : Int) - V.getD j 0 = - V.getD j 0 by omega]
        refine add_wp (by
          have : (addP (iter (colS V lo hi) ps0 j) (hi.getD j 0) (V.getD j 0)).length ≤ (iter (colS V lo hi) ps0 j).length + 1 := by
            unfold addP
            refine cndL (fun _ => cndL (fun _ => by simp) fun _ => by omega) fun _ => by omega
          omega) (by omega) ?_
        rw [rs0, wrap_id (by omega) (by omega), show ((j : Int) + 1) = ((j + 1 : Nat) : Int) by omega]
        exact ih (j + 1) (by omega) (by omega)
      · have e : j = c := by omega
        subst e
        refine sort_wp (by omega) (fun q hq => by have := c1 q hq; omega) (by omega) fun qs hpm hs => ?_
        have hqm : ∀ q ∈ qs, (1 ≤ q.2 ∧ q.2 ≤ 9) ∧ 0 ≤ q.1 ∧ q.1 < ((rows.length + j + ab.length : Nat) : Int) := fun q hq => c1 q (hpm.mem_iff.1 hq)
        have hql := hpm.length_eq
        rw [rs0, len_slc, tms_len]
        refine merge_wp (by omega) hs (fun q hq => (hqm q hq).1) hL (by omega) fun acc hM => h _ ?_
        have hsm : ∀ f, Sm f acc = Sm f (iter (colS V lo hi) ps0 j) := fun f => (hM.sum f).trans (Sm_perm f hpm)
        have hal := hM.len
        refine good_of hX hM.inc (fun q hq => ⟨hM.co q hq, ?_⟩) (by omega) (fun q hq => ?_) (fun i hi => ?_) ?_
        · have h1 := Sm_const hM.co q hq
          rw [hsm] at h1
          have h2 := Sm_bd (f := fun _ => 1) (A := 9) (B := 1) (ps := iter (colS V lo hi) ps0 j) fun q hq' => by
            have := c1 q hq'
            exact ⟨by omega, by decide⟩
          have h3 : (iter (colS V lo hi) ps0 j).length * (9 * 1) ≤ 10 * (9 * 1) := Nat.mul_le_mul_right _ (by omega)
          omega
        · obtain ⟨z, hz, e⟩ := hM.pl q hq
          have := hqm z hz
          omega
        · rw [hsm, c3 i hi, if_pos hi]
          exact hsum i hi
        · rw [hsm, c4, List.take_of_length_le (by omega), List.take_of_length_le (by omega)]
          exact hval
  exact key p 0 (by omega) (by omega)

/-- THE PROGRAM's LEAF. -/
theorem leaf_wp (hX : LX M c rows goal k box ab X lo hi) {w : Int} {most : D} {L : List D} (hL : L.length ≤ 100000) (hw : ∀ v, valO M X = some v → v ≤ w) (hn : 2000 ≤ n)
    (h : ∀ cs, Good M w ab (.lf cs) → Q [bst M most lo hi X (L ++ [cs])]) : wpF Try.prog A n 119 [bst M most lo hi X L] Q := by
  obtain ⟨p, rfl⟩ : ∃ p, n = p + 1 := ⟨n - 1, by omega⟩
  rw [E119]
  have hcc := hX.sm.cols
  have hfew := hX.sm.few
  have hg := hX.sm.goal
  have hXl : X.length = c := by rw [inB_len hX.xin, hX.sm.len]
  have hXv := inB_box hX.xin hX.sm.box
  have f0 : D.fld (bst M most lo hi X L) 0 = M := rfl
  have f4 : D.fld (bst M most lo hi X L) 4 = lst X := rfl
  have e0 : D.fld M 0 = .int (c : Int) := by rw [hX.sm.eq]; rfl
  have e1 : D.fld M 1 = .slc (rows ++ boxR box c) := by rw [hX.sm.eq]; rfl
  have e2 : D.fld M 2 = .slc goal := by rw [hX.sm.eq]; rfl
  have e3 : D.i (D.fld M 3) = k := by rw [hX.sm.eq]; rfl
  have hrl := hX.sm.rlen
  rw [f0, f4, e0]
  simp only [i_int, toNat_nat]
  have hz : D.slc (List.replicate c (.int 0)) = lst (List.replicate c 0) := by simp [lst]
  rw [hz]
  refine ⟨trivial, ⟨by omega, by omega, by unfold room; omega⟩, broken_wp hX.sm hXl hXv (by omega) (fun hf => ?_) fun r hr hb => ?_⟩
  · -- the columns obey all rows
    rw [rs0, i_int]
    refine cLe (fun c => by omega) fun _ => ?_
    rw [e2]
    have hgl := terms_len hg (by omega)
    have key : ∀ (m0 t : Nat), t ≤ goal.length → goal.length - t < m0 → L119_13 p m0 (.slc goal) (.int (D.len (.slc goal))) (.int (t : Int)) (bst M most lo hi X L) (leafC (tms []) (.int 1)) (lst (iter (vecS 1 (.slc goal)) (List.replicate c 0) t)) Q := by
      intro m0
      induction m0 with
      | zero => intro t _ h; omega
      | succ m0 ih =>
        intro t h1 h2
        obtain ⟨v1, v2, v3⟩ := vec_get (c := c) hg 1 (.inl rfl) hXl t (by rw [len_slc]; omega)
        rw [L119_13_eq]
        simp only [i_int]
        refine cLt (fun ht => ?_) fun ht => ?_
        · have f := badT_facts (terms_at hg ht)
          have eo : D.i (D.fld (D.el (.slc goal) (t : Int)) 0) = tof (.slc goal) t := rfl
          have ec : D.fld (D.el (.slc goal) (t : Int)) 1 = .int (1 * tco (.slc goal) t) := by
            obtain ⟨a, b, e⟩ := hX.sm.gfl _ (el_mem (d := .slc goal) (i := t) ht)
            unfold tco
            rw [e, Int.one_mul]
            rfl
          rw [eo, ec, len_lst, v1, lst_set34, wrap_id (by omega) (by omega), show ((t : Int) + 1) = ((t + 1 : Nat) : Int) by omega]
          have ht' := ht
          rw [len_slc] at ht'
          have ih := ih (t + 1) (by omega) (by omega)
          exact ⟨⟨by omega, ht⟩, trivial, ⟨by omega, by omega⟩, trivial, ih⟩
        · rw [len_slc] at ht
          have e : t = goal.length := by omega
          subst e
          rw [len_lst, v1]
          have hdot : dotN (.slc goal) X goal.length = dot (.slc goal) X := by unfold dot; rw [len_slc, toNat_nat]
          have hco : ∀ i : Nat, coefUp (.slc goal) i goal.length = coefOf (.slc goal) i := fun i => by unfold coefOf; rw [len_slc, toNat_nat]
          refine tail_wp hX v1 (fun i => ?_) (fun p hp => by cases hp) (by simp) hL (by omega) (fun i hi => ?_) (.inl ⟨rfl, ?_⟩) h
          · by_cases hi : i < c
            · rw [v2 i hi, Int.one_mul]
              exact coef_bd hg i _ (by rw [len_slc]; omega)
            · rw [List.getD_eq_getElem?_getD, List.getElem?_eq_none (by omega)]
              simp
          · rw [v2 i hi, hco, e2]
            show _ ≤ (0 : Int) + _
            split <;> omega
          · rw [v3, hdot]
            have := hw _ (valO_feas hf)
            rw [e3, e2] at this
            show k + (0 + 1 * dot (.slc goal) X) ≤ w
            omega
    exact key p 0 (by omega) (by rw [len_slc] at hgl; omega)
  · -- a row is broken
    rw [rs0, i_int]
    refine cLe (fun _ => ⟨trivial, ?_⟩) fun c => by omega
    refine add_wp (ps := []) (by simp) (by omega) ?_
    have ea : addP [] (r : Int) 1 = [((r : Int), 1)] := by
      unfold addP
      rw [iLe_iff.mpr (show (0 : Int) ≤ (r : Int) by omega)]
      rfl
    rw [ea, rs0, e1]
    obtain ⟨s, mo, e, h4, h5, h6⟩ := hX.sm.all _ (el_mem (d := .slc (rows ++ boxR box c)) (i := r) (by rw [len_slc]; omega))
    unfold badR at hb
    rw [e1, e, iLt_iff] at hb
    rw [e]
    simp only [fld0, fldS, i_int] at hb ⊢
    have hsl := terms_len h4 (by omega)
    have hrowr : rowAt M ab (r : Int) = .agg [.slc s, .int mo] := by
      unfold rowAt
      rw [e1, len_slc, iLt_iff.mpr (by omega), cond_true, e]
    refine ⟨⟨by omega, by rw [len_slc]; omega⟩, ?_⟩
    have key : ∀ (m0 t : Nat), t ≤ s.length → s.length - t < m0 → L119_8 p m0 (.slc s) (.int (D.len (.slc s))) (.int (t : Int)) (bst M most lo hi X L) (leafC (tms [((r : Int), 1)]) (.int 0)) (lst (iter (vecS (-1) (.slc s)) (List.replicate c 0) t)) Q := by
      intro m0
      induction m0 with
      | zero => intro t _ h; omega
      | succ m0 ih =>
        intro t h1 h2
        obtain ⟨v1, v2, v3⟩ := vec_get (c := c) h4 (-1) (.inr rfl) hXl t (by rw [len_slc]; omega)
        rw [L119_8_eq]
        simp only [i_int]
        refine cLt (fun ht => ?_) fun ht => ?_
        · have f := badT_facts (terms_at h4 ht)
          have eo : D.i (D.fld (D.el (.slc s) (t : Int)) 0) = tof (.slc s) t := rfl
          have ec : D.i (D.fld (D.el (.slc s) (t : Int)) 1) = tco (.slc s) t := rfl
          rw [eo, ec, wrap_id (show -9223372036854775808 ≤ 0 - tco (.slc s) t by omega) (by omega), show (0 : Int) - tco (.slc s) t = -1 * tco (.slc s) t by omega, len_lst, v1, lst_set34, wrap_id (by omega) (by omega), show ((t : Int) + 1) = ((t + 1 : Nat) : Int) by omega]
          have ht' := ht
          rw [len_slc] at ht'
          have ih := ih (t + 1) (by omega) (by omega)
          exact ⟨⟨by omega, ht⟩, trivial, ⟨by omega, by omega⟩, trivial, ih⟩
        · rw [len_slc] at ht
          have e : t = s.length := by omega
          subst e
          rw [len_lst, v1]
          have hdot : dotN (.slc s) X s.length = dot (.slc s) X := by unfold dot; rw [len_slc, toNat_nat]
          have hco : ∀ i : Nat, coefUp (.slc s) i s.length = coefOf (.slc s) i := fun i => by unfold coefOf; rw [len_slc, toNat_nat]
          refine tail_wp hX v1 (fun i => ?_) (fun p hp => ?_) (by simp) hL (by omega) (fun i hi => ?_) (.inr ⟨rfl, ?_⟩) h
          · by_cases hi : i < c
            · rw [v2 i hi]
              have := coef_bd h4 i s.length (by rw [len_slc]; omega)
              omega
            · rw [List.getD_eq_getElem?_getD, List.getElem?_eq_none (by omega)]
              simp
          · rw [List.mem_singleton.1 hp]
            exact ⟨⟨by show (1 : Int) ≤ 1; omega, by show (1 : Int) ≤ 9; omega⟩, by show (0 : Int) ≤ (r : Int); omega, by show (r : Int) < _; omega⟩
          · rw [v2 i hi, hco, Sm_one]
            show 0 * coefOf (D.fld M 2) i ≤ 1 * coefOf (D.fld (rowAt M ab (r : Int)) 0) i + _
            rw [hrowr]
            show 0 * coefOf (D.fld M 2) i ≤ 1 * coefOf (.slc s) i + _
            split <;> omega
          · rw [v3, hdot, Sm_one]
            show 1 * D.i (D.fld (rowAt M ab (r : Int)) 1) + _ < 0
            rw [hrowr]
            show 1 * mo + -1 * dot (.slc s) X < 0
            omega
    exact key p 0 (by omega) (by rw [len_slc] at hsl; omega)
end
end Go.Ab

/- The builder's tree is good. -/
namespace Go.Ab
open Go.Proofs
attribute [local irreducible] wpF
set_option maxRecDepth 100000

theorem setI {l : List Int} {i j : Nat} {x : Int} (h : i < l.length) : (l.set i x).getD j 0 = if i = j then x else l.getD j 0 := by
  rw [set_get]
  by_cases e : i = j
  · rw [if_pos ⟨e, h⟩, if_pos e]
  · rw [if_neg (fun q => e q.1), if_neg e]
theorem set_backI {l : List Int} {j : Nat} {a : Int} (h : j < l.length) : (l.set j a).set j (l.getD j 0) = l := by
  rw [List.set_set]
  simp [List.getD_eq_getElem?_getD, h]
theorem get_at {α : Type} (L T : List α) (x d : α) : (L ++ x :: T).getD L.length d = x := by
  rw [List.getD_eq_getElem?_getD, List.getElem?_append_right (Nat.le_refl _), Nat.sub_self]
  rfl
theorem set_at {α : Type} (L T : List α) (x y : α) : (L ++ x :: T).set L.length y = L ++ y :: T := by
  rw [List.set_append_right _ _ (Nat.le_refl _), Nat.sub_self]
  rfl

/-- Columns before 'j' are fixed, those behind it are free. -/
structure BC (M : D) (c : Nat) (rows goal : List D) (k : Int) (box : List Int) (ab : List D) (X lo hi : List Int) (j : Nat) : Prop where
  sm : SM M c rows goal k box
  abok : ∀ x ∈ ab, SRo c x
  xl : X.length = c
  lol : lo.length = c
  hil : hi.length = c
  xin : ∀ i, i < j → 0 ≤ X.getD i 0 ∧ X.getD i 0 ≤ box.getD i 0
  hiR : ∀ i, i < j → (0 ≤ hi.getD i 0 ∧ hi.getD i 0 < ((rows.length + c + ab.length : Nat) : Int)) ∧ rowAt M ab (hi.getD i 0) = upR i (X.getD i 0)
  loR : ∀ i, i < j → (lo.getD i 0 = -1 ∧ X.getD i 0 = 0) ∨ ((0 ≤ lo.getD i 0 ∧ lo.getD i 0 < ((rows.length + c + ab.length : Nat) : Int)) ∧ rowAt M ab (lo.getD i 0) = dnR i (X.getD i 0 - 1))
  hi0 : ∀ i, j < i → i < c → hi.getD i 0 = ((rows.length + i : Nat) : Int)
  lo0 : ∀ i, j < i → i < c → lo.getD i 0 = -1

theorem inB_of : ∀ {bx X : List Int}, X.length = bx.length → (∀ i, i < bx.length → 0 ≤ X.getD i 0 ∧ X.getD i 0 ≤ bx.getD i 0) → inB bx X
  | [], [], _, _ => trivial
  | [], _ :: _, h, _ => by simp at h
  | _ :: _, [], h, _ => by simp at h
  | m :: bx, v :: X, h, hv => ⟨(hv 0 (by simp)).1, (hv 0 (by simp)).2, inB_of (by simpa using h) fun i hi => by have := hv (i + 1) (by simpa using hi); simpa using this⟩

/-- How many cases there are, and one more. -/
def szB (c j : Nat) (v : Int) : Nat := if j < c then 2 * (4 - v.toNat) * 4 ^ (c - j - 1) else 2
theorem szB_next {c j : Nat} (h : j < c) : szB c (j + 1) 0 ≤ 2 * 4 ^ (c - j - 1) := by
  unfold szB
  by_cases e : j + 1 < c
  · rw [if_pos e, show c - j - 1 = (c - (j + 1) - 1) + 1 by omega, Nat.pow_succ]
    simp only [Int.toNat_zero]
    omega
  · rw [if_neg e]
    have : 1 ≤ 4 ^ (c - j - 1) := Nat.one_le_pow _ _ (by omega)
    omega
theorem szB_stay {c j : Nat} {v : Int} (h : j < c) (h0 : 0 ≤ v) (h1 : v ≤ 3) : 2 * 4 ^ (c - j - 1) ≤ szB c j v := by
  unfold szB
  rw [if_pos h]
  exact Nat.mul_le_mul_right _ (by omega)
theorem szB_split {c j : Nat} {v : Int} (h : j < c) (h0 : 0 ≤ v) (h1 : v < 3) : 2 * 4 ^ (c - j - 1) + szB c j (v + 1) = szB c j v := by
  unfold szB
  rw [if_pos h, if_pos h, ← Nat.add_mul]
  congr 1
  omega

section
variable {n : Nat} {M : D} {c : Nat} {rows goal : List D} {k : Int} {box : List Int}

theorem rowAt_snoc (hs : SM M c rows goal k box) {ab : List D} {x : D} {o : Int} (h0 : 0 ≤ o) (h1 : o < ((rows.length + c + ab.length : Nat) : Int)) : rowAt M (ab ++ [x]) o = rowAt M ab o := by
  have e1 : D.len (D.fld M 1) = ((rows.length + c : Nat) : Int) := by
    have : D.fld M 1 = .slc (rows ++ boxR box c) := by rw [hs.eq]; rfl
    rw [this, len_slc, hs.rlen]
  unfold rowAt
  rw [e1]
  cases e : iLt o ((rows.length + c : Nat) : Int) with
  | true => rfl
  | false =>
    rw [iLt_not] at e
    obtain ⟨q, hq⟩ : ∃ q : Nat, o - ((rows.length + c : Nat) : Int) = q := ⟨(o - ((rows.length + c : Nat) : Int)).toNat, by omega⟩
    simp only [cond_false]
    rw [hq]
    exact xs_get_app (by omega)
theorem rowAt_new (hs : SM M c rows goal k box) {ab : List D} {x : D} : rowAt M (ab ++ [x]) ((rows.length + c + ab.length : Nat) : Int) = x := by
  have e1 : D.len (D.fld M 1) = ((rows.length + c : Nat) : Int) := by
    have : D.fld M 1 = .slc (rows ++ boxR box c) := by rw [hs.eq]; rfl
    rw [this, len_slc, hs.rlen]
  unfold rowAt
  rw [e1, iLt_not.mpr (by omega), cond_false, show ((rows.length + c + ab.length : Nat) : Int) - ((rows.length + c : Nat) : Int) = (ab.length : Int) by omega]
  exact xs_get_new
theorem rowAt_box (hs : SM M c rows goal k box) {ab : List D} {i : Nat} (hi : i < c) : rowAt M ab ((rows.length + i : Nat) : Int) = upR i (box.getD i 0) := by
  have e1 : D.fld M 1 = .slc (rows ++ boxR box c) := by rw [hs.eq]; rfl
  unfold rowAt
  rw [e1, len_slc, hs.rlen, iLt_iff.mpr (by omega), cond_true]
  show (rows ++ boxR box c).getD (rows.length + i) .und = _
  rw [List.getD_eq_getElem?_getD, List.getElem?_append_right (by omega), Nat.add_sub_cancel_left]
  have := boxR_len box c
  simp [boxR, hi, upR]

theorem up_sro {j : Nat} {v : Int} (h : j < c) (h0 : 0 ≤ v) (h1 : v ≤ 3) : SRo c (upR j v) := ⟨one_terms (by omega), by show -50 ≤ v; omega, by show v ≤ 50; omega⟩
theorem dn_sro {j : Nat} {v : Int} (h : j < c) (h0 : 0 ≤ v) (h1 : v ≤ 3) : SRo c (dnR j v) := by
  refine ⟨terms_of fun i hi => ?_, by show -50 ≤ -v - 1; omega, by show -v - 1 ≤ 50; omega⟩
  have hi : (i : Int) < D.len (.slc [tm (j : Int) (-1)]) := hi
  rw [len_slc, List.length_singleton] at hi
  have : i = 0 := by omega
  subst this
  have e1 : tof (D.fld (dnR j v) 0) ((0 : Nat) : Int) = (j : Int) := rfl
  have e2 : tco (D.fld (dnR j v) 0) ((0 : Nat) : Int) = -1 := rfl
  exact badT_of (by rw [e1]; omega) (by rw [e1]; omega) (fun h => by omega) (by rw [e2]; omega) (by rw [e2]; omega) (by rw [e2]; omega)

/-- THE BUILDER. -/
theorem build_wp {w : Int} (hw : ∀ X, inB box X → ∀ v, valO M X = some v → v ≤ w) : ∀ (μ : Nat) {n : Nat} {Q : List D → Prop} {j : Nat} {v : Int} {ab : List D} {X lo hi : List Int} {L : List D},
    BC M c rows goal k box ab X lo hi j → j ≤ c → 0 ≤ v → v ≤ 3 → (j = c → v = 0) → (j < c → v ≤ box.getD j 0 ∧ hi.getD j 0 = ((rows.length + j : Nat) : Int) ∧ ((lo.getD j 0 = -1 ∧ v = 0) ∨ ((0 ≤ lo.getD j 0 ∧ lo.getD j 0 < ((rows.length + c + ab.length : Nat) : Int)) ∧ rowAt M ab (lo.getD j 0) = dnR j (v - 1)))) →
    4 * (c - j) + 3 - v.toNat ≤ μ → 3000 + 4 * μ ≤ n → (ab.length : Int) + 4 * ((c : Int) - j) ≤ 40 + v → L.length + szB c j v ≤ 5000 →
    (∀ t X', Good M w ab t → t.sz + 1 ≤ szB c j v → X'.length = c → (∀ i, i < j → X'.getD i 0 = X.getD i 0) → Q [bst M (lst box) lo hi X' (L ++ t.fl L.length)]) →
    wpF Try.prog A n 68 [bst M (lst box) lo hi X L, .int (j : Int), .int v, .int (ab.length : Int)] Q := by
  intro μ
  induction μ with
  | zero => intro n Q j v ab X lo hi L _ _ h0 h3 _ _ hm; omega
  | succ μ ih =>
    intro n Q j v ab X lo hi L hB hj h0 h3 hjc hcur hm hn hd hL h
    obtain ⟨p, rfl⟩ : ∃ p, n = p + 1 := ⟨n - 1, by omega⟩
    have hs := hB.sm
    have hcc := hs.cols
    have hfew := hs.few
    have hbl := hs.len
    have hlol := hB.lol
    have hhil := hB.hil
    have hxl := hB.xl
    have e0 : D.i (D.fld M 0) = (c : Int) := by rw [hs.eq]; rfl
    have e1 : D.len (D.fld M 1) = ((rows.length + c : Nat) : Int) := by
      have : D.fld M 1 = .slc (rows ++ boxR box c) := by rw [hs.eq]; rfl
      rw [this, len_slc, hs.rlen]
    rw [E68]
    simp only [bst, fld0, fldS, i_int, len_lst, len_slc, xs_slc, toNat_nat]
    rw [e0, e1]
    refine cEq (fun hjc' => ?_) fun hjc' => ?_
    · -- a leaf
      have ejc : j = c := by omega
      subst ejc
      have hLX : LX M j rows goal k box ab X lo hi := ⟨hs, inB_of (by omega) fun i hi => hB.xin i (by omega), by omega, hB.abok, hB.lol, hB.hil, hB.hiR, hB.loR⟩
      refine leaf_wp hLX (by omega) (hw X hLX.xin) (by omega) fun cs hG => ?_
      rw [rs0]
      exact h (.lf cs) X hG (by unfold szB; rw [if_neg (by omega)]; simp [T.sz]) hxl fun _ _ => rfl
    · have hjl : j < c := by omega
      obtain ⟨hvb, hhj, hlj⟩ := hcur hjl
      have hbj := hs.box _ (getD_mem (d := 0) (show j < box.length by omega))
      rw [el_lst _ _ (by omega), i_int]
      -- the next column
      have nextc : ∀ {n : Nat} {Q : List D → Prop} {ab' : List D} {hi' : List Int} {L : List D} {dd : Int}, dd = (ab'.length : Int) → BC M c rows goal k box ab' (X.set j v) lo hi' (j + 1) → 3000 + 4 * μ ≤ n → (ab'.length : Int) ≤ (ab.length : Int) + 1 → L.length + szB c (j + 1) 0 ≤ 5000 → (j + 1 < c → hi'.getD (j + 1) 0 = ((rows.length + (j + 1) : Nat) : Int)) →
          (∀ t X', Good M w ab' t → t.sz + 1 ≤ szB c (j + 1) 0 → X'.length = c → (∀ i, i < j + 1 → X'.getD i 0 = (X.set j v).getD i 0) → Q [.int v, bst M (lst box) lo hi' X' (L ++ t.fl L.length), .int (j : Int)]) →
          wpF Try.prog A (n + 1) 120 [.int dd, .int v, bst M (lst box) lo hi' X L, .int (j : Int)] Q := by
        intro n Q ab' hi' L dd hdd hB' hn hab hL hh h
        rw [E120]
        simp only [bst, fld0, fldS, i_int, len_lst, toNat_nat]
        rw [lst_set34, wrap_id (by omega) (by omega), show ((j : Int) + 1) = ((j + 1 : Nat) : Int) by omega, hdd]
        refine ⟨⟨by omega, by omega⟩, trivial, ih hB' (by omega) (by omega) (by omega) (fun _ => rfl) (fun hj1 => ⟨?_, hh hj1, .inl ⟨hB.lo0 (j + 1) (by omega) hj1, rfl⟩⟩) (by omega) hn (by omega) hL fun t X' h1 h2 h3 h4 => ?_⟩
        · have := hs.box _ (getD_mem (d := 0) (show j + 1 < box.length by omega))
          omega
        · rw [rs0]
          exact h t X' h1 h2 h3 h4
      have sz1 := szB_next hjl
      have sz2 := szB_stay hjl h0 h3
      have xset : ∀ i, (X.set j v).getD i 0 = if j = i then v else X.getD i 0 := fun i => setI (by omega)
      -- the column is fixed
      have fixc : ∀ {ab' : List D} {hi' : List Int}, (∀ x ∈ ab', SRo c x) → hi'.length = c → (∀ o, 0 ≤ o → o < ((rows.length + c + ab.length : Nat) : Int) → rowAt M ab' o = rowAt M ab o) → ab.length ≤ ab'.length → (∀ i, i ≠ j → hi'.getD i 0 = hi.getD i 0) → ((0 ≤ hi'.getD j 0 ∧ hi'.getD j 0 < ((rows.length + c + ab'.length : Nat) : Int)) ∧ rowAt M ab' (hi'.getD j 0) = upR j v) →
          BC M c rows goal k box ab' (X.set j v) lo hi' (j + 1) := fun {ab' hi'} q1 q2 q3 q4 q5 q6 => by
        refine ⟨hs, q1, by rw [List.length_set]; exact hxl, hlol, q2, fun i hi => ?_, fun i hi => ?_, fun i hi => ?_, fun i h1 h2 => by rw [q5 i (by omega)]; exact hB.hi0 i (by omega) h2, fun i h1 h2 => hB.lo0 i (by omega) h2⟩
        · rw [xset]
          by_cases e : j = i
          · subst e; rw [if_pos rfl]; exact ⟨h0, hvb⟩
          · rw [if_neg e]; exact hB.xin i (by omega)
        · rw [xset]
          by_cases e : j = i
          · subst e; rw [if_pos rfl]; exact q6
          · rw [if_neg e, q5 i (fun h => e h.symm)]
            obtain ⟨⟨a1, a2⟩, a3⟩ := hB.hiR i (by omega)
            exact ⟨⟨a1, by omega⟩, by rw [q3 _ a1 a2]; exact a3⟩
        · rw [xset]
          by_cases e : j = i
          · subst e; rw [if_pos rfl]
            rcases hlj with a | ⟨⟨a1, a2⟩, a3⟩
            · exact .inl a
            · exact .inr ⟨⟨a1, by omega⟩, by rw [q3 _ a1 a2]; exact a3⟩
          · rw [if_neg e]
            rcases hB.loR i (by omega) with a | ⟨⟨a1, a2⟩, a3⟩
            · exact .inl a
            · exact .inr ⟨⟨a1, by omega⟩, by rw [q3 _ a1 a2]; exact a3⟩
      obtain ⟨p, rfl⟩ : ∃ q, p = q + 1 := ⟨p - 1, by omega⟩
      refine ⟨⟨by omega, by omega⟩, cEq (fun hvm => ?_) fun hvm => ?_⟩
      · refine nextc (n := p) rfl (fixc hB.abok hhil (fun _ _ _ => rfl) (Nat.le_refl _) (fun _ _ => rfl) ⟨by omega, ?_⟩) (by omega) (by omega) (by omega) (fun hj1 => hB.hi0 (j + 1) (by omega) hj1) fun t X' h1 h2 h3 h4 => ?_
        · rw [hhj, rowAt_box hs hjl, hvm]
        · refine h t X' h1 (by omega) h3 fun i hi => ?_
          rw [h4 i (by omega), xset, if_neg (by omega)]
      · have sz3 := szB_split hjl h0 (show v < 3 by omega)
        have sz4 := szB_stay (v := v + 1) hjl (by omega) (by omega)
        have pw : 1 ≤ 4 ^ (c - j - 1) := Nat.one_le_pow _ _ (by omega)
        have gs : ∀ (L : List D) (x : D), List.getD (L ++ [x]) L.length D.und = x := fun L x => get_at L [] x .und
        have ss : ∀ (L : List D) (x y : D), List.set (L ++ [x]) L.length y = L ++ [y] := fun L x y => set_at L [] x y
        rw [gs, ss]
        simp only [fld0, fldS]
        have eo : IntKind.wrap .i64 (((rows.length + c : Nat) : Int) + (ab.length : Int)) = ((rows.length + c + ab.length : Nat) : Int) := by rw [wrap_id (by omega) (by omega)]; omega
        have ed : IntKind.wrap .i64 ((ab.length : Int) + 1) = (ab.length : Int) + 1 := wrap_id (by omega) (by omega)
        rw [eo, ed, lst_set34, lst_getD (s := hi) (by omega), lst_getD (s := lo) (by omega)]
        simp only [List.length_append, List.length_singleton]
        have snocSR : ∀ {x : D}, SRo c x → ∀ y ∈ ab ++ [x], SRo c y := fun {x} hx y hy => by
          rcases List.mem_append.1 hy with hy | hy
          · exact hB.abok y hy
          · rw [List.mem_singleton.1 hy]; exact hx
        have hup := up_sro (c := c) hjl h0 h3
        have hdn := dn_sro (c := c) hjl h0 h3
        have his : ∀ i, (hi.set j ((rows.length + c + ab.length : Nat) : Int)).getD i 0 = if j = i then ((rows.length + c + ab.length : Nat) : Int) else hi.getD i 0 := fun i => setI (by omega)
        have los : ∀ i, (lo.set j ((rows.length + c + ab.length : Nat) : Int)).getD i 0 = if j = i then ((rows.length + c + ab.length : Nat) : Int) else lo.getD i 0 := fun i => setI (by omega)
        have hsnl : ∀ x : D, (ab ++ [x]).length = ab.length + 1 := fun x => by simp
        refine ⟨by unfold room; omega, trivial, ⟨by omega, by omega⟩, ⟨by omega, by omega⟩, ⟨by omega, by omega⟩, trivial, ⟨by omega, by omega⟩, trivial, ?_⟩
        refine nextc (n := p) (ab' := ab ++ [upR j v]) (hi' := hi.set j ((rows.length + c + ab.length : Nat) : Int)) (by rw [hsnl]; omega) (fixc (snocSR hup) (by rw [List.length_set]; exact hhil) (fun o a1 a2 => rowAt_snoc hs a1 a2) (by rw [hsnl]; omega) (fun i hi => by rw [his, if_neg (fun e => hi e.symm)]) ⟨?_, ?_⟩) (by omega) (by rw [hsnl]; omega) (by simp only [List.length_append, List.length_singleton]; omega) (fun hj1 => by rw [his, if_neg (by omega)]; exact hB.hi0 (j + 1) (by omega) hj1) fun tl X1 l1 l2 l3 l4 => ?_
        · rw [his, if_pos rfl, hsnl]; omega
        · rw [his, if_pos rfl, rowAt_new hs]
        simp only [rs0, rsS, bst, fld0, fldS, i_int, toNat_nat, len_lst, len_slc, xs_slc]
        have hfl := T.fl_len tl (L.length + 1)
        have eL : (L ++ [D.agg [D.int ((L.length + 1 : Nat) : Int), D.int 0, D.slc [D.agg [D.int (j : Int), D.int 1]], D.int v, D.slc [], D.int 0]]).length = L.length + 1 := by simp
        rw [eL, List.append_assoc, List.singleton_append, get_at, set_at, lst_set34, lst_set34, set_backI (by omega), wrap_id (show -9223372036854775808 ≤ v + 1 by omega) (by omega)]
        simp only [fld0, fldS, List.length_append, List.length_cons, hfl, List.length_set]
        have eR : D.agg [D.int ((L.length + 1 : Nat) : Int), D.int ((L.length + (tl.sz + 1) : Nat) : Int), D.slc [D.agg [D.int (j : Int), D.int 1]], D.int v, D.slc [], D.int 0] = rootD j v ((L.length + 1 : Nat) : Int) ((L.length + 1 + tl.sz : Nat) : Int) := by
          have a2 : L.length + (tl.sz + 1) = L.length + 1 + tl.sz := by omega
          rw [a2]
          rfl
        refine ⟨⟨by omega, by omega⟩, trivial, ⟨by omega, by omega⟩, trivial, ⟨by omega, by omega⟩, trivial, ?_⟩
        rw [eR]
        have e2 : (ab.length : Int) + 1 = ((ab ++ [dnR j v]).length : Int) := by rw [hsnl]; omega
        have e3 : (L ++ rootD j v ((L.length + 1 : Nat) : Int) ((L.length + 1 + tl.sz : Nat) : Int) :: tl.fl (L.length + 1)).length = L.length + 1 + tl.sz := by
          rw [List.length_append, List.length_cons, hfl]; omega
        rw [e2]
        refine ih (n := p + 1) (ab := ab ++ [dnR j v]) (X := X1) (lo := lo.set j ((rows.length + c + ab.length : Nat) : Int)) (hi := hi) (L := L ++ rootD j v ((L.length + 1 : Nat) : Int) ((L.length + 1 + tl.sz : Nat) : Int) :: tl.fl (L.length + 1)) ?_ hj (by omega) (by omega) (fun e => by omega) (fun _ => ⟨by omega, hhj, .inr ⟨?_, ?_⟩⟩) (by omega) (by omega) (by rw [hsnl]; omega) (by rw [e3]; omega) fun tr X2 r1 r2 r3 r4 => ?_
        · have hX1 : ∀ i, i < j → X1.getD i 0 = X.getD i 0 := fun i hi => by rw [l4 i (by omega), xset, if_neg (by omega)]
          refine ⟨hs, snocSR hdn, l3, by rw [List.length_set]; exact hlol, hhil, fun i hi => by rw [hX1 i hi]; exact hB.xin i hi, fun i hi => ?_, fun i hi => ?_, hB.hi0, fun i h1 h2 => by rw [los, if_neg (by omega)]; exact hB.lo0 i h1 h2⟩
          · rw [hX1 i hi, hsnl]
            obtain ⟨⟨a1, a2⟩, a3⟩ := hB.hiR i hi
            exact ⟨⟨a1, by omega⟩, by rw [rowAt_snoc hs a1 a2]; exact a3⟩
          · rw [hX1 i hi, hsnl, los, if_neg (by omega)]
            rcases hB.loR i hi with a | ⟨⟨a1, a2⟩, a3⟩
            · exact .inl a
            · exact .inr ⟨⟨a1, by omega⟩, by rw [rowAt_snoc hs a1 a2]; exact a3⟩
        · rw [los, if_pos rfl, hsnl]; omega
        · rw [los, if_pos rfl, rowAt_new hs, show v + 1 - 1 = v by omega]
        · simp only [rs0, bst, fld0, fldS, len_lst, List.length_set]
          rw [lst_set34, set_backI (by omega), e3]
          refine ⟨⟨by omega, by omega⟩, trivial, ?_⟩
          have := h (.nd j v tl tr) X2 ⟨by rw [e0]; omega, h0, h3, by rw [e1]; omega, l1, r1⟩ (by simp only [T.sz]; omega) r3 fun i hi => by rw [r4 i hi, l4 i (by omega), xset, if_neg (by omega)]
          have e4 : L ++ (T.nd j v tl tr).fl L.length = L ++ rootD j v ((L.length + 1 : Nat) : Int) ((L.length + 1 + tl.sz : Nat) : Int) :: tl.fl (L.length + 1) ++ tr.fl (L.length + 1 + tl.sz) := by
            simp [T.fl]
          rw [e4] at this
          exact this
end
end Go.Ab

/- The statement's law: what is proved is the greatest value, and it is accepted. -/
namespace Go.Ab
open Go.Proofs
attribute [local irreducible] wpF
set_option maxRecDepth 100000

theorem upd_ge : ∀ (Ls : List (Option Int)) (b : Option Int) (w : Int), Ls.foldl upd b = some w → (∀ x, b = some x → x ≤ w) ∧ ∀ x, some x ∈ Ls → x ≤ w
  | [], b, w, h => by
    simp only [List.foldl_nil] at h
    exact ⟨fun x hx => by rw [h] at hx; injection hx with hx; omega, fun x hx => by cases hx⟩
  | a :: Ls, b, w, h => by
    simp only [List.foldl_cons] at h
    obtain ⟨h1, h2⟩ := upd_ge Ls _ w h
    have key : (∀ x, b = some x → x ≤ w) ∧ ∀ x, a = some x → x ≤ w := by
      cases a with
      | none => exact ⟨(fun x hx => h1 x (by rw [hx]; rfl)), fun x hx => by cases hx⟩
      | some v =>
        cases b with
        | none => exact ⟨(fun x hx => by cases hx), fun x hx => h1 x (by rw [← hx]; rfl)⟩
        | some u =>
          by_cases e : u < v
          · have e2 : upd (some u) (some v) = some v := by simp only [upd, iLt_iff.mpr e, cond_true]
            have := h1 v e2
            refine ⟨fun x hx => ?_, fun x hx => ?_⟩
            · injection hx with hx; omega
            · injection hx with hx; omega
          · have e2 : upd (some u) (some v) = some u := by simp only [upd, iLt_not.mpr e, cond_false]
            have := h1 u e2
            refine ⟨fun x hx => ?_, fun x hx => ?_⟩
            · injection hx with hx; omega
            · injection hx with hx; omega
    refine ⟨key.1, fun x hx => ?_⟩
    rcases List.mem_cons.1 hx with e | hx
    · exact key.2 x e.symm
    · exact h2 x hx
theorem mem_blk {L : List (List Int)} {Y : List Int} (hY : Y ∈ L) : ∀ (n : Nat) (v w : Int), v ≤ w → w < v + n → (w :: Y) ∈ blk L n v
  | 0, v, w, h1, h2 => by omega
  | n + 1, v, w, h1, h2 => by
    rw [blk]
    by_cases e : w = v
    · subst e
      exact List.mem_append.2 (.inl (List.mem_map_of_mem hY))
    · exact List.mem_append.2 (.inr (mem_blk hY n (v + 1) w (by omega) (by omega)))
theorem mem_cols : ∀ {bx X : List Int}, inB bx X → X ∈ cols bx
  | [], [], _ => by simp [cols]
  | [], _ :: _, h => h.elim
  | _ :: _, [], h => h.elim
  | m :: bx, v :: X, h => mem_blk (mem_cols h.2.2) _ 0 v h.1 (by have := h.1; have := h.2.1; omega)
theorem best_ge {M : D} {box : List Int} {w : Int} (h : best M box = some w) : ∀ X, inB box X → ∀ v, valO M X = some v → v ≤ w := fun X hX v hv => by
  refine (upd_ge _ _ _ h).2 v ?_
  rw [← hv]
  exact List.mem_map_of_mem (mem_cols hX)

section
variable {n : Nat} {Q : List D → Prop}

/-- THE PROGRAM's CERTIFICATES. -/
theorem prove_wp {m : D} {c : Nat} {rows goal : List D} {k : Int} {most : List Int} (hm : DM m c rows goal k) (hl : most.length ≤ 1000) (hn : 1100800 ≤ n)
    (hbad : ¬ boxOk c most → Q [.agg [.slc [], .int 0], .int 33])
    (hgood : boxOk c most → (best (boxM c rows goal k most) most = none → Q [.agg [.slc [], .int 0], .int 34]) ∧
      ∀ v, best (boxM c rows goal k most) most = some v → ∀ b, chkV (boxM c rows goal k most) b = 0 → BN 1000 b → D.fld b 1 = .int v → Q [b, .int 0]) : wpF Try.prog A n 36 [m, lst most] Q := by
  obtain ⟨p, rfl⟩ : ∃ p, n = p + 1 := ⟨n - 1, by omega⟩
  rw [E36]
  have e0 : D.fld m 0 = .int (c : Int) := by rw [hm.eq]; rfl
  have e1 : D.fld m 1 = .slc rows := by rw [hm.eq]; rfl
  have hfew := hm.few
  refine solveP_wp hm hl (by omega) (fun hb => ?_) fun hb => ?_
  · simp only [rs0, rsS, i_int]
    exact cNe (fun _ => ⟨trivial, hbad hb⟩) fun c => by omega
  · obtain ⟨g1, g2⟩ := hgood hb
    cases hbest : best (boxM c rows goal k most) most with
    | none =>
      simp only [solQ, rs0, rsS, i_int]
      exact cNe (fun _ => ⟨trivial, g1 hbest⟩) fun c => by omega
    | some v =>
      intro a
      simp only [rs0, rsS, i_int]
      refine cNe (fun c => by omega) fun _ => ?_
      refine boxP_wp hm hl (by omega) (fun h => absurd hb h) fun _ => ?_
      have hs := hm.sm hb
      obtain ⟨b1, b2, b3⟩ := hb
      rw [e0]
      simp only [rs0, i_int, toNat_nat]
      generalize hM : boxM c rows goal k most = M at *
      refine ⟨trivial, ⟨by omega, by omega, by unfold room; omega⟩, ?_⟩
      have hz : D.slc (List.replicate c (.int 0)) = lst (zers c) := by simp [lst, zers]
      rw [hz]
      have key : ∀ (m0 j : Nat) (lo hi : List Int), j ≤ c → c - j < m0 → lo.length = j → hi.length = j → (∀ i, i < j → lo.getD i 0 = -1) → (∀ i, i < j → hi.getD i 0 = ((rows.length + i : Nat) : Int)) →
          L36_7 p m0 (.int v) (.int (c : Int)) (.int (j : Int)) m (.agg [.slc [], .int 0]) (bst M (lst most) lo hi (zers c) []) Q := by
        intro m0
        induction m0 with
        | zero => intro j lo hi _ h; omega
        | succ m0 ih =>
          intro j lo hi h1 h2 h3 h4 h5 h6
          rw [L36_7_eq, e1]
          simp only [bst, fld0, fldS, i_int, len_slc]
          refine cLt (fun hj => ?_) fun hj => ?_
          · rw [wrap_id (show -9223372036854775808 ≤ (rows.length : Int) + (j : Int) by omega) (by omega), wrap_id (by omega) (by omega), show ((j : Int) + 1) = ((j + 1 : Nat) : Int) by omega, show (rows.length : Int) + (j : Int) = ((rows.length + j : Nat) : Int) by omega]
            have el : D.slc (D.xs (lst lo) ++ [.int (-1)]) = lst (lo ++ [-1]) := by simp [lst, D.xs]
            have eh : D.slc (D.xs (lst hi) ++ [.int ((rows.length + j : Nat) : Int)]) = lst (hi ++ [((rows.length + j : Nat) : Int)]) := by simp [lst, D.xs]
            rw [el, eh, xs_lst_len, xs_lst_len]
            refine ⟨by unfold room; simp only [List.length_singleton]; omega, by unfold room; simp only [List.length_singleton]; omega, trivial, trivial, ih (j + 1) _ _ (by omega) (by omega) (by simp [h3]) (by simp [h4]) (fun i hi' => ?_) fun i hi' => ?_⟩
            · by_cases e : i = j
              · subst e
                rw [List.getD_eq_getElem?_getD, List.getElem?_append_right (by omega), h3, Nat.sub_self]; rfl
              · rw [List.getD_eq_getElem?_getD, List.getElem?_append_left (by omega), ← List.getD_eq_getElem?_getD]
                exact h5 i (by omega)
            · by_cases e : i = j
              · subst e
                rw [List.getD_eq_getElem?_getD, List.getElem?_append_right (by omega), h4, Nat.sub_self]; rfl
              · rw [List.getD_eq_getElem?_getD, List.getElem?_append_left (by omega), ← List.getD_eq_getElem?_getD]
                exact h6 i (by omega)
          · have e : j = c := by omega
            subst e
            have hB : BC M j rows goal k most [] (zers j) lo hi 0 := ⟨hs, (fun x hx => by cases hx), by simp [zers], h3, h4, (fun i hi => by omega), (fun i hi => by omega), (fun i hi => by omega), (fun i _ hi => h6 i hi), fun i _ hi => h5 i hi⟩
            have hsz : szB j 0 0 ≤ 512 := by
              unfold szB
              split
              · have : j - 0 - 1 ≤ 3 := by omega
                have h4 : 4 ^ (j - 0 - 1) ≤ 4 ^ 3 := Nat.pow_le_pow_right (by omega) this
                have h64 : (4 : Nat) ^ 3 = 64 := rfl
                simp only [Int.toNat_zero]
                omega
              · omega
            refine build_wp (best_ge hbest) 30 (j := 0) (v := 0) (ab := []) (X := zers j) (L := []) hB (Nat.zero_le _) (by omega) (by omega) (fun _ => rfl) (fun hj0 => ⟨?_, h6 0 hj0, .inl ⟨h5 0 hj0, rfl⟩⟩) (by simp only [Int.toNat_zero]; omega) (by omega) (by simp only [List.length_nil]; omega) (by simp only [List.length_nil]; omega) fun t X' t1 t2 t3 t4 => ?_
            · have := b3 _ (getD_mem (d := 0) (show 0 < most.length by omega))
              omega
            · obtain ⟨c1, c2⟩ := tree_chk hs.mv t1 (by omega)
              exact ⟨trivial, g2 v hbest _ c1 c2 rfl⟩
      exact key p 0 [] [] (by omega) (by omega) rfl rfl (fun i hi => by omega) fun i hi => by omega

theorem proves_wp {raw l : List Int} (hl : l.length ≤ 2000000) (hn : 1102000 ≤ n) : wpF Try.prog A n 7 [lst l, lst raw] (fun r => r = [.bool true]) := by
  obtain ⟨p, rfl⟩ : ∃ p, n = p + 1 := ⟨n - 1, by omega⟩
  rw [E7, len_lst]
  refine cLt (fun _ => awake_wp (by omega) rfl) fun hraw => ?_
  refine new_wp (by omega) hl fun d0 hd0 => ?_
  rw [rs0]
  refine next_wp (by omega) hd0 (by omega) (by omega) fun v d1 hv0 hv1 hd1 => ?_
  simp only [rs0, rsS, i_int]
  have ht : 0 ≤ Int.tdiv v 5 ∧ Int.tdiv v 5 ≤ 1 := by
    have : v = 0 ∨ v = 1 ∨ v = 2 ∨ v = 3 ∨ v = 4 ∨ v = 5 := by omega
    rcases this with rfl | rfl | rfl | rfl | rfl | rfl <;> decide
  rw [wrap_id (show -9223372036854775808 ≤ Int.tdiv v 5 by omega) (by omega), wrap_id (by omega) (by omega)]
  refine ⟨by omega, mmodel_wp (N := 4 + Int.tdiv v 5) hd1 (by omega) (by omega) (by omega) fun c rows goal k d2 h1 h2 h3 h4 h5 h6 h7 hd2 => ?_⟩
  simp only [rs0, rsS]
  have hm : DM (.agg [.int (c : Int), .slc rows, .slc goal, .int k]) c rows goal k := ⟨rfl, by omega, h2, h5, h3, h4, h6, h7⟩
  refine ⟨trivial, mbox_wp (c := c) hd2 rfl (by omega) (by omega) fun box d3 b1 b2 hd3 => ?_⟩
  simp only [rs0, len_slc]
  generalize hmm : D.agg [.int (c : Int), .slc rows, .slc goal, .int k] = m at *
  have one : ∀ (most : List Int) (i : Nat) (m0 : Nat), most.length ≤ 1000 → i < 2 → [lst box, lst raw].getD i .und = lst most → L7_6 p m0 (.int (([lst box, lst raw] : List D).length : Int)) (.int ((i : Int) + 1)) m (.slc [lst box, lst raw]) (fun r => r = [.bool true]) →
      L7_6 p (m0 + 1) (.int (([lst box, lst raw] : List D).length : Int)) (.int (i : Int)) m (.slc [lst box, lst raw]) (fun r => r = [.bool true]) := by
    intro most i m0 hml hi hget hnext
    rw [L7_6_eq]
    simp only [i_int, xs_slc, toNat_nat, len_slc]
    rw [hget, wrap_id (by omega) (by omega)]
    have e2 : (([lst box, lst raw] : List D).length : Int) = 2 := rfl
    refine cLt (fun _ => ⟨⟨by omega, by omega⟩, ?_⟩) fun c => by omega
    refine prove_wp hm hml (by omega) (fun hb => ?_) fun hb => ⟨fun hbest => ?_, fun w hbest b q1 q2 q3 => ?_⟩
    · simp only [rs0, rsS, fld0, i_int, len_slc]
      refine ⟨trivial, solveR_wp hm hml (by omega) (fun _ => ?_) fun h => absurd h hb⟩
      simp only [rs0, rsS, i_int]
      exact cNe (fun c => absurd rfl c) fun _ => cNe (fun _ => cLt (fun c => by simp at c) fun _ => hnext) fun c => by omega
    · simp only [rs0, rsS, fld0, i_int, len_slc]
      refine ⟨trivial, solveR_wp hm hml (by omega) (fun h => absurd hb h) fun _ => ?_⟩
      rw [hbest]
      simp only [solQ, rs0, rsS, i_int]
      exact cNe (fun c => absurd rfl c) fun _ => cNe (fun _ => cLt (fun c => by simp at c) fun _ => hnext) fun c => by omega
    · simp only [rs0, rsS, i_int]
      refine ⟨trivial, solveR_wp hm hml (by omega) (fun h => absurd hb h) fun _ => ?_⟩
      rw [hbest]
      intro a
      simp only [rs0, rsS, i_int]
      refine cNe (fun c => absurd rfl c) fun _ => cNe (fun c => absurd rfl c) fun _ => ?_
      refine boxR_wp hm hml (by omega) (fun h => absurd hb h) fun _ => ?_
      simp only [rs0, rsS, i_int]
      rw [q3, i_int]
      refine ⟨trivial, cNe (fun c => absurd rfl c) fun _ => cNe (fun c => absurd rfl c) fun _ => ?_⟩
      refine check'_wp (hm.sm hb).mo (q2.bx (by omega)) (by omega) ?_
      rw [q1]
      simp only [rs0, i_int]
      exact cNe (fun c => absurd rfl c) fun _ => hnext
  obtain ⟨u, rfl⟩ : ∃ u, p = u + 3 := ⟨p - 3, by omega⟩
  refine one box 0 (u + 2) (by omega) (by omega) rfl (one raw 1 (u + 1) (by omega) (by omega) rfl ?_)
  rw [L7_6_eq]
  simp only [i_int]
  refine cLt (fun c => by have : (([lst box, lst raw] : List D).length : Int) = 2 := rfl; omega) fun _ => awake_wp (by omega) rfl
end
end Go.Ab
