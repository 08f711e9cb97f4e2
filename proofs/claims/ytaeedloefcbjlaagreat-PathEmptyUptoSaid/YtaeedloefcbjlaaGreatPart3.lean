/- Equations and plain laws of the functions that the statement reaches, part 3. Conditions: those in each theorem. -/
import Derived.Test.YtaeedloefcbjlaaGreatProg
import Derived.Test.YtaeedloefcbjlaaGreatAbsPart1
import Derived.WalkKit
import Derived.Deep.QuietTactic
import Derived.Deep.LoopGhost
import Derived.BigQuiet
import Derived.OwnWalk
import Derived.KernelRfl
import Derived.Shelf.Abstract
import Derived.Laws.MakeOwn
import Derived.Test.YtaeedloefcbjlaaGreatPart2
import Derived.Test.YtaeedloefcbjlaaGreatAbsPart4
import Derived.Test.YtaeedloefcbjlaaGreatPart1
import Derived.Shelf.SlSortCmp.WholeK
import Derived.Shelf.SlSortCmp.NoneTotal
set_option linter.unusedVariables false
set_option linter.unusedSimpArgs false
/- A chain has no cycle: the functions that heaviest.forward calls, step by step. -/
namespace Go.Ab
open Go.Proofs
set_option maxRecDepth 100000

theorem keeps_set1 (w : World) (b o : Nat) (v : Value) : Keeps (fun x => x = b) w (w.setCell ⟨b, o, none⟩ v) := by
 refine ⟨rfl, rfl, rfl, ?_, fun c hc hn => ?_⟩
 ·simp [World.setCell]
 ·simp only [World.setCell, Array.getElem?_modify, if_neg (fun e => hn (Eq.symm e))]
theorem keeps_alloc (w : World) (o : Go.Obj) : Keeps (fun _ => False) w (w.alloc o) :=
 ⟨rfl, rfl, rfl, by rw [World.size_alloc]; omega, fun b hb _ => by
  show (w.heap.push o)[b]? = _
  rw [Array.getElem?_push, if_neg (by omega)]⟩

/-- Nothing is found in nothing. -/
theorem find_none (p : Option Addr) (c : Nat) (f : Value) (w : World) : Calls Tryz.prog 122 #[.slice p 0 c, f] w fun e w' => e = .returned (.int .i64 (-1)) ∧ Keeps (fun _ => False) w w' := by
 go_enter Tryz.func122, Tryz.ntmps122
 go_wp2_with fail
 go_loopg [8] 0 (fun k s8 wr => s8 = .int .i64 0 ∧ Keeps (fun _ => False) w wr)
 case atStart => exact ⟨rfl, Keeps.refl _ _⟩
 case round =>
  obtain ⟨rfl, hk⟩ := hrel
  go_wp2_with fail
  go_ret
  exact ⟨rfl, hk⟩

theorem back_none (v0 v1 v3 v4 v5 v6 v7 v8 v9 : Value) (p : Option Addr) (c : Nat) (i j : Int) (w : World) :
  Calls Tryz.prog 105 #[.agg #[v0, v1, .slice p 0 c, v3, v4, v5, v6, v7, v8, v9], .int .i64 i, .int .i64 j] w fun e w' => e = .returned (.int .i64 (-1)) ∧ Keeps (fun _ => False) w w' := by
 have hf := find_none p c
 go_enter Tryz.func105, Tryz.ntmps105
 go_wp2_with (go_at_call 122; refine (hf _ _).mono ?_; rintro e w' ⟨rfl, hk⟩)
 go_ret
 exact ⟨rfl, (((keeps_alloc _ _).trans (keeps_alloc _ _) (fun _ h => h) fun _ _ h => h).trans (keeps_alloc _ _) (fun _ h => h) fun _ _ h => h).trans hk (fun _ h => h) fun _ _ h => h⟩

/-- Where a unit lies that is a chain, and what is said of its nodes. -/
structure UP where
 n : Nat
 nb : Nat
 no : Nat
 nc : Nat
 rb : Nat
 ro : Nat
 rc : Nat
 ce : Nat
 cl : Nat
 xb : Nat → Nat
 xo : Nat → Nat
 xc : Nat → Nat
 pe : Option Addr
 pl : Option Addr
 v0 : Value
 v3 : Value
 v4 : Value
 v5 : Value
 v6 : Value
 v7 : Value
 v8 : Value
 v9 : Value

structure UW (U : UP) (bu br : Nat) (w : World) : Prop where
 u : w.heap[bu]? = some (.cells #[U.v0, .slice (some ⟨U.nb, U.no, none⟩) (U.n + 1) U.nc, .slice U.pl 0 U.cl, U.v3, U.v4, U.v5, U.v6, U.v7, U.v8, U.v9] 34 (0, 0))
 hdr : ∀ i, i < U.n → w.cell? ⟨U.nb, U.no + i * 4 + 2, none⟩ = some (.slice (some ⟨U.xb i, U.xo i, none⟩) 1 (U.xc i))
 last : w.cell? ⟨U.nb, U.no + U.n * 4 + 2, none⟩ = some (.slice U.pe 0 U.ce)
 next : ∀ i, i < U.n → w.cell? ⟨U.xb i, U.xo i, none⟩ = some (.int .i64 (i + 1))
 r : w.heap[br]? = some (.cells #[.slice (some ⟨U.rb, U.ro, none⟩) (U.n + 1) U.rc] 61 (0, 0))
 is : ∀ i, i ≤ U.n → w.cell? ⟨U.rb, U.ro + i, none⟩ = some (.bool true)
 lu : bu < w.heap.size
 lr : br < w.heap.size

theorem cell_of_blk {w : World} {b t : Nat} {c : Array Value} {g : Nat × Nat} (h : w.heap[b]? = some (.cells c t g)) (i : Nat) : w.cell? ⟨b, i, none⟩ = c[i]? := by
 simp [World.cell?, h]

/-- A node's successors, one by one, and what is done with each. -/
theorem on_ok {U : UP} {bu br : Nat} {w : World} (H : UW U bu br w) (hn : U.n ≤ 1000) {i : Nat} (hi : i ≤ U.n) {g : Nat} {caps : Array Value} {R : World → Prop} (hR : ∀ w1 w2, R w1 → Keeps (fun _ => False) w1 w2 → R w2)
  (hcf : ∀ args w, (callFunc g args).run Tryz.prog w = .ok (.enter g args) w)
  (hcall : i < U.n → ∀ w1, Keeps (fun _ => False) w w1 → Calls Tryz.prog g (#[.int .i64 ((i : Int) + 1)] ++ caps) w1 fun e w' => e = .returned (.tuple #[]) ∧ R w') (hend : i = U.n → R w) :
  Calls Tryz.prog 104 #[.int .i64 i, .func (.func g) #[] caps, .pointer (some ⟨bu, 0, none⟩), .pointer (some ⟨br, 0, none⟩)] w fun e w' => e = .returned (.tuple #[]) ∧ R w' := by
 obtain ⟨h1, h2, h3, h4, h5, h6, h7, h8⟩ := H
 have c1 := cell_of_blk h1 1
 have d0 := cell_of_blk h1 0
 have d2 := cell_of_blk h1 2
 have d3 := cell_of_blk h1 3
 have d4 := cell_of_blk h1 4
 have d5 := cell_of_blk h1 5
 have d6 := cell_of_blk h1 6
 have d7 := cell_of_blk h1 7
 have d8 := cell_of_blk h1 8
 have d9 := cell_of_blk h1 9
 simp only [List.getElem?_toArray, List.getElem?_cons_succ, List.getElem?_cons_zero] at c1 d0 d2 d3 d4 d5 d6 d7 d8 d9
 by_cases hlt : i < U.n
 ·have c2 := h2 i hlt
  have c3 := h4 i hlt
  have c4 := h6 i hi
  have c5 := cell_of_blk h5 0
  simp only [List.getElem?_toArray, List.getElem?_cons_zero] at c5
  have hcall := hcall hlt
  have hback := fun j w' => back_none U.v0 (.slice (some ⟨U.nb, U.no, none⟩) (U.n + 1) U.nc) U.v3 U.v4 U.v5 U.v6 U.v7 U.v8 U.v9 U.pl U.cl (i : Int) j w'
  have hi1 : (i : Int) < U.n + 1 := by omega
  clear h1 h2 h3 h4 h5 h6 hend
  go_enter Tryz.func104, Tryz.ntmps104
  go_wp2_with fail
  go_loopg [15] 1 (fun k s15 wr => (k = 1 ∧ s15 = .int .i64 0 ∧ wr = w) ∨ (k = 0 ∧ s15 = .int .i64 1 ∧ R wr))
  case atStart => exact .inl ⟨rfl, rfl, rfl⟩
  case round =>
   rcases hrel with ⟨rfl, rfl, rfl⟩ | ⟨rfl, rfl, hr⟩
   ·go_wp2_with (go_at_call 105; refine (hback _ _).mono ?_; rintro e w' ⟨rfl, hk⟩; have hc := hcall _ hk)
    refine Calls.mono hc ?_
    rintro e w2 ⟨rfl, hr⟩
    go_wp2_with fail
    go_roundg 0
    case measure => omega
    case rel => exact .inr ⟨rfl, rfl, hr⟩
   ·go_wp2_with fail
    go_end0
    exact ⟨rfl, hr⟩
 ·have he : i = U.n := by omega
  subst he
  have c2 := h3
  replace hend := hend rfl
  clear h1 h2 h3 h4 h5 h6 hcall d0 d2 d3 d4 d5 d6 d7 d8 d9
  have hi1 : (U.n : Int) < U.n + 1 := by omega
  go_enter Tryz.func104, Tryz.ntmps104
  go_wp2_with fail
  go_loopg [15] 0 (fun k s15 wr => s15 = .int .i64 0 ∧ R wr)
  case atStart => exact ⟨rfl, hend⟩
  case round =>
   obtain ⟨rfl, hr⟩ := hrel
   go_wp2_with fail
   go_end0
   exact ⟨rfl, hr⟩

/-- The counts of edges: where they lie. -/
structure LW (m lb lc : Nat) (w : World) (l : List Int) : Prop where
 hdr : w.cell? ⟨lc, 0, none⟩ = some (.slice (some ⟨lb, 0, none⟩) m m)
 at' : ∀ i, i < m → w.cell? ⟨lb, i, none⟩ = some (.int .i64 (l.getD i 0))
 frz : ∀ i, i < m → w.frozen? ⟨lb, i, none⟩ = false
 len : l.length = m
 ne : lc ≠ lb
 lb : lb < w.heap.size

theorem LW.keeps {m lb lc : Nat} {w w' : World} {l : List Int} (h : LW m lb lc w l) (hlc : lc < w.heap.size) {Y : Nat → Prop} (k : Keeps Y w w') (h1 : ¬ Y lb) (h2 : ¬ Y lc) : LW m lb lc w' l :=
 ⟨cell_keeps k h2 h.hdr, fun i hi => cell_keeps k h1 (h.at' i hi), fun i hi => by
  have := h.frz i hi
  simp only [World.frozen?, k.block lb h.lb h1] at this ⊢
  exact this, h.len, h.ne, Nat.lt_of_lt_of_le h.lb k.size⟩

theorem LW.set {m lb lc : Nat} {w : World} {l : List Int} (h : LW m lb lc w l) {j : Nat} (hj : j < m) (v : Int) : LW m lb lc (w.setCell ⟨lb, j, none⟩ (.int .i64 v)) (l.set j v) := by
 refine ⟨?_, fun i hi => ?_, fun i hi => by rw [World.frozen?_setCell]; exact h.frz i hi, by rw [List.length_set]; exact h.len, h.ne, by rw [World.size_setCell]; exact h.lb⟩
 ·rw [World.cell?_setCell_other _ _ _ _ (fun e => h.ne (by injection e with e1; exact e1.symm))]
  exact h.hdr
 ·by_cases e : j = i
  ·subst e
   rw [World.cell?_setCell_same _ _ _ (h.at' j hj)]
   simp [h.len, hj]
  ·rw [World.cell?_setCell_other _ _ _ _ (fun e' => e (by injection e'))]
   rw [h.at' i hi]
   simp [e]

/-- One edge more. -/
theorem inc_ok {m lb lc : Nat} {w : World} {l : List Int} (H : LW m lb lc w l) {j : Nat} (hj : j < m) (hm : m ≤ 2000) (hv : -9000000000 ≤ l.getD j 0 ∧ l.getD j 0 ≤ 9000000000) :
  Calls Tryz.prog 106 #[.int .i64 j, .pointer (some ⟨lc, 0, none⟩)] w fun e w' => e = .returned (.tuple #[]) ∧ w' = w.setCell ⟨lb, j, none⟩ (.int .i64 (l.getD j 0 + 1)) := by
 have c1 := H.hdr
 have c2 := H.at' j hj
 have c3 := H.frz j hj
 have h1 : (j : Int) < m := by omega
 clear H
 generalize l.getD j 0 = v at *
 go_enter Tryz.func106, Tryz.ntmps106
 go_wp2_with fail
 go_end0
 exact ⟨rfl, rfl⟩
end Go.Ab

/- A chain has no cycle: an edge less, and what is to be done next. -/
namespace Go.Ab
open Go.Proofs Go.Shelf
set_option maxRecDepth 100000

/-- The world behind an edge less. -/
def decW (lb tb tc j cap : Nat) (w : World) : World := (((w.setCell ⟨lb, j, none⟩ (.int .i64 0)).alloc (.cells #[.int .i64 j] 3)).setCell ⟨tb, 0, none⟩ (.int .i64 j)).setCell ⟨tc, 0, none⟩ (.slice (some ⟨tb, 0, none⟩) 1 cap)

theorem dec_ok {m lb lc tb tc cap : Nat} {w : World} {l : List Int} (H : LW m lb lc w l) {j : Nat} (hj : j < m) (hm : m ≤ 2000) (hv : l.getD j 0 = 1)
  (ht : w.cell? ⟨tc, 0, none⟩ = some (.slice (some ⟨tb, 0, none⟩) 0 cap)) (hcap : 1 ≤ cap) (hz : w.frozen? ⟨tc, 0, none⟩ = false) (hb : ∃ cs x, w.heap[tb]? = some (.cells cs 3 (0, 0)) ∧ cs[0]? = some x) (htc : tc < w.heap.size) (h1 : tc ≠ lb) (h2 : tb ≠ lb) (h8 : tc ≠ tb) :
  Calls Tryz.prog 107 #[.int .i64 j, .pointer (some ⟨lc, 0, none⟩), .pointer (some ⟨tc, 0, none⟩)] w fun e w' => e = .returned (.tuple #[]) ∧ w' = decW lb tb tc j cap w := by
 have c1 := H.hdr
 have c2 := H.at' j hj
 have c3 := H.frz j hj
 have c4 := H.ne
 rw [hv] at c2
 have h3 : (j : Int) < m := by omega
 obtain ⟨cs, x, hb, hx⟩ := hb
 have c5 : w.cell? ⟨tb, 0, none⟩ = some x := (cell_of_blk hb 0).trans hx
 have c6 : w.frozen? ⟨tb, 0, none⟩ = false := by simp [World.frozen?, hb]
 have h4 : tb ≠ w.heap.size := by have := (Array.getElem?_eq_some_iff.1 hb).1; omega
 have h5 : lb ≠ tb := fun e => h2 e.symm
 have h6 : lb ≠ tc := fun e => h1 e.symm
 have h7 : lb ≠ lc := fun e => c4 e.symm
 have h9 : tc ≠ w.heap.size := by omega
 have h10 : tb ≠ tc := fun e => h8 e.symm
 have c7 : ((w.setCell ⟨lb, j, none⟩ (.int .i64 0)).alloc (.cells #[.int .i64 j] 3)).cell? ⟨tb, 0, none⟩ = some x := by
  rw [World.cell?_alloc_old _ _ _ (by simpa using h4), World.cell?_setCell_other _ _ _ _ (fun e => h5 (by injection e))]
  exact c5
 have c8 : ((w.setCell ⟨lb, j, none⟩ (.int .i64 0)).alloc (.cells #[.int .i64 j] 3)).frozen? ⟨tb, 0, none⟩ = false := by
  rw [World.frozen?_alloc_old _ _ _ (by simpa using h4), World.frozen?_setCell]
  exact c6
 have c9 : (((w.setCell ⟨lb, j, none⟩ (.int .i64 0)).alloc (.cells #[.int .i64 j] 3)).setCell ⟨tb, 0, none⟩ (.int .i64 j)).cell? ⟨tc, 0, none⟩ = some (.slice (some ⟨tb, 0, none⟩) 0 cap) := by
  rw [World.cell?_setCell_other _ _ _ _ (fun e => h10 (by injection e)), World.cell?_alloc_old _ _ _ (by simpa using h9), World.cell?_setCell_other _ _ _ _ (fun e => h6 (by injection e))]
  exact ht
 have c10 : (((w.setCell ⟨lb, j, none⟩ (.int .i64 0)).alloc (.cells #[.int .i64 j] 3)).setCell ⟨tb, 0, none⟩ (.int .i64 j)).frozen? ⟨tc, 0, none⟩ = false := by
  rw [World.frozen?_setCell, World.frozen?_alloc_old _ _ _ (by simpa using h9), World.frozen?_setCell]
  exact hz
 unfold decW
 clear hb H hv hx
 have hcap' : ¬ cap < 1 := by omega
 go_enter Tryz.func107, Tryz.ntmps107
 go_wp2_with fail
 go_end0
 exact ⟨rfl, rfl⟩

/-- The unit's own blocks are old. -/
structure UB (U : UP) (b : Nat) : Prop where
 nb : U.nb < b
 xb : ∀ i, i < U.n → U.xb i < b
 rb : U.rb < b

theorem UW.keeps {U : UP} {b : Nat} {w w' : World} (h : UW U b (b + 1) w) (hb : UB U b) {Y : Nat → Prop} (k : Keeps Y w w') (hY : ∀ x, x < b + 2 → ¬ Y x) : UW U b (b + 1) w' :=
 ⟨(k.block b h.lu (hY b (by omega))).trans h.u, fun i hi => cell_keeps k (hY _ (by have := hb.nb; omega)) (h.hdr i hi), cell_keeps k (hY _ (by have := hb.nb; omega)) h.last, fun i hi => cell_keeps k (hY _ (by have := hb.xb i hi; omega)) (h.next i hi),
   (k.block (b + 1) h.lr (hY _ (by omega))).trans h.r, fun i hi => cell_keeps k (hY _ (by have := hb.rb; omega)) (h.is i hi), Nat.lt_of_lt_of_le h.lu k.size, Nat.lt_of_lt_of_le h.lr k.size⟩

/-- What forward knows of its memory: the unit, and the counts. -/
structure FS (U : UP) (b : Nat) (w0 w : World) (l : List Int) : Prop where
 k : Keeps (fun x => b ≤ x) w0 w
 u : UW U b (b + 1) w
 l : LW (U.n + 1) (b + 2) (b + 3) w l
 s : b + 3 < w.heap.size

theorem FS.step {U : UP} {b : Nat} {w0 w w' : World} {l : List Int} (h : FS U b w0 w l) (hb : UB U b) {Y : Nat → Prop} (k : Keeps Y w w') (hY : ∀ x, Y x → b + 4 ≤ x) : FS U b w0 w' l :=
 ⟨h.k.trans k (fun _ h => h) fun x _ hx => by have := hY x hx; omega, h.u.keeps hb k fun x hx hy => by have := hY x hy; omega, h.l.keeps h.s k (fun hy => by have := hY _ hy; omega) (fun hy => by have := hY _ hy; omega), Nat.lt_of_lt_of_le h.s k.size⟩
theorem FS.still {U : UP} {b : Nat} {w0 w w' : World} {l : List Int} (h : FS U b w0 w l) (hb : UB U b) (k : Keeps (fun _ => False) w w') : FS U b w0 w' l := h.step hb k fun _ h => h.elim
theorem FS.set {U : UP} {b : Nat} {w0 w : World} {l : List Int} (h : FS U b w0 w l) (hb : UB U b) {j : Nat} (hj : j < U.n + 1) (v : Int) : FS U b w0 (w.setCell ⟨b + 2, j, none⟩ (.int .i64 v)) (l.set j v) :=
 ⟨h.k.trans (keeps_set1 w (b + 2) j _) (fun _ h => h) fun x _ hx => by omega, h.u.keeps hb (keeps_set1 w (b + 2) j _) fun x hx hy => by omega, h.l.set hj v, by rw [World.size_setCell]; exact h.s⟩

/-- Edges that were counted from the first nodes; edges that are left. -/
def cnt (n i : Nat) : List Int := (List.range (n + 1)).map fun j => if 1 ≤ j ∧ j ≤ i then 1 else 0
def lft (n i : Nat) : List Int := (List.range (n + 1)).map fun j => if i < j then 1 else 0

theorem cnt_get {n i j : Nat} (h : j ≤ n) : (cnt n i).getD j 0 = if 1 ≤ j ∧ j ≤ i then 1 else 0 := by
 simp [cnt, List.getD_eq_getElem?_getD, show j < n + 1 by omega]
theorem lft_get {n i j : Nat} (h : j ≤ n) : (lft n i).getD j 0 = if i < j then 1 else 0 := by
 simp [lft, List.getD_eq_getElem?_getD, show j < n + 1 by omega]
theorem cnt_set {n i : Nat} (h : i < n) : (cnt n i).set (i + 1) 1 = cnt n (i + 1) := by
 apply List.ext_getElem
 ·simp [cnt]
 ·intro j h1 h2
  simp only [cnt, List.getElem_set, List.getElem_map, List.getElem_range]
  by_cases e : i + 1 = j
  ·subst e; simp
  ·rw [if_neg e]
   by_cases h3 : 1 ≤ j ∧ j ≤ i
   ·rw [if_pos h3, if_pos (by omega)]
   ·rw [if_neg h3, if_neg (by omega)]
theorem cnt_last {n : Nat} : cnt n (n + 1) = cnt n n := by
 apply List.map_congr_left
 intro j hj
 have : j < n + 1 := by simpa using hj
 by_cases h3 : 1 ≤ j
 ·rw [if_pos (by omega), if_pos (by omega)]
 ·rw [if_neg (by omega), if_neg (by omega)]
theorem lft_set {n i : Nat} (h : i < n) : (lft n i).set (i + 1) 0 = lft n (i + 1) := by
 apply List.ext_getElem
 ·simp [lft]
 ·intro j h1 h2
  simp only [lft, List.getElem_set, List.getElem_map, List.getElem_range]
  by_cases e : i + 1 = j
  ·subst e; simp
  ·rw [if_neg e]
   by_cases h3 : i < j
   ·rw [if_pos h3, if_pos (by omega)]
   ·rw [if_neg h3, if_neg (by omega)]
theorem lft_last {n : Nat} : lft n (n + 1) = lft n n := by
 apply List.map_congr_left
 intro j hj
 have : j < n + 1 := by simpa using hj
 rw [if_neg (by omega), if_neg (by omega)]
theorem cnt_lft {n : Nat} : cnt n n = lft n 0 := by
 apply List.map_congr_left
 intro j hj
 have : j < n + 1 := by simpa using hj
 by_cases h3 : 1 ≤ j
 ·rw [if_pos (by omega), if_pos (by omega)]
 ·rw [if_neg (by omega), if_neg (by omega)]

theorem on1 {U : UP} {b : Nat} {w0 w : World} (hb : UB U b) (hn : U.n ≤ 1000) {i : Nat} (hi : i ≤ U.n) (h : FS U b w0 w (cnt U.n i)) :
  Calls Tryz.prog 104 #[.int .i64 i, .func (.func 106) #[] #[.pointer (some ⟨b + 3, 0, none⟩)], .pointer (some ⟨b, 0, none⟩), .pointer (some ⟨b + 1, 0, none⟩)] w fun e w' => e = .returned (.tuple #[]) ∧ FS U b w0 w' (cnt U.n (i + 1)) := by
 refine on_ok h.u hn hi (R := fun w' => FS U b w0 w' (cnt U.n (i + 1))) (fun w1 w2 (h1 : FS U b w0 w1 (cnt U.n (i + 1))) k => h1.still hb k) (enters_of Tryz.func106 (by kernel_rfl) rfl) (fun hlt w1 k => ?_) fun e => by subst e; rw [cnt_last]; exact h
 have h1 := h.still hb k
 have hg : (cnt U.n i).getD (i + 1) 0 = 0 := by rw [cnt_get (by omega), if_neg (by omega)]
 have := inc_ok h1.l (j := i + 1) (by omega) (by omega) (by rw [hg]; omega)
 rw [hg] at this
 refine Calls.mono this fun e w' ⟨h2, h3⟩ => ⟨h2, ?_⟩
 subst h3
 rw [← cnt_set hlt]
 exact h1.set hb (by omega) _

/-- The list of what is to be done: a cell, and a block. -/
structure TD (b tc tb cap : Nat) (w : World) (len : Nat) (x : Value) : Prop where
 c : w.cell? ⟨tc, 0, none⟩ = some (.slice (some ⟨tb, 0, none⟩) len cap)
 z : w.frozen? ⟨tc, 0, none⟩ = false
 blk : ∃ cs, w.heap[tb]? = some (.cells cs 3 (0, 0)) ∧ cs[0]? = some x
 lc : b + 4 ≤ tc
 lb : b + 4 ≤ tb
 ne : tc ≠ tb
 sz : tc < w.heap.size
 sb : tb < w.heap.size
 cp : 1 ≤ cap

theorem TD.step {b tc tb cap len : Nat} {w w' : World} {x : Value} (h : TD b tc tb cap w len x) {Y : Nat → Prop} (k : Keeps Y w w') (h1 : ¬ Y tc) (h2 : ¬ Y tb) : TD b tc tb cap w' len x :=
 ⟨cell_keeps k h1 h.c, by
  have := h.z
  simp only [World.frozen?, k.block tc h.sz h1] at this ⊢
  exact this, let ⟨cs, e1, e2⟩ := h.blk; ⟨cs, (k.block tb h.sb h2).trans e1, e2⟩, h.lc, h.lb, h.ne, Nat.lt_of_lt_of_le h.sz k.size, Nat.lt_of_lt_of_le h.sb k.size, h.cp⟩
theorem TD.still {b tc tb cap len : Nat} {w w' : World} {x : Value} (h : TD b tc tb cap w len x) (k : Keeps (fun _ => False) w w') : TD b tc tb cap w' len x := h.step k id id

theorem set_blk {w : World} {tb t : Nat} {cs : Array Value} {x v : Value} (h : w.heap[tb]? = some (.cells cs t (0, 0))) (hx : cs[0]? = some x) : ∃ cs', (w.setCell ⟨tb, 0, none⟩ v).heap[tb]? = some (.cells cs' t (0, 0)) ∧ cs'[0]? = some v := by
 have hl : 0 < cs.size := (Array.getElem?_eq_some_iff.1 hx).1
 refine ⟨cs.setIfInBounds 0 v, ?_, by simp [hl]⟩
 simp [World.setCell, Array.getElem?_modify, h]

theorem TD.put {b tc tb cap len : Nat} {w : World} {x : Value} (h : TD b tc tb cap w len x) (v : Value) : TD b tc tb cap (w.setCell ⟨tb, 0, none⟩ v) len v := by
 have k := keeps_set1 w tb 0 v
 obtain ⟨cs, e1, e2⟩ := h.blk
 exact ⟨cell_keeps k h.ne h.c, by rw [World.frozen?_setCell]; exact h.z, set_blk e1 e2, h.lc, h.lb, h.ne, Nat.lt_of_lt_of_le h.sz k.size, Nat.lt_of_lt_of_le h.sb k.size, h.cp⟩
theorem TD.head {b tc tb cap len : Nat} {w : World} {x : Value} (h : TD b tc tb cap w len x) (l : Nat) : TD b tc tb cap (w.setCell ⟨tc, 0, none⟩ (.slice (some ⟨tb, 0, none⟩) l cap)) l x := by
 have k := keeps_set1 w tc 0 (.slice (some ⟨tb, 0, none⟩) l cap)
 obtain ⟨cs, e1, e2⟩ := h.blk
 exact ⟨World.cell?_setCell_same _ _ _ h.c, by rw [World.frozen?_setCell]; exact h.z, ⟨cs, (k.block tb h.sb (fun e => h.ne e.symm)).trans e1, e2⟩, h.lc, h.lb, h.ne, Nat.lt_of_lt_of_le h.sz k.size, Nat.lt_of_lt_of_le h.sb k.size, h.cp⟩

theorem on3 {U : UP} {b tc tb cap : Nat} {w0 w : World} {x : Value} (hb : UB U b) (hn : U.n ≤ 1000) {i : Nat} (hi : i ≤ U.n) (h : FS U b w0 w (lft U.n i)) (ht : TD b tc tb cap w 0 x) :
  Calls Tryz.prog 104 #[.int .i64 i, .func (.func 107) #[] #[.pointer (some ⟨b + 3, 0, none⟩), .pointer (some ⟨tc, 0, none⟩)], .pointer (some ⟨b, 0, none⟩), .pointer (some ⟨b + 1, 0, none⟩)] w fun e w' => e = .returned (.tuple #[]) ∧ FS U b w0 w' (lft U.n (i + 1)) ∧ (i < U.n → TD b tc tb cap w' 1 (.int .i64 ((i : Int) + 1))) ∧ (i = U.n → TD b tc tb cap w' 0 x) := by
 refine on_ok h.u hn hi (R := fun w' => FS U b w0 w' (lft U.n (i + 1)) ∧ (i < U.n → TD b tc tb cap w' 1 (.int .i64 ((i : Int) + 1))) ∧ (i = U.n → TD b tc tb cap w' 0 x)) (fun w1 w2 h1 k => ⟨h1.1.still hb k, fun e => (h1.2.1 e).still k, fun e => (h1.2.2 e).still k⟩) (enters_of Tryz.func107 (by kernel_rfl) rfl) (fun hlt w1 k => ?_) fun e => ⟨by subst e; rw [lft_last]; exact h, fun h => by omega, fun _ => ht⟩
 have h1 := h.still hb k
 have t1 := ht.still k
 have hg : (lft U.n i).getD (i + 1) 0 = 1 := by rw [lft_get (by omega), if_pos (by omega)]
 have l1 := t1.lc
 have l2 := t1.lb
 have := dec_ok h1.l (j := i + 1) (tb := tb) (tc := tc) (by omega) (by omega) hg t1.c t1.cp t1.z (let ⟨cs, e1, e2⟩ := t1.blk; ⟨cs, x, e1, e2⟩) t1.sz (by omega) (by omega) t1.ne
 refine Calls.mono this fun e w' ⟨h2, h3⟩ => ⟨h2, ?_⟩
 subst h3
 have g1 : FS U b w0 (w1.setCell ⟨b + 2, i + 1, none⟩ (.int .i64 0)) (lft U.n (i + 1)) := by
  rw [← lft_set hlt]
  exact h1.set hb (by omega) _
 have g2 := g1.still hb (keeps_alloc _ (.cells #[.int .i64 ((i + 1 : Nat) : Int)] 3))
 have g3 := g2.step hb (keeps_set1 _ tb 0 (.int .i64 ((i + 1 : Nat) : Int))) fun y e => by omega
 have g4 := g3.step hb (keeps_set1 _ tc 0 (.slice (some ⟨tb, 0, none⟩) 1 cap)) fun y e => by omega
 have t2 := t1.step (keeps_set1 w1 (b + 2) (i + 1) (.int .i64 0)) (fun e => by omega) (fun e => by omega)
 have t3 := t2.still (keeps_alloc _ (.cells #[.int .i64 ((i + 1 : Nat) : Int)] 3))
 have t4 := (t3.put (.int .i64 ((i + 1 : Nat) : Int))).head 1
 exact ⟨g4, fun _ => t4, fun e => by omega⟩
end Go.Ab

/- A chain has no cycle: heaviest.forward. -/
namespace Go.Ab
open Go.Proofs Go.Shelf
set_option maxRecDepth 100000

theorem info3 : (Tryz.prog.info? 3).map (fun i => (i.zero, i.size, i.bytes)) = some (some (.int .i64 0), 1, 8) := by kernel_rfl
theorem und31 : Tryz.prog.underlying 31 = some (.slice 3) := by kernel_rfl

theorem made_get (n i : Nat) (h : i < n) : (madeCells #[Value.int .i64 0] (n * 1))[i]? = some (.int .i64 0) := by
 unfold madeCells
 simp [h, Nat.mod_one]

theorem run_mk (n : Nat) (hn : (n : Int) ≤ 1000000) (w : World) : (Instr.makeSlice 31 (.int .i64 (n : Int)) (.int .i64 (n : Int))).run Tryz.prog w = .ok (.slice (some ⟨w.heap.size, 0, none⟩) n n) (w.alloc (.cells (madeCells #[Value.int .i64 0] (n * 1)) 3)) := by
 obtain ⟨i, hi, hz, h1, h2⟩ := info_parts info3
 have h := run_make (P := Tryz.prog) w 31 3 i _ und31 hi hz .i64 .i64 (n : Int) (n : Int) (by omega) (by omega) (by rw [h2]; omega) (by omega)
 rw [h1] at h
 exact h

/-- What an old world says of a chain. -/
structure UO (U : UP) (w : World) : Prop where
 hdr : ∀ i, i < U.n → w.cell? ⟨U.nb, U.no + i * 4 + 2, none⟩ = some (.slice (some ⟨U.xb i, U.xo i, none⟩) 1 (U.xc i))
 last : w.cell? ⟨U.nb, U.no + U.n * 4 + 2, none⟩ = some (.slice U.pe 0 U.ce)
 next : ∀ i, i < U.n → w.cell? ⟨U.xb i, U.xo i, none⟩ = some (.int .i64 (i + 1))
 is : ∀ i, i ≤ U.n → w.cell? ⟨U.rb, U.ro + i, none⟩ = some (.bool true)

def uCells (U : UP) : Array Value := #[U.v0, .slice (some ⟨U.nb, U.no, none⟩) (U.n + 1) U.nc, .slice U.pl 0 U.cl, U.v3, U.v4, U.v5, U.v6, U.v7, U.v8, U.v9]
def rHdr (U : UP) : Value := .slice (some ⟨U.rb, U.ro, none⟩) (U.n + 1) U.rc

/-- The world in which the counting begins. -/
def w4 (U : UP) (w : World) : World := (((w.alloc (.cells (uCells U) 34)).alloc (.cells #[rHdr U] 61)).alloc (.cells (madeCells #[Value.int .i64 0] ((U.n + 1) * 1)) 3)).alloc (.cells #[.slice (some ⟨w.heap.size + 2, 0, none⟩) (U.n + 1) (U.n + 1)] 31)

theorem alloc_at (w : World) (o : Go.Obj) : (w.alloc o).heap[w.heap.size]? = some o := by
 show (w.heap.push o)[w.heap.size]? = _
 simp
theorem FS.start {U : UP} {w : World} (hb : UB U w.heap.size) (h : UO U w) : FS U w.heap.size w (w4 U w) (cnt U.n 0) := by
 have k1 := keeps_alloc w (.cells (uCells U) 34)
 have k2 := keeps_alloc (w.alloc (.cells (uCells U) 34)) (.cells #[rHdr U] 61)
 have k3 := keeps_alloc ((w.alloc (.cells (uCells U) 34)).alloc (.cells #[rHdr U] 61)) (.cells (madeCells #[Value.int .i64 0] ((U.n + 1) * 1)) 3)
 have k4 := keeps_alloc (((w.alloc (.cells (uCells U) 34)).alloc (.cells #[rHdr U] 61)).alloc (.cells (madeCells #[Value.int .i64 0] ((U.n + 1) * 1)) 3)) (.cells #[.slice (some ⟨w.heap.size + 2, 0, none⟩) (U.n + 1) (U.n + 1)] 31)
 have k34 := k3.trans k4 (fun _ h => h) fun _ _ h => h
 have k234 := k2.trans k34 (fun _ h => h) fun _ _ h => h
 have k := k1.trans k234 (fun _ h => h) fun _ _ h => h
 have s1 : (w.alloc (.cells (uCells U) 34)).heap.size = w.heap.size + 1 := World.size_alloc _ _
 have s2 : ((w.alloc (.cells (uCells U) 34)).alloc (.cells #[rHdr U] 61)).heap.size = w.heap.size + 2 := by rw [World.size_alloc, s1]
 have s3 : (((w.alloc (.cells (uCells U) 34)).alloc (.cells #[rHdr U] 61)).alloc (.cells (madeCells #[Value.int .i64 0] ((U.n + 1) * 1)) 3)).heap.size = w.heap.size + 3 := by rw [World.size_alloc, s2]
 have s4 : (w4 U w).heap.size = w.heap.size + 4 := by unfold w4; rw [World.size_alloc, s3]
 have a2 := alloc_at (w.alloc (.cells (uCells U) 34)) (.cells #[rHdr U] 61)
 rw [s1] at a2
 have a3 : (((w.alloc (.cells (uCells U) 34)).alloc (.cells #[rHdr U] 61)).alloc (.cells (madeCells #[Value.int .i64 0] ((U.n + 1) * 1)) 3)).heap[w.heap.size + 2]? = some (.cells (madeCells #[Value.int .i64 0] ((U.n + 1) * 1)) 3 (0, 0)) := by
  have := alloc_at ((w.alloc (.cells (uCells U) 34)).alloc (.cells #[rHdr U] 61)) (.cells (madeCells #[Value.int .i64 0] ((U.n + 1) * 1)) 3)
  rw [s2] at this
  exact this
 have a4 : (w4 U w).heap[w.heap.size + 3]? = some (.cells #[.slice (some ⟨w.heap.size + 2, 0, none⟩) (U.n + 1) (U.n + 1)] 31 (0, 0)) := by
  have := alloc_at (((w.alloc (.cells (uCells U) 34)).alloc (.cells #[rHdr U] 61)).alloc (.cells (madeCells #[Value.int .i64 0] ((U.n + 1) * 1)) 3)) (.cells #[.slice (some ⟨w.heap.size + 2, 0, none⟩) (U.n + 1) (U.n + 1)] 31)
  rw [s3] at this
  exact this
 have b3 : (w4 U w).heap[w.heap.size + 2]? = some (.cells (madeCells #[Value.int .i64 0] ((U.n + 1) * 1)) 3 (0, 0)) := (k4.block _ (by rw [s3]; omega) id).trans a3
 refine ⟨k.mono fun _ h => h.elim, ⟨(k234.block _ (by rw [s1]; omega) id).trans (alloc_at w _), fun i hi => cell_keeps k id (h.hdr i hi), cell_keeps k id h.last, fun i hi => cell_keeps k id (h.next i hi), (k34.block _ (by rw [s2]; omega) id).trans a2, fun i hi => cell_keeps k id (h.is i hi), by rw [s4]; omega, by rw [s4]; omega⟩,
  ⟨?_, fun i hi => ?_, fun i hi => ?_, by simp [cnt], by omega, by rw [s4]; omega⟩, by rw [s4]; omega⟩
 ·rw [cell_of_blk a4 0]; rfl
 ·rw [cell_of_blk b3 i, made_get _ _ hi, cnt_get (by omega), if_neg (by omega)]
 ·simp [World.frozen?, b3]

theorem td_start {b c : Nat} {w : World} (hs : b + 3 < w.heap.size) (hc : 1 ≤ c) (z : Array Value) :
  TD b w.heap.size (w.heap.size + 1 + 1) c (((w.alloc (.cells #[.slice (some ⟨w.heap.size + 1 + 1, 0, none⟩) 1 c] 31)).alloc (.cells #[.int .i64 0] 3)).alloc (.cells (#[.int .i64 0] ++ z) 3)).drew 1 (.int .i64 0) := by
 have k2 := keeps_alloc (w.alloc (.cells #[.slice (some ⟨w.heap.size + 1 + 1, 0, none⟩) 1 c] 31)) (.cells #[.int .i64 0] 3)
 have k3 := (keeps_alloc ((w.alloc (.cells #[.slice (some ⟨w.heap.size + 1 + 1, 0, none⟩) 1 c] 31)).alloc (.cells #[.int .i64 0] 3)) (.cells (#[.int .i64 0] ++ z) 3)).drew
 have k23 := k2.trans k3 (fun _ h => h) fun _ _ h => h
 have s1 : (w.alloc (.cells #[.slice (some ⟨w.heap.size + 1 + 1, 0, none⟩) 1 c] 31)).heap.size = w.heap.size + 1 := World.size_alloc _ _
 have s2 : ((w.alloc (.cells #[.slice (some ⟨w.heap.size + 1 + 1, 0, none⟩) 1 c] 31)).alloc (.cells #[.int .i64 0] 3)).heap.size = w.heap.size + 2 := by rw [World.size_alloc, s1]
 have a1 := (k23.block _ (by rw [s1]; omega) id).trans (alloc_at w (.cells #[.slice (some ⟨w.heap.size + 1 + 1, 0, none⟩) 1 c] 31))
 have a3 := alloc_at ((w.alloc (.cells #[.slice (some ⟨w.heap.size + 1 + 1, 0, none⟩) 1 c] 31)).alloc (.cells #[.int .i64 0] 3)) (.cells (#[.int .i64 0] ++ z) 3)
 rw [s2] at a3
 have s3 : (((w.alloc (.cells #[.slice (some ⟨w.heap.size + 1 + 1, 0, none⟩) 1 c] 31)).alloc (.cells #[.int .i64 0] 3)).alloc (.cells (#[.int .i64 0] ++ z) 3)).drew.heap.size = w.heap.size + 3 := by
  show (((w.alloc (.cells #[.slice (some ⟨w.heap.size + 1 + 1, 0, none⟩) 1 c] 31)).alloc (.cells #[.int .i64 0] 3)).alloc (.cells (#[.int .i64 0] ++ z) 3)).heap.size = _
  rw [World.size_alloc, s2]
 refine ⟨by rw [cell_of_blk a1 0]; rfl, ?_, ⟨(#[Value.int .i64 0] ++ z : Array Value), a3, ?_⟩, by omega, by omega, by omega, by rw [s3]; omega, by rw [s3]; omega, hc⟩
 ·unfold World.frozen?
  rw [a1]
  rfl
 ·rw [Array.getElem?_append_left (by simp)]
  rfl

theorem fwd_walk {U : UP} {w : World} (hb : UB U w.heap.size) (hn : U.n ≤ 1000) (h : UO U w) :
  Calls Tryz.prog 66 #[.agg (uCells U), rHdr U] w fun e w' => e = .returned (.bool true) ∧ Keeps (fun _ => False) w w' := by
 have hF := FS.start hb h
 have ho1 : ∀ i, i ≤ U.n → ∀ w1, FS U w.heap.size w w1 (cnt U.n i) → _ := fun i hi w1 h1 => on1 hb hn hi h1
 have hmk : ∀ w, (Instr.makeSlice 31 (.int .i64 ((U.n : Int) + 1)) (.int .i64 ((U.n : Int) + 1))).run Tryz.prog w = .ok (.slice (some ⟨w.heap.size, 0, none⟩) (U.n + 1) (U.n + 1)) (w.alloc (.cells (madeCells #[Value.int .i64 0] ((U.n + 1) * 1)) 3)) := fun w => by
  have := run_mk (U.n + 1) (by omega) w
  rw [show ((U.n + 1 : Nat) : Int) = (U.n : Int) + 1 by omega] at this
  exact this
 have hst : ∀ (w : World) (a : Addr) (m : Mode) (fn : Fn) (first captured : Array Value), (store a (.func fn first captured) m).run Tryz.prog w = stored Tryz.prog w a (.func fn first captured) m := fun w a m fn first captured => run_store Tryz.prog w a _ m rfl
 have hb' := hb
 clear hb h
 simp only [w4, uCells, rHdr, Nat.mul_one] at hF
 unfold uCells rHdr
 go_enter Tryz.func66, Tryz.ntmps66
 go_wp2_with fail
 go_loopg [21] (U.n + 1) (fun k s21 wr => ∃ i : Nat, s21 = .int .i64 i ∧ i ≤ U.n + 1 ∧ k = U.n + 1 - i ∧ FS U w.heap.size w wr (cnt U.n i))
 case atStart => exact ⟨0, rfl, by omega, by omega, hF⟩
 case round =>
  obtain ⟨i, rfl, hi, hk, hF1⟩ := hrel
  clear hF
  by_cases hlt : i ≤ U.n
  ·have hl1 : (i : Int) < U.n + 1 := by omega
   have hc := ho1 i hlt _ hF1
   go_wp2_with (go_at_call 104; refine hc.mono ?_; rintro e w' ⟨rfl, hF2⟩)
   go_roundg (U.n - i)
   case measure => omega
   case rel => exact ⟨i + 1, rfl, by omega, by omega, hF2⟩
  ·have hi' : i = U.n + 1 := by omega
   subst hi'
   rw [cnt_last, cnt_lft] at hF1
   clear ho1 hk hi hlt hmk
   obtain ⟨wq, hwq⟩ : ∃ x, x = wr := ⟨_, rfl⟩
   subst hwq
   have hF2 := hF1.still hb' (keeps_alloc wq (.cells #[.slice none 0 0] 31))
   have c1 : (wq.alloc (.cells #[.slice none 0 0] 31)).cell? ⟨w.heap.size + 1 + 1 + 1, 0, none⟩ = some (.slice (some ⟨w.heap.size + 1 + 1, 0, none⟩) (U.n + 1) (U.n + 1)) := hF2.l.hdr
   have c2 : (wq.alloc (.cells #[.slice none 0 0] 31)).cell? ⟨w.heap.size + 1 + 1, 0, none⟩ = some (.int .i64 0) := by
    have := hF2.l.at' 0 (by omega)
    rw [lft_get (by omega), if_neg (by omega)] at this
    exact this
   have hS := hF1.s
   go_wp2_with fail
   go_loopg [31] (U.n + 1) (fun k s31 wr2 => ∃ i : Nat, s31 = .int .i64 i ∧ i ≤ U.n + 1 ∧ k = U.n + 1 - i ∧ ((i = 0 ∧ wr2 = wq.alloc (.cells #[.slice none 0 0] 31)) ∨ (1 ≤ i ∧ FS U w.heap.size w wr2 (lft U.n 0) ∧ ∃ tb cap, TD w.heap.size wq.heap.size tb cap wr2 1 (.int .i64 0))))
   case atStart => exact ⟨0, rfl, by omega, by omega, .inl ⟨rfl, rfl⟩⟩
   case round =>
    obtain ⟨i, rfl, hi, hk, hrel⟩ := hrel
    rcases hrel with ⟨rfl, rfl⟩ | ⟨h1, hF3, tb, cap, ht⟩
    ·have hl0 : (0 : Int) < U.n + 1 := by omega
     go_wp2_with fail
     go_roundg U.n
     case measure => omega
     case rel => exact ⟨1, rfl, by omega, by omega, .inr ⟨Nat.le_refl _, ((hF1.still hb' (keeps_alloc _ _)).still hb' (keeps_alloc _ _)).still hb' (keeps_alloc _ _).drew, _, _, td_start (by omega) (by show 1 ≤ 1 + _; omega) _⟩⟩
    ·clear c1 c2 hF1 hF2
     by_cases hlt : i ≤ U.n
     ·have c3 : wr.cell? ⟨w.heap.size + 1 + 1, i, none⟩ = some (.int .i64 1) := by
       have := hF3.l.at' i (by omega)
       rw [lft_get hlt, if_pos (by omega)] at this
       exact this
      have hl1 : (i : Int) < U.n + 1 := by omega
      go_wp2_with fail
      go_roundg (U.n - i)
      case measure => omega
      case rel => exact ⟨i + 1, rfl, by omega, by omega, .inr ⟨by omega, hF3, tb, cap, ht⟩⟩
     ·have hi' : i = U.n + 1 := by omega
      subst hi'
      clear hk hi hlt h1
      generalize wq.heap.size = T at *
      go_wp2_with fail
      go_loopg [11] (U.n + 1) (fun k s11 wr3 => ∃ i : Nat, s11 = .int .i64 i ∧ i ≤ U.n + 1 ∧ k = U.n + 1 - i ∧ FS U w.heap.size w wr3 (lft U.n i) ∧ (i ≤ U.n → TD w.heap.size T tb cap wr3 1 (.int .i64 i)) ∧ (i = U.n + 1 → ∃ x, TD w.heap.size T tb cap wr3 0 x))
      case atStart => exact ⟨0, rfl, by omega, by omega, hF3, fun _ => ht, fun h => by omega⟩
      case round =>
       obtain ⟨i, rfl, hi, hk, hF4, ht1, ht2⟩ := hrel
       clear hF3 ht
       by_cases hlt : i ≤ U.n
       ·have ht3 := ht1 hlt
        have c3 := ht3.c
        have c4 : wr.cell? ⟨tb, 0, none⟩ = some (.int .i64 i) := by
         obtain ⟨cs, e1, e2⟩ := ht3.blk
         exact (cell_of_blk e1 0).trans e2
        have c5 := ht3.z
        have hl1 : (i : Int) < U.n + 1 := by omega
        have hcp := ht3.cp
        have hlc := ht3.lc
        have hc := on3 hb' hn hlt (hF4.step hb' (keeps_set1 wr T 0 (.slice (some ⟨tb, 0, none⟩) 0 cap)) fun y e => by omega) (ht3.head 0)
        clear ht1 ht2
        go_wp2_with (go_at_call 104; refine hc.mono ?_; rintro e w' ⟨rfl, hF5, h5, h6⟩)
        go_roundg (U.n - i)
        case measure => omega
        case rel => exact ⟨i + 1, rfl, by omega, by omega, hF5, fun h => h5 (by omega), fun h => ⟨_, h6 (by omega)⟩⟩
       ·have hi' : i = U.n + 1 := by omega
        obtain ⟨x, ht4⟩ := ht2 hi'
        subst hi'
        have c3 := ht4.c
        have c1 : wr.cell? ⟨w.heap.size, 1, none⟩ = some (.slice (some ⟨U.nb, U.no, none⟩) (U.n + 1) U.nc) := (cell_of_blk hF4.u.u 1).trans rfl
        have hK := hF4.k
        clear ht1 ht2 ht4 hF4 hlt hi hk
        go_wp2_with fail
        go_ret
        exact ⟨by simp, hK.os, hK.tape, hK.output, hK.size, fun b hb _ => hK.block b hb (by omega)⟩
end Go.Ab

/- Two functions of which only a law is used: sorting of terms, and the search for cycles of a chain. -/
namespace Go.Ab

/-- A node of a chain, and the last one. -/
def nodeC (i : Nat) : D := .agg [.int 0, .int 0, .slc [.int ((i : Int) + 1)], .slc []]
def nodeE : D := .agg [.int 0, .int 0, .slc [], .slc []]
def nodesC (n : Nat) : List D := (List.range n).map nodeC ++ [nodeE]
/-- A unit that is a chain. -/
def chU (n : Nat) : D := .agg [.str ByteArray.empty, .slc (nodesC n), .slc [], .slc [], .slc [], .slc [], .slc [], .slc [], .slc [], .slc []]
def trues (n : Nat) : D := .slc (List.replicate n (.bool true))
def tmD (p : Int × Int) : D := .agg [.int p.1, .int p.2]

/-- Sorting by the first part. -/
def sortPost (ds r : List D) : Prop := ∃ l l' : List (Int × Int), ds = [.slc (l.map tmD), .fn 116 []] ∧ (∀ p ∈ l, 0 ≤ p.1 ∧ p.1 < 4000000000) ∧ l.length ≤ 1000000 ∧ r = [.slc (l'.map tmD)] ∧ l'.Perm l ∧ l'.Pairwise fun p q => p.1 ≤ q.1
/-- A chain has no cycle. -/
def fwdPost (ds r : List D) : Prop := ∃ n : Nat, n ≤ 1000 ∧ ds = [chU n, trues (n + 1)] ∧ r = [.bool true]
def spL (f : Nat) : Option (List D → List D → Prop) := cond (Nat.beq f 115) (some sortPost) (cond (Nat.beq f 66) (some fwdPost) none)

end Go.Ab

/- What is known ahead of each function: which memory is owned, lent, read. -/
set_option linter.unusedVariables false
namespace Go.Ab
open Go.Proofs
def sigL : List (Nat × Sig) := [(3, ⟨[.imm 22], [.val 4 .imm], []⟩),
 (4, ⟨[], [.val 4 .imm], []⟩),
 (5, ⟨[.imm 34, .imm 36], [.val 3 .imm, .val 40 .imm], []⟩),
 (6, ⟨[.imm 34, .imm 36], [.val 46 .imm, .val 40 .imm], []⟩),
 (7, ⟨[.imm 34, .imm 36], [.val 51 .imm, .val 40 .imm], []⟩),
 (8, ⟨[.imm 46, .imm 31], [.val 3 .imm, .val 4 .imm], []⟩),
 (9, ⟨[.imm 46, .imm 51], [.val 40 .imm], []⟩),
 (10, ⟨[.imm 34, .imm 36], [.val 40 .imm], []⟩),
 (11, ⟨[.imm 34], [.val 59 (.slc (.slc .imm none) none)], []⟩),
 (12, ⟨[.imm 34, .imm 36, .imm 61], [.val 3 .imm, .val 4 .imm], []⟩),
 (13, ⟨[.imm 34], [.val 63 (.slc .imm none)], []⟩),
 (14, ⟨[.imm 34], [.val 3 .imm], []⟩),
 (15, ⟨[.imm 34], [.val 61 (.slc .imm none)], []⟩),
 (16, ⟨[.imm 34, .imm 63, .imm 3], [.val 43 (.slc (.agg [(0, (.slc .imm none))]) none)], []⟩),
 (17, ⟨[.imm 34, .imm 63, .imm 69], [.val 71 (.agg [(0, (.slc .imm none))])], []⟩),
 (18, ⟨[.imm 63, .imm 73], [.val 71 (.agg [(0, (.slc .imm none))])], []⟩),
 (19, ⟨[.imm 34, .imm 36, .imm 31], [.val 75 .imm], []⟩),
 (20, ⟨[.imm 31], [.val 44 (.slc .imm none)], []⟩),
 (21, ⟨[.imm 46], [.val 4 .imm], []⟩),
 (22, ⟨[.imm 34], [.val 61 (.slc .imm none)], []⟩),
 (23, ⟨[.imm 44, .imm 88], [.val 4 .imm], []⟩),
 (24, ⟨[.imm 87], [.val 4 .imm], []⟩),
 (25, ⟨[.imm 63, .imm 44], [.val 31 (.slc .imm none), .val 3 .imm], []⟩),
 (26, ⟨[.iptr 83], [.val 3 .imm], []⟩),
 (27, ⟨[.lent 83 (.agg [(4, (.slc .imm none))]) true, .imm 3, .imm 3, .imm 61, .imm 84], [], []⟩),
 (28, ⟨[.imm 46, .imm 51], [.val 40 .imm], []⟩),
 (29, ⟨[.imm 46], [.val 4 .imm], []⟩),
 (30, ⟨[.imm 46, .imm 51], [.val 4 .imm], []⟩),
 (31, ⟨[.imm 44, .imm 3], [.val 71 .imm, .val 71 (.agg [(0, (.slc .imm none))])], []⟩),
 (32, ⟨[.imm 46, .imm 43, .imm 98], [.val 3 .imm, .val 4 .imm, .val 4 .imm], []⟩),
 (33, ⟨[.imm 34], [.val 4 .imm], []⟩),
 (34, ⟨[.imm 34, .imm 36], [.val 4 .imm], []⟩),
 (35, ⟨[.imm 61, .imm 31], [.val 61 (.slc .imm none)], []⟩),
 (36, ⟨[.imm 34, .imm 3], [.val 31 .imm], []⟩),
 (37, ⟨[.imm 34, .imm 36, .imm 61], [.val 31 .imm, .val 61 .imm, .val 4 .imm], []⟩),
 (38, ⟨[.imm 31, .imm 113], [.val 4 .imm], []⟩),
 (39, ⟨[.imm 3, .iptr 34], [.val 4 .imm], []⟩),
 (40, ⟨[.imm 31, .imm 3], [.val 43 (.slc (.agg [(0, (.slc .imm none))]) none)], []⟩),
 (41, ⟨[.imm 31, .imm 3], [.val 4 .imm], []⟩),
 (42, ⟨[.imm 75, .imm 117], [.val 75 .imm], []⟩),
 (43, ⟨[.imm 34, .imm 36, .imm 31], [.val 75 (.slc .imm none)], []⟩),
 (44, ⟨[.imm 78, .iptr 61], [.val 4 .imm], []⟩),
 (45, ⟨[.imm 46, .imm 3, .imm 3, .imm 3, .imm 3, .imm 3, .imm 3], [.val 4 .imm], []⟩),
 (46, ⟨[.imm 87], [.val 4 .imm], []⟩),
 (47, ⟨[.imm 44, .imm 88], [.val 3 .imm], []⟩),
 (48, ⟨[.iptr 83, .imm 61, .imm 84], [.val 98 (.agg [(2, (.slc .imm none)), (4, (.slc .imm none))])], []⟩),
 (49, ⟨[.iptr 83, .imm 31], [.val 31 (.slc .imm none), .val 3 .imm], []⟩),
 (50, ⟨[.iptr 83, .imm 31, .imm 31, .imm 3], [.val 3 .imm], []⟩),
 (51, ⟨[.imm 84], [.val 84 (.slc .imm none)], []⟩),
 (52, ⟨[.imm 46, .imm 51], [.val 4 .imm], []⟩),
 (53, ⟨[.imm 51], [.val 96 (.slc .imm none)], []⟩),
 (54, ⟨[.imm 96, .imm 126], [.val 4 .imm], []⟩),
 (55, ⟨[.imm 43, .iptr 46], [.val 4 .imm], []⟩),
 (56, ⟨[.imm 98], [.val 4 .imm], []⟩),
 (57, ⟨[.imm 46, .imm 43, .imm 98], [.val 3 .imm, .val 4 .imm, .val 4 .imm], []⟩),
 (58, ⟨[.imm 71, .imm 3], [.val 4 .imm], []⟩),
 (59, ⟨[.imm 44, .imm 3, .imm 3], [.val 4 .imm], []⟩),
 (60, ⟨[.imm 98], [.val 4 .imm], []⟩),
 (61, ⟨[.imm 46, .imm 44, .imm 3], [.val 4 .imm], []⟩),
 (62, ⟨[.imm 44, .imm 3], [.val 3 .imm], []⟩),
 (63, ⟨[.imm 3, .iptr 34], [.val 4 .imm], []⟩),
 (64, ⟨[.imm 34, .imm 3, .imm 61], [.val 4 .imm], []⟩),
 (65, ⟨[.imm 34], [.val 4 .imm], []⟩),
 (66, ⟨[.imm 34, .imm 61], [.val 4 .imm], []⟩),
 (67, ⟨[.imm 3], [.val 4 .imm], []⟩),
 (68, ⟨[.imm 61], [.val 61 (.slc .imm none)], []⟩),
 (69, ⟨[.imm 34, .imm 36, .imm 61], [.val 4 .imm], []⟩),
 (70, ⟨[.imm 34, .imm 36, .imm 61], [.val 31 (.slc .imm none), .val 136 (.slc (.slc .imm none) none)], []⟩),
 (71, ⟨[.imm 34, .imm 36, .imm 61, .imm 75], [.val 31 .imm, .val 61 .imm], []⟩),
 (72, ⟨[.imm 31, .imm 113], [.val 3 .imm], []⟩),
 (73, ⟨[.imm 31, .imm 3], [.val 3 .imm], []⟩),
 (74, ⟨[.imm 75, .imm 117], [.val 3 .imm], []⟩),
 (75, ⟨[.imm 34, .imm 145], [.val 75 (.slc .imm none)], []⟩),
 (76, ⟨[.imm 147, .imm 3, .imm 3], [.val 3 .imm], []⟩),
 (77, ⟨[.imm 44, .imm 3, .imm 3], [.val 4 .imm], []⟩),
 (78, ⟨[.imm 3, .imm 3], [.val 4 .imm], []⟩),
 (79, ⟨[.imm 43, .imm 150], [.val 4 .imm], []⟩),
 (80, ⟨[.imm 71, .iptr 46, .iptr 3, .iptr 3], [.val 4 .imm], []⟩),
 (81, ⟨[.imm 87], [.val 4 .imm], []⟩),
 (82, ⟨[.lent 152 .mp false, .imm 3, .imm 3], [], []⟩),
 (83, ⟨[.lent 152 .mp false, .imm 3], [.val 98 (.agg [(2, (.slc .imm none)), (4, (.slc .imm none))])], []⟩),
 (84, ⟨[.iptr 83, .imm 61, .imm 84, .imm 61], [.val 98 (.agg [(2, (.slc .imm none)), (4, (.slc .imm none))])], []⟩),
 (85, ⟨[.imm 34, .imm 36, .imm 61], [.val 31 (.slc .imm none), .val 4 .imm], []⟩),
 (86, ⟨[.imm 75, .imm 61, .imm 31, .imm 61, .imm 3], [.val 31 (.slc .imm none)], []⟩),
 (87, ⟨[.iptr 83, .lent 152 .mp false, .imm 61, .imm 84, .imm 31], [], []⟩),
 (88, ⟨[.iptr 83, .lent 152 .mp false, .imm 31], [], []⟩),
 (89, ⟨[.iptr 83], [.val 3 .imm], []⟩),
 (90, ⟨[.imm 44, .imm 44], [.val 4 .imm], []⟩),
 (91, ⟨[.imm 98], [.val 163 .imm], []⟩),
 (92, ⟨[.imm 61, .imm 4], [.val 4 .imm], []⟩),
 (93, ⟨[.imm 98], [.val 71 .imm, .val 71 .imm], []⟩),
 (94, ⟨[.imm 43], [.val 43 (.slc .imm none)], []⟩),
 (95, ⟨[.imm 96, .imm 126], [.val 3 .imm], []⟩),
 (96, ⟨[.imm 46, .imm 43, .imm 44], [.val 31 (.slc .imm none), .val 3 .imm, .val 4 .imm], []⟩),
 (97, ⟨[.imm 3], [.val 4 .imm], []⟩),
 (98, ⟨[.imm 3, .imm 3], [.val 3 .imm], []⟩),
 (99, ⟨[.imm 3, .iptr 34], [.val 4 .imm], []⟩),
 (100, ⟨[.imm 31, .imm 3], [.val 4 .imm], []⟩),
 (101, ⟨[.imm 3, .iptr 31], [.val 4 .imm], []⟩),
 (102, ⟨[.imm 34, .imm 3, .imm 3], [.val 4 .imm], []⟩),
 (103, ⟨[.imm 3, .iptr 69], [.val 4 .imm], []⟩),
 (104, ⟨[.imm 3, .imm 176, .iptr 34, .iptr 61], [], []⟩),
 (105, ⟨[.imm 34, .imm 3, .imm 3], [.val 3 .imm], []⟩),
 (108, ⟨[.imm 34, .imm 61], [.val 61 (.slc .imm none)], []⟩),
 (109, ⟨[.imm 75, .imm 31], [.val 75 .imm], []⟩),
 (110, ⟨[.imm 75, .imm 61], [.val 75 .imm], []⟩),
 (111, ⟨[.imm 3, .imm 3, .imm 75], [.val 183 (.agg [(0, (.slc .imm none)), (1, (.slc .imm none)), (2, (.slc .imm none))])], []⟩),
 (112, ⟨[.imm 183, .imm 3, .imm 3], [.val 75 (.slc .imm none)], []⟩),
 (113, ⟨[.imm 75], [.val 75 (.slc .imm none)], []⟩),
 (114, ⟨[.imm 43, .imm 150], [.val 3 .imm], []⟩),
 (115, ⟨[.lent 44 (.slc .imm none) false, .imm 189], [], []⟩),
 (116, ⟨[.imm 87, .imm 87], [.val 3 .imm], []⟩),
 (117, ⟨[.imm 3, .iptr 61, .iptr 61], [.val 4 .imm], []⟩),
 (118, ⟨[.imm 84, .imm 191], [.val 3 .imm], []⟩),
 (119, ⟨[.imm 93, .iptr 3], [.val 4 .imm], []⟩),
 (120, ⟨[.imm 61, .imm 4], [.val 3 .imm], []⟩),
 (121, ⟨[.imm 31, .imm 3], [.val 3 .imm, .val 4 .imm], []⟩),
 (122, ⟨[.imm 25, .imm 195], [.val 3 .imm], []⟩),
 (123, ⟨[.imm 69, .iptr 3, .iptr 3], [.val 4 .imm], []⟩),
 (124, ⟨[.imm 75], [.val 75 (.slc .imm none)], []⟩),
 (125, ⟨[.imm 78, .iptr 31], [.val 4 .imm], []⟩),
 (126, ⟨[.imm 78, .iptr 61], [.val 4 .imm], []⟩),
 (127, ⟨[.lent 75 (.slc .imm none) false], [], []⟩),
 (128, ⟨[.lent 44 (.slc .imm none) false, .imm 3, .imm 3, .imm 3, .imm 189], [], []⟩),
 (129, ⟨[.imm 199], [.val 3 .imm], []⟩),
 (130, ⟨[.imm 3, .imm 3], [.val 4 .imm], []⟩),
 (131, ⟨[.imm 3], [.val 4 .imm], []⟩),
 (132, ⟨[.lent 44 (.slc .imm none) false, .imm 3, .imm 3, .imm 189], [], []⟩),
 (133, ⟨[.lent 44 (.slc .imm none) false, .imm 3, .imm 3, .imm 189], [], []⟩),
 (134, ⟨[.lent 44 (.slc .imm none) false, .imm 3, .imm 3, .imm 189], [], []⟩),
 (135, ⟨[.imm 44, .imm 3, .imm 3, .imm 189], [.val 3 .imm, .val 201 .imm], []⟩),
 (136, ⟨[.lent 44 (.slc .imm none) false, .imm 3, .imm 3, .imm 189], [], []⟩),
 (137, ⟨[.lent 44 (.slc .imm none) false, .imm 3, .imm 3, .imm 189], [.val 4 .imm], []⟩),
 (138, ⟨[.lent 44 (.slc .imm none) false, .imm 3, .imm 3, .imm 3, .imm 189], [.val 3 .imm], []⟩),
 (139, ⟨[.lent 44 (.slc .imm none) false, .imm 3, .imm 3, .imm 3, .imm 189], [.val 3 .imm, .val 4 .imm], []⟩),
 (140, ⟨[.imm 208], [.val 3 .imm], []⟩),
 (141, ⟨[.imm 210], [.val 3 .imm], []⟩),
 (142, ⟨[.imm 3], [.val 4 .imm], []⟩),
 (143, ⟨[.lent 44 (.slc .imm none) false, .imm 3, .imm 3, .imm 3, .imm 189], [], []⟩),
 (144, ⟨[.imm 3], [.val 199 .imm], []⟩),
 (145, ⟨[.lent 211 .imm true], [.val 210 .imm], []⟩),
 (146, ⟨[.imm 44, .imm 3, .lent 3 .imm true, .imm 189], [.val 3 .imm], []⟩),
 (147, ⟨[.imm 44, .imm 3, .imm 3, .imm 3, .lent 3 .imm true, .imm 189], [.val 3 .imm], []⟩),
 (148, ⟨[.imm 44, .imm 3, .imm 3, .lent 3 .imm true, .imm 189], [.val 3 .imm, .val 3 .imm], []⟩),
 (164, ⟨[.imm 166, .imm 46, .imm 3], [.val 4 .imm], []⟩),
 (165, ⟨[.imm 44], [.val 4 .imm], []⟩),
 (166, ⟨[.imm 167, .imm 46, .imm 3], [.val 4 .imm], []⟩),
 (167, ⟨[.imm 46, .imm 44, .imm 3], [.val 4 .imm], []⟩)]
def cmdL : List (Nat × List (Nat × List Cmd)) := [(3, [(9, [.weak 3 (.agg [(1, (.slc (.agg [(2, (.slc .imm none))]) none)), (2, (.slc (.agg [(2, (.slc .imm none))]) none)), (3, (.slc (.agg [(1, (.slc .imm none))]) none)), (4, (.slc (.slc .imm none) none)), (5, (.slc (.agg [(0, (.slc .imm none))]) none)), (6, (.slc .imm none)), (7, (.slc .imm none)), (8, (.slc .imm none)), (9, (.slc .imm none))])]), (13, [.weak 3 (.agg [(1, (.slc .imm none)), (2, (.slc (.agg [(2, (.slc .imm none))]) none)), (3, (.slc (.agg [(1, (.slc .imm none))]) none)), (4, (.slc (.slc .imm none) none)), (5, (.slc (.agg [(0, (.slc .imm none))]) none)), (6, (.slc .imm none)), (7, (.slc .imm none)), (8, (.slc .imm none)), (9, (.slc .imm none))])])]),
 (6, [(31, [.frz 8 []])]),
 (7, [(17, [.weak 43 (.agg [(4, (.slc .imm none))])]), (18, [.frz 43 [.fld 4]])]),
 (9, [(13, [.frz 25 [.idx 0]]), (14, [.frz 9 []])]),
 (19, [(2, [.imb 7])]),
 (27, [(17, [.frz 73 []])]),
 (30, [(20, [.frz 25 []])]),
 (52, [(23, [.frz 31 []])]),
 (53, [(7, [.frz 11 [.idx 0]])]),
 (71, [(13, [.frz 12 [.fld 1], .frz 12 [.fld 0]])]),
 (83, [(7, [.unbox 5])]),
 (93, [(8, [.frz 3 []])]),
 (109, [(1, [.imb 3])]),
 (110, [(1, [.imb 3])]),
 (111, [(17, [.unbox 7])])]
def loopL : List (Nat × List (Nat × (List Cmd × List Nat × List Nat))) := [(3, [(7, ([.weak 3 (.agg [(1, (.slc (.agg [(2, (.slc .imm none))]) none)), (2, (.slc (.agg [(2, (.slc .imm none))]) none)), (3, (.slc (.agg [(1, (.slc .imm none))]) none)), (4, (.slc (.slc .imm none) none)), (5, (.slc (.agg [(0, (.slc .imm none))]) none)), (6, (.slc .imm none)), (7, (.slc .imm none)), (8, (.slc .imm none)), (9, (.slc .imm none))])], [0, 3, 4, 5, 22, 23, 24], [3, 4])), (20, ([], [5, 8, 9, 10, 11, 12, 13, 14, 85, 86], [10, 12, 83]))]),
 (5, [(6, ([], [2, 3, 7, 8, 20, 21, 22], [2, 3, 20]))]),
 (6, [(7, ([], [2, 3, 4, 7, 8, 39, 40, 41], [2, 3, 4, 8, 26, 39])), (13, ([], [2, 3, 4, 7, 8, 57, 58, 59], [2, 3, 4, 8, 26])), (18, ([], [2, 3, 4, 7, 8, 74, 75, 76], [2, 3, 4, 8, 26])), (24, ([], [4, 8, 15, 98, 99, 100], [4, 8, 91]))]),
 (7, [(11, ([.thaw 11 (.agg [(0, (.slc .imm none)), (1, (.slc .imm none))]), .home 11], [4, 6, 8, 9, 10, 11, 47, 48, 49], [4, 8, 11, 43, 45]))]),
 (8, [(4, ([], [1, 2, 21, 22, 23], [2])), (10, ([], [1, 2, 35, 36, 37], [2])), (14, ([], [1, 2, 9, 10, 35, 36, 37, 42, 43, 44], [2, 9])), (23, ([], [1, 13, 67, 68, 69], []))]),
 (9, [(7, ([.weak 25 (.slc .imm none)], [2, 3, 5, 27, 28, 29], [2, 3, 25])), (17, ([], [2, 3, 5, 81, 82, 83], [2, 3, 25]))]),
 (11, [(3, ([.home 3], [1, 3, 18, 19, 20], [1, 3, 11])), (7, ([.thaw 6 (.slc .imm none), .home 6], [1, 5, 6, 18, 19, 20, 24, 25, 26], [1, 3, 5, 6, 11]))]),
 (13, [(3, ([.thaw 3 .imm], [1, 3, 9, 10, 11], [1, 3, 9])), (7, ([.thaw 3 .imm, .home 3], [1, 3, 4, 9, 10, 11, 23, 24, 25], [1, 3, 9]))]),
 (14, [(3, ([], [1, 3, 7, 8, 9], [1, 7]))]),
 (15, [(3, ([], [1, 3, 15, 16, 17], [1, 13])), (12, ([], [1, 3, 6], [1, 13, 33])), (16, ([], [1, 3, 6, 47, 48, 49], [1, 13, 33]))]),
 (16, [(8, ([], [2, 7, 8, 9, 33, 34, 35], [14]))]),
 (17, [(3, ([], [5, 6, 7, 13, 14, 15], [5, 6, 12]))]),
 (20, [(3, ([.thaw 3 .imm, .home 3], [3, 6, 7, 8], [3]))]),
 (22, [(3, ([], [3, 13, 14, 15], [11])), (7, ([], [3, 13, 14, 15, 28, 29, 30], [11]))]),
 (25, [(3, ([], [0, 6, 7, 15, 16, 17], [14])), (8, ([], [0, 6, 7, 9, 15, 16, 17, 28, 29, 30], [9, 14]))]),
 (28, [(9, ([], [2, 3, 5, 24, 25, 26], [2, 3, 19]))]),
 (29, [(2, ([], [1, 6, 7, 8], [1]))]),
 (30, [(5, ([], [2, 3, 5, 27, 28, 29], [2, 3, 25])), (13, ([], [2, 3, 5, 6, 27, 28, 29, 69, 70, 71], [2, 3, 25, 69])), (21, ([], [97, 98, 99], []))]),
 (31, [(3, ([.thaw 6 .imm, .home 6], [0, 1, 4, 5, 6, 9, 10, 11], [4, 5, 6]))]),
 (32, [(4, ([], [1, 3, 5, 9, 10, 23, 24, 25], [3, 5, 21])), (13, ([], [1, 3, 5, 9, 10, 12, 13, 23, 24, 25, 67, 68, 69], [3, 5, 12, 13, 21])), (20, ([], [3, 5, 10, 94, 95, 96], [3, 5, 21]))]),
 (33, [(2, ([], [1, 8, 9, 10], [1])), (11, ([], [1, 5, 35, 36], [1, 32]))]),
 (34, [(5, ([], [2, 5, 31, 32, 33], [2]))]),
 (35, [(3, ([], [5, 10, 11, 12], [9]))]),
 (40, [(4, ([.thaw 6 .imm, .home 6], [1, 5, 6, 11, 12, 13], [6, 10]))]),
 (42, [(5, ([], [0, 1, 5, 6], []))]),
 (47, [(2, ([], [0, 1, 7, 8], []))]),
 (48, [(4, ([], [0, 1, 6, 7, 39, 40], [6, 22])), (20, ([], [0, 1, 2, 6, 7, 13, 16, 17, 138, 139, 140], [6, 22, 113, 134, 137])), (27, ([], [0, 6, 7, 173, 174, 175], [6, 22, 113]))]),
 (49, [(3, ([.thaw 6 .imm, .home 6], [0, 6, 9, 10, 11], [6]))]),
 (50, [(3, ([], [0, 1, 2, 3, 9, 18, 19], [16])), (9, ([], [0, 3, 11, 42, 43], [36]))]),
 (52, [(5, ([], [2, 3, 5, 33, 34, 35], [2, 3, 31])), (16, ([], [2, 3, 5, 33, 34, 35, 58, 59, 60], [2, 3, 31, 58]))]),
 (53, [(3, ([.weak 11 (.slc .imm none)], [3, 13, 14, 15], [11]))]),
 (57, [(5, ([], [3, 5, 9, 10, 39, 40, 41], [3, 5, 20]))]),
 (59, [(2, ([], [0, 1, 2, 9, 10, 11], []))]),
 (60, [(2, ([], [1, 6, 7, 8], [1]))]),
 (62, [(2, ([], [1, 7, 8, 9], []))]),
 (64, [(4, ([], [2, 3, 7, 8, 22, 23, 24], [3, 7])), (12, ([], [2, 7, 99, 100, 101], [7])), (15, ([], [2, 7, 11, 99, 100, 101, 107, 108, 109], [7]))]),
 (65, [(2, ([], [1, 11, 12, 13], [1])), (12, ([], [1, 50, 51, 52], [1])), (15, ([], [1, 6, 7, 50, 51, 52, 60, 61, 62], [1, 7]))]),
 (70, [(4, ([.weak 27 .imm], [2, 3, 4, 8, 9, 10], [3, 4, 20, 24, 27])), (11, ([], [2, 3, 4, 8, 9, 10, 11, 13, 62, 63, 64], [3, 4, 11, 13, 20, 24, 27]))]),
 (71, [(8, ([], [5, 10, 12, 39, 40], [5, 12]))]),
 (72, [(2, ([], [0, 1, 7, 8], []))]),
 (73, [(2, ([], [0, 1, 7, 8], []))]),
 (74, [(2, ([], [0, 1, 7, 8], []))]),
 (75, [(3, ([.thaw 5 .imm], [1, 5, 11, 12, 13], [5])), (6, ([.thaw 5 .imm, .home 5], [1, 5, 6, 11, 12, 13, 19, 20, 21], [5]))]),
 (76, [(3, ([], [1, 3, 7, 8, 33, 34, 35], [3]))]),
 (77, [(2, ([], [0, 1, 2, 9, 10, 11], []))]),
 (83, [(3, ([], [0, 4, 5, 11], [0, 4, 5, 11]))]),
 (84, [(4, ([], [0, 1, 2, 3, 8, 9, 10, 20, 21], [8, 15, 18])), (11, ([], [0, 1, 2, 8, 9, 10, 12, 49, 50, 51], [8, 15, 18, 45]))]),
 (86, [(4, ([], [0, 2, 4, 6, 8, 11, 12, 27, 28], [6, 8, 24])), (6, ([], [0, 2, 4, 6, 8, 11, 12, 27, 28, 30, 31, 32], [6, 8, 24])), (13, ([], [0, 2, 4, 6, 8, 11, 12, 67, 68], [6, 8, 24])), (20, ([], [0, 6, 8, 11, 12, 16, 85, 86, 87], [6, 8, 24])), (26, ([], [0, 6, 11, 12, 16, 120, 121], [6, 8, 24])), (32, ([], [6, 11, 135, 136, 137], [6, 24]))]),
 (87, [(1, ([], [0, 1, 2, 3, 15, 16, 17], [1])), (7, ([], [0, 1, 2, 3, 11, 15, 16, 17, 47, 48, 49], [1]))]),
 (88, [(2, ([], [0, 1, 2, 6, 13, 14, 15], [1, 13]))]),
 (90, [(4, ([], [0, 1, 12, 13], []))]),
 (93, [(4, ([], [2, 3, 17, 18, 19], [2, 3]))]),
 (95, [(2, ([], [0, 1, 7, 8], []))]),
 (96, [(3, ([], [1, 3, 9, 10, 20, 21, 22], [3, 19])), (13, ([], [1, 3, 9, 10, 12, 20, 21, 22, 79, 80, 81], [3, 12, 19]))]),
 (102, [(1, ([], [1, 2, 3], [3]))]),
 (104, [(1, ([], [0, 1, 2, 3, 13, 14, 15], []))]),
 (108, [(3, ([], [1, 5, 10, 11, 12], [9]))]),
 (111, [(4, ([], [1, 2, 6, 7, 23, 24], [6, 7])), (7, ([], [1, 2, 6, 7, 8, 23, 24, 26, 27, 28], [6, 7]))]),
 (112, [(3, ([.thaw 7 .imm, .home 7], [1, 3, 7, 8], [3, 7]))]),
 (113, [(3, ([], [3, 8, 9, 10], [7]))]),
 (114, [(2, ([], [0, 1, 7, 8], []))]),
 (118, [(2, ([], [0, 1, 7, 8], []))]),
 (120, [(2, ([], [0, 1, 7, 8], []))]),
 (121, [(3, ([], [0, 1, 6, 7, 8], []))]),
 (122, [(2, ([], [0, 1, 7, 8], []))]),
 (127, [(1, ([], [0, 2, 3], [0]))]),
 (128, [(2, ([], [0, 1, 2, 3, 4, 10, 11], [0]))]),
 (132, [(1, ([], [0, 1, 2, 3, 8], [0])), (4, ([], [0, 1, 2, 3, 8, 9], [0]))]),
 (133, [(4, ([], [0, 3, 8, 9, 10, 11], [0])), (8, ([], [0, 3, 8, 9, 12], [0]))]),
 (134, [(5, ([], [0, 1, 8, 9, 10, 11], [0, 9]))]),
 (136, [(2, ([], [0, 8, 9], [0]))]),
 (137, [(3, ([], [0, 1, 2, 3, 9, 10], [0])), (5, ([], [0, 1, 2, 3, 9, 10], [0])), (14, ([], [0, 1, 2, 3, 9, 10, 11], [0])), (20, ([], [0, 1, 2, 3, 9, 10, 12], [0]))]),
 (138, [(3, ([], [0, 1, 4, 11, 12], [0]))]),
 (139, [(3, ([], [0, 1, 4, 12, 13], [0])), (5, ([], [0, 1, 4, 12, 13], [0])), (13, ([], [0, 1, 4, 12, 13], [0]))]),
 (143, [(1, ([], [0, 2, 3, 4, 10], [0]))]),
 (165, [(2, ([], [0, 5, 6, 7], []))])]
def ownL : List (Nat × List Nat) := [(6, [23, 37, 116]), (7, [42]), (83, [9])]
def A : Ann :=
 { sig := fun f => assoc sigL f ⟨[], [], []⟩, cmd := fun f r => assoc (assoc cmdL f []) r [], loop := fun f r => assoc (assoc loopL f []) r ([], [], []), own := fun f d => (assoc ownL f []).any (Nat.beq d), sp := spL }
end Go.Ab

/- heaviest.forward keeps its law: a chain has no cycle. -/
namespace Go.Ab
open Go.Proofs
set_option maxRecDepth 100000

section
variable {P : Program} {A : Ann}

/-- A result that is only read, where nothing was lent. -/
theorem ret_read {s : Sig} {t : Nat} {X0 Y0 : Nat → Prop} {w w' : World} {phL : Nat → Ph} {v : Value} {d : D} (hrs : s.rs = [.val t .imm]) (hps : (s.ps.all fun | .lent _ _ _ => false | _ => true) = true) (hX : ∀ b, X0 b → b < w.heap.size)
  (hk : Keeps (fun _ => False) w w') (hr : RepV P A X0 w' t v d) : Ret P A X0 Y0 w w' s phL v [d] (fun _ => default) #[v] := by
 have hno := (no_lent hps).1
 have hob : ∀ k, retOb s.rs s.ps [d] k = none := fun k => by
  unfold retOb
  rw [hrs, hno]
  cases k with
  | zero => rfl
  | succ k => rfl
 refine ⟨⟨fun o x hx => ?_, fun o x o' x' hx => ?_, fun o x hx => ?_, fun o x hx => ?_, hX⟩, hk.mono fun _ h => h.elim, by rw [hrs]; rfl, by simp, fun k x hx => ?_, fun j y hy => ?_⟩
 ·rw [hob] at hx; cases hx
 ·rw [hob] at hx; cases hx
 ·rw [hob] at hx; cases hx
 ·rw [hob] at hx; cases hx
 ·rw [hrs] at hx
  cases k with
  | zero =>
   simp only [List.getElem?_cons_zero, Option.some.injEq] at hx
   subst hx
   refine hr.frame (Nat.le_refl _) (fun b _ h => ?_) fun _ _ _ => rfl
   rcases h with h | ⟨o, x, hx, _⟩
   ·exact h
   ·rw [hob] at hx; cases hx
  | succ k => simp at hx
 ·rw [hno] at hy; cases hy

/-- An argument that is only read. -/
theorem Args.read {X0 : Nat → Prop} {w : World} {cs : List Nat} {ps : List PK} {args : Array Value} {ds : List D} {phL : Nat → Ph} (h : Args P A X0 w cs ps args ds phL) {i t : Nat} (hi : ps[i]? = some (.imm t)) : RepV P A (Xof X0 (lookO (initOb 0 ps ds)) phL) w t (args.getD i undef) (ds.getD i .und) := by
 have := h.slots i
 rw [look_init, if_pos (Nat.zero_le _), Nat.sub_zero, hi] at this
 exact this

theorem pick {α : Type} [Inhabited α] {p : Nat → α → Prop} {n : Nat} (h : ∀ i, i < n → ∃ a, p i a) : ∃ f : Nat → α, ∀ i, i < n → p i (f i) := by
 classical
 refine ⟨fun i => if hi : i < n then Classical.choose (h i hi) else default, fun i hi => ?_⟩
 simp only [hi, dif_pos]
 exact Classical.choose_spec (h i hi)

/-- A field of a struct's cells, of one cell. -/
theorem Rep.field {X : Nat → Prop} {w : World} {t : Nat} {cs : List Value} {ds : List D} {fs : List (Nat × Nat)} (hk : tk P t = .struct fs) (h : Rep P A X w t cs (.agg ds)) {j ft off : Nat} (hj : fs[j]? = some (ft, off)) (h1 : P.cellsOf ft = 1) (ho : isAgg (tk P ft) = false) :
  ∃ v, cs[off]? = some v ∧ RepV P A X w ft v (ds.getD j .und) := by
 generalize hd : D.agg ds = d at h
 cases h with
 | struct e1 e2 e3 e4 =>
  injection hd with hd
  subst hd
  rw [hk] at e1
  injection e1 with e1
  subst e1
  have h2 := e4 j ft off hj
  rw [h1] at h2
  have hne : (seg cs off 1).length = 1 → ∃ v, cs[off]? = some v ∧ seg cs off 1 = [v] := fun hl => by
   have hlt : off < cs.length := by
    apply Classical.byContradiction
    intro hn
    have : cs.drop off = [] := List.drop_eq_nil_of_le (by omega)
    rw [seg, this] at hl
    simp at hl
   refine ⟨cs[off], by simp [hlt], ?_⟩
   rw [seg, List.drop_eq_getElem_cons hlt]
   rfl
  obtain ⟨v, g1, g2⟩ : ∃ v, cs[off]? = some v ∧ seg cs off 1 = [v] := by
   cases hs : seg cs off 1 with
   | nil =>
    rw [hs] at h2
    exfalso
    generalize ds.getD j .und = dd at h2
    cases h2 with
    | struct a => rw [a] at ho; cases ho
    | arr a => rw [a] at ho; cases ho
   | cons v l =>
    have hl : (seg cs off 1).length ≤ 1 := by simp [seg, List.length_take]; omega
    rw [← hs]
    exact hne (by rw [hs] at hl ⊢; simp at hl ⊢; exact hl)
  rw [g2] at h2
  exact ⟨v, g1, [v], h2, (mkV_one ho).symm⟩
 | arr e1 => rw [hk] at e1; cases e1
 | _ => cases hd
end

theorem k34 : tk Tryz.prog 34 = .struct [(9, 0), (24, 1), (25, 2), (26, 3), (27, 4), (28, 5), (29, 6), (30, 7), (31, 8), (32, 9)] := by kernel_rfl
theorem k39 : tk Tryz.prog 39 = .struct [(3, 0), (3, 1), (31, 2), (37, 3)] := by kernel_rfl
theorem k24 : tk Tryz.prog 24 = .slc 39 := by kernel_rfl
theorem k25 : tk Tryz.prog 25 = .slc 69 := by kernel_rfl
theorem k31 : tk Tryz.prog 31 = .slc 3 := by kernel_rfl
theorem k61 : tk Tryz.prog 61 = .slc 4 := by kernel_rfl
theorem k3 : tk Tryz.prog 3 = .int .i64 := by kernel_rfl
theorem k4 : tk Tryz.prog 4 = .bool := by kernel_rfl
theorem n39 : Tryz.prog.cellsOf 39 = 4 := by kernel_rfl
theorem n34 : Tryz.prog.cellsOf 34 = 10 := by kernel_rfl
theorem n3 : Tryz.prog.cellsOf 3 = 1 := by kernel_rfl
theorem n4 : Tryz.prog.cellsOf 4 = 1 := by kernel_rfl

section
variable {X : Nat → Prop} {w : World}

theorem int_of {v : Value} {n : Int} (h : RepV Tryz.prog A X w 3 v (.int n)) : v = .int .i64 n := by
 obtain ⟨cs, hr, hv⟩ := h
 generalize hd : D.int n = d at hr
 cases hr with
 | int h =>
  injection hd with hd
  subst hd
  rw [k3] at h
  injection h with h
  subst h
  rw [hv, mkV_one (by rw [k3]; rfl)]
 | _ => cases hd
theorem bool_of {v : Value} {b : Bool} (h : RepV Tryz.prog A X w 4 v (.bool b)) : v = .bool b := by
 obtain ⟨cs, hr, hv⟩ := h
 generalize hd : D.bool b = d at hr
 cases hr with
 | bool h =>
  injection hd with hd
  subst hd
  rw [hv, mkV_one (by rw [k4]; rfl)]
 | _ => cases hd

theorem nil_of {t e : Nat} {v : Value} (hk : tk Tryz.prog t = .slc e) (h : RepV Tryz.prog A X w t v (.slc [])) : ∃ p c, v = .slice p 0 c := by
 rcases rep_slc_inv hk h with ⟨p, e, _⟩ | ⟨b, off, cap, xs, css, e, hd, _⟩
 ·exact ⟨p, 0, e⟩
 ·injection hd with hd
  subst hd
  exact ⟨_, cap, e⟩

/-- One number in a slice. -/
theorem one_of {v : Value} {n : Int} (h : RepV Tryz.prog A X w 31 v (.slc [.int n])) : ∃ b off cap, v = .slice (some ⟨b, off, none⟩) 1 cap ∧ b < w.heap.size ∧ w.cell? ⟨b, off, none⟩ = some (.int .i64 n) := by
 rcases rep_slc_inv k31 h with ⟨p, _, hd⟩ | ⟨b, off, cap, xs, css, e, hd, _, hb, _, h4, h5, h6⟩
 ·cases hd
 ·injection hd with hd
  subst hd
  have l := h4 0 (by simp)
  have r := h5 0 (by simp)
  have m := h6 0 (by simp)
  rw [n3] at l
  obtain ⟨u, hu⟩ : ∃ u, css 0 = [u] := by
   cases hc : css 0 with
   | nil => rw [hc] at l; cases l
   | cons u t => rw [hc] at l; cases t with
    | nil => exact ⟨u, rfl⟩
    | cons _ _ => simp at l
  rw [hu] at r m
  have r0 := r 0 (by simp)
  have : u = .int .i64 n := int_of ⟨[u], m, (mkV_one (by rw [k3]; rfl)).symm⟩
  subst this
  refine ⟨b, off, cap, e, hb, ?_⟩
  simpa using r0

/-- Where a chain lies. -/
theorem chain_at {n : Nat} {v0 v1 : Value} (h0 : RepV Tryz.prog A X w 34 v0 (chU n)) (h1 : RepV Tryz.prog A X w 61 v1 (trues (n + 1))) : ∃ U : UP, U.n = n ∧ UB U w.heap.size ∧ UO U w ∧ v0 = .agg (uCells U) ∧ v1 = rHdr U := by
 obtain ⟨cs, hr, hv⟩ := h0
 have hlen : cs.length = 10 := by
  have : cs.length = Tryz.prog.cellsOf 34 := by
   unfold chU at hr
   generalize hd : D.agg _ = d at hr
   cases hr with
   | struct e1 e2 => exact e2
   | arr e1 => rw [k34] at e1; cases e1
   | _ => cases hd
  rw [this, n34]
 obtain ⟨c1, g1, r1⟩ := Rep.field k34 hr (j := 1) (ft := 24) (off := 1) rfl (by kernel_rfl) (by rw [k24]; rfl)
 obtain ⟨c2, g2, r2⟩ := Rep.field k34 hr (j := 2) (ft := 25) (off := 2) rfl (by kernel_rfl) (by rw [k25]; rfl)
 have r1 : RepV Tryz.prog A X w 24 c1 (.slc (nodesC n)) := r1
 have r2 : RepV Tryz.prog A X w 25 c2 (.slc []) := r2
 obtain ⟨pl, cl, e2⟩ := nil_of k25 r2
 have hnl : (nodesC n).length = n + 1 := by simp [nodesC]
 have hnc : ∀ i, i < n → (nodesC n).getD i .und = nodeC i := fun i hi => by
  simp [nodesC, List.getD_eq_getElem?_getD, List.getElem?_append_left, hi]
 have hne : (nodesC n).getD n .und = nodeE := by
  simp [nodesC, List.getD_eq_getElem?_getD]
 rcases rep_slc_inv k24 r1 with ⟨p, _, hd⟩ | ⟨nb, no, nc, xs, css, e1, hd, _, hb, _, h4, h5, h6⟩
 ·injection hd with hd
  rw [hd] at hnl
  simp at hnl
 injection hd with hd
 subst hd
 rw [hnl] at e1 h4 h5 h6
 rw [n39] at h4 h5
 have hnode : ∀ i, i < n + 1 → ∃ hv, w.cell? ⟨nb, no + i * 4 + 2, none⟩ = some hv ∧ (i < n → RepV Tryz.prog A X w 31 hv (.slc [.int ((i : Int) + 1)])) ∧ (i = n → RepV Tryz.prog A X w 31 hv (.slc [])) := fun i hi => by
  have m := h6 i hi
  have r := h5 i hi 2 (by rw [h4 i hi]; omega)
  obtain ⟨z, z1, z2⟩ : ∃ z, (css i)[2]? = some z ∧ (i < n → RepV Tryz.prog A X w 31 z (.slc [.int ((i : Int) + 1)])) ∧ (i = n → RepV Tryz.prog A X w 31 z (.slc [])) := by
   by_cases hlt : i < n
   ·rw [hnc i hlt] at m
    obtain ⟨z, z1, z2⟩ := Rep.field k39 m (j := 2) (ft := 31) (off := 2) rfl (by kernel_rfl) (by rw [k31]; rfl)
    exact ⟨z, z1, fun _ => z2, fun e => by omega⟩
   ·have e : i = n := by omega
    subst e
    rw [hne] at m
    obtain ⟨z, z1, z2⟩ := Rep.field k39 m (j := 2) (ft := 31) (off := 2) rfl (by kernel_rfl) (by rw [k31]; rfl)
    exact ⟨z, z1, fun e => by omega, fun _ => z2⟩
  exact ⟨z, r.trans z1, z2⟩
 obtain ⟨f, hf⟩ : ∃ f : Nat → Nat × Nat × Nat, ∀ i, i < n → (w.cell? ⟨nb, no + i * 4 + 2, none⟩ = some (.slice (some ⟨(f i).1, (f i).2.1, none⟩) 1 (f i).2.2) ∧ (f i).1 < w.heap.size ∧ w.cell? ⟨(f i).1, (f i).2.1, none⟩ = some (.int .i64 ((i : Int) + 1))) := pick (n := n) (p := fun i (y : Nat × Nat × Nat) => w.cell? ⟨nb, no + i * 4 + 2, none⟩ = some (.slice (some ⟨y.1, y.2.1, none⟩) 1 y.2.2) ∧ y.1 < w.heap.size ∧ w.cell? ⟨y.1, y.2.1, none⟩ = some (.int .i64 ((i : Int) + 1))) fun i hi => by
  obtain ⟨z, z1, z2, _⟩ := hnode i (by omega)
  obtain ⟨b, off, cap, q1, q2, q3⟩ := one_of (z2 hi)
  exact ⟨(b, off, cap), by rw [z1, q1], q2, q3⟩
 obtain ⟨zl, l1, _, l2⟩ := hnode n (by omega)
 obtain ⟨pe, ce, l3⟩ := nil_of k31 (l2 rfl)
 rcases rep_slc_inv k61 h1 with ⟨p, _, hd⟩ | ⟨rb, ro, rc, ys, cst, f1, hd, _, hrb, _, b4, b5, b6⟩
 ·unfold trues at hd
  injection hd with hd
  simp at hd
 unfold trues at hd
 injection hd with hd
 subst hd
 simp only [List.length_replicate] at f1 b4 b5 b6
 rw [n4] at b4 b5
 have hcell : ∀ i, i ≤ n → w.cell? ⟨rb, ro + i, none⟩ = some (.bool true) := fun i hi => by
  have l := b4 i (by omega)
  have r := b5 i (by omega) 0 (by omega)
  have m := b6 i (by omega)
  obtain ⟨u, hu⟩ : ∃ u, cst i = [u] := by
   cases hc : cst i with
   | nil => rw [hc] at l; cases l
   | cons u t => rw [hc] at l; cases t with
    | nil => exact ⟨u, rfl⟩
    | cons _ _ => simp at l
  rw [hu] at r m
  have e3 : (List.replicate (n + 1) (D.bool true)).getD i .und = .bool true := by simp [List.getD_eq_getElem?_getD, show i < n + 1 by omega]
  rw [e3] at m
  have : u = .bool true := bool_of ⟨[u], m, (mkV_one (by rw [k4]; rfl)).symm⟩
  subst this
  simpa using r
 match cs, hlen with
 | [a0, a1, a2, a3, a4, a5, a6, a7, a8, a9], _ =>
  simp only [List.getElem?_cons_succ, List.getElem?_cons_zero, Option.some.injEq] at g1 g2
  subst g1 g2
  refine ⟨⟨n, nb, no, nc, rb, ro, rc, ce, cl, fun i => (f i).1, fun i => (f i).2.1, fun i => (f i).2.2, pe, pl, a0, a3, a4, a5, a6, a7, a8, a9⟩, rfl, ⟨hb, fun i hi => (hf i hi).2.1, hrb⟩, ⟨fun i hi => (hf i hi).1, ?_, fun i hi => (hf i hi).2.2, hcell⟩, ?_, f1⟩
  ·rw [l1, l3]
  ·rw [hv]
   unfold mkV
   rw [k34]
   simp only [isAgg, if_true, uCells]
   rw [e1, e2]
end

theorem fwd_sp {ds : List D} (h : ∃ r, fwdPost ds r) {X0 : Nat → Prop} {w : World} {args : Array Value} {phL : Nat → Ph} (hA : Args Tryz.prog A X0 w (A.sig 66).cel (A.sig 66).ps args ds phL) :
  Calls Tryz.prog 66 args w fun e w' => ∃ v r phR vs, e = .returned v ∧ fwdPost ds r ∧ Ret Tryz.prog A X0 (lentY (A.sig 66).ps ds phL) w w' (A.sig 66) phL v r phR vs := by
 obtain ⟨r, n, hn, rfl, rfl⟩ := h
 have hsig : A.sig 66 = ⟨[.imm 34, .imm 61], [.val 4 .imm], []⟩ := by kernel_rfl
 have h0 := hA.read (i := 0) (t := 34) (by rw [hsig]; rfl)
 have h1 := hA.read (i := 1) (t := 61) (by rw [hsig]; rfl)
 have hsz := hA.asize
 rw [hsig] at hsz
 obtain ⟨U, hU, hb, ho, e0, e1⟩ := chain_at h0 h1
 have hargs : args = #[.agg (uCells U), rHdr U] := by
  apply Array.ext
  ·simpa using hsz
  ·intro i g1 g2
   have : i = 0 ∨ i = 1 := by simp at g2; omega
   rcases this with rfl | rfl
   ·rw [← e0]; simp [Array.getD_eq_getD_getElem?, g1]
   ·rw [← e1]; simp [Array.getD_eq_getD_getElem?, g1]
 rw [hargs]
 refine Calls.mono (fwd_walk hb (by omega) ho) fun e w' ⟨he, hk⟩ => ⟨_, [.bool true], _, _, he, ⟨n, hn, rfl, rfl⟩, ret_read (by rw [hsig]) (by rw [hsig]; rfl) hA.objs.old hk ⟨[.bool true], .bool k4, (mkV_one (by rw [k4]; rfl)).symm⟩⟩
end Go.Ab

/- slices.SortFunc of terms keeps its law, by the library's contract. -/
namespace Go.Ab
open Go.Proofs Go.Shelf Go.RowKit Go.Lib Go.Sort
set_option maxRecDepth 100000

def sortR : Ren := ⟨fun x => assoc [(6, 115), (14, 128), (15, 129), (20, 132), (21, 133), (22, 134), (23, 135), (24, 136), (25, 137), (26, 138), (27, 139), (28, 140), (29, 141), (46, 143), (47, 144), (48, 145), (49, 146), (50, 147), (57, 148)] x x, fun x => assoc [(22, 44), (24, 87), (25, 189), (39, 199), (45, 201), (46, 202), (50, 54), (53, 208), (55, 210), (66, 211), (70, 215), (76, 217), (77, 218)] x x, fun x => x⟩

theorem sort_lays : SlLaysF0.n6 Tryz.prog sortR where
 mixed := by kernel_rfl
 f6 := ⟨Tryz.f115.name, by kernel_rfl, by kernel_rfl⟩
 f14 := ⟨Tryz.f128.name, by kernel_rfl, by kernel_rfl⟩
 f15 := by kernel_rfl
 f20 := ⟨Tryz.f132.name, by kernel_rfl, by kernel_rfl⟩
 f21 := ⟨Tryz.f133.name, by kernel_rfl, by kernel_rfl⟩
 f22 := ⟨Tryz.f134.name, by kernel_rfl, by kernel_rfl⟩
 f23 := ⟨Tryz.f135.name, by kernel_rfl, by kernel_rfl⟩
 f24 := ⟨Tryz.f136.name, by kernel_rfl, by kernel_rfl⟩
 f25 := ⟨Tryz.f137.name, by kernel_rfl, by kernel_rfl⟩
 f26 := ⟨Tryz.f138.name, by kernel_rfl, by kernel_rfl⟩
 f27 := ⟨Tryz.f139.name, by kernel_rfl, by kernel_rfl⟩
 f28 := by kernel_rfl
 f29 := by kernel_rfl
 f46 := ⟨Tryz.f143.name, by kernel_rfl, by kernel_rfl⟩
 f47 := by kernel_rfl
 f48 := by kernel_rfl
 f49 := ⟨Tryz.f146.name, by kernel_rfl, by kernel_rfl⟩
 f50 := ⟨Tryz.f147.name, by kernel_rfl, by kernel_rfl⟩
 f57 := ⟨Tryz.f148.name, by kernel_rfl, by kernel_rfl⟩
 t0 := by kernel_rfl
 a0 := fun w => by kernel_rfl
 z0 := fun w => by kernel_rfl
 v0 := fun w => by kernel_rfl
 t3 := by kernel_rfl
 a3 := fun w => by kernel_rfl
 z3 := fun w => by kernel_rfl
 v3 := fun w => by kernel_rfl
 t4 := by kernel_rfl
 a4 := fun w => by kernel_rfl
 z4 := fun w => by kernel_rfl
 v4 := fun w => by kernel_rfl
 t5 := by kernel_rfl
 a5 := fun w => by kernel_rfl
 z5 := fun w => by kernel_rfl
 v5 := fun w => by kernel_rfl
 t9 := by kernel_rfl
 a9 := fun w => by kernel_rfl
 z9 := fun w => by kernel_rfl
 v9 := fun w => by kernel_rfl
 t22 := by kernel_rfl
 a22 := fun w => by kernel_rfl
 z22 := fun w => by kernel_rfl
 v22 := fun w => by kernel_rfl
 t25 := by kernel_rfl
 a25 := fun w => by kernel_rfl
 z25 := fun w => by kernel_rfl
 v25 := fun w => by kernel_rfl
 t39 := by kernel_rfl
 a39 := fun w => by kernel_rfl
 z39 := fun w => by kernel_rfl
 v39 := fun w => by kernel_rfl
 t45 := by kernel_rfl
 a45 := fun w => by kernel_rfl
 z45 := fun w => by kernel_rfl
 v45 := fun w => by kernel_rfl
 t46 := by kernel_rfl
 a46 := fun w => by kernel_rfl
 z46 := fun w => by kernel_rfl
 v46 := fun w => by kernel_rfl
 t50 := by kernel_rfl
 a50 := fun w => by kernel_rfl
 z50 := fun w => by kernel_rfl
 v50 := fun w => by kernel_rfl
 t53 := by kernel_rfl
 a53 := fun w => by kernel_rfl
 z53 := fun w => by kernel_rfl
 v53 := fun w => by kernel_rfl
 t55 := by kernel_rfl
 a55 := fun w => by kernel_rfl
 z55 := fun w => by kernel_rfl
 v55 := fun w => by kernel_rfl
 t66 := by kernel_rfl
 a66 := fun w => by kernel_rfl
 z66 := fun w => by kernel_rfl
 v66 := fun w => by kernel_rfl
 t70 := by kernel_rfl
 a70 := fun w => by kernel_rfl
 z70 := fun w => by kernel_rfl
 v70 := fun w => by kernel_rfl
 t76 := by kernel_rfl
 a76 := fun w => by kernel_rfl
 z76 := fun w => by kernel_rfl
 v76 := fun w => by kernel_rfl
 t77 := by kernel_rfl
 a77 := fun w => by kernel_rfl
 z77 := fun w => by kernel_rfl
 v77 := fun w => by kernel_rfl

theorem agg87 (w : World) : (Go.isAgg (sortR.t 24)).run Tryz.prog w = .ok true w := by kernel_rfl
theorem size87 (w : World) : (Go.sizeOf (sortR.t 24)).run Tryz.prog w = .ok 2 w := by kernel_rfl

/-- Terms whose first part is a small number. -/
abbrev Tm : Type := Fin 4000000000 × Int
instance : Inhabited Tm := ⟨(⟨0, by omega⟩, 0)⟩
def encT (x : Tm) : List Value := [.int .i64 (x.1.val : Int), .int .i64 x.2]
def cfT (x y : Tm) : Int := (x.1.val : Int) - (y.1.val : Int)

theorem ltT (x y : Tm) : ltOf cfT x y = decide ((x.1.val : Int) < (y.1.val : Int)) := by
 unfold ltOf cfT
 by_cases h : (x.1.val : Int) < (y.1.val : Int)
 ·rw [decide_eq_true h, decide_eq_true (by omega)]
 ·rw [decide_eq_false h, decide_eq_false (by omega)]
theorem swoT : SWO (ltOf cfT) where
 irrefl x := by rw [ltT]; exact decide_eq_false (by omega)
 trans x y z h1 h2 := by
  rw [ltT] at *
  have h1 := of_decide_eq_true h1
  have h2 := of_decide_eq_true h2
  exact decide_eq_true (by omega)
 ntrans x y z h1 h2 := by
  rw [ltT] at *
  have h1 := of_decide_eq_false h1
  have h2 := of_decide_eq_false h2
  exact decide_eq_false (by omega)
theorem k87 : tk Tryz.prog 87 = .struct [(3, 0), (3, 1)] := by kernel_rfl
theorem n87 : Tryz.prog.cellsOf 87 = 2 := by kernel_rfl

set_option maxHeartbeats 1000000 in
theorem cmp_ok (x y : Tm) (W : World) : Calls Tryz.prog 116 #[.agg #[.int .i64 (x.1.val : Int), .int .i64 x.2], .agg #[.int .i64 (y.1.val : Int), .int .i64 y.2]] W fun e w' => e = .returned (.int .i64 ((x.1.val : Int) - (y.1.val : Int))) ∧ ∃ q os', w' = grow (W.drewN q) os' := by
 obtain ⟨⟨a, ha⟩, b⟩ := x
 obtain ⟨⟨c, hc⟩, d⟩ := y
 simp only
 have h1 : (a : Int) < 4000000000 := by omega
 have h2 : (c : Int) < 4000000000 := by omega
 have hw : IntKind.wrap .i64 ((a : Int) - (c : Int)) = (a : Int) - (c : Int) := by simp [IntKind.wrap, IntKind.bits, IntKind.signed]; omega
 clear ha hc
 go_enter Tryz.func116, Tryz.ntmps116
 go_wp2_with fail
 go_ret
 exact ⟨rfl, 0, _, by rw [alloc_eq_grow, alloc_eq_grow, grow_grow]; rfl⟩

theorem cmp_lays (blk off size : Nat) (w : World) : CmpLays Tryz.prog 116 #[] encT 2 cfT blk off size w := fun _ _ _ _ x y => cmp_ok x y _

/-- A term's two cells. -/
theorem term_cells {X : Nat → Prop} {w : World} {cs : List Value} {a b : Int} (h : Rep Tryz.prog A X w 87 cs (tmD (a, b))) : cs = [.int .i64 a, .int .i64 b] := by
 have hl : cs.length = 2 := by
  have : cs.length = Tryz.prog.cellsOf 87 := by
   unfold tmD at h
   generalize hd : D.agg _ = d at h
   cases h with
   | struct e1 e2 => exact e2
   | arr e1 => rw [k87] at e1; cases e1
   | _ => cases hd
  rw [this, n87]
 obtain ⟨v0, g0, r0⟩ := Rep.field k87 h (j := 0) (ft := 3) (off := 0) rfl (by kernel_rfl) (by rw [k3]; rfl)
 obtain ⟨v1, g1, r1⟩ := Rep.field k87 h (j := 1) (ft := 3) (off := 1) rfl (by kernel_rfl) (by rw [k3]; rfl)
 have e0 := int_of (n := a) r0
 have e1 := int_of (n := b) r1
 match cs, hl with
 | [x, y], _ =>
  simp only [List.getElem?_cons_zero, List.getElem?_cons_succ, Option.some.injEq] at g0 g1
  rw [g0, g1, e0, e1]
theorem term_rep (X : Nat → Prop) (w : World) (a b : Int) : Rep Tryz.prog A X w 87 [.int .i64 a, .int .i64 b] (tmD (a, b)) := by
 refine .struct k87 n87.symm rfl fun j ft off hj => ?_
 match j, hj with
 | 0, hj =>
  simp only [List.getElem?_cons_zero, Option.some.injEq, Prod.mk.injEq] at hj
  obtain ⟨rfl, rfl⟩ := hj
  rw [n3]
  exact .int k3
 | 1, hj =>
  simp only [List.getElem?_cons_succ, List.getElem?_cons_zero, Option.some.injEq, Prod.mk.injEq] at hj
  obtain ⟨rfl, rfl⟩ := hj
  rw [n3]
  exact .int k3
 | j + 2, hj => simp at hj

section
variable {P : Program} {A : Ann}

/-- What was lent comes back. -/
theorem ret_lent {s : Sig} {e : Nat} {sh : Sh} {ps : List PK} {X0 : Nat → Prop} {w w' : World} {args : Array Value} {ds : List D} {d0 d' : D} {phL : Nat → Ph} (hrs : s.rs = []) (hps : s.ps = .lent e sh false :: ps) (hno : (ps.all fun | .lent _ _ _ => false | _ => true) = true)
  (hA : Args P A X0 w s.cel s.ps args (d0 :: ds) phL) (hk : Keeps (fun b => b ∈ (phL 0).F) w w') {p' : Ph} (hcs : p'.cs = (phL 0).cs) (hrb : p'.rb = none) (hF : ∀ b ∈ p'.F, b ∈ (phL 0).F) (hnd : p'.F.Nodup)
  (hown : ∀ X' : Nat → Prop, (∀ b, b < w.heap.size → X' b → Xof X0 (lookO (initOb 0 s.ps (d0 :: ds))) phL b) → Own P A X' w' p'.L sh e p'.cs d') :
  Ret P A X0 (lentY s.ps (d0 :: ds) phL) w w' s phL (.tuple #[]) [d'] (fun _ => p') #[] := by
 have hob0 : lookO (initOb 0 s.ps (d0 :: ds)) 0 = some ⟨false, e, sh, d0⟩ := by rw [hps]; rfl
 have hlL : lentL 0 s.ps = [(0, e, sh, false)] := by
  rw [hps]
  have : ∀ (ps : List PK) (k : Nat), (ps.all fun | .lent _ _ _ => false | _ => true) = true → lentL k ps = [] := by
   intro ps
   induction ps with
   | nil => intro k _; rfl
   | cons p ps ih =>
    intro k h
    simp only [List.all_cons, Bool.and_eq_true] at h
    cases p with
    | imm t => exact ih _ h.2
    | iptr t => exact ih _ h.2
    | lent a b c => cases h.1
  simp only [lentL, this ps 1 hno]
 have hret : ∀ k x, retOb s.rs s.ps [d'] k = some x → k = 0 ∧ x = ⟨false, e, sh, d'⟩ := fun k x hx => by
  unfold retOb at hx
  rw [hrs, hlL] at hx
  cases k with
  | zero =>
   simp only [List.getElem?_nil, List.length_nil, Nat.sub_zero, List.getElem?_cons_zero, Option.map_some, List.getD_cons_zero, Option.some.injEq] at hx
   exact ⟨rfl, hx.symm⟩
  | succ k => simp at hx
 have hO := hA.objs.ok 0 _ hob0
 have hlt : ∀ b ∈ p'.F, b < w'.heap.size := fun b hb => Nat.lt_of_lt_of_le (hO.lt b (hF b hb)) hk.size
 refine ⟨⟨fun o x hx => ?_, fun o x o' x' hx hx' hne => ?_, fun o x hx b hb => ?_, fun o x hx b hb => ?_, hA.objs.old⟩, hk.mono fun b hb => ⟨0, _, hob0, hb⟩, by rw [hrs]; rfl, by simp, fun k x hx => ?_, fun j y hy => ?_⟩
 ·obtain ⟨rfl, rfl⟩ := hret o x hx
  refine ⟨hown _ fun b hb hx => ?_, (fun h => by cases h), fun _ => hrb, hnd, hlt⟩
  rcases hx with h | ⟨o, x, hx, hm⟩
  ·exact .inl h
  ·exact .inr ⟨0, _, hob0, hF b hm⟩
 ·obtain ⟨rfl, _⟩ := hret o x hx
  obtain ⟨rfl, _⟩ := hret o' x' hx'
  exact absurd rfl hne
 ·exact hA.objs.free 0 _ hob0 b (hF b hb)
 ·exact .inl ⟨0, _, hob0, hF b hb⟩
 ·rw [hrs] at hx; cases hx
 ·rw [hlL] at hy
  cases j with
  | zero =>
   simp only [List.getElem?_cons_zero, Option.some.injEq] at hy
   subst hy
   exact ⟨by rw [hrb]; exact (hO.hdr rfl).symm, fun _ => by rw [hcs]⟩
  | succ j => simp at hy
end
end Go.Ab

/- slices.SortFunc of terms keeps its law. -/
namespace Go.Ab
open Go.Proofs Go.Shelf Go.RowKit Go.Lib Go.Sort
set_option maxRecDepth 100000

def toT (p : Int × Int) : Tm := (⟨p.1.toNat % 4000000000, by omega⟩, p.2)
def ofT (x : Tm) : Int × Int := ((x.1.val : Int), x.2)
theorem of_to {p : Int × Int} (h : 0 ≤ p.1 ∧ p.1 < 4000000000) : ofT (toT p) = p := by
 obtain ⟨a, b⟩ := p
 simp only [ofT, toT] at h ⊢
 congr 1
 omega
theorem seg_two {l : List Value} {o : Nat} {a b : Value} (h0 : l[o]? = some a) (h1 : l[o + 1]? = some b) : seg l o 2 = [a, b] := by
 have g0 : o < l.length := (List.getElem?_eq_some_iff.1 h0).1
 have g1 : o + 1 < l.length := (List.getElem?_eq_some_iff.1 h1).1
 unfold seg
 rw [List.drop_eq_getElem_cons g0, List.drop_eq_getElem_cons g1]
 simp only [List.take_succ_cons, List.take_zero, List.cons.injEq, and_true]
 exact ⟨(List.getElem?_eq_some_iff.1 h0).2, (List.getElem?_eq_some_iff.1 h1).2⟩
theorem two_seg {l : List Value} {o : Nat} {a b : Value} (h : seg l o 2 = [a, b]) : l[o]? = some a ∧ l[o + 1]? = some b := by
 unfold seg at h
 have h0 := congrArg (fun z => z[0]?) h
 have h1 := congrArg (fun z => z[1]?) h
 simp only [List.getElem?_cons_zero, List.getElem?_cons_succ] at h0 h1
 rw [List.getElem?_take_of_lt (by omega), List.getElem?_drop] at h0 h1
 exact ⟨h0, h1⟩

/-- A row of terms in a block. -/
theorem holds_of {w : World} {b off E : Nat} {c : Array Value} (hb : w.heap[b]? = some (.cells c E (0, 0))) {d : Array Tm} (h : ∀ i, i < d.size → c[off + i * 2]? = some (.int .i64 (ofT d[i]!).1) ∧ c[off + i * 2 + 1]? = some (.int .i64 (ofT d[i]!).2)) : HoldsK encT 2 w b off d := by
 intro j hj
 have hs : j < d.size * 2 := by simpa using hj
 rw [get_flatK _ _ _ _ hs]
 have hi : j / 2 < d.size := by omega
 obtain ⟨h0, h1⟩ := h _ hi
 refine ⟨?_, by simp [World.frozen?, hb]⟩
 rw [cell_of_blk hb]
 rcases Nat.mod_two_eq_zero_or_one j with e | e
 ·rw [show off + j = off + j / 2 * 2 by omega, h0, e]
  rfl
 ·rw [show off + j = off + j / 2 * 2 + 1 by omega, h1, e]
  rfl

theorem row_blk {w : World} {b off E n : Nat} {c : Array Value} {os : Array Go.Obj} (hb : w.heap[b]? = some (.cells c E (0, 0))) (d : Array Tm) :
  ∃ c', (sortWorldK encT 2 w b off n d os).heap[b]? = some (.cells c' E (0, 0)) ∧ c'.size = c.size ∧ ∀ i, (sortWorldK encT 2 w b off n d os).cell? ⟨b, i, none⟩ = c'[i]? := by
 have hlt := (Array.getElem?_eq_some_iff.1 hb).1
 have h1 : ∃ c', (putRowK encT 2 (Sort.ahead w n) b off d).heap[b]? = some (.cells c' E (0, 0)) ∧ c'.size = c.size := by
  simp only [putRowK, putRow, mapBlock, Sort.ahead, Array.getElem?_modify, if_pos, hb, Option.map_some]
  exact ⟨_, rfl, by simp [putCells]⟩
 obtain ⟨c', e1, e2⟩ := h1
 have e3 : (sortWorldK encT 2 w b off n d os).heap[b]? = some (.cells c' E (0, 0)) := by
  unfold sortWorldK grow
  show (_ ++ os)[b]? = _
  rw [Array.getElem?_append_left (by rw [size_putRowK]; exact hlt)]
  exact e1
 exact ⟨c', e3, e2, fun i => cell_of_blk e3 i⟩

theorem row_keeps {w : World} {b off n : Nat} {os : Array Go.Obj} (d : Array Tm) : Keeps (fun x => x = b) w (sortWorldK encT 2 w b off n d os) := by
 refine ⟨rfl, rfl, rfl, ?_, fun x hx hn => ?_⟩
 ·unfold sortWorldK grow
  show _ ≤ (_ ++ os).size
  rw [Array.size_append, size_putRowK]
  exact Nat.le_add_right _ _
 ·unfold sortWorldK grow
  show (_ ++ os)[x]? = _
  rw [Array.getElem?_append_left (by rw [size_putRowK]; exact hx)]
  simp only [putRowK, putRow, mapBlock, Sort.ahead, Array.getElem?_modify, if_neg (fun e => hn (Eq.symm e))]

theorem perm_all {d d' : Array Tm} (h : PermIn 0 d.size d d') : d'.toList.Perm d.toList := by
 obtain ⟨h1, _, h2⟩ := h
 have e1 : d'.extract 0 d.size = d' := by rw [← h1]; simp
 have e2 : d.extract 0 d.size = d := by simp
 rw [e1, e2] at h2
 exact h2

theorem sort_sp {ds : List D} (h : ∃ r, sortPost ds r) {X0 : Nat → Prop} {w : World} {args : Array Value} {phL : Nat → Ph} (hA : Args Tryz.prog A X0 w (A.sig 115).cel (A.sig 115).ps args ds phL) :
  Calls Tryz.prog 115 args w fun e w' => ∃ v r phR vs, e = .returned v ∧ sortPost ds r ∧ Ret Tryz.prog A X0 (lentY (A.sig 115).ps ds phL) w w' (A.sig 115) phL v r phR vs := by
 obtain ⟨_, l, _, rfl, hbd, hlen, _, _, _⟩ := h
 have hsig : A.sig 115 = ⟨[.lent 44 (.slc .imm none) false, .imm 189], [], []⟩ := by kernel_rfl
 have k44 : tk Tryz.prog 44 = .slc 87 := by kernel_rfl
 have k189 : tk Tryz.prog 189 = .fn := by kernel_rfl
 have hps : (A.sig 115).ps = .lent 44 (.slc .imm none) false :: [.imm 189] := by rw [hsig]
 have hob0 : lookO (initOb 0 (A.sig 115).ps [.slc (l.map tmD), .fn 116 []]) 0 = some ⟨false, 44, .slc .imm none, .slc (l.map tmD)⟩ := by rw [hsig]; rfl
 have hO := hA.objs.ok 0 _ hob0
 have hs0 := hA.slots 0
 have hl0 : look (initSl (A.sig 115).cel 0 (A.sig 115).ps [.slc (l.map tmD), .fn 116 []]) 0 = .val 0 [] 44 := by rw [hsig]; rfl
 rw [hl0] at hs0
 obtain ⟨_, _, hv0⟩ := val_root hO hob0 hs0
 have hf := hA.read (i := 1) (t := 189) (by rw [hsig]; rfl)
 have hv1 : args.getD 1 undef = .func (.func 116) #[] #[] := by
  obtain ⟨cs, hr, hv⟩ := hf
  have hd : ([D.slc (l.map tmD), D.fn 116 []] : List D).getD 1 .und = .fn 116 [] := rfl
  rw [hd] at hr
  generalize hdd : D.fn 116 [] = d at hr
  cases hr with
  | fn ht k1 k2 _ _ _ _ _ _ _ =>
   rename_i f' vs ds' ks bs offs css dd _ _ _ _ _ _ _
   injection hdd with e1 e2
   subst e1 e2
   have hz : vs = #[] := by simpa using k2
   rw [hv, mkV_one (by rw [k189]; rfl), hz]
  | _ => cases hdd
 have hsz := hA.asize
 rw [hsig] at hsz
 have hargs : args = #[args.getD 0 undef, .func (.func 116) #[] #[]] := by
  apply Array.ext
  ·simpa using hsz
  ·intro i g1 g2
   have : i = 0 ∨ i = 1 := by simp at g2; omega
   rcases this with rfl | rfl
   ·simp [Array.getD_eq_getD_getElem?, g1]
   ·rw [← hv1]; simp [Array.getD_eq_getD_getElem?, g1]
 have hown := hO.own
 have hrb := hO.hdr rfl
 rw [hargs, hv0]
 simp only at hown
 generalize hL : (phL 0).L = L at hown
 generalize hcs : (phL 0).cs = cs at hown
 generalize hdd : D.slc (l.map tmD) = dd at hown
 cases hown with
 | nil h1 =>
  injection hdd with hdd
  have hl : l = [] := by simpa using hdd
  subst hl
  rw [mkV_one (by rw [k44]; rfl)]
  refine Calls.mono (AnyF.slices_SortFunc_none sort_lays none 0 (.func (.func 116) #[] #[]) w) fun e w' ⟨he, hw⟩ => ?_
  subst hw
  refine ⟨_, [.slc []], _, _, he, ⟨[], [], rfl, (by simp), (by simp), rfl, .nil, .nil⟩, ret_lent (by rw [hsig]) hps rfl hA ((Keeps.refl (fun _ => False) w').mono fun _ h => h.elim) (p' := phL 0) rfl hrb (fun _ h => h) hO.nodup fun X' _ => ?_⟩
  rw [hL, hcs]
  exact .nil h1
 | slc h1 hb h2 h3 h4 h5 =>
  rename_i e b off cap E c kids xs
  injection hdd with hdd
  subst hdd
  rw [k44] at h1
  injection h1 with h1
  subst h1
  have hll : (l.map tmD).length = l.length := by simp
  rw [hll] at h2 h3 h5
  rw [n87] at h4
  let d : Array Tm := (l.map toT).toArray
  have hds : d.size = l.length := by simp [d]
  have hget : ∀ i, i < l.length → (ofT d[i]!) = l.getD i (0, 0) := fun i hi => by
   rw [getElem!_pos d i (by omega)]
   have : d[i]'(by omega) = toT (l[i]) := by simp [d]
   rw [this, of_to (hbd _ (List.getElem_mem _))]
   simp [List.getD_eq_getElem?_getD, hi]
  have hcell : ∀ i, i < l.length → kids.getD i .leaf = .leaf ∧ c[off + i * 2]? = some (.int .i64 (ofT d[i]!).1) ∧ c[off + i * 2 + 1]? = some (.int .i64 (ofT d[i]!).2) := fun i hi => by
   have h6 := h5 i hi
   rw [n87] at h6
   simp only [elS] at h6
   have e1 : (l.map tmD).getD i .und = tmD (l.getD i (0, 0)) := by simp [List.getD_eq_getElem?_getD, hi]
   rw [e1, ← hget i hi] at h6
   generalize kids.getD i .leaf = L0 at h6
   cases h6 with
   | imm h =>
    obtain ⟨g0, g1⟩ := two_seg (term_cells h)
    rw [Array.getElem?_toList] at g0 g1
    exact ⟨rfl, g0, g1⟩
  have hH := holds_of hb (d := d) (off := off) fun i hi => (hcell i (by omega)).2
  have hblt := (Array.getElem?_eq_some_iff.1 hb).1
  have hcall := AnyQ.slices_SortFunc sort_lays 2 agg87 size87 encT (fun _ => rfl) (fun x v hv => by simp [encT] at hv; rcases hv with rfl | rfl <;> rfl) cfT swoT 116 #[] b off cap d w (enters_of Tryz.func116 (by kernel_rfl) rfl) (cmp_lays b off d.size w) hH hblt (by omega)
  rw [mkV_one (by rw [k44]; rfl), hll]
  rw [hds] at hcall
  refine Calls.mono hcall fun e w' ⟨he, d', n, os, hp, hso, hw⟩ => ?_
  subst hw
  have hp' : PermIn 0 d.size d d' := by rw [hds]; exact hp
  have hds' : d'.size = l.length := by rw [hp.1, hds]
  have hperm : (d'.toList.map ofT).Perm l := by
   have := (perm_all hp').map ofT
   have e2 : d.toList.map ofT = l := by
    simp only [d, List.map_map]
    have e3 : List.map (ofT ∘ toT) l = List.map id l := List.map_congr_left fun p hp => of_to (hbd p hp)
    rw [e3]
    simp
   rw [e2] at this
   exact this
  have hsort : (d'.toList.map ofT).Pairwise fun p q => p.1 ≤ q.1 := by
   rw [List.pairwise_iff_getElem]
   intro i j hi hj hij
   simp only [List.length_map, Array.length_toList] at hi hj
   have := hso i j (Nat.zero_le _) hij (by omega)
   rw [ltT, getElem!_pos d' i hi, getElem!_pos d' j hj] at this
   have := of_decide_eq_false this
   simp only [List.getElem_map, Array.getElem_toList, ofT]
   omega
  obtain ⟨c', r1, r2, r3⟩ := row_blk (n := n) (os := os) (off := off) hb d'
  have hH' : HoldsK encT 2 (putRowK encT 2 (Sort.ahead w n) b off d') b off d' := holdsK_putRowK encT 2 _ b off d d' hH (by omega)
  have hbF : b ∈ (phL 0).F := by simp [Ph.F, Ph.S, hL, Lt.blocks]
  refine ⟨_, [.slc ((d'.toList.map ofT).map tmD)], _, _, he, ⟨l, d'.toList.map ofT, rfl, hbd, hlen, rfl, hperm, hsort⟩, ret_lent (by rw [hsig]) hps rfl hA ((row_keeps d').mono fun x hx => by rw [hx]; exact hbF) (p' := phL 0) rfl hrb (fun _ h => h) hO.nodup fun X' _ => ?_⟩
  rw [hL, hcs]
  have hyl : ((d'.toList.map ofT).map tmD).length = l.length := by simp [hds']
  have key := Own.slc (P := Tryz.prog) (A := A) (X := X') (w := sortWorldK encT 2 w b off n d' os) (t := 44) (e := 87) (s := .imm) (ex := none) (b := b) (off := off) (cap := cap) (c := c') (kids := kids) (xs := (d'.toList.map ofT).map tmD) k44 r1 (by rw [hyl]; exact h2) (by rw [hyl]; exact h3) (by rw [r2, n87]; exact h4) fun i hi => by
   rw [hyl] at hi
   rw [(hcell i hi).1, n87]
   simp only [elS]
   have hi' : i < d'.size := by omega
   have e1 : ((d'.toList.map ofT).map tmD).getD i .und = tmD (ofT d'[i]!) := by
    rw [getElem!_pos d' i hi']
    simp [List.getD_eq_getElem?_getD, hi']
   rw [e1]
   have g0 := (HoldsK.cell hH' (i := i) (c := 0) hi' (by omega)).1
   have g1 := (HoldsK.cell hH' (i := i) (c := 1) hi' (by omega)).1
   have up : ∀ o, (putRowK encT 2 (Sort.ahead w n) b off d').cell? ⟨b, o, none⟩ = c'[o]? := fun o => by
    rw [← r3 o]
    unfold sortWorldK grow World.cell?
    simp only
    rw [Array.getElem?_append_left (by rw [size_putRowK]; exact hblt)]
   rw [up] at g0 g1
   rw [seg_two (a := .int .i64 (ofT d'[i]!).1) (b := .int .i64 (ofT d'[i]!).2) (by rw [Array.getElem?_toList]; exact g0) (by rw [Array.getElem?_toList]; exact g1)]
   exact .imm (term_rep _ _ _ _)
  rw [hyl] at key
  rw [hll]
  exact key

/-- THE LAWS OF WHICH RULES ARE USED HOLD. -/
theorem sp_ok : SpOk Tryz.prog A := by
 intro f post hf
 have hsp : A.sp f = spL f := rfl
 rw [hsp] at hf
 unfold spL at hf
 cases h1 : Nat.beq f 115 with
 | true =>
  rw [h1, cond_true] at hf
  injection hf with hf
  subst hf
  have : f = 115 := by simpa using h1
  subst this
  exact ⟨⟨Tryz.f115, by kernel_rfl, by kernel_rfl⟩, fun ds h X0 w args phL hA => sort_sp h hA⟩
 | false =>
  rw [h1, cond_false] at hf
  cases h2 : Nat.beq f 66 with
  | true =>
   rw [h2, cond_true] at hf
   injection hf with hf
   subst hf
   have : f = 66 := by simpa using h2
   subst this
   exact ⟨⟨Tryz.f66, by kernel_rfl, by kernel_rfl⟩, fun ds h X0 w args phL hA => fwd_sp h hA⟩
  | false =>
   rw [h2, cond_false] at hf
   cases hf
end Go.Ab
