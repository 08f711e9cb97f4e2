/- HeaviestLoop: whatever the arguments are, their bulk at most 1048576, the statement's function returns true and leaves its arguments as they were. -/
import Derived.Test.YtpkjnlmniacnaaaPart1
import Derived.Test.YtpkjnlmniacnaaaXePart3
import Derived.Test.YtpkjnlmniacnaaaPart3
import Derived.Test.YtpkjnlmniacnaaaPart4
import Derived.Test.YtpkjnlmniacnaaaPart5
import Derived.Test.YtpkjnlmniacnaaaPart7
import Derived.Test.YtpkjnlmniacnaaaPart8
import Derived.Test.YtpkjnlmniacnaaaPart9
import Derived.Test.YtpkjnlmniacnaaaPart10
import Derived.Test.YtpkjnlmniacnaaaPart11
namespace Go.Proofs.Ytpkjnlmniacnaaa.heaviestLoop
open Go.ChangeShapes Go.WideShapes Go.ChangeAt Go.RowKit Go.Ab Go.Xe
set_option linter.unusedVariables false

/-! What is owed. -/
theorem wri (n : Int) : wr .i64 n = (n + 9223372036854775808) % 18446744073709551616 - 9223372036854775808 := IntKind.wrap_i64 n
theorem gtr_f {x y : Int} (h : x ≤ y) : Owe.ok ⟨.gtr, x, y, false⟩ := by
  show some (decide (y < x)) = some false
  rw [decide_eq_false (by omega)]
theorem gtr_t {x y : Int} (h : y < x) : Owe.ok ⟨.gtr, x, y, true⟩ := by
  show some (decide (y < x)) = some true
  rw [decide_eq_true h]
theorem lss_f {x y : Int} (h : y ≤ x) : Owe.ok ⟨.lss, x, y, false⟩ := by
  show some (decide (x < y)) = some false
  rw [decide_eq_false (by omega)]
theorem eql_t {x y : Int} (h : x = y) : Owe.ok ⟨.eql, x, y, true⟩ := by
  show some (decide (x = y)) = some true
  rw [decide_eq_true h]
theorem all_nil : ∀ o, o ∈ ([] : List Owe) → o.ok := fun o h => by cases h
theorem all_cons {x : Owe} {l : List Owe} (h : x.ok) (k : ∀ o, o ∈ l → o.ok) : ∀ o, o ∈ x :: l → o.ok := fun o ho => by
  rcases List.mem_cons.1 ho with rfl | ho
  · exact h
  · exact k o ho
theorem wr_s {n : Int} (h : 0 ≤ n) (k : n ≤ 1000000) : wr .i64 n = n := by rw [wri]; omega

section
variable {A B C D E M G : Int}

theorem mul_bd (hC : 0 ≤ C ∧ C ≤ 255) (hD : 0 ≤ D ∧ D ≤ 255) (hM : 0 ≤ M ∧ M ≤ 32) : 0 ≤ M * (C + D) ∧ M * (C + D) ≤ 32 * 510 :=
  ⟨Int.mul_nonneg hM.1 (by omega), Int.mul_le_mul hM.2 (by omega) (by omega) (by omega)⟩

theorem owe2a (hA : 0 ≤ A ∧ A ≤ 255) (hB : 0 ≤ B ∧ B ≤ 255) (hC : 0 ≤ C ∧ C ≤ 255) (hD : 0 ≤ D ∧ D ≤ 255) (hE : 0 ≤ E ∧ E ≤ 255) (hM : 0 ≤ M ∧ M ≤ 32) (hG : 0 ≤ G ∧ G ≤ 255) (h0 : ¬ 0 < C + D) : ∀ o, o ∈ seg2aO A B C D E M G → o.ok := by
  unfold seg2aO
  repeat' first
    | exact all_nil
    | refine all_cons ?_ ?_
    | exact gtr_f (Int.le_refl _)
    | (refine gtr_f ?_; omega)
    | (refine gtr_f ?_; simp only [wri]; omega)
    | (refine lss_f ?_; omega)
    | (refine lss_f ?_; simp only [wri]; omega)

theorem owe2b (hA : 0 ≤ A ∧ A ≤ 255) (hB : 0 ≤ B ∧ B ≤ 255) (hC : 0 ≤ C ∧ C ≤ 255) (hD : 0 ≤ D ∧ D ≤ 255) (hE : 0 ≤ E ∧ E ≤ 255) (hM : 0 ≤ M ∧ M ≤ 32) (hG : 0 ≤ G ∧ G ≤ 255) (h0 : 0 < C + D) : ∀ o, o ∈ seg2bO A B C D E M G → o.ok := by
  unfold seg2bO
  repeat' first
    | exact all_nil
    | refine all_cons ?_ ?_
    | exact gtr_f (Int.le_refl _)
    | (refine gtr_t ?_; simp only [wri]; omega)
    | (refine gtr_f ?_; omega)
    | (refine gtr_f ?_; simp only [wri]; omega)
    | (refine lss_f ?_; omega)
    | (refine lss_f ?_; simp only [wri]; omega)

theorem owe3 (hA : 0 ≤ A ∧ A ≤ 255) (hB : 0 ≤ B ∧ B ≤ 255) (hC : 0 ≤ C ∧ C ≤ 255) (hD : 0 ≤ D ∧ D ≤ 255) (hE : 0 ≤ E ∧ E ≤ 255) (hM : 0 ≤ M ∧ M ≤ 32) (hG : 0 ≤ G ∧ G ≤ 255) : ∀ o, o ∈ seg3O A B C D E M G → o.ok := by
  unfold seg3O
  repeat' first
    | exact all_nil
    | refine all_cons ?_ ?_
    | exact gtr_f (Int.le_refl _)
    | (refine gtr_f ?_; omega)
    | (refine gtr_f ?_; simp only [wri]; omega)
    | (refine lss_f ?_; omega)
    | (refine lss_f ?_; simp only [wri]; omega)

theorem owe4 (hA : 0 ≤ A ∧ A ≤ 255) (hB : 0 ≤ B ∧ B ≤ 255) (hC : 0 ≤ C ∧ C ≤ 255) (hD : 0 ≤ D ∧ D ≤ 255) (hE : 0 ≤ E ∧ E ≤ 255) (hM : 0 ≤ M ∧ M ≤ 32) (hG : 0 ≤ G ∧ G ≤ 255) : ∀ o, o ∈ seg4O A B C D E M G → o.ok := by
  unfold seg4O
  repeat' first
    | exact all_nil
    | refine all_cons ?_ ?_
    | exact gtr_f (Int.le_refl _)
    | (refine gtr_f ?_; omega)
    | (refine gtr_f ?_; simp only [wri]; omega)
    | (refine lss_f ?_; omega)
    | (refine lss_f ?_; simp only [wri]; omega)

theorem n1a (hA : 0 ≤ A ∧ A ≤ 255) (hB : 0 ≤ B ∧ B ≤ 255) (hC : 0 ≤ C ∧ C ≤ 255) (hD : 0 ≤ D ∧ D ≤ 255) (hE : 0 ≤ E ∧ E ≤ 255) (hG : 0 ≤ G ∧ G ≤ 255) (h0 : ¬ 0 < C + D) : num1a A B C D E M G = A + G + B + E + M * (C + D) := by
  have h : C + D = 0 := by omega
  rw [h, Int.mul_zero]
  unfold num1a
  rw [Int.mul_zero]
  simp only [wri]
  omega
theorem n1b (hA : 0 ≤ A ∧ A ≤ 255) (hB : 0 ≤ B ∧ B ≤ 255) (hC : 0 ≤ C ∧ C ≤ 255) (hD : 0 ≤ D ∧ D ≤ 255) (hE : 0 ≤ E ∧ E ≤ 255) (hM : 0 ≤ M ∧ M ≤ 32) (hG : 0 ≤ G ∧ G ≤ 255) : num1b A B C D E M G = A + G + B + E + M * (C + D) := by
  have hm := mul_bd hC hD hM
  have h1 : wr .i64 (wr .i64 (0 + C) + wr .i64 (D - 0)) = C + D := by simp only [wri]; omega
  unfold num1b
  rw [h1]
  generalize M * (C + D) = T at *
  simp only [wri]
  omega
theorem n2 (hA : 0 ≤ A ∧ A ≤ 255) (hB : 0 ≤ B ∧ B ≤ 255) (hE : 0 ≤ E ∧ E ≤ 255) (hG : 0 ≤ G ∧ G ≤ 255) : num2 A B C D E M G = A + G + B + E := by
  unfold num2
  rw [Int.mul_zero]
  simp only [wri]
  omega
theorem owe5 (hA : 0 ≤ A ∧ A ≤ 255) (hB : 0 ≤ B ∧ B ≤ 255) (hC : 0 ≤ C ∧ C ≤ 255) (hD : 0 ≤ D ∧ D ≤ 255) (hE : 0 ≤ E ∧ E ≤ 255) (hM : 0 ≤ M ∧ M ≤ 32) (hG : 0 ≤ G ∧ G ≤ 255) {N1 N2 : Int} (h1 : N1 = A + G + B + E + M * (C + D)) (h2 : N2 = A + G + B + E) : ∀ o, o ∈ seg5O A B C D E G M N1 N2 → o.ok := by
  have hm := mul_bd hC hD hM
  have e1 : wr .i64 (wr .i64 C + wr .i64 D) = C + D := by simp only [wri]; omega
  unfold seg5O
  refine all_cons (eql_t ?_) (all_cons (eql_t ?_) all_nil)
  · rw [h2]; simp only [wri]; omega
  · rw [h1, e1]
    generalize M * (C + D) = T at *
    simp only [wri]
    omega
end

theorem rest6 : restC 1 (restC 5 body3) = restC 6 body3 := by kernel_rfl
theorem rest7 : restC 1 (restC 6 body3) = restC 7 body3 := by kernel_rfl
theorem rest8 : restC 1 (restC 7 body3) = restC 8 body3 := by kernel_rfl
theorem rest10c : restC 1 (restC 2 body10) = restC 3 body10 := by kernel_rfl
theorem rest10d : restC 1 (restC 3 body10) = restC 4 body10 := by kernel_rfl

theorem wf : WF Try.prog := wf_of types_ok names_ok cpt_ok

set_option maxRecDepth 100000 in
/-- awake. -/
theorem awake (w : World) : Calls Try.prog 10 #[] w fun e w' => e = .returned (.bool true) ∧ Keeps (fun _ => False) w w' := by
  refine calls_of_tri (f := 10) (R := 0) (fn := Try.f10) (c := body10) (args := []) (ora := []) (by kernel_rfl) (by kernel_rfl) (by kernel_rfl) ?_ rfl (fun i h => (Nat.not_lt_zero i h).elim)
  refine piece wf follows_ok [] seg10a all_nil (Nat.le_refl _) ?_
  refine piece wf follows_ok [] seg10b all_nil (cnt := 400) (by omega) ?_
  rw [rest10c]
  refine piece wf follows_ok [] seg10c all_nil (cnt := 600) (by omega) ?_
  rw [rest10d]
  exact last_piece wf follows_ok seg10d all_nil

set_option maxRecDepth 100000 in
/-- The law's function. -/
theorem runs {a b c d e m g : Int} (ha : 0 ≤ a ∧ a ≤ 255) (hb : 0 ≤ b ∧ b ≤ 255) (hc : 0 ≤ c ∧ c ≤ 255) (hd : 0 ≤ d ∧ d ≤ 255) (he : 0 ≤ e ∧ e ≤ 255) (hm : 0 ≤ m ∧ m ≤ 255) (hg : 0 ≤ g ∧ g ≤ 255) :
    Tri Try.prog body3 (ini [.int .u8 true a, .int .u8 true b, .int .u8 true c, .int .u8 true d, .int .u8 true e, .int .u8 true m, .int .u8 true g] 124 []) 14 := by
  have wa : wr .i64 a = a := wr_s (by omega) (by omega)
  have wb : wr .i64 b = b := wr_s (by omega) (by omega)
  have wc : wr .i64 c = c := wr_s (by omega) (by omega)
  have wd : wr .i64 d = d := wr_s (by omega) (by omega)
  have we : wr .i64 e = e := wr_s (by omega) (by omega)
  have wm : wr .i64 m = m := wr_s (by omega) (by omega)
  have wg : wr .i64 g = g := wr_s (by omega) (by omega)
  have hM : 0 ≤ Int.tmod m 33 ∧ Int.tmod m 33 ≤ 32 := by
    rw [Int.tmod_eq_emod_of_nonneg hm.1]
    omega
  have h1 := seg1 a b c d e m g
  rw [wa, wb, wc, wd, we, wm, wg] at h1
  generalize hMd : Int.tmod m 33 = M at h1 hM
  have last : ∀ N1 N2 : Int, N1 = a + g + b + e + M * (c + d) → N2 = a + g + b + e → Tri Try.prog (restC 8 body3) (litSt ((17, some (.int .i64 true N1)) :: (18, some (.bool true)) :: (19, some (.int .i64 true N2)) :: (20, some (.bool true)) :: (21, some (.int .i64 false 0)) :: (22, some (.bool false)) :: sl5 a b c d e m g) (bl5 a b c d e M g) 1000 124 [true, true]) 14 := fun N1 N2 e1 e2 =>
    have hC := calS_ok (g := 10) (cal_ok wf follows_ok 60) (fn := Try.f10) (by kernel_rfl) (by kernel_rfl) awake
    last_piece_of wf hC (draw_ok wf follows_ok hC) (seg5 a b c d e m g a b c d e M g N1 N2) (owe5 ha hb hc hd he hM hg e1 e2)
  have third : ∀ N1 N2 : Int, N1 = a + g + b + e + M * (c + d) → N2 = a + g + b + e → Tri Try.prog (restC 7 body3) (litSt ((17, some (.int .i64 true N1)) :: (18, some (.bool true)) :: (19, some (.int .i64 true N2)) :: (20, some (.bool true)) :: sl5 a b c d e m g) (bl5 a b c d e M g) 700 124 (List.replicate 60 false)) 14 := fun N1 N2 e1 e2 => by
    refine piece wf follows_ok [true, true] (seg4 a b c d e m g a b c d e M g N1 N2) (owe4 ha hb hc hd he hM hg) (cnt := 1000) (by omega) ?_
    rw [rest8]
    exact last N1 N2 e1 e2
  have second : ∀ N1 : Int, N1 = a + g + b + e + M * (c + d) → Tri Try.prog (restC 6 body3) (litSt ((17, some (.int .i64 true N1)) :: (18, some (.bool true)) :: sl5 a b c d e m g) (bl5 a b c d e M g) 400 124 (List.replicate 60 false)) 14 := fun N1 e1 => by
    refine piece wf follows_ok (List.replicate 60 false) (seg3 a b c d e m g a b c d e M g N1) (owe3 ha hb hc hd he hM hg) (cnt := 700) (by omega) ?_
    rw [rest7]
    exact third N1 _ e1 (n2 ha hb he hg)
  by_cases h0 : 0 < c + d
  · refine piece wf follows_ok [false, false, false, false, false, false, false, false, false, false, false, false, false, false, false, true, false, false, false, false, false, false, false, false, false, false, false, false, false, false, false, false, false, false, false, false, false, false, false, false, false, false, false, false, false, false, false, false, false, false, false, false, false, false, false, false, false, false, false, false] h1 all_nil (Nat.le_refl _) ?_
    refine piece wf follows_ok (List.replicate 60 false) (seg2b a b c d e m g a b c d e M g) (owe2b ha hb hc hd he hM hg h0) (cnt := 400) (by omega) ?_
    rw [rest6]
    exact second _ (n1b ha hb hc hd he hM hg)
  · refine piece wf follows_ok [false, false, false, false, false, false, false, false, false, false, false, false, false, false, false, false, false, false, false, false, false, false, false, false, false, false, false, false, false, false, false, false, false, false, false, false, false, false, false, false, false, false, false, false, false, false, false, false, false, false, false, false, false, false, false, false, false, false, false, false] h1 all_nil (Nat.le_refl _) ?_
    refine piece wf follows_ok (List.replicate 60 false) (seg2a a b c d e m g a b c d e M g) (owe2a ha hb hc hd he hM hg h0) (cnt := 400) (by omega) ?_
    rw [rest6]
    exact second _ (n1a ha hb hc hd he hg h0)

theorem own : ownKnob Try.prog.godebug = none := by kernel_rfl

set_option maxRecDepth 100000 in
theorem laid : laidOutB Try.prog = true := by kernel_rfl

set_option maxRecDepth 100000 in
theorem contract (H : Type) (enc : TypeId × Value → H) (W : World) (base : Nat) (args : Array Value) (ds gs : List (DataW H)) (before : List MemPlace)
    (hval : ∀ (j : Nat) t v, Try.f3.params[j]? = some t → args[j]? = some v → Value.okWide Try.prog W .any base t v)
    (hW : DataW.Whole enc Try.prog Try.f3.params.toList Rows.heaviestLoopSpec.vars false W args.toList ds gs before) :
    Calls Try.prog 3 args W fun e W' => ∃ v, e = .returned v ∧ Rows.heaviestLoopSpec.post enc Try.prog Try.f3 false true false false W args v W' := by
  refine contract_x (f := 3) (fn := Try.f3) (s := Rows.heaviestLoopSpec) (tb := 4) laid (by kernel_rfl) (by kernel_rfl) (by kernel_rfl) (by kernel_rfl) ?_ ?_ hW
  · intro ds hl
    obtain ⟨d1, d2, d3, d4, d5, d6, d7, rfl⟩ : ∃ d1 d2 d3 d4 d5 d6 d7, ds = [d1, d2, d3, d4, d5, d6, d7] := by
      match ds, hl with
      | [d1, d2, d3, d4, d5, d6, d7], _ => exact ⟨d1, d2, d3, d4, d5, d6, d7, rfl⟩
    rfl
  · intro hs
    have hs : args.size = 7 := hs
    have htk : tk Try.prog 5 = .int .u8 := by kernel_rfl
    have hp : ∀ j : Nat, j < 7 → Try.f3.params[j]? = some 5 := fun j hj => by
      rw [show Try.f3.params = #[5, 5, 5, 5, 5, 5, 5] by kernel_rfl]
      match j, hj with
      | 0, _ => rfl
      | 1, _ => rfl
      | 2, _ => rfl
      | 3, _ => rfl
      | 4, _ => rfl
      | 5, _ => rfl
      | 6, _ => rfl
    have get : ∀ j : Nat, j < 7 → ∃ n : Int, args[j]? = some (.int .u8 n) ∧ 0 ≤ n ∧ n ≤ 255 := fun j hj => by
      have hj' : args[j]? = some args[j] := Array.getElem?_eq_getElem (by omega)
      obtain ⟨n, h1, h2, h3⟩ := okInt htk (hval j 5 _ (hp j hj) hj')
      exact ⟨n, by rw [hj', h1], h2, h3⟩
    obtain ⟨a, q0, ha⟩ := get 0 (by omega)
    obtain ⟨b, q1, hb⟩ := get 1 (by omega)
    obtain ⟨c, q2, hc⟩ := get 2 (by omega)
    obtain ⟨d, q3, hd⟩ := get 3 (by omega)
    obtain ⟨e, q4, he⟩ := get 4 (by omega)
    obtain ⟨m, q5, hm⟩ := get 5 (by omega)
    obtain ⟨g, q6, hg⟩ := get 6 (by omega)
    refine calls_of_tri (f := 3) (R := 14) (fn := Try.f3) (c := body3) (args := [.int .u8 true a, .int .u8 true b, .int .u8 true c, .int .u8 true d, .int .u8 true e, .int .u8 true m, .int .u8 true g]) (ora := []) (by kernel_rfl) (by kernel_rfl) (by kernel_rfl) (runs ha hb hc hd he hm hg) hs fun i hi => ?_
    have hi : i < 7 := hi
    match i, hi with
    | 0, _ => rw [Array.getD_eq_getD_getElem?, q0]; exact .int
    | 1, _ => rw [Array.getD_eq_getD_getElem?, q1]; exact .int
    | 2, _ => rw [Array.getD_eq_getD_getElem?, q2]; exact .int
    | 3, _ => rw [Array.getD_eq_getD_getElem?, q3]; exact .int
    | 4, _ => rw [Array.getD_eq_getD_getElem?, q4]; exact .int
    | 5, _ => rw [Array.getD_eq_getD_getElem?, q5]; exact .int
    | 6, _ => rw [Array.getD_eq_getD_getElem?, q6]; exact .int

set_option maxRecDepth 100000 in
theorem lifted (os : Os) (started : os.Started) (H : Type) (enc : TypeId × Value → H) (F : Stop.Interp) :
    ReturnsInHanded {} Try.checked os 3 .any ((Rows.OpenSpec.upto Rows.heaviestLoopSpec).pre6 enc Try.prog Try.f3 Rows.heaviestLoopUptoRow.domain false) (((Rows.OpenSpec.upto Rows.heaviestLoopSpec).at F).post enc Try.prog Try.f3 false true false false) := by
  refine returnsInHanded_of_cond (C := Try.checked) (s := Rows.OpenSpec.upto Rows.heaviestLoopSpec) (k := Rows.uptoSmall) rfl own started (by kernel_rfl) Try.func3
    (OpenSpec.witness (enc := enc) (C := Try.checked) (s := Rows.OpenSpec.upto Rows.heaviestLoopSpec) (k := Rows.uptoSmall) rfl false ⟨#[], #[.int .u8 0, .int .u8 0, .int .u8 0, .int .u8 0, .int .u8 0, .int .u8 0, .int .u8 0], []⟩ 8 (by kernel_rfl) (by kernel_rfl) (by kernel_rfl)
      (x := ([.lit (.int .u8 0), .lit (.int .u8 0), .lit (.int .u8 0), .lit (.int .u8 0), .lit (.int .u8 0), .lit (.int .u8 0), .lit (.int .u8 0)], [], [])) (by kernel_rfl) rfl (by kernel_rfl)) ?_
  intro W base args ds gs before hval hW _ hk _
  exact contract H enc W base args ds gs before hval hW

theorem over : Rows.heaviestLoopUptoRow.holds Try.pinned (Rows.OpenSpec.upto Rows.heaviestLoopSpec) :=
  OpenClaim.holds_of_cond 3 Try.f3 rfl rfl rfl rfl rfl rfl rfl ⟨rfl, rfl, rfl, rfl, rfl⟩ rfl rfl rfl rfl rfl (by kernel_rfl) Try.func3 (by kernel_rfl)
    (of_decide_eq_true (by kernel_rfl)) (by unfold Func.isWrapper; first | (rw [if_pos (by decide +kernel)]; kernel_rfl) | (rw [if_neg (by decide +kernel)]; exact ⟨rfl, rfl⟩))
    (fun os started H enc _ F => lifted os started H enc F)

/-- The statement. -/
theorem proved : Rows.HeaviestLoopUptoSaid :=
  over
end Go.Proofs.Ytpkjnlmniacnaaa.heaviestLoop
