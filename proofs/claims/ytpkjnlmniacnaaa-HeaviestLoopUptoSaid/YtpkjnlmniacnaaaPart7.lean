/- Equations and plain laws of the functions that the statement reaches, part 7. Conditions: those in each theorem. -/
import Derived.Test.YtpkjnlmniacnaaaPart6
import Derived.KernelRfl
set_option linter.unusedVariables false
set_option linter.unusedSimpArgs false
/- HeaviestLoop: the first cost, no round. -/
namespace Go.Xe
open Go.Proofs
noncomputable def num1a (A B C D E M G : Int) : Int := (wr .i64 ((wr .i64 ((wr .i64 (0 + B)) + (wr .i64 (A + (wr .i64 (G + (wr .i64 (M * 0)))))))) + E))
noncomputable def seg2aO (A B C D E M G : Int) : List Owe := [(.mk .gtr (wr .i64 ((wr .i64 (0 + B)) + (wr .i64 (D - 0)))) (wr .i64 ((wr .i64 (0 + B)) + (wr .i64 (D - 0)))) false), (.mk .gtr (wr .i64 (0 + B)) (wr .i64 (0 + B)) false), (.mk .gtr (wr .i64 ((wr .i64 ((wr .i64 (0 + B)) + (wr .i64 (D - 0)))) + C)) (wr .i64 (0 + B)) false), (.mk .gtr (wr .i64 ((wr .i64 (0 + B)) + (wr .i64 (A + (wr .i64 (G + (wr .i64 (M * 0)))))))) (wr .i64 ((wr .i64 (0 + B)) + (wr .i64 (A + (wr .i64 (G + (wr .i64 (M * 0)))))))) false), (.mk .gtr (wr .i64 ((wr .i64 (0 + B)) + (wr .i64 (D - 0)))) (wr .i64 ((wr .i64 (0 + B)) + (wr .i64 (D - 0)))) false), (.mk .gtr (wr .i64 (0 + B)) (wr .i64 (0 + B)) false), (.mk .gtr (wr .i64 ((wr .i64 ((wr .i64 (0 + B)) + (wr .i64 (D - 0)))) + C)) (wr .i64 (0 + B)) false), (.mk .gtr (wr .i64 ((wr .i64 (0 + C)) + (wr .i64 (D - 0)))) 0 false), (.mk .gtr (wr .i64 (0 + C)) (wr .i64 (0 + C)) false), (.mk .gtr E 16777216 false), (.mk .lss E 0 false), (.mk .gtr D 16777216 false), (.mk .lss D 0 false), (.mk .gtr B 16777216 false), (.mk .lss B 0 false), (.mk .gtr C 16777216 false), (.mk .lss C 0 false), (.mk .gtr A 16777216 false), (.mk .lss A 0 false), (.mk .gtr G 16777216 false), (.mk .lss G 0 false), (.mk .gtr M 32 false), (.mk .lss M 0 false)]
set_option maxRecDepth 100000 in
theorem seg2a (a b c d e m g A B C D E M G : Int) : kept ([17, 18] ++ [0, 1, 2, 3, 4, 6, 14, 15, 16]) [2, 3, 4, 5, 6, 7, 15, 16, 17, 18, 19, 20, 21, 22] (chainX Try.prog (funX Try.prog 60) 60 1 (restC 5 body3) (litSt (sl5 a b c d e m g) (bl5 A B C D E M G) 23 124 [false, false, false, false, false, false, false, false, false, false, false, false, false, false, false, false, false, false, false, false, false, false, false, false, false, false, false, false, false, false, false, false, false, false, false, false, false, false, false, false, false, false, false, false, false, false, false, false, false, false, false, false, false, false, false, false, false, false, false, false])) =
    some ⟨(17, some (.int .i64 true (num1a A B C D E M G))) :: (18, some (.bool true)) :: sl5 a b c d e m g, bl5 A B C D E M G, 305, 124, seg2aO A B C D E M G⟩ := by kernel_rfl
end Go.Xe
