/- Equations and plain laws of the functions that the statement reaches, part 9. Conditions: those in each theorem. -/
import Derived.Test.YtpkjnlmniacnaaaPart6
import Derived.KernelRfl
set_option linter.unusedVariables false
set_option linter.unusedSimpArgs false
/- HeaviestLoop: the second cost. -/
namespace Go.Xe
open Go.Proofs
noncomputable def num2 (A B C D E M G : Int) : Int := (wr .i64 ((wr .i64 ((wr .i64 (0 + B)) + (wr .i64 (A + (wr .i64 (G + (wr .i64 (M * 0)))))))) + E))
noncomputable def seg3O (A B C D E M G : Int) : List Owe := [(.mk .gtr (wr .i64 (0 + B)) (wr .i64 (0 + B)) false), (.mk .gtr (wr .i64 ((wr .i64 (0 + B)) + (wr .i64 (A + (wr .i64 (G + (wr .i64 (M * 0)))))))) (wr .i64 ((wr .i64 (0 + B)) + (wr .i64 (A + (wr .i64 (G + (wr .i64 (M * 0)))))))) false), (.mk .gtr (wr .i64 (0 + B)) (wr .i64 (0 + B)) false), (.mk .gtr E 16777216 false), (.mk .lss E 0 false), (.mk .gtr D 16777216 false), (.mk .lss D 0 false), (.mk .gtr B 16777216 false), (.mk .lss B 0 false), (.mk .gtr C 16777216 false), (.mk .lss C 0 false), (.mk .gtr A 16777216 false), (.mk .lss A 0 false), (.mk .gtr G 16777216 false), (.mk .lss G 0 false), (.mk .gtr M 32 false), (.mk .lss M 0 false)]
set_option maxRecDepth 100000 in
theorem seg3 (a b c d e m g A B C D E M G N1 : Int) : kept ([17, 18, 19, 20] ++ [0, 1, 2, 3, 4, 6, 14, 15, 16]) [2, 3, 4, 5, 6, 7, 15, 16, 17, 18, 19, 20, 21, 22] (chainX Try.prog (funX Try.prog 60) 60 1 (restC 6 body3) (litSt ((17, some (.int .i64 true N1)) :: (18, some (.bool true)) :: sl5 a b c d e m g) (bl5 A B C D E M G) 400 124 [false, false, false, false, false, false, false, false, false, false, false, false, false, false, false, false, false, false, false, false, false, false, false, false, false, false, false, false, false, false, false, false, false, false, false, false, false, false, false, false, false, false, false, false, false, false, false, false, false, false, false, false, false, false, false, false, false, false, false, false])) =
    some ⟨(17, some (.int .i64 true N1)) :: (18, some (.bool true)) :: (19, some (.int .i64 true (num2 A B C D E M G))) :: (20, some (.bool true)) :: sl5 a b c d e m g, bl5 A B C D E M G, 668, 124, seg3O A B C D E M G⟩ := by kernel_rfl
end Go.Xe
