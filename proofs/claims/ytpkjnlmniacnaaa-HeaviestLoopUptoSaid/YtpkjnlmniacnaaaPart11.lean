/- Equations and plain laws of the functions that the statement reaches, part 11. Conditions: those in each theorem. -/
import Derived.Test.YtpkjnlmniacnaaaPart6
import Derived.KernelRfl
set_option linter.unusedVariables false
set_option linter.unusedSimpArgs false
/- HeaviestLoop: its end. -/
namespace Go.Xe
open Go.Proofs
noncomputable def seg5O (a b c d e g M N1 N2 : Int) : List Owe := [(.mk .eql N2 (wr .i64 ((wr .i64 ((wr .i64 ((wr .i64 a) + (wr .i64 g))) + (wr .i64 b))) + (wr .i64 e))) true), (.mk .eql N1 (wr .i64 ((wr .i64 ((wr .i64 ((wr .i64 ((wr .i64 a) + (wr .i64 g))) + (wr .i64 b))) + (wr .i64 e))) + (wr .i64 (M * (wr .i64 ((wr .i64 c) + (wr .i64 d))))))) true)]
set_option maxRecDepth 100000 in
theorem seg5 (a b c d e m g A B C D E M G N1 N2 : Int) : fin 14 (codeX Try.prog (calS 10 (funX Try.prog 60)) 60 (restC 8 body3) (litSt ((17, some (.int .i64 true N1)) :: (18, some (.bool true)) :: (19, some (.int .i64 true N2)) :: (20, some (.bool true)) :: (21, some (.int .i64 false 0)) :: (22, some (.bool false)) :: sl5 a b c d e m g) (bl5 A B C D E M G) 1000 124 [true, true])) = some (.bool true, seg5O a b c d e g M N1 N2) := by kernel_rfl
end Go.Xe
