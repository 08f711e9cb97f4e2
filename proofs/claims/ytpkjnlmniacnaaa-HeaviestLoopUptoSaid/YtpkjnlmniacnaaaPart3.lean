/- Equations and plain laws of the functions that the statement reaches, part 3. Conditions: those in each theorem. -/
import Derived.Test.YtpkjnlmniacnaaaPart2
import Derived.KernelRfl
set_option linter.unusedVariables false
set_option linter.unusedSimpArgs false
/- awake: the cost. -/
namespace Go.Xe
open Go.Proofs
set_option maxRecDepth 100000 in
theorem seg10b : kept ([3, 4] ++ [0, 1, 2]) [2, 3, 4, 5, 6, 7, 9, 10, 11, 12, 13, 14, 15, 16] (chainX Try.prog (funX Try.prog 60) 60 1 (restC 2 body10) (litSt sl6 bl6 17 48 [])) = some ⟨(3, some (.int .i64 false 34)) :: (4, some (.bool true)) :: sl6, bl6, 304, 48, []⟩ := by kernel_rfl
end Go.Xe
