/- Equations and plain laws of the functions that the statement reaches, part 4. Conditions: those in each theorem. -/
import Derived.Test.YtpkjnlmniacnaaaPart2
import Derived.KernelRfl
set_option linter.unusedVariables false
set_option linter.unusedSimpArgs false
/- awake: the prices. -/
namespace Go.Xe
open Go.Proofs
set_option maxRecDepth 100000 in
theorem seg10c : kept ([5, 6] ++ [3, 4] ++ [0, 1, 2]) ([495] ++ [2, 3, 4, 5, 6, 7, 9, 10, 11, 12, 13, 14, 15, 16]) (chainX Try.prog (funX Try.prog 60) 60 1 (restC 3 body10) (litSt ((3, some (.int .i64 false 34)) :: (4, some (.bool true)) :: sl6) bl6 400 48 [])) = some ⟨(5, some (.slc 495 0 1 1)) :: (6, some (.bool true)) :: (3, some (.int .i64 false 34)) :: (4, some (.bool true)) :: sl6, (495, some [.int .i64 false 10]) :: bl6, 585, 48, []⟩ := by kernel_rfl
end Go.Xe
