/- Equations and plain laws of the functions that the statement reaches, part 5. Conditions: those in each theorem. -/
import Derived.Test.YtpkjnlmniacnaaaPart2
import Derived.KernelRfl
set_option linter.unusedVariables false
set_option linter.unusedSimpArgs false
/- awake: its end. -/
namespace Go.Xe
open Go.Proofs
set_option maxRecDepth 100000 in
theorem seg10d : fin 0 (codeX Try.prog (funX Try.prog 60) 60 (restC 4 body10) (litSt ((5, some (.slc 495 0 1 1)) :: (6, some (.bool true)) :: (3, some (.int .i64 false 34)) :: (4, some (.bool true)) :: sl6) ((495, some [.int .i64 false 10]) :: bl6) 600 48 [])) = some (.bool true, []) := by kernel_rfl
end Go.Xe
