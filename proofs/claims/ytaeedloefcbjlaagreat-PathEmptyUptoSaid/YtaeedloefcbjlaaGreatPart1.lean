/- Equations and plain laws of the functions that the statement reaches, part 1. Conditions: those in each theorem. -/
import Derived.Test.YtaeedloefcbjlaaGreatAbsPart5
import Derived.Test.YtaeedloefcbjlaaGreatChecked
import Derived.KernelRfl
set_option linter.unusedVariables false
set_option linter.unusedSimpArgs false
namespace Go.Ab
open Go.Proofs
set_option maxRecDepth 100000
theorem follows_ok : Tryz.prog.follows .mixedOrders = true := by kernel_rfl
theorem types_ok : typesB Tryz.prog = true := by kernel_rfl
theorem names_ok : namesB Tryz.prog = true := by kernel_rfl
end Go.Ab
