/- Equations and plain laws of the functions that the statement reaches, part 2. Conditions: those in each theorem. -/
import Derived.Test.YtpkjnlmniacnaaaXePart3
import Derived.Test.YtpkjnlmniacnaaaProg
import Derived.KernelRfl
set_option linter.unusedVariables false
set_option linter.unusedSimpArgs false
/- awake: its first regions. -/
namespace Go.Xe
open Go.Proofs
noncomputable def body10 : Code := (Try.f10.body).getD .skip
noncomputable def sl6 : List (Nat × Option EV) := [(0, (.some (.bool false))), (1, (.some (.ptr 15 0))), (2, (.some (.ptr 16 0)))]
noncomputable def bl6 : List (Nat × Option (List EV)) := [(2, (.some [(.int .i64 false 1)])), (3, (.some [(.int .i64 false 2), (.int .i64 false 3)])), (4, (.some [(.int .i64 false 1)])), (5, (.some [(.int .i64 false 0), (.int .i64 false 0), (.slc 2 0 1 1), (.con (.slice .none 0 0)), (.int .i64 false 0), (.int .i64 false 0), (.slc 3 0 2 1), (.con (.slice .none 0 0)), (.int .i64 false 0), (.int .i64 false 0), (.slc 4 0 1 1), (.con (.slice .none 0 0)), (.int .i64 false 0), (.int .i64 false 0), (.con (.slice .none 0 0)), (.con (.slice .none 0 0))])), (6, (.some [(.int .i64 false 1), (.int .i64 false 2)])), (7, (.some [(.int .i64 false 1), (.int .i64 false 0), (.slc 6 0 2 1), (.int .i64 false (-1)), (.int .i64 false 3)])), (9, (.some [(.int .i64 false 2)])), (10, (.some [(.int .i64 false 4), (.int .i64 false 1)])), (11, (.some [(.int .i64 false 6)])), (12, (.some [(.int .i64 false 1)])), (13, (.some [(.slc 9 0 1 1), (.slc 10 0 2 1), (.slc 11 0 1 1), (.slc 12 0 1 1)])), (14, (.some [(.int .i64 false 0)])), (15, (.some [(.con (.string (.mk (.mk [])))), (.slc 5 0 4 4), (.slc 7 0 1 5), (.con (.slice .none 0 0)), (.con (.slice .none 0 0)), (.con (.slice .none 0 0)), (.con (.slice .none 0 0)), (.con (.slice .none 0 0)), (.con (.slice .none 0 0)), (.con (.slice .none 0 0))])), (16, (.some [(.slc 13 0 4 1), (.slc 14 0 1 1)]))]

set_option maxRecDepth 100000 in
theorem seg10a : kept [0, 1, 2] [2, 3, 4, 5, 6, 7, 9, 10, 11, 12, 13, 14, 15, 16] (chainX Try.prog (funX Try.prog 60) 60 2 body10 (ini [] 48 [])) = some ⟨sl6, bl6, 17, 48, []⟩ := by kernel_rfl
end Go.Xe
