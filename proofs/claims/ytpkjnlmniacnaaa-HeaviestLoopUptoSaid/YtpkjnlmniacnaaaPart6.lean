/- Equations and plain laws of the functions that the statement reaches, part 6. Conditions: those in each theorem. -/
import Derived.Test.YtpkjnlmniacnaaaXePart3
import Derived.Test.YtpkjnlmniacnaaaProg
import Derived.KernelRfl
set_option linter.unusedVariables false
set_option linter.unusedSimpArgs false
/- HeaviestLoop: its first regions. -/
namespace Go.Xe
open Go.Proofs
noncomputable abbrev wr (k : IntKind) (n : Int) : Int := IntKind.wrap k n
noncomputable def body3 : Code := (Try.f3.body).getD .skip
noncomputable def sl5 (a b c d e m g : Int) : List (Nat × Option EV) := [(0, some (.int .u8 true a)), (1, some (.int .u8 true b)), (2, some (.int .u8 true c)), (3, some (.int .u8 true d)), (4, some (.int .u8 true e)), (6, some (.int .u8 true g)), (14, some (.bool false)), (15, some (.ptr 15 0)), (16, some (.ptr 16 0))]
noncomputable def bl5 (A B C D E M G : Int) : List (Nat × Option (List EV)) := [(2, (.some [(.int .i64 false 1)])), (3, (.some [(.int .i64 false 2), (.int .i64 false 3)])), (4, (.some [(.int .i64 false 1)])), (5, (.some [(.int .i64 false 0), (.int .i64 false 0), (.slc 2 0 1 1), (.con (.slice .none 0 0)), (.int .i64 false 0), (.int .i64 false 0), (.slc 3 0 2 1), (.con (.slice .none 0 0)), (.int .i64 false 0), (.int .i64 false 0), (.slc 4 0 1 1), (.con (.slice .none 0 0)), (.int .i64 false 0), (.int .i64 false 0), (.con (.slice .none 0 0)), (.con (.slice .none 0 0))])), (6, (.some [(.int .i64 false 1), (.int .i64 false 2)])), (7, (.some [(.int .i64 false 1), (.int .i64 false 0), (.slc 6 0 2 1), (.int .i64 false (-1)), (.int .i64 true M)])), (15, (.some [(.con (.string (.mk (.mk [])))), (.slc 5 0 4 4), (.slc 7 0 1 5), (.con (.slice .none 0 0)), (.con (.slice .none 0 0)), (.con (.slice .none 0 0)), (.con (.slice .none 0 0)), (.con (.slice .none 0 0)), (.con (.slice .none 0 0)), (.con (.slice .none 0 0))])), (16, (.some [(.slc 21 0 4 1), (.slc 22 0 1 1)])), (17, (.some [(.int .i64 true A)])), (18, (.some [(.int .i64 true C), (.int .i64 true B)])), (19, (.some [(.int .i64 true D)])), (20, (.some [(.int .i64 true E)])), (21, (.some [(.slc 17 0 1 1), (.slc 18 0 2 1), (.slc 19 0 1 1), (.slc 20 0 1 1)])), (22, (.some [(.int .i64 true G)]))]

set_option maxRecDepth 100000 in
theorem seg1 (a b c d e m g : Int) : kept [0, 1, 2, 3, 4, 6, 14, 15, 16] [2, 3, 4, 5, 6, 7, 15, 16, 17, 18, 19, 20, 21, 22] (chainX Try.prog (funX Try.prog 60) 60 5 body3 (ini [.int .u8 true a, .int .u8 true b, .int .u8 true c, .int .u8 true d, .int .u8 true e, .int .u8 true m, .int .u8 true g] 124 [])) =
    some ⟨sl5 a b c d e m g, bl5 (wr .i64 a) (wr .i64 b) (wr .i64 c) (wr .i64 d) (wr .i64 e) (Int.tmod (wr .i64 m) 33) (wr .i64 g), 23, 124, []⟩ := by kernel_rfl
end Go.Xe
