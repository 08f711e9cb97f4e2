/- Equations and plain laws of the functions that the statement reaches, part 3. Conditions: those in each theorem. -/
import Derived.Test.YtdbahkmnhodhmaaProg
import Derived.Test.YtdbahkmnhodhmaaPart2
import Derived.KernelRfl
set_option linter.unusedVariables false
set_option linter.unusedSimpArgs false
/- What is known ahead of each function: which memory is owned, lent, read. -/
set_option linter.unusedVariables false
namespace Go.Ab
open Go.Proofs
def sigL : List (Nat × Sig) := [(3, ⟨[.imm 22], [.val 4 .imm]⟩),
  (4, ⟨[.imm 22], [.val 4 .imm]⟩),
  (5, ⟨[.imm 35, .imm 22, .imm 3, .imm 3, .imm 3], [.val 4 .imm]⟩),
  (6, ⟨[.imm 22], [.val 4 .imm]⟩),
  (7, ⟨[.imm 51, .imm 22, .imm 22, .imm 3, .imm 3, .imm 3], [.val 4 .imm]⟩),
  (8, ⟨[.imm 22, .imm 3, .imm 3, .imm 3], [.val 4 .imm]⟩),
  (9, ⟨[.imm 22], [.val 4 .imm]⟩),
  (10, ⟨[.imm 78, .imm 82, .imm 22], [.val 4 .imm]⟩),
  (11, ⟨[.imm 22], [.val 4 .imm]⟩),
  (12, ⟨[.imm 22], [.val 4 .imm]⟩),
  (13, ⟨[.imm 78, .imm 22, .imm 3], [.val 4 .imm]⟩),
  (14, ⟨[.imm 22], [.val 4 .imm]⟩),
  (15, ⟨[.imm 22], [.box 110 .imm]⟩),
  (16, ⟨[.lent 110 .imm], [.val 26 .imm]⟩),
  (17, ⟨[.lent 110 .imm, .imm 26], [.val 28 (.slc (.slc .imm none) none)]⟩),
  (18, ⟨[.lent 110 .imm, .imm 3], [.val 3 .imm]⟩),
  (19, ⟨[.imm 26, .imm 28, .imm 30], [.val 3 .imm]⟩),
  (20, ⟨[.imm 26, .imm 28, .imm 30], [.val 3 .imm]⟩),
  (21, ⟨[], [.val 4 .imm]⟩),
  (22, ⟨[], [.val 4 .imm]⟩),
  (23, ⟨[.lent 110 .imm, .imm 3], [.val 35 (.slc .imm none)]⟩),
  (24, ⟨[.imm 35, .imm 3, .imm 3], [.val 35 (.slc .imm none)]⟩),
  (25, ⟨[.imm 35], [.val 4 .imm]⟩),
  (26, ⟨[.imm 35], [.val 4 .imm]⟩),
  (27, ⟨[.imm 35, .imm 3, .imm 3], [.val 4 .imm]⟩),
  (28, ⟨[.imm 35, .imm 3, .imm 3], [.val 4 .imm]⟩),
  (29, ⟨[.imm 35, .imm 3], [.val 3 .imm, .val 4 .imm]⟩),
  (30, ⟨[.imm 35, .imm 3], [.val 3 .imm, .val 4 .imm]⟩),
  (31, ⟨[.imm 3, .imm 3], [.val 3 .imm]⟩),
  (32, ⟨[.imm 35, .imm 3, .imm 3], [.val 3 .imm]⟩),
  (33, ⟨[.imm 35, .imm 3, .imm 3], [.val 3 .imm]⟩),
  (34, ⟨[], [.val 4 .imm]⟩),
  (35, ⟨[.lent 110 .imm], [.val 51 (.slc .imm none)]⟩),
  (36, ⟨[.imm 51, .imm 3, .imm 3], [.val 51 (.slc .imm none)]⟩),
  (37, ⟨[.imm 51], [.val 4 .imm]⟩),
  (38, ⟨[.imm 51], [.val 4 .imm]⟩),
  (39, ⟨[.imm 51, .imm 3], [.val 22 (.slc .imm none), .val 56 .imm]⟩),
  (40, ⟨[.imm 51, .imm 3], [.val 22 (.slc .imm none), .val 56 .imm]⟩),
  (41, ⟨[.imm 22, .imm 22], [.val 4 .imm]⟩),
  (42, ⟨[.imm 51, .imm 22], [.val 3 .imm, .val 3 .imm, .val 4 .imm]⟩),
  (43, ⟨[.imm 51, .imm 22], [.val 3 .imm, .val 3 .imm, .val 4 .imm]⟩),
  (44, ⟨[.lent 110 .imm], [.val 67 .imm]⟩),
  (45, ⟨[.imm 67, .imm 51, .imm 22], [.val 67 .imm, .val 56 .imm]⟩),
  (46, ⟨[.imm 65, .imm 3], [.val 4 .imm]⟩),
  (47, ⟨[], [.val 4 .imm]⟩),
  (48, ⟨[.lent 110 .imm], [.val 82 .imm, .val 22 .imm]⟩),
  (49, ⟨[.lent 110 .imm, .imm 82, .imm 3], [.val 78 .imm]⟩),
  (50, ⟨[.lent 110 .imm, .imm 78], [.val 78 .imm]⟩),
  (51, ⟨[.imm 82, .imm 78], [.val 4 .imm]⟩),
  (52, ⟨[.imm 82, .imm 78], [.val 4 .imm]⟩),
  (53, ⟨[.imm 82, .imm 78], [.val 56 .imm]⟩),
  (54, ⟨[.imm 82, .imm 78], [.val 56 .imm]⟩),
  (55, ⟨[.imm 78], [.val 3 .imm]⟩),
  (56, ⟨[.imm 78], [.val 3 .imm]⟩),
  (57, ⟨[.imm 82, .imm 22], [.val 3 .imm, .val 4 .imm]⟩),
  (58, ⟨[.imm 82], [.val 94 .imm]⟩),
  (59, ⟨[.imm 82, .imm 79, .imm 94], [.val 3 .imm, .val 4 .imm, .val 4 .imm]⟩),
  (60, ⟨[.lent 110 .imm, .imm 3], [.val 80 (.slc .imm none)]⟩),
  (61, ⟨[.imm 82, .imm 80, .imm 3, .imm 78, .imm 78], [.val 78 .imm, .val 56 .imm]⟩),
  (62, ⟨[.imm 82, .imm 80, .imm 3, .imm 78, .imm 78], [.val 78 .imm, .val 56 .imm]⟩),
  (63, ⟨[.imm 78, .imm 78], [.val 4 .imm]⟩),
  (64, ⟨[.imm 80, .imm 3], [.val 100 .imm, .val 100 (.agg [(0, (.slc .imm none))])]⟩),
  (65, ⟨[.lent 110 .imm], [.val 26 .imm]⟩),
  (66, ⟨[.imm 26], [.val 56 .imm]⟩),
  (67, ⟨[.imm 30, .imm 113], [.val 4 .imm]⟩),
  (68, ⟨[.imm 28, .iptr 26], [.val 4 .imm]⟩),
  (69, ⟨[.imm 67], [.val 3 .imm]⟩),
  (70, ⟨[], [.val 35 (.slc .imm none)]⟩),
  (71, ⟨[.imm 35, .imm 121], [.val 4 .imm]⟩),
  (72, ⟨[.imm 48], [.val 4 .imm]⟩),
  (73, ⟨[.imm 3, .imm 3, .imm 3], [.val 4 .imm]⟩),
  (74, ⟨[.imm 46, .imm 120], [.val 4 .imm]⟩),
  (75, ⟨[.imm 50], [.val 4 .imm]⟩),
  (76, ⟨[.imm 3, .imm 3, .imm 3], [.val 4 .imm]⟩),
  (77, ⟨[.imm 50, .iptr 3], [.val 4 .imm]⟩),
  (78, ⟨[.imm 48, .imm 3], [.val 4 .imm]⟩),
  (79, ⟨[], [.val 51 (.slc .imm none)]⟩),
  (80, ⟨[.imm 75], [.val 4 .imm]⟩),
  (81, ⟨[.imm 51, .imm 125], [.val 4 .imm]⟩),
  (82, ⟨[.imm 75, .iptr 75], [.val 4 .imm]⟩),
  (83, ⟨[.imm 22, .imm 22], [.val 3 .imm]⟩),
  (84, ⟨[.imm 22, .imm 22], [.val 4 .imm]⟩),
  (85, ⟨[.imm 3, .imm 22], [.val 4 .imm]⟩),
  (86, ⟨[.imm 67], [.val 56 .imm]⟩),
  (87, ⟨[.imm 65], [.val 65 (.slc .imm none)]⟩),
  (88, ⟨[], [.val 82 .imm, .val 78 (.agg [(0, (.slc (.agg [(4, (.slc .imm none))]) none))])]⟩),
  (89, ⟨[.lent 110 .imm, .imm 3], [.val 82 .imm]⟩),
  (90, ⟨[.lent 110 .imm, .imm 82], [.val 22 (.slc .imm none)]⟩),
  (91, ⟨[.imm 82, .imm 22], [.val 82 .imm, .val 56 .imm]⟩),
  (92, ⟨[.imm 82], [.val 4 .imm]⟩),
  (93, ⟨[.imm 94], [.val 143 .imm]⟩),
  (94, ⟨[.imm 141, .imm 4], [.val 4 .imm]⟩),
  (95, ⟨[.imm 94], [.val 4 .imm]⟩),
  (96, ⟨[.imm 82, .imm 80, .imm 3], [.val 4 .imm]⟩),
  (97, ⟨[.imm 78], [.val 151 (.slc .imm none)]⟩),
  (98, ⟨[.imm 151, .imm 154], [.val 4 .imm]⟩),
  (99, ⟨[.imm 79, .iptr 82], [.val 4 .imm]⟩),
  (100, ⟨[.imm 94], [.val 4 .imm]⟩),
  (101, ⟨[.imm 82, .imm 79, .imm 94], [.val 3 .imm, .val 4 .imm, .val 4 .imm]⟩),
  (102, ⟨[.imm 82], [.val 4 .imm]⟩),
  (103, ⟨[.imm 80, .imm 3], [.val 3 .imm]⟩),
  (104, ⟨[.imm 82, .imm 80, .imm 3], [.val 4 .imm]⟩),
  (105, ⟨[.imm 80], [.val 80 (.slc .imm none)]⟩),
  (106, ⟨[.imm 82, .imm 76, .imm 3], [.val 76 (.slc .imm none)]⟩),
  (107, ⟨[.imm 76, .imm 3, .imm 3], [.val 76 (.slc .imm none)]⟩),
  (108, ⟨[.imm 80, .imm 80], [.val 4 .imm]⟩),
  (109, ⟨[.imm 3, .imm 3, .imm 3], [.val 4 .imm]⟩),
  (110, ⟨[.imm 30, .imm 113], [.val 3 .imm]⟩),
  (111, ⟨[.imm 35, .imm 121], [.val 3 .imm]⟩),
  (112, ⟨[.imm 46, .imm 120], [.val 3 .imm]⟩),
  (113, ⟨[.imm 51, .imm 125], [.val 3 .imm]⟩),
  (114, ⟨[.imm 3, .imm 3], [.val 3 .imm]⟩),
  (115, ⟨[.imm 3, .imm 3, .imm 3], [.val 4 .imm]⟩),
  (116, ⟨[.imm 65, .imm 3], [.val 4 .imm]⟩),
  (117, ⟨[.imm 82], [.val 4 .imm]⟩),
  (118, ⟨[.imm 82, .imm 3, .imm 3, .imm 3, .imm 3, .imm 3, .imm 3], [.val 4 .imm]⟩),
  (119, ⟨[.imm 141, .imm 4], [.val 3 .imm]⟩),
  (120, ⟨[.imm 100, .imm 3], [.val 4 .imm]⟩),
  (121, ⟨[.imm 94], [.val 100 .imm, .val 100 .imm]⟩),
  (122, ⟨[.imm 79], [.val 79 (.slc .imm none)]⟩),
  (123, ⟨[.imm 151, .imm 154], [.val 3 .imm]⟩),
  (124, ⟨[.imm 82, .imm 79, .imm 80], [.val 22 (.slc .imm none), .val 3 .imm, .val 4 .imm]⟩),
  (125, ⟨[.imm 80, .imm 3, .imm 3], [.val 4 .imm]⟩),
  (126, ⟨[.imm 22, .imm 175], [.val 4 .imm]⟩),
  (127, ⟨[.imm 3], [.val 4 .imm]⟩),
  (128, ⟨[.imm 3, .imm 3], [.val 3 .imm]⟩),
  (129, ⟨[.imm 80, .imm 3, .imm 3], [.val 4 .imm]⟩),
  (130, ⟨[.imm 3], [.val 4 .imm]⟩),
  (131, ⟨[.imm 65, .imm 177], [.val 4 .imm]⟩),
  (132, ⟨[.imm 73, .iptr 3], [.val 4 .imm]⟩),
  (133, ⟨[.imm 3, .imm 3], [.val 4 .imm]⟩),
  (134, ⟨[.imm 79, .imm 180], [.val 4 .imm]⟩),
  (135, ⟨[.imm 100, .iptr 82, .iptr 3, .iptr 3], [.val 4 .imm]⟩),
  (136, ⟨[.imm 22, .imm 175], [.val 3 .imm]⟩),
  (137, ⟨[.imm 65, .imm 177], [.val 3 .imm]⟩),
  (138, ⟨[.imm 79, .imm 180], [.val 3 .imm]⟩),
  (155, ⟨[.imm 146, .imm 82, .imm 3], [.val 4 .imm]⟩),
  (156, ⟨[.imm 80], [.val 4 .imm]⟩),
  (157, ⟨[.imm 147, .imm 82, .imm 3], [.val 4 .imm]⟩)]
def cmdL : List (Nat × List (Nat × List Cmd)) := [(12, [(6, [.frz 10 []])]),
  (14, [(6, [.frz 9 []])]),
  (23, [(10, [.frz 6 []])]),
  (44, [(8, [.frz 3 []])]),
  (45, [(15, [.frz 3 []])]),
  (47, [(2, [.frz 2 []])]),
  (49, [(10, [.frz 7 []])]),
  (50, [(3, [.frz 3 []]), (22, [.frz 3 [.fld 0]]), (25, [.frz 3 []])]),
  (51, [(23, [.frz 31 []])]),
  (52, [(20, [.frz 25 []])]),
  (54, [(13, [.frz 25 [.idx 0]]), (14, [.frz 9 []])]),
  (58, [(8, [.frz 3 []])]),
  (61, [(8, [.weak 12 (.agg [(0, (.slc .imm none))])]), (10, [.frz 12 []])]),
  (62, [(9, [.weak 13 (.agg [(0, (.slc .imm none))])]), (11, [.frz 13 []])]),
  (70, [(2, [.frz 1 []]), (4, [.frz 2 []])]),
  (88, [(2, [.frz 2 []])]),
  (89, [(14, [.frz 7 [], .weak 5 (.agg [(1, (.slc .imm none)), (2, (.slc .imm none))])]), (15, [.frz 5 []])]),
  (91, [(16, [.frz 6 []])]),
  (97, [(7, [.frz 11 [.idx 0]])]),
  (106, [(14, [.frz 9 []])]),
  (107, [(17, [.frz 9 []])]),
  (121, [(8, [.frz 3 []])])]
def loopL : List (Nat × List (Nat × (List Cmd × List Nat × List Nat))) := [(3, [(6, ([.thaw 6 (.slc (.slc .imm none) none), .home 6], [3, 4, 5, 6, 7], [4, 6, 9, 14]))]),
  (4, [(6, ([], [3, 4, 5, 6, 7, 20, 21], [4, 10, 15, 18]))]),
  (5, [(6, ([], [4, 12, 40, 41, 42], [33, 40])), (11, ([], [4, 12, 14, 15, 40, 41, 42], [33, 40])), (14, ([], [4, 12, 14, 15, 16, 40, 41, 42], [33, 40])), (19, ([], [4, 12, 14, 17, 40, 41, 42], [33, 40])), (27, ([], [4, 12, 98, 99], [33]))]),
  (6, [(7, ([], [4, 5, 43, 44], [18, 20])), (12, ([], [4, 5, 7, 8, 9, 10, 43, 44, 54, 55], [18, 20]))]),
  (7, [(6, ([], [1, 3, 13, 50, 51, 52], [41, 50])), (11, ([], [1, 3, 13, 16, 50, 51, 52, 67, 68, 69], [41, 50, 67])), (19, ([], [1, 3, 13, 16, 50, 51, 52, 101, 102, 103], [41, 50, 101]))]),
  (8, [(12, ([.thaw 22 .imm, .home 22], [3, 10, 11, 16, 22, 87, 88], [22, 30]))]),
  (9, [(5, ([.thaw 6 .imm, .home 6], [3, 4, 5, 6, 23, 24], [5, 6, 17, 19])), (14, ([], [4, 5, 6, 8, 49], [5, 6, 8, 19])), (18, ([], [4, 5, 6, 8, 10, 11, 12, 49, 60, 61, 62], [5, 6, 8, 19]))]),
  (10, [(7, ([], [4, 8, 44, 45, 46], [4, 8, 44]))]),
  (11, [(9, ([], [4, 5, 6, 7], [4, 6, 34])), (13, ([], [4, 5, 6, 7, 10], [4, 6, 34]))]),
  (13, [(10, ([.weak 52 .imm], [2, 7, 8, 12, 62, 63, 64], [8, 27, 52, 62])), (13, ([.weak 52 .imm], [2, 7, 8, 12, 14, 62, 63, 64, 72, 73, 74], [8, 14, 27, 52, 62, 72]))]),
  (17, [(3, ([], [0, 3, 5, 6], [0, 3, 14]))]),
  (19, [(5, ([], [2, 3, 7, 31, 32, 33], [3])), (10, ([], [2, 3, 7, 8, 10, 31, 32, 33, 42, 43, 44], [3, 41])), (13, ([], [2, 3, 7, 8, 10, 31, 32, 33, 42, 43, 44, 51, 52, 53], [3, 41])), (20, ([], [2, 3, 7, 15, 31, 32, 33, 62], [3, 41, 62]))]),
  (20, [(5, ([], [1, 2, 3, 7, 20, 21], [3])), (9, ([], [1, 2, 3, 7, 8, 9, 20, 21, 25, 26, 27], [3, 24])), (14, ([], [1, 2, 3, 7, 8, 9, 20, 21, 25, 26, 27, 39, 40, 41], [3, 24]))]),
  (23, [(3, ([.thaw 5 .imm, .home 5], [0, 5, 8, 9], [0, 5])), (7, ([], [0, 5, 6, 7, 8, 9], [0, 5, 6]))]),
  (26, [(2, ([], [0, 7, 8, 9], [])), (7, ([], [0, 7, 8, 9, 52, 53, 54], []))]),
  (29, [(3, ([], [0, 3, 6, 7, 10, 11, 12], [3]))]),
  (30, [(3, ([], [0, 1, 6, 7, 10, 11, 12], []))]),
  (32, [(3, ([], [0, 1, 2, 7, 14, 15, 16], [])), (8, ([], [0, 1, 2, 7, 14, 15, 16, 30, 31, 32], []))]),
  (33, [(3, ([], [0, 1, 2, 7, 14, 15, 16], [])), (8, ([], [0, 1, 2, 7, 14, 15, 16, 30, 31, 32], []))]),
  (35, [(4, ([.thaw 3 .imm, .home 3], [0, 3, 4, 5], [0, 3, 4]))]),
  (37, [(2, ([], [0, 5, 6, 7], []))]),
  (38, [(2, ([], [0, 8, 9, 10], [])), (10, ([], [0, 4, 8, 9, 10, 61, 62, 63], [4]))]),
  (39, [(8, ([.thaw 6 .imm, .home 6], [0, 1, 6, 7, 8, 26, 27], [6])), (12, ([.thaw 10 .imm, .home 10], [0, 1, 6, 7, 8, 9, 10, 26, 27, 31, 32], [6, 10]))]),
  (40, [(8, ([.thaw 6 .imm, .home 6], [0, 1, 6, 7, 8, 9], [6])), (12, ([.thaw 10 .imm, .home 10], [0, 1, 6, 7, 8, 9, 10, 33, 34], [6, 10]))]),
  (41, [(4, ([], [0, 1, 5], []))]),
  (42, [(5, ([], [0, 7, 8, 21, 22, 23], []))]),
  (43, [(5, ([], [0, 1, 7, 8, 14, 15, 16], []))]),
  (45, [(7, ([], [1, 3, 6, 33, 34, 35], [3, 6]))]),
  (46, [(2, ([], [0, 1, 5], []))]),
  (51, [(5, ([], [2, 3, 5, 33, 34, 35], [2, 3, 31])), (16, ([], [2, 3, 5, 33, 34, 35, 58, 59, 60], [2, 3, 31, 58]))]),
  (52, [(5, ([], [2, 3, 5, 27, 28, 29], [2, 3, 25])), (13, ([], [2, 3, 5, 6, 27, 28, 29, 69, 70, 71], [2, 3, 25, 69])), (21, ([], [97, 98, 99], []))]),
  (53, [(9, ([], [2, 3, 5, 24, 25, 26], [2, 3, 19]))]),
  (54, [(7, ([.weak 25 (.slc .imm none)], [2, 3, 5, 27, 28, 29], [2, 3, 25])), (17, ([], [2, 3, 5, 81, 82, 83], [2, 3, 25]))]),
  (55, [(3, ([], [3, 7, 8, 9], []))]),
  (56, [(3, ([], [3, 7, 8, 9], []))]),
  (57, [(4, ([], [1, 2, 21, 22, 23], [2])), (10, ([], [1, 2, 35, 36, 37], [2])), (14, ([], [1, 2, 9, 10, 35, 36, 37, 42, 43, 44], [2, 9])), (23, ([], [1, 13, 67, 68, 69], []))]),
  (58, [(3, ([], [1, 2, 3, 8, 9, 10], [1, 2, 3]))]),
  (59, [(4, ([], [1, 3, 5, 9, 10, 23, 24, 25], [3, 5, 21])), (13, ([], [1, 3, 5, 9, 10, 12, 13, 23, 24, 25, 67, 68, 69], [3, 5, 12, 13, 21])), (20, ([], [3, 5, 10, 94, 95, 96], [3, 5, 21]))]),
  (60, [(3, ([.thaw 5 .imm, .home 5], [0, 1, 5, 6], [0, 5]))]),
  (63, [(4, ([], [3, 23, 24, 25], [3]))]),
  (64, [(3, ([.thaw 6 .imm, .home 6], [0, 1, 4, 5, 6, 9, 10, 11], [4, 5, 6]))]),
  (78, [(2, ([], [1, 8, 9, 10], []))]),
  (83, [(2, ([], [0, 1, 9, 10, 11], []))]),
  (84, [(2, ([], [0, 1, 7, 8], []))]),
  (85, [(2, ([], [0, 1, 7, 8, 9], []))]),
  (86, [(8, ([], [1, 31, 32, 33], [1, 31]))]),
  (89, [(4, ([.weak 5 (.agg [(1, (.slc .imm none)), (2, (.slc .imm none))])], [0, 4, 5, 6], [0, 4, 5])), (9, ([], [0, 4, 5, 6, 7, 41, 42], [0, 4, 5, 7]))]),
  (90, [(3, ([.thaw 5 .imm, .home 5], [0, 5, 7, 8], [0, 5]))]),
  (91, [(5, ([], [1, 4, 6, 36, 37, 38], [4, 6])), (10, ([], [4, 6, 54, 55, 56], [4, 6]))]),
  (95, [(2, ([], [1, 6, 7, 8], [1]))]),
  (97, [(3, ([.weak 11 (.slc .imm none)], [3, 13, 14, 15], [11]))]),
  (101, [(5, ([], [3, 5, 9, 10, 39, 40, 41], [3, 5, 20]))]),
  (102, [(2, ([], [1, 6, 7, 8], [1]))]),
  (103, [(2, ([], [1, 7, 8, 9], []))]),
  (106, [(3, ([.thaw 7 .imm, .home 7], [2, 3, 7, 11, 12, 13], [3, 7])), (8, ([], [2, 3, 7, 9, 11, 12, 13, 29, 30], [3, 7, 9]))]),
  (107, [(3, ([.thaw 7 .imm, .home 7], [1, 2, 7, 13, 14, 15], [7])), (10, ([.thaw 10 .imm, .home 10], [1, 2, 7, 9, 10, 13, 14, 15, 37, 38, 39], [7, 9, 10]))]),
  (108, [(4, ([], [0, 1, 12, 13], []))]),
  (110, [(2, ([], [0, 1, 7, 8], []))]),
  (111, [(2, ([], [0, 1, 7, 8], []))]),
  (112, [(2, ([], [0, 1, 7, 8], []))]),
  (113, [(2, ([], [0, 1, 7, 8], []))]),
  (117, [(4, ([], [1, 38, 39, 40], [1]))]),
  (119, [(2, ([], [0, 1, 7, 8], []))]),
  (121, [(4, ([], [2, 3, 17, 18, 19], [2, 3]))]),
  (123, [(2, ([], [0, 1, 7, 8], []))]),
  (124, [(3, ([], [1, 3, 9, 10, 20, 21, 22], [3, 19])), (13, ([], [1, 3, 9, 10, 12, 20, 21, 22, 79, 80, 81], [3, 12, 19]))]),
  (125, [(2, ([], [0, 1, 2, 9, 10, 11], []))]),
  (129, [(2, ([], [0, 1, 2, 9, 10, 11], []))]),
  (136, [(2, ([], [0, 1, 7, 8], []))]),
  (137, [(2, ([], [0, 1, 7, 8], []))]),
  (138, [(2, ([], [0, 1, 7, 8], []))]),
  (156, [(2, ([], [0, 5, 6, 7], []))])]
def ownL : List (Nat × List Nat) := [(23, [22]), (58, [6]), (89, [16, 35]), (91, [26, 34, 49, 67, 74])]
def A : Ann :=
  { sig := fun f => assoc sigL f ⟨[], []⟩, cmd := fun f r => assoc (assoc cmdL f []) r [], loop := fun f r => assoc (assoc loopL f []) r ([], [], []), own := fun f d => (assoc ownL f []).any (Nat.beq d) }
end Go.Ab

/- Equations of functions: each rule reduces to a plain formula, by the kernel. -/
set_option linter.unusedVariables false
namespace Go.Ab
open Go.Proofs
/- timebound/timeboundmake.New -/
theorem E15 (n : Nat) (d0 : D) (Q : List D → Prop) : wpF Try.prog A (n + 1) 15 [d0] Q =
 (Q [(D.agg [d0, (D.int (0 : Int))])]) := by kernel_rfl

/- timebound/timeboundmake.Mod -/
theorem E31 (n : Nat) (d0 d1 : D) (Q : List D → Prop) : wpF Try.prog A (n + 1) 31 [d0, d1] Q =
 ((D.i d1) ≠ (0 : Int) ∧ ((D.i d1) ≠ (0 : Int) ∧ (Q [(D.int (Int.tmod (IntKind.wrap .i64 ((Int.tmod (D.i d0) (D.i d1)) + (D.i d1))) (D.i d1)))]))) := by kernel_rfl

/- (*timebound/timeboundmake.Deck).Next -/
theorem E18 (n : Nat) (d0 d1 : D) (Q : List D → Prop) : wpF Try.prog A (n + 1) 18 [d0, d1] Q =
 (cond (iLe (D.len (D.fld d0 0)) (D.i (D.fld d0 1)))
 (Q [(D.int (0 : Int)), d0])
 (cond (iLe (D.i d1) (1 : Int))
 (Q [(D.int (0 : Int)), d0])
 (True ∧ ((0 ≤ (IntKind.wrap .i64 ((IntKind.wrap .i64 ((D.i (D.fld d0 1)) + (1 : Int))) - (1 : Int))) ∧ (IntKind.wrap .i64 ((IntKind.wrap .i64 ((D.i (D.fld d0 1)) + (1 : Int))) - (1 : Int))) < (D.len (D.fld d0 0))) ∧ (wpF Try.prog A n 31 [(D.el (D.fld d0 0) (IntKind.wrap .i64 ((IntKind.wrap .i64 ((D.i (D.fld d0 1)) + (1 : Int))) - (1 : Int)))), d1] fun r1 =>
 (Q [(rs r1 0), (D.agg [(D.fld d0 0), (D.int (IntKind.wrap .i64 ((D.i (D.fld d0 1)) + (1 : Int))))])])))))) := by kernel_rfl

/- timebound/timeboundmake.Cache -/
theorem E65 (n : Nat) (d0 : D) (Q : List D → Prop) : wpF Try.prog A (n + 1) 65 [d0] Q =
 (wpF Try.prog A n 18 [d0, (D.int (5 : Int))] fun r1 =>
 (wpF Try.prog A n 18 [(rs r1 1), (D.int (3 : Int))] fun r2 =>
 (wpF Try.prog A n 18 [(rs r2 1), (D.int (4 : Int))] fun r3 =>
 (True ∧ (Q [(D.agg [(rs r1 0), (D.int (IntKind.wrap .i64 ((1 : Int) + (D.i (rs r2 0))))), (D.int (IntKind.wrap .i64 ((1 : Int) + (D.i (rs r3 0)))))]), (rs r3 1)]))))) := by kernel_rfl

/- timebound/timeboundmake2.Cache -/
theorem E16 (n : Nat) (d0 : D) (Q : List D → Prop) : wpF Try.prog A (n + 1) 16 [d0] Q =
 (wpF Try.prog A n 65 [d0] fun r1 =>
 (True ∧ (Q [(rs r1 0), (rs r1 1)]))) := by kernel_rfl

/- timebound/cache.between -/
theorem E109 (n : Nat) (d0 d1 d2 : D) (Q : List D → Prop) : wpF Try.prog A (n + 1) 109 [d0, d1, d2] Q =
 (cond (iLe (D.i d1) (D.i d0))
 (Q [(D.bool (iLe (D.i d0) (D.i d2)))])
 (Q [(D.bool false)])) := by kernel_rfl

/- timebound/cache.Check -/
theorem E66 (n : Nat) (d0 : D) (Q : List D → Prop) : wpF Try.prog A (n + 1) 66 [d0] Q =
 (wpF Try.prog A n 109 [(D.fld d0 0), (D.int (0 : Int)), (D.int (8 : Int))] fun r1 =>
 (cond (!(D.b (rs r1 0)))
 (Q [(D.int (3 : Int))])
 (wpF Try.prog A n 109 [(D.fld d0 1), (D.int (1 : Int)), (D.int (4 : Int))] fun r2 =>
 (cond (!(D.b (rs r2 0)))
 (Q [(D.int (3 : Int))])
 (wpF Try.prog A n 109 [(D.fld d0 2), (D.int (1 : Int)), (D.int (8 : Int))] fun r3 =>
 (cond (!(D.b (rs r3 0)))
 (Q [(D.int (3 : Int))])
 (Q [(D.int (0 : Int))]))))))) := by kernel_rfl
end Go.Ab

/- The deck of a law: numbers that are taken one after the other; the cache that it makes. -/
namespace Go.Ab
open Go.Proofs

/-- A deck at some place. -/
def Dk (d : D) : Prop := ∃ (l : List Int) (a : Int), d = deck l a ∧ 0 ≤ a ∧ a ≤ l.length ∧ l.length ≤ 2000000

theorem mod_wp {n : Nat} (hn : 1 ≤ n) {x k : Int} {Q : List D → Prop} (hk : 1 ≤ k) (hk2 : k ≤ 4000000000000) (h : 0 ≤ Int.tmod (Int.tmod x k + k) k → Int.tmod (Int.tmod x k + k) k < k → Q [.int (Int.tmod (Int.tmod x k + k) k)]) :
    wpF Try.prog A n 31 [.int x, .int k] Q := by
  obtain ⟨m, rfl⟩ : ∃ m, n = m + 1 := ⟨n - 1, by omega⟩
  rw [E31]
  simp only [i_int]
  have h1 : -k < Int.tmod x k := Int.lt_tmod_of_pos x (by omega)
  have h2 : Int.tmod x k < k := Int.tmod_lt_of_pos x (by omega)
  rw [wrap_id (by omega) (by omega)]
  exact ⟨by omega, by omega, h (Int.tmod_nonneg _ (by omega)) (Int.tmod_lt_of_pos _ (by omega))⟩

theorem next_wp {n : Nat} (hn : 2 ≤ n) {d : D} {k : Int} {Q : List D → Prop} (hd : Dk d) (hk : 1 ≤ k) (hk2 : k ≤ 4000000000000) (h : ∀ v d', 0 ≤ v → v < k → Dk d' → Q [.int v, d']) :
    wpF Try.prog A n 18 [d, .int k] Q := by
  obtain ⟨l, a, rfl, h1, h2, h3⟩ := hd
  obtain ⟨m, rfl⟩ : ∃ m, n = m + 1 := ⟨n - 1, by omega⟩
  rw [E18]
  simp only [deck, fld0, fldS, i_int, len_lst]
  have hdk : Dk (deck l a) := ⟨l, a, rfl, h1, h2, h3⟩
  refine cLe (fun c => ?_) fun c => ?_
  · exact h 0 _ (by omega) (by omega) hdk
  · refine cLe (fun c2 => ?_) fun c2 => ?_
    · exact h 0 _ (by omega) (by omega) hdk
    · simp (disch := omega) only [wrap_id]
      rw [show a + 1 - 1 = a by omega]
      obtain ⟨b, rfl⟩ : ∃ b : Nat, a = (b : Int) := ⟨a.toNat, by omega⟩
      rw [el_lst l b (by omega)]
      refine ⟨trivial, by omega, mod_wp (by omega) hk hk2 fun h4 h5 => ?_⟩
      exact h _ _ h4 h5 ⟨l, _, rfl, by omega, by omega, h3⟩

theorem new_wp {n : Nat} (hn : 1 ≤ n) {l : List Int} {Q : List D → Prop} (hl : l.length ≤ 2000000) (h : ∀ d, Dk d → Q [d]) : wpF Try.prog A n 15 [lst l] Q := by
  obtain ⟨m, rfl⟩ : ∃ m, n = m + 1 := ⟨n - 1, by omega⟩
  rw [E15]
  exact h _ ⟨l, 0, rfl, by omega, by omega, hl⟩

/-- A cache. -/
def cch (s w b : Int) : D := .agg [.int s, .int w, .int b]

theorem mcache_wp {n : Nat} (hn : 3 ≤ n) {d : D} {Q : List D → Prop} (hd : Dk d)
    (h : ∀ s w b d', 0 ≤ s → s ≤ 4 → 1 ≤ w → w ≤ 3 → 1 ≤ b → b ≤ 4 → Dk d' → Q [cch s w b, d']) : wpF Try.prog A n 65 [d] Q := by
  obtain ⟨m, rfl⟩ : ∃ m, n = m + 1 := ⟨n - 1, by omega⟩
  rw [E65]
  refine next_wp (by omega) hd (by omega) (by omega) fun v1 d1 h1 h1' hd1 => ?_
  simp only [rs0, rsS]
  refine next_wp (by omega) hd1 (by omega) (by omega) fun v2 d2 h2 h2' hd2 => ?_
  simp only [rs0, rsS]
  refine next_wp (by omega) hd2 (by omega) (by omega) fun v3 d3 h3 h3' hd3 => ?_
  simp only [rs0, rsS, i_int]
  simp (disch := omega) only [wrap_id]
  exact ⟨trivial, h _ _ _ _ h1 (by omega) (by omega) (by omega) (by omega) (by omega) hd3⟩

theorem cache_wp {n : Nat} (hn : 4 ≤ n) {d : D} {Q : List D → Prop} (hd : Dk d)
    (h : ∀ s w b d', 0 ≤ s → s ≤ 4 → 1 ≤ w → w ≤ 3 → 1 ≤ b → b ≤ 4 → Dk d' → Q [cch s w b, d']) : wpF Try.prog A n 16 [d] Q := by
  obtain ⟨m, rfl⟩ : ∃ m, n = m + 1 := ⟨n - 1, by omega⟩
  rw [E16]
  refine mcache_wp (by omega) hd fun s w b d' h1 h2 h3 h4 h5 h6 hd' => ?_
  simp only [rs0, rsS]
  exact ⟨trivial, h _ _ _ _ h1 h2 h3 h4 h5 h6 hd'⟩

end Go.Ab

/- Equations of functions: each rule reduces to a plain formula, by the kernel. -/
set_option linter.unusedVariables false
namespace Go.Ab
open Go.Proofs
/- timebound/timeboundlaw40.pair -/
theorem E70 (n : Nat)  (Q : List D → Prop) : wpF Try.prog A (n + 1) 70 [] Q =
 (True ∧ (True ∧ (True ∧ (True ∧ (Q [(D.slc [(D.agg [(D.int (100 : Int)), (D.int (100 : Int)), (D.int (0 : Int)), (D.int (2 : Int)), (D.int (0 : Int)), (D.slc [(D.agg [(D.int (0 : Int)), (D.int (10 : Int))])]), (D.int (0 : Int))]), (D.agg [(D.int (100 : Int)), (D.int (100 : Int)), (D.int (0 : Int)), (D.int (1 : Int)), (D.int (0 : Int)), (D.slc [(D.agg [(D.int (0 : Int)), (D.int (50 : Int))])]), (D.int (0 : Int))])])]))))) := by kernel_rfl

/- slices.IndexFunc[[]timebound/api.Hold,timebound/api.Hold] -/
def L112_2 (n m0 : Nat) (x0 : D) (x1 : D) (x7 : D) (x8 : D) (Q : List D → Prop) : Prop :=
  loopK (wpC Try.prog A (hnd Try.prog A n) 112 n (cA (cA (cB (cA (cB (bodyOf Try.f112))))))) (nmK (A.loop 112 2)) m0 { sl := [(0, .imm 46 x0), (1, .imm 120 x1), (7, .imm 3 x7), (8, .imm 3 x8)], ob := [] } (kBlock 0 (kSeq (wpC Try.prog A (hnd Try.prog A n) 112 n (cB (cB (bodyOf Try.f112)))) (kEnd Try.prog Try.f112 (A.sig 112) Q)))
theorem L112_2_eq (n m0 : Nat) (x0 : D) (x1 : D) (x7 : D) (x8 : D) (Q : List D → Prop) : L112_2 n (m0 + 1) x0 x1 x7 x8 Q =
 (cond (iLt (D.i x8) (D.i x7))
 ((0 ≤ (D.i x8) ∧ (D.i x8) < (D.len x0)) ∧ (dynH A (wpF Try.prog A n) x1 [.imm 50] [.val 4 .imm] [(D.el x0 (D.i x8))] fun r1 =>
 (cond (D.b (rs r1 0))
 (Q [x8])
 (L112_2 n  m0 x0 x1 x7 (D.int (IntKind.wrap .i64 ((D.i x8) + (1 : Int)))) Q))))
 (Q [(D.int (-1 : Int))])) := by kernel_rfl
theorem E112 (n : Nat) (d0 d1 : D) (Q : List D → Prop) : wpF Try.prog A (n + 1) 112 [d0, d1] Q =
 (L112_2 n  n d0 d1 (D.int (D.len d0)) (D.int (0 : Int)) Q) := by kernel_rfl
attribute [irreducible] L112_2

/- slices.ContainsFunc[[]timebound/api.Hold,timebound/api.Hold] -/
theorem E74 (n : Nat) (d0 d1 : D) (Q : List D → Prop) : wpF Try.prog A (n + 1) 74 [d0, d1] Q =
 (wpF Try.prog A n 112 [d0, d1] fun r1 =>
 (Q [(D.bool (iLe (0 : Int) (D.i (rs r1 0))))])) := by kernel_rfl

/- timebound/blocking.Ceiling$1 -/
theorem E77 (n : Nat) (d0 d1 : D) (Q : List D → Prop) : wpF Try.prog A (n + 1) 77 [d0, d1] Q =
 (Q [(D.bool (iEq (D.i (D.fld d0 0)) (D.i d1)))]) := by kernel_rfl

/- timebound/blocking.within -/
theorem E73 (n : Nat) (d0 d1 d2 : D) (Q : List D → Prop) : wpF Try.prog A (n + 1) 73 [d0, d1, d2] Q =
 (cond (iLe (D.i d1) (D.i d0))
 (Q [(D.bool (iLe (D.i d0) (D.i d2)))])
 (Q [(D.bool false)])) := by kernel_rfl

/- timebound/blocking.Before -/
theorem E27 (n : Nat) (d0 d1 d2 : D) (Q : List D → Prop) : wpF Try.prog A (n + 1) 27 [d0, d1, d2] Q =
 (wpF Try.prog A n 73 [d1, (D.int (0 : Int)), (D.int (IntKind.wrap .i64 ((D.len d0) - (1 : Int))))] fun r1 =>
 (cond (!(D.b (rs r1 0)))
 (Q [(D.bool false)])
 (wpF Try.prog A n 73 [d2, (D.int (0 : Int)), (D.int (IntKind.wrap .i64 ((D.len d0) - (1 : Int))))] fun r2 =>
 (cond (!(D.b (rs r2 0)))
 (Q [(D.bool false)])
 ((0 ≤ (D.i d1) ∧ (D.i d1) < (D.len d0)) ∧ ((0 ≤ (D.i d2) ∧ (D.i d2) < (D.len d0)) ∧ (cond (iLt (D.i (D.fld (D.el d0 (D.i d2)) 3)) (D.i (D.fld (D.el d0 (D.i d1)) 3)))
 (Q [(D.bool true)])
 ((0 ≤ (D.i d1) ∧ (D.i d1) < (D.len d0)) ∧ ((0 ≤ (D.i d2) ∧ (D.i d2) < (D.len d0)) ∧ (cond (iEq (D.i (D.fld (D.el d0 (D.i d1)) 3)) (D.i (D.fld (D.el d0 (D.i d2)) 3)))
 (Q [(D.bool (iLt (D.i d1) (D.i d2)))])
 (Q [(D.bool false)]))))))))))) := by kernel_rfl

/- timebound/blocking.Ceiling -/
def L29_3 (n m0 : Nat) (x0 : D) (x6 : D) (x7 : D) (x10 : D) (x11 : D) (x12 : D) (xo3 : D) (Q : List D → Prop) : Prop :=
  loopK (wpC Try.prog A (hnd Try.prog A n) 29 n (cA (cA (cB (cA (cB (cB (bodyOf Try.f29)))))))) (nmK (A.loop 29 3)) m0 { sl := [(0, .imm 35 x0), (3, .ptr 3 [] 3), (6, .imm 3 x6), (7, .imm 4 x7), (10, .imm 35 x10), (11, .imm 3 x11), (12, .imm 3 x12)], ob := [(3, some ⟨true, 3, .imm, xo3⟩)] } (kBlock 0 (kSeq (wpC Try.prog A (hnd Try.prog A n) 29 n (cB (cB (cB (bodyOf Try.f29))))) (kEnd Try.prog Try.f29 (A.sig 29) Q)))
theorem L29_3_eq (n m0 : Nat) (x0 : D) (x6 : D) (x7 : D) (x10 : D) (x11 : D) (x12 : D) (xo3 : D) (Q : List D → Prop) : L29_3 n (m0 + 1) x0 x6 x7 x10 x11 x12 xo3 Q =
 (cond (iLt (D.i x12) (D.i x11))
 ((0 ≤ (D.i x12) ∧ (D.i x12) < (D.len x10)) ∧ (True ∧ (wpF Try.prog A n 74 [(D.fld (D.el x10 (D.i x12)) 5), (D.fn 77 [(D.ptr xo3)])] fun r1 =>
 (cond (D.b (rs r1 0))
 (cond (!(D.b x7))
 (L29_3 n  m0 x0 x12 (D.bool true) x10 x11 (D.int (IntKind.wrap .i64 ((D.i x12) + (1 : Int)))) xo3 Q)
 (wpF Try.prog A n 27 [x0, x12, x6] fun r2 =>
 (cond (D.b (rs r2 0))
 (L29_3 n  m0 x0 x12 (D.bool true) x10 x11 (D.int (IntKind.wrap .i64 ((D.i x12) + (1 : Int)))) xo3 Q)
 (L29_3 n  m0 x0 x6 x7 x10 x11 (D.int (IntKind.wrap .i64 ((D.i x12) + (1 : Int)))) xo3 Q))))
 (L29_3 n  m0 x0 x6 x7 x10 x11 (D.int (IntKind.wrap .i64 ((D.i x12) + (1 : Int)))) xo3 Q)))))
 (Q [x6, x7])) := by kernel_rfl
theorem E29 (n : Nat) (d0 d1 : D) (Q : List D → Prop) : wpF Try.prog A (n + 1) 29 [d0, d1] Q =
 (L29_3 n  n d0 (D.int (0 : Int)) (D.bool false) d0 (D.int (D.len d0)) (D.int (0 : Int)) d1 Q) := by kernel_rfl
attribute [irreducible] L29_3

/- slices.IndexFunc[[]timebound/api.Job,timebound/api.Job] -/
def L111_2 (n m0 : Nat) (x0 : D) (x1 : D) (x7 : D) (x8 : D) (Q : List D → Prop) : Prop :=
  loopK (wpC Try.prog A (hnd Try.prog A n) 111 n (cA (cA (cB (cA (cB (bodyOf Try.f111))))))) (nmK (A.loop 111 2)) m0 { sl := [(0, .imm 35 x0), (1, .imm 121 x1), (7, .imm 3 x7), (8, .imm 3 x8)], ob := [] } (kBlock 0 (kSeq (wpC Try.prog A (hnd Try.prog A n) 111 n (cB (cB (bodyOf Try.f111)))) (kEnd Try.prog Try.f111 (A.sig 111) Q)))
theorem L111_2_eq (n m0 : Nat) (x0 : D) (x1 : D) (x7 : D) (x8 : D) (Q : List D → Prop) : L111_2 n (m0 + 1) x0 x1 x7 x8 Q =
 (cond (iLt (D.i x8) (D.i x7))
 ((0 ≤ (D.i x8) ∧ (D.i x8) < (D.len x0)) ∧ (dynH A (wpF Try.prog A n) x1 [.imm 48] [.val 4 .imm] [(D.el x0 (D.i x8))] fun r1 =>
 (cond (D.b (rs r1 0))
 (Q [x8])
 (L111_2 n  m0 x0 x1 x7 (D.int (IntKind.wrap .i64 ((D.i x8) + (1 : Int)))) Q))))
 (Q [(D.int (-1 : Int))])) := by kernel_rfl
theorem E111 (n : Nat) (d0 d1 : D) (Q : List D → Prop) : wpF Try.prog A (n + 1) 111 [d0, d1] Q =
 (L111_2 n  n d0 d1 (D.int (D.len d0)) (D.int (0 : Int)) Q) := by kernel_rfl
attribute [irreducible] L111_2

/- slices.ContainsFunc[[]timebound/api.Job,timebound/api.Job] -/
theorem E71 (n : Nat) (d0 d1 : D) (Q : List D → Prop) : wpF Try.prog A (n + 1) 71 [d0, d1] Q =
 (wpF Try.prog A n 111 [d0, d1] fun r1 =>
 (Q [(D.bool (iLe (0 : Int) (D.i (rs r1 0))))])) := by kernel_rfl

/- timebound/blocking.Valid$1$1 -/
theorem E75 (n : Nat) (d0 : D) (Q : List D → Prop) : wpF Try.prog A (n + 1) 75 [d0] Q =
 (wpF Try.prog A n 73 [(D.fld d0 0), (D.int (0 : Int)), (D.int (3 : Int))] fun r1 =>
 (cond (!(D.b (rs r1 0)))
 (Q [(D.bool true)])
 (wpF Try.prog A n 73 [(D.fld d0 1), (D.int (0 : Int)), (D.int (16777216 : Int))] fun r2 =>
 (Q [(D.bool (!(D.b (rs r2 0))))])))) := by kernel_rfl

/- timebound/blocking.Valid$1 -/
theorem E72 (n : Nat) (d0 : D) (Q : List D → Prop) : wpF Try.prog A (n + 1) 72 [d0] Q =
 (wpF Try.prog A n 73 [(D.fld d0 0), (D.int (1 : Int)), (D.int (16777216 : Int))] fun r1 =>
 (cond (!(D.b (rs r1 0)))
 (Q [(D.bool true)])
 (wpF Try.prog A n 73 [(D.fld d0 1), (D.int (1 : Int)), (D.fld d0 0)] fun r2 =>
 (cond (!(D.b (rs r2 0)))
 (Q [(D.bool true)])
 (wpF Try.prog A n 73 [(D.fld d0 2), (D.int (0 : Int)), (D.fld d0 0)] fun r3 =>
 (cond (!(D.b (rs r3 0)))
 (Q [(D.bool true)])
 (wpF Try.prog A n 73 [(D.fld d0 3), (D.int (0 : Int)), (D.int (15 : Int))] fun r4 =>
 (cond (!(D.b (rs r4 0)))
 (Q [(D.bool true)])
 (wpF Try.prog A n 73 [(D.fld d0 4), (D.int (0 : Int)), (D.int (16777216 : Int))] fun r5 =>
 (cond (!(D.b (rs r5 0)))
 (Q [(D.bool true)])
 (wpF Try.prog A n 73 [(D.fld d0 6), (D.int (0 : Int)), (D.int (16777216 : Int))] fun r6 =>
 (cond (!(D.b (rs r6 0)))
 (Q [(D.bool true)])
 (wpF Try.prog A n 74 [(D.fld d0 5), (D.fn 75 [])] fun r7 =>
 (Q [(rs r7 0)])))))))))))))) := by kernel_rfl

/- timebound/blocking.Valid -/
theorem E25 (n : Nat) (d0 : D) (Q : List D → Prop) : wpF Try.prog A (n + 1) 25 [d0] Q =
 (cond (iLe (D.len d0) (6 : Int))
 (wpF Try.prog A n 71 [d0, (D.fn 72 [])] fun r1 =>
 (Q [(D.bool (!(D.b (rs r1 0))))]))
 (Q [(D.bool false)])) := by kernel_rfl

/- timebound/blocking.Blocking -/
def L32_3 (n m0 : Nat) (x0 : D) (x1 : D) (x2 : D) (x7 : D) (x14 : D) (x15 : D) (x16 : D) (Q : List D → Prop) : Prop :=
  loopK (wpC Try.prog A (hnd Try.prog A n) 32 n (cA (cA (cB (cA (cB (cB (bodyOf Try.f32)))))))) (nmK (A.loop 32 3)) m0 { sl := [(0, .imm 35 x0), (1, .imm 3 x1), (2, .imm 3 x2), (7, .imm 3 x7), (14, .imm 35 x14), (15, .imm 3 x15), (16, .imm 3 x16)], ob := [] } (kBlock 0 (kSeq (wpC Try.prog A (hnd Try.prog A n) 32 n (cB (cB (cB (bodyOf Try.f32))))) (kEnd Try.prog Try.f32 (A.sig 32) Q)))
def L32_8 (n m0 m1 : Nat) (x0 : D) (x1 : D) (x2 : D) (x7 : D) (x14 : D) (x15 : D) (x16 : D) (x30 : D) (x31 : D) (x32 : D) (Q : List D → Prop) : Prop :=
  loopK (wpC Try.prog A (hnd Try.prog A n) 32 n (cA (cA (cB (cB (cB (cB (cA (cA (cB (cB (cA (cA (cB (cA (cB (cB (bodyOf Try.f32)))))))))))))))))) (nmK (A.loop 32 8)) m1 { sl := [(0, .imm 35 x0), (1, .imm 3 x1), (2, .imm 3 x2), (7, .imm 3 x7), (14, .imm 35 x14), (15, .imm 3 x15), (16, .imm 3 x16), (30, .imm 46 x30), (31, .imm 3 x31), (32, .imm 3 x32)], ob := [] } (kBlock 2 (kBlock 1 (kSeq (wpC Try.prog A (hnd Try.prog A n) 32 n (cB (cB (cB (cA (cA (cB (cA (cB (cB (bodyOf Try.f32))))))))))) (kLoop (nmK (A.loop 32 3)) (fun g => loopK (wpC Try.prog A (hnd Try.prog A n) 32 n (cA (cA (cB (cA (cB (cB (bodyOf Try.f32)))))))) (nmK (A.loop 32 3)) m0 g (kBlock 0 (kSeq (wpC Try.prog A (hnd Try.prog A n) 32 n (cB (cB (cB (bodyOf Try.f32))))) (kEnd Try.prog Try.f32 (A.sig 32) Q)))) (kBlock 0 (kSeq (wpC Try.prog A (hnd Try.prog A n) 32 n (cB (cB (cB (bodyOf Try.f32))))) (kEnd Try.prog Try.f32 (A.sig 32) Q)))))))
theorem L32_3_eq (n m0 : Nat) (x0 : D) (x1 : D) (x2 : D) (x7 : D) (x14 : D) (x15 : D) (x16 : D) (Q : List D → Prop) : L32_3 n (m0 + 1) x0 x1 x2 x7 x14 x15 x16 Q =
 (cond (iLt (D.i x16) (D.i x15))
 ((0 ≤ (D.i x16) ∧ (D.i x16) < (D.len x14)) ∧ (True ∧ (wpF Try.prog A n 27 [x0, x1, x16] fun r1 =>
 (cond (!(D.b (rs r1 0)))
 (L32_3 n  m0 x0 x1 x2 x7 x14 x15 (D.int (IntKind.wrap .i64 ((D.i x16) + (1 : Int)))) Q)
 (L32_8 n m0 n x0 x1 x2 (D.int (minmax true (D.i x7) (D.i x2))) x14 x15 x16 (D.fld (D.el x14 (D.i x16)) 5) (D.int (D.len (D.fld (D.el x14 (D.i x16)) 5))) (D.int (0 : Int)) Q)))))
 (Q [x7])) := by kernel_rfl
theorem L32_8_eq (n m0 m1 : Nat) (x0 : D) (x1 : D) (x2 : D) (x7 : D) (x14 : D) (x15 : D) (x16 : D) (x30 : D) (x31 : D) (x32 : D) (Q : List D → Prop) : L32_8 n m0 (m1 + 1) x0 x1 x2 x7 x14 x15 x16 x30 x31 x32 Q =
 (cond (iLt (D.i x32) (D.i x31))
 ((0 ≤ (D.i x32) ∧ (D.i x32) < (D.len x30)) ∧ (True ∧ (wpF Try.prog A n 29 [x0, (D.fld (D.el x30 (D.i x32)) 0)] fun r2 =>
 (cond (D.b (rs r2 1))
 (cond (iEq (D.i (rs r2 0)) (D.i x1))
 (L32_8 n m0 m1 x0 x1 x2 (D.int (minmax true (D.i x7) (D.i (D.fld (D.el x30 (D.i x32)) 1)))) x14 x15 x16 x30 x31 (D.int (IntKind.wrap .i64 ((D.i x32) + (1 : Int)))) Q)
 (wpF Try.prog A n 27 [x0, (rs r2 0), x1] fun r3 =>
 (cond (D.b (rs r3 0))
 (L32_8 n m0 m1 x0 x1 x2 (D.int (minmax true (D.i x7) (D.i (D.fld (D.el x30 (D.i x32)) 1)))) x14 x15 x16 x30 x31 (D.int (IntKind.wrap .i64 ((D.i x32) + (1 : Int)))) Q)
 (L32_8 n m0 m1 x0 x1 x2 x7 x14 x15 x16 x30 x31 (D.int (IntKind.wrap .i64 ((D.i x32) + (1 : Int)))) Q))))
 (L32_8 n m0 m1 x0 x1 x2 x7 x14 x15 x16 x30 x31 (D.int (IntKind.wrap .i64 ((D.i x32) + (1 : Int)))) Q)))))
 (L32_3 n  m0 x0 x1 x2 x7 x14 x15 (D.int (IntKind.wrap .i64 ((D.i x16) + (1 : Int)))) Q)) := by kernel_rfl
theorem E32 (n : Nat) (d0 d1 d2 : D) (Q : List D → Prop) : wpF Try.prog A (n + 1) 32 [d0, d1, d2] Q =
 (L32_3 n  n d0 d1 d2 (D.int (0 : Int)) d0 (D.int (D.len d0)) (D.int (0 : Int)) Q) := by kernel_rfl
attribute [irreducible] L32_3 L32_8

/- timebound/timeboundlaw40.awake -/
theorem E22 (n : Nat)  (Q : List D → Prop) : wpF Try.prog A (n + 1) 22 [] Q =
 (wpF Try.prog A n 70 [] fun r1 =>
 (wpF Try.prog A n 29 [(rs r1 0), (D.int (0 : Int))] fun r2 =>
 (wpF Try.prog A n 25 [(rs r1 0)] fun r3 =>
 (cond (D.b (rs r3 0))
 (cond (D.b (rs r2 1))
 (cond (iEq (D.i (rs r2 0)) (0 : Int))
 (wpF Try.prog A n 32 [(rs r1 0), (D.int (0 : Int)), (D.int (21 : Int))] fun r4 =>
 (cond (iEq (D.i (rs r4 0)) (50 : Int))
 (wpF Try.prog A n 32 [(rs r1 0), (D.int (1 : Int)), (D.int (21 : Int))] fun r5 =>
 (cond (iEq (D.i (rs r5 0)) (0 : Int))
 (wpF Try.prog A n 27 [(rs r1 0), (D.int (0 : Int)), (D.int (1 : Int))] fun r6 =>
 (Q [(rs r6 0)]))
 (Q [(D.bool false)])))
 (Q [(D.bool false)])))
 (Q [(D.bool false)]))
 (Q [(D.bool false)]))
 (Q [(D.bool false)]))))) := by kernel_rfl

/- timebound/timeboundmake2.Jobs -/
def L23_3 (n m0 : Nat) (x8 : D) (x9 : D) (xo0 : D) (xo5 : D) (Q : List D → Prop) : Prop :=
  loopK (wpC Try.prog A (hnd Try.prog A n) 23 n (cA (cA (cB (cA (cB (cB (bodyOf Try.f23)))))))) (nmK (A.loop 23 3)) m0 { sl := [(0, .ptr 0 [] 110), (5, .val 5 [] 35), (8, .imm 3 x8), (9, .imm 3 x9)], ob := [(0, some ⟨true, 110, .imm, xo0⟩), (5, some ⟨false, 35, (.slc .imm none), xo5⟩)] } (kBlock 0 (kSeq (wpC Try.prog A (hnd Try.prog A n) 23 n (cB (cB (cB (bodyOf Try.f23))))) (kEnd Try.prog Try.f23 (A.sig 23) Q)))
def L23_7 (n m0 m1 : Nat) (x7 : D) (x8 : D) (x9 : D) (xo0 : D) (xo5 : D) (xo6 : D) (Q : List D → Prop) : Prop :=
  loopK (wpC Try.prog A (hnd Try.prog A n) 23 n (cA (cA (cB (cA (cB (cB (cA (cA (cB (cB (cA (cA (cB (cA (cB (cB (bodyOf Try.f23)))))))))))))))))) (nmK (A.loop 23 7)) m1 { sl := [(0, .ptr 0 [] 110), (5, .val 5 [] 35), (6, .ptr 6 [] 48), (7, .imm 3 x7), (8, .imm 3 x8), (9, .imm 3 x9)], ob := [(0, some ⟨true, 110, .imm, xo0⟩), (5, some ⟨false, 35, (.slc .imm none), xo5⟩), (6, some ⟨true, 48, (.agg [(5, (.slc .imm none))]), xo6⟩)] } (kBlock 2 (kSeq (wpC Try.prog A (hnd Try.prog A n) 23 n (cB (cB (cB (cA (cA (cB (cB (cA (cA (cB (cA (cB (cB (bodyOf Try.f23))))))))))))))) (kBlock 1 (kSeq (wpC Try.prog A (hnd Try.prog A n) 23 n (cB (cB (cB (cA (cA (cB (cA (cB (cB (bodyOf Try.f23))))))))))) (kLoop (nmK (A.loop 23 3)) (fun g => loopK (wpC Try.prog A (hnd Try.prog A n) 23 n (cA (cA (cB (cA (cB (cB (bodyOf Try.f23)))))))) (nmK (A.loop 23 3)) m0 g (kBlock 0 (kSeq (wpC Try.prog A (hnd Try.prog A n) 23 n (cB (cB (cB (bodyOf Try.f23))))) (kEnd Try.prog Try.f23 (A.sig 23) Q)))) (kBlock 0 (kSeq (wpC Try.prog A (hnd Try.prog A n) 23 n (cB (cB (cB (bodyOf Try.f23))))) (kEnd Try.prog Try.f23 (A.sig 23) Q))))))))
theorem L23_3_eq (n m0 : Nat) (x8 : D) (x9 : D) (xo0 : D) (xo5 : D) (Q : List D → Prop) : L23_3 n (m0 + 1) x8 x9 xo0 xo5 Q =
 (cond (iLt (D.i x9) (D.i x8))
 (wpF Try.prog A n 18 [xo0, (D.int (300 : Int))] fun r1 =>
 (wpF Try.prog A n 18 [(rs r1 1), (D.int (10 : Int))] fun r2 =>
 (wpF Try.prog A n 18 [(rs r2 1), (D.int (4 : Int))] fun r3 =>
 (wpF Try.prog A n 18 [(rs r3 1), (D.int (25 : Int))] fun r4 =>
 (wpF Try.prog A n 18 [(rs r4 1), (D.int (5 : Int))] fun r5 =>
 (True ∧ (wpF Try.prog A n 18 [(rs r5 1), (D.int (40 : Int))] fun r6 =>
 (True ∧ (wpF Try.prog A n 18 [(rs r6 1), (D.int (3 : Int))] fun r7 =>
 (L23_7 n m0 n (rs r7 0) x8 x9 (rs r7 1) xo5 (D.agg [(D.int (IntKind.wrap .i64 ((50 : Int) + (D.i (rs r1 0))))), (D.int (minmax true (1 : Int) (IntKind.wrap .i64 ((IntKind.wrap .i64 ((50 : Int) + (D.i (rs r1 0)))) - (D.i (rs r6 0)))))), (rs r2 0), (rs r3 0), (rs r4 0), (D.slc ([] : List D)), (rs r5 0)]) Q))))))))))
 (Q [xo5, xo0])) := by kernel_rfl
theorem L23_7_eq (n m0 m1 : Nat) (x7 : D) (x8 : D) (x9 : D) (xo0 : D) (xo5 : D) (xo6 : D) (Q : List D → Prop) : L23_7 n m0 (m1 + 1) x7 x8 x9 xo0 xo5 xo6 Q =
 (cond (iLt (0 : Int) (D.i x7))
 (wpF Try.prog A n 18 [xo0, (D.int (3 : Int))] fun r8 =>
 (wpF Try.prog A n 18 [(rs r8 1), (D.int (12 : Int))] fun r9 =>
 (room (((List.length (D.xs (D.fld xo6 5)) : Nat) : Int) + ((List.length [(D.agg [(rs r8 0), (rs r9 0)])] : Nat) : Int)) 16 ∧ (True ∧ (L23_7 n m0 m1 (D.int (IntKind.wrap .i64 ((D.i x7) - (1 : Int)))) x8 x9 (rs r9 1) xo5 (D.agg [(D.fld xo6 0), (D.fld xo6 1), (D.fld xo6 2), (D.fld xo6 3), (D.fld xo6 4), (D.slc ((D.xs (D.fld xo6 5)) ++ [(D.agg [(rs r8 0), (rs r9 0)])])), (D.fld xo6 6)]) Q)))))
 (room (((List.length (D.xs xo5) : Nat) : Int) + ((List.length [xo6] : Nat) : Int)) 72 ∧ (L23_3 n  m0 x8 (D.int (IntKind.wrap .i64 ((D.i x9) + (1 : Int)))) xo0 (D.slc ((D.xs xo5) ++ [xo6])) Q))) := by kernel_rfl
theorem E23 (n : Nat) (d0 d1 : D) (Q : List D → Prop) : wpF Try.prog A (n + 1) 23 [d0, d1] Q =
 (L23_3 n  n d1 (D.int (0 : Int)) d0 (D.slc ([] : List D)) Q) := by kernel_rfl
attribute [irreducible] L23_3 L23_7

/- timebound/timeboundlaw40.spoilt -/
theorem E24 (n : Nat) (d0 d1 d2 : D) (Q : List D → Prop) : wpF Try.prog A (n + 1) 24 [d0, d1, d2] Q =
 (room ((List.length (D.xs d0) : Nat) : Int) 72 ∧ (cond (iEq (D.len (D.slc (D.xs d0))) (0 : Int))
 (wpF Try.prog A n 31 [d2, (D.int (8 : Int))] fun r1 =>
 ((0 ≤ (D.i (rs r1 0)) ∧ (D.i (rs r1 0)) ≤ (D.i (rs r1 0)) ∧ room (D.i (rs r1 0)) 72) ∧ (Q [(D.slc (List.replicate (Int.toNat (D.i (rs r1 0))) (D.agg [(D.int (0 : Int)), (D.int (0 : Int)), (D.int (0 : Int)), (D.int (0 : Int)), (D.int (0 : Int)), (D.slc ([] : List D)), (D.int (0 : Int))])))])))
 (wpF Try.prog A n 31 [d2, (D.int (D.len (D.slc (D.xs d0))))] fun r2 =>
 (wpF Try.prog A n 31 [d1, (D.int (7 : Int))] fun r3 =>
 (cond (iEq (D.i (rs r3 0)) (0 : Int))
 ((0 ≤ (D.i (rs r2 0)) ∧ (D.i (rs r2 0)) < (D.len (D.slc (D.xs d0)))) ∧ (True ∧ (Q [(D.slc (List.set (D.xs d0) (Int.toNat (D.i (rs r2 0))) (D.agg [d2, (D.fld (List.getD (D.xs (D.slc (D.xs d0))) (Int.toNat (D.i (rs r2 0))) D.und) 1), (D.fld (List.getD (D.xs (D.slc (D.xs d0))) (Int.toNat (D.i (rs r2 0))) D.und) 2), (D.fld (List.getD (D.xs (D.slc (D.xs d0))) (Int.toNat (D.i (rs r2 0))) D.und) 3), (D.fld (List.getD (D.xs (D.slc (D.xs d0))) (Int.toNat (D.i (rs r2 0))) D.und) 4), (D.fld (List.getD (D.xs (D.slc (D.xs d0))) (Int.toNat (D.i (rs r2 0))) D.und) 5), (D.fld (List.getD (D.xs (D.slc (D.xs d0))) (Int.toNat (D.i (rs r2 0))) D.und) 6)])))])))
 (cond (iEq (D.i (rs r3 0)) (1 : Int))
 ((0 ≤ (D.i (rs r2 0)) ∧ (D.i (rs r2 0)) < (D.len (D.slc (D.xs d0)))) ∧ (wpF Try.prog A n 31 [d2, (D.int (3 : Int))] fun r4 =>
 ((0 ≤ (D.i (rs r2 0)) ∧ (D.i (rs r2 0)) < (D.len (D.slc (D.xs d0)))) ∧ (True ∧ (Q [(D.slc (List.set (D.xs d0) (Int.toNat (D.i (rs r2 0))) (D.agg [(D.fld (List.getD (D.xs (D.slc (D.xs d0))) (Int.toNat (D.i (rs r2 0))) D.und) 0), (D.int (IntKind.wrap .i64 ((IntKind.wrap .i64 ((D.i (D.fld (List.getD (D.xs (D.slc (D.xs d0))) (Int.toNat (D.i (rs r2 0))) D.und) 0)) + (D.i (rs r4 0)))) - (1 : Int)))), (D.fld (List.getD (D.xs (D.slc (D.xs d0))) (Int.toNat (D.i (rs r2 0))) D.und) 2), (D.fld (List.getD (D.xs (D.slc (D.xs d0))) (Int.toNat (D.i (rs r2 0))) D.und) 3), (D.fld (List.getD (D.xs (D.slc (D.xs d0))) (Int.toNat (D.i (rs r2 0))) D.und) 4), (D.fld (List.getD (D.xs (D.slc (D.xs d0))) (Int.toNat (D.i (rs r2 0))) D.und) 5), (D.fld (List.getD (D.xs (D.slc (D.xs d0))) (Int.toNat (D.i (rs r2 0))) D.und) 6)])))])))))
 (cond (iEq (D.i (rs r3 0)) (2 : Int))
 ((0 ≤ (D.i (rs r2 0)) ∧ (D.i (rs r2 0)) < (D.len (D.slc (D.xs d0)))) ∧ (True ∧ (Q [(D.slc (List.set (D.xs d0) (Int.toNat (D.i (rs r2 0))) (D.agg [(D.fld (List.getD (D.xs (D.slc (D.xs d0))) (Int.toNat (D.i (rs r2 0))) D.und) 0), (D.fld (List.getD (D.xs (D.slc (D.xs d0))) (Int.toNat (D.i (rs r2 0))) D.und) 1), d2, (D.fld (List.getD (D.xs (D.slc (D.xs d0))) (Int.toNat (D.i (rs r2 0))) D.und) 3), (D.fld (List.getD (D.xs (D.slc (D.xs d0))) (Int.toNat (D.i (rs r2 0))) D.und) 4), (D.fld (List.getD (D.xs (D.slc (D.xs d0))) (Int.toNat (D.i (rs r2 0))) D.und) 5), (D.fld (List.getD (D.xs (D.slc (D.xs d0))) (Int.toNat (D.i (rs r2 0))) D.und) 6)])))])))
 (cond (iEq (D.i (rs r3 0)) (3 : Int))
 (wpF Try.prog A n 31 [d2, (D.int (18 : Int))] fun r5 =>
 ((0 ≤ (D.i (rs r2 0)) ∧ (D.i (rs r2 0)) < (D.len (D.slc (D.xs d0)))) ∧ (True ∧ (Q [(D.slc (List.set (D.xs d0) (Int.toNat (D.i (rs r2 0))) (D.agg [(D.fld (List.getD (D.xs (D.slc (D.xs d0))) (Int.toNat (D.i (rs r2 0))) D.und) 0), (D.fld (List.getD (D.xs (D.slc (D.xs d0))) (Int.toNat (D.i (rs r2 0))) D.und) 1), (D.fld (List.getD (D.xs (D.slc (D.xs d0))) (Int.toNat (D.i (rs r2 0))) D.und) 2), (D.int (IntKind.wrap .i64 ((D.i (rs r5 0)) - (1 : Int)))), (D.fld (List.getD (D.xs (D.slc (D.xs d0))) (Int.toNat (D.i (rs r2 0))) D.und) 4), (D.fld (List.getD (D.xs (D.slc (D.xs d0))) (Int.toNat (D.i (rs r2 0))) D.und) 5), (D.fld (List.getD (D.xs (D.slc (D.xs d0))) (Int.toNat (D.i (rs r2 0))) D.und) 6)])))]))))
 (cond (iEq (D.i (rs r3 0)) (4 : Int))
 (wpF Try.prog A n 31 [d2, (D.int (3 : Int))] fun r6 =>
 ((0 ≤ (D.i (rs r6 0)) ∧ (D.i (rs r6 0)) < (D.len (D.slc [(D.int (-1 : Int)), (D.int (16777216 : Int)), (D.int (16777217 : Int))]))) ∧ ((0 ≤ (D.i (rs r2 0)) ∧ (D.i (rs r2 0)) < (D.len (D.slc (D.xs d0)))) ∧ (True ∧ (Q [(D.slc (List.set (D.xs d0) (Int.toNat (D.i (rs r2 0))) (D.agg [(D.fld (List.getD (D.xs (D.slc (D.xs d0))) (Int.toNat (D.i (rs r2 0))) D.und) 0), (D.fld (List.getD (D.xs (D.slc (D.xs d0))) (Int.toNat (D.i (rs r2 0))) D.und) 1), (D.fld (List.getD (D.xs (D.slc (D.xs d0))) (Int.toNat (D.i (rs r2 0))) D.und) 2), (D.fld (List.getD (D.xs (D.slc (D.xs d0))) (Int.toNat (D.i (rs r2 0))) D.und) 3), (List.getD (D.xs (D.slc [(D.int (-1 : Int)), (D.int (16777216 : Int)), (D.int (16777217 : Int))])) (Int.toNat (D.i (rs r6 0))) D.und), (D.fld (List.getD (D.xs (D.slc (D.xs d0))) (Int.toNat (D.i (rs r2 0))) D.und) 5), (D.fld (List.getD (D.xs (D.slc (D.xs d0))) (Int.toNat (D.i (rs r2 0))) D.und) 6)])))])))))
 (cond (iEq (D.i (rs r3 0)) (5 : Int))
 ((0 ≤ (D.i (rs r2 0)) ∧ (D.i (rs r2 0)) < (D.len (D.slc (D.xs d0)))) ∧ (True ∧ (Q [(D.slc (List.set (D.xs d0) (Int.toNat (D.i (rs r2 0))) (D.agg [(D.fld (List.getD (D.xs (D.slc (D.xs d0))) (Int.toNat (D.i (rs r2 0))) D.und) 0), (D.fld (List.getD (D.xs (D.slc (D.xs d0))) (Int.toNat (D.i (rs r2 0))) D.und) 1), (D.fld (List.getD (D.xs (D.slc (D.xs d0))) (Int.toNat (D.i (rs r2 0))) D.und) 2), (D.fld (List.getD (D.xs (D.slc (D.xs d0))) (Int.toNat (D.i (rs r2 0))) D.und) 3), (D.fld (List.getD (D.xs (D.slc (D.xs d0))) (Int.toNat (D.i (rs r2 0))) D.und) 4), (D.fld (List.getD (D.xs (D.slc (D.xs d0))) (Int.toNat (D.i (rs r2 0))) D.und) 5), d2])))])))
 (cond (iEq (D.i (rs r3 0)) (6 : Int))
 ((0 ≤ (D.i (rs r2 0)) ∧ (D.i (rs r2 0)) < (D.len (D.slc (D.xs d0)))) ∧ (room ((List.length (D.xs (D.fld (List.getD (D.xs (D.slc (D.xs d0))) (Int.toNat (D.i (rs r2 0))) D.und) 5)) : Nat) : Int) 16 ∧ (wpF Try.prog A n 31 [d2, (D.int (6 : Int))] fun r7 =>
 (wpF Try.prog A n 31 [d2, (D.int (3 : Int))] fun r8 =>
 (room (((List.length (D.xs (D.fld (List.getD (D.xs (D.slc (D.xs d0))) (Int.toNat (D.i (rs r2 0))) D.und) 5)) : Nat) : Int) + ((List.length [(D.agg [(D.int (IntKind.wrap .i64 ((D.i (rs r7 0)) - (1 : Int)))), (D.int (IntKind.wrap .i64 ((D.i (rs r8 0)) - (1 : Int))))])] : Nat) : Int)) 16 ∧ ((0 ≤ (D.i (rs r2 0)) ∧ (D.i (rs r2 0)) < (D.len (D.slc (D.xs d0)))) ∧ (True ∧ (Q [(D.slc (List.set (D.xs d0) (Int.toNat (D.i (rs r2 0))) (D.agg [(D.fld (List.getD (D.xs (D.slc (D.xs d0))) (Int.toNat (D.i (rs r2 0))) D.und) 0), (D.fld (List.getD (D.xs (D.slc (D.xs d0))) (Int.toNat (D.i (rs r2 0))) D.und) 1), (D.fld (List.getD (D.xs (D.slc (D.xs d0))) (Int.toNat (D.i (rs r2 0))) D.und) 2), (D.fld (List.getD (D.xs (D.slc (D.xs d0))) (Int.toNat (D.i (rs r2 0))) D.und) 3), (D.fld (List.getD (D.xs (D.slc (D.xs d0))) (Int.toNat (D.i (rs r2 0))) D.und) 4), (D.slc ((D.xs (D.fld (List.getD (D.xs (D.slc (D.xs d0))) (Int.toNat (D.i (rs r2 0))) D.und) 5)) ++ [(D.agg [(D.int (IntKind.wrap .i64 ((D.i (rs r7 0)) - (1 : Int)))), (D.int (IntKind.wrap .i64 ((D.i (rs r8 0)) - (1 : Int))))])])), (D.fld (List.getD (D.xs (D.slc (D.xs d0))) (Int.toNat (D.i (rs r2 0))) D.und) 6)])))]))))))))
 (Q [(D.slc (D.xs d0))])))))))))))) := by kernel_rfl

/- timebound/timeboundref40.from -/
theorem E76 (n : Nat) (d0 d1 d2 : D) (Q : List D → Prop) : wpF Try.prog A (n + 1) 76 [d0, d1, d2] Q =
 (cond (iLe (D.i d1) (D.i d0))
 (Q [(D.bool (iLe (D.i d0) (D.i d2)))])
 (Q [(D.bool false)])) := by kernel_rfl

/- timebound/timeboundref40.Valid -/
def L26_2 (n m0 : Nat) (x0 : D) (x7 : D) (x8 : D) (x9 : D) (Q : List D → Prop) : Prop :=
  loopK (wpC Try.prog A (hnd Try.prog A n) 26 n (cA (cA (cB (cA (cB (bodyOf Try.f26))))))) (nmK (A.loop 26 2)) m0 { sl := [(0, .imm 35 x0), (7, .imm 35 x7), (8, .imm 3 x8), (9, .imm 3 x9)], ob := [] } (kBlock 0 (kSeq (wpC Try.prog A (hnd Try.prog A n) 26 n (cB (cB (bodyOf Try.f26)))) (kEnd Try.prog Try.f26 (A.sig 26) Q)))
def L26_7 (n m0 m1 : Nat) (x0 : D) (x7 : D) (x8 : D) (x9 : D) (x52 : D) (x53 : D) (x54 : D) (Q : List D → Prop) : Prop :=
  loopK (wpC Try.prog A (hnd Try.prog A n) 26 n (cA (cA (cB (cB (cB (cA (cA (cB (cB (cA (cA (cB (cA (cB (bodyOf Try.f26)))))))))))))))) (nmK (A.loop 26 7)) m1 { sl := [(0, .imm 35 x0), (7, .imm 35 x7), (8, .imm 3 x8), (9, .imm 3 x9), (52, .imm 46 x52), (53, .imm 3 x53), (54, .imm 3 x54)], ob := [] } (kBlock 2 (kBlock 1 (kSeq (wpC Try.prog A (hnd Try.prog A n) 26 n (cB (cB (cB (cA (cA (cB (cA (cB (bodyOf Try.f26)))))))))) (kLoop (nmK (A.loop 26 2)) (fun g => loopK (wpC Try.prog A (hnd Try.prog A n) 26 n (cA (cA (cB (cA (cB (bodyOf Try.f26))))))) (nmK (A.loop 26 2)) m0 g (kBlock 0 (kSeq (wpC Try.prog A (hnd Try.prog A n) 26 n (cB (cB (bodyOf Try.f26)))) (kEnd Try.prog Try.f26 (A.sig 26) Q)))) (kBlock 0 (kSeq (wpC Try.prog A (hnd Try.prog A n) 26 n (cB (cB (bodyOf Try.f26)))) (kEnd Try.prog Try.f26 (A.sig 26) Q)))))))
theorem L26_2_eq (n m0 : Nat) (x0 : D) (x7 : D) (x8 : D) (x9 : D) (Q : List D → Prop) : L26_2 n (m0 + 1) x0 x7 x8 x9 Q =
 (cond (iLt (D.i x9) (D.i x8))
 ((0 ≤ (D.i x9) ∧ (D.i x9) < (D.len x7)) ∧ (True ∧ (wpF Try.prog A n 76 [(D.fld (D.el x7 (D.i x9)) 0), (D.int (1 : Int)), (D.int (16777216 : Int))] fun r1 =>
 (cond (!(D.b (rs r1 0)))
 (Q [(D.bool false)])
 (wpF Try.prog A n 76 [(D.fld (D.el x7 (D.i x9)) 1), (D.int (1 : Int)), (D.fld (D.el x7 (D.i x9)) 0)] fun r2 =>
 (cond (!(D.b (rs r2 0)))
 (Q [(D.bool false)])
 (wpF Try.prog A n 76 [(D.fld (D.el x7 (D.i x9)) 2), (D.int (0 : Int)), (D.fld (D.el x7 (D.i x9)) 0)] fun r3 =>
 (cond (!(D.b (rs r3 0)))
 (Q [(D.bool false)])
 (wpF Try.prog A n 76 [(D.fld (D.el x7 (D.i x9)) 3), (D.int (0 : Int)), (D.int (15 : Int))] fun r4 =>
 (cond (!(D.b (rs r4 0)))
 (Q [(D.bool false)])
 (wpF Try.prog A n 76 [(D.fld (D.el x7 (D.i x9)) 4), (D.int (0 : Int)), (D.int (16777216 : Int))] fun r5 =>
 (cond (!(D.b (rs r5 0)))
 (Q [(D.bool false)])
 (wpF Try.prog A n 76 [(D.fld (D.el x7 (D.i x9)) 6), (D.int (0 : Int)), (D.int (16777216 : Int))] fun r6 =>
 (cond (!(D.b (rs r6 0)))
 (Q [(D.bool false)])
 (L26_7 n m0 n x0 x7 x8 x9 (D.fld (D.el x7 (D.i x9)) 5) (D.int (D.len (D.fld (D.el x7 (D.i x9)) 5))) (D.int (0 : Int)) Q)))))))))))))))
 (Q [(D.bool (iLe (D.len x0) (6 : Int)))])) := by kernel_rfl
theorem L26_7_eq (n m0 m1 : Nat) (x0 : D) (x7 : D) (x8 : D) (x9 : D) (x52 : D) (x53 : D) (x54 : D) (Q : List D → Prop) : L26_7 n m0 (m1 + 1) x0 x7 x8 x9 x52 x53 x54 Q =
 (cond (iLt (D.i x54) (D.i x53))
 ((0 ≤ (D.i x54) ∧ (D.i x54) < (D.len x52)) ∧ (True ∧ (wpF Try.prog A n 76 [(D.fld (D.el x52 (D.i x54)) 0), (D.int (0 : Int)), (D.int (3 : Int))] fun r7 =>
 (cond (!(D.b (rs r7 0)))
 (Q [(D.bool false)])
 (wpF Try.prog A n 76 [(D.fld (D.el x52 (D.i x54)) 1), (D.int (0 : Int)), (D.int (16777216 : Int))] fun r8 =>
 (cond (!(D.b (rs r8 0)))
 (Q [(D.bool false)])
 (L26_7 n m0 m1 x0 x7 x8 x9 x52 x53 (D.int (IntKind.wrap .i64 ((D.i x54) + (1 : Int)))) Q)))))))
 (L26_2 n  m0 x0 x7 x8 (D.int (IntKind.wrap .i64 ((D.i x9) + (1 : Int)))) Q)) := by kernel_rfl
theorem E26 (n : Nat) (d0 : D) (Q : List D → Prop) : wpF Try.prog A (n + 1) 26 [d0] Q =
 (L26_2 n  n d0 d0 (D.int (D.len d0)) (D.int (0 : Int)) Q) := by kernel_rfl
attribute [irreducible] L26_2 L26_7

/- timebound/timeboundref40.Before -/
theorem E28 (n : Nat) (d0 d1 d2 : D) (Q : List D → Prop) : wpF Try.prog A (n + 1) 28 [d0, d1, d2] Q =
 (cond (iLt (D.i d1) (0 : Int))
 (Q [(D.bool false)])
 (cond (iLt (D.i d2) (0 : Int))
 (Q [(D.bool false)])
 (cond (iLe (D.len d0) (D.i d1))
 (Q [(D.bool false)])
 (cond (iLe (D.len d0) (D.i d2))
 (Q [(D.bool false)])
 (cond (iEq (D.i d1) (D.i d2))
 (Q [(D.bool false)])
 ((0 ≤ (D.i d1) ∧ (D.i d1) < (D.len d0)) ∧ ((0 ≤ (D.i d2) ∧ (D.i d2) < (D.len d0)) ∧ (cond (iLt (D.i (D.fld (D.el d0 (D.i d2)) 3)) (D.i (D.fld (D.el d0 (D.i d1)) 3)))
 (Q [(D.bool true)])
 ((0 ≤ (D.i d1) ∧ (D.i d1) < (D.len d0)) ∧ ((0 ≤ (D.i d2) ∧ (D.i d2) < (D.len d0)) ∧ (cond (iEq (D.i (D.fld (D.el d0 (D.i d1)) 3)) (D.i (D.fld (D.el d0 (D.i d2)) 3)))
 (Q [(D.bool (iLt (D.i d1) (D.i d2)))])
 (Q [(D.bool false)])))))))))))) := by kernel_rfl

/- timebound/timeboundref40.uses -/
def L78_2 (n m0 : Nat) (x1 : D) (x8 : D) (x9 : D) (x10 : D) (Q : List D → Prop) : Prop :=
  loopK (wpC Try.prog A (hnd Try.prog A n) 78 n (cA (cA (cB (cA (cB (bodyOf Try.f78))))))) (nmK (A.loop 78 2)) m0 { sl := [(1, .imm 3 x1), (8, .imm 46 x8), (9, .imm 3 x9), (10, .imm 3 x10)], ob := [] } (kBlock 0 (kSeq (wpC Try.prog A (hnd Try.prog A n) 78 n (cB (cB (bodyOf Try.f78)))) (kEnd Try.prog Try.f78 (A.sig 78) Q)))
theorem L78_2_eq (n m0 : Nat) (x1 : D) (x8 : D) (x9 : D) (x10 : D) (Q : List D → Prop) : L78_2 n (m0 + 1) x1 x8 x9 x10 Q =
 (cond (iLt (D.i x10) (D.i x9))
 ((0 ≤ (D.i x10) ∧ (D.i x10) < (D.len x8)) ∧ (True ∧ (cond (iEq (D.i (D.fld (D.el x8 (D.i x10)) 0)) (D.i x1))
 (Q [(D.bool true)])
 (L78_2 n  m0 x1 x8 x9 (D.int (IntKind.wrap .i64 ((D.i x10) + (1 : Int)))) Q))))
 (Q [(D.bool false)])) := by kernel_rfl
theorem E78 (n : Nat) (d0 d1 : D) (Q : List D → Prop) : wpF Try.prog A (n + 1) 78 [d0, d1] Q =
 (L78_2 n  n d1 (D.fld d0 5) (D.int (D.len (D.fld d0 5))) (D.int (0 : Int)) Q) := by kernel_rfl
attribute [irreducible] L78_2

/- timebound/timeboundref40.Ceiling -/
def L30_3 (n m0 : Nat) (x0 : D) (x1 : D) (x6 : D) (x7 : D) (x10 : D) (x11 : D) (x12 : D) (Q : List D → Prop) : Prop :=
  loopK (wpC Try.prog A (hnd Try.prog A n) 30 n (cA (cA (cB (cA (cB (cB (bodyOf Try.f30)))))))) (nmK (A.loop 30 3)) m0 { sl := [(0, .imm 35 x0), (1, .imm 3 x1), (6, .imm 3 x6), (7, .imm 4 x7), (10, .imm 35 x10), (11, .imm 3 x11), (12, .imm 3 x12)], ob := [] } (kBlock 0 (kSeq (wpC Try.prog A (hnd Try.prog A n) 30 n (cB (cB (cB (bodyOf Try.f30))))) (kEnd Try.prog Try.f30 (A.sig 30) Q)))
theorem L30_3_eq (n m0 : Nat) (x0 : D) (x1 : D) (x6 : D) (x7 : D) (x10 : D) (x11 : D) (x12 : D) (Q : List D → Prop) : L30_3 n (m0 + 1) x0 x1 x6 x7 x10 x11 x12 Q =
 (cond (iLt (D.i x12) (D.i x11))
 ((0 ≤ (D.i x12) ∧ (D.i x12) < (D.len x10)) ∧ (True ∧ (wpF Try.prog A n 78 [(D.el x10 (D.i x12)), x1] fun r1 =>
 (cond (D.b (rs r1 0))
 (cond (!(D.b x7))
 (L30_3 n  m0 x0 x1 x12 (D.bool true) x10 x11 (D.int (IntKind.wrap .i64 ((D.i x12) + (1 : Int)))) Q)
 (wpF Try.prog A n 28 [x0, x12, x6] fun r2 =>
 (cond (D.b (rs r2 0))
 (L30_3 n  m0 x0 x1 x12 (D.bool true) x10 x11 (D.int (IntKind.wrap .i64 ((D.i x12) + (1 : Int)))) Q)
 (L30_3 n  m0 x0 x1 x6 x7 x10 x11 (D.int (IntKind.wrap .i64 ((D.i x12) + (1 : Int)))) Q))))
 (L30_3 n  m0 x0 x1 x6 x7 x10 x11 (D.int (IntKind.wrap .i64 ((D.i x12) + (1 : Int)))) Q)))))
 (Q [x6, x7])) := by kernel_rfl
theorem E30 (n : Nat) (d0 d1 : D) (Q : List D → Prop) : wpF Try.prog A (n + 1) 30 [d0, d1] Q =
 (L30_3 n  n d0 d1 (D.int (0 : Int)) (D.bool false) d0 (D.int (D.len d0)) (D.int (0 : Int)) Q) := by kernel_rfl
attribute [irreducible] L30_3

/- timebound/timeboundref40.Blocking -/
def L33_3 (n m0 : Nat) (x0 : D) (x1 : D) (x2 : D) (x7 : D) (x14 : D) (x15 : D) (x16 : D) (Q : List D → Prop) : Prop :=
  loopK (wpC Try.prog A (hnd Try.prog A n) 33 n (cA (cA (cB (cA (cB (cB (bodyOf Try.f33)))))))) (nmK (A.loop 33 3)) m0 { sl := [(0, .imm 35 x0), (1, .imm 3 x1), (2, .imm 3 x2), (7, .imm 3 x7), (14, .imm 35 x14), (15, .imm 3 x15), (16, .imm 3 x16)], ob := [] } (kBlock 0 (kSeq (wpC Try.prog A (hnd Try.prog A n) 33 n (cB (cB (cB (bodyOf Try.f33))))) (kEnd Try.prog Try.f33 (A.sig 33) Q)))
def L33_8 (n m0 m1 : Nat) (x0 : D) (x1 : D) (x2 : D) (x7 : D) (x14 : D) (x15 : D) (x16 : D) (x30 : D) (x31 : D) (x32 : D) (Q : List D → Prop) : Prop :=
  loopK (wpC Try.prog A (hnd Try.prog A n) 33 n (cA (cA (cB (cB (cB (cB (cA (cA (cB (cB (cA (cA (cB (cA (cB (cB (bodyOf Try.f33)))))))))))))))))) (nmK (A.loop 33 8)) m1 { sl := [(0, .imm 35 x0), (1, .imm 3 x1), (2, .imm 3 x2), (7, .imm 3 x7), (14, .imm 35 x14), (15, .imm 3 x15), (16, .imm 3 x16), (30, .imm 46 x30), (31, .imm 3 x31), (32, .imm 3 x32)], ob := [] } (kBlock 2 (kBlock 1 (kSeq (wpC Try.prog A (hnd Try.prog A n) 33 n (cB (cB (cB (cA (cA (cB (cA (cB (cB (bodyOf Try.f33))))))))))) (kLoop (nmK (A.loop 33 3)) (fun g => loopK (wpC Try.prog A (hnd Try.prog A n) 33 n (cA (cA (cB (cA (cB (cB (bodyOf Try.f33)))))))) (nmK (A.loop 33 3)) m0 g (kBlock 0 (kSeq (wpC Try.prog A (hnd Try.prog A n) 33 n (cB (cB (cB (bodyOf Try.f33))))) (kEnd Try.prog Try.f33 (A.sig 33) Q)))) (kBlock 0 (kSeq (wpC Try.prog A (hnd Try.prog A n) 33 n (cB (cB (cB (bodyOf Try.f33))))) (kEnd Try.prog Try.f33 (A.sig 33) Q)))))))
theorem L33_3_eq (n m0 : Nat) (x0 : D) (x1 : D) (x2 : D) (x7 : D) (x14 : D) (x15 : D) (x16 : D) (Q : List D → Prop) : L33_3 n (m0 + 1) x0 x1 x2 x7 x14 x15 x16 Q =
 (cond (iLt (D.i x16) (D.i x15))
 ((0 ≤ (D.i x16) ∧ (D.i x16) < (D.len x14)) ∧ (True ∧ (wpF Try.prog A n 28 [x0, x1, x16] fun r1 =>
 (cond (!(D.b (rs r1 0)))
 (L33_3 n  m0 x0 x1 x2 x7 x14 x15 (D.int (IntKind.wrap .i64 ((D.i x16) + (1 : Int)))) Q)
 (L33_8 n m0 n x0 x1 x2 (D.int (minmax true (D.i x7) (D.i x2))) x14 x15 x16 (D.fld (D.el x14 (D.i x16)) 5) (D.int (D.len (D.fld (D.el x14 (D.i x16)) 5))) (D.int (0 : Int)) Q)))))
 (Q [x7])) := by kernel_rfl
theorem L33_8_eq (n m0 m1 : Nat) (x0 : D) (x1 : D) (x2 : D) (x7 : D) (x14 : D) (x15 : D) (x16 : D) (x30 : D) (x31 : D) (x32 : D) (Q : List D → Prop) : L33_8 n m0 (m1 + 1) x0 x1 x2 x7 x14 x15 x16 x30 x31 x32 Q =
 (cond (iLt (D.i x32) (D.i x31))
 ((0 ≤ (D.i x32) ∧ (D.i x32) < (D.len x30)) ∧ (True ∧ (wpF Try.prog A n 30 [x0, (D.fld (D.el x30 (D.i x32)) 0)] fun r2 =>
 (cond (D.b (rs r2 1))
 (cond (iEq (D.i (rs r2 0)) (D.i x1))
 (L33_8 n m0 m1 x0 x1 x2 (D.int (minmax true (D.i x7) (D.i (D.fld (D.el x30 (D.i x32)) 1)))) x14 x15 x16 x30 x31 (D.int (IntKind.wrap .i64 ((D.i x32) + (1 : Int)))) Q)
 (wpF Try.prog A n 28 [x0, (rs r2 0), x1] fun r3 =>
 (cond (D.b (rs r3 0))
 (L33_8 n m0 m1 x0 x1 x2 (D.int (minmax true (D.i x7) (D.i (D.fld (D.el x30 (D.i x32)) 1)))) x14 x15 x16 x30 x31 (D.int (IntKind.wrap .i64 ((D.i x32) + (1 : Int)))) Q)
 (L33_8 n m0 m1 x0 x1 x2 x7 x14 x15 x16 x30 x31 (D.int (IntKind.wrap .i64 ((D.i x32) + (1 : Int)))) Q))))
 (L33_8 n m0 m1 x0 x1 x2 x7 x14 x15 x16 x30 x31 (D.int (IntKind.wrap .i64 ((D.i x32) + (1 : Int)))) Q)))))
 (L33_3 n  m0 x0 x1 x2 x7 x14 x15 (D.int (IntKind.wrap .i64 ((D.i x16) + (1 : Int)))) Q)) := by kernel_rfl
theorem E33 (n : Nat) (d0 d1 d2 : D) (Q : List D → Prop) : wpF Try.prog A (n + 1) 33 [d0, d1, d2] Q =
 (L33_3 n  n d0 d1 d2 (D.int (0 : Int)) d0 (D.int (D.len d0)) (D.int (0 : Int)) Q) := by kernel_rfl
attribute [irreducible] L33_3 L33_8

/- timebound/timeboundlaw40.BlockingTimes -/
def L5_6 (n m0 : Nat) (x4 : D) (x41 : D) (x42 : D) (xo33 : D) (xo40 : D) (Q : List D → Prop) : Prop :=
  loopK (wpC Try.prog A (hnd Try.prog A n) 5 n (cA (cA (cB (cA (cB (cB (cB (cB (bodyOf Try.f5)))))))))) (nmK (A.loop 5 6)) m0 { sl := [(4, .imm 3 x4), (12, .val 33 [] 35), (40, .val 40 [] 38), (41, .imm 3 x41), (42, .imm 3 x42)], ob := [(33, some ⟨false, 35, .imm, xo33⟩), (40, some ⟨false, 38, (.slc .imm none), xo40⟩)] } (kBlock 0 (kSeq (wpC Try.prog A (hnd Try.prog A n) 5 n (cB (cB (cB (cB (cB (bodyOf Try.f5))))))) (kEnd Try.prog Try.f5 (A.sig 5) Q)))
def L5_11 (n m0 m1 : Nat) (x4 : D) (x14 : D) (x15 : D) (x41 : D) (x42 : D) (xo33 : D) (xo40 : D) (Q : List D → Prop) : Prop :=
  loopK (wpC Try.prog A (hnd Try.prog A n) 5 n (cA (cA (cB (cA (cB (cB (cA (cA (cB (cB (cA (cA (cB (cA (cB (cB (cB (cB (bodyOf Try.f5)))))))))))))))))))) (nmK (A.loop 5 11)) m1 { sl := [(4, .imm 3 x4), (12, .val 33 [] 35), (14, .imm 35 x14), (15, .imm 3 x15), (40, .val 40 [] 38), (41, .imm 3 x41), (42, .imm 3 x42)], ob := [(33, some ⟨false, 35, .imm, xo33⟩), (40, some ⟨false, 38, (.slc .imm none), xo40⟩)] } (kBlock 2 (kSeq (wpC Try.prog A (hnd Try.prog A n) 5 n (cB (cB (cB (cA (cA (cB (cB (cA (cA (cB (cA (cB (cB (cB (cB (bodyOf Try.f5))))))))))))))))) (kBlock 1 (kSeq (wpC Try.prog A (hnd Try.prog A n) 5 n (cB (cB (cB (cA (cA (cB (cA (cB (cB (cB (cB (bodyOf Try.f5))))))))))))) (kLoop (nmK (A.loop 5 6)) (fun g => loopK (wpC Try.prog A (hnd Try.prog A n) 5 n (cA (cA (cB (cA (cB (cB (cB (cB (bodyOf Try.f5)))))))))) (nmK (A.loop 5 6)) m0 g (kBlock 0 (kSeq (wpC Try.prog A (hnd Try.prog A n) 5 n (cB (cB (cB (cB (cB (bodyOf Try.f5))))))) (kEnd Try.prog Try.f5 (A.sig 5) Q)))) (kBlock 0 (kSeq (wpC Try.prog A (hnd Try.prog A n) 5 n (cB (cB (cB (cB (cB (bodyOf Try.f5))))))) (kEnd Try.prog Try.f5 (A.sig 5) Q))))))))
def L5_14 (n m0 m1 m2 : Nat) (x4 : D) (x14 : D) (x15 : D) (x16 : D) (x41 : D) (x42 : D) (xo33 : D) (xo40 : D) (Q : List D → Prop) : Prop :=
  loopK (wpC Try.prog A (hnd Try.prog A n) 5 n (cA (cA (cB (cA (cA (cB (cA (cA (cB (cA (cB (cB (cA (cA (cB (cB (cA (cA (cB (cA (cB (cB (cB (cB (bodyOf Try.f5)))))))))))))))))))))))))) (nmK (A.loop 5 14)) m2 { sl := [(4, .imm 3 x4), (12, .val 33 [] 35), (14, .imm 35 x14), (15, .imm 3 x15), (16, .imm 3 x16), (40, .val 40 [] 38), (41, .imm 3 x41), (42, .imm 3 x42)], ob := [(33, some ⟨false, 35, .imm, xo33⟩), (40, some ⟨false, 38, (.slc .imm none), xo40⟩)] } (kBlock 4 (kBlock 3 (kSeq (wpC Try.prog A (hnd Try.prog A n) 5 n (cB (cB (cA (cA (cB (cA (cB (cB (cA (cA (cB (cB (cA (cA (cB (cA (cB (cB (cB (cB (bodyOf Try.f5)))))))))))))))))))))) (kLoop (nmK (A.loop 5 11)) (fun g => loopK (wpC Try.prog A (hnd Try.prog A n) 5 n (cA (cA (cB (cA (cB (cB (cA (cA (cB (cB (cA (cA (cB (cA (cB (cB (cB (cB (bodyOf Try.f5)))))))))))))))))))) (nmK (A.loop 5 11)) m1 g (kBlock 2 (kSeq (wpC Try.prog A (hnd Try.prog A n) 5 n (cB (cB (cB (cA (cA (cB (cB (cA (cA (cB (cA (cB (cB (cB (cB (bodyOf Try.f5))))))))))))))))) (kBlock 1 (kSeq (wpC Try.prog A (hnd Try.prog A n) 5 n (cB (cB (cB (cA (cA (cB (cA (cB (cB (cB (cB (bodyOf Try.f5))))))))))))) (kLoop (nmK (A.loop 5 6)) (fun g => loopK (wpC Try.prog A (hnd Try.prog A n) 5 n (cA (cA (cB (cA (cB (cB (cB (cB (bodyOf Try.f5)))))))))) (nmK (A.loop 5 6)) m0 g (kBlock 0 (kSeq (wpC Try.prog A (hnd Try.prog A n) 5 n (cB (cB (cB (cB (cB (bodyOf Try.f5))))))) (kEnd Try.prog Try.f5 (A.sig 5) Q)))) (kBlock 0 (kSeq (wpC Try.prog A (hnd Try.prog A n) 5 n (cB (cB (cB (cB (cB (bodyOf Try.f5))))))) (kEnd Try.prog Try.f5 (A.sig 5) Q))))))))) (kBlock 2 (kSeq (wpC Try.prog A (hnd Try.prog A n) 5 n (cB (cB (cB (cA (cA (cB (cB (cA (cA (cB (cA (cB (cB (cB (cB (bodyOf Try.f5))))))))))))))))) (kBlock 1 (kSeq (wpC Try.prog A (hnd Try.prog A n) 5 n (cB (cB (cB (cA (cA (cB (cA (cB (cB (cB (cB (bodyOf Try.f5))))))))))))) (kLoop (nmK (A.loop 5 6)) (fun g => loopK (wpC Try.prog A (hnd Try.prog A n) 5 n (cA (cA (cB (cA (cB (cB (cB (cB (bodyOf Try.f5)))))))))) (nmK (A.loop 5 6)) m0 g (kBlock 0 (kSeq (wpC Try.prog A (hnd Try.prog A n) 5 n (cB (cB (cB (cB (cB (bodyOf Try.f5))))))) (kEnd Try.prog Try.f5 (A.sig 5) Q)))) (kBlock 0 (kSeq (wpC Try.prog A (hnd Try.prog A n) 5 n (cB (cB (cB (cB (cB (bodyOf Try.f5))))))) (kEnd Try.prog Try.f5 (A.sig 5) Q))))))))))))
def L5_19 (n m0 m1 : Nat) (x4 : D) (x14 : D) (x17 : D) (x41 : D) (x42 : D) (xo33 : D) (xo40 : D) (Q : List D → Prop) : Prop :=
  loopK (wpC Try.prog A (hnd Try.prog A n) 5 n (cA (cA (cB (cB (cB (cB (cA (cA (cB (cB (cA (cA (cB (cA (cB (cB (cB (cB (bodyOf Try.f5)))))))))))))))))))) (nmK (A.loop 5 19)) m1 { sl := [(4, .imm 3 x4), (12, .val 33 [] 35), (14, .imm 35 x14), (17, .imm 3 x17), (40, .val 40 [] 38), (41, .imm 3 x41), (42, .imm 3 x42)], ob := [(33, some ⟨false, 35, .imm, xo33⟩), (40, some ⟨false, 38, (.slc .imm none), xo40⟩)] } (kBlock 6 (kBlock 1 (kSeq (wpC Try.prog A (hnd Try.prog A n) 5 n (cB (cB (cB (cA (cA (cB (cA (cB (cB (cB (cB (bodyOf Try.f5))))))))))))) (kLoop (nmK (A.loop 5 6)) (fun g => loopK (wpC Try.prog A (hnd Try.prog A n) 5 n (cA (cA (cB (cA (cB (cB (cB (cB (bodyOf Try.f5)))))))))) (nmK (A.loop 5 6)) m0 g (kBlock 0 (kSeq (wpC Try.prog A (hnd Try.prog A n) 5 n (cB (cB (cB (cB (cB (bodyOf Try.f5))))))) (kEnd Try.prog Try.f5 (A.sig 5) Q)))) (kBlock 0 (kSeq (wpC Try.prog A (hnd Try.prog A n) 5 n (cB (cB (cB (cB (cB (bodyOf Try.f5))))))) (kEnd Try.prog Try.f5 (A.sig 5) Q)))))))
def L5_27 (n m0 : Nat) (x4 : D) (x98 : D) (x99 : D) (xo33 : D) (Q : List D → Prop) : Prop :=
  loopK (wpC Try.prog A (hnd Try.prog A n) 5 n (cA (cA (cB (cA (cB (cB (cB (cB (cB (bodyOf Try.f5))))))))))) (nmK (A.loop 5 27)) m0 { sl := [(4, .imm 3 x4), (12, .val 33 [] 35), (98, .imm 3 x98), (99, .imm 3 x99)], ob := [(33, some ⟨false, 35, .imm, xo33⟩)] } (kBlock 8 (kSeq (wpC Try.prog A (hnd Try.prog A n) 5 n (cB (cB (cB (cB (cB (cB (bodyOf Try.f5)))))))) (kEnd Try.prog Try.f5 (A.sig 5) Q)))
theorem L5_6_eq (n m0 : Nat) (x4 : D) (x41 : D) (x42 : D) (xo33 : D) (xo40 : D) (Q : List D → Prop) : L5_6 n (m0 + 1) x4 x41 x42 xo33 xo40 Q =
 (cond (iLt (D.i x42) (D.i x41))
 ((0 ≤ (D.i x42) ∧ (D.i x42) < (D.len xo40)) ∧ (wpF Try.prog A n 25 [(List.getD (D.xs xo40) (Int.toNat (D.i x42)) D.und)] fun r6 =>
 (wpF Try.prog A n 26 [(List.getD (D.xs xo40) (Int.toNat (D.i x42)) D.und)] fun r7 =>
 (cond (!(bEq (D.b (rs r6 0)) (D.b (rs r7 0))))
 (Q [(D.bool false)])
 (L5_11 n m0 n x4 (List.getD (D.xs xo40) (Int.toNat (D.i x42)) D.und) (D.int (-1 : Int)) x41 x42 xo33 xo40 Q)))))
 (L5_27 n  n x4 (D.int (D.len xo33)) (D.int (0 : Int)) xo33 Q)) := by kernel_rfl
theorem L5_11_eq (n m0 m1 : Nat) (x4 : D) (x14 : D) (x15 : D) (x41 : D) (x42 : D) (xo33 : D) (xo40 : D) (Q : List D → Prop) : L5_11 n m0 (m1 + 1) x4 x14 x15 x41 x42 xo33 xo40 Q =
 (cond (iLe (D.i x15) (D.len x14))
 (L5_14 n m0 m1 n x4 x14 x15 (D.int (-1 : Int)) x41 x42 xo33 xo40 Q)
 (L5_19 n m0 n x4 x14 (D.int (-1 : Int)) x41 x42 xo33 xo40 Q)) := by kernel_rfl
theorem L5_14_eq (n m0 m1 m2 : Nat) (x4 : D) (x14 : D) (x15 : D) (x16 : D) (x41 : D) (x42 : D) (xo33 : D) (xo40 : D) (Q : List D → Prop) : L5_14 n m0 m1 (m2 + 1) x4 x14 x15 x16 x41 x42 xo33 xo40 Q =
 (cond (iLe (D.i x16) (D.len x14))
 (wpF Try.prog A n 27 [x14, x15, x16] fun r8 =>
 (wpF Try.prog A n 28 [x14, x15, x16] fun r9 =>
 (cond (!(bEq (D.b (rs r8 0)) (D.b (rs r9 0))))
 (Q [(D.bool false)])
 (L5_14 n m0 m1 m2 x4 x14 x15 (D.int (IntKind.wrap .i64 ((D.i x16) + (1 : Int)))) x41 x42 xo33 xo40 Q))))
 (L5_11 n m0 m1 x4 x14 (D.int (IntKind.wrap .i64 ((D.i x15) + (1 : Int)))) x41 x42 xo33 xo40 Q)) := by kernel_rfl
theorem L5_19_eq (n m0 m1 : Nat) (x4 : D) (x14 : D) (x17 : D) (x41 : D) (x42 : D) (xo33 : D) (xo40 : D) (Q : List D → Prop) : L5_19 n m0 (m1 + 1) x4 x14 x17 x41 x42 xo33 xo40 Q =
 (cond (iLe (D.i x17) (4 : Int))
 (wpF Try.prog A n 29 [x14, x17] fun r10 =>
 (wpF Try.prog A n 30 [x14, x17] fun r11 =>
 (cond (!(iEq (D.i (rs r10 0)) (D.i (rs r11 0))))
 (Q [(D.bool false)])
 (cond (!(bEq (D.b (rs r10 1)) (D.b (rs r11 1))))
 (Q [(D.bool false)])
 (L5_19 n m0 m1 x4 x14 (D.int (IntKind.wrap .i64 ((D.i x17) + (1 : Int)))) x41 x42 xo33 xo40 Q)))))
 (L5_6 n  m0 x4 x41 (D.int (IntKind.wrap .i64 ((D.i x42) + (1 : Int)))) xo33 xo40 Q)) := by kernel_rfl
theorem L5_27_eq (n m0 : Nat) (x4 : D) (x98 : D) (x99 : D) (xo33 : D) (Q : List D → Prop) : L5_27 n (m0 + 1) x4 x98 x99 xo33 Q =
 (cond (iLt (D.i x99) (D.i x98))
 (wpF Try.prog A n 31 [x4, (D.int (60 : Int))] fun r12 =>
 (wpF Try.prog A n 32 [xo33, x99, (rs r12 0)] fun r13 =>
 (wpF Try.prog A n 33 [xo33, x99, (rs r12 0)] fun r14 =>
 (cond (!(iEq (D.i (rs r13 0)) (D.i (rs r14 0))))
 (Q [(D.bool false)])
 (L5_27 n  m0 x4 x98 (D.int (IntKind.wrap .i64 ((D.i x99) + (1 : Int)))) xo33 Q)))))
 (wpF Try.prog A n 22 [] fun r15 =>
 (Q [(rs r15 0)]))) := by kernel_rfl
theorem E5 (n : Nat) (d0 d1 d2 d3 d4 : D) (Q : List D → Prop) : wpF Try.prog A (n + 1) 5 [d0, d1, d2, d3, d4] Q =
 (cond (iLt (10 : Int) (D.len d0))
 (wpF Try.prog A n 22 [] fun r1 =>
 (Q [(rs r1 0)]))
 (wpF Try.prog A n 15 [d1] fun r2 =>
 (wpF Try.prog A n 18 [(rs r2 0), (D.int (7 : Int))] fun r3 =>
 (wpF Try.prog A n 23 [(rs r3 1), (rs r3 0)] fun r4 =>
 (wpF Try.prog A n 24 [(rs r4 0), d2, d3] fun r5 =>
 (L5_6 n  n d4 (D.int (D.len (D.slc [(rs r4 0), (rs r5 0), d0]))) (D.int (0 : Int)) (rs r4 0) (D.slc [(rs r4 0), (rs r5 0), d0]) Q)))))) := by kernel_rfl
attribute [irreducible] L5_6 L5_11 L5_14 L5_19 L5_27

/- timebound/timeboundlaw40.BlockingGrows -/
def L6_7 (n m0 : Nat) (x43 : D) (x44 : D) (xo18 : D) (xo20 : D) (Q : List D → Prop) : Prop :=
  loopK (wpC Try.prog A (hnd Try.prog A n) 6 n (cA (cA (cB (cA (cB (cB (cB (cB (cB (cB (bodyOf Try.f6)))))))))))) (nmK (A.loop 6 7)) m0 { sl := [(4, .val 18 [] 35), (5, .val 20 [] 35), (43, .imm 3 x43), (44, .imm 3 x44)], ob := [(18, some ⟨false, 35, (.slc .imm none), xo18⟩), (20, some ⟨false, 35, (.slc .imm none), xo20⟩)] } (kBlock 0 (kSeq (wpC Try.prog A (hnd Try.prog A n) 6 n (cB (cB (cB (cB (cB (cB (cB (bodyOf Try.f6))))))))) (kEnd Try.prog Try.f6 (A.sig 6) Q)))
def L6_12 (n m0 m1 : Nat) (x7 : D) (x8 : D) (x9 : D) (x10 : D) (x43 : D) (x44 : D) (x54 : D) (x55 : D) (xo18 : D) (xo20 : D) (Q : List D → Prop) : Prop :=
  loopK (wpC Try.prog A (hnd Try.prog A n) 6 n (cA (cA (cB (cA (cB (cB (cB (cA (cA (cB (cB (cA (cA (cB (cA (cB (cB (cB (cB (cB (cB (bodyOf Try.f6))))))))))))))))))))))) (nmK (A.loop 6 12)) m1 { sl := [(4, .val 18 [] 35), (5, .val 20 [] 35), (7, .imm 3 x7), (8, .imm 3 x8), (9, .imm 3 x9), (10, .imm 4 x10), (43, .imm 3 x43), (44, .imm 3 x44), (54, .imm 3 x54), (55, .imm 3 x55)], ob := [(18, some ⟨false, 35, (.slc .imm none), xo18⟩), (20, some ⟨false, 35, (.slc .imm none), xo20⟩)] } (kBlock 2 (kSeq (wpC Try.prog A (hnd Try.prog A n) 6 n (cB (cB (cB (cB (cA (cA (cB (cB (cA (cA (cB (cA (cB (cB (cB (cB (cB (cB (bodyOf Try.f6)))))))))))))))))))) (kBlock 1 (kSeq (wpC Try.prog A (hnd Try.prog A n) 6 n (cB (cB (cB (cA (cA (cB (cA (cB (cB (cB (cB (cB (cB (bodyOf Try.f6))))))))))))))) (kLoop (nmK (A.loop 6 7)) (fun g => loopK (wpC Try.prog A (hnd Try.prog A n) 6 n (cA (cA (cB (cA (cB (cB (cB (cB (cB (cB (bodyOf Try.f6)))))))))))) (nmK (A.loop 6 7)) m0 g (kBlock 0 (kSeq (wpC Try.prog A (hnd Try.prog A n) 6 n (cB (cB (cB (cB (cB (cB (cB (bodyOf Try.f6))))))))) (kEnd Try.prog Try.f6 (A.sig 6) Q)))) (kBlock 0 (kSeq (wpC Try.prog A (hnd Try.prog A n) 6 n (cB (cB (cB (cB (cB (cB (cB (bodyOf Try.f6))))))))) (kEnd Try.prog Try.f6 (A.sig 6) Q))))))))
theorem L6_7_eq (n m0 : Nat) (x43 : D) (x44 : D) (xo18 : D) (xo20 : D) (Q : List D → Prop) : L6_7 n (m0 + 1) x43 x44 xo18 xo20 Q =
 (cond (iLt (D.i x44) (D.i x43))
 (wpF Try.prog A n 32 [xo18, x44, (D.int (9 : Int))] fun r7 =>
 (wpF Try.prog A n 32 [xo20, x44, (D.int (9 : Int))] fun r8 =>
 (L6_12 n m0 n x44 (rs r7 0) (rs r8 0) (D.bool true) x43 x44 (D.int (D.len xo18)) (D.int (0 : Int)) xo18 xo20 Q)))
 (wpF Try.prog A n 22 [] fun r12 =>
 (Q [(rs r12 0)]))) := by kernel_rfl
theorem L6_12_eq (n m0 m1 : Nat) (x7 : D) (x8 : D) (x9 : D) (x10 : D) (x43 : D) (x44 : D) (x54 : D) (x55 : D) (xo18 : D) (xo20 : D) (Q : List D → Prop) : L6_12 n m0 (m1 + 1) x7 x8 x9 x10 x43 x44 x54 x55 xo18 xo20 Q =
 (cond (iLt (D.i x55) (D.i x54))
 (cond (D.b x10)
 (wpF Try.prog A n 27 [xo18, x7, x55] fun r9 =>
 (L6_12 n m0 m1 x7 x8 x9 (D.bool (!(D.b (rs r9 0)))) x43 x44 x54 (D.int (IntKind.wrap .i64 ((D.i x55) + (1 : Int)))) xo18 xo20 Q))
 (L6_12 n m0 m1 x7 x8 x9 (D.bool false) x43 x44 x54 (D.int (IntKind.wrap .i64 ((D.i x55) + (1 : Int)))) xo18 xo20 Q))
 (cond (iLt (D.i x9) (D.i x8))
 (Q [(D.bool false)])
 (cond (iEq (D.i x8) (0 : Int))
 (cond (!(bEq (D.b x10) (iEq (D.i x9) (0 : Int))))
 (Q [(D.bool false)])
 (wpF Try.prog A n 32 [xo18, x7, (D.int (20 : Int))] fun r10 =>
 (cond (iLt (D.i (rs r10 0)) (D.i x8))
 (Q [(D.bool false)])
 (L6_7 n  m0 x43 (D.int (IntKind.wrap .i64 ((D.i x44) + (1 : Int)))) xo18 xo20 Q))))
 (cond (!(bEq (D.b x10) false))
 (Q [(D.bool false)])
 (wpF Try.prog A n 32 [xo18, x7, (D.int (20 : Int))] fun r11 =>
 (cond (iLt (D.i (rs r11 0)) (D.i x8))
 (Q [(D.bool false)])
 (L6_7 n  m0 x43 (D.int (IntKind.wrap .i64 ((D.i x44) + (1 : Int)))) xo18 xo20 Q))))))) := by kernel_rfl
theorem E6 (n : Nat) (d0 : D) (Q : List D → Prop) : wpF Try.prog A (n + 1) 6 [d0] Q =
 (wpF Try.prog A n 15 [d0] fun r1 =>
 (wpF Try.prog A n 18 [(rs r1 0), (D.int (4 : Int))] fun r2 =>
 (wpF Try.prog A n 23 [(rs r2 1), (D.int (IntKind.wrap .i64 ((1 : Int) + (D.i (rs r2 0)))))] fun r3 =>
 (room ((List.length (D.xs (rs r3 0)) : Nat) : Int) 72 ∧ (wpF Try.prog A n 18 [(rs r3 1), (D.int (D.len (D.slc (D.xs (rs r3 0)))))] fun r4 =>
 ((0 ≤ (D.i (rs r4 0)) ∧ (D.i (rs r4 0)) < (D.len (D.slc (D.xs (rs r3 0))))) ∧ (room ((List.length (D.xs (D.fld (List.getD (D.xs (D.slc (D.xs (rs r3 0)))) (Int.toNat (D.i (rs r4 0))) D.und) 5)) : Nat) : Int) 16 ∧ (wpF Try.prog A n 18 [(rs r4 1), (D.int (3 : Int))] fun r5 =>
 (wpF Try.prog A n 18 [(rs r5 1), (D.int (40 : Int))] fun r6 =>
 (room (((List.length (D.xs (D.fld (List.getD (D.xs (D.slc (D.xs (rs r3 0)))) (Int.toNat (D.i (rs r4 0))) D.und) 5)) : Nat) : Int) + ((List.length [(D.agg [(rs r5 0), (rs r6 0)])] : Nat) : Int)) 16 ∧ ((0 ≤ (D.i (rs r4 0)) ∧ (D.i (rs r4 0)) < (D.len (D.slc (D.xs (rs r3 0))))) ∧ (True ∧ (L6_7 n  n (D.int (D.len (rs r3 0))) (D.int (0 : Int)) (rs r3 0) (D.slc (List.set (D.xs (rs r3 0)) (Int.toNat (D.i (rs r4 0))) (D.agg [(D.fld (List.getD (D.xs (D.slc (D.xs (rs r3 0)))) (Int.toNat (D.i (rs r4 0))) D.und) 0), (D.fld (List.getD (D.xs (D.slc (D.xs (rs r3 0)))) (Int.toNat (D.i (rs r4 0))) D.und) 1), (D.fld (List.getD (D.xs (D.slc (D.xs (rs r3 0)))) (Int.toNat (D.i (rs r4 0))) D.und) 2), (D.fld (List.getD (D.xs (D.slc (D.xs (rs r3 0)))) (Int.toNat (D.i (rs r4 0))) D.und) 3), (D.fld (List.getD (D.xs (D.slc (D.xs (rs r3 0)))) (Int.toNat (D.i (rs r4 0))) D.und) 4), (D.slc ((D.xs (D.fld (List.getD (D.xs (D.slc (D.xs (rs r3 0)))) (Int.toNat (D.i (rs r4 0))) D.und) 5)) ++ [(D.agg [(rs r5 0), (rs r6 0)])])), (D.fld (List.getD (D.xs (D.slc (D.xs (rs r3 0)))) (Int.toNat (D.i (rs r4 0))) D.und) 6)]))) Q))))))))))))) := by kernel_rfl
attribute [irreducible] L6_7 L6_12
end Go.Ab

/- Jobs: which are valid, which are before which, ceilings, blocking times: both answers are one. -/
namespace Go.Ab
open Go.Proofs
attribute [local irreducible] wpF

def wi (x a b : Int) : Bool := iLe a x && iLe x b
def pr (d : D) (i : Int) : Int := D.i (D.fld (D.el d i) 3)
def bef (d : D) (i j : Int) : Bool := (iLe 0 i && iLt i (D.len d)) && ((iLe 0 j && iLt j (D.len d)) && (iLt (pr d j) (pr d i) || (iEq (pr d i) (pr d j) && iLt i j)))
def secs (x : D) : D := D.fld x 5
def hres (h : D) (t : Nat) : Int := D.i (D.fld (D.el h t) 0)
def hcost (h : D) (t : Nat) : Int := D.i (D.fld (D.el h t) 1)
def usesB (x : D) (q : Int) : Bool := anyB (fun t => iEq (hres (secs x) t) q) (D.len (secs x)).toNat
def ceilS (d : D) (q : Int) (s : Int × Bool) (k : Nat) : Int × Bool := cond (usesB (D.el d k) q && (!s.2 || bef d k s.1)) ((k : Int), true) s
def ceil (d : D) (q : Int) : Int × Bool := iter (ceilS d q) (0, false) (D.len d).toNat
def blkH (d : D) (i : Int) (h : D) (most : Int) (t : Nat) : Int := cond ((ceil d (hres h t)).2 && (iEq (ceil d (hres h t)).1 i || bef d (ceil d (hres h t)).1 i)) (minmax true most (hcost h t)) most
def blkS (d : D) (i ins : Int) (most : Int) (k : Nat) : Int := cond (bef d i k) (iter (blkH d i (secs (D.el d k))) (minmax true most ins) (D.len (secs (D.el d k))).toNat) most
def blk (d : D) (i ins : Int) : Int := iter (blkS d i ins) 0 (D.len d).toNat
def badH (h : D) (t : Nat) : Bool := !wi (hres h t) 0 3 || !wi (hcost h t) 0 16777216
def fi (x : D) (k : Nat) : Int := D.i (D.fld x k)
def badJ (x : D) : Bool := !wi (fi x 0) 1 16777216 || (!wi (fi x 1) 1 (fi x 0) || (!wi (fi x 2) 0 (fi x 0) || (!wi (fi x 3) 0 15 || (!wi (fi x 4) 0 16777216 || (!wi (fi x 6) 0 16777216 || anyB (badH (secs x)) (D.len (secs x)).toNat)))))
def valid (d : D) : Bool := iLe (D.len d) 6 && !anyB (fun k => badJ (D.el d k)) (D.len d).toNat

/-- Jobs that are not too many. -/
structure Jbs (d : D) : Prop where
  len : D.len d ≤ 1000
  secs : ∀ i : Nat, (i : Int) < D.len d → D.len (secs (D.el d i)) ≤ 1100000

theorem len_nn (d : D) : 0 ≤ D.len d := by simp [D.len]
theorem len_nat (d : D) : D.len d = ((D.len d).toNat : Nat) := by have := len_nn d; omega

section
variable {n : Nat} {d : D} {Q : List D → Prop}

theorem bad_step {a b : Bool} {R : Prop} {Q : Bool → Prop} (h : Q (!a || b)) (h2 : a = true → Q b → R) : cond (!a) (Q true) R := by
  cases a
  · exact h
  · exact h2 rfl h

theorem within_wp (hn : 1 ≤ n) {x y z : D} (h : Q [.bool (wi (D.i x) (D.i y) (D.i z))]) : wpF Try.prog A n 73 [x, y, z] Q := by
  obtain ⟨m, rfl⟩ : ∃ m, n = m + 1 := ⟨n - 1, by omega⟩
  rw [E73]
  unfold wi at h
  refine cLe (fun c => ?_) fun c => ?_
  · rw [iLe_iff.mpr c, Bool.true_and] at h; exact h
  · rw [iLe_not.mpr c, Bool.false_and] at h; exact h
theorem from_wp (hn : 1 ≤ n) {x y z : D} (h : Q [.bool (wi (D.i x) (D.i y) (D.i z))]) : wpF Try.prog A n 76 [x, y, z] Q := by
  obtain ⟨m, rfl⟩ : ∃ m, n = m + 1 := ⟨n - 1, by omega⟩
  rw [E76]
  unfold wi at h
  refine cLe (fun c => ?_) fun c => ?_
  · rw [iLe_iff.mpr c, Bool.true_and] at h; exact h
  · rw [iLe_not.mpr c, Bool.false_and] at h; exact h

theorem before_wp (hn : 2 ≤ n) (hl : D.len d ≤ 1000) {x y : D} (h : Q [.bool (bef d (D.i x) (D.i y))]) : wpF Try.prog A n 27 [d, x, y] Q := by
  obtain ⟨m, rfl⟩ : ∃ m, n = m + 1 := ⟨n - 1, by omega⟩
  have hl0 := len_nn d
  rw [E27, wrap_id (by omega) (by omega)]
  refine within_wp (by omega) ?_
  simp only [rs0, b_bool, i_int]
  have e : ∀ z : Int, wi z 0 (D.len d - 1) = (iLe 0 z && iLt z (D.len d)) := by
    intro z
    unfold wi iLe iLt
    congr 1
    exact decide_eq_decide.mpr (by omega)
  rw [e]
  refine cNot (fun c => ?_) fun c => ?_
  · rw [bef, c, Bool.false_and] at h; exact h
  · refine within_wp (by omega) ?_
    simp only [rs0, b_bool, i_int]
    rw [e]
    refine cNot (fun c2 => ?_) fun c2 => ?_
    · rw [bef, c, c2, Bool.false_and, Bool.true_and] at h; exact h
    · rw [bef, c, c2, Bool.true_and, Bool.true_and] at h
      simp only [Bool.and_eq_true, iLe_iff, iLt_iff] at c c2
      refine ⟨c, c2, cLt (fun c3 => ?_) fun c3 => ⟨c, c2, cEq (fun c4 => ?_) fun c4 => ?_⟩⟩
      · rw [show iLt (pr d (D.i y)) (pr d (D.i x)) = true from iLt_iff.mpr c3, Bool.true_or] at h; exact h
      · rw [show iLt (pr d (D.i y)) (pr d (D.i x)) = false from iLt_not.mpr c3, show iEq (pr d (D.i x)) (pr d (D.i y)) = true from iEq_iff.mpr c4, Bool.false_or, Bool.true_and] at h; exact h
      · rw [show iLt (pr d (D.i y)) (pr d (D.i x)) = false from iLt_not.mpr c3, show iEq (pr d (D.i x)) (pr d (D.i y)) = false from iEq_not.mpr c4, Bool.false_or, Bool.false_and] at h; exact h

theorem bef_out {i j : Int} (h : i < 0 ∨ j < 0 ∨ D.len d ≤ i ∨ D.len d ≤ j ∨ i = j) : bef d i j = false := by
  unfold bef
  simp only [iLe, iLt, iEq, Bool.and_eq_false_iff, Bool.or_eq_false_iff, decide_eq_false_iff_not]
  by_cases h1 : 0 ≤ i ∧ i < D.len d
  · by_cases h2 : 0 ≤ j ∧ j < D.len d
    · have : i = j := by omega
      subst this
      right; right
      exact ⟨by omega, .inr (by omega)⟩
    · right; left; omega
  · left; omega

theorem before'_wp (hn : 1 ≤ n) {x y : D} (h : Q [.bool (bef d (D.i x) (D.i y))]) : wpF Try.prog A n 28 [d, x, y] Q := by
  obtain ⟨m, rfl⟩ : ∃ m, n = m + 1 := ⟨n - 1, by omega⟩
  rw [E28]
  refine cLt (fun c => ?_) fun c => cLt (fun c1 => ?_) fun c1 => cLe (fun c2 => ?_) fun c2 => cLe (fun c3 => ?_) fun c3 => cEq (fun c4 => ?_) fun c4 => ?_
  · rw [bef_out (.inl c)] at h; exact h
  · rw [bef_out (.inr (.inl c1))] at h; exact h
  · rw [bef_out (.inr (.inr (.inl c2)))] at h; exact h
  · rw [bef_out (.inr (.inr (.inr (.inl c3))))] at h; exact h
  · rw [bef_out (.inr (.inr (.inr (.inr c4))))] at h; exact h
  · have k1 : (iLe 0 (D.i x) && iLt (D.i x) (D.len d)) = true := by simp only [Bool.and_eq_true, iLe_iff, iLt_iff]; omega
    have k2 : (iLe 0 (D.i y) && iLt (D.i y) (D.len d)) = true := by simp only [Bool.and_eq_true, iLe_iff, iLt_iff]; omega
    rw [bef, k1, k2, Bool.true_and, Bool.true_and] at h
    refine ⟨by omega, by omega, cLt (fun c3 => ?_) fun c3 => ⟨by omega, by omega, cEq (fun c4 => ?_) fun c4 => ?_⟩⟩
    · rw [show iLt (pr d (D.i y)) (pr d (D.i x)) = true from iLt_iff.mpr c3, Bool.true_or] at h; exact h
    · rw [show iLt (pr d (D.i y)) (pr d (D.i x)) = false from iLt_not.mpr c3, show iEq (pr d (D.i x)) (pr d (D.i y)) = true from iEq_iff.mpr c4, Bool.false_or, Bool.true_and] at h; exact h
    · rw [show iLt (pr d (D.i y)) (pr d (D.i x)) = false from iLt_not.mpr c3, show iEq (pr d (D.i x)) (pr d (D.i y)) = false from iEq_not.mpr c4, Bool.false_or, Bool.false_and] at h; exact h

theorem hres_wp (hn : 1 ≤ n) {x q : D} (h : Q [.bool (iEq (D.i (D.fld x 0)) (D.i q))]) : wpF Try.prog A n 77 [x, q] Q := by
  obtain ⟨m, rfl⟩ : ∃ m, n = m + 1 := ⟨n - 1, by omega⟩
  rw [E77]
  exact h

theorem uses_wp {x q : D} (hl : D.len (secs x) ≤ 1100000) (hn : 1100010 ≤ n) (h : Q [.bool (usesB x (D.i q))]) : wpF Try.prog A n 74 [secs x, .fn 77 [.ptr q]] Q := by
  obtain ⟨m, rfl⟩ : ∃ m, n = m + 2 := ⟨n - 2, by omega⟩
  rw [E74, E112]
  have hN := len_nat (secs x)
  exact found_loop (x1 := .fn 77 [.ptr q]) (L := L112_2 m) (call := fun x1 e Q => dynH A (wpF Try.prog A m) x1 [.imm 50] [.val 4 .imm] [e] Q) (fun m0 x0 x1 x7 x8 Q => L112_2_eq m m0 x0 x1 x7 x8 Q) hN (by omega)
    (fun i hi Q hQ => ⟨⟨rfl, rfl, rfl, rfl⟩, hres_wp (by omega) hQ⟩) (by omega) h

theorem uses'_wp {x q : D} (hl : D.len (secs x) ≤ 1100000) (hn : 1100010 ≤ n) (h : Q [.bool (usesB x (D.i q))]) : wpF Try.prog A n 78 [x, q] Q := by
  obtain ⟨m, rfl⟩ : ∃ m, n = m + 1 := ⟨n - 1, by omega⟩
  rw [E78]
  have hN := len_nat (secs x)
  have hl0 := len_nn (secs x)
  have key : ∀ (m0 k : Nat), (k : Int) ≤ D.len (secs x) → D.len (secs x) - k < m0 → (∀ t, t < k → iEq (hres (secs x) t) (D.i q) = false) → L78_2 m m0 q (secs x) (.int (D.len (secs x))) (.int (k : Int)) Q := by
    intro m0
    induction m0 with
    | zero => intro k _ h; omega
    | succ m0 ih =>
      intro k h1 h2 h3
      rw [L78_2_eq]
      simp only [i_int]
      refine cLt (fun c => ⟨by omega, trivial, cEq (fun c1 => ?_) fun c1 => ?_⟩) fun c => ?_
      · rw [usesB, anyB_true (i := k) (by omega) (iEq_iff.mpr c1)] at h
        exact h
      · rw [wrap_id (by omega) (by omega)]
        refine ih (k + 1) (by omega) (by omega) fun t ht => ?_
        by_cases e : t = k
        · subst e; exact iEq_not.mpr c1
        · exact h3 t (by omega)
      · rw [usesB, anyB_false fun i hi => h3 i (by omega)] at h
        exact h
  exact key m 0 (by omega) (by omega) fun t ht => by omega

theorem ceil_rng (q : Int) : ∀ k : Nat, 0 ≤ (iter (ceilS d q) (0, false) k).1 ∧ (iter (ceilS d q) (0, false) k).1 ≤ k := by
  intro k
  induction k with
  | zero => simp [iter]
  | succ k ih =>
    simp only [iter]
    generalize iter (ceilS d q) (0, false) k = s at ih
    unfold ceilS
    cases (usesB (D.el d k) q && (!s.2 || bef d k s.1))
    · simp only [cond_false]; omega
    · simp only [cond_true]; omega

theorem ceil_wp (hJ : Jbs d) (hn : 1100020 ≤ n) {q : D} (h : Q [.int (ceil d (D.i q)).1, .bool (ceil d (D.i q)).2]) : wpF Try.prog A n 29 [d, q] Q := by
  obtain ⟨m, rfl⟩ : ∃ m, n = m + 1 := ⟨n - 1, by omega⟩
  rw [E29]
  have hl := hJ.len
  have hl0 := len_nn d
  have key : ∀ (m0 k : Nat), (k : Int) ≤ D.len d → D.len d - k < m0 → L29_3 m m0 d (.int (iter (ceilS d (D.i q)) (0, false) k).1) (.bool (iter (ceilS d (D.i q)) (0, false) k).2) d (.int (D.len d)) (.int (k : Int)) q Q := by
    intro m0
    induction m0 with
    | zero => intro k _ h; omega
    | succ m0 ih =>
      intro k h1 h2
      rw [L29_3_eq]
      simp only [i_int, b_bool]
      refine cLt (fun c => ⟨by omega, trivial, ?_⟩) fun c => ?_
      · refine uses_wp (x := D.el d k) (hJ.secs k c) (by omega) ?_
        simp only [rs0, b_bool]
        rw [wrap_id (show -9223372036854775808 ≤ (k : Int) + 1 by omega) (by omega)]
        have IH := ih (k + 1) (by omega) (by omega)
        simp only [iter] at IH
        revert IH
        generalize iter (ceilS d (D.i q)) (0, false) k = s
        unfold ceilS
        intro IH
        refine cnd (fun c1 => ?_) fun c1 => ?_
        · refine cNot (fun c2 => ?_) fun c2 => ?_
          · rw [c1, c2] at IH
            exact IH
          · refine before_wp (by omega) hl ?_
            simp only [rs0, b_bool, i_int]
            refine cnd (fun c3 => ?_) fun c3 => ?_
            · rw [c1, c3, Bool.or_true, Bool.true_and] at IH
              exact IH
            · rw [c1, c2, c3] at IH
              obtain ⟨s1, s2⟩ := s
              simp only at c2
              subst c2
              exact IH
        · rw [c1] at IH
          exact IH
      · have e : k = (D.len d).toNat := by omega
        rw [e]
        exact h
  exact key m 0 (by omega) (by omega)

theorem ceil'_wp (hJ : Jbs d) (hn : 1100020 ≤ n) {q : D} (h : Q [.int (ceil d (D.i q)).1, .bool (ceil d (D.i q)).2]) : wpF Try.prog A n 30 [d, q] Q := by
  obtain ⟨m, rfl⟩ : ∃ m, n = m + 1 := ⟨n - 1, by omega⟩
  rw [E30]
  have hl := hJ.len
  have hl0 := len_nn d
  have key : ∀ (m0 k : Nat), (k : Int) ≤ D.len d → D.len d - k < m0 → L30_3 m m0 d q (.int (iter (ceilS d (D.i q)) (0, false) k).1) (.bool (iter (ceilS d (D.i q)) (0, false) k).2) d (.int (D.len d)) (.int (k : Int)) Q := by
    intro m0
    induction m0 with
    | zero => intro k _ h; omega
    | succ m0 ih =>
      intro k h1 h2
      rw [L30_3_eq]
      simp only [i_int, b_bool]
      refine cLt (fun c => ⟨by omega, trivial, ?_⟩) fun c => ?_
      · refine uses'_wp (x := D.el d k) (hJ.secs k c) (by omega) ?_
        simp only [rs0, b_bool]
        rw [wrap_id (show -9223372036854775808 ≤ (k : Int) + 1 by omega) (by omega)]
        have IH := ih (k + 1) (by omega) (by omega)
        simp only [iter] at IH
        revert IH
        generalize iter (ceilS d (D.i q)) (0, false) k = s
        unfold ceilS
        intro IH
        refine cnd (fun c1 => ?_) fun c1 => ?_
        · refine cNot (fun c2 => ?_) fun c2 => ?_
          · rw [c1, c2] at IH
            exact IH
          · refine before'_wp (by omega) ?_
            simp only [rs0, b_bool, i_int]
            refine cnd (fun c3 => ?_) fun c3 => ?_
            · rw [c1, c3, Bool.or_true, Bool.true_and] at IH
              exact IH
            · rw [c1, c2, c3] at IH
              obtain ⟨s1, s2⟩ := s
              simp only at c2
              subst c2
              exact IH
        · rw [c1] at IH
          exact IH
      · have e : k = (D.len d).toNat := by omega
        rw [e]
        exact h
  exact key m 0 (by omega) (by omega)

theorem blk_wp (hJ : Jbs d) (hn : 1100030 ≤ n) {i ins : Int} (h : Q [.int (blk d i ins)]) : wpF Try.prog A n 32 [d, .int i, .int ins] Q := by
  obtain ⟨m, rfl⟩ : ∃ m, n = m + 1 := ⟨n - 1, by omega⟩
  rw [E32]
  have hl := hJ.len
  have hl0 := len_nn d
  have key : ∀ (m0 k : Nat), (k : Int) ≤ D.len d → D.len d - k < m0 → L32_3 m m0 d (.int i) (.int ins) (.int (iter (blkS d i ins) 0 k)) d (.int (D.len d)) (.int (k : Int)) Q := by
    intro m0
    induction m0 with
    | zero => intro k _ h; omega
    | succ m0 ih =>
      intro k h1 h2
      rw [L32_3_eq]
      simp only [i_int]
      refine cLt (fun c => ⟨by omega, trivial, ?_⟩) fun c => ?_
      · refine before_wp (by omega) hl ?_
        simp only [rs0, b_bool, i_int]
        have IH := ih (k + 1) (by omega) (by omega)
        simp only [iter] at IH
        revert IH
        generalize iter (blkS d i ins) 0 k = most
        unfold blkS
        intro IH
        rw [wrap_id (show -9223372036854775808 ≤ (k : Int) + 1 by omega) (by omega)]
        refine cNot (fun c1 => ?_) fun c1 => ?_
        · rw [c1] at IH
          exact IH
        · rw [c1, cond_true] at IH
          have hs := hJ.secs k c
          have hs0 := len_nn (secs (D.el d k))
          have inner : ∀ (m1 t : Nat), (t : Int) ≤ D.len (secs (D.el d k)) → D.len (secs (D.el d k)) - t < m1 → L32_8 m m0 m1 d (.int i) (.int ins) (.int (iter (blkH d i (secs (D.el d k))) (minmax true most ins) t)) d (.int (D.len d)) (.int (k : Int)) (secs (D.el d k)) (.int (D.len (secs (D.el d k)))) (.int (t : Int)) Q := by
            intro m1
            induction m1 with
            | zero => intro t _ h; omega
            | succ m1 ih1 =>
              intro t g1 g2
              rw [L32_8_eq]
              simp only [i_int]
              rw [wrap_id (show -9223372036854775808 ≤ (k : Int) + 1 by omega) (by omega)]
              refine cLt (fun c => ⟨by omega, trivial, ?_⟩) fun c => ?_
              · refine ceil_wp hJ (by omega) ?_
                simp only [rs0, rsS, b_bool, i_int]
                have IH1 := ih1 (t + 1) (by omega) (by omega)
                simp only [iter] at IH1
                revert IH1
                generalize iter (blkH d i (secs (D.el d k))) (minmax true most ins) t = mm
                unfold blkH
                intro IH1
                rw [wrap_id (show -9223372036854775808 ≤ (t : Int) + 1 by omega) (by omega)]
                refine cnd (fun c2 => ?_) fun c2 => ?_
                · rw [show (ceil d (hres (secs (D.el d k)) t)).2 = true from c2, Bool.true_and] at IH1
                  refine cEq (fun c3 => ?_) fun c3 => ?_
                  · rw [show iEq (ceil d (hres (secs (D.el d k)) t)).1 i = true from iEq_iff.mpr c3, Bool.true_or] at IH1
                    exact IH1
                  · rw [show iEq (ceil d (hres (secs (D.el d k)) t)).1 i = false from iEq_not.mpr c3, Bool.false_or] at IH1
                    refine before_wp (by omega) hl ?_
                    simp only [rs0, b_bool, i_int]
                    refine cnd (fun c4 => ?_) fun c4 => ?_
                    · rw [show bef d (ceil d (hres (secs (D.el d k)) t)).1 i = true from c4] at IH1
                      exact IH1
                    · rw [show bef d (ceil d (hres (secs (D.el d k)) t)).1 i = false from c4] at IH1
                      exact IH1
                · rw [show (ceil d (hres (secs (D.el d k)) t)).2 = false from c2, Bool.false_and] at IH1
                  exact IH1
              · have e : t = (D.len (secs (D.el d k))).toNat := by omega
                rw [← e] at IH
                exact IH
          exact inner m 0 (by omega) (by omega)
      · have e : k = (D.len d).toNat := by omega
        rw [e]
        exact h
  exact key m 0 (by omega) (by omega)

theorem blk'_wp (hJ : Jbs d) (hn : 1100030 ≤ n) {i ins : Int} (h : Q [.int (blk d i ins)]) : wpF Try.prog A n 33 [d, .int i, .int ins] Q := by
  obtain ⟨m, rfl⟩ : ∃ m, n = m + 1 := ⟨n - 1, by omega⟩
  rw [E33]
  have hl := hJ.len
  have hl0 := len_nn d
  have key : ∀ (m0 k : Nat), (k : Int) ≤ D.len d → D.len d - k < m0 → L33_3 m m0 d (.int i) (.int ins) (.int (iter (blkS d i ins) 0 k)) d (.int (D.len d)) (.int (k : Int)) Q := by
    intro m0
    induction m0 with
    | zero => intro k _ h; omega
    | succ m0 ih =>
      intro k h1 h2
      rw [L33_3_eq]
      simp only [i_int]
      refine cLt (fun c => ⟨by omega, trivial, ?_⟩) fun c => ?_
      · refine before'_wp (by omega) ?_
        simp only [rs0, b_bool, i_int]
        have IH := ih (k + 1) (by omega) (by omega)
        simp only [iter] at IH
        revert IH
        generalize iter (blkS d i ins) 0 k = most
        unfold blkS
        intro IH
        rw [wrap_id (show -9223372036854775808 ≤ (k : Int) + 1 by omega) (by omega)]
        refine cNot (fun c1 => ?_) fun c1 => ?_
        · rw [c1] at IH
          exact IH
        · rw [c1, cond_true] at IH
          have hs := hJ.secs k c
          have hs0 := len_nn (secs (D.el d k))
          have inner : ∀ (m1 t : Nat), (t : Int) ≤ D.len (secs (D.el d k)) → D.len (secs (D.el d k)) - t < m1 → L33_8 m m0 m1 d (.int i) (.int ins) (.int (iter (blkH d i (secs (D.el d k))) (minmax true most ins) t)) d (.int (D.len d)) (.int (k : Int)) (secs (D.el d k)) (.int (D.len (secs (D.el d k)))) (.int (t : Int)) Q := by
            intro m1
            induction m1 with
            | zero => intro t _ h; omega
            | succ m1 ih1 =>
              intro t g1 g2
              rw [L33_8_eq]
              simp only [i_int]
              rw [wrap_id (show -9223372036854775808 ≤ (k : Int) + 1 by omega) (by omega)]
              refine cLt (fun c => ⟨by omega, trivial, ?_⟩) fun c => ?_
              · refine ceil'_wp hJ (by omega) ?_
                simp only [rs0, rsS, b_bool, i_int]
                have IH1 := ih1 (t + 1) (by omega) (by omega)
                simp only [iter] at IH1
                revert IH1
                generalize iter (blkH d i (secs (D.el d k))) (minmax true most ins) t = mm
                unfold blkH
                intro IH1
                rw [wrap_id (show -9223372036854775808 ≤ (t : Int) + 1 by omega) (by omega)]
                refine cnd (fun c2 => ?_) fun c2 => ?_
                · rw [show (ceil d (hres (secs (D.el d k)) t)).2 = true from c2, Bool.true_and] at IH1
                  refine cEq (fun c3 => ?_) fun c3 => ?_
                  · rw [show iEq (ceil d (hres (secs (D.el d k)) t)).1 i = true from iEq_iff.mpr c3, Bool.true_or] at IH1
                    exact IH1
                  · rw [show iEq (ceil d (hres (secs (D.el d k)) t)).1 i = false from iEq_not.mpr c3, Bool.false_or] at IH1
                    refine before'_wp (by omega) ?_
                    simp only [rs0, b_bool, i_int]
                    refine cnd (fun c4 => ?_) fun c4 => ?_
                    · rw [show bef d (ceil d (hres (secs (D.el d k)) t)).1 i = true from c4] at IH1
                      exact IH1
                    · rw [show bef d (ceil d (hres (secs (D.el d k)) t)).1 i = false from c4] at IH1
                      exact IH1
                · rw [show (ceil d (hres (secs (D.el d k)) t)).2 = false from c2, Bool.false_and] at IH1
                  exact IH1
              · have e : t = (D.len (secs (D.el d k))).toNat := by omega
                rw [← e] at IH
                exact IH
          exact inner m 0 (by omega) (by omega)
      · have e : k = (D.len d).toNat := by omega
        rw [e]
        exact h
  exact key m 0 (by omega) (by omega)
end
end Go.Ab

/- Jobs: which are valid; jobs that are made; the statement BlockingTimes, as what its functions compute. -/
namespace Go.Ab
open Go.Proofs
attribute [local irreducible] wpF

section
variable {n : Nat} {d : D} {Q : List D → Prop}

theorem badH_wp (hn : 2 ≤ n) {h : D} {t : Nat} (hq : Q [.bool (badH h t)]) : wpF Try.prog A n 75 [D.el h (t : Int)] Q := by
  obtain ⟨m, rfl⟩ : ∃ m, n = m + 1 := ⟨n - 1, by omega⟩
  rw [E75]
  unfold badH hres hcost at hq
  refine within_wp (by omega) ?_
  simp only [rs0, b_bool, i_int]
  refine cNot (fun c => ?_) fun c => ?_
  · rw [c] at hq; exact hq
  · refine within_wp (by omega) ?_
    rw [c] at hq
    simpa only [rs0, b_bool, i_int, Bool.not_true, Bool.false_or] using hq

theorem badJ_wp {x : D} (hl : D.len (secs x) ≤ 1100000) (hn : 1100030 ≤ n) (h : Q [.bool (badJ x)]) : wpF Try.prog A n 72 [x] Q := by
  obtain ⟨m, rfl⟩ : ∃ m, n = m + 1 := ⟨n - 1, by omega⟩
  rw [E72]
  unfold badJ fi at h
  refine within_wp (by omega) ?_
  simp only [rs0, b_bool, i_int]
  refine cNot (fun c => ?_) fun c => ?_
  · simpa only [c, Bool.not_false, Bool.true_or] using h
  simp only [c, Bool.not_true, Bool.false_or] at h
  refine within_wp (by omega) ?_
  simp only [rs0, b_bool, i_int]
  refine cNot (fun c => ?_) fun c => ?_
  · simpa only [c, Bool.not_false, Bool.true_or] using h
  simp only [c, Bool.not_true, Bool.false_or] at h
  refine within_wp (by omega) ?_
  simp only [rs0, b_bool, i_int]
  refine cNot (fun c => ?_) fun c => ?_
  · simpa only [c, Bool.not_false, Bool.true_or] using h
  simp only [c, Bool.not_true, Bool.false_or] at h
  refine within_wp (by omega) ?_
  simp only [rs0, b_bool, i_int]
  refine cNot (fun c => ?_) fun c => ?_
  · simpa only [c, Bool.not_false, Bool.true_or] using h
  simp only [c, Bool.not_true, Bool.false_or] at h
  refine within_wp (by omega) ?_
  simp only [rs0, b_bool, i_int]
  refine cNot (fun c => ?_) fun c => ?_
  · simpa only [c, Bool.not_false, Bool.true_or] using h
  simp only [c, Bool.not_true, Bool.false_or] at h
  refine within_wp (by omega) ?_
  simp only [rs0, b_bool, i_int]
  refine cNot (fun c => ?_) fun c => ?_
  · simpa only [c, Bool.not_false, Bool.true_or] using h
  simp only [c, Bool.not_true, Bool.false_or] at h
  obtain ⟨k, rfl⟩ : ∃ k, m = k + 2 := ⟨m - 2, by omega⟩
  rw [E74, E112]
  exact found_loop (x1 := .fn 75 []) (L := L112_2 k) (call := fun x1 e Q => dynH A (wpF Try.prog A k) x1 [.imm 50] [.val 4 .imm] [e] Q) (fun m0 x0 x1 x7 x8 Q => L112_2_eq k m0 x0 x1 x7 x8 Q) (len_nat (secs x)) (by omega)
    (fun i hi Q hQ => ⟨⟨rfl, rfl, rfl, rfl⟩, badH_wp (by omega) hQ⟩) (by omega) h

theorem valid_wp (hJ : Jbs d) (hn : 1100040 ≤ n) (h : Q [.bool (valid d)]) : wpF Try.prog A n 25 [d] Q := by
  obtain ⟨m, rfl⟩ : ∃ m, n = m + 3 := ⟨n - 3, by omega⟩
  rw [E25]
  unfold valid at h
  refine cLe (fun c => ?_) fun c => ?_
  · rw [iLe_iff.mpr c, Bool.true_and] at h
    rw [E71, E111]
    have hl := hJ.len
    exact found_loop (Q := fun r => Q [.bool (!D.b (rs r 0))]) (x1 := .fn 72 []) (L := L111_2 m) (call := fun x1 e Q => dynH A (wpF Try.prog A m) x1 [.imm 48] [.val 4 .imm] [e] Q) (fun m0 x0 x1 x7 x8 Q => L111_2_eq m m0 x0 x1 x7 x8 Q) (len_nat d) (by omega)
      (fun i hi Q hQ => ⟨⟨rfl, rfl, rfl, rfl⟩, badJ_wp (hJ.secs i (by omega)) (by omega) hQ⟩) (by omega) h
  · rw [iLe_not.mpr c, Bool.false_and] at h
    exact h

theorem valid'_wp (hJ : Jbs d) (hn : 1100040 ≤ n) (h : Q [.bool (valid d)]) : wpF Try.prog A n 26 [d] Q := by
  obtain ⟨m, rfl⟩ : ∃ m, n = m + 1 := ⟨n - 1, by omega⟩
  rw [E26]
  have hl := hJ.len
  have hl0 := len_nn d
  unfold valid at h
  have key : ∀ (m0 k : Nat), (k : Int) ≤ D.len d → D.len d - k < m0 → (∀ t, t < k → badJ (D.el d t) = false) → L26_2 m m0 d d (.int (D.len d)) (.int (k : Int)) Q := by
    intro m0
    induction m0 with
    | zero => intro k _ h; omega
    | succ m0 ih =>
      intro k h1 h2 h3
      rw [L26_2_eq]
      simp only [i_int]
      refine cLt (fun c => ⟨by omega, trivial, ?_⟩) fun c => ?_
      · have hbad : badJ (D.el d k) = true → Q [.bool false] := fun hb => by
          rw [anyB_true (p := fun k => badJ (D.el d k)) (i := k) (by omega) hb, Bool.not_true, Bool.and_false] at h
          exact h
        have hgood : badJ (D.el d k) = false → L26_2 m m0 d d (.int (D.len d)) (.int (IntKind.wrap .i64 ((k : Int) + 1))) Q := fun hb => by
          rw [wrap_id (by omega) (by omega)]
          refine ih (k + 1) (by omega) (by omega) fun t ht => ?_
          by_cases e : t = k
          · subst e; exact hb
          · exact h3 t (by omega)
        unfold badJ fi at hbad hgood
        refine from_wp (by omega) ?_
        simp only [rs0, b_bool, i_int]
        refine cNot (fun c => ?_) fun c => ?_
        · exact hbad (by simp only [c, Bool.not_false, Bool.true_or])
        simp only [c, Bool.not_true, Bool.false_or] at hbad hgood
        refine from_wp (by omega) ?_
        simp only [rs0, b_bool, i_int]
        refine cNot (fun c => ?_) fun c => ?_
        · exact hbad (by simp only [c, Bool.not_false, Bool.true_or])
        simp only [c, Bool.not_true, Bool.false_or] at hbad hgood
        refine from_wp (by omega) ?_
        simp only [rs0, b_bool, i_int]
        refine cNot (fun c => ?_) fun c => ?_
        · exact hbad (by simp only [c, Bool.not_false, Bool.true_or])
        simp only [c, Bool.not_true, Bool.false_or] at hbad hgood
        refine from_wp (by omega) ?_
        simp only [rs0, b_bool, i_int]
        refine cNot (fun c => ?_) fun c => ?_
        · exact hbad (by simp only [c, Bool.not_false, Bool.true_or])
        simp only [c, Bool.not_true, Bool.false_or] at hbad hgood
        refine from_wp (by omega) ?_
        simp only [rs0, b_bool, i_int]
        refine cNot (fun c => ?_) fun c => ?_
        · exact hbad (by simp only [c, Bool.not_false, Bool.true_or])
        simp only [c, Bool.not_true, Bool.false_or] at hbad hgood
        refine from_wp (by omega) ?_
        simp only [rs0, b_bool, i_int]
        refine cNot (fun c => ?_) fun c => ?_
        · exact hbad (by simp only [c, Bool.not_false, Bool.true_or])
        simp only [c, Bool.not_true, Bool.false_or] at hbad hgood
        have hs := hJ.secs k (by omega)
        have hs0 := len_nn (secs (D.el d k))
        have inner : ∀ (m1 t : Nat), (t : Int) ≤ D.len (secs (D.el d k)) → D.len (secs (D.el d k)) - t < m1 → (∀ u, u < t → badH (secs (D.el d k)) u = false) → L26_7 m m0 m1 d d (.int (D.len d)) (.int (k : Int)) (secs (D.el d k)) (.int (D.len (secs (D.el d k)))) (.int (t : Int)) Q := by
          intro m1
          induction m1 with
          | zero => intro t _ h; omega
          | succ m1 ih1 =>
            intro t g1 g2 g3
            rw [L26_7_eq]
            simp only [i_int]
            refine cLt (fun c => ⟨by omega, trivial, ?_⟩) fun c => ?_
            · have hb1 : badH (secs (D.el d k)) t = true → Q [.bool false] := fun hb => hbad (anyB_true (by omega) hb)
              have hg1 : badH (secs (D.el d k)) t = false → L26_7 m m0 m1 d d (.int (D.len d)) (.int (k : Int)) (secs (D.el d k)) (.int (D.len (secs (D.el d k)))) (.int (IntKind.wrap .i64 ((t : Int) + 1))) Q := fun hb => by
                rw [wrap_id (by omega) (by omega)]
                refine ih1 (t + 1) (by omega) (by omega) fun u hu => ?_
                by_cases e : u = t
                · subst e; exact hb
                · exact g3 u (by omega)
              unfold badH hres hcost at hb1 hg1
              refine from_wp (by omega) ?_
              simp only [rs0, b_bool, i_int]
              refine cNot (fun c => ?_) fun c => ?_
              · exact hb1 (by simp only [c, Bool.not_false, Bool.true_or])
              simp only [c, Bool.not_true, Bool.false_or] at hb1 hg1
              refine from_wp (by omega) ?_
              simp only [rs0, b_bool, i_int]
              refine cNot (fun c => ?_) fun c => ?_
              · exact hb1 (by simp only [c, Bool.not_false])
              · exact hg1 (by simp only [c, Bool.not_true])
            · exact hgood (anyB_false fun i hi => g3 i (by omega))
        exact inner m 0 (by omega) (by omega) fun u hu => by omega
      · rw [anyB_false (p := fun k => badJ (D.el d k)) fun i hi => h3 i (by omega), Bool.not_false, Bool.and_true] at h
        exact h
  exact key m 0 (by omega) (by omega) fun t ht => by omega

/-- The example's jobs. -/
def pairD : D := D.slc [(D.agg [(D.int (100 : Int)), (D.int (100 : Int)), (D.int (0 : Int)), (D.int (2 : Int)), (D.int (0 : Int)), (D.slc [(D.agg [(D.int (0 : Int)), (D.int (10 : Int))])]), (D.int (0 : Int))]), (D.agg [(D.int (100 : Int)), (D.int (100 : Int)), (D.int (0 : Int)), (D.int (1 : Int)), (D.int (0 : Int)), (D.slc [(D.agg [(D.int (0 : Int)), (D.int (50 : Int))])]), (D.int (0 : Int))])]

theorem pair_jbs : Jbs pairD := by
  refine ⟨by decide, fun i hi => ?_⟩
  have hi' : i < 2 := by
    have : D.len pairD = 2 := rfl
    omega
  have : i = 0 ∨ i = 1 := by omega
  rcases this with rfl | rfl <;> decide

theorem awake40_wp (hn : 1100050 ≤ n) (h : Q [.bool true]) : wpF Try.prog A n 22 [] Q := by
  obtain ⟨m, rfl⟩ : ∃ m, n = m + 2 := ⟨n - 2, by omega⟩
  rw [E22, E70]
  refine ⟨trivial, trivial, trivial, trivial, ?_⟩
  rw [rs0]
  have hJ := pair_jbs
  show wpF Try.prog A (m + 1) 29 [pairD, .int 0] _
  refine ceil_wp hJ (by omega) ?_
  show wpF Try.prog A (m + 1) 25 [pairD] _
  refine valid_wp hJ (by omega) ?_
  simp only [rs0, rsS, b_bool, i_int]
  rw [show valid pairD = true from by decide +kernel, show (ceil pairD 0).2 = true from by decide +kernel, show (ceil pairD 0).1 = 0 from by decide +kernel, cond_true, cond_true, show iEq 0 0 = true from rfl, cond_true]
  show wpF Try.prog A (m + 1) 32 [pairD, .int 0, .int 21] _
  refine blk_wp hJ (by omega) ?_
  simp only [rs0, i_int]
  rw [show blk pairD 0 21 = 50 from by decide +kernel, show iEq 50 50 = true from rfl, cond_true]
  show wpF Try.prog A (m + 1) 32 [pairD, .int 1, .int 21] _
  refine blk_wp hJ (by omega) ?_
  simp only [rs0, i_int]
  rw [show blk pairD 1 21 = 0 from by decide +kernel, show iEq 0 0 = true from rfl, cond_true]
  show wpF Try.prog A (m + 1) 27 [pairD, .int 0, .int 1] _
  refine before_wp (by omega) hJ.len ?_
  simp only [rs0, i_int]
  rw [show bef pairD 0 1 = true from by decide +kernel]
  exact h

theorem jobs_wp {N : Nat} (hN : N ≤ 7) (hn : 20 ≤ n) (hd : Dk d) (h : ∀ xs d', Dk d' → xs.length = N → (∀ x ∈ xs, D.len (secs x) ≤ 2) → Q [.slc xs, d']) : wpF Try.prog A n 23 [d, .int (N : Int)] Q := by
  obtain ⟨m, rfl⟩ : ∃ m, n = m + 1 := ⟨n - 1, by omega⟩
  rw [E23]
  have key : ∀ (m0 k : Nat) (d : D) (xs : List D), Dk d → k ≤ N → N - k < m0 → xs.length = k → (∀ x ∈ xs, D.len (secs x) ≤ 2) → L23_3 m m0 (.int (N : Int)) (.int (k : Int)) d (.slc xs) Q := by
    intro m0
    induction m0 with
    | zero => intro k d xs _ _ h; omega
    | succ m0 ih =>
      intro k d xs hd h1 h2 h3 h4
      rw [L23_3_eq]
      simp only [i_int]
      refine cLt (fun c => ?_) fun c => ?_
      · refine next_wp (by omega) hd (by omega) (by omega) fun v1 d1 a1 b1 hd1 => ?_
        simp only [rs0, rsS]
        refine next_wp (by omega) hd1 (by omega) (by omega) fun v2 d2 a2 b2 hd2 => ?_
        simp only [rs0, rsS]
        refine next_wp (by omega) hd2 (by omega) (by omega) fun v3 d3 a3 b3 hd3 => ?_
        simp only [rs0, rsS]
        refine next_wp (by omega) hd3 (by omega) (by omega) fun v4 d4 a4 b4 hd4 => ?_
        simp only [rs0, rsS]
        refine next_wp (by omega) hd4 (by omega) (by omega) fun v5 d5 a5 b5 hd5 => ?_
        simp only [rs0, rsS]
        refine ⟨trivial, next_wp (by omega) hd5 (by omega) (by omega) fun v6 d6 a6 b6 hd6 => ?_⟩
        simp only [rs0, rsS]
        refine ⟨trivial, next_wp (by omega) hd6 (by omega) (by omega) fun v7 d7 a7 b7 hd7 => ?_⟩
        simp only [rs0, rsS]
        obtain ⟨c7, rfl⟩ : ∃ c : Nat, v7 = c := ⟨v7.toNat, by omega⟩
        have inner : ∀ (m1 c : Nat) (d : D) (j : D), Dk d → c < m1 → c ≤ 2 → D.len (secs j) + c ≤ 2 → L23_7 m m0 m1 (.int (c : Int)) (.int (N : Int)) (.int (k : Int)) d (.slc xs) j Q := by
          intro m1
          induction m1 with
          | zero => intro c d j _ h; omega
          | succ m1 ih1 =>
            intro c d j hd g1 g2 g3
            rw [L23_7_eq]
            simp only [i_int]
            refine cLt (fun e => ?_) fun e => ?_
            · refine next_wp (by omega) hd (by omega) (by omega) fun u1 e1 _ _ he1 => ?_
              simp only [rs0, rsS]
              refine next_wp (by omega) he1 (by omega) (by omega) fun u2 e2 _ _ he2 => ?_
              simp only [rs0, rsS]
              have hj : ((D.xs (D.fld j 5)).length : Int) = D.len (secs j) := rfl
              refine ⟨?_, trivial, ?_⟩
              · unfold room
                rw [hj]
                simp only [List.length_singleton]
                omega
              · rw [wrap_id (by omega) (by omega), show ((c : Int) - 1) = ((c - 1 : Nat) : Int) by omega]
                refine ih1 (c - 1) e2 _ he2 (by omega) (by omega) ?_
                simp only [secs, fld0, fldS, len_slc, List.length_append, List.length_singleton]
                rw [Int.natCast_add, hj]
                omega
            · refine ⟨?_, ?_⟩
              · unfold room
                simp only [xs_slc, List.length_singleton]
                omega
              · rw [wrap_id (by omega) (by omega)]
                simp only [xs_slc]
                refine ih (k + 1) d _ hd (by omega) (by omega) (by simp [h3]) fun x hx => ?_
                rcases List.mem_append.mp hx with hx | hx
                · exact h4 x hx
                · simp only [List.mem_singleton] at hx
                  subst hx
                  omega
        exact inner m c7 d7 _ hd7 (by omega) (by omega) (by simp only [secs, fld0, fldS, len_slc, List.length_nil]; omega)
      · exact h xs d hd (by omega) h4
  exact key m 0 d [] hd (by omega) (by omega) rfl (by simp)

theorem jbs_of {xs : List D} {b : Nat} (h1 : xs.length ≤ 1000) (hb : b ≤ 1100000) (h2 : ∀ x ∈ xs, D.len (secs x) ≤ b) : Jbs (.slc xs) := by
  refine ⟨by simp only [len_slc]; omega, fun i hi => ?_⟩
  simp only [len_slc] at hi
  have : D.el (.slc xs) (i : Int) = xs.getD i .und := rfl
  rw [this]
  have := h2 _ (getD_mem (d := .und) (show i < xs.length by omega))
  omega

theorem jbs_set {xs : List D} {j : Nat} {e : D} (h1 : xs.length ≤ 1000) (h2 : ∀ x ∈ xs, D.len (secs x) ≤ 2) (he : D.len (secs e) ≤ 3) : Jbs (.slc (xs.set j e)) := by
  refine jbs_of (b := 3) (by simpa using h1) (by omega) fun x hx => ?_
  rcases List.mem_or_eq_of_mem_set hx with hx | rfl
  · have := h2 x hx; omega
  · exact he

theorem getD_secs {xs : List D} (h2 : ∀ x ∈ xs, D.len (secs x) ≤ 2) (j : Nat) : D.len (D.fld (xs.getD j .und) 5) ≤ 2 := by
  by_cases hj : j < xs.length
  · exact h2 _ (getD_mem (d := .und) hj)
  · simp [List.getD, Nat.le_of_not_lt hj, D.fld, D.fs, D.len, D.xs]

theorem spoilt_wp {xs : List D} (h1 : xs.length ≤ 7) (h2 : ∀ x ∈ xs, D.len (secs x) ≤ 2) (hn : 20 ≤ n) {a b : Int} (h : ∀ y, Jbs y → Q [y]) : wpF Try.prog A n 24 [.slc xs, .int a, .int b] Q := by
  obtain ⟨m, rfl⟩ : ∃ m, n = m + 1 := ⟨n - 1, by omega⟩
  rw [E24]
  simp only [xs_slc, len_slc]
  refine ⟨by unfold room; omega, cEq (fun c => ?_) fun c => ?_⟩
  · refine mod_wp (by omega) (by omega) (by omega) fun g1 g2 => ?_
    simp only [rs0, i_int]
    refine ⟨⟨by omega, by omega, by unfold room; omega⟩, h _ (jbs_of (b := 0) (by simp; omega) (by omega) fun x hx => ?_)⟩
    rw [List.eq_of_mem_replicate hx]
    simp [secs, D.fld, D.fs, D.len, D.xs]
  · refine mod_wp (by omega) (by omega) (by omega) fun g1 g2 => ?_
    refine mod_wp (by omega) (by omega) (by omega) fun g3 g4 => ?_
    simp only [rs0, i_int]
    generalize Int.tmod (Int.tmod b xs.length + xs.length) xs.length = j at g1 g2
    have hs := getD_secs h2 j.toNat
    refine cEq (fun c => ⟨⟨g1, g2⟩, trivial, h _ (jbs_set (by omega) h2 ?_)⟩) fun c => ?_
    · simp only [secs, fld0, fldS]; omega
    refine cEq (fun c => ⟨⟨g1, g2⟩, mod_wp (by omega) (by omega) (by omega) fun _ _ => ⟨⟨g1, g2⟩, trivial, h _ (jbs_set (by omega) h2 ?_)⟩⟩) fun c => ?_
    · simp only [secs, fld0, fldS]; omega
    refine cEq (fun c => ⟨⟨g1, g2⟩, trivial, h _ (jbs_set (by omega) h2 ?_)⟩) fun c => ?_
    · simp only [secs, fld0, fldS]; omega
    refine cEq (fun c => mod_wp (by omega) (by omega) (by omega) fun _ _ => ⟨⟨g1, g2⟩, trivial, h _ (jbs_set (by omega) h2 ?_)⟩) fun c => ?_
    · simp only [secs, fld0, fldS]; omega
    refine cEq (fun c => mod_wp (by omega) (by omega) (by omega) fun g5 g6 => ⟨⟨g5, ?_⟩, ⟨g1, g2⟩, trivial, h _ (jbs_set (by omega) h2 ?_)⟩) fun c => ?_
    · simp only [List.length_cons, List.length_nil]; exact g6
    · simp only [secs, fld0, fldS]; omega
    refine cEq (fun c => ⟨⟨g1, g2⟩, trivial, h _ (jbs_set (by omega) h2 ?_)⟩) fun c => ?_
    · simp only [secs, fld0, fldS]; omega
    have hj : ((D.xs (D.fld (xs.getD j.toNat D.und) 5)).length : Int) = D.len (D.fld (xs.getD j.toNat D.und) 5) := rfl
    refine cEq (fun c => ⟨⟨g1, g2⟩, ?_, mod_wp (by omega) (by omega) (by omega) fun _ _ => mod_wp (by omega) (by omega) (by omega) fun _ _ => ⟨?_, ⟨g1, g2⟩, trivial, h _ (jbs_set (by omega) h2 ?_)⟩⟩) fun c => ?_
    · unfold room; omega
    · unfold room
      simp only [List.length_singleton]
      omega
    · simp only [secs, fld0, fldS, len_slc, List.length_append, List.length_singleton]
      rw [Int.natCast_add, hj]
      omega
    · exact h _ (jbs_of (b := 2) (by omega) (by omega) h2)
end
end Go.Ab

/- The statement BlockingTimes, as what its functions compute. -/
namespace Go.Ab
open Go.Proofs
attribute [local irreducible] wpF

section
variable {n : Nat} {Q : List D → Prop}

theorem bEq_refl (b : Bool) : bEq b b = true := bEq_iff.mpr rfl
theorem iEq_refl (b : Int) : iEq b b = true := iEq_iff.mpr rfl

theorem c5_27 (hn : 1100100 ≤ n) {x : D} (hx : Jbs x) {ins : Int} (h : Q [.bool true]) : ∀ (m0 k : Nat), (k : Int) ≤ D.len x → D.len x - k < m0 → L5_27 n m0 (.int ins) (.int (D.len x)) (.int (k : Int)) x Q := by
  have hl := hx.len
  intro m0
  induction m0 with
  | zero => intro k _ h; omega
  | succ m0 ih =>
    intro k h1 h2
    rw [L5_27_eq]
    simp only [i_int]
    refine cLt (fun c => ?_) fun c => awake40_wp (by omega) h
    refine mod_wp (by omega) (by omega) (by omega) fun g1 g2 => ?_
    simp only [rs0]
    refine blk_wp hx (by omega) ?_
    refine blk'_wp hx (by omega) ?_
    simp only [rs0, i_int]
    rw [iEq_refl, Bool.not_true, cond_false, wrap_id (by omega) (by omega)]
    exact ih (k + 1) (by omega) (by omega)

theorem c5_19 (hn : 1100100 ≤ n) {y : D} (hy : Jbs y) {m0 : Nat} {x4 x41 x42 xo33 xo40 : D} (h : L5_6 n m0 x4 x41 (.int (IntKind.wrap .i64 (D.i x42 + 1))) xo33 xo40 Q) : ∀ (m1 : Nat) (q : Int), -1 ≤ q → q ≤ 5 → 5 - q < m1 → L5_19 n m0 m1 x4 y (.int q) x41 x42 xo33 xo40 Q := by
  intro m1
  induction m1 with
  | zero => intro k _ _ h; omega
  | succ m1 ih =>
    intro q h1 h2 h3
    rw [L5_19_eq]
    simp only [i_int]
    refine cLe (fun c => ?_) fun c => h
    refine ceil_wp hy (by omega) ?_
    refine ceil'_wp hy (by omega) ?_
    simp only [rs0, rsS, i_int, b_bool]
    rw [iEq_refl, bEq_refl, Bool.not_true, cond_false, cond_false, wrap_id (by omega) (by omega)]
    exact ih (q + 1) (by omega) (by omega) (by omega)

theorem c5_14 (hn : 1100100 ≤ n) {y : D} (hy : Jbs y) {m0 m1 : Nat} {i : Int} {x4 x41 x42 xo33 xo40 : D} (h : L5_11 n m0 m1 x4 y (.int (IntKind.wrap .i64 (i + 1))) x41 x42 xo33 xo40 Q) : ∀ (m2 : Nat) (q : Int), -1 ≤ q → q ≤ D.len y + 1 → D.len y + 1 - q < m2 → L5_14 n m0 m1 m2 x4 y (.int i) (.int q) x41 x42 xo33 xo40 Q := by
  have hl := hy.len
  intro m2
  induction m2 with
  | zero => intro k _ _ h; omega
  | succ m2 ih =>
    intro q h1 h2 h3
    rw [L5_14_eq]
    simp only [i_int]
    refine cLe (fun c => ?_) fun c => h
    refine before_wp (by omega) hl ?_
    refine before'_wp (by omega) ?_
    simp only [rs0, i_int, b_bool]
    rw [bEq_refl, Bool.not_true, cond_false, wrap_id (by omega) (by omega)]
    exact ih (q + 1) (by omega) (by omega) (by omega)

theorem c5_11 (hn : 1100100 ≤ n) {y : D} (hy : Jbs y) {m0 : Nat} {x4 x41 x42 xo33 xo40 : D} (h : L5_6 n m0 x4 x41 (.int (IntKind.wrap .i64 (D.i x42 + 1))) xo33 xo40 Q) : ∀ (m1 : Nat) (q : Int), -1 ≤ q → q ≤ D.len y + 1 → D.len y + 1 - q < m1 → L5_11 n m0 m1 x4 y (.int q) x41 x42 xo33 xo40 Q := by
  have hl := hy.len
  intro m1
  induction m1 with
  | zero => intro k _ _ h; omega
  | succ m1 ih =>
    intro q h1 h2 h3
    rw [L5_11_eq]
    simp only [i_int]
    refine cLe (fun c => ?_) fun c => c5_19 hn hy h n (-1) (by omega) (by omega) (by omega)
    refine c5_14 hn hy ?_ n (-1) (by omega) (by have := len_nn y; omega) (by omega)
    rw [wrap_id (by omega) (by omega)]
    exact ih (q + 1) (by omega) (by omega) (by omega)

theorem c5_6 (hn : 1100100 ≤ n) {x s r : D} (hx : Jbs x) (hs : Jbs s) (hr : Jbs r) {ins : Int} (h : Q [.bool true]) : ∀ (m0 k : Nat), k ≤ 3 → 3 - k < m0 → L5_6 n m0 (.int ins) (.int 3) (.int (k : Int)) x (.slc [x, s, r]) Q := by
  intro m0
  induction m0 with
  | zero => intro k _ h; omega
  | succ m0 ih =>
    intro k h1 h2
    rw [L5_6_eq]
    simp only [i_int, xs_slc, toNat_nat]
    have hl0 := len_nn x
    have hlx := hx.len
    refine cLt (fun c => ⟨⟨by omega, by simp only [len_slc, List.length_cons, List.length_nil]; omega⟩, ?_⟩) fun c => c5_27 hn hx h n 0 (by omega) (by omega)
    have hy : Jbs ([x, s, r].getD k .und) := by
      have : k = 0 ∨ k = 1 ∨ k = 2 := by omega
      rcases this with rfl | rfl | rfl
      · exact hx
      · exact hs
      · exact hr
    have hly := hy.len
    have hly0 := len_nn ([x, s, r].getD k .und)
    refine valid_wp hy (by omega) ?_
    refine valid'_wp hy (by omega) ?_
    simp only [rs0, b_bool]
    rw [bEq_refl, Bool.not_true, cond_false]
    refine c5_11 hn hy ?_ n (-1) (by omega) (by omega) (by omega)
    rw [i_int, wrap_id (by omega) (by omega)]
    exact ih (k + 1) (by omega) (by omega)

theorem times_wp (hn : 1100200 ≤ n) {raw : D} (hr : D.len raw ≤ 10 → Jbs raw) {l : List Int} (hl : l.length ≤ 2000000) {a b c : Int} : wpF Try.prog A n 5 [raw, lst l, .int a, .int b, .int c] fun r => r = [.bool true] := by
  obtain ⟨m, rfl⟩ : ∃ m, n = m + 1 := ⟨n - 1, by omega⟩
  rw [E5]
  refine cLt (fun c => awake40_wp (by omega) rfl) fun c => ?_
  have hr := hr (by omega)
  refine new_wp (by omega) hl fun d hd => ?_
  rw [rs0]
  refine next_wp (by omega) hd (by omega) (by omega) fun v d1 g1 g2 hd1 => ?_
  simp only [rs0, rsS]
  obtain ⟨N, rfl⟩ : ∃ N : Nat, v = N := ⟨v.toNat, by omega⟩
  refine jobs_wp (by omega) (by omega) hd1 fun xs d2 hd2 h1 h2 => ?_
  simp only [rs0]
  refine spoilt_wp (by omega) h2 (by omega) fun y hy => ?_
  simp only [rs0]
  exact c5_6 (n := m) (Q := fun r => r = [.bool true]) (by omega) (jbs_of (b := 2) (by omega) (by omega) h2) hy hr rfl m 0 (by omega) (by omega)
end
end Go.Ab

/- The statement BlockingGrows, as what its functions compute: the least urgent job is never blocked, and blocking does not fall with a section more. -/
namespace Go.Ab
open Go.Proofs
attribute [local irreducible] wpF

theorem mx_le {a b c d : Int} (h1 : a ≤ c) (h2 : b ≤ d) : minmax true a b ≤ minmax true c d := by
  simp only [minmax, if_true]
  split <;> split <;> omega
theorem mx_ge (a b : Int) : a ≤ minmax true a b ∧ b ≤ minmax true a b := by
  simp only [minmax, if_true]
  split <;> omega

theorem bef_iff {d : D} {i j : Int} : bef d i j = true ↔ (0 ≤ i ∧ i < D.len d) ∧ (0 ≤ j ∧ j < D.len d) ∧ (pr d j < pr d i ∨ (pr d i = pr d j ∧ i < j)) := by
  simp only [bef, Bool.and_eq_true, Bool.or_eq_true, iLe_iff, iLt_iff, iEq_iff]
theorem bef_trans {d : D} {i j k : Int} (h1 : bef d i j = true) (h2 : bef d j k = true) : bef d i k = true := by
  rw [bef_iff] at *
  omega
theorem bef_total {d : D} {i j : Int} (h1 : 0 ≤ i ∧ i < D.len d) (h2 : 0 ≤ j ∧ j < D.len d) (h : i ≠ j) (hn : bef d i j = false) : bef d j i = true := by
  rw [bef_iff]
  by_cases hb : bef d i j = true
  · rw [hb] at hn; cases hn
  · rw [bef_iff] at hb
    omega

def condB (d : D) (q i : Int) : Bool := (ceil d q).2 && (iEq (ceil d q).1 i || bef d (ceil d q).1 i)

/-- What a ceiling is. -/
theorem ceil_inv {d : D} (q : Int) : ∀ k : Nat, (k : Int) ≤ D.len d →
    ((iter (ceilS d q) (0, false) k).2 = false ∧ ∀ j, j < k → usesB (D.el d (j : Int)) q = false) ∨
    ((iter (ceilS d q) (0, false) k).2 = true ∧ ∃ c : Nat, (iter (ceilS d q) (0, false) k).1 = c ∧ c < k ∧ usesB (D.el d (c : Int)) q = true ∧ ∀ j : Nat, j < k → usesB (D.el d (j : Int)) q = true → j = c ∨ bef d c j = true) := by
  intro k
  induction k with
  | zero => intro _; exact .inl ⟨rfl, fun j hj => by omega⟩
  | succ k ih =>
    intro hk
    have ih := ih (by omega)
    simp only [iter]
    generalize iter (ceilS d q) (0, false) k = s at ih
    unfold ceilS
    rcases ih with ⟨h1, h2⟩ | ⟨h1, c, h2, h3, h4, h5⟩
    · rw [h1, Bool.not_false, Bool.true_or, Bool.and_true]
      cases hu : usesB (D.el d (k : Int)) q with
      | false =>
        refine .inl ⟨h1, fun j hj => ?_⟩
        by_cases e : j = k
        · subst e; exact hu
        · exact h2 j (by omega)
      | true =>
        refine .inr ⟨rfl, k, rfl, by omega, hu, fun j hj hj2 => ?_⟩
        by_cases e : j = k
        · exact .inl e
        · rw [h2 j (by omega)] at hj2; cases hj2
    · rw [h1, h2, Bool.not_true, Bool.false_or]
      cases hu : usesB (D.el d (k : Int)) q with
      | false =>
        refine .inr ⟨h1, c, h2, by omega, h4, fun j hj hj2 => ?_⟩
        by_cases e : j = k
        · subst e; rw [hu] at hj2; cases hj2
        · exact h5 j (by omega) hj2
      | true =>
        rw [Bool.true_and]
        cases hb : bef d (k : Int) c with
        | false =>
          refine .inr ⟨h1, c, h2, by omega, h4, fun j hj hj2 => ?_⟩
          by_cases e : j = k
          · subst e
            exact .inr (bef_total (by omega) (by omega) (by omega) hb)
          · exact h5 j (by omega) hj2
        | true =>
          refine .inr ⟨rfl, k, rfl, by omega, hu, fun j hj hj2 => ?_⟩
          by_cases e : j = k
          · exact .inl e
          · rcases h5 j (by omega) hj2 with h6 | h6
            · subst h6; exact .inr hb
            · exact .inr (bef_trans hb h6)

theorem condB_iff {d : D} {q i : Int} : condB d q i = true ↔ ∃ j : Nat, (j : Int) < D.len d ∧ usesB (D.el d (j : Int)) q = true ∧ ((j : Int) = i ∨ bef d j i = true) := by
  have hl := len_nn d
  have h := ceil_inv (d := d) q (D.len d).toNat (by omega)
  unfold condB ceil
  simp only [Bool.and_eq_true, Bool.or_eq_true, iEq_iff]
  rcases h with ⟨h1, h2⟩ | ⟨h1, c, h2, h3, h4, h5⟩
  · rw [h1]
    constructor
    · intro h; cases h.1
    · rintro ⟨j, g1, g2, _⟩
      rw [h2 j (by omega)] at g2; cases g2
  · rw [h1, h2]
    constructor
    · intro h
      exact ⟨c, by omega, h4, h.2⟩
    · rintro ⟨j, g1, g2, g3⟩
      refine ⟨rfl, ?_⟩
      rcases h5 j (by omega) g2 with h6 | h6
      · subst h6; exact g3
      · rcases g3 with g3 | g3
        · rw [← g3]; exact .inr h6
        · exact .inr (bef_trans h6 g3)

theorem blkH_ge (d : D) (i : Int) (h : D) (m : Int) (t : Nat) : m ≤ blkH d i h m t := by
  unfold blkH
  cases ((ceil d (hres h t)).2 && (iEq (ceil d (hres h t)).1 i || bef d (ceil d (hres h t)).1 i))
  · exact Int.le_refl _
  · exact (mx_ge _ _).1
theorem iter_ge {step : Int → Nat → Int} (h : ∀ m t, m ≤ step m t) {s : Int} : ∀ {a b : Nat}, a ≤ b → iter step s a ≤ iter step s b := by
  intro a b hab
  induction b with
  | zero => have : a = 0 := by omega
            subst this; exact Int.le_refl _
  | succ b ih =>
    by_cases e : a = b + 1
    · subst e; exact Int.le_refl _
    · exact Int.le_trans (ih (by omega)) (h _ _)
theorem blkS_ge (d : D) (i ins m : Int) (k : Nat) : m ≤ blkS d i ins m k := by
  unfold blkS
  cases bef d i k
  · exact Int.le_refl _
  · refine Int.le_trans (mx_ge m ins).1 ?_
    exact iter_ge (step := blkH d i (secs (D.el d k))) (s := minmax true m ins) (fun m t => blkH_ge _ _ _ _ _) (Nat.zero_le _)

theorem blk_zero {d : D} {i ins : Int} (h : ∀ k : Nat, (k : Int) < D.len d → bef d i k = false) : blk d i ins = 0 := by
  unfold blk
  have hl := len_nn d
  have key : ∀ k : Nat, (k : Int) ≤ D.len d → iter (blkS d i ins) 0 k = 0 := by
    intro k
    induction k with
    | zero => intro _; rfl
    | succ k ih =>
      intro hk
      rw [iter, ih (by omega), blkS, h k (by omega), cond_false]
  exact key _ (by omega)
theorem blk_pos {d : D} {i ins : Int} {k : Nat} (hk : (k : Int) < D.len d) (h : bef d i k = true) : ins ≤ blk d i ins := by
  unfold blk
  have h1 : iter (blkS d i ins) 0 (k + 1) ≤ iter (blkS d i ins) 0 (D.len d).toNat := iter_ge (fun m t => blkS_ge _ _ _ _ _) (by omega)
  refine Int.le_trans ?_ h1
  rw [iter, blkS, h, cond_true]
  refine Int.le_trans (mx_ge (iter (blkS d i ins) 0 k) ins).2 ?_
  exact iter_ge (step := blkH d i (secs (D.el d k))) (s := minmax true (iter (blkS d i ins) 0 k) ins) (fun m t => blkH_ge _ _ _ _ _) (Nat.zero_le _)

/-- The same jobs, one of them with a section more. -/
structure More (x y : D) : Prop where
  len : D.len y = D.len x
  pr : ∀ j : Nat, (j : Int) < D.len x → pr y j = pr x j
  sl : ∀ j : Nat, (j : Int) < D.len x → D.len (secs (D.el x j)) ≤ D.len (secs (D.el y j))
  sg : ∀ j t : Nat, (j : Int) < D.len x → (t : Int) < D.len (secs (D.el x j)) → D.el (secs (D.el y j)) t = D.el (secs (D.el x j)) t

theorem More.refl (x : D) : More x x := ⟨rfl, fun _ _ => rfl, fun _ _ => Int.le_refl _, fun _ _ _ _ => rfl⟩
theorem More.bef {x y : D} (h : More x y) (i j : Int) : bef y i j = bef x i j := by
  have key : Go.Ab.bef y i j = true ↔ Go.Ab.bef x i j = true := by
    rw [bef_iff, bef_iff, h.len]
    constructor
    · rintro ⟨h1, h2, h3⟩
      have e1 := h.pr i.toNat (by omega)
      have e2 := h.pr j.toNat (by omega)
      rw [show ((i.toNat : Nat) : Int) = i by omega] at e1
      rw [show ((j.toNat : Nat) : Int) = j by omega] at e2
      rw [e1, e2] at h3
      exact ⟨h1, h2, h3⟩
    · rintro ⟨h1, h2, h3⟩
      have e1 := h.pr i.toNat (by omega)
      have e2 := h.pr j.toNat (by omega)
      rw [show ((i.toNat : Nat) : Int) = i by omega] at e1
      rw [show ((j.toNat : Nat) : Int) = j by omega] at e2
      rw [e1, e2]
      exact ⟨h1, h2, h3⟩
  exact Bool.eq_iff_iff.mpr key
theorem More.uses {x y : D} (h : More x y) {j : Nat} (hj : (j : Int) < D.len x) {q : Int} (hu : usesB (D.el x (j : Int)) q = true) : usesB (D.el y (j : Int)) q = true := by
  unfold usesB anyB at hu
  rw [List.any_eq_true] at hu
  obtain ⟨t, h1, h2⟩ := hu
  rw [List.mem_range] at h1
  have hl := len_nn (secs (D.el x j))
  have hm := h.sl j hj
  refine anyB_true (i := t) (by omega) ?_
  have e := h.sg j t hj (by omega)
  unfold hres at h2 ⊢
  rw [e]
  exact h2
theorem More.cond {x y : D} (h : More x y) {q i : Int} (hc : condB x q i = true) : condB y q i = true := by
  rw [condB_iff] at hc ⊢
  obtain ⟨j, h1, h2, h3⟩ := hc
  exact ⟨j, by rw [h.len]; exact h1, h.uses h1 h2, by rw [h.bef]; exact h3⟩

theorem blkH_le {x y : D} (h : More x y) {i : Int} {hs hs' : D} {t : Nat} (he : D.el hs' (t : Int) = D.el hs t) {m m' : Int} (hm : m ≤ m') : blkH x i hs m t ≤ blkH y i hs' m' t := by
  show (cond (condB x (hres hs t) i) (minmax true m (hcost hs t)) m) ≤ cond (condB y (hres hs' t) i) (minmax true m' (hcost hs' t)) m'
  have e1 : hres hs' t = hres hs t := by unfold hres; rw [he]
  have e2 : hcost hs' t = hcost hs t := by unfold hcost; rw [he]
  rw [e1, e2]
  cases hc : condB x (hres hs t) i with
  | true =>
    rw [h.cond hc]
    exact mx_le hm (Int.le_refl _)
  | false =>
    cases condB y (hres hs t) i with
    | false => exact hm
    | true => exact Int.le_trans hm (mx_ge _ _).1

theorem blk_le {x y : D} (h : More x y) {i a b : Int} (hab : a ≤ b) : blk x i a ≤ blk y i b := by
  unfold blk
  rw [h.len]
  have hl := len_nn x
  have key : ∀ k : Nat, (k : Int) ≤ D.len x → iter (blkS x i a) 0 k ≤ iter (blkS y i b) 0 k := by
    intro k
    induction k with
    | zero => intro _; exact Int.le_refl _
    | succ k ih =>
      intro hk
      have ih := ih (by omega)
      simp only [iter]
      generalize iter (blkS x i a) 0 k = m at ih
      generalize iter (blkS y i b) 0 k = m' at ih
      unfold blkS
      rw [h.bef]
      cases bef x i k with
      | false => exact ih
      | true =>
        simp only [cond_true]
        have hs := h.sl k (by omega)
        have hs0 := len_nn (secs (D.el x k))
        have h1 : ∀ t : Nat, (t : Int) ≤ D.len (secs (D.el x k)) → iter (blkH x i (secs (D.el x k))) (minmax true m a) t ≤ iter (blkH y i (secs (D.el y k))) (minmax true m' b) t := by
          intro t
          induction t with
          | zero => intro _; exact mx_le ih hab
          | succ t iht =>
            intro ht
            simp only [iter]
            exact blkH_le h (h.sg k t (by omega) (by omega)) (iht (by omega))
        refine Int.le_trans (h1 _ (by omega)) ?_
        exact iter_ge (fun m t => blkH_ge _ _ _ _ _) (by omega)
  exact key _ (by omega)

section
variable {n : Nat} {Q : List D → Prop}

theorem c6_12 (hn : 1100100 ≤ n) {x y : D} (hx : Jbs x) (hxy : More x y) {m0 : Nat} {i : Int} {x43 x44 : D} (h : L6_7 n m0 x43 (.int (IntKind.wrap .i64 (D.i x44 + 1))) x y Q) : ∀ (m1 j : Nat) (last : Bool), (j : Int) ≤ D.len x → D.len x - j < m1 →
    (last = true ↔ ∀ t : Nat, t < j → bef x i t = false) →
    L6_12 n m0 m1 (.int i) (.int (blk x i 9)) (.int (blk y i 9)) (.bool last) x43 x44 (.int (D.len x)) (.int (j : Int)) x y Q := by
  have hl := hx.len
  intro m1
  induction m1 with
  | zero => intro k _ _ h; omega
  | succ m1 ih =>
    intro j last h1 h2 h3
    rw [L6_12_eq]
    simp only [i_int, b_bool]
    refine cLt (fun c => ?_) fun c => ?_
    · refine cnd (fun c1 => ?_) fun c1 => ?_
      · refine before_wp (by omega) hl ?_
        simp only [rs0, i_int, b_bool]
        rw [wrap_id (by omega) (by omega)]
        refine ih (j + 1) _ (by omega) (by omega) ?_
        have h3 := h3.mp c1
        constructor
        · intro hb t ht
          by_cases e : t = j
          · subst e; simpa using hb
          · exact h3 t (by omega)
        · intro hb
          simpa using hb j (by omega)
      · rw [wrap_id (by omega) (by omega)]
        refine ih (j + 1) false (by omega) (by omega) ?_
        constructor
        · intro hb; cases hb
        · intro hb
          exfalso
          have := h3.mpr fun t ht => hb t (by omega)
          rw [this] at c1; cases c1
    · have hle := blk_le hxy (i := i) (Int.le_refl 9)
      have hmo := blk_le (More.refl x) (i := i) (show (9 : Int) ≤ 20 by omega)
      have hlast : last = true ↔ ∀ t : Nat, (t : Int) < D.len x → bef x i t = false := by
        rw [h3]
        exact ⟨fun h t ht => h t (by omega), fun h t ht => h t (by omega)⟩
      have hx0 : last = true → blk x i 9 = 0 := fun hb => blk_zero (hlast.mp hb)
      have hy0 : last = true → blk y i 9 = 0 := fun hb => blk_zero fun k hk => by rw [hxy.bef]; exact hlast.mp hb k (by rw [← hxy.len]; exact hk)
      have hx1 : last = false → 9 ≤ blk x i 9 := fun hb => by
        by_cases hall : ∀ t : Nat, (t : Int) < D.len x → bef x i t = false
        · rw [hlast.mpr hall] at hb; cases hb
        · simp only [Classical.not_forall] at hall
          obtain ⟨t, ht, hb2⟩ := hall
          exact blk_pos ht (by simpa using hb2)
      refine cLt (fun c => by omega) fun c1 => cEq (fun c2 => ?_) fun c2 => ?_
      · have hlt : last = true := by
          cases hb : last with
          | true => rfl
          | false => have := hx1 hb; omega
        rw [hlt, hy0 hlt, show bEq true (iEq 0 0) = true from rfl, Bool.not_true, cond_false]
        refine blk_wp hx (by omega) ?_
        simp only [rs0, i_int]
        exact cLt (fun c => by omega) fun c => h
      · have hlt : last = false := by
          cases hb : last with
          | false => rfl
          | true => exact absurd (hx0 hb) c2
        rw [hlt, show bEq false false = true from rfl, Bool.not_true, cond_false]
        refine blk_wp hx (by omega) ?_
        simp only [rs0, i_int]
        exact cLt (fun c => by omega) fun c => h

theorem c6_7 (hn : 1100100 ≤ n) {x y : D} (hx : Jbs x) (hy : Jbs y) (hxy : More x y) (h : Q [.bool true]) : ∀ (m0 k : Nat), (k : Int) ≤ D.len x → D.len x - k < m0 → L6_7 n m0 (.int (D.len x)) (.int (k : Int)) x y Q := by
  have hl := hx.len
  have hl0 := len_nn x
  intro m0
  induction m0 with
  | zero => intro k _ h; omega
  | succ m0 ih =>
    intro k h1 h2
    rw [L6_7_eq]
    simp only [i_int]
    refine cLt (fun c => ?_) fun c => awake40_wp (by omega) h
    refine blk_wp hx (by omega) ?_
    refine blk_wp hy (by omega) ?_
    simp only [rs0]
    refine c6_12 hn hx hxy ?_ n 0 true (by omega) (by omega) (by simp)
    rw [i_int, wrap_id (by omega) (by omega)]
    exact ih (k + 1) (by omega) (by omega)

theorem grows_wp (hn : 1100200 ≤ n) {l : List Int} (hl : l.length ≤ 2000000) : wpF Try.prog A n 6 [lst l] fun r => r = [.bool true] := by
  obtain ⟨m, rfl⟩ : ∃ m, n = m + 1 := ⟨n - 1, by omega⟩
  rw [E6]
  refine new_wp (by omega) hl fun d hd => ?_
  rw [rs0]
  refine next_wp (by omega) hd (by omega) (by omega) fun v d1 g1 g2 hd1 => ?_
  simp only [rs0, rsS, i_int]
  rw [wrap_id (by omega) (by omega)]
  obtain ⟨N, hN⟩ : ∃ N : Nat, 1 + v = N := ⟨(1 + v).toNat, by omega⟩
  rw [hN]
  refine jobs_wp (by omega) (by omega) hd1 fun xs d2 hd2 h1 h2 => ?_
  simp only [rs0, rsS, xs_slc, len_slc]
  refine ⟨by unfold room; omega, next_wp (by omega) hd2 (by omega) (by omega) fun u d3 g3 g4 hd3 => ?_⟩
  simp only [rs0, rsS, i_int]
  obtain ⟨k, rfl⟩ : ∃ k : Nat, u = k := ⟨u.toNat, by omega⟩
  have hk : k < xs.length := by omega
  simp only [toNat_nat]
  have hs := getD_secs h2 k
  have hj : ((D.xs (D.fld (xs.getD k D.und) 5)).length : Int) = D.len (D.fld (xs.getD k D.und) 5) := rfl
  refine ⟨⟨by omega, by omega⟩, by unfold room; omega, next_wp (by omega) hd3 (by omega) (by omega) fun r1 d4 g5 g6 hd4 => ?_⟩
  simp only [rs0, rsS]
  refine next_wp (by omega) hd4 (by omega) (by omega) fun r2 d5 g7 g8 hd5 => ?_
  simp only [rs0, rsS]
  refine ⟨?_, ⟨by omega, by omega⟩, trivial, ?_⟩
  · unfold room
    simp only [List.length_singleton]
    omega
  · have hx := jbs_of (b := 2) (xs := xs) (by omega) (by omega) h2
    have hnew : D.len (D.slc (D.xs (D.fld (xs.getD k D.und) 5) ++ [D.agg [D.int r1, D.int r2]])) ≤ 3 := by
      simp only [len_slc, List.length_append, List.length_singleton]
      rw [Int.natCast_add, hj]
      omega
    refine c6_7 (Q := fun r => r = [.bool true]) (by omega) hx (jbs_set (by omega) h2 (by simp only [secs, fld0, fldS]; exact hnew)) ?_ rfl m 0 (by simp only [len_slc]; omega) (by simp only [len_slc]; omega)
    have hel : ∀ (e : D) (j : Nat), (j : Int) < D.len (.slc xs) → D.el (.slc (xs.set k e)) (j : Int) = if j = k then e else D.el (.slc xs) (j : Int) := by
      intro e j hj
      simp only [len_slc] at hj
      have h1 : D.el (.slc (xs.set k e)) (j : Int) = (xs.set k e).getD j .und := rfl
      have h2 : D.el (.slc xs) (j : Int) = xs.getD j .und := rfl
      rw [h1, h2]
      by_cases e1 : j = k
      · subst e1
        simp [List.getD, hk]
      · rw [if_neg e1]
        simp [List.getD, List.getElem?_set, Ne.symm e1]
    refine ⟨by simp only [len_slc, List.length_set], fun j hj => ?_, fun j hj => ?_, fun j t hj ht => ?_⟩
    · unfold pr
      rw [hel _ j hj]
      by_cases e : j = k
      · subst e
        rw [if_pos rfl]
        rfl
      · rw [if_neg e]
    · rw [hel _ j hj]
      by_cases e : j = k
      · subst e
        rw [if_pos rfl]
        have : D.len (secs (D.el (.slc xs) (j : Int))) = D.len (D.fld (xs.getD j .und) 5) := rfl
        rw [this]
        simp only [secs, fld0, fldS, len_slc, List.length_append, List.length_singleton]
        rw [Int.natCast_add, show ((D.xs (D.fld (xs.getD j D.und) 5)).length : Int) = D.len (D.fld (xs.getD j D.und) 5) from rfl]
        omega
      · rw [if_neg e]; exact Int.le_refl _
    · rw [hel _ j hj]
      by_cases e : j = k
      · subst e
        rw [if_pos rfl]
        have ht' : t < (D.xs (D.fld (xs.getD j .und) 5)).length := by
          have : D.len (secs (D.el (.slc xs) (j : Int))) = (D.xs (D.fld (xs.getD j .und) 5)).length := rfl
          omega
        show (D.xs (D.fld (xs.getD j D.und) 5) ++ [D.agg [D.int r1, D.int r2]]).getD t .und = (D.xs (D.fld (xs.getD j .und) 5)).getD t .und
        generalize D.xs (D.fld (xs.getD j .und) 5) = zs at ht'
        simp [List.getD, List.getElem?_append_left ht']
      · rw [if_neg e]
end
end Go.Ab
