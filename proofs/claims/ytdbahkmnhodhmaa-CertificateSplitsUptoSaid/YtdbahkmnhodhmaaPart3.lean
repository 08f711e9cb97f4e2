/- Equations and plain laws of the functions that the statement reaches, part 3. Conditions: those in each theorem. -/
import Derived.Test.YtdbahkmnhodhmaaProg
import Derived.Test.YtdbahkmnhodhmaaPart2
import Derived.KernelRfl
set_option linter.unusedVariables false
set_option linter.unusedSimpArgs false
/- What is known ahead of each function: which memory is owned, lent, read. -/
set_option linter.unusedVariables false
namespace Go.Ab
open Go.Proofs
def sigL : List (Nat × Sig) := [(3, ⟨[.imm 22], [.val 4 .imm]⟩),
  (4, ⟨[.imm 22], [.val 4 .imm]⟩),
  (5, ⟨[.imm 35, .imm 22, .imm 3, .imm 3, .imm 3], [.val 4 .imm]⟩),
  (6, ⟨[.imm 22], [.val 4 .imm]⟩),
  (7, ⟨[.imm 51, .imm 22, .imm 22, .imm 3, .imm 3, .imm 3], [.val 4 .imm]⟩),
  (8, ⟨[.imm 22, .imm 3, .imm 3, .imm 3], [.val 4 .imm]⟩),
  (9, ⟨[.imm 22], [.val 4 .imm]⟩),
  (10, ⟨[.imm 78, .imm 82, .imm 22], [.val 4 .imm]⟩),
  (11, ⟨[.imm 22], [.val 4 .imm]⟩),
  (12, ⟨[.imm 22], [.val 4 .imm]⟩),
  (13, ⟨[.imm 78, .imm 22, .imm 3], [.val 4 .imm]⟩),
  (14, ⟨[.imm 22], [.val 4 .imm]⟩),
  (15, ⟨[.imm 22], [.box 110 .imm]⟩),
  (16, ⟨[.lent 110 .imm], [.val 26 .imm]⟩),
  (17, ⟨[.lent 110 .imm, .imm 26], [.val 28 (.slc (.slc .imm none) none)]⟩),
  (18, ⟨[.lent 110 .imm, .imm 3], [.val 3 .imm]⟩),
  (19, ⟨[.imm 26, .imm 28, .imm 30], [.val 3 .imm]⟩),
  (20, ⟨[.imm 26, .imm 28, .imm 30], [.val 3 .imm]⟩),
  (21, ⟨[], [.val 4 .imm]⟩),
  (22, ⟨[], [.val 4 .imm]⟩),
  (23, ⟨[.lent 110 .imm, .imm 3], [.val 35 (.slc .imm none)]⟩),
  (24, ⟨[.imm 35, .imm 3, .imm 3], [.val 35 (.slc .imm none)]⟩),
  (25, ⟨[.imm 35], [.val 4 .imm]⟩),
  (26, ⟨[.imm 35], [.val 4 .imm]⟩),
  (27, ⟨[.imm 35, .imm 3, .imm 3], [.val 4 .imm]⟩),
  (28, ⟨[.imm 35, .imm 3, .imm 3], [.val 4 .imm]⟩),
  (29, ⟨[.imm 35, .imm 3], [.val 3 .imm, .val 4 .imm]⟩),
  (30, ⟨[.imm 35, .imm 3], [.val 3 .imm, .val 4 .imm]⟩),
  (31, ⟨[.imm 3, .imm 3], [.val 3 .imm]⟩),
  (32, ⟨[.imm 35, .imm 3, .imm 3], [.val 3 .imm]⟩),
  (33, ⟨[.imm 35, .imm 3, .imm 3], [.val 3 .imm]⟩),
  (34, ⟨[], [.val 4 .imm]⟩),
  (35, ⟨[.lent 110 .imm], [.val 51 (.slc .imm none)]⟩),
  (36, ⟨[.imm 51, .imm 3, .imm 3], [.val 51 (.slc .imm none)]⟩),
  (37, ⟨[.imm 51], [.val 4 .imm]⟩),
  (38, ⟨[.imm 51], [.val 4 .imm]⟩),
  (39, ⟨[.imm 51, .imm 3], [.val 22 (.slc .imm none), .val 56 .imm]⟩),
  (40, ⟨[.imm 51, .imm 3], [.val 22 (.slc .imm none), .val 56 .imm]⟩),
  (41, ⟨[.imm 22, .imm 22], [.val 4 .imm]⟩),
  (42, ⟨[.imm 51, .imm 22], [.val 3 .imm, .val 3 .imm, .val 4 .imm]⟩),
  (43, ⟨[.imm 51, .imm 22], [.val 3 .imm, .val 3 .imm, .val 4 .imm]⟩),
  (44, ⟨[.lent 110 .imm], [.val 67 .imm]⟩),
  (45, ⟨[.imm 67, .imm 51, .imm 22], [.val 67 .imm, .val 56 .imm]⟩),
  (46, ⟨[.imm 65, .imm 3], [.val 4 .imm]⟩),
  (47, ⟨[], [.val 4 .imm]⟩),
  (48, ⟨[.lent 110 .imm], [.val 82 .imm, .val 22 .imm]⟩),
  (49, ⟨[.lent 110 .imm, .imm 82, .imm 3], [.val 78 .imm]⟩),
  (50, ⟨[.lent 110 .imm, .imm 78], [.val 78 .imm]⟩),
  (51, ⟨[.imm 82, .imm 78], [.val 4 .imm]⟩),
  (52, ⟨[.imm 82, .imm 78], [.val 4 .imm]⟩),
  (53, ⟨[.imm 82, .imm 78], [.val 56 .imm]⟩),
  (54, ⟨[.imm 82, .imm 78], [.val 56 .imm]⟩),
  (55, ⟨[.imm 78], [.val 3 .imm]⟩),
  (56, ⟨[.imm 78], [.val 3 .imm]⟩),
  (57, ⟨[.imm 82, .imm 22], [.val 3 .imm, .val 4 .imm]⟩),
  (58, ⟨[.imm 82], [.val 94 .imm]⟩),
  (59, ⟨[.imm 82, .imm 79, .imm 94], [.val 3 .imm, .val 4 .imm, .val 4 .imm]⟩),
  (60, ⟨[.lent 110 .imm, .imm 3], [.val 80 (.slc .imm none)]⟩),
  (61, ⟨[.imm 82, .imm 80, .imm 3, .imm 78, .imm 78], [.val 78 .imm, .val 56 .imm]⟩),
  (62, ⟨[.imm 82, .imm 80, .imm 3, .imm 78, .imm 78], [.val 78 .imm, .val 56 .imm]⟩),
  (63, ⟨[.imm 78, .imm 78], [.val 4 .imm]⟩),
  (64, ⟨[.imm 80, .imm 3], [.val 100 .imm, .val 100 (.agg [(0, (.slc .imm none))])]⟩),
  (65, ⟨[.lent 110 .imm], [.val 26 .imm]⟩),
  (66, ⟨[.imm 26], [.val 56 .imm]⟩),
  (67, ⟨[.imm 30, .imm 113], [.val 4 .imm]⟩),
  (68, ⟨[.imm 28, .iptr 26], [.val 4 .imm]⟩),
  (69, ⟨[.imm 67], [.val 3 .imm]⟩),
  (70, ⟨[], [.val 35 (.slc .imm none)]⟩),
  (71, ⟨[.imm 35, .imm 121], [.val 4 .imm]⟩),
  (72, ⟨[.imm 48], [.val 4 .imm]⟩),
  (73, ⟨[.imm 3, .imm 3, .imm 3], [.val 4 .imm]⟩),
  (74, ⟨[.imm 46, .imm 120], [.val 4 .imm]⟩),
  (75, ⟨[.imm 50], [.val 4 .imm]⟩),
  (76, ⟨[.imm 3, .imm 3, .imm 3], [.val 4 .imm]⟩),
  (77, ⟨[.imm 50, .iptr 3], [.val 4 .imm]⟩),
  (78, ⟨[.imm 48, .imm 3], [.val 4 .imm]⟩),
  (79, ⟨[], [.val 51 (.slc .imm none)]⟩),
  (80, ⟨[.imm 75], [.val 4 .imm]⟩),
  (81, ⟨[.imm 51, .imm 125], [.val 4 .imm]⟩),
  (82, ⟨[.imm 75, .iptr 75], [.val 4 .imm]⟩),
  (83, ⟨[.imm 22, .imm 22], [.val 3 .imm]⟩),
  (84, ⟨[.imm 22, .imm 22], [.val 4 .imm]⟩),
  (85, ⟨[.imm 3, .imm 22], [.val 4 .imm]⟩),
  (86, ⟨[.imm 67], [.val 56 .imm]⟩),
  (87, ⟨[.imm 65], [.val 65 (.slc .imm none)]⟩),
  (88, ⟨[], [.val 82 .imm, .val 78 (.agg [(0, (.slc (.agg [(4, (.slc .imm none))]) none))])]⟩),
  (89, ⟨[.lent 110 .imm, .imm 3], [.val 82 .imm]⟩),
  (90, ⟨[.lent 110 .imm, .imm 82], [.val 22 (.slc .imm none)]⟩),
  (91, ⟨[.imm 82, .imm 22], [.val 82 .imm, .val 56 .imm]⟩),
  (92, ⟨[.imm 82], [.val 4 .imm]⟩),
  (93, ⟨[.imm 94], [.val 143 .imm]⟩),
  (94, ⟨[.imm 141, .imm 4], [.val 4 .imm]⟩),
  (95, ⟨[.imm 94], [.val 4 .imm]⟩),
  (96, ⟨[.imm 82, .imm 80, .imm 3], [.val 4 .imm]⟩),
  (97, ⟨[.imm 78], [.val 151 (.slc .imm none)]⟩),
  (98, ⟨[.imm 151, .imm 154], [.val 4 .imm]⟩),
  (99, ⟨[.imm 79, .iptr 82], [.val 4 .imm]⟩),
  (100, ⟨[.imm 94], [.val 4 .imm]⟩),
  (101, ⟨[.imm 82, .imm 79, .imm 94], [.val 3 .imm, .val 4 .imm, .val 4 .imm]⟩),
  (102, ⟨[.imm 82], [.val 4 .imm]⟩),
  (103, ⟨[.imm 80, .imm 3], [.val 3 .imm]⟩),
  (104, ⟨[.imm 82, .imm 80, .imm 3], [.val 4 .imm]⟩),
  (105, ⟨[.imm 80], [.val 80 (.slc .imm none)]⟩),
  (106, ⟨[.imm 82, .imm 76, .imm 3], [.val 76 (.slc .imm none)]⟩),
  (107, ⟨[.imm 76, .imm 3, .imm 3], [.val 76 (.slc .imm none)]⟩),
  (108, ⟨[.imm 80, .imm 80], [.val 4 .imm]⟩),
  (109, ⟨[.imm 3, .imm 3, .imm 3], [.val 4 .imm]⟩),
  (110, ⟨[.imm 30, .imm 113], [.val 3 .imm]⟩),
  (111, ⟨[.imm 35, .imm 121], [.val 3 .imm]⟩),
  (112, ⟨[.imm 46, .imm 120], [.val 3 .imm]⟩),
  (113, ⟨[.imm 51, .imm 125], [.val 3 .imm]⟩),
  (114, ⟨[.imm 3, .imm 3], [.val 3 .imm]⟩),
  (115, ⟨[.imm 3, .imm 3, .imm 3], [.val 4 .imm]⟩),
  (116, ⟨[.imm 65, .imm 3], [.val 4 .imm]⟩),
  (117, ⟨[.imm 82], [.val 4 .imm]⟩),
  (118, ⟨[.imm 82, .imm 3, .imm 3, .imm 3, .imm 3, .imm 3, .imm 3], [.val 4 .imm]⟩),
  (119, ⟨[.imm 141, .imm 4], [.val 3 .imm]⟩),
  (120, ⟨[.imm 100, .imm 3], [.val 4 .imm]⟩),
  (121, ⟨[.imm 94], [.val 100 .imm, .val 100 .imm]⟩),
  (122, ⟨[.imm 79], [.val 79 (.slc .imm none)]⟩),
  (123, ⟨[.imm 151, .imm 154], [.val 3 .imm]⟩),
  (124, ⟨[.imm 82, .imm 79, .imm 80], [.val 22 (.slc .imm none), .val 3 .imm, .val 4 .imm]⟩),
  (125, ⟨[.imm 80, .imm 3, .imm 3], [.val 4 .imm]⟩),
  (126, ⟨[.imm 22, .imm 175], [.val 4 .imm]⟩),
  (127, ⟨[.imm 3], [.val 4 .imm]⟩),
  (128, ⟨[.imm 3, .imm 3], [.val 3 .imm]⟩),
  (129, ⟨[.imm 80, .imm 3, .imm 3], [.val 4 .imm]⟩),
  (130, ⟨[.imm 3], [.val 4 .imm]⟩),
  (131, ⟨[.imm 65, .imm 177], [.val 4 .imm]⟩),
  (132, ⟨[.imm 73, .iptr 3], [.val 4 .imm]⟩),
  (133, ⟨[.imm 3, .imm 3], [.val 4 .imm]⟩),
  (134, ⟨[.imm 79, .imm 180], [.val 4 .imm]⟩),
  (135, ⟨[.imm 100, .iptr 82, .iptr 3, .iptr 3], [.val 4 .imm]⟩),
  (136, ⟨[.imm 22, .imm 175], [.val 3 .imm]⟩),
  (137, ⟨[.imm 65, .imm 177], [.val 3 .imm]⟩),
  (138, ⟨[.imm 79, .imm 180], [.val 3 .imm]⟩),
  (155, ⟨[.imm 146, .imm 82, .imm 3], [.val 4 .imm]⟩),
  (156, ⟨[.imm 80], [.val 4 .imm]⟩),
  (157, ⟨[.imm 147, .imm 82, .imm 3], [.val 4 .imm]⟩)]
def cmdL : List (Nat × List (Nat × List Cmd)) := [(12, [(6, [.frz 10 []])]),
  (14, [(6, [.frz 9 []])]),
  (23, [(10, [.frz 6 []])]),
  (44, [(8, [.frz 3 []])]),
  (45, [(15, [.frz 3 []])]),
  (47, [(2, [.frz 2 []])]),
  (49, [(10, [.frz 7 []])]),
  (50, [(3, [.frz 3 []]), (22, [.frz 3 [.fld 0]]), (25, [.frz 3 []])]),
  (51, [(23, [.frz 31 []])]),
  (52, [(20, [.frz 25 []])]),
  (54, [(13, [.frz 25 [.idx 0]]), (14, [.frz 9 []])]),
  (58, [(8, [.frz 3 []])]),
  (61, [(8, [.weak 12 (.agg [(0, (.slc .imm none))])]), (10, [.frz 12 []])]),
  (62, [(9, [.weak 13 (.agg [(0, (.slc .imm none))])]), (11, [.frz 13 []])]),
  (70, [(2, [.frz 1 []]), (4, [.frz 2 []])]),
  (88, [(2, [.frz 2 []])]),
  (89, [(14, [.frz 7 [], .weak 5 (.agg [(1, (.slc .imm none)), (2, (.slc .imm none))])]), (15, [.frz 5 []])]),
  (91, [(16, [.frz 6 []])]),
  (97, [(7, [.frz 11 [.idx 0]])]),
  (106, [(14, [.frz 9 []])]),
  (107, [(17, [.frz 9 []])]),
  (121, [(8, [.frz 3 []])])]
def loopL : List (Nat × List (Nat × (List Cmd × List Nat × List Nat))) := [(3, [(6, ([.thaw 6 (.slc (.slc .imm none) none), .home 6], [3, 4, 5, 6, 7], [4, 6, 9, 14]))]),
  (4, [(6, ([], [3, 4, 5, 6, 7, 20, 21], [4, 10, 15, 18]))]),
  (5, [(6, ([], [4, 12, 40, 41, 42], [33, 40])), (11, ([], [4, 12, 14, 15, 40, 41, 42], [33, 40])), (14, ([], [4, 12, 14, 15, 16, 40, 41, 42], [33, 40])), (19, ([], [4, 12, 14, 17, 40, 41, 42], [33, 40])), (27, ([], [4, 12, 98, 99], [33]))]),
  (6, [(7, ([], [4, 5, 43, 44], [18, 20])), (12, ([], [4, 5, 7, 8, 9, 10, 43, 44, 54, 55], [18, 20]))]),
  (7, [(6, ([], [1, 3, 13, 50, 51, 52], [41, 50])), (11, ([], [1, 3, 13, 16, 50, 51, 52, 67, 68, 69], [41, 50, 67])), (19, ([], [1, 3, 13, 16, 50, 51, 52, 101, 102, 103], [41, 50, 101]))]),
  (8, [(12, ([.thaw 22 .imm, .home 22], [3, 10, 11, 16, 22, 87, 88], [22, 30]))]),
  (9, [(5, ([.thaw 6 .imm, .home 6], [3, 4, 5, 6, 23, 24], [5, 6, 17, 19])), (14, ([], [4, 5, 6, 8, 49], [5, 6, 8, 19])), (18, ([], [4, 5, 6, 8, 10, 11, 12, 49, 60, 61, 62], [5, 6, 8, 19]))]),
  (10, [(7, ([], [4, 8, 44, 45, 46], [4, 8, 44]))]),
  (11, [(9, ([], [4, 5, 6, 7], [4, 6, 34])), (13, ([], [4, 5, 6, 7, 10], [4, 6, 34]))]),
  (13, [(10, ([.weak 52 .imm], [2, 7, 8, 12, 62, 63, 64], [8, 27, 52, 62])), (13, ([.weak 52 .imm], [2, 7, 8, 12, 14, 62, 63, 64, 72, 73, 74], [8, 14, 27, 52, 62, 72]))]),
  (17, [(3, ([], [0, 3, 5, 6], [0, 3, 14]))]),
  (19, [(5, ([], [2, 3, 7, 31, 32, 33], [3])), (10, ([], [2, 3, 7, 8, 10, 31, 32, 33, 42, 43, 44], [3, 41])), (13, ([], [2, 3, 7, 8, 10, 31, 32, 33, 42, 43, 44, 51, 52, 53], [3, 41])), (20, ([], [2, 3, 7, 15, 31, 32, 33, 62], [3, 41, 62]))]),
  (20, [(5, ([], [1, 2, 3, 7, 20, 21], [3])), (9, ([], [1, 2, 3, 7, 8, 9, 20, 21, 25, 26, 27], [3, 24])), (14, ([], [1, 2, 3, 7, 8, 9, 20, 21, 25, 26, 27, 39, 40, 41], [3, 24]))]),
  (23, [(3, ([.thaw 5 .imm, .home 5], [0, 5, 8, 9], [0, 5])), (7, ([], [0, 5, 6, 7, 8, 9], [0, 5, 6]))]),
  (26, [(2, ([], [0, 7, 8, 9], [])), (7, ([], [0, 7, 8, 9, 52, 53, 54], []))]),
  (29, [(3, ([], [0, 3, 6, 7, 10, 11, 12], [3]))]),
  (30, [(3, ([], [0, 1, 6, 7, 10, 11, 12], []))]),
  (32, [(3, ([], [0, 1, 2, 7, 14, 15, 16], [])), (8, ([], [0, 1, 2, 7, 14, 15, 16, 30, 31, 32], []))]),
  (33, [(3, ([], [0, 1, 2, 7, 14, 15, 16], [])), (8, ([], [0, 1, 2, 7, 14, 15, 16, 30, 31, 32], []))]),
  (35, [(4, ([.thaw 3 .imm, .home 3], [0, 3, 4, 5], [0, 3, 4]))]),
  (37, [(2, ([], [0, 5, 6, 7], []))]),
  (38, [(2, ([], [0, 8, 9, 10], [])), (10, ([], [0, 4, 8, 9, 10, 61, 62, 63], [4]))]),
  (39, [(8, ([.thaw 6 .imm, .home 6], [0, 1, 6, 7, 8, 26, 27], [6])), (12, ([.thaw 10 .imm, .home 10], [0, 1, 6, 7, 8, 9, 10, 26, 27, 31, 32], [6, 10]))]),
  (40, [(8, ([.thaw 6 .imm, .home 6], [0, 1, 6, 7, 8, 9], [6])), (12, ([.thaw 10 .imm, .home 10], [0, 1, 6, 7, 8, 9, 10, 33, 34], [6, 10]))]),
  (41, [(4, ([], [0, 1, 5], []))]),
  (42, [(5, ([], [0, 7, 8, 21, 22, 23], []))]),
  (43, [(5, ([], [0, 1, 7, 8, 14, 15, 16], []))]),
  (45, [(7, ([], [1, 3, 6, 33, 34, 35], [3, 6]))]),
  (46, [(2, ([], [0, 1, 5], []))]),
  (51, [(5, ([], [2, 3, 5, 33, 34, 35], [2, 3, 31])), (16, ([], [2, 3, 5, 33, 34, 35, 58, 59, 60], [2, 3, 31, 58]))]),
  (52, [(5, ([], [2, 3, 5, 27, 28, 29], [2, 3, 25])), (13, ([], [2, 3, 5, 6, 27, 28, 29, 69, 70, 71], [2, 3, 25, 69])), (21, ([], [97, 98, 99], []))]),
  (53, [(9, ([], [2, 3, 5, 24, 25, 26], [2, 3, 19]))]),
  (54, [(7, ([.weak 25 (.slc .imm none)], [2, 3, 5, 27, 28, 29], [2, 3, 25])), (17, ([], [2, 3, 5, 81, 82, 83], [2, 3, 25]))]),
  (55, [(3, ([], [3, 7, 8, 9], []))]),
  (56, [(3, ([], [3, 7, 8, 9], []))]),
  (57, [(4, ([], [1, 2, 21, 22, 23], [2])), (10, ([], [1, 2, 35, 36, 37], [2])), (14, ([], [1, 2, 9, 10, 35, 36, 37, 42, 43, 44], [2, 9])), (23, ([], [1, 13, 67, 68, 69], []))]),
  (58, [(3, ([], [1, 2, 3, 8, 9, 10], [1, 2, 3]))]),
  (59, [(4, ([], [1, 3, 5, 9, 10, 23, 24, 25], [3, 5, 21])), (13, ([], [1, 3, 5, 9, 10, 12, 13, 23, 24, 25, 67, 68, 69], [3, 5, 12, 13, 21])), (20, ([], [3, 5, 10, 94, 95, 96], [3, 5, 21]))]),
  (60, [(3, ([.thaw 5 .imm, .home 5], [0, 1, 5, 6], [0, 5]))]),
  (63, [(4, ([], [3, 23, 24, 25], [3]))]),
  (64, [(3, ([.thaw 6 .imm, .home 6], [0, 1, 4, 5, 6, 9, 10, 11], [4, 5, 6]))]),
  (78, [(2, ([], [1, 8, 9, 10], []))]),
  (83, [(2, ([], [0, 1, 9, 10, 11], []))]),
  (84, [(2, ([], [0, 1, 7, 8], []))]),
  (85, [(2, ([], [0, 1, 7, 8, 9], []))]),
  (86, [(8, ([], [1, 31, 32, 33], [1, 31]))]),
  (89, [(4, ([.weak 5 (.agg [(1, (.slc .imm none)), (2, (.slc .imm none))])], [0, 4, 5, 6], [0, 4, 5])), (9, ([], [0, 4, 5, 6, 7, 41, 42], [0, 4, 5, 7]))]),
  (90, [(3, ([.thaw 5 .imm, .home 5], [0, 5, 7, 8], [0, 5]))]),
  (91, [(5, ([], [1, 4, 6, 36, 37, 38], [4, 6])), (10, ([], [4, 6, 54, 55, 56], [4, 6]))]),
  (95, [(2, ([], [1, 6, 7, 8], [1]))]),
  (97, [(3, ([.weak 11 (.slc .imm none)], [3, 13, 14, 15], [11]))]),
  (101, [(5, ([], [3, 5, 9, 10, 39, 40, 41], [3, 5, 20]))]),
  (102, [(2, ([], [1, 6, 7, 8], [1]))]),
  (103, [(2, ([], [1, 7, 8, 9], []))]),
  (106, [(3, ([.thaw 7 .imm, .home 7], [2, 3, 7, 11, 12, 13], [3, 7])), (8, ([], [2, 3, 7, 9, 11, 12, 13, 29, 30], [3, 7, 9]))]),
  (107, [(3, ([.thaw 7 .imm, .home 7], [1, 2, 7, 13, 14, 15], [7])), (10, ([.thaw 10 .imm, .home 10], [1, 2, 7, 9, 10, 13, 14, 15, 37, 38, 39], [7, 9, 10]))]),
  (108, [(4, ([], [0, 1, 12, 13], []))]),
  (110, [(2, ([], [0, 1, 7, 8], []))]),
  (111, [(2, ([], [0, 1, 7, 8], []))]),
  (112, [(2, ([], [0, 1, 7, 8], []))]),
  (113, [(2, ([], [0, 1, 7, 8], []))]),
  (117, [(4, ([], [1, 38, 39, 40], [1]))]),
  (119, [(2, ([], [0, 1, 7, 8], []))]),
  (121, [(4, ([], [2, 3, 17, 18, 19], [2, 3]))]),
  (123, [(2, ([], [0, 1, 7, 8], []))]),
  (124, [(3, ([], [1, 3, 9, 10, 20, 21, 22], [3, 19])), (13, ([], [1, 3, 9, 10, 12, 20, 21, 22, 79, 80, 81], [3, 12, 19]))]),
  (125, [(2, ([], [0, 1, 2, 9, 10, 11], []))]),
  (129, [(2, ([], [0, 1, 2, 9, 10, 11], []))]),
  (136, [(2, ([], [0, 1, 7, 8], []))]),
  (137, [(2, ([], [0, 1, 7, 8], []))]),
  (138, [(2, ([], [0, 1, 7, 8], []))]),
  (156, [(2, ([], [0, 5, 6, 7], []))])]
def ownL : List (Nat × List Nat) := [(23, [22]), (58, [6]), (89, [16, 35]), (91, [26, 34, 49, 67, 74])]
def A : Ann :=
  { sig := fun f => assoc sigL f ⟨[], []⟩, cmd := fun f r => assoc (assoc cmdL f []) r [], loop := fun f r => assoc (assoc loopL f []) r ([], [], []), own := fun f d => (assoc ownL f []).any (Nat.beq d) }
end Go.Ab

/- Equations of functions: each rule reduces to a plain formula, by the kernel. -/
set_option linter.unusedVariables false
namespace Go.Ab
open Go.Proofs
/- timebound/timeboundmake.New -/
theorem E15 (n : Nat) (d0 : D) (Q : List D → Prop) : wpF Try.prog A (n + 1) 15 [d0] Q =
 (Q [(D.agg [d0, (D.int (0 : Int))])]) := by kernel_rfl

/- timebound/timeboundmake.Mod -/
theorem E31 (n : Nat) (d0 d1 : D) (Q : List D → Prop) : wpF Try.prog A (n + 1) 31 [d0, d1] Q =
 ((D.i d1) ≠ (0 : Int) ∧ ((D.i d1) ≠ (0 : Int) ∧ (Q [(D.int (Int.tmod (IntKind.wrap .i64 ((Int.tmod (D.i d0) (D.i d1)) + (D.i d1))) (D.i d1)))]))) := by kernel_rfl

/- (*timebound/timeboundmake.Deck).Next -/
theorem E18 (n : Nat) (d0 d1 : D) (Q : List D → Prop) : wpF Try.prog A (n + 1) 18 [d0, d1] Q =
 (cond (iLe (D.len (D.fld d0 0)) (D.i (D.fld d0 1)))
 (Q [(D.int (0 : Int)), d0])
 (cond (iLe (D.i d1) (1 : Int))
 (Q [(D.int (0 : Int)), d0])
 (True ∧ ((0 ≤ (IntKind.wrap .i64 ((IntKind.wrap .i64 ((D.i (D.fld d0 1)) + (1 : Int))) - (1 : Int))) ∧ (IntKind.wrap .i64 ((IntKind.wrap .i64 ((D.i (D.fld d0 1)) + (1 : Int))) - (1 : Int))) < (D.len (D.fld d0 0))) ∧ (wpF Try.prog A n 31 [(D.el (D.fld d0 0) (IntKind.wrap .i64 ((IntKind.wrap .i64 ((D.i (D.fld d0 1)) + (1 : Int))) - (1 : Int)))), d1] fun r1 =>
 (Q [(rs r1 0), (D.agg [(D.fld d0 0), (D.int (IntKind.wrap .i64 ((D.i (D.fld d0 1)) + (1 : Int))))])])))))) := by kernel_rfl

/- timebound/timeboundmake.Cache -/
theorem E65 (n : Nat) (d0 : D) (Q : List D → Prop) : wpF Try.prog A (n + 1) 65 [d0] Q =
 (wpF Try.prog A n 18 [d0, (D.int (5 : Int))] fun r1 =>
 (wpF Try.prog A n 18 [(rs r1 1), (D.int (3 : Int))] fun r2 =>
 (wpF Try.prog A n 18 [(rs r2 1), (D.int (4 : Int))] fun r3 =>
 (True ∧ (Q [(D.agg [(rs r1 0), (D.int (IntKind.wrap .i64 ((1 : Int) + (D.i (rs r2 0))))), (D.int (IntKind.wrap .i64 ((1 : Int) + (D.i (rs r3 0)))))]), (rs r3 1)]))))) := by kernel_rfl

/- timebound/timeboundmake2.Cache -/
theorem E16 (n : Nat) (d0 : D) (Q : List D → Prop) : wpF Try.prog A (n + 1) 16 [d0] Q =
 (wpF Try.prog A n 65 [d0] fun r1 =>
 (True ∧ (Q [(rs r1 0), (rs r1 1)]))) := by kernel_rfl

/- timebound/cache.between -/
theorem E109 (n : Nat) (d0 d1 d2 : D) (Q : List D → Prop) : wpF Try.prog A (n + 1) 109 [d0, d1, d2] Q =
 (cond (iLe (D.i d1) (D.i d0))
 (Q [(D.bool (iLe (D.i d0) (D.i d2)))])
 (Q [(D.bool false)])) := by kernel_rfl

/- timebound/cache.Check -/
theorem E66 (n : Nat) (d0 : D) (Q : List D → Prop) : wpF Try.prog A (n + 1) 66 [d0] Q =
 (wpF Try.prog A n 109 [(D.fld d0 0), (D.int (0 : Int)), (D.int (8 : Int))] fun r1 =>
 (cond (!(D.b (rs r1 0)))
 (Q [(D.int (3 : Int))])
 (wpF Try.prog A n 109 [(D.fld d0 1), (D.int (1 : Int)), (D.int (4 : Int))] fun r2 =>
 (cond (!(D.b (rs r2 0)))
 (Q [(D.int (3 : Int))])
 (wpF Try.prog A n 109 [(D.fld d0 2), (D.int (1 : Int)), (D.int (8 : Int))] fun r3 =>
 (cond (!(D.b (rs r3 0)))
 (Q [(D.int (3 : Int))])
 (Q [(D.int (0 : Int))]))))))) := by kernel_rfl
end Go.Ab

/- The deck of a law: numbers that are taken one after the other; the cache that it makes. -/
namespace Go.Ab
open Go.Proofs

/-- A deck at some place. -/
def Dk (d : D) : Prop := ∃ (l : List Int) (a : Int), d = deck l a ∧ 0 ≤ a ∧ a ≤ l.length ∧ l.length ≤ 2000000

theorem mod_wp {n : Nat} (hn : 1 ≤ n) {x k : Int} {Q : List D → Prop} (hk : 1 ≤ k) (hk2 : k ≤ 4000000000000) (h : 0 ≤ Int.tmod (Int.tmod x k + k) k → Int.tmod (Int.tmod x k + k) k < k → Q [.int (Int.tmod (Int.tmod x k + k) k)]) :
    wpF Try.prog A n 31 [.int x, .int k] Q := by
  obtain ⟨m, rfl⟩ : ∃ m, n = m + 1 := ⟨n - 1, by omega⟩
  rw [E31]
  simp only [i_int]
  have h1 : -k < Int.tmod x k := Int.lt_tmod_of_pos x (by omega)
  have h2 : Int.tmod x k < k := Int.tmod_lt_of_pos x (by omega)
  rw [wrap_id (by omega) (by omega)]
  exact ⟨by omega, by omega, h (Int.tmod_nonneg _ (by omega)) (Int.tmod_lt_of_pos _ (by omega))⟩

theorem next_wp {n : Nat} (hn : 2 ≤ n) {d : D} {k : Int} {Q : List D → Prop} (hd : Dk d) (hk : 1 ≤ k) (hk2 : k ≤ 4000000000000) (h : ∀ v d', 0 ≤ v → v < k → Dk d' → Q [.int v, d']) :
    wpF Try.prog A n 18 [d, .int k] Q := by
  obtain ⟨l, a, rfl, h1, h2, h3⟩ := hd
  obtain ⟨m, rfl⟩ : ∃ m, n = m + 1 := ⟨n - 1, by omega⟩
  rw [E18]
  simp only [deck, fld0, fldS, i_int, len_lst]
  have hdk : Dk (deck l a) := ⟨l, a, rfl, h1, h2, h3⟩
  refine cLe (fun c => ?_) fun c => ?_
  · exact h 0 _ (by omega) (by omega) hdk
  · refine cLe (fun c2 => ?_) fun c2 => ?_
    · exact h 0 _ (by omega) (by omega) hdk
    · simp (disch := omega) only [wrap_id]
      rw [show a + 1 - 1 = a by omega]
      obtain ⟨b, rfl⟩ : ∃ b : Nat, a = (b : Int) := ⟨a.toNat, by omega⟩
      rw [el_lst l b (by omega)]
      refine ⟨trivial, by omega, mod_wp (by omega) hk hk2 fun h4 h5 => ?_⟩
      exact h _ _ h4 h5 ⟨l, _, rfl, by omega, by omega, h3⟩

theorem new_wp {n : Nat} (hn : 1 ≤ n) {l : List Int} {Q : List D → Prop} (hl : l.length ≤ 2000000) (h : ∀ d, Dk d → Q [d]) : wpF Try.prog A n 15 [lst l] Q := by
  obtain ⟨m, rfl⟩ : ∃ m, n = m + 1 := ⟨n - 1, by omega⟩
  rw [E15]
  exact h _ ⟨l, 0, rfl, by omega, by omega, hl⟩

/-- A cache. -/
def cch (s w b : Int) : D := .agg [.int s, .int w, .int b]

theorem mcache_wp {n : Nat} (hn : 3 ≤ n) {d : D} {Q : List D → Prop} (hd : Dk d)
    (h : ∀ s w b d', 0 ≤ s → s ≤ 4 → 1 ≤ w → w ≤ 3 → 1 ≤ b → b ≤ 4 → Dk d' → Q [cch s w b, d']) : wpF Try.prog A n 65 [d] Q := by
  obtain ⟨m, rfl⟩ : ∃ m, n = m + 1 := ⟨n - 1, by omega⟩
  rw [E65]
  refine next_wp (by omega) hd (by omega) (by omega) fun v1 d1 h1 h1' hd1 => ?_
  simp only [rs0, rsS]
  refine next_wp (by omega) hd1 (by omega) (by omega) fun v2 d2 h2 h2' hd2 => ?_
  simp only [rs0, rsS]
  refine next_wp (by omega) hd2 (by omega) (by omega) fun v3 d3 h3 h3' hd3 => ?_
  simp only [rs0, rsS, i_int]
  simp (disch := omega) only [wrap_id]
  exact ⟨trivial, h _ _ _ _ h1 (by omega) (by omega) (by omega) (by omega) (by omega) hd3⟩

theorem cache_wp {n : Nat} (hn : 4 ≤ n) {d : D} {Q : List D → Prop} (hd : Dk d)
    (h : ∀ s w b d', 0 ≤ s → s ≤ 4 → 1 ≤ w → w ≤ 3 → 1 ≤ b → b ≤ 4 → Dk d' → Q [cch s w b, d']) : wpF Try.prog A n 16 [d] Q := by
  obtain ⟨m, rfl⟩ : ∃ m, n = m + 1 := ⟨n - 1, by omega⟩
  rw [E16]
  refine mcache_wp (by omega) hd fun s w b d' h1 h2 h3 h4 h5 h6 hd' => ?_
  simp only [rs0, rsS]
  exact ⟨trivial, h _ _ _ _ h1 h2 h3 h4 h5 h6 hd'⟩

end Go.Ab
