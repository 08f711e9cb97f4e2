/- Equations and plain laws of the functions that the statement reaches, part 3. Conditions: those in each theorem. -/
import Derived.Test.YtdbahkmnhodhmaaProg
import Derived.Test.YtdbahkmnhodhmaaPart2
import Derived.KernelRfl
set_option linter.unusedVariables false
set_option linter.unusedSimpArgs false
/- What is known ahead of each function: which memory is owned, lent, read. -/
set_option linter.unusedVariables false
namespace Go.Ab
open Go.Proofs
def sigL : List (Nat × Sig) := [(3, ⟨[.imm 22], [.val 4 .imm]⟩),
  (4, ⟨[.imm 22], [.val 4 .imm]⟩),
  (5, ⟨[.imm 35, .imm 22, .imm 3, .imm 3, .imm 3], [.val 4 .imm]⟩),
  (6, ⟨[.imm 22], [.val 4 .imm]⟩),
  (7, ⟨[.imm 51, .imm 22, .imm 22, .imm 3, .imm 3, .imm 3], [.val 4 .imm]⟩),
  (8, ⟨[.imm 22, .imm 3, .imm 3, .imm 3], [.val 4 .imm]⟩),
  (9, ⟨[.imm 22], [.val 4 .imm]⟩),
  (10, ⟨[.imm 78, .imm 82, .imm 22], [.val 4 .imm]⟩),
  (11, ⟨[.imm 22], [.val 4 .imm]⟩),
  (12, ⟨[.imm 22], [.val 4 .imm]⟩),
  (13, ⟨[.imm 78, .imm 22, .imm 3], [.val 4 .imm]⟩),
  (14, ⟨[.imm 22], [.val 4 .imm]⟩),
  (15, ⟨[.imm 22], [.box 110 .imm]⟩),
  (16, ⟨[.lent 110 .imm], [.val 26 .imm]⟩),
  (17, ⟨[.lent 110 .imm, .imm 26], [.val 28 (.slc (.slc .imm none) none)]⟩),
  (18, ⟨[.lent 110 .imm, .imm 3], [.val 3 .imm]⟩),
  (19, ⟨[.imm 26, .imm 28, .imm 30], [.val 3 .imm]⟩),
  (20, ⟨[.imm 26, .imm 28, .imm 30], [.val 3 .imm]⟩),
  (21, ⟨[], [.val 4 .imm]⟩),
  (22, ⟨[], [.val 4 .imm]⟩),
  (23, ⟨[.lent 110 .imm, .imm 3], [.val 35 (.slc .imm none)]⟩),
  (24, ⟨[.imm 35, .imm 3, .imm 3], [.val 35 (.slc .imm none)]⟩),
  (25, ⟨[.imm 35], [.val 4 .imm]⟩),
  (26, ⟨[.imm 35], [.val 4 .imm]⟩),
  (27, ⟨[.imm 35, .imm 3, .imm 3], [.val 4 .imm]⟩),
  (28, ⟨[.imm 35, .imm 3, .imm 3], [.val 4 .imm]⟩),
  (29, ⟨[.imm 35, .imm 3], [.val 3 .imm, .val 4 .imm]⟩),
  (30, ⟨[.imm 35, .imm 3], [.val 3 .imm, .val 4 .imm]⟩),
  (31, ⟨[.imm 3, .imm 3], [.val 3 .imm]⟩),
  (32, ⟨[.imm 35, .imm 3, .imm 3], [.val 3 .imm]⟩),
  (33, ⟨[.imm 35, .imm 3, .imm 3], [.val 3 .imm]⟩),
  (34, ⟨[], [.val 4 .imm]⟩),
  (35, ⟨[.lent 110 .imm], [.val 51 (.slc .imm none)]⟩),
  (36, ⟨[.imm 51, .imm 3, .imm 3], [.val 51 (.slc .imm none)]⟩),
  (37, ⟨[.imm 51], [.val 4 .imm]⟩),
  (38, ⟨[.imm 51], [.val 4 .imm]⟩),
  (39, ⟨[.imm 51, .imm 3], [.val 22 (.slc .imm none), .val 56 .imm]⟩),
  (40, ⟨[.imm 51, .imm 3], [.val 22 (.slc .imm none), .val 56 .imm]⟩),
  (41, ⟨[.imm 22, .imm 22], [.val 4 .imm]⟩),
  (42, ⟨[.imm 51, .imm 22], [.val 3 .imm, .val 3 .imm, .val 4 .imm]⟩),
  (43, ⟨[.imm 51, .imm 22], [.val 3 .imm, .val 3 .imm, .val 4 .imm]⟩),
  (44, ⟨[.lent 110 .imm], [.val 67 .imm]⟩),
  (45, ⟨[.imm 67, .imm 51, .imm 22], [.val 67 .imm, .val 56 .imm]⟩),
  (46, ⟨[.imm 65, .imm 3], [.val 4 .imm]⟩),
  (47, ⟨[], [.val 4 .imm]⟩),
  (48, ⟨[.lent 110 .imm], [.val 82 .imm, .val 22 .imm]⟩),
  (49, ⟨[.lent 110 .imm, .imm 82, .imm 3], [.val 78 .imm]⟩),
  (50, ⟨[.lent 110 .imm, .imm 78], [.val 78 .imm]⟩),
  (51, ⟨[.imm 82, .imm 78], [.val 4 .imm]⟩),
  (52, ⟨[.imm 82, .imm 78], [.val 4 .imm]⟩),
  (53, ⟨[.imm 82, .imm 78], [.val 56 .imm]⟩),
  (54, ⟨[.imm 82, .imm 78], [.val 56 .imm]⟩),
  (55, ⟨[.imm 78], [.val 3 .imm]⟩),
  (56, ⟨[.imm 78], [.val 3 .imm]⟩),
  (57, ⟨[.imm 82, .imm 22], [.val 3 .imm, .val 4 .imm]⟩),
  (58, ⟨[.imm 82], [.val 94 .imm]⟩),
  (59, ⟨[.imm 82, .imm 79, .imm 94], [.val 3 .imm, .val 4 .imm, .val 4 .imm]⟩),
  (60, ⟨[.lent 110 .imm, .imm 3], [.val 80 (.slc .imm none)]⟩),
  (61, ⟨[.imm 82, .imm 80, .imm 3, .imm 78, .imm 78], [.val 78 .imm, .val 56 .imm]⟩),
  (62, ⟨[.imm 82, .imm 80, .imm 3, .imm 78, .imm 78], [.val 78 .imm, .val 56 .imm]⟩),
  (63, ⟨[.imm 78, .imm 78], [.val 4 .imm]⟩),
  (64, ⟨[.imm 80, .imm 3], [.val 100 .imm, .val 100 (.agg [(0, (.slc .imm none))])]⟩),
  (65, ⟨[.lent 110 .imm], [.val 26 .imm]⟩),
  (66, ⟨[.imm 26], [.val 56 .imm]⟩),
  (67, ⟨[.imm 30, .imm 113], [.val 4 .imm]⟩),
  (68, ⟨[.imm 28, .iptr 26], [.val 4 .imm]⟩),
  (69, ⟨[.imm 67], [.val 3 .imm]⟩),
  (70, ⟨[], [.val 35 (.slc .imm none)]⟩),
  (71, ⟨[.imm 35, .imm 121], [.val 4 .imm]⟩),
  (72, ⟨[.imm 48], [.val 4 .imm]⟩),
  (73, ⟨[.imm 3, .imm 3, .imm 3], [.val 4 .imm]⟩),
  (74, ⟨[.imm 46, .imm 120], [.val 4 .imm]⟩),
  (75, ⟨[.imm 50], [.val 4 .imm]⟩),
  (76, ⟨[.imm 3, .imm 3, .imm 3], [.val 4 .imm]⟩),
  (77, ⟨[.imm 50, .iptr 3], [.val 4 .imm]⟩),
  (78, ⟨[.imm 48, .imm 3], [.val 4 .imm]⟩),
  (79, ⟨[], [.val 51 (.slc .imm none)]⟩),
  (80, ⟨[.imm 75], [.val 4 .imm]⟩),
  (81, ⟨[.imm 51, .imm 125], [.val 4 .imm]⟩),
  (82, ⟨[.imm 75, .iptr 75], [.val 4 .imm]⟩),
  (83, ⟨[.imm 22, .imm 22], [.val 3 .imm]⟩),
  (84, ⟨[.imm 22, .imm 22], [.val 4 .imm]⟩),
  (85, ⟨[.imm 3, .imm 22], [.val 4 .imm]⟩),
  (86, ⟨[.imm 67], [.val 56 .imm]⟩),
  (87, ⟨[.imm 65], [.val 65 (.slc .imm none)]⟩),
  (88, ⟨[], [.val 82 .imm, .val 78 (.agg [(0, (.slc (.agg [(4, (.slc .imm none))]) none))])]⟩),
  (89, ⟨[.lent 110 .imm, .imm 3], [.val 82 .imm]⟩),
  (90, ⟨[.lent 110 .imm, .imm 82], [.val 22 (.slc .imm none)]⟩),
  (91, ⟨[.imm 82, .imm 22], [.val 82 .imm, .val 56 .imm]⟩),
  (92, ⟨[.imm 82], [.val 4 .imm]⟩),
  (93, ⟨[.imm 94], [.val 143 .imm]⟩),
  (94, ⟨[.imm 141, .imm 4], [.val 4 .imm]⟩),
  (95, ⟨[.imm 94], [.val 4 .imm]⟩),
  (96, ⟨[.imm 82, .imm 80, .imm 3], [.val 4 .imm]⟩),
  (97, ⟨[.imm 78], [.val 151 (.slc .imm none)]⟩),
  (98, ⟨[.imm 151, .imm 154], [.val 4 .imm]⟩),
  (99, ⟨[.imm 79, .iptr 82], [.val 4 .imm]⟩),
  (100, ⟨[.imm 94], [.val 4 .imm]⟩),
  (101, ⟨[.imm 82, .imm 79, .imm 94], [.val 3 .imm, .val 4 .imm, .val 4 .imm]⟩),
  (102, ⟨[.imm 82], [.val 4 .imm]⟩),
  (103, ⟨[.imm 80, .imm 3], [.val 3 .imm]⟩),
  (104, ⟨[.imm 82, .imm 80, .imm 3], [.val 4 .imm]⟩),
  (105, ⟨[.imm 80], [.val 80 (.slc .imm none)]⟩),
  (106, ⟨[.imm 82, .imm 76, .imm 3], [.val 76 (.slc .imm none)]⟩),
  (107, ⟨[.imm 76, .imm 3, .imm 3], [.val 76 (.slc .imm none)]⟩),
  (108, ⟨[.imm 80, .imm 80], [.val 4 .imm]⟩),
  (109, ⟨[.imm 3, .imm 3, .imm 3], [.val 4 .imm]⟩),
  (110, ⟨[.imm 30, .imm 113], [.val 3 .imm]⟩),
  (111, ⟨[.imm 35, .imm 121], [.val 3 .imm]⟩),
  (112, ⟨[.imm 46, .imm 120], [.val 3 .imm]⟩),
  (113, ⟨[.imm 51, .imm 125], [.val 3 .imm]⟩),
  (114, ⟨[.imm 3, .imm 3], [.val 3 .imm]⟩),
  (115, ⟨[.imm 3, .imm 3, .imm 3], [.val 4 .imm]⟩),
  (116, ⟨[.imm 65, .imm 3], [.val 4 .imm]⟩),
  (117, ⟨[.imm 82], [.val 4 .imm]⟩),
  (118, ⟨[.imm 82, .imm 3, .imm 3, .imm 3, .imm 3, .imm 3, .imm 3], [.val 4 .imm]⟩),
  (119, ⟨[.imm 141, .imm 4], [.val 3 .imm]⟩),
  (120, ⟨[.imm 100, .imm 3], [.val 4 .imm]⟩),
  (121, ⟨[.imm 94], [.val 100 .imm, .val 100 .imm]⟩),
  (122, ⟨[.imm 79], [.val 79 (.slc .imm none)]⟩),
  (123, ⟨[.imm 151, .imm 154], [.val 3 .imm]⟩),
  (124, ⟨[.imm 82, .imm 79, .imm 80], [.val 22 (.slc .imm none), .val 3 .imm, .val 4 .imm]⟩),
  (125, ⟨[.imm 80, .imm 3, .imm 3], [.val 4 .imm]⟩),
  (126, ⟨[.imm 22, .imm 175], [.val 4 .imm]⟩),
  (127, ⟨[.imm 3], [.val 4 .imm]⟩),
  (128, ⟨[.imm 3, .imm 3], [.val 3 .imm]⟩),
  (129, ⟨[.imm 80, .imm 3, .imm 3], [.val 4 .imm]⟩),
  (130, ⟨[.imm 3], [.val 4 .imm]⟩),
  (131, ⟨[.imm 65, .imm 177], [.val 4 .imm]⟩),
  (132, ⟨[.imm 73, .iptr 3], [.val 4 .imm]⟩),
  (133, ⟨[.imm 3, .imm 3], [.val 4 .imm]⟩),
  (134, ⟨[.imm 79, .imm 180], [.val 4 .imm]⟩),
  (135, ⟨[.imm 100, .iptr 82, .iptr 3, .iptr 3], [.val 4 .imm]⟩),
  (136, ⟨[.imm 22, .imm 175], [.val 3 .imm]⟩),
  (137, ⟨[.imm 65, .imm 177], [.val 3 .imm]⟩),
  (138, ⟨[.imm 79, .imm 180], [.val 3 .imm]⟩),
  (155, ⟨[.imm 146, .imm 82, .imm 3], [.val 4 .imm]⟩),
  (156, ⟨[.imm 80], [.val 4 .imm]⟩),
  (157, ⟨[.imm 147, .imm 82, .imm 3], [.val 4 .imm]⟩)]
def cmdL : List (Nat × List (Nat × List Cmd)) := [(12, [(6, [.frz 10 []])]),
  (14, [(6, [.frz 9 []])]),
  (23, [(10, [.frz 6 []])]),
  (44, [(8, [.frz 3 []])]),
  (45, [(15, [.frz 3 []])]),
  (47, [(2, [.frz 2 []])]),
  (49, [(10, [.frz 7 []])]),
  (50, [(3, [.frz 3 []]), (22, [.frz 3 [.fld 0]]), (25, [.frz 3 []])]),
  (51, [(23, [.frz 31 []])]),
  (52, [(20, [.frz 25 []])]),
  (54, [(13, [.frz 25 [.idx 0]]), (14, [.frz 9 []])]),
  (58, [(8, [.frz 3 []])]),
  (61, [(8, [.weak 12 (.agg [(0, (.slc .imm none))])]), (10, [.frz 12 []])]),
  (62, [(9, [.weak 13 (.agg [(0, (.slc .imm none))])]), (11, [.frz 13 []])]),
  (70, [(2, [.frz 1 []]), (4, [.frz 2 []])]),
  (88, [(2, [.frz 2 []])]),
  (89, [(14, [.frz 7 [], .weak 5 (.agg [(1, (.slc .imm none)), (2, (.slc .imm none))])]), (15, [.frz 5 []])]),
  (91, [(16, [.frz 6 []])]),
  (97, [(7, [.frz 11 [.idx 0]])]),
  (106, [(14, [.frz 9 []])]),
  (107, [(17, [.frz 9 []])]),
  (121, [(8, [.frz 3 []])])]
def loopL : List (Nat × List (Nat × (List Cmd × List Nat × List Nat))) := [(3, [(6, ([.thaw 6 (.slc (.slc .imm none) none), .home 6], [3, 4, 5, 6, 7], [4, 6, 9, 14]))]),
  (4, [(6, ([], [3, 4, 5, 6, 7, 20, 21], [4, 10, 15, 18]))]),
  (5, [(6, ([], [4, 12, 40, 41, 42], [33, 40])), (11, ([], [4, 12, 14, 15, 40, 41, 42], [33, 40])), (14, ([], [4, 12, 14, 15, 16, 40, 41, 42], [33, 40])), (19, ([], [4, 12, 14, 17, 40, 41, 42], [33, 40])), (27, ([], [4, 12, 98, 99], [33]))]),
  (6, [(7, ([], [4, 5, 43, 44], [18, 20])), (12, ([], [4, 5, 7, 8, 9, 10, 43, 44, 54, 55], [18, 20]))]),
  (7, [(6, ([], [1, 3, 13, 50, 51, 52], [41, 50])), (11, ([], [1, 3, 13, 16, 50, 51, 52, 67, 68, 69], [41, 50, 67])), (19, ([], [1, 3, 13, 16, 50, 51, 52, 101, 102, 103], [41, 50, 101]))]),
  (8, [(12, ([.thaw 22 .imm, .home 22], [3, 10, 11, 16, 22, 87, 88], [22, 30]))]),
  (9, [(5, ([.thaw 6 .imm, .home 6], [3, 4, 5, 6, 23, 24], [5, 6, 17, 19])), (14, ([], [4, 5, 6, 8, 49], [5, 6, 8, 19])), (18, ([], [4, 5, 6, 8, 10, 11, 12, 49, 60, 61, 62], [5, 6, 8, 19]))]),
  (10, [(7, ([], [4, 8, 44, 45, 46], [4, 8, 44]))]),
  (11, [(9, ([], [4, 5, 6, 7], [4, 6, 34])), (13, ([], [4, 5, 6, 7, 10], [4, 6, 34]))]),
  (13, [(10, ([.weak 52 .imm], [2, 7, 8, 12, 62, 63, 64], [8, 27, 52, 62])), (13, ([.weak 52 .imm], [2, 7, 8, 12, 14, 62, 63, 64, 72, 73, 74], [8, 14, 27, 52, 62, 72]))]),
  (17, [(3, ([], [0, 3, 5, 6], [0, 3, 14]))]),
  (19, [(5, ([], [2, 3, 7, 31, 32, 33], [3])), (10, ([], [2, 3, 7, 8, 10, 31, 32, 33, 42, 43, 44], [3, 41])), (13, ([], [2, 3, 7, 8, 10, 31, 32, 33, 42, 43, 44, 51, 52, 53], [3, 41])), (20, ([], [2, 3, 7, 15, 31, 32, 33, 62], [3, 41, 62]))]),
  (20, [(5, ([], [1, 2, 3, 7, 20, 21], [3])), (9, ([], [1, 2, 3, 7, 8, 9, 20, 21, 25, 26, 27], [3, 24])), (14, ([], [1, 2, 3, 7, 8, 9, 20, 21, 25, 26, 27, 39, 40, 41], [3, 24]))]),
  (23, [(3, ([.thaw 5 .imm, .home 5], [0, 5, 8, 9], [0, 5])), (7, ([], [0, 5, 6, 7, 8, 9], [0, 5, 6]))]),
  (26, [(2, ([], [0, 7, 8, 9], [])), (7, ([], [0, 7, 8, 9, 52, 53, 54], []))]),
  (29, [(3, ([], [0, 3, 6, 7, 10, 11, 12], [3]))]),
  (30, [(3, ([], [0, 1, 6, 7, 10, 11, 12], []))]),
  (32, [(3, ([], [0, 1, 2, 7, 14, 15, 16], [])), (8, ([], [0, 1, 2, 7, 14, 15, 16, 30, 31, 32], []))]),
  (33, [(3, ([], [0, 1, 2, 7, 14, 15, 16], [])), (8, ([], [0, 1, 2, 7, 14, 15, 16, 30, 31, 32], []))]),
  (35, [(4, ([.thaw 3 .imm, .home 3], [0, 3, 4, 5], [0, 3, 4]))]),
  (37, [(2, ([], [0, 5, 6, 7], []))]),
  (38, [(2, ([], [0, 8, 9, 10], [])), (10, ([], [0, 4, 8, 9, 10, 61, 62, 63], [4]))]),
  (39, [(8, ([.thaw 6 .imm, .home 6], [0, 1, 6, 7, 8, 26, 27], [6])), (12, ([.thaw 10 .imm, .home 10], [0, 1, 6, 7, 8, 9, 10, 26, 27, 31, 32], [6, 10]))]),
  (40, [(8, ([.thaw 6 .imm, .home 6], [0, 1, 6, 7, 8, 9], [6])), (12, ([.thaw 10 .imm, .home 10], [0, 1, 6, 7, 8, 9, 10, 33, 34], [6, 10]))]),
  (41, [(4, ([], [0, 1, 5], []))]),
  (42, [(5, ([], [0, 7, 8, 21, 22, 23], []))]),
  (43, [(5, ([], [0, 1, 7, 8, 14, 15, 16], []))]),
  (45, [(7, ([], [1, 3, 6, 33, 34, 35], [3, 6]))]),
  (46, [(2, ([], [0, 1, 5], []))]),
  (51, [(5, ([], [2, 3, 5, 33, 34, 35], [2, 3, 31])), (16, ([], [2, 3, 5, 33, 34, 35, 58, 59, 60], [2, 3, 31, 58]))]),
  (52, [(5, ([], [2, 3, 5, 27, 28, 29], [2, 3, 25])), (13, ([], [2, 3, 5, 6, 27, 28, 29, 69, 70, 71], [2, 3, 25, 69])), (21, ([], [97, 98, 99], []))]),
  (53, [(9, ([], [2, 3, 5, 24, 25, 26], [2, 3, 19]))]),
  (54, [(7, ([.weak 25 (.slc .imm none)], [2, 3, 5, 27, 28, 29], [2, 3, 25])), (17, ([], [2, 3, 5, 81, 82, 83], [2, 3, 25]))]),
  (55, [(3, ([], [3, 7, 8, 9], []))]),
  (56, [(3, ([], [3, 7, 8, 9], []))]),
  (57, [(4, ([], [1, 2, 21, 22, 23], [2])), (10, ([], [1, 2, 35, 36, 37], [2])), (14, ([], [1, 2, 9, 10, 35, 36, 37, 42, 43, 44], [2, 9])), (23, ([], [1, 13, 67, 68, 69], []))]),
  (58, [(3, ([], [1, 2, 3, 8, 9, 10], [1, 2, 3]))]),
  (59, [(4, ([], [1, 3, 5, 9, 10, 23, 24, 25], [3, 5, 21])), (13, ([], [1, 3, 5, 9, 10, 12, 13, 23, 24, 25, 67, 68, 69], [3, 5, 12, 13, 21])), (20, ([], [3, 5, 10, 94, 95, 96], [3, 5, 21]))]),
  (60, [(3, ([.thaw 5 .imm, .home 5], [0, 1, 5, 6], [0, 5]))]),
  (63, [(4, ([], [3, 23, 24, 25], [3]))]),
  (64, [(3, ([.thaw 6 .imm, .home 6], [0, 1, 4, 5, 6, 9, 10, 11], [4, 5, 6]))]),
  (78, [(2, ([], [1, 8, 9, 10], []))]),
  (83, [(2, ([], [0, 1, 9, 10, 11], []))]),
  (84, [(2, ([], [0, 1, 7, 8], []))]),
  (85, [(2, ([], [0, 1, 7, 8, 9], []))]),
  (86, [(8, ([], [1, 31, 32, 33], [1, 31]))]),
  (89, [(4, ([.weak 5 (.agg [(1, (.slc .imm none)), (2, (.slc .imm none))])], [0, 4, 5, 6], [0, 4, 5])), (9, ([], [0, 4, 5, 6, 7, 41, 42], [0, 4, 5, 7]))]),
  (90, [(3, ([.thaw 5 .imm, .home 5], [0, 5, 7, 8], [0, 5]))]),
  (91, [(5, ([], [1, 4, 6, 36, 37, 38], [4, 6])), (10, ([], [4, 6, 54, 55, 56], [4, 6]))]),
  (95, [(2, ([], [1, 6, 7, 8], [1]))]),
  (97, [(3, ([.weak 11 (.slc .imm none)], [3, 13, 14, 15], [11]))]),
  (101, [(5, ([], [3, 5, 9, 10, 39, 40, 41], [3, 5, 20]))]),
  (102, [(2, ([], [1, 6, 7, 8], [1]))]),
  (103, [(2, ([], [1, 7, 8, 9], []))]),
  (106, [(3, ([.thaw 7 .imm, .home 7], [2, 3, 7, 11, 12, 13], [3, 7])), (8, ([], [2, 3, 7, 9, 11, 12, 13, 29, 30], [3, 7, 9]))]),
  (107, [(3, ([.thaw 7 .imm, .home 7], [1, 2, 7, 13, 14, 15], [7])), (10, ([.thaw 10 .imm, .home 10], [1, 2, 7, 9, 10, 13, 14, 15, 37, 38, 39], [7, 9, 10]))]),
  (108, [(4, ([], [0, 1, 12, 13], []))]),
  (110, [(2, ([], [0, 1, 7, 8], []))]),
  (111, [(2, ([], [0, 1, 7, 8], []))]),
  (112, [(2, ([], [0, 1, 7, 8], []))]),
  (113, [(2, ([], [0, 1, 7, 8], []))]),
  (117, [(4, ([], [1, 38, 39, 40], [1]))]),
  (119, [(2, ([], [0, 1, 7, 8], []))]),
  (121, [(4, ([], [2, 3, 17, 18, 19], [2, 3]))]),
  (123, [(2, ([], [0, 1, 7, 8], []))]),
  (124, [(3, ([], [1, 3, 9, 10, 20, 21, 22], [3, 19])), (13, ([], [1, 3, 9, 10, 12, 20, 21, 22, 79, 80, 81], [3, 12, 19]))]),
  (125, [(2, ([], [0, 1, 2, 9, 10, 11], []))]),
  (129, [(2, ([], [0, 1, 2, 9, 10, 11], []))]),
  (136, [(2, ([], [0, 1, 7, 8], []))]),
  (137, [(2, ([], [0, 1, 7, 8], []))]),
  (138, [(2, ([], [0, 1, 7, 8], []))]),
  (156, [(2, ([], [0, 5, 6, 7], []))])]
def ownL : List (Nat × List Nat) := [(23, [22]), (58, [6]), (89, [16, 35]), (91, [26, 34, 49, 67, 74])]
def A : Ann :=
  { sig := fun f => assoc sigL f ⟨[], []⟩, cmd := fun f r => assoc (assoc cmdL f []) r [], loop := fun f r => assoc (assoc loopL f []) r ([], [], []), own := fun f d => (assoc ownL f []).any (Nat.beq d) }
end Go.Ab

/- Equations of functions: each rule reduces to a plain formula, by the kernel. -/
set_option linter.unusedVariables false
namespace Go.Ab
open Go.Proofs
/- timebound/timeboundmake.New -/
theorem E15 (n : Nat) (d0 : D) (Q : List D → Prop) : wpF Try.prog A (n + 1) 15 [d0] Q =
 (Q [(D.agg [d0, (D.int (0 : Int))])]) := by kernel_rfl

/- timebound/timeboundmake.Mod -/
theorem E31 (n : Nat) (d0 d1 : D) (Q : List D → Prop) : wpF Try.prog A (n + 1) 31 [d0, d1] Q =
 ((D.i d1) ≠ (0 : Int) ∧ ((D.i d1) ≠ (0 : Int) ∧ (Q [(D.int (Int.tmod (IntKind.wrap .i64 ((Int.tmod (D.i d0) (D.i d1)) + (D.i d1))) (D.i d1)))]))) := by kernel_rfl

/- (*timebound/timeboundmake.Deck).Next -/
theorem E18 (n : Nat) (d0 d1 : D) (Q : List D → Prop) : wpF Try.prog A (n + 1) 18 [d0, d1] Q =
 (cond (iLe (D.len (D.fld d0 0)) (D.i (D.fld d0 1)))
 (Q [(D.int (0 : Int)), d0])
 (cond (iLe (D.i d1) (1 : Int))
 (Q [(D.int (0 : Int)), d0])
 (True ∧ ((0 ≤ (IntKind.wrap .i64 ((IntKind.wrap .i64 ((D.i (D.fld d0 1)) + (1 : Int))) - (1 : Int))) ∧ (IntKind.wrap .i64 ((IntKind.wrap .i64 ((D.i (D.fld d0 1)) + (1 : Int))) - (1 : Int))) < (D.len (D.fld d0 0))) ∧ (wpF Try.prog A n 31 [(D.el (D.fld d0 0) (IntKind.wrap .i64 ((IntKind.wrap .i64 ((D.i (D.fld d0 1)) + (1 : Int))) - (1 : Int)))), d1] fun r1 =>
 (Q [(rs r1 0), (D.agg [(D.fld d0 0), (D.int (IntKind.wrap .i64 ((D.i (D.fld d0 1)) + (1 : Int))))])])))))) := by kernel_rfl

/- timebound/timeboundmake.Cache -/
theorem E65 (n : Nat) (d0 : D) (Q : List D → Prop) : wpF Try.prog A (n + 1) 65 [d0] Q =
 (wpF Try.prog A n 18 [d0, (D.int (5 : Int))] fun r1 =>
 (wpF Try.prog A n 18 [(rs r1 1), (D.int (3 : Int))] fun r2 =>
 (wpF Try.prog A n 18 [(rs r2 1), (D.int (4 : Int))] fun r3 =>
 (True ∧ (Q [(D.agg [(rs r1 0), (D.int (IntKind.wrap .i64 ((1 : Int) + (D.i (rs r2 0))))), (D.int (IntKind.wrap .i64 ((1 : Int) + (D.i (rs r3 0)))))]), (rs r3 1)]))))) := by kernel_rfl

/- timebound/timeboundmake2.Cache -/
theorem E16 (n : Nat) (d0 : D) (Q : List D → Prop) : wpF Try.prog A (n + 1) 16 [d0] Q =
 (wpF Try.prog A n 65 [d0] fun r1 =>
 (True ∧ (Q [(rs r1 0), (rs r1 1)]))) := by kernel_rfl

/- timebound/cache.between -/
theorem E109 (n : Nat) (d0 d1 d2 : D) (Q : List D → Prop) : wpF Try.prog A (n + 1) 109 [d0, d1, d2] Q =
 (cond (iLe (D.i d1) (D.i d0))
 (Q [(D.bool (iLe (D.i d0) (D.i d2)))])
 (Q [(D.bool false)])) := by kernel_rfl

/- timebound/cache.Check -/
theorem E66 (n : Nat) (d0 : D) (Q : List D → Prop) : wpF Try.prog A (n + 1) 66 [d0] Q =
 (wpF Try.prog A n 109 [(D.fld d0 0), (D.int (0 : Int)), (D.int (8 : Int))] fun r1 =>
 (cond (!(D.b (rs r1 0)))
 (Q [(D.int (3 : Int))])
 (wpF Try.prog A n 109 [(D.fld d0 1), (D.int (1 : Int)), (D.int (4 : Int))] fun r2 =>
 (cond (!(D.b (rs r2 0)))
 (Q [(D.int (3 : Int))])
 (wpF Try.prog A n 109 [(D.fld d0 2), (D.int (1 : Int)), (D.int (8 : Int))] fun r3 =>
 (cond (!(D.b (rs r3 0)))
 (Q [(D.int (3 : Int))])
 (Q [(D.int (0 : Int))]))))))) := by kernel_rfl
end Go.Ab

/- The deck of a law: numbers that are taken one after the other; the cache that it makes. -/
namespace Go.Ab
open Go.Proofs

/-- A deck at some place. -/
def Dk (d : D) : Prop := ∃ (l : List Int) (a : Int), d = deck l a ∧ 0 ≤ a ∧ a ≤ l.length ∧ l.length ≤ 2000000

theorem mod_wp {n : Nat} (hn : 1 ≤ n) {x k : Int} {Q : List D → Prop} (hk : 1 ≤ k) (hk2 : k ≤ 4000000000000) (h : 0 ≤ Int.tmod (Int.tmod x k + k) k → Int.tmod (Int.tmod x k + k) k < k → Q [.int (Int.tmod (Int.tmod x k + k) k)]) :
    wpF Try.prog A n 31 [.int x, .int k] Q := by
  obtain ⟨m, rfl⟩ : ∃ m, n = m + 1 := ⟨n - 1, by omega⟩
  rw [E31]
  simp only [i_int]
  have h1 : -k < Int.tmod x k := Int.lt_tmod_of_pos x (by omega)
  have h2 : Int.tmod x k < k := Int.tmod_lt_of_pos x (by omega)
  rw [wrap_id (by omega) (by omega)]
  exact ⟨by omega, by omega, h (Int.tmod_nonneg _ (by omega)) (Int.tmod_lt_of_pos _ (by omega))⟩

theorem next_wp {n : Nat} (hn : 2 ≤ n) {d : D} {k : Int} {Q : List D → Prop} (hd : Dk d) (hk : 1 ≤ k) (hk2 : k ≤ 4000000000000) (h : ∀ v d', 0 ≤ v → v < k → Dk d' → Q [.int v, d']) :
    wpF Try.prog A n 18 [d, .int k] Q := by
  obtain ⟨l, a, rfl, h1, h2, h3⟩ := hd
  obtain ⟨m, rfl⟩ : ∃ m, n = m + 1 := ⟨n - 1, by omega⟩
  rw [E18]
  simp only [deck, fld0, fldS, i_int, len_lst]
  have hdk : Dk (deck l a) := ⟨l, a, rfl, h1, h2, h3⟩
  refine cLe (fun c => ?_) fun c => ?_
  · exact h 0 _ (by omega) (by omega) hdk
  · refine cLe (fun c2 => ?_) fun c2 => ?_
    · exact h 0 _ (by omega) (by omega) hdk
    · simp (disch := omega) only [wrap_id]
      rw [show a + 1 - 1 = a by omega]
      obtain ⟨b, rfl⟩ : ∃ b : Nat, a = (b : Int) := ⟨a.toNat, by omega⟩
      rw [el_lst l b (by omega)]
      refine ⟨trivial, by omega, mod_wp (by omega) hk hk2 fun h4 h5 => ?_⟩
      exact h _ _ h4 h5 ⟨l, _, rfl, by omega, by omega, h3⟩

theorem new_wp {n : Nat} (hn : 1 ≤ n) {l : List Int} {Q : List D → Prop} (hl : l.length ≤ 2000000) (h : ∀ d, Dk d → Q [d]) : wpF Try.prog A n 15 [lst l] Q := by
  obtain ⟨m, rfl⟩ : ∃ m, n = m + 1 := ⟨n - 1, by omega⟩
  rw [E15]
  exact h _ ⟨l, 0, rfl, by omega, by omega, hl⟩

/-- A cache. -/
def cch (s w b : Int) : D := .agg [.int s, .int w, .int b]

theorem mcache_wp {n : Nat} (hn : 3 ≤ n) {d : D} {Q : List D → Prop} (hd : Dk d)
    (h : ∀ s w b d', 0 ≤ s → s ≤ 4 → 1 ≤ w → w ≤ 3 → 1 ≤ b → b ≤ 4 → Dk d' → Q [cch s w b, d']) : wpF Try.prog A n 65 [d] Q := by
  obtain ⟨m, rfl⟩ : ∃ m, n = m + 1 := ⟨n - 1, by omega⟩
  rw [E65]
  refine next_wp (by omega) hd (by omega) (by omega) fun v1 d1 h1 h1' hd1 => ?_
  simp only [rs0, rsS]
  refine next_wp (by omega) hd1 (by omega) (by omega) fun v2 d2 h2 h2' hd2 => ?_
  simp only [rs0, rsS]
  refine next_wp (by omega) hd2 (by omega) (by omega) fun v3 d3 h3 h3' hd3 => ?_
  simp only [rs0, rsS, i_int]
  simp (disch := omega) only [wrap_id]
  exact ⟨trivial, h _ _ _ _ h1 (by omega) (by omega) (by omega) (by omega) (by omega) hd3⟩

theorem cache_wp {n : Nat} (hn : 4 ≤ n) {d : D} {Q : List D → Prop} (hd : Dk d)
    (h : ∀ s w b d', 0 ≤ s → s ≤ 4 → 1 ≤ w → w ≤ 3 → 1 ≤ b → b ≤ 4 → Dk d' → Q [cch s w b, d']) : wpF Try.prog A n 16 [d] Q := by
  obtain ⟨m, rfl⟩ : ∃ m, n = m + 1 := ⟨n - 1, by omega⟩
  rw [E16]
  refine mcache_wp (by omega) hd fun s w b d' h1 h2 h3 h4 h5 h6 hd' => ?_
  simp only [rs0, rsS]
  exact ⟨trivial, h _ _ _ _ h1 h2 h3 h4 h5 h6 hd'⟩

end Go.Ab

/- Equations of functions: each rule reduces to a plain formula, by the kernel. -/
set_option linter.unusedVariables false
namespace Go.Ab
open Go.Proofs
/- timebound/timeboundlaw36.three -/
theorem E79 (n : Nat)  (Q : List D → Prop) : wpF Try.prog A (n + 1) 79 [] Q =
 (Q [(D.slc [(D.agg [(D.bool true), (D.agg [(D.int (0 : Int)), (D.int (3 : Int))]), (D.int (3 : Int)), (D.int (5 : Int))]), (D.agg [(D.bool true), (D.agg [(D.int (3 : Int)), (D.int (5 : Int))]), (D.int (2 : Int)), (D.int (3 : Int))]), (D.agg [(D.bool false), (D.agg [(D.int (0 : Int)), (D.int (2 : Int))]), (D.int (2 : Int)), (D.int (3 : Int))])])]) := by kernel_rfl

/- timebound/scratch.good -/
theorem E80 (n : Nat) (d0 : D) (Q : List D → Prop) : wpF Try.prog A (n + 1) 80 [d0] Q =
 (cond (D.b (D.fld d0 0))
 (cond (iLe (0 : Int) (D.i (D.fld (D.fld d0 1) 0)))
 (cond (iLt (D.i (D.fld (D.fld d0 1) 0)) (D.i (D.fld (D.fld d0 1) 1)))
 (cond (iLe (D.i (D.fld (D.fld d0 1) 1)) (1024 : Int))
 (cond (iEq (D.i (D.fld d0 2)) (IntKind.wrap .i64 ((D.i (D.fld (D.fld d0 1) 1)) - (D.i (D.fld (D.fld d0 1) 0)))))
 (cond (iLe (0 : Int) (D.i (D.fld d0 3)))
 (Q [(D.bool (iLe (D.i (D.fld d0 3)) (1099511627776 : Int)))])
 (Q [(D.bool false)]))
 (Q [(D.bool false)]))
 (Q [(D.bool false)]))
 (Q [(D.bool false)]))
 (Q [(D.bool false)]))
 (cond (iLe (0 : Int) (D.i (D.fld (D.fld d0 1) 0)))
 (cond (iLt (D.i (D.fld (D.fld d0 1) 0)) (D.i (D.fld (D.fld d0 1) 1)))
 (cond (iLe (D.i (D.fld (D.fld d0 1) 1)) (1024 : Int))
 (cond (iEq (D.i (D.fld d0 2)) (IntKind.wrap .i64 ((D.i (D.fld (D.fld d0 1) 1)) - (D.i (D.fld (D.fld d0 1) 0)))))
 (cond (iLe (0 : Int) (D.i (D.fld d0 3)))
 (Q [(D.bool (iLe (D.i (D.fld d0 3)) (1099511627776 : Int)))])
 (Q [(D.bool false)]))
 (Q [(D.bool false)]))
 (Q [(D.bool false)]))
 (Q [(D.bool false)]))
 (Q [(D.bool false)]))) := by kernel_rfl

/- slices.IndexFunc[[]timebound/api.Item,timebound/api.Item] -/
def L113_2 (n m0 : Nat) (x0 : D) (x1 : D) (x7 : D) (x8 : D) (Q : List D → Prop) : Prop :=
  loopK (wpC Try.prog A (hnd Try.prog A n) 113 n (cA (cA (cB (cA (cB (bodyOf Try.f113))))))) (nmK (A.loop 113 2)) m0 { sl := [(0, .imm 51 x0), (1, .imm 125 x1), (7, .imm 3 x7), (8, .imm 3 x8)], ob := [] } (kBlock 0 (kSeq (wpC Try.prog A (hnd Try.prog A n) 113 n (cB (cB (bodyOf Try.f113)))) (kEnd Try.prog Try.f113 (A.sig 113) Q)))
theorem L113_2_eq (n m0 : Nat) (x0 : D) (x1 : D) (x7 : D) (x8 : D) (Q : List D → Prop) : L113_2 n (m0 + 1) x0 x1 x7 x8 Q =
 (cond (iLt (D.i x8) (D.i x7))
 ((0 ≤ (D.i x8) ∧ (D.i x8) < (D.len x0)) ∧ (dynH A (wpF Try.prog A n) x1 [.imm 75] [.val 4 .imm] [(D.el x0 (D.i x8))] fun r1 =>
 (cond (D.b (rs r1 0))
 (Q [x8])
 (L113_2 n  m0 x0 x1 x7 (D.int (IntKind.wrap .i64 ((D.i x8) + (1 : Int)))) Q))))
 (Q [(D.int (-1 : Int))])) := by kernel_rfl
theorem E113 (n : Nat) (d0 d1 : D) (Q : List D → Prop) : wpF Try.prog A (n + 1) 113 [d0, d1] Q =
 (L113_2 n  n d0 d1 (D.int (D.len d0)) (D.int (0 : Int)) Q) := by kernel_rfl
attribute [irreducible] L113_2

/- slices.ContainsFunc[[]timebound/api.Item,timebound/api.Item] -/
theorem E81 (n : Nat) (d0 d1 : D) (Q : List D → Prop) : wpF Try.prog A (n + 1) 81 [d0, d1] Q =
 (wpF Try.prog A n 113 [d0, d1] fun r1 =>
 (Q [(D.bool (iLe (0 : Int) (D.i (rs r1 0))))])) := by kernel_rfl

/- timebound/scratch.Valid$1 -/
theorem E82 (n : Nat) (d0 d1 : D) (Q : List D → Prop) : wpF Try.prog A (n + 1) 82 [d0, d1] Q =
 (cond (bEq (D.b (D.fld d1 0)) (D.b (D.fld d0 0)))
 (cond (iLt (D.i (D.fld (D.fld d1 1) 0)) (D.i (D.fld (D.fld d0 1) 1)))
 (Q [(D.bool (iLt (D.i (D.fld (D.fld d0 1) 0)) (D.i (D.fld (D.fld d1 1) 1))))])
 (Q [(D.bool false)]))
 (Q [(D.bool false)])) := by kernel_rfl

/- timebound/scratch.Valid -/
def L37_2 (n m0 : Nat) (x0 : D) (x5 : D) (x6 : D) (x7 : D) (Q : List D → Prop) : Prop :=
  loopK (wpC Try.prog A (hnd Try.prog A n) 37 n (cA (cA (cB (cA (cB (bodyOf Try.f37))))))) (nmK (A.loop 37 2)) m0 { sl := [(0, .imm 51 x0), (5, .imm 51 x5), (6, .imm 3 x6), (7, .imm 3 x7)], ob := [] } (kBlock 0 (kSeq (wpC Try.prog A (hnd Try.prog A n) 37 n (cB (cB (bodyOf Try.f37)))) (kEnd Try.prog Try.f37 (A.sig 37) Q)))
theorem L37_2_eq (n m0 : Nat) (x0 : D) (x5 : D) (x6 : D) (x7 : D) (Q : List D → Prop) : L37_2 n (m0 + 1) x0 x5 x6 x7 Q =
 (cond (iLt (D.i x7) (D.i x6))
 ((0 ≤ (D.i x7) ∧ (D.i x7) < (D.len x5)) ∧ (True ∧ (wpF Try.prog A n 80 [(D.el x5 (D.i x7))] fun r1 =>
 (cond (!(D.b (rs r1 0)))
 (Q [(D.bool false)])
 ((0 ≤ (0 : Int) ∧ (0 : Int) ≤ (D.i x7) ∧ (D.i x7) ≤ (D.len x0)) ∧ (wpF Try.prog A n 81 [(D.slc (List.drop (Int.toNat (0 : Int)) (List.take (Int.toNat (D.i x7)) (D.xs x0)))), (D.fn 82 [(D.ptr (D.el x5 (D.i x7)))])] fun r2 =>
 (cond (D.b (rs r2 0))
 (Q [(D.bool false)])
 (L37_2 n  m0 x0 x5 x6 (D.int (IntKind.wrap .i64 ((D.i x7) + (1 : Int)))) Q))))))))
 (Q [(D.bool (iLe (D.len x0) (10 : Int)))])) := by kernel_rfl
theorem E37 (n : Nat) (d0 : D) (Q : List D → Prop) : wpF Try.prog A (n + 1) 37 [d0] Q =
 (L37_2 n  n d0 d0 (D.int (D.len d0)) (D.int (0 : Int)) Q) := by kernel_rfl
attribute [irreducible] L37_2

/- timebound/scratch.choice -/
def L85_2 (n m0 : Nat) (x0 : D) (x1 : D) (x7 : D) (x8 : D) (x9 : D) (Q : List D → Prop) : Prop :=
  loopK (wpC Try.prog A (hnd Try.prog A n) 85 n (cA (cA (cB (cA (cB (bodyOf Try.f85))))))) (nmK (A.loop 85 2)) m0 { sl := [(0, .imm 3 x0), (1, .imm 22 x1), (7, .imm 22 x7), (8, .imm 3 x8), (9, .imm 3 x9)], ob := [] } (kBlock 0 (kSeq (wpC Try.prog A (hnd Try.prog A n) 85 n (cB (cB (bodyOf Try.f85)))) (kEnd Try.prog Try.f85 (A.sig 85) Q)))
theorem L85_2_eq (n m0 : Nat) (x0 : D) (x1 : D) (x7 : D) (x8 : D) (x9 : D) (Q : List D → Prop) : L85_2 n (m0 + 1) x0 x1 x7 x8 x9 Q =
 (cond (iLt (D.i x9) (D.i x8))
 ((0 ≤ (D.i x9) ∧ (D.i x9) < (D.len x7)) ∧ (cond (iLt (D.i (D.el x7 (D.i x9))) (0 : Int))
 (Q [(D.bool false)])
 (cond (iLe (D.i x0) (D.i (D.el x7 (D.i x9))))
 (Q [(D.bool false)])
 (cond (iLt (0 : Int) (D.i x9))
 ((0 ≤ (IntKind.wrap .i64 ((D.i x9) - (1 : Int))) ∧ (IntKind.wrap .i64 ((D.i x9) - (1 : Int))) < (D.len x1)) ∧ (cond (iLe (D.i (D.el x7 (D.i x9))) (D.i (D.el x1 (IntKind.wrap .i64 ((D.i x9) - (1 : Int))))))
 (Q [(D.bool false)])
 (L85_2 n  m0 x0 x1 x7 x8 (D.int (IntKind.wrap .i64 ((D.i x9) + (1 : Int)))) Q)))
 (L85_2 n  m0 x0 x1 x7 x8 (D.int (IntKind.wrap .i64 ((D.i x9) + (1 : Int)))) Q)))))
 (Q [(D.bool true)])) := by kernel_rfl
theorem E85 (n : Nat) (d0 d1 : D) (Q : List D → Prop) : wpF Try.prog A (n + 1) 85 [d0, d1] Q =
 (L85_2 n  n d0 d1 d1 (D.int (D.len d1)) (D.int (0 : Int)) Q) := by kernel_rfl
attribute [irreducible] L85_2

/- timebound/scratch.Value -/
def L42_5 (n m0 : Nat) (x0 : D) (x7 : D) (x8 : D) (x21 : D) (x22 : D) (x23 : D) (Q : List D → Prop) : Prop :=
  loopK (wpC Try.prog A (hnd Try.prog A n) 42 n (cA (cA (cB (cA (cB (cB (cB (bodyOf Try.f42))))))))) (nmK (A.loop 42 5)) m0 { sl := [(0, .imm 51 x0), (7, .imm 3 x7), (8, .imm 3 x8), (21, .imm 22 x21), (22, .imm 3 x22), (23, .imm 3 x23)], ob := [] } (kBlock 0 (kSeq (wpC Try.prog A (hnd Try.prog A n) 42 n (cB (cB (cB (cB (bodyOf Try.f42)))))) (kEnd Try.prog Try.f42 (A.sig 42) Q)))
theorem L42_5_eq (n m0 : Nat) (x0 : D) (x7 : D) (x8 : D) (x21 : D) (x22 : D) (x23 : D) (Q : List D → Prop) : L42_5 n (m0 + 1) x0 x7 x8 x21 x22 x23 Q =
 (cond (iLt (D.i x23) (D.i x22))
 ((0 ≤ (D.i x23) ∧ (D.i x23) < (D.len x21)) ∧ ((0 ≤ (D.i (D.el x21 (D.i x23))) ∧ (D.i (D.el x21 (D.i x23))) < (D.len x0)) ∧ ((0 ≤ (D.i (D.el x21 (D.i x23))) ∧ (D.i (D.el x21 (D.i x23))) < (D.len x0)) ∧ (L42_5 n  m0 x0 (D.int (IntKind.wrap .i64 ((D.i x7) + (D.i (D.fld (D.el x0 (D.i (D.el x21 (D.i x23)))) 3))))) (D.int (IntKind.wrap .i64 ((D.i x8) + (D.i (D.fld (D.el x0 (D.i (D.el x21 (D.i x23)))) 2))))) x21 x22 (D.int (IntKind.wrap .i64 ((D.i x23) + (1 : Int)))) Q))))
 (Q [x7, x8, (D.bool true)])) := by kernel_rfl
theorem E42 (n : Nat) (d0 d1 : D) (Q : List D → Prop) : wpF Try.prog A (n + 1) 42 [d0, d1] Q =
 (wpF Try.prog A n 37 [d0] fun r1 =>
 (cond (!(D.b (rs r1 0)))
 (Q [(D.int (0 : Int)), (D.int (0 : Int)), (D.bool false)])
 (wpF Try.prog A n 85 [(D.int (D.len d0)), d1] fun r2 =>
 (cond (!(D.b (rs r2 0)))
 (Q [(D.int (0 : Int)), (D.int (0 : Int)), (D.bool false)])
 (L42_5 n  n d0 (D.int (0 : Int)) (D.int (0 : Int)) d1 (D.int (D.len d1)) (D.int (0 : Int)) Q))))) := by kernel_rfl
attribute [irreducible] L42_5

/- cmp.isNaN[int] -/
theorem E130 (n : Nat) (d0 : D) (Q : List D → Prop) : wpF Try.prog A (n + 1) 130 [d0] Q =
 (Q [(D.bool (!(iEq (D.i d0) (D.i d0))))]) := by kernel_rfl

/- cmp.Compare[int] -/
theorem E114 (n : Nat) (d0 d1 : D) (Q : List D → Prop) : wpF Try.prog A (n + 1) 114 [d0, d1] Q =
 (wpF Try.prog A n 130 [d0] fun r1 =>
 (wpF Try.prog A n 130 [d1] fun r2 =>
 (cond (D.b (rs r1 0))
 (cond (D.b (rs r2 0))
 (Q [(D.int (0 : Int))])
 (Q [(D.int (-1 : Int))]))
 (cond (D.b (rs r2 0))
 (Q [(D.int (1 : Int))])
 (cond (iLt (D.i d0) (D.i d1))
 (Q [(D.int (-1 : Int))])
 (cond (iLt (D.i d1) (D.i d0))
 (Q [(D.int (1 : Int))])
 (Q [(D.int (0 : Int))]))))))) := by kernel_rfl

/- slices.Compare[[]int,int] -/
def L83_2 (n m0 : Nat) (x0 : D) (x1 : D) (x9 : D) (x10 : D) (x11 : D) (Q : List D → Prop) : Prop :=
  loopK (wpC Try.prog A (hnd Try.prog A n) 83 n (cA (cA (cB (cA (cB (bodyOf Try.f83))))))) (nmK (A.loop 83 2)) m0 { sl := [(0, .imm 22 x0), (1, .imm 22 x1), (9, .imm 22 x9), (10, .imm 3 x10), (11, .imm 3 x11)], ob := [] } (kBlock 0 (kSeq (wpC Try.prog A (hnd Try.prog A n) 83 n (cB (cB (bodyOf Try.f83)))) (kEnd Try.prog Try.f83 (A.sig 83) Q)))
theorem L83_2_eq (n m0 : Nat) (x0 : D) (x1 : D) (x9 : D) (x10 : D) (x11 : D) (Q : List D → Prop) : L83_2 n (m0 + 1) x0 x1 x9 x10 x11 Q =
 (cond (iLt (D.i x11) (D.i x10))
 ((0 ≤ (D.i x11) ∧ (D.i x11) < (D.len x9)) ∧ (cond (iLe (D.len x1) (D.i x11))
 (Q [(D.int (1 : Int))])
 ((0 ≤ (D.i x11) ∧ (D.i x11) < (D.len x1)) ∧ (wpF Try.prog A n 114 [(D.el x9 (D.i x11)), (D.el x1 (D.i x11))] fun r1 =>
 (cond (!(iEq (D.i (rs r1 0)) (0 : Int)))
 (Q [(rs r1 0)])
 (L83_2 n  m0 x0 x1 x9 x10 (D.int (IntKind.wrap .i64 ((D.i x11) + (1 : Int)))) Q))))))
 (cond (iLt (D.len x0) (D.len x1))
 (Q [(D.int (-1 : Int))])
 (Q [(D.int (0 : Int))]))) := by kernel_rfl
theorem E83 (n : Nat) (d0 d1 : D) (Q : List D → Prop) : wpF Try.prog A (n + 1) 83 [d0, d1] Q =
 (L83_2 n  n d0 d1 d0 (D.int (D.len d0)) (D.int (0 : Int)) Q) := by kernel_rfl
attribute [irreducible] L83_2

/- timebound/scratch.Best -/
def L39_8 (n m0 : Nat) (x0 : D) (x1 : D) (x7 : D) (x8 : D) (x26 : D) (x27 : D) (xo6 : D) (Q : List D → Prop) : Prop :=
  loopK (wpC Try.prog A (hnd Try.prog A n) 39 n (cA (cA (cB (cA (cB (cB (cB (cB (cB (bodyOf Try.f39))))))))))) (nmK (A.loop 39 8)) m0 { sl := [(0, .imm 51 x0), (1, .imm 3 x1), (6, .val 6 [] 22), (7, .imm 3 x7), (8, .imm 3 x8), (26, .imm 3 x26), (27, .imm 3 x27)], ob := [(6, some ⟨false, 22, (.slc .imm none), xo6⟩)] } (kBlock 0 (kSeq (wpC Try.prog A (hnd Try.prog A n) 39 n (cB (cB (cB (cB (cB (cB (bodyOf Try.f39)))))))) (kEnd Try.prog Try.f39 (A.sig 39) Q)))
def L39_12 (n m0 m1 : Nat) (x0 : D) (x1 : D) (x7 : D) (x8 : D) (x9 : D) (x26 : D) (x27 : D) (x31 : D) (x32 : D) (xo6 : D) (xo10 : D) (Q : List D → Prop) : Prop :=
  loopK (wpC Try.prog A (hnd Try.prog A n) 39 n (cA (cA (cB (cA (cB (cB (cA (cA (cB (cB (cA (cA (cB (cA (cB (cB (cB (cB (cB (bodyOf Try.f39))))))))))))))))))))) (nmK (A.loop 39 12)) m1 { sl := [(0, .imm 51 x0), (1, .imm 3 x1), (6, .val 6 [] 22), (7, .imm 3 x7), (8, .imm 3 x8), (9, .imm 3 x9), (10, .val 10 [] 22), (26, .imm 3 x26), (27, .imm 3 x27), (31, .imm 3 x31), (32, .imm 3 x32)], ob := [(6, some ⟨false, 22, (.slc .imm none), xo6⟩), (10, some ⟨false, 22, (.slc .imm none), xo10⟩)] } (kBlock 2 (kSeq (wpC Try.prog A (hnd Try.prog A n) 39 n (cB (cB (cB (cA (cA (cB (cB (cA (cA (cB (cA (cB (cB (cB (cB (cB (bodyOf Try.f39)))))))))))))))))) (kBlock 1 (kSeq (wpC Try.prog A (hnd Try.prog A n) 39 n (cB (cB (cB (cA (cA (cB (cA (cB (cB (cB (cB (cB (bodyOf Try.f39)))))))))))))) (kLoop (nmK (A.loop 39 8)) (fun g => loopK (wpC Try.prog A (hnd Try.prog A n) 39 n (cA (cA (cB (cA (cB (cB (cB (cB (cB (bodyOf Try.f39))))))))))) (nmK (A.loop 39 8)) m0 g (kBlock 0 (kSeq (wpC Try.prog A (hnd Try.prog A n) 39 n (cB (cB (cB (cB (cB (cB (bodyOf Try.f39)))))))) (kEnd Try.prog Try.f39 (A.sig 39) Q)))) (kBlock 0 (kSeq (wpC Try.prog A (hnd Try.prog A n) 39 n (cB (cB (cB (cB (cB (cB (bodyOf Try.f39)))))))) (kEnd Try.prog Try.f39 (A.sig 39) Q))))))))
theorem L39_8_eq (n m0 : Nat) (x0 : D) (x1 : D) (x7 : D) (x8 : D) (x26 : D) (x27 : D) (xo6 : D) (Q : List D → Prop) : L39_8 n (m0 + 1) x0 x1 x7 x8 x26 x27 xo6 Q =
 (cond (iLt (D.i x27) (D.i x26))
 (L39_12 n m0 n x0 x1 x7 x8 x27 x26 x27 (D.int (D.len x0)) (D.int (0 : Int)) xo6 (D.slc ([] : List D)) Q)
 (Q [xo6, (D.int (0 : Int))])) := by kernel_rfl
theorem L39_12_eq (n m0 m1 : Nat) (x0 : D) (x1 : D) (x7 : D) (x8 : D) (x9 : D) (x26 : D) (x27 : D) (x31 : D) (x32 : D) (xo6 : D) (xo10 : D) (Q : List D → Prop) : L39_12 n m0 (m1 + 1) x0 x1 x7 x8 x9 x26 x27 x31 x32 xo6 xo10 Q =
 (cond (iLt (D.i x32) (D.i x31))
 ((0 : Int) ≤ (D.i x32) ∧ (cond (iEq (IntKind.wrap .i64 (((BitVec.ofInt 64 (Int.fdiv (D.i x9) (2 ^ (min (Int.toNat (D.i x32)) 64)))) &&& (BitVec.ofInt 64 (1 : Int))).toNat : Int)) (1 : Int))
 (room (((List.length (D.xs xo10) : Nat) : Int) + ((List.length [x32] : Nat) : Int)) 8 ∧ (L39_12 n m0 m1 x0 x1 x7 x8 x9 x26 x27 x31 (D.int (IntKind.wrap .i64 ((D.i x32) + (1 : Int)))) xo6 (D.slc ((D.xs xo10) ++ [x32])) Q))
 (L39_12 n m0 m1 x0 x1 x7 x8 x9 x26 x27 x31 (D.int (IntKind.wrap .i64 ((D.i x32) + (1 : Int)))) xo6 xo10 Q)))
 (wpF Try.prog A n 42 [x0, xo10] fun r2 =>
 (cond (iLt (D.i x1) (D.i (rs r2 1)))
 (L39_8 n  m0 x0 x1 x7 x8 x26 (D.int (IntKind.wrap .i64 ((D.i x27) + (1 : Int)))) xo6 Q)
 (cond (iLt (D.i x7) (D.i (rs r2 0)))
 (L39_8 n  m0 x0 x1 (rs r2 0) (rs r2 1) x26 (D.int (IntKind.wrap .i64 ((D.i x27) + (1 : Int)))) xo10 Q)
 (cond (iEq (D.i (rs r2 0)) (D.i x7))
 (cond (iLt (D.i (rs r2 1)) (D.i x8))
 (L39_8 n  m0 x0 x1 (rs r2 0) (rs r2 1) x26 (D.int (IntKind.wrap .i64 ((D.i x27) + (1 : Int)))) xo10 Q)
 (cond (iEq (D.i (rs r2 1)) (D.i x8))
 (wpF Try.prog A n 83 [xo10, xo6] fun r3 =>
 (cond (iLt (D.i (rs r3 0)) (0 : Int))
 (L39_8 n  m0 x0 x1 (rs r2 0) (rs r2 1) x26 (D.int (IntKind.wrap .i64 ((D.i x27) + (1 : Int)))) xo10 Q)
 (L39_8 n  m0 x0 x1 x7 x8 x26 (D.int (IntKind.wrap .i64 ((D.i x27) + (1 : Int)))) xo6 Q)))
 (L39_8 n  m0 x0 x1 x7 x8 x26 (D.int (IntKind.wrap .i64 ((D.i x27) + (1 : Int)))) xo6 Q)))
 (L39_8 n  m0 x0 x1 x7 x8 x26 (D.int (IntKind.wrap .i64 ((D.i x27) + (1 : Int)))) xo6 Q)))))) := by kernel_rfl
theorem E39 (n : Nat) (d0 d1 : D) (Q : List D → Prop) : wpF Try.prog A (n + 1) 39 [d0, d1] Q =
 (wpF Try.prog A n 37 [d0] fun r1 =>
 (cond (!(D.b (rs r1 0)))
 (Q [(D.slc ([] : List D)), (D.int (43 : Int))])
 (cond (iLt (D.i d1) (0 : Int))
 (Q [(D.slc ([] : List D)), (D.int (3 : Int))])
 (cond (iLt (256 : Int) (D.i d1))
 (Q [(D.slc ([] : List D)), (D.int (3 : Int))])
 ((0 : Int) ≤ (D.len d0) ∧ (L39_8 n  n d0 d1 (D.int (0 : Int)) (D.int (0 : Int)) (D.int (IntKind.wrap .i64 ((1 : Int) * 2 ^ (min (Int.toNat (D.len d0)) 64)))) (D.int (0 : Int)) (D.slc ([] : List D)) Q)))))) := by kernel_rfl
attribute [irreducible] L39_8 L39_12

/- timebound/timeboundlaw36.awake -/
theorem E34 (n : Nat)  (Q : List D → Prop) : wpF Try.prog A (n + 1) 34 [] Q =
 (wpF Try.prog A n 79 [] fun r1 =>
 (wpF Try.prog A n 39 [(rs r1 0), (D.int (4 : Int))] fun r2 =>
 (cond (iEq (D.i (rs r2 1)) (0 : Int))
 (cond (iEq (D.len (rs r2 0)) (2 : Int))
 ((0 ≤ (0 : Int) ∧ (0 : Int) < (D.len (rs r2 0))) ∧ (cond (iEq (D.i (List.getD (D.xs (rs r2 0)) (Int.toNat (0 : Int)) D.und)) (1 : Int))
 ((0 ≤ (1 : Int) ∧ (1 : Int) < (D.len (rs r2 0))) ∧ (Q [(D.bool (iEq (D.i (List.getD (D.xs (rs r2 0)) (Int.toNat (1 : Int)) D.und)) (2 : Int)))]))
 (Q [(D.bool false)])))
 (Q [(D.bool false)]))
 (Q [(D.bool false)])))) := by kernel_rfl

/- timebound/timeboundmake2.Items -/
def L35_4 (n m0 : Nat) (x5 : D) (xo0 : D) (xo3 : D) (xo4 : D) (Q : List D → Prop) : Prop :=
  loopK (wpC Try.prog A (hnd Try.prog A n) 35 n (cA (cA (cB (cA (cB (cB (cB (bodyOf Try.f35))))))))) (nmK (A.loop 35 4)) m0 { sl := [(0, .ptr 0 [] 110), (3, .val 3 [] 51), (4, .ptr 4 [] 124), (5, .imm 3 x5)], ob := [(0, some ⟨true, 110, .imm, xo0⟩), (3, some ⟨false, 51, (.slc .imm none), xo3⟩), (4, some ⟨true, 124, .imm, xo4⟩)] } (kBlock 0 (kSeq (wpC Try.prog A (hnd Try.prog A n) 35 n (cB (cB (cB (cB (bodyOf Try.f35)))))) (kEnd Try.prog Try.f35 (A.sig 35) Q)))
theorem L35_4_eq (n m0 : Nat) (x5 : D) (xo0 : D) (xo3 : D) (xo4 : D) (Q : List D → Prop) : L35_4 n (m0 + 1) x5 xo0 xo3 xo4 Q =
 (cond (iLt (0 : Int) (D.i x5))
 (wpF Try.prog A n 18 [xo0, (D.int (2 : Int))] fun r2 =>
 (wpF Try.prog A n 18 [(rs r2 1), (D.int (9 : Int))] fun r3 =>
 ((0 ≤ (D.i (rs r2 0)) ∧ (D.i (rs r2 0)) < (2 : Int)) ∧ (wpF Try.prog A n 18 [(rs r3 1), (D.int (4 : Int))] fun r4 =>
 ((0 ≤ (D.i (rs r2 0)) ∧ (D.i (rs r2 0)) < (2 : Int)) ∧ (True ∧ ((0 ≤ (D.i (rs r2 0)) ∧ (D.i (rs r2 0)) < (2 : Int)) ∧ ((0 ≤ (D.i (rs r2 0)) ∧ (D.i (rs r2 0)) < (2 : Int)) ∧ (wpF Try.prog A n 18 [(rs r4 1), (D.int (12 : Int))] fun r5 =>
 (room (((List.length (D.xs xo3) : Nat) : Int) + ((List.length [(D.agg [(D.bool (iEq (D.i (rs r2 0)) (0 : Int))), (D.agg [(List.getD (D.fs (D.agg (List.set (D.fs xo4) (Int.toNat (D.i (rs r2 0))) (D.int (IntKind.wrap .i64 ((D.i (List.getD (D.fs xo4) (Int.toNat (D.i (rs r2 0))) D.und)) + (D.i (rs r4 0)))))))) (Int.toNat (D.i (rs r2 0))) D.und), (D.int (IntKind.wrap .i64 ((D.i (List.getD (D.fs (D.agg (List.set (D.fs xo4) (Int.toNat (D.i (rs r2 0))) (D.int (IntKind.wrap .i64 ((D.i (List.getD (D.fs xo4) (Int.toNat (D.i (rs r2 0))) D.und)) + (D.i (rs r4 0)))))))) (Int.toNat (D.i (rs r2 0))) D.und)) + (IntKind.wrap .i64 ((1 : Int) + (D.i (rs r3 0)))))))]), (D.int (IntKind.wrap .i64 ((1 : Int) + (D.i (rs r3 0))))), (rs r5 0)])] : Nat) : Int)) 40 ∧ ((0 ≤ (D.i (rs r2 0)) ∧ (D.i (rs r2 0)) < (2 : Int)) ∧ ((0 ≤ (D.i (rs r2 0)) ∧ (D.i (rs r2 0)) < (2 : Int)) ∧ (True ∧ (L35_4 n  m0 (D.int (IntKind.wrap .i64 ((D.i x5) - (1 : Int)))) (rs r5 1) (D.slc ((D.xs xo3) ++ [(D.agg [(D.bool (iEq (D.i (rs r2 0)) (0 : Int))), (D.agg [(List.getD (D.fs (D.agg (List.set (D.fs xo4) (Int.toNat (D.i (rs r2 0))) (D.int (IntKind.wrap .i64 ((D.i (List.getD (D.fs xo4) (Int.toNat (D.i (rs r2 0))) D.und)) + (D.i (rs r4 0)))))))) (Int.toNat (D.i (rs r2 0))) D.und), (D.int (IntKind.wrap .i64 ((D.i (List.getD (D.fs (D.agg (List.set (D.fs xo4) (Int.toNat (D.i (rs r2 0))) (D.int (IntKind.wrap .i64 ((D.i (List.getD (D.fs xo4) (Int.toNat (D.i (rs r2 0))) D.und)) + (D.i (rs r4 0)))))))) (Int.toNat (D.i (rs r2 0))) D.und)) + (IntKind.wrap .i64 ((1 : Int) + (D.i (rs r3 0)))))))]), (D.int (IntKind.wrap .i64 ((1 : Int) + (D.i (rs r3 0))))), (rs r5 0)])])) (D.agg (List.set (D.fs (D.agg (List.set (D.fs xo4) (Int.toNat (D.i (rs r2 0))) (D.int (IntKind.wrap .i64 ((D.i (List.getD (D.fs xo4) (Int.toNat (D.i (rs r2 0))) D.und)) + (D.i (rs r4 0)))))))) (Int.toNat (D.i (rs r2 0))) (D.int (IntKind.wrap .i64 ((D.i (List.getD (D.fs (D.agg (List.set (D.fs xo4) (Int.toNat (D.i (rs r2 0))) (D.int (IntKind.wrap .i64 ((D.i (List.getD (D.fs xo4) (Int.toNat (D.i (rs r2 0))) D.und)) + (D.i (rs r4 0)))))))) (Int.toNat (D.i (rs r2 0))) D.und)) + (IntKind.wrap .i64 ((1 : Int) + (D.i (rs r3 0))))))))) Q))))))))))))))
 (Q [xo3, xo0])) := by kernel_rfl
theorem E35 (n : Nat) (d0 : D) (Q : List D → Prop) : wpF Try.prog A (n + 1) 35 [d0] Q =
 (True ∧ (wpF Try.prog A n 18 [d0, (D.int (11 : Int))] fun r1 =>
 (L35_4 n  n (rs r1 0) (rs r1 1) (D.slc ([] : List D)) (D.agg [(D.int (0 : Int)), (D.int (0 : Int))]) Q))) := by kernel_rfl
attribute [irreducible] L35_4

/- timebound/timeboundlaw36.spoilt -/
theorem E36 (n : Nat) (d0 d1 d2 : D) (Q : List D → Prop) : wpF Try.prog A (n + 1) 36 [d0, d1, d2] Q =
 (room ((List.length (D.xs d0) : Nat) : Int) 40 ∧ (cond (iEq (D.len (D.slc (D.xs d0))) (0 : Int))
 (wpF Try.prog A n 31 [d2, (D.int (2 : Int))] fun r1 =>
 (room (((List.length (D.xs d0) : Nat) : Int) + ((List.length [(D.agg [(D.bool false), (D.agg [(D.int (0 : Int)), (D.int (0 : Int))]), (rs r1 0), (D.int (0 : Int))])] : Nat) : Int)) 40 ∧ (Q [(D.slc ((D.xs d0) ++ [(D.agg [(D.bool false), (D.agg [(D.int (0 : Int)), (D.int (0 : Int))]), (rs r1 0), (D.int (0 : Int))])]))])))
 (wpF Try.prog A n 31 [d2, (D.int (D.len (D.slc (D.xs d0))))] fun r2 =>
 (wpF Try.prog A n 31 [d1, (D.int (6 : Int))] fun r3 =>
 (cond (iEq (D.i (rs r3 0)) (0 : Int))
 ((0 ≤ (D.i (rs r2 0)) ∧ (D.i (rs r2 0)) < (D.len (D.slc (D.xs d0)))) ∧ ((0 ≤ (D.i (rs r2 0)) ∧ (D.i (rs r2 0)) < (D.len (D.slc (D.xs d0)))) ∧ (True ∧ (Q [(D.slc (List.set (D.xs d0) (Int.toNat (D.i (rs r2 0))) (D.agg [(D.fld (List.getD (D.xs (D.slc (D.xs d0))) (Int.toNat (D.i (rs r2 0))) D.und) 0), (D.fld (List.getD (D.xs (D.slc (D.xs d0))) (Int.toNat (D.i (rs r2 0))) D.und) 1), (D.int (IntKind.wrap .i64 ((D.i (D.fld (List.getD (D.xs (D.slc (D.xs d0))) (Int.toNat (D.i (rs r2 0))) D.und) 2)) + (1 : Int)))), (D.fld (List.getD (D.xs (D.slc (D.xs d0))) (Int.toNat (D.i (rs r2 0))) D.und) 3)])))]))))
 (cond (iEq (D.i (rs r3 0)) (1 : Int))
 (wpF Try.prog A n 31 [d2, (D.int (3 : Int))] fun r4 =>
 ((0 ≤ (D.i (rs r4 0)) ∧ (D.i (rs r4 0)) < (D.len (D.slc [(D.int (-1 : Int)), (D.int (1099511627776 : Int)), (D.int (1099511627777 : Int))]))) ∧ ((0 ≤ (D.i (rs r2 0)) ∧ (D.i (rs r2 0)) < (D.len (D.slc (D.xs d0)))) ∧ (True ∧ (Q [(D.slc (List.set (D.xs d0) (Int.toNat (D.i (rs r2 0))) (D.agg [(D.fld (List.getD (D.xs (D.slc (D.xs d0))) (Int.toNat (D.i (rs r2 0))) D.und) 0), (D.fld (List.getD (D.xs (D.slc (D.xs d0))) (Int.toNat (D.i (rs r2 0))) D.und) 1), (D.fld (List.getD (D.xs (D.slc (D.xs d0))) (Int.toNat (D.i (rs r2 0))) D.und) 2), (List.getD (D.xs (D.slc [(D.int (-1 : Int)), (D.int (1099511627776 : Int)), (D.int (1099511627777 : Int))])) (Int.toNat (D.i (rs r4 0))) D.und)])))])))))
 (cond (iEq (D.i (rs r3 0)) (2 : Int))
 ((0 ≤ (D.i (rs r2 0)) ∧ (D.i (rs r2 0)) < (D.len (D.slc (D.xs d0)))) ∧ ((0 ≤ (D.i (rs r2 0)) ∧ (D.i (rs r2 0)) < (D.len (D.slc (D.xs d0)))) ∧ (True ∧ (Q [(D.slc (List.set (D.xs d0) (Int.toNat (D.i (rs r2 0))) (D.agg [(D.bool (!(D.b (D.fld (List.getD (D.xs (D.slc (D.xs d0))) (Int.toNat (D.i (rs r2 0))) D.und) 0)))), (D.fld (List.getD (D.xs (D.slc (D.xs d0))) (Int.toNat (D.i (rs r2 0))) D.und) 1), (D.fld (List.getD (D.xs (D.slc (D.xs d0))) (Int.toNat (D.i (rs r2 0))) D.und) 2), (D.fld (List.getD (D.xs (D.slc (D.xs d0))) (Int.toNat (D.i (rs r2 0))) D.und) 3)])))]))))
 (cond (iEq (D.i (rs r3 0)) (3 : Int))
 ((0 ≤ (0 : Int) ∧ (0 : Int) < (D.len (D.slc (D.xs d0)))) ∧ ((0 ≤ (D.i (rs r2 0)) ∧ (D.i (rs r2 0)) < (D.len (D.slc (D.xs d0)))) ∧ (True ∧ ((0 ≤ (0 : Int) ∧ (0 : Int) < (D.len (D.slc (List.set (D.xs d0) (Int.toNat (D.i (rs r2 0))) (D.agg [(D.fld (List.getD (D.xs (D.slc (D.xs d0))) (Int.toNat (D.i (rs r2 0))) D.und) 0), (D.fld (List.getD (D.xs (D.slc (D.xs d0))) (Int.toNat (0 : Int)) D.und) 1), (D.fld (List.getD (D.xs (D.slc (D.xs d0))) (Int.toNat (D.i (rs r2 0))) D.und) 2), (D.fld (List.getD (D.xs (D.slc (D.xs d0))) (Int.toNat (D.i (rs r2 0))) D.und) 3)]))))) ∧ ((0 ≤ (D.i (rs r2 0)) ∧ (D.i (rs r2 0)) < (D.len (D.slc (List.set (D.xs d0) (Int.toNat (D.i (rs r2 0))) (D.agg [(D.fld (List.getD (D.xs (D.slc (D.xs d0))) (Int.toNat (D.i (rs r2 0))) D.und) 0), (D.fld (List.getD (D.xs (D.slc (D.xs d0))) (Int.toNat (0 : Int)) D.und) 1), (D.fld (List.getD (D.xs (D.slc (D.xs d0))) (Int.toNat (D.i (rs r2 0))) D.und) 2), (D.fld (List.getD (D.xs (D.slc (D.xs d0))) (Int.toNat (D.i (rs r2 0))) D.und) 3)]))))) ∧ (True ∧ (Q [(D.slc (List.set (List.set (D.xs d0) (Int.toNat (D.i (rs r2 0))) (D.agg [(D.fld (List.getD (D.xs (D.slc (D.xs d0))) (Int.toNat (D.i (rs r2 0))) D.und) 0), (D.fld (List.getD (D.xs (D.slc (D.xs d0))) (Int.toNat (0 : Int)) D.und) 1), (D.fld (List.getD (D.xs (D.slc (D.xs d0))) (Int.toNat (D.i (rs r2 0))) D.und) 2), (D.fld (List.getD (D.xs (D.slc (D.xs d0))) (Int.toNat (D.i (rs r2 0))) D.und) 3)])) (Int.toNat (D.i (rs r2 0))) (D.agg [(D.fld (List.getD (D.xs (D.slc (List.set (D.xs d0) (Int.toNat (D.i (rs r2 0))) (D.agg [(D.fld (List.getD (D.xs (D.slc (D.xs d0))) (Int.toNat (D.i (rs r2 0))) D.und) 0), (D.fld (List.getD (D.xs (D.slc (D.xs d0))) (Int.toNat (0 : Int)) D.und) 1), (D.fld (List.getD (D.xs (D.slc (D.xs d0))) (Int.toNat (D.i (rs r2 0))) D.und) 2), (D.fld (List.getD (D.xs (D.slc (D.xs d0))) (Int.toNat (D.i (rs r2 0))) D.und) 3)])))) (Int.toNat (D.i (rs r2 0))) D.und) 0), (D.fld (List.getD (D.xs (D.slc (List.set (D.xs d0) (Int.toNat (D.i (rs r2 0))) (D.agg [(D.fld (List.getD (D.xs (D.slc (D.xs d0))) (Int.toNat (D.i (rs r2 0))) D.und) 0), (D.fld (List.getD (D.xs (D.slc (D.xs d0))) (Int.toNat (0 : Int)) D.und) 1), (D.fld (List.getD (D.xs (D.slc (D.xs d0))) (Int.toNat (D.i (rs r2 0))) D.und) 2), (D.fld (List.getD (D.xs (D.slc (D.xs d0))) (Int.toNat (D.i (rs r2 0))) D.und) 3)])))) (Int.toNat (D.i (rs r2 0))) D.und) 1), (D.fld (List.getD (D.xs (D.slc (List.set (D.xs d0) (Int.toNat (D.i (rs r2 0))) (D.agg [(D.fld (List.getD (D.xs (D.slc (D.xs d0))) (Int.toNat (D.i (rs r2 0))) D.und) 0), (D.fld (List.getD (D.xs (D.slc (D.xs d0))) (Int.toNat (0 : Int)) D.und) 1), (D.fld (List.getD (D.xs (D.slc (D.xs d0))) (Int.toNat (D.i (rs r2 0))) D.und) 2), (D.fld (List.getD (D.xs (D.slc (D.xs d0))) (Int.toNat (D.i (rs r2 0))) D.und) 3)])))) (Int.toNat (0 : Int)) D.und) 2), (D.fld (List.getD (D.xs (D.slc (List.set (D.xs d0) (Int.toNat (D.i (rs r2 0))) (D.agg [(D.fld (List.getD (D.xs (D.slc (D.xs d0))) (Int.toNat (D.i (rs r2 0))) D.und) 0), (D.fld (List.getD (D.xs (D.slc (D.xs d0))) (Int.toNat (0 : Int)) D.und) 1), (D.fld (List.getD (D.xs (D.slc (D.xs d0))) (Int.toNat (D.i (rs r2 0))) D.und) 2), (D.fld (List.getD (D.xs (D.slc (D.xs d0))) (Int.toNat (D.i (rs r2 0))) D.und) 3)])))) (Int.toNat (D.i (rs r2 0))) D.und) 3)])))])))))))
 (cond (iEq (D.i (rs r3 0)) (4 : Int))
 (wpF Try.prog A n 31 [d2, (D.int (2 : Int))] fun r5 =>
 ((0 ≤ (D.i (rs r2 0)) ∧ (D.i (rs r2 0)) < (D.len (D.slc (D.xs d0)))) ∧ (True ∧ ((0 ≤ (D.i (rs r2 0)) ∧ (D.i (rs r2 0)) < (D.len (D.slc (List.set (D.xs d0) (Int.toNat (D.i (rs r2 0))) (D.agg [(D.fld (List.getD (D.xs (D.slc (D.xs d0))) (Int.toNat (D.i (rs r2 0))) D.und) 0), (D.agg [(D.int (1023 : Int)), (D.fld (D.fld (List.getD (D.xs (D.slc (D.xs d0))) (Int.toNat (D.i (rs r2 0))) D.und) 1) 1)]), (D.fld (List.getD (D.xs (D.slc (D.xs d0))) (Int.toNat (D.i (rs r2 0))) D.und) 2), (D.fld (List.getD (D.xs (D.slc (D.xs d0))) (Int.toNat (D.i (rs r2 0))) D.und) 3)]))))) ∧ (True ∧ ((0 ≤ (D.i (rs r2 0)) ∧ (D.i (rs r2 0)) < (D.len (D.slc (List.set (List.set (D.xs d0) (Int.toNat (D.i (rs r2 0))) (D.agg [(D.fld (List.getD (D.xs (D.slc (D.xs d0))) (Int.toNat (D.i (rs r2 0))) D.und) 0), (D.agg [(D.int (1023 : Int)), (D.fld (D.fld (List.getD (D.xs (D.slc (D.xs d0))) (Int.toNat (D.i (rs r2 0))) D.und) 1) 1)]), (D.fld (List.getD (D.xs (D.slc (D.xs d0))) (Int.toNat (D.i (rs r2 0))) D.und) 2), (D.fld (List.getD (D.xs (D.slc (D.xs d0))) (Int.toNat (D.i (rs r2 0))) D.und) 3)])) (Int.toNat (D.i (rs r2 0))) (D.agg [(D.fld (List.getD (D.xs (D.slc (List.set (D.xs d0) (Int.toNat (D.i (rs r2 0))) (D.agg [(D.fld (List.getD (D.xs (D.slc (D.xs d0))) (Int.toNat (D.i (rs r2 0))) D.und) 0), (D.agg [(D.int (1023 : Int)), (D.fld (D.fld (List.getD (D.xs (D.slc (D.xs d0))) (Int.toNat (D.i (rs r2 0))) D.und) 1) 1)]), (D.fld (List.getD (D.xs (D.slc (D.xs d0))) (Int.toNat (D.i (rs r2 0))) D.und) 2), (D.fld (List.getD (D.xs (D.slc (D.xs d0))) (Int.toNat (D.i (rs r2 0))) D.und) 3)])))) (Int.toNat (D.i (rs r2 0))) D.und) 0), (D.agg [(D.fld (D.fld (List.getD (D.xs (D.slc (List.set (D.xs d0) (Int.toNat (D.i (rs r2 0))) (D.agg [(D.fld (List.getD (D.xs (D.slc (D.xs d0))) (Int.toNat (D.i (rs r2 0))) D.und) 0), (D.agg [(D.int (1023 : Int)), (D.fld (D.fld (List.getD (D.xs (D.slc (D.xs d0))) (Int.toNat (D.i (rs r2 0))) D.und) 1) 1)]), (D.fld (List.getD (D.xs (D.slc (D.xs d0))) (Int.toNat (D.i (rs r2 0))) D.und) 2), (D.fld (List.getD (D.xs (D.slc (D.xs d0))) (Int.toNat (D.i (rs r2 0))) D.und) 3)])))) (Int.toNat (D.i (rs r2 0))) D.und) 1) 0), (D.int (IntKind.wrap .i64 ((1024 : Int) + (D.i (rs r5 0)))))]), (D.fld (List.getD (D.xs (D.slc (List.set (D.xs d0) (Int.toNat (D.i (rs r2 0))) (D.agg [(D.fld (List.getD (D.xs (D.slc (D.xs d0))) (Int.toNat (D.i (rs r2 0))) D.und) 0), (D.agg [(D.int (1023 : Int)), (D.fld (D.fld (List.getD (D.xs (D.slc (D.xs d0))) (Int.toNat (D.i (rs r2 0))) D.und) 1) 1)]), (D.fld (List.getD (D.xs (D.slc (D.xs d0))) (Int.toNat (D.i (rs r2 0))) D.und) 2), (D.fld (List.getD (D.xs (D.slc (D.xs d0))) (Int.toNat (D.i (rs r2 0))) D.und) 3)])))) (Int.toNat (D.i (rs r2 0))) D.und) 2), (D.fld (List.getD (D.xs (D.slc (List.set (D.xs d0) (Int.toNat (D.i (rs r2 0))) (D.agg [(D.fld (List.getD (D.xs (D.slc (D.xs d0))) (Int.toNat (D.i (rs r2 0))) D.und) 0), (D.agg [(D.int (1023 : Int)), (D.fld (D.fld (List.getD (D.xs (D.slc (D.xs d0))) (Int.toNat (D.i (rs r2 0))) D.und) 1) 1)]), (D.fld (List.getD (D.xs (D.slc (D.xs d0))) (Int.toNat (D.i (rs r2 0))) D.und) 2), (D.fld (List.getD (D.xs (D.slc (D.xs d0))) (Int.toNat (D.i (rs r2 0))) D.und) 3)])))) (Int.toNat (D.i (rs r2 0))) D.und) 3)]))))) ∧ ((0 ≤ (D.i (rs r2 0)) ∧ (D.i (rs r2 0)) < (D.len (D.slc (List.set (List.set (D.xs d0) (Int.toNat (D.i (rs r2 0))) (D.agg [(D.fld (List.getD (D.xs (D.slc (D.xs d0))) (Int.toNat (D.i (rs r2 0))) D.und) 0), (D.agg [(D.int (1023 : Int)), (D.fld (D.fld (List.getD (D.xs (D.slc (D.xs d0))) (Int.toNat (D.i (rs r2 0))) D.und) 1) 1)]), (D.fld (List.getD (D.xs (D.slc (D.xs d0))) (Int.toNat (D.i (rs r2 0))) D.und) 2), (D.fld (List.getD (D.xs (D.slc (D.xs d0))) (Int.toNat (D.i (rs r2 0))) D.und) 3)])) (Int.toNat (D.i (rs r2 0))) (D.agg [(D.fld (List.getD (D.xs (D.slc (List.set (D.xs d0) (Int.toNat (D.i (rs r2 0))) (D.agg [(D.fld (List.getD (D.xs (D.slc (D.xs d0))) (Int.toNat (D.i (rs r2 0))) D.und) 0), (D.agg [(D.int (1023 : Int)), (D.fld (D.fld (List.getD (D.xs (D.slc (D.xs d0))) (Int.toNat (D.i (rs r2 0))) D.und) 1) 1)]), (D.fld (List.getD (D.xs (D.slc (D.xs d0))) (Int.toNat (D.i (rs r2 0))) D.und) 2), (D.fld (List.getD (D.xs (D.slc (D.xs d0))) (Int.toNat (D.i (rs r2 0))) D.und) 3)])))) (Int.toNat (D.i (rs r2 0))) D.und) 0), (D.agg [(D.fld (D.fld (List.getD (D.xs (D.slc (List.set (D.xs d0) (Int.toNat (D.i (rs r2 0))) (D.agg [(D.fld (List.getD (D.xs (D.slc (D.xs d0))) (Int.toNat (D.i (rs r2 0))) D.und) 0), (D.agg [(D.int (1023 : Int)), (D.fld (D.fld (List.getD (D.xs (D.slc (D.xs d0))) (Int.toNat (D.i (rs r2 0))) D.und) 1) 1)]), (D.fld (List.getD (D.xs (D.slc (D.xs d0))) (Int.toNat (D.i (rs r2 0))) D.und) 2), (D.fld (List.getD (D.xs (D.slc (D.xs d0))) (Int.toNat (D.i (rs r2 0))) D.und) 3)])))) (Int.toNat (D.i (rs r2 0))) D.und) 1) 0), (D.int (IntKind.wrap .i64 ((1024 : Int) + (D.i (rs r5 0)))))]), (D.fld (List.getD (D.xs (D.slc (List.set (D.xs d0) (Int.toNat (D.i (rs r2 0))) (D.agg [(D.fld (List.getD (D.xs (D.slc (D.xs d0))) (Int.toNat (D.i (rs r2 0))) D.und) 0), (D.agg [(D.int (1023 : Int)), (D.fld (D.fld (List.getD (D.xs (D.slc (D.xs d0))) (Int.toNat (D.i (rs r2 0))) D.und) 1) 1)]), (D.fld (List.getD (D.xs (D.slc (D.xs d0))) (Int.toNat (D.i (rs r2 0))) D.und) 2), (D.fld (List.getD (D.xs (D.slc (D.xs d0))) (Int.toNat (D.i (rs r2 0))) D.und) 3)])))) (Int.toNat (D.i (rs r2 0))) D.und) 2), (D.fld (List.getD (D.xs (D.slc (List.set (D.xs d0) (Int.toNat (D.i (rs r2 0))) (D.agg [(D.fld (List.getD (D.xs (D.slc (D.xs d0))) (Int.toNat (D.i (rs r2 0))) D.und) 0), (D.agg [(D.int (1023 : Int)), (D.fld (D.fld (List.getD (D.xs (D.slc (D.xs d0))) (Int.toNat (D.i (rs r2 0))) D.und) 1) 1)]), (D.fld (List.getD (D.xs (D.slc (D.xs d0))) (Int.toNat (D.i (rs r2 0))) D.und) 2), (D.fld (List.getD (D.xs (D.slc (D.xs d0))) (Int.toNat (D.i (rs r2 0))) D.und) 3)])))) (Int.toNat (D.i (rs r2 0))) D.und) 3)]))))) ∧ ((0 ≤ (D.i (rs r2 0)) ∧ (D.i (rs r2 0)) < (D.len (D.slc (List.set (List.set (D.xs d0) (Int.toNat (D.i (rs r2 0))) (D.agg [(D.fld (List.getD (D.xs (D.slc (D.xs d0))) (Int.toNat (D.i (rs r2 0))) D.und) 0), (D.agg [(D.int (1023 : Int)), (D.fld (D.fld (List.getD (D.xs (D.slc (D.xs d0))) (Int.toNat (D.i (rs r2 0))) D.und) 1) 1)]), (D.fld (List.getD (D.xs (D.slc (D.xs d0))) (Int.toNat (D.i (rs r2 0))) D.und) 2), (D.fld (List.getD (D.xs (D.slc (D.xs d0))) (Int.toNat (D.i (rs r2 0))) D.und) 3)])) (Int.toNat (D.i (rs r2 0))) (D.agg [(D.fld (List.getD (D.xs (D.slc (List.set (D.xs d0) (Int.toNat (D.i (rs r2 0))) (D.agg [(D.fld (List.getD (D.xs (D.slc (D.xs d0))) (Int.toNat (D.i (rs r2 0))) D.und) 0), (D.agg [(D.int (1023 : Int)), (D.fld (D.fld (List.getD (D.xs (D.slc (D.xs d0))) (Int.toNat (D.i (rs r2 0))) D.und) 1) 1)]), (D.fld (List.getD (D.xs (D.slc (D.xs d0))) (Int.toNat (D.i (rs r2 0))) D.und) 2), (D.fld (List.getD (D.xs (D.slc (D.xs d0))) (Int.toNat (D.i (rs r2 0))) D.und) 3)])))) (Int.toNat (D.i (rs r2 0))) D.und) 0), (D.agg [(D.fld (D.fld (List.getD (D.xs (D.slc (List.set (D.xs d0) (Int.toNat (D.i (rs r2 0))) (D.agg [(D.fld (List.getD (D.xs (D.slc (D.xs d0))) (Int.toNat (D.i (rs r2 0))) D.und) 0), (D.agg [(D.int (1023 : Int)), (D.fld (D.fld (List.getD (D.xs (D.slc (D.xs d0))) (Int.toNat (D.i (rs r2 0))) D.und) 1) 1)]), (D.fld (List.getD (D.xs (D.slc (D.xs d0))) (Int.toNat (D.i (rs r2 0))) D.und) 2), (D.fld (List.getD (D.xs (D.slc (D.xs d0))) (Int.toNat (D.i (rs r2 0))) D.und) 3)])))) (Int.toNat (D.i (rs r2 0))) D.und) 1) 0), (D.int (IntKind.wrap .i64 ((1024 : Int) + (D.i (rs r5 0)))))]), (D.fld (List.getD (D.xs (D.slc (List.set (D.xs d0) (Int.toNat (D.i (rs r2 0))) (D.agg [(D.fld (List.getD (D.xs (D.slc (D.xs d0))) (Int.toNat (D.i (rs r2 0))) D.und) 0), (D.agg [(D.int (1023 : Int)), (D.fld (D.fld (List.getD (D.xs (D.slc (D.xs d0))) (Int.toNat (D.i (rs r2 0))) D.und) 1) 1)]), (D.fld (List.getD (D.xs (D.slc (D.xs d0))) (Int.toNat (D.i (rs r2 0))) D.und) 2), (D.fld (List.getD (D.xs (D.slc (D.xs d0))) (Int.toNat (D.i (rs r2 0))) D.und) 3)])))) (Int.toNat (D.i (rs r2 0))) D.und) 2), (D.fld (List.getD (D.xs (D.slc (List.set (D.xs d0) (Int.toNat (D.i (rs r2 0))) (D.agg [(D.fld (List.getD (D.xs (D.slc (D.xs d0))) (Int.toNat (D.i (rs r2 0))) D.und) 0), (D.agg [(D.int (1023 : Int)), (D.fld (D.fld (List.getD (D.xs (D.slc (D.xs d0))) (Int.toNat (D.i (rs r2 0))) D.und) 1) 1)]), (D.fld (List.getD (D.xs (D.slc (D.xs d0))) (Int.toNat (D.i (rs r2 0))) D.und) 2), (D.fld (List.getD (D.xs (D.slc (D.xs d0))) (Int.toNat (D.i (rs r2 0))) D.und) 3)])))) (Int.toNat (D.i (rs r2 0))) D.und) 3)]))))) ∧ (True ∧ (Q [(D.slc (List.set (List.set (List.set (D.xs d0) (Int.toNat (D.i (rs r2 0))) (D.agg [(D.fld (List.getD (D.xs (D.slc (D.xs d0))) (Int.toNat (D.i (rs r2 0))) D.und) 0), (D.agg [(D.int (1023 : Int)), (D.fld (D.fld (List.getD (D.xs (D.slc (D.xs d0))) (Int.toNat (D.i (rs r2 0))) D.und) 1) 1)]), (D.fld (List.getD (D.xs (D.slc (D.xs d0))) (Int.toNat (D.i (rs r2 0))) D.und) 2), (D.fld (List.getD (D.xs (D.slc (D.xs d0))) (Int.toNat (D.i (rs r2 0))) D.und) 3)])) (Int.toNat (D.i (rs r2 0))) (D.agg [(D.fld (List.getD (D.xs (D.slc (List.set (D.xs d0) (Int.toNat (D.i (rs r2 0))) (D.agg [(D.fld (List.getD (D.xs (D.slc (D.xs d0))) (Int.toNat (D.i (rs r2 0))) D.und) 0), (D.agg [(D.int (1023 : Int)), (D.fld (D.fld (List.getD (D.xs (D.slc (D.xs d0))) (Int.toNat (D.i (rs r2 0))) D.und) 1) 1)]), (D.fld (List.getD (D.xs (D.slc (D.xs d0))) (Int.toNat (D.i (rs r2 0))) D.und) 2), (D.fld (List.getD (D.xs (D.slc (D.xs d0))) (Int.toNat (D.i (rs r2 0))) D.und) 3)])))) (Int.toNat (D.i (rs r2 0))) D.und) 0), (D.agg [(D.fld (D.fld (List.getD (D.xs (D.slc (List.set (D.xs d0) (Int.toNat (D.i (rs r2 0))) (D.agg [(D.fld (List.getD (D.xs (D.slc (D.xs d0))) (Int.toNat (D.i (rs r2 0))) D.und) 0), (D.agg [(D.int (1023 : Int)), (D.fld (D.fld (List.getD (D.xs (D.slc (D.xs d0))) (Int.toNat (D.i (rs r2 0))) D.und) 1) 1)]), (D.fld (List.getD (D.xs (D.slc (D.xs d0))) (Int.toNat (D.i (rs r2 0))) D.und) 2), (D.fld (List.getD (D.xs (D.slc (D.xs d0))) (Int.toNat (D.i (rs r2 0))) D.und) 3)])))) (Int.toNat (D.i (rs r2 0))) D.und) 1) 0), (D.int (IntKind.wrap .i64 ((1024 : Int) + (D.i (rs r5 0)))))]), (D.fld (List.getD (D.xs (D.slc (List.set (D.xs d0) (Int.toNat (D.i (rs r2 0))) (D.agg [(D.fld (List.getD (D.xs (D.slc (D.xs d0))) (Int.toNat (D.i (rs r2 0))) D.und) 0), (D.agg [(D.int (1023 : Int)), (D.fld (D.fld (List.getD (D.xs (D.slc (D.xs d0))) (Int.toNat (D.i (rs r2 0))) D.und) 1) 1)]), (D.fld (List.getD (D.xs (D.slc (D.xs d0))) (Int.toNat (D.i (rs r2 0))) D.und) 2), (D.fld (List.getD (D.xs (D.slc (D.xs d0))) (Int.toNat (D.i (rs r2 0))) D.und) 3)])))) (Int.toNat (D.i (rs r2 0))) D.und) 2), (D.fld (List.getD (D.xs (D.slc (List.set (D.xs d0) (Int.toNat (D.i (rs r2 0))) (D.agg [(D.fld (List.getD (D.xs (D.slc (D.xs d0))) (Int.toNat (D.i (rs r2 0))) D.und) 0), (D.agg [(D.int (1023 : Int)), (D.fld (D.fld (List.getD (D.xs (D.slc (D.xs d0))) (Int.toNat (D.i (rs r2 0))) D.und) 1) 1)]), (D.fld (List.getD (D.xs (D.slc (D.xs d0))) (Int.toNat (D.i (rs r2 0))) D.und) 2), (D.fld (List.getD (D.xs (D.slc (D.xs d0))) (Int.toNat (D.i (rs r2 0))) D.und) 3)])))) (Int.toNat (D.i (rs r2 0))) D.und) 3)])) (Int.toNat (D.i (rs r2 0))) (D.agg [(D.fld (List.getD (D.xs (D.slc (List.set (List.set (D.xs d0) (Int.toNat (D.i (rs r2 0))) (D.agg [(D.fld (List.getD (D.xs (D.slc (D.xs d0))) (Int.toNat (D.i (rs r2 0))) D.und) 0), (D.agg [(D.int (1023 : Int)), (D.fld (D.fld (List.getD (D.xs (D.slc (D.xs d0))) (Int.toNat (D.i (rs r2 0))) D.und) 1) 1)]), (D.fld (List.getD (D.xs (D.slc (D.xs d0))) (Int.toNat (D.i (rs r2 0))) D.und) 2), (D.fld (List.getD (D.xs (D.slc (D.xs d0))) (Int.toNat (D.i (rs r2 0))) D.und) 3)])) (Int.toNat (D.i (rs r2 0))) (D.agg [(D.fld (List.getD (D.xs (D.slc (List.set (D.xs d0) (Int.toNat (D.i (rs r2 0))) (D.agg [(D.fld (List.getD (D.xs (D.slc (D.xs d0))) (Int.toNat (D.i (rs r2 0))) D.und) 0), (D.agg [(D.int (1023 : Int)), (D.fld (D.fld (List.getD (D.xs (D.slc (D.xs d0))) (Int.toNat (D.i (rs r2 0))) D.und) 1) 1)]), (D.fld (List.getD (D.xs (D.slc (D.xs d0))) (Int.toNat (D.i (rs r2 0))) D.und) 2), (D.fld (List.getD (D.xs (D.slc (D.xs d0))) (Int.toNat (D.i (rs r2 0))) D.und) 3)])))) (Int.toNat (D.i (rs r2 0))) D.und) 0), (D.agg [(D.fld (D.fld (List.getD (D.xs (D.slc (List.set (D.xs d0) (Int.toNat (D.i (rs r2 0))) (D.agg [(D.fld (List.getD (D.xs (D.slc (D.xs d0))) (Int.toNat (D.i (rs r2 0))) D.und) 0), (D.agg [(D.int (1023 : Int)), (D.fld (D.fld (List.getD (D.xs (D.slc (D.xs d0))) (Int.toNat (D.i (rs r2 0))) D.und) 1) 1)]), (D.fld (List.getD (D.xs (D.slc (D.xs d0))) (Int.toNat (D.i (rs r2 0))) D.und) 2), (D.fld (List.getD (D.xs (D.slc (D.xs d0))) (Int.toNat (D.i (rs r2 0))) D.und) 3)])))) (Int.toNat (D.i (rs r2 0))) D.und) 1) 0), (D.int (IntKind.wrap .i64 ((1024 : Int) + (D.i (rs r5 0)))))]), (D.fld (List.getD (D.xs (D.slc (List.set (D.xs d0) (Int.toNat (D.i (rs r2 0))) (D.agg [(D.fld (List.getD (D.xs (D.slc (D.xs d0))) (Int.toNat (D.i (rs r2 0))) D.und) 0), (D.agg [(D.int (1023 : Int)), (D.fld (D.fld (List.getD (D.xs (D.slc (D.xs d0))) (Int.toNat (D.i (rs r2 0))) D.und) 1) 1)]), (D.fld (List.getD (D.xs (D.slc (D.xs d0))) (Int.toNat (D.i (rs r2 0))) D.und) 2), (D.fld (List.getD (D.xs (D.slc (D.xs d0))) (Int.toNat (D.i (rs r2 0))) D.und) 3)])))) (Int.toNat (D.i (rs r2 0))) D.und) 2), (D.fld (List.getD (D.xs (D.slc (List.set (D.xs d0) (Int.toNat (D.i (rs r2 0))) (D.agg [(D.fld (List.getD (D.xs (D.slc (D.xs d0))) (Int.toNat (D.i (rs r2 0))) D.und) 0), (D.agg [(D.int (1023 : Int)), (D.fld (D.fld (List.getD (D.xs (D.slc (D.xs d0))) (Int.toNat (D.i (rs r2 0))) D.und) 1) 1)]), (D.fld (List.getD (D.xs (D.slc (D.xs d0))) (Int.toNat (D.i (rs r2 0))) D.und) 2), (D.fld (List.getD (D.xs (D.slc (D.xs d0))) (Int.toNat (D.i (rs r2 0))) D.und) 3)])))) (Int.toNat (D.i (rs r2 0))) D.und) 3)])))) (Int.toNat (D.i (rs r2 0))) D.und) 0), (D.fld (List.getD (D.xs (D.slc (List.set (List.set (D.xs d0) (Int.toNat (D.i (rs r2 0))) (D.agg [(D.fld (List.getD (D.xs (D.slc (D.xs d0))) (Int.toNat (D.i (rs r2 0))) D.und) 0), (D.agg [(D.int (1023 : Int)), (D.fld (D.fld (List.getD (D.xs (D.slc (D.xs d0))) (Int.toNat (D.i (rs r2 0))) D.und) 1) 1)]), (D.fld (List.getD (D.xs (D.slc (D.xs d0))) (Int.toNat (D.i (rs r2 0))) D.und) 2), (D.fld (List.getD (D.xs (D.slc (D.xs d0))) (Int.toNat (D.i (rs r2 0))) D.und) 3)])) (Int.toNat (D.i (rs r2 0))) (D.agg [(D.fld (List.getD (D.xs (D.slc (List.set (D.xs d0) (Int.toNat (D.i (rs r2 0))) (D.agg [(D.fld (List.getD (D.xs (D.slc (D.xs d0))) (Int.toNat (D.i (rs r2 0))) D.und) 0), (D.agg [(D.int (1023 : Int)), (D.fld (D.fld (List.getD (D.xs (D.slc (D.xs d0))) (Int.toNat (D.i (rs r2 0))) D.und) 1) 1)]), (D.fld (List.getD (D.xs (D.slc (D.xs d0))) (Int.toNat (D.i (rs r2 0))) D.und) 2), (D.fld (List.getD (D.xs (D.slc (D.xs d0))) (Int.toNat (D.i (rs r2 0))) D.und) 3)])))) (Int.toNat (D.i (rs r2 0))) D.und) 0), (D.agg [(D.fld (D.fld (List.getD (D.xs (D.slc (List.set (D.xs d0) (Int.toNat (D.i (rs r2 0))) (D.agg [(D.fld (List.getD (D.xs (D.slc (D.xs d0))) (Int.toNat (D.i (rs r2 0))) D.und) 0), (D.agg [(D.int (1023 : Int)), (D.fld (D.fld (List.getD (D.xs (D.slc (D.xs d0))) (Int.toNat (D.i (rs r2 0))) D.und) 1) 1)]), (D.fld (List.getD (D.xs (D.slc (D.xs d0))) (Int.toNat (D.i (rs r2 0))) D.und) 2), (D.fld (List.getD (D.xs (D.slc (D.xs d0))) (Int.toNat (D.i (rs r2 0))) D.und) 3)])))) (Int.toNat (D.i (rs r2 0))) D.und) 1) 0), (D.int (IntKind.wrap .i64 ((1024 : Int) + (D.i (rs r5 0)))))]), (D.fld (List.getD (D.xs (D.slc (List.set (D.xs d0) (Int.toNat (D.i (rs r2 0))) (D.agg [(D.fld (List.getD (D.xs (D.slc (D.xs d0))) (Int.toNat (D.i (rs r2 0))) D.und) 0), (D.agg [(D.int (1023 : Int)), (D.fld (D.fld (List.getD (D.xs (D.slc (D.xs d0))) (Int.toNat (D.i (rs r2 0))) D.und) 1) 1)]), (D.fld (List.getD (D.xs (D.slc (D.xs d0))) (Int.toNat (D.i (rs r2 0))) D.und) 2), (D.fld (List.getD (D.xs (D.slc (D.xs d0))) (Int.toNat (D.i (rs r2 0))) D.und) 3)])))) (Int.toNat (D.i (rs r2 0))) D.und) 2), (D.fld (List.getD (D.xs (D.slc (List.set (D.xs d0) (Int.toNat (D.i (rs r2 0))) (D.agg [(D.fld (List.getD (D.xs (D.slc (D.xs d0))) (Int.toNat (D.i (rs r2 0))) D.und) 0), (D.agg [(D.int (1023 : Int)), (D.fld (D.fld (List.getD (D.xs (D.slc (D.xs d0))) (Int.toNat (D.i (rs r2 0))) D.und) 1) 1)]), (D.fld (List.getD (D.xs (D.slc (D.xs d0))) (Int.toNat (D.i (rs r2 0))) D.und) 2), (D.fld (List.getD (D.xs (D.slc (D.xs d0))) (Int.toNat (D.i (rs r2 0))) D.und) 3)])))) (Int.toNat (D.i (rs r2 0))) D.und) 3)])))) (Int.toNat (D.i (rs r2 0))) D.und) 1), (D.int (IntKind.wrap .i64 ((D.i (D.fld (D.fld (List.getD (D.xs (D.slc (List.set (List.set (D.xs d0) (Int.toNat (D.i (rs r2 0))) (D.agg [(D.fld (List.getD (D.xs (D.slc (D.xs d0))) (Int.toNat (D.i (rs r2 0))) D.und) 0), (D.agg [(D.int (1023 : Int)), (D.fld (D.fld (List.getD (D.xs (D.slc (D.xs d0))) (Int.toNat (D.i (rs r2 0))) D.und) 1) 1)]), (D.fld (List.getD (D.xs (D.slc (D.xs d0))) (Int.toNat (D.i (rs r2 0))) D.und) 2), (D.fld (List.getD (D.xs (D.slc (D.xs d0))) (Int.toNat (D.i (rs r2 0))) D.und) 3)])) (Int.toNat (D.i (rs r2 0))) (D.agg [(D.fld (List.getD (D.xs (D.slc (List.set (D.xs d0) (Int.toNat (D.i (rs r2 0))) (D.agg [(D.fld (List.getD (D.xs (D.slc (D.xs d0))) (Int.toNat (D.i (rs r2 0))) D.und) 0), (D.agg [(D.int (1023 : Int)), (D.fld (D.fld (List.getD (D.xs (D.slc (D.xs d0))) (Int.toNat (D.i (rs r2 0))) D.und) 1) 1)]), (D.fld (List.getD (D.xs (D.slc (D.xs d0))) (Int.toNat (D.i (rs r2 0))) D.und) 2), (D.fld (List.getD (D.xs (D.slc (D.xs d0))) (Int.toNat (D.i (rs r2 0))) D.und) 3)])))) (Int.toNat (D.i (rs r2 0))) D.und) 0), (D.agg [(D.fld (D.fld (List.getD (D.xs (D.slc (List.set (D.xs d0) (Int.toNat (D.i (rs r2 0))) (D.agg [(D.fld (List.getD (D.xs (D.slc (D.xs d0))) (Int.toNat (D.i (rs r2 0))) D.und) 0), (D.agg [(D.int (1023 : Int)), (D.fld (D.fld (List.getD (D.xs (D.slc (D.xs d0))) (Int.toNat (D.i (rs r2 0))) D.und) 1) 1)]), (D.fld (List.getD (D.xs (D.slc (D.xs d0))) (Int.toNat (D.i (rs r2 0))) D.und) 2), (D.fld (List.getD (D.xs (D.slc (D.xs d0))) (Int.toNat (D.i (rs r2 0))) D.und) 3)])))) (Int.toNat (D.i (rs r2 0))) D.und) 1) 0), (D.int (IntKind.wrap .i64 ((1024 : Int) + (D.i (rs r5 0)))))]), (D.fld (List.getD (D.xs (D.slc (List.set (D.xs d0) (Int.toNat (D.i (rs r2 0))) (D.agg [(D.fld (List.getD (D.xs (D.slc (D.xs d0))) (Int.toNat (D.i (rs r2 0))) D.und) 0), (D.agg [(D.int (1023 : Int)), (D.fld (D.fld (List.getD (D.xs (D.slc (D.xs d0))) (Int.toNat (D.i (rs r2 0))) D.und) 1) 1)]), (D.fld (List.getD (D.xs (D.slc (D.xs d0))) (Int.toNat (D.i (rs r2 0))) D.und) 2), (D.fld (List.getD (D.xs (D.slc (D.xs d0))) (Int.toNat (D.i (rs r2 0))) D.und) 3)])))) (Int.toNat (D.i (rs r2 0))) D.und) 2), (D.fld (List.getD (D.xs (D.slc (List.set (D.xs d0) (Int.toNat (D.i (rs r2 0))) (D.agg [(D.fld (List.getD (D.xs (D.slc (D.xs d0))) (Int.toNat (D.i (rs r2 0))) D.und) 0), (D.agg [(D.int (1023 : Int)), (D.fld (D.fld (List.getD (D.xs (D.slc (D.xs d0))) (Int.toNat (D.i (rs r2 0))) D.und) 1) 1)]), (D.fld (List.getD (D.xs (D.slc (D.xs d0))) (Int.toNat (D.i (rs r2 0))) D.und) 2), (D.fld (List.getD (D.xs (D.slc (D.xs d0))) (Int.toNat (D.i (rs r2 0))) D.und) 3)])))) (Int.toNat (D.i (rs r2 0))) D.und) 3)])))) (Int.toNat (D.i (rs r2 0))) D.und) 1) 1)) - (D.i (D.fld (D.fld (List.getD (D.xs (D.slc (List.set (List.set (D.xs d0) (Int.toNat (D.i (rs r2 0))) (D.agg [(D.fld (List.getD (D.xs (D.slc (D.xs d0))) (Int.toNat (D.i (rs r2 0))) D.und) 0), (D.agg [(D.int (1023 : Int)), (D.fld (D.fld (List.getD (D.xs (D.slc (D.xs d0))) (Int.toNat (D.i (rs r2 0))) D.und) 1) 1)]), (D.fld (List.getD (D.xs (D.slc (D.xs d0))) (Int.toNat (D.i (rs r2 0))) D.und) 2), (D.fld (List.getD (D.xs (D.slc (D.xs d0))) (Int.toNat (D.i (rs r2 0))) D.und) 3)])) (Int.toNat (D.i (rs r2 0))) (D.agg [(D.fld (List.getD (D.xs (D.slc (List.set (D.xs d0) (Int.toNat (D.i (rs r2 0))) (D.agg [(D.fld (List.getD (D.xs (D.slc (D.xs d0))) (Int.toNat (D.i (rs r2 0))) D.und) 0), (D.agg [(D.int (1023 : Int)), (D.fld (D.fld (List.getD (D.xs (D.slc (D.xs d0))) (Int.toNat (D.i (rs r2 0))) D.und) 1) 1)]), (D.fld (List.getD (D.xs (D.slc (D.xs d0))) (Int.toNat (D.i (rs r2 0))) D.und) 2), (D.fld (List.getD (D.xs (D.slc (D.xs d0))) (Int.toNat (D.i (rs r2 0))) D.und) 3)])))) (Int.toNat (D.i (rs r2 0))) D.und) 0), (D.agg [(D.fld (D.fld (List.getD (D.xs (D.slc (List.set (D.xs d0) (Int.toNat (D.i (rs r2 0))) (D.agg [(D.fld (List.getD (D.xs (D.slc (D.xs d0))) (Int.toNat (D.i (rs r2 0))) D.und) 0), (D.agg [(D.int (1023 : Int)), (D.fld (D.fld (List.getD (D.xs (D.slc (D.xs d0))) (Int.toNat (D.i (rs r2 0))) D.und) 1) 1)]), (D.fld (List.getD (D.xs (D.slc (D.xs d0))) (Int.toNat (D.i (rs r2 0))) D.und) 2), (D.fld (List.getD (D.xs (D.slc (D.xs d0))) (Int.toNat (D.i (rs r2 0))) D.und) 3)])))) (Int.toNat (D.i (rs r2 0))) D.und) 1) 0), (D.int (IntKind.wrap .i64 ((1024 : Int) + (D.i (rs r5 0)))))]), (D.fld (List.getD (D.xs (D.slc (List.set (D.xs d0) (Int.toNat (D.i (rs r2 0))) (D.agg [(D.fld (List.getD (D.xs (D.slc (D.xs d0))) (Int.toNat (D.i (rs r2 0))) D.und) 0), (D.agg [(D.int (1023 : Int)), (D.fld (D.fld (List.getD (D.xs (D.slc (D.xs d0))) (Int.toNat (D.i (rs r2 0))) D.und) 1) 1)]), (D.fld (List.getD (D.xs (D.slc (D.xs d0))) (Int.toNat (D.i (rs r2 0))) D.und) 2), (D.fld (List.getD (D.xs (D.slc (D.xs d0))) (Int.toNat (D.i (rs r2 0))) D.und) 3)])))) (Int.toNat (D.i (rs r2 0))) D.und) 2), (D.fld (List.getD (D.xs (D.slc (List.set (D.xs d0) (Int.toNat (D.i (rs r2 0))) (D.agg [(D.fld (List.getD (D.xs (D.slc (D.xs d0))) (Int.toNat (D.i (rs r2 0))) D.und) 0), (D.agg [(D.int (1023 : Int)), (D.fld (D.fld (List.getD (D.xs (D.slc (D.xs d0))) (Int.toNat (D.i (rs r2 0))) D.und) 1) 1)]), (D.fld (List.getD (D.xs (D.slc (D.xs d0))) (Int.toNat (D.i (rs r2 0))) D.und) 2), (D.fld (List.getD (D.xs (D.slc (D.xs d0))) (Int.toNat (D.i (rs r2 0))) D.und) 3)])))) (Int.toNat (D.i (rs r2 0))) D.und) 3)])))) (Int.toNat (D.i (rs r2 0))) D.und) 1) 0))))), (D.fld (List.getD (D.xs (D.slc (List.set (List.set (D.xs d0) (Int.toNat (D.i (rs r2 0))) (D.agg [(D.fld (List.getD (D.xs (D.slc (D.xs d0))) (Int.toNat (D.i (rs r2 0))) D.und) 0), (D.agg [(D.int (1023 : Int)), (D.fld (D.fld (List.getD (D.xs (D.slc (D.xs d0))) (Int.toNat (D.i (rs r2 0))) D.und) 1) 1)]), (D.fld (List.getD (D.xs (D.slc (D.xs d0))) (Int.toNat (D.i (rs r2 0))) D.und) 2), (D.fld (List.getD (D.xs (D.slc (D.xs d0))) (Int.toNat (D.i (rs r2 0))) D.und) 3)])) (Int.toNat (D.i (rs r2 0))) (D.agg [(D.fld (List.getD (D.xs (D.slc (List.set (D.xs d0) (Int.toNat (D.i (rs r2 0))) (D.agg [(D.fld (List.getD (D.xs (D.slc (D.xs d0))) (Int.toNat (D.i (rs r2 0))) D.und) 0), (D.agg [(D.int (1023 : Int)), (D.fld (D.fld (List.getD (D.xs (D.slc (D.xs d0))) (Int.toNat (D.i (rs r2 0))) D.und) 1) 1)]), (D.fld (List.getD (D.xs (D.slc (D.xs d0))) (Int.toNat (D.i (rs r2 0))) D.und) 2), (D.fld (List.getD (D.xs (D.slc (D.xs d0))) (Int.toNat (D.i (rs r2 0))) D.und) 3)])))) (Int.toNat (D.i (rs r2 0))) D.und) 0), (D.agg [(D.fld (D.fld (List.getD (D.xs (D.slc (List.set (D.xs d0) (Int.toNat (D.i (rs r2 0))) (D.agg [(D.fld (List.getD (D.xs (D.slc (D.xs d0))) (Int.toNat (D.i (rs r2 0))) D.und) 0), (D.agg [(D.int (1023 : Int)), (D.fld (D.fld (List.getD (D.xs (D.slc (D.xs d0))) (Int.toNat (D.i (rs r2 0))) D.und) 1) 1)]), (D.fld (List.getD (D.xs (D.slc (D.xs d0))) (Int.toNat (D.i (rs r2 0))) D.und) 2), (D.fld (List.getD (D.xs (D.slc (D.xs d0))) (Int.toNat (D.i (rs r2 0))) D.und) 3)])))) (Int.toNat (D.i (rs r2 0))) D.und) 1) 0), (D.int (IntKind.wrap .i64 ((1024 : Int) + (D.i (rs r5 0)))))]), (D.fld (List.getD (D.xs (D.slc (List.set (D.xs d0) (Int.toNat (D.i (rs r2 0))) (D.agg [(D.fld (List.getD (D.xs (D.slc (D.xs d0))) (Int.toNat (D.i (rs r2 0))) D.und) 0), (D.agg [(D.int (1023 : Int)), (D.fld (D.fld (List.getD (D.xs (D.slc (D.xs d0))) (Int.toNat (D.i (rs r2 0))) D.und) 1) 1)]), (D.fld (List.getD (D.xs (D.slc (D.xs d0))) (Int.toNat (D.i (rs r2 0))) D.und) 2), (D.fld (List.getD (D.xs (D.slc (D.xs d0))) (Int.toNat (D.i (rs r2 0))) D.und) 3)])))) (Int.toNat (D.i (rs r2 0))) D.und) 2), (D.fld (List.getD (D.xs (D.slc (List.set (D.xs d0) (Int.toNat (D.i (rs r2 0))) (D.agg [(D.fld (List.getD (D.xs (D.slc (D.xs d0))) (Int.toNat (D.i (rs r2 0))) D.und) 0), (D.agg [(D.int (1023 : Int)), (D.fld (D.fld (List.getD (D.xs (D.slc (D.xs d0))) (Int.toNat (D.i (rs r2 0))) D.und) 1) 1)]), (D.fld (List.getD (D.xs (D.slc (D.xs d0))) (Int.toNat (D.i (rs r2 0))) D.und) 2), (D.fld (List.getD (D.xs (D.slc (D.xs d0))) (Int.toNat (D.i (rs r2 0))) D.und) 3)])))) (Int.toNat (D.i (rs r2 0))) D.und) 3)])))) (Int.toNat (D.i (rs r2 0))) D.und) 3)])))]))))))))))
 (cond (iEq (D.i (rs r3 0)) (5 : Int))
 (room (((List.length (D.xs d0) : Nat) : Int) + ((List.length (D.xs d0) : Nat) : Int)) 40 ∧ (room (((List.length ((D.xs d0) ++ (D.xs d0)) : Nat) : Int) + ((List.length (D.xs d0) : Nat) : Int)) 40 ∧ (Q [(D.slc (((D.xs d0) ++ (D.xs d0)) ++ (D.xs d0)))])))
 (Q [(D.slc (D.xs d0))]))))))))))) := by kernel_rfl

/- timebound/timeboundref36.Valid -/
def L38_2 (n m0 : Nat) (x0 : D) (x8 : D) (x9 : D) (x10 : D) (Q : List D → Prop) : Prop :=
  loopK (wpC Try.prog A (hnd Try.prog A n) 38 n (cA (cA (cB (cA (cB (bodyOf Try.f38))))))) (nmK (A.loop 38 2)) m0 { sl := [(0, .imm 51 x0), (8, .imm 51 x8), (9, .imm 3 x9), (10, .imm 3 x10)], ob := [] } (kBlock 0 (kSeq (wpC Try.prog A (hnd Try.prog A n) 38 n (cB (cB (bodyOf Try.f38)))) (kEnd Try.prog Try.f38 (A.sig 38) Q)))
def L38_10 (n m0 m1 : Nat) (x0 : D) (x8 : D) (x9 : D) (x10 : D) (x61 : D) (x62 : D) (x63 : D) (xo4 : D) (Q : List D → Prop) : Prop :=
  loopK (wpC Try.prog A (hnd Try.prog A n) 38 n (cA (cA (cB (cB (cB (cB (cB (cA (cA (cB (cB (cA (cA (cB (cA (cB (bodyOf Try.f38)))))))))))))))))) (nmK (A.loop 38 10)) m1 { sl := [(0, .imm 51 x0), (4, .ptr 4 [] 75), (8, .imm 51 x8), (9, .imm 3 x9), (10, .imm 3 x10), (61, .imm 51 x61), (62, .imm 3 x62), (63, .imm 3 x63)], ob := [(4, some ⟨true, 75, .imm, xo4⟩)] } (kBlock 2 (kBlock 1 (kSeq (wpC Try.prog A (hnd Try.prog A n) 38 n (cB (cB (cB (cA (cA (cB (cA (cB (bodyOf Try.f38)))))))))) (kLoop (nmK (A.loop 38 2)) (fun g => loopK (wpC Try.prog A (hnd Try.prog A n) 38 n (cA (cA (cB (cA (cB (bodyOf Try.f38))))))) (nmK (A.loop 38 2)) m0 g (kBlock 0 (kSeq (wpC Try.prog A (hnd Try.prog A n) 38 n (cB (cB (bodyOf Try.f38)))) (kEnd Try.prog Try.f38 (A.sig 38) Q)))) (kBlock 0 (kSeq (wpC Try.prog A (hnd Try.prog A n) 38 n (cB (cB (bodyOf Try.f38)))) (kEnd Try.prog Try.f38 (A.sig 38) Q)))))))
theorem L38_2_eq (n m0 : Nat) (x0 : D) (x8 : D) (x9 : D) (x10 : D) (Q : List D → Prop) : L38_2 n (m0 + 1) x0 x8 x9 x10 Q =
 (cond (iLt (D.i x10) (D.i x9))
 ((0 ≤ (D.i x10) ∧ (D.i x10) < (D.len x8)) ∧ (True ∧ (cond (D.b (D.fld (D.el x8 (D.i x10)) 0))
 (cond (iLt (D.i (D.fld (D.fld (D.el x8 (D.i x10)) 1) 0)) (0 : Int))
 (Q [(D.bool false)])
 (cond (iLe (D.i (D.fld (D.fld (D.el x8 (D.i x10)) 1) 1)) (D.i (D.fld (D.fld (D.el x8 (D.i x10)) 1) 0)))
 (Q [(D.bool false)])
 (cond (iLt (1024 : Int) (D.i (D.fld (D.fld (D.el x8 (D.i x10)) 1) 1)))
 (Q [(D.bool false)])
 (cond (!(iEq (D.i (D.fld (D.el x8 (D.i x10)) 2)) (IntKind.wrap .i64 ((D.i (D.fld (D.fld (D.el x8 (D.i x10)) 1) 1)) - (D.i (D.fld (D.fld (D.el x8 (D.i x10)) 1) 0))))))
 (Q [(D.bool false)])
 (cond (iLt (D.i (D.fld (D.el x8 (D.i x10)) 3)) (0 : Int))
 (Q [(D.bool false)])
 (cond (iLt (1099511627776 : Int) (D.i (D.fld (D.el x8 (D.i x10)) 3)))
 (Q [(D.bool false)])
 ((0 ≤ (0 : Int) ∧ (0 : Int) ≤ (D.i x10) ∧ (D.i x10) ≤ (D.len x0)) ∧ (L38_10 n m0 n x0 x8 x9 x10 (D.slc (List.drop (Int.toNat (0 : Int)) (List.take (Int.toNat (D.i x10)) (D.xs x0)))) (D.int (D.len (D.slc (List.drop (Int.toNat (0 : Int)) (List.take (Int.toNat (D.i x10)) (D.xs x0)))))) (D.int (0 : Int)) (D.el x8 (D.i x10)) Q))))))))
 (cond (iLt (D.i (D.fld (D.fld (D.el x8 (D.i x10)) 1) 0)) (0 : Int))
 (Q [(D.bool false)])
 (cond (iLe (D.i (D.fld (D.fld (D.el x8 (D.i x10)) 1) 1)) (D.i (D.fld (D.fld (D.el x8 (D.i x10)) 1) 0)))
 (Q [(D.bool false)])
 (cond (iLt (1024 : Int) (D.i (D.fld (D.fld (D.el x8 (D.i x10)) 1) 1)))
 (Q [(D.bool false)])
 (cond (!(iEq (D.i (D.fld (D.el x8 (D.i x10)) 2)) (IntKind.wrap .i64 ((D.i (D.fld (D.fld (D.el x8 (D.i x10)) 1) 1)) - (D.i (D.fld (D.fld (D.el x8 (D.i x10)) 1) 0))))))
 (Q [(D.bool false)])
 (cond (iLt (D.i (D.fld (D.el x8 (D.i x10)) 3)) (0 : Int))
 (Q [(D.bool false)])
 (cond (iLt (1099511627776 : Int) (D.i (D.fld (D.el x8 (D.i x10)) 3)))
 (Q [(D.bool false)])
 ((0 ≤ (0 : Int) ∧ (0 : Int) ≤ (D.i x10) ∧ (D.i x10) ≤ (D.len x0)) ∧ (L38_10 n m0 n x0 x8 x9 x10 (D.slc (List.drop (Int.toNat (0 : Int)) (List.take (Int.toNat (D.i x10)) (D.xs x0)))) (D.int (D.len (D.slc (List.drop (Int.toNat (0 : Int)) (List.take (Int.toNat (D.i x10)) (D.xs x0)))))) (D.int (0 : Int)) (D.el x8 (D.i x10)) Q)))))))))))
 (Q [(D.bool (iLe (D.len x0) (10 : Int)))])) := by kernel_rfl
theorem L38_10_eq (n m0 m1 : Nat) (x0 : D) (x8 : D) (x9 : D) (x10 : D) (x61 : D) (x62 : D) (x63 : D) (xo4 : D) (Q : List D → Prop) : L38_10 n m0 (m1 + 1) x0 x8 x9 x10 x61 x62 x63 xo4 Q =
 (cond (iLt (D.i x63) (D.i x62))
 ((0 ≤ (D.i x63) ∧ (D.i x63) < (D.len x61)) ∧ (True ∧ (cond (bEq (D.b (D.fld xo4 0)) (D.b (D.fld (D.el x61 (D.i x63)) 0)))
 (cond (iLt (D.i (D.fld (D.fld xo4 1) 0)) (D.i (D.fld (D.fld (D.el x61 (D.i x63)) 1) 1)))
 (cond (iLt (D.i (D.fld (D.fld (D.el x61 (D.i x63)) 1) 0)) (D.i (D.fld (D.fld xo4 1) 1)))
 (Q [(D.bool false)])
 (L38_10 n m0 m1 x0 x8 x9 x10 x61 x62 (D.int (IntKind.wrap .i64 ((D.i x63) + (1 : Int)))) xo4 Q))
 (L38_10 n m0 m1 x0 x8 x9 x10 x61 x62 (D.int (IntKind.wrap .i64 ((D.i x63) + (1 : Int)))) xo4 Q))
 (L38_10 n m0 m1 x0 x8 x9 x10 x61 x62 (D.int (IntKind.wrap .i64 ((D.i x63) + (1 : Int)))) xo4 Q))))
 (L38_2 n  m0 x0 x8 x9 (D.int (IntKind.wrap .i64 ((D.i x10) + (1 : Int)))) Q)) := by kernel_rfl
theorem E38 (n : Nat) (d0 : D) (Q : List D → Prop) : wpF Try.prog A (n + 1) 38 [d0] Q =
 (L38_2 n  n d0 d0 (D.int (D.len d0)) (D.int (0 : Int)) Q) := by kernel_rfl
attribute [irreducible] L38_2 L38_10

/- timebound/timeboundref36.Value -/
def L43_5 (n m0 : Nat) (x0 : D) (x1 : D) (x7 : D) (x8 : D) (x14 : D) (x15 : D) (x16 : D) (Q : List D → Prop) : Prop :=
  loopK (wpC Try.prog A (hnd Try.prog A n) 43 n (cA (cA (cB (cA (cB (cB (cB (bodyOf Try.f43))))))))) (nmK (A.loop 43 5)) m0 { sl := [(0, .imm 51 x0), (1, .imm 22 x1), (7, .imm 3 x7), (8, .imm 3 x8), (14, .imm 22 x14), (15, .imm 3 x15), (16, .imm 3 x16)], ob := [] } (kBlock 0 (kSeq (wpC Try.prog A (hnd Try.prog A n) 43 n (cB (cB (cB (cB (bodyOf Try.f43)))))) (kEnd Try.prog Try.f43 (A.sig 43) Q)))
theorem L43_5_eq (n m0 : Nat) (x0 : D) (x1 : D) (x7 : D) (x8 : D) (x14 : D) (x15 : D) (x16 : D) (Q : List D → Prop) : L43_5 n (m0 + 1) x0 x1 x7 x8 x14 x15 x16 Q =
 (cond (iLt (D.i x16) (D.i x15))
 ((0 ≤ (D.i x16) ∧ (D.i x16) < (D.len x14)) ∧ (cond (iLt (D.i (D.el x14 (D.i x16))) (0 : Int))
 (Q [(D.int (0 : Int)), (D.int (0 : Int)), (D.bool false)])
 (cond (iLe (D.len x0) (D.i (D.el x14 (D.i x16))))
 (Q [(D.int (0 : Int)), (D.int (0 : Int)), (D.bool false)])
 (cond (iLt (0 : Int) (D.i x16))
 ((0 ≤ (IntKind.wrap .i64 ((D.i x16) - (1 : Int))) ∧ (IntKind.wrap .i64 ((D.i x16) - (1 : Int))) < (D.len x1)) ∧ (cond (iLe (D.i (D.el x14 (D.i x16))) (D.i (D.el x1 (IntKind.wrap .i64 ((D.i x16) - (1 : Int))))))
 (Q [(D.int (0 : Int)), (D.int (0 : Int)), (D.bool false)])
 ((0 ≤ (D.i (D.el x14 (D.i x16))) ∧ (D.i (D.el x14 (D.i x16))) < (D.len x0)) ∧ ((0 ≤ (D.i (D.el x14 (D.i x16))) ∧ (D.i (D.el x14 (D.i x16))) < (D.len x0)) ∧ (L43_5 n  m0 x0 x1 (D.int (IntKind.wrap .i64 ((D.i x7) + (D.i (D.fld (D.el x0 (D.i (D.el x14 (D.i x16)))) 3))))) (D.int (IntKind.wrap .i64 ((D.i x8) + (D.i (D.fld (D.el x0 (D.i (D.el x14 (D.i x16)))) 2))))) x14 x15 (D.int (IntKind.wrap .i64 ((D.i x16) + (1 : Int)))) Q)))))
 ((0 ≤ (D.i (D.el x14 (D.i x16))) ∧ (D.i (D.el x14 (D.i x16))) < (D.len x0)) ∧ ((0 ≤ (D.i (D.el x14 (D.i x16))) ∧ (D.i (D.el x14 (D.i x16))) < (D.len x0)) ∧ (L43_5 n  m0 x0 x1 (D.int (IntKind.wrap .i64 ((D.i x7) + (D.i (D.fld (D.el x0 (D.i (D.el x14 (D.i x16)))) 3))))) (D.int (IntKind.wrap .i64 ((D.i x8) + (D.i (D.fld (D.el x0 (D.i (D.el x14 (D.i x16)))) 2))))) x14 x15 (D.int (IntKind.wrap .i64 ((D.i x16) + (1 : Int)))) Q)))))))
 (Q [x7, x8, (D.bool true)])) := by kernel_rfl
theorem E43 (n : Nat) (d0 d1 : D) (Q : List D → Prop) : wpF Try.prog A (n + 1) 43 [d0, d1] Q =
 (wpF Try.prog A n 38 [d0] fun r1 =>
 (cond (!(D.b (rs r1 0)))
 (Q [(D.int (0 : Int)), (D.int (0 : Int)), (D.bool false)])
 (L43_5 n  n d0 d1 (D.int (0 : Int)) (D.int (0 : Int)) d1 (D.int (D.len d1)) (D.int (0 : Int)) Q))) := by kernel_rfl
attribute [irreducible] L43_5

/- timebound/timeboundref36.before -/
def L84_2 (n m0 : Nat) (x0 : D) (x1 : D) (x7 : D) (x8 : D) (Q : List D → Prop) : Prop :=
  loopK (wpC Try.prog A (hnd Try.prog A n) 84 n (cA (cA (cB (cA (cB (bodyOf Try.f84))))))) (nmK (A.loop 84 2)) m0 { sl := [(0, .imm 22 x0), (1, .imm 22 x1), (7, .imm 3 x7), (8, .imm 3 x8)], ob := [] } (kBlock 0 (kSeq (wpC Try.prog A (hnd Try.prog A n) 84 n (cB (cB (bodyOf Try.f84)))) (kEnd Try.prog Try.f84 (A.sig 84) Q)))
theorem L84_2_eq (n m0 : Nat) (x0 : D) (x1 : D) (x7 : D) (x8 : D) (Q : List D → Prop) : L84_2 n (m0 + 1) x0 x1 x7 x8 Q =
 (cond (iLt (D.i x8) (D.i x7))
 (cond (iLe (D.len x1) (D.i x8))
 (Q [(D.bool false)])
 ((0 ≤ (D.i x8) ∧ (D.i x8) < (D.len x0)) ∧ ((0 ≤ (D.i x8) ∧ (D.i x8) < (D.len x1)) ∧ (cond (!(iEq (D.i (D.el x0 (D.i x8))) (D.i (D.el x1 (D.i x8)))))
 ((0 ≤ (D.i x8) ∧ (D.i x8) < (D.len x0)) ∧ ((0 ≤ (D.i x8) ∧ (D.i x8) < (D.len x1)) ∧ (Q [(D.bool (iLt (D.i (D.el x0 (D.i x8))) (D.i (D.el x1 (D.i x8)))))])))
 (L84_2 n  m0 x0 x1 x7 (D.int (IntKind.wrap .i64 ((D.i x8) + (1 : Int)))) Q)))))
 (Q [(D.bool (iLt (D.len x0) (D.len x1)))])) := by kernel_rfl
theorem E84 (n : Nat) (d0 d1 : D) (Q : List D → Prop) : wpF Try.prog A (n + 1) 84 [d0, d1] Q =
 (L84_2 n  n d0 d1 (D.int (D.len d0)) (D.int (0 : Int)) Q) := by kernel_rfl
attribute [irreducible] L84_2

/- timebound/timeboundref36.Best -/
def L40_8 (n m0 : Nat) (x0 : D) (x1 : D) (x7 : D) (x8 : D) (x9 : D) (xo6 : D) (Q : List D → Prop) : Prop :=
  loopK (wpC Try.prog A (hnd Try.prog A n) 40 n (cA (cA (cB (cA (cB (cB (cB (cB (cB (bodyOf Try.f40))))))))))) (nmK (A.loop 40 8)) m0 { sl := [(0, .imm 51 x0), (1, .imm 3 x1), (6, .val 6 [] 22), (7, .imm 3 x7), (8, .imm 3 x8), (9, .imm 3 x9)], ob := [(6, some ⟨false, 22, (.slc .imm none), xo6⟩)] } (kBlock 0 (kSeq (wpC Try.prog A (hnd Try.prog A n) 40 n (cB (cB (cB (cB (cB (cB (bodyOf Try.f40)))))))) (kEnd Try.prog Try.f40 (A.sig 40) Q)))
def L40_12 (n m0 m1 : Nat) (x0 : D) (x1 : D) (x7 : D) (x8 : D) (x9 : D) (x33 : D) (x34 : D) (xo6 : D) (xo10 : D) (Q : List D → Prop) : Prop :=
  loopK (wpC Try.prog A (hnd Try.prog A n) 40 n (cA (cA (cB (cA (cB (cA (cA (cB (cA (cA (cB (cA (cB (cB (cB (cB (cB (bodyOf Try.f40))))))))))))))))))) (nmK (A.loop 40 12)) m1 { sl := [(0, .imm 51 x0), (1, .imm 3 x1), (6, .val 6 [] 22), (7, .imm 3 x7), (8, .imm 3 x8), (9, .imm 3 x9), (10, .val 10 [] 22), (33, .imm 3 x33), (34, .imm 3 x34)], ob := [(6, some ⟨false, 22, (.slc .imm none), xo6⟩), (10, some ⟨false, 22, (.slc .imm none), xo10⟩)] } (kBlock 2 (kSeq (wpC Try.prog A (hnd Try.prog A n) 40 n (cB (cB (cA (cA (cB (cA (cA (cB (cA (cB (cB (cB (cB (cB (bodyOf Try.f40)))))))))))))))) (kBlock 1 (kSeq (wpC Try.prog A (hnd Try.prog A n) 40 n (cB (cB (cA (cA (cB (cA (cB (cB (cB (cB (cB (bodyOf Try.f40))))))))))))) (kLoop (nmK (A.loop 40 8)) (fun g => loopK (wpC Try.prog A (hnd Try.prog A n) 40 n (cA (cA (cB (cA (cB (cB (cB (cB (cB (bodyOf Try.f40))))))))))) (nmK (A.loop 40 8)) m0 g (kBlock 0 (kSeq (wpC Try.prog A (hnd Try.prog A n) 40 n (cB (cB (cB (cB (cB (cB (bodyOf Try.f40)))))))) (kEnd Try.prog Try.f40 (A.sig 40) Q)))) (kBlock 0 (kSeq (wpC Try.prog A (hnd Try.prog A n) 40 n (cB (cB (cB (cB (cB (cB (bodyOf Try.f40)))))))) (kEnd Try.prog Try.f40 (A.sig 40) Q))))))))
theorem L40_8_eq (n m0 : Nat) (x0 : D) (x1 : D) (x7 : D) (x8 : D) (x9 : D) (xo6 : D) (Q : List D → Prop) : L40_8 n (m0 + 1) x0 x1 x7 x8 x9 xo6 Q =
 ((0 : Int) ≤ (IntKind.wrap .u64 (D.len x0)) ∧ (cond (iLt (D.i x9) (IntKind.wrap .i64 ((1 : Int) * 2 ^ (min (Int.toNat (IntKind.wrap .u64 (D.len x0))) 64))))
 (L40_12 n m0 n x0 x1 x7 x8 x9 (D.int (D.len x0)) (D.int (0 : Int)) xo6 (D.slc ([] : List D)) Q)
 (Q [xo6, (D.int (0 : Int))]))) := by kernel_rfl
theorem L40_12_eq (n m0 m1 : Nat) (x0 : D) (x1 : D) (x7 : D) (x8 : D) (x9 : D) (x33 : D) (x34 : D) (xo6 : D) (xo10 : D) (Q : List D → Prop) : L40_12 n m0 (m1 + 1) x0 x1 x7 x8 x9 x33 x34 xo6 xo10 Q =
 (cond (iLt (D.i x34) (D.i x33))
 ((0 : Int) ≤ (IntKind.wrap .u64 (D.i x34)) ∧ (cond (iEq (IntKind.wrap .i64 (((BitVec.ofInt 64 (Int.fdiv (D.i x9) (2 ^ (min (Int.toNat (IntKind.wrap .u64 (D.i x34))) 64)))) &&& (BitVec.ofInt 64 (1 : Int))).toNat : Int)) (1 : Int))
 (room (((List.length (D.xs xo10) : Nat) : Int) + ((List.length [x34] : Nat) : Int)) 8 ∧ (L40_12 n m0 m1 x0 x1 x7 x8 x9 x33 (D.int (IntKind.wrap .i64 ((D.i x34) + (1 : Int)))) xo6 (D.slc ((D.xs xo10) ++ [x34])) Q))
 (L40_12 n m0 m1 x0 x1 x7 x8 x9 x33 (D.int (IntKind.wrap .i64 ((D.i x34) + (1 : Int)))) xo6 xo10 Q)))
 (wpF Try.prog A n 43 [x0, xo10] fun r2 =>
 (cond (iLe (D.i (rs r2 1)) (D.i x1))
 (cond (iLt (D.i x7) (D.i (rs r2 0)))
 (L40_8 n  m0 x0 x1 (rs r2 0) (rs r2 1) (D.int (IntKind.wrap .i64 ((D.i x9) + (1 : Int)))) xo10 Q)
 (cond (iEq (D.i (rs r2 0)) (D.i x7))
 (cond (iLt (D.i (rs r2 1)) (D.i x8))
 (L40_8 n  m0 x0 x1 (rs r2 0) (rs r2 1) (D.int (IntKind.wrap .i64 ((D.i x9) + (1 : Int)))) xo10 Q)
 (cond (iEq (D.i (rs r2 1)) (D.i x8))
 (wpF Try.prog A n 84 [xo10, xo6] fun r3 =>
 (cond (D.b (rs r3 0))
 (L40_8 n  m0 x0 x1 (rs r2 0) (rs r2 1) (D.int (IntKind.wrap .i64 ((D.i x9) + (1 : Int)))) xo10 Q)
 (L40_8 n  m0 x0 x1 x7 x8 (D.int (IntKind.wrap .i64 ((D.i x9) + (1 : Int)))) xo6 Q)))
 (L40_8 n  m0 x0 x1 x7 x8 (D.int (IntKind.wrap .i64 ((D.i x9) + (1 : Int)))) xo6 Q)))
 (L40_8 n  m0 x0 x1 x7 x8 (D.int (IntKind.wrap .i64 ((D.i x9) + (1 : Int)))) xo6 Q)))
 (L40_8 n  m0 x0 x1 x7 x8 (D.int (IntKind.wrap .i64 ((D.i x9) + (1 : Int)))) xo6 Q)))) := by kernel_rfl
theorem E40 (n : Nat) (d0 d1 : D) (Q : List D → Prop) : wpF Try.prog A (n + 1) 40 [d0, d1] Q =
 (wpF Try.prog A n 38 [d0] fun r1 =>
 (cond (!(D.b (rs r1 0)))
 (Q [(D.slc ([] : List D)), (D.int (43 : Int))])
 (cond (iLt (D.i d1) (0 : Int))
 (Q [(D.slc ([] : List D)), (D.int (3 : Int))])
 (cond (iLt (256 : Int) (D.i d1))
 (Q [(D.slc ([] : List D)), (D.int (3 : Int))])
 (L40_8 n  n d0 d1 (D.int (0 : Int)) (D.int (0 : Int)) (D.int (1 : Int)) (D.slc ([] : List D)) Q))))) := by kernel_rfl
attribute [irreducible] L40_8 L40_12

/- timebound/timeboundref01.SameInts -/
def L41_4 (n m0 : Nat) (x0 : D) (x1 : D) (x5 : D) (Q : List D → Prop) : Prop :=
  loopK (wpC Try.prog A (hnd Try.prog A n) 41 n (cA (cA (cB (cA (cB (cB (bodyOf Try.f41)))))))) (nmK (A.loop 41 4)) m0 { sl := [(0, .imm 22 x0), (1, .imm 22 x1), (5, .imm 3 x5)], ob := [] } (kBlock 0 (kSeq (wpC Try.prog A (hnd Try.prog A n) 41 n (cB (cB (cB (bodyOf Try.f41))))) (kEnd Try.prog Try.f41 (A.sig 41) Q)))
theorem L41_4_eq (n m0 : Nat) (x0 : D) (x1 : D) (x5 : D) (Q : List D → Prop) : L41_4 n (m0 + 1) x0 x1 x5 Q =
 (cond (iLt (D.i x5) (D.len x0))
 ((0 ≤ (D.i x5) ∧ (D.i x5) < (D.len x0)) ∧ ((0 ≤ (D.i x5) ∧ (D.i x5) < (D.len x1)) ∧ (cond (!(iEq (D.i (D.el x0 (D.i x5))) (D.i (D.el x1 (D.i x5)))))
 (Q [(D.bool false)])
 (L41_4 n  m0 x0 x1 (D.int (IntKind.wrap .i64 ((D.i x5) + (1 : Int)))) Q))))
 (Q [(D.bool true)])) := by kernel_rfl
theorem E41 (n : Nat) (d0 d1 : D) (Q : List D → Prop) : wpF Try.prog A (n + 1) 41 [d0, d1] Q =
 (cond (!(iEq (D.len d0) (D.len d1)))
 (Q [(D.bool false)])
 (L41_4 n  n d0 d1 (D.int (0 : Int)) Q)) := by kernel_rfl
attribute [irreducible] L41_4

/- timebound/timeboundlaw36.ScratchBest -/
def L7_6 (n m0 : Nat) (x1 : D) (x3 : D) (x51 : D) (x52 : D) (xo41 : D) (xo50 : D) (Q : List D → Prop) : Prop :=
  loopK (wpC Try.prog A (hnd Try.prog A n) 7 n (cA (cA (cB (cA (cB (cB (cB (cB (bodyOf Try.f7)))))))))) (nmK (A.loop 7 6)) m0 { sl := [(1, .imm 22 x1), (3, .imm 3 x3), (13, .ptr 41 [] 110), (50, .val 50 [] 54), (51, .imm 3 x51), (52, .imm 3 x52)], ob := [(41, some ⟨true, 110, .imm, xo41⟩), (50, some ⟨false, 54, (.slc .imm none), xo50⟩)] } (kBlock 0 (kSeq (wpC Try.prog A (hnd Try.prog A n) 7 n (cB (cB (cB (cB (cB (bodyOf Try.f7))))))) (kEnd Try.prog Try.f7 (A.sig 7) Q)))
def L7_11 (n m0 m1 : Nat) (x1 : D) (x3 : D) (x16 : D) (x51 : D) (x52 : D) (x68 : D) (x69 : D) (xo41 : D) (xo50 : D) (xo67 : D) (Q : List D → Prop) : Prop :=
  loopK (wpC Try.prog A (hnd Try.prog A n) 7 n (cA (cA (cB (cA (cB (cB (cA (cA (cB (cB (cA (cA (cB (cA (cB (cB (cB (cB (bodyOf Try.f7)))))))))))))))))))) (nmK (A.loop 7 11)) m1 { sl := [(1, .imm 22 x1), (3, .imm 3 x3), (13, .ptr 41 [] 110), (16, .imm 51 x16), (50, .val 50 [] 54), (51, .imm 3 x51), (52, .imm 3 x52), (67, .val 67 [] 22), (68, .imm 3 x68), (69, .imm 3 x69)], ob := [(41, some ⟨true, 110, .imm, xo41⟩), (50, some ⟨false, 54, (.slc .imm none), xo50⟩), (67, some ⟨false, 22, (.slc .imm none), xo67⟩)] } (kBlock 2 (kSeq (wpC Try.prog A (hnd Try.prog A n) 7 n (cB (cB (cB (cA (cA (cB (cB (cA (cA (cB (cA (cB (cB (cB (cB (bodyOf Try.f7))))))))))))))))) (kBlock 1 (kSeq (wpC Try.prog A (hnd Try.prog A n) 7 n (cB (cB (cB (cA (cA (cB (cA (cB (cB (cB (cB (bodyOf Try.f7))))))))))))) (kLoop (nmK (A.loop 7 6)) (fun g => loopK (wpC Try.prog A (hnd Try.prog A n) 7 n (cA (cA (cB (cA (cB (cB (cB (cB (bodyOf Try.f7)))))))))) (nmK (A.loop 7 6)) m0 g (kBlock 0 (kSeq (wpC Try.prog A (hnd Try.prog A n) 7 n (cB (cB (cB (cB (cB (bodyOf Try.f7))))))) (kEnd Try.prog Try.f7 (A.sig 7) Q)))) (kBlock 0 (kSeq (wpC Try.prog A (hnd Try.prog A n) 7 n (cB (cB (cB (cB (cB (bodyOf Try.f7))))))) (kEnd Try.prog Try.f7 (A.sig 7) Q))))))))
def L7_19 (n m0 m1 : Nat) (x1 : D) (x3 : D) (x16 : D) (x51 : D) (x52 : D) (x102 : D) (x103 : D) (xo41 : D) (xo50 : D) (xo101 : D) (Q : List D → Prop) : Prop :=
  loopK (wpC Try.prog A (hnd Try.prog A n) 7 n (cA (cA (cB (cB (cB (cB (cA (cA (cB (cB (cA (cA (cB (cA (cB (cB (cB (cB (bodyOf Try.f7)))))))))))))))))))) (nmK (A.loop 7 19)) m1 { sl := [(1, .imm 22 x1), (3, .imm 3 x3), (13, .ptr 41 [] 110), (16, .imm 51 x16), (50, .val 50 [] 54), (51, .imm 3 x51), (52, .imm 3 x52), (101, .val 101 [] 28), (102, .imm 3 x102), (103, .imm 3 x103)], ob := [(41, some ⟨true, 110, .imm, xo41⟩), (50, some ⟨false, 54, (.slc .imm none), xo50⟩), (101, some ⟨false, 28, (.slc .imm none), xo101⟩)] } (kBlock 4 (kBlock 1 (kSeq (wpC Try.prog A (hnd Try.prog A n) 7 n (cB (cB (cB (cA (cA (cB (cA (cB (cB (cB (cB (bodyOf Try.f7))))))))))))) (kLoop (nmK (A.loop 7 6)) (fun g => loopK (wpC Try.prog A (hnd Try.prog A n) 7 n (cA (cA (cB (cA (cB (cB (cB (cB (bodyOf Try.f7)))))))))) (nmK (A.loop 7 6)) m0 g (kBlock 0 (kSeq (wpC Try.prog A (hnd Try.prog A n) 7 n (cB (cB (cB (cB (cB (bodyOf Try.f7))))))) (kEnd Try.prog Try.f7 (A.sig 7) Q)))) (kBlock 0 (kSeq (wpC Try.prog A (hnd Try.prog A n) 7 n (cB (cB (cB (cB (cB (bodyOf Try.f7))))))) (kEnd Try.prog Try.f7 (A.sig 7) Q)))))))
theorem L7_6_eq (n m0 : Nat) (x1 : D) (x3 : D) (x51 : D) (x52 : D) (xo41 : D) (xo50 : D) (Q : List D → Prop) : L7_6 n (m0 + 1) x1 x3 x51 x52 xo41 xo50 Q =
 (cond (iLt (D.i x52) (D.i x51))
 ((0 ≤ (D.i x52) ∧ (D.i x52) < (D.len xo50)) ∧ (wpF Try.prog A n 37 [(List.getD (D.xs xo50) (Int.toNat (D.i x52)) D.und)] fun r6 =>
 (wpF Try.prog A n 38 [(List.getD (D.xs xo50) (Int.toNat (D.i x52)) D.und)] fun r7 =>
 (cond (!(bEq (D.b (rs r6 0)) (D.b (rs r7 0))))
 (Q [(D.bool false)])
 (wpF Try.prog A n 18 [xo41, (D.int (40 : Int))] fun r8 =>
 (wpF Try.prog A n 31 [x3, (D.int (260 : Int))] fun r9 =>
 (L7_11 n m0 n x1 x3 (List.getD (D.xs xo50) (Int.toNat (D.i x52)) D.und) x51 x52 (D.int (D.len (D.slc [x3, (rs r8 0), (D.int (IntKind.wrap .i64 ((D.i (rs r9 0)) - (1 : Int))))]))) (D.int (0 : Int)) (rs r8 1) xo50 (D.slc [x3, (rs r8 0), (D.int (IntKind.wrap .i64 ((D.i (rs r9 0)) - (1 : Int))))]) Q)))))))
 (wpF Try.prog A n 34 [] fun r16 =>
 (Q [(rs r16 0)]))) := by kernel_rfl
theorem L7_11_eq (n m0 m1 : Nat) (x1 : D) (x3 : D) (x16 : D) (x51 : D) (x52 : D) (x68 : D) (x69 : D) (xo41 : D) (xo50 : D) (xo67 : D) (Q : List D → Prop) : L7_11 n m0 (m1 + 1) x1 x3 x16 x51 x52 x68 x69 xo41 xo50 xo67 Q =
 (cond (iLt (D.i x69) (D.i x68))
 ((0 ≤ (D.i x69) ∧ (D.i x69) < (D.len xo67)) ∧ (wpF Try.prog A n 39 [x16, (List.getD (D.xs xo67) (Int.toNat (D.i x69)) D.und)] fun r10 =>
 (wpF Try.prog A n 40 [x16, (List.getD (D.xs xo67) (Int.toNat (D.i x69)) D.und)] fun r11 =>
 (cond (!(iEq (D.i (rs r10 1)) (D.i (rs r11 1))))
 (Q [(D.bool false)])
 (wpF Try.prog A n 41 [(rs r10 0), (rs r11 0)] fun r12 =>
 (cond (!(D.b (rs r12 0)))
 (Q [(D.bool false)])
 (L7_11 n m0 m1 x1 x3 x16 x51 x52 x68 (D.int (IntKind.wrap .i64 ((D.i x69) + (1 : Int)))) xo41 xo50 xo67 Q)))))))
 (wpF Try.prog A n 18 [xo41, (D.int (3 : Int))] fun r13 =>
 (L7_19 n m0 n x1 x3 x16 x51 x52 (D.int (D.len (D.slc [x1, (D.slc [(D.int (0 : Int)), (D.int (2 : Int))]), (D.slc [(rs r13 0)]), (D.slc [(D.int (1 : Int)), (D.int (0 : Int))])]))) (D.int (0 : Int)) (rs r13 1) xo50 (D.slc [x1, (D.slc [(D.int (0 : Int)), (D.int (2 : Int))]), (D.slc [(rs r13 0)]), (D.slc [(D.int (1 : Int)), (D.int (0 : Int))])]) Q))) := by kernel_rfl
theorem L7_19_eq (n m0 m1 : Nat) (x1 : D) (x3 : D) (x16 : D) (x51 : D) (x52 : D) (x102 : D) (x103 : D) (xo41 : D) (xo50 : D) (xo101 : D) (Q : List D → Prop) : L7_19 n m0 (m1 + 1) x1 x3 x16 x51 x52 x102 x103 xo41 xo50 xo101 Q =
 (cond (iLt (D.i x103) (D.i x102))
 ((0 ≤ (D.i x103) ∧ (D.i x103) < (D.len xo101)) ∧ (wpF Try.prog A n 42 [x16, (List.getD (D.xs xo101) (Int.toNat (D.i x103)) D.und)] fun r14 =>
 (wpF Try.prog A n 43 [x16, (List.getD (D.xs xo101) (Int.toNat (D.i x103)) D.und)] fun r15 =>
 (cond (!(iEq (D.i (rs r14 0)) (D.i (rs r15 0))))
 (Q [(D.bool false)])
 (cond (!(iEq (D.i (rs r14 1)) (D.i (rs r15 1))))
 (Q [(D.bool false)])
 (cond (!(bEq (D.b (rs r14 2)) (D.b (rs r15 2))))
 (Q [(D.bool false)])
 (L7_19 n m0 m1 x1 x3 x16 x51 x52 x102 (D.int (IntKind.wrap .i64 ((D.i x103) + (1 : Int)))) xo41 xo50 xo101 Q)))))))
 (L7_6 n  m0 x1 x3 x51 (D.int (IntKind.wrap .i64 ((D.i x52) + (1 : Int)))) xo41 xo50 Q)) := by kernel_rfl
theorem E7 (n : Nat) (d0 d1 d2 d3 d4 d5 : D) (Q : List D → Prop) : wpF Try.prog A (n + 1) 7 [d0, d1, d2, d3, d4, d5] Q =
 (cond (iLt (12 : Int) (D.len d0))
 (wpF Try.prog A n 34 [] fun r1 =>
 (Q [(rs r1 0)]))
 (cond (iLt (30 : Int) (D.len d1))
 (wpF Try.prog A n 34 [] fun r2 =>
 (Q [(rs r2 0)]))
 (wpF Try.prog A n 15 [d2] fun r3 =>
 (wpF Try.prog A n 35 [(rs r3 0)] fun r4 =>
 (wpF Try.prog A n 36 [(rs r4 0), d4, d5] fun r5 =>
 (L7_6 n  n d1 d3 (D.int (D.len (D.slc [(rs r4 0), (rs r5 0), d0]))) (D.int (0 : Int)) (rs r4 1) (D.slc [(rs r4 0), (rs r5 0), d0]) Q)))))) := by kernel_rfl
attribute [irreducible] L7_6 L7_11 L7_19

/- timebound/timeboundlaw36.ScratchMore -/
def L8_12 (n m0 : Nat) (x3 : D) (x11 : D) (x16 : D) (x87 : D) (x88 : D) (xo22 : D) (xo30 : D) (Q : List D → Prop) : Prop :=
  loopK (wpC Try.prog A (hnd Try.prog A n) 8 n (cA (cA (cB (cA (cB (cB (cB (cB (cB (cB (cB (cB (cB (cB (bodyOf Try.f8)))))))))))))))) (nmK (A.loop 8 12)) m0 { sl := [(3, .imm 3 x3), (10, .val 30 [] 51), (11, .imm 3 x11), (16, .imm 3 x16), (22, .val 22 [] 22), (87, .imm 3 x87), (88, .imm 3 x88)], ob := [(22, some ⟨false, 22, (.slc .imm none), xo22⟩), (30, some ⟨false, 51, (.slc .imm none), xo30⟩)] } (kBlock 0 (kSeq (wpC Try.prog A (hnd Try.prog A n) 8 n (cB (cB (cB (cB (cB (cB (cB (cB (cB (cB (cB (bodyOf Try.f8))))))))))))) (kEnd Try.prog Try.f8 (A.sig 8) Q)))
theorem L8_12_eq (n m0 : Nat) (x3 : D) (x11 : D) (x16 : D) (x87 : D) (x88 : D) (xo22 : D) (xo30 : D) (Q : List D → Prop) : L8_12 n (m0 + 1) x3 x11 x16 x87 x88 xo22 xo30 Q =
 (cond (iLt (D.i x88) (D.i x87))
 ((0 : Int) ≤ (IntKind.wrap .u64 (D.i x88)) ∧ (cond (iEq (IntKind.wrap .i64 (((BitVec.ofInt 64 (Int.fdiv (D.i x3) (2 ^ (min (Int.toNat (IntKind.wrap .u64 (D.i x88))) 64)))) &&& (BitVec.ofInt 64 (1 : Int))).toNat : Int)) (1 : Int))
 (room (((List.length (D.xs xo22) : Nat) : Int) + ((List.length [x88] : Nat) : Int)) 8 ∧ (L8_12 n  m0 x3 x11 x16 x87 (D.int (IntKind.wrap .i64 ((D.i x88) + (1 : Int)))) (D.slc ((D.xs xo22) ++ [x88])) xo30 Q))
 (L8_12 n  m0 x3 x11 x16 x87 (D.int (IntKind.wrap .i64 ((D.i x88) + (1 : Int)))) xo22 xo30 Q)))
 (wpF Try.prog A n 42 [xo30, xo22] fun r9 =>
 (cond (iLt (D.i x11) (D.i (rs r9 1)))
 (wpF Try.prog A n 34 [] fun r10 =>
 (Q [(rs r10 0)]))
 (cond (iLe (D.i (rs r9 0)) (D.i x16))
 (wpF Try.prog A n 34 [] fun r11 =>
 (Q [(rs r11 0)]))
 (Q [(D.bool false)]))))) := by kernel_rfl
theorem E8 (n : Nat) (d0 d1 d2 d3 : D) (Q : List D → Prop) : wpF Try.prog A (n + 1) 8 [d0, d1, d2, d3] Q =
 (wpF Try.prog A n 15 [d0] fun r1 =>
 (wpF Try.prog A n 35 [(rs r1 0)] fun r2 =>
 (wpF Try.prog A n 31 [d1, (D.int (60 : Int))] fun r3 =>
 (wpF Try.prog A n 39 [(rs r2 0), (rs r3 0)] fun r4 =>
 (wpF Try.prog A n 31 [d2, (D.int (30 : Int))] fun r5 =>
 (wpF Try.prog A n 39 [(rs r2 0), (D.int (IntKind.wrap .i64 ((D.i (rs r3 0)) + (D.i (rs r5 0)))))] fun r6 =>
 (wpF Try.prog A n 42 [(rs r2 0), (rs r4 0)] fun r7 =>
 (wpF Try.prog A n 42 [(rs r2 0), (rs r6 0)] fun r8 =>
 (cond (!(iEq (D.i (rs r4 1)) (0 : Int)))
 (Q [(D.bool false)])
 (cond (!(iEq (D.i (rs r6 1)) (0 : Int)))
 (Q [(D.bool false)])
 (cond (!(D.b (rs r7 2)))
 (Q [(D.bool false)])
 (cond (!(D.b (rs r8 2)))
 (Q [(D.bool false)])
 (cond (iLt (D.i (rs r8 0)) (D.i (rs r7 0)))
 (Q [(D.bool false)])
 (cond (iLt (D.i (rs r3 0)) (D.i (rs r7 1)))
 (Q [(D.bool false)])
 (L8_12 n  n d3 (rs r3 0) (rs r7 0) (D.int (D.len (rs r2 0))) (D.int (0 : Int)) (D.slc ([] : List D)) (rs r2 0) Q))))))))))))))) := by kernel_rfl
attribute [irreducible] L8_12

/- timebound/timeboundmake.Processor -/
theorem E44 (n : Nat) (d0 : D) (Q : List D → Prop) : wpF Try.prog A (n + 1) 44 [d0] Q =
 (wpF Try.prog A n 65 [d0] fun r1 =>
 (wpF Try.prog A n 65 [(rs r1 1)] fun r2 =>
 (wpF Try.prog A n 18 [(rs r2 1), (D.int (12 : Int))] fun r3 =>
 (wpF Try.prog A n 18 [(rs r3 1), (D.int (4 : Int))] fun r4 =>
 (wpF Try.prog A n 18 [(rs r4 1), (D.int (4 : Int))] fun r5 =>
 (wpF Try.prog A n 18 [(rs r5 1), (D.int (6 : Int))] fun r6 =>
 (wpF Try.prog A n 18 [(rs r6 1), (D.int (5 : Int))] fun r7 =>
 (wpF Try.prog A n 18 [(rs r7 1), (D.int (5 : Int))] fun r8 =>
 (wpF Try.prog A n 18 [(rs r8 1), (D.int (3 : Int))] fun r9 =>
 (wpF Try.prog A n 18 [(rs r9 1), (D.int (4 : Int))] fun r10 =>
 (wpF Try.prog A n 18 [(rs r10 1), (D.int (9 : Int))] fun r11 =>
 (True ∧ (wpF Try.prog A n 18 [(rs r11 1), (D.int (3 : Int))] fun r12 =>
 (cond (iEq (D.i (rs r12 0)) (2 : Int))
 (wpF Try.prog A n 18 [(rs r12 1), (D.int (100 : Int))] fun r13 =>
 (wpF Try.prog A n 18 [(rs r13 1), (D.int (40 : Int))] fun r14 =>
 (True ∧ (wpF Try.prog A n 18 [(rs r14 1), (D.int (3 : Int))] fun r15 =>
 (cond (iEq (D.i (rs r15 0)) (2 : Int))
 (wpF Try.prog A n 18 [(rs r15 1), (D.int (30 : Int))] fun r16 =>
 (wpF Try.prog A n 18 [(rs r16 1), (D.int (20 : Int))] fun r17 =>
 (True ∧ (True ∧ (Q [(D.agg [(rs r1 0), (rs r2 0), (rs r3 0), (rs r4 0), (D.int (IntKind.wrap .i64 ((1 : Int) + (D.i (rs r5 0))))), (rs r6 0), (rs r7 0), (rs r8 0), (rs r9 0), (rs r10 0), (rs r11 0), (D.slc [(D.agg [(rs r13 0), (D.int (IntKind.wrap .i64 ((D.i (rs r13 0)) + (D.i (rs r14 0)))))])]), (D.slc [(D.agg [(rs r16 0), (D.int (IntKind.wrap .i64 ((D.i (rs r16 0)) + (D.i (rs r17 0)))))])])]), (rs r17 1)])))))
 (True ∧ (Q [(D.agg [(rs r1 0), (rs r2 0), (rs r3 0), (rs r4 0), (D.int (IntKind.wrap .i64 ((1 : Int) + (D.i (rs r5 0))))), (rs r6 0), (rs r7 0), (rs r8 0), (rs r9 0), (rs r10 0), (rs r11 0), (D.slc [(D.agg [(rs r13 0), (D.int (IntKind.wrap .i64 ((D.i (rs r13 0)) + (D.i (rs r14 0)))))])]), (D.slc ([] : List D))]), (rs r15 1)])))))))
 (wpF Try.prog A n 18 [(rs r12 1), (D.int (3 : Int))] fun r18 =>
 (cond (iEq (D.i (rs r18 0)) (2 : Int))
 (wpF Try.prog A n 18 [(rs r18 1), (D.int (30 : Int))] fun r19 =>
 (wpF Try.prog A n 18 [(rs r19 1), (D.int (20 : Int))] fun r20 =>
 (True ∧ (True ∧ (Q [(D.agg [(rs r1 0), (rs r2 0), (rs r3 0), (rs r4 0), (D.int (IntKind.wrap .i64 ((1 : Int) + (D.i (rs r5 0))))), (rs r6 0), (rs r7 0), (rs r8 0), (rs r9 0), (rs r10 0), (rs r11 0), (D.slc ([] : List D)), (D.slc [(D.agg [(rs r19 0), (D.int (IntKind.wrap .i64 ((D.i (rs r19 0)) + (D.i (rs r20 0)))))])])]), (rs r20 1)])))))
 (True ∧ (Q [(D.agg [(rs r1 0), (rs r2 0), (rs r3 0), (rs r4 0), (D.int (IntKind.wrap .i64 ((1 : Int) + (D.i (rs r5 0))))), (rs r6 0), (rs r7 0), (rs r8 0), (rs r9 0), (rs r10 0), (rs r11 0), (D.slc ([] : List D)), (D.slc ([] : List D))]), (rs r18 1)])))))))))))))))))) := by kernel_rfl

/- timebound/timing.between -/
theorem E115 (n : Nat) (d0 d1 d2 : D) (Q : List D → Prop) : wpF Try.prog A (n + 1) 115 [d0, d1, d2] Q =
 (cond (iLe (D.i d1) (D.i d0))
 (Q [(D.bool (iLe (D.i d0) (D.i d2)))])
 (Q [(D.bool false)])) := by kernel_rfl

/- slices.IndexFunc[[]timebound/api.Span,timebound/api.Span] -/
def L137_2 (n m0 : Nat) (x0 : D) (x1 : D) (x7 : D) (x8 : D) (Q : List D → Prop) : Prop :=
  loopK (wpC Try.prog A (hnd Try.prog A n) 137 n (cA (cA (cB (cA (cB (bodyOf Try.f137))))))) (nmK (A.loop 137 2)) m0 { sl := [(0, .imm 65 x0), (1, .imm 177 x1), (7, .imm 3 x7), (8, .imm 3 x8)], ob := [] } (kBlock 0 (kSeq (wpC Try.prog A (hnd Try.prog A n) 137 n (cB (cB (bodyOf Try.f137)))) (kEnd Try.prog Try.f137 (A.sig 137) Q)))
theorem L137_2_eq (n m0 : Nat) (x0 : D) (x1 : D) (x7 : D) (x8 : D) (Q : List D → Prop) : L137_2 n (m0 + 1) x0 x1 x7 x8 Q =
 (cond (iLt (D.i x8) (D.i x7))
 ((0 ≤ (D.i x8) ∧ (D.i x8) < (D.len x0)) ∧ (dynH A (wpF Try.prog A n) x1 [.imm 73] [.val 4 .imm] [(D.el x0 (D.i x8))] fun r1 =>
 (cond (D.b (rs r1 0))
 (Q [x8])
 (L137_2 n  m0 x0 x1 x7 (D.int (IntKind.wrap .i64 ((D.i x8) + (1 : Int)))) Q))))
 (Q [(D.int (-1 : Int))])) := by kernel_rfl
theorem E137 (n : Nat) (d0 d1 : D) (Q : List D → Prop) : wpF Try.prog A (n + 1) 137 [d0, d1] Q =
 (L137_2 n  n d0 d1 (D.int (D.len d0)) (D.int (0 : Int)) Q) := by kernel_rfl
attribute [irreducible] L137_2

/- slices.ContainsFunc[[]timebound/api.Span,timebound/api.Span] -/
theorem E131 (n : Nat) (d0 d1 : D) (Q : List D → Prop) : wpF Try.prog A (n + 1) 131 [d0, d1] Q =
 (wpF Try.prog A n 137 [d0, d1] fun r1 =>
 (Q [(D.bool (iLe (0 : Int) (D.i (rs r1 0))))])) := by kernel_rfl

/- timebound/timing.placed$1 -/
theorem E132 (n : Nat) (d0 d1 : D) (Q : List D → Prop) : wpF Try.prog A (n + 1) 132 [d0, d1] Q =
 (cond (iLt (D.i (D.fld d0 0)) (0 : Int))
 (Q [(D.bool true)])
 (cond (iLt (D.i (D.fld d0 1)) (D.i (D.fld d0 0)))
 (Q [(D.bool true)])
 (Q [(D.bool (iLt (D.i d1) (D.i (D.fld d0 1))))]))) := by kernel_rfl

/- timebound/timing.placed -/
theorem E116 (n : Nat) (d0 d1 : D) (Q : List D → Prop) : wpF Try.prog A (n + 1) 116 [d0, d1] Q =
 (cond (iLe (D.len d0) (16 : Int))
 (wpF Try.prog A n 131 [d0, (D.fn 132 [(D.ptr d1)])] fun r1 =>
 (Q [(D.bool (!(D.b (rs r1 0))))]))
 (Q [(D.bool false)])) := by kernel_rfl

/- timebound/timing.Check -/
def L86_8 (n m0 : Nat) (x32 : D) (x33 : D) (xo1 : D) (xo31 : D) (Q : List D → Prop) : Prop :=
  loopK (wpC Try.prog A (hnd Try.prog A n) 86 n (cA (cA (cB (cA (cB (cB (cB (bodyOf Try.f86))))))))) (nmK (A.loop 86 8)) m0 { sl := [(1, .ptr 1 [] 67), (31, .val 31 [] 22), (32, .imm 3 x32), (33, .imm 3 x33)], ob := [(1, some ⟨true, 67, .imm, xo1⟩), (31, some ⟨false, 22, (.slc .imm none), xo31⟩)] } (kBlock 0 (kSeq (wpC Try.prog A (hnd Try.prog A n) 86 n (cB (cB (cB (cB (bodyOf Try.f86)))))) (kEnd Try.prog Try.f86 (A.sig 86) Q)))
theorem L86_8_eq (n m0 : Nat) (x32 : D) (x33 : D) (xo1 : D) (xo31 : D) (Q : List D → Prop) : L86_8 n (m0 + 1) x32 x33 xo1 xo31 Q =
 (cond (iLt (D.i x33) (D.i x32))
 ((0 ≤ (D.i x33) ∧ (D.i x33) < (D.len xo31)) ∧ (wpF Try.prog A n 115 [(List.getD (D.xs xo31) (Int.toNat (D.i x33)) D.und), (D.int (0 : Int)), (D.int (100 : Int))] fun r3 =>
 (cond (!(D.b (rs r3 0)))
 (Q [(D.int (3 : Int))])
 (L86_8 n  m0 x32 (D.int (IntKind.wrap .i64 ((D.i x33) + (1 : Int)))) xo1 xo31 Q))))
 (wpF Try.prog A n 115 [(D.fld xo1 3), (D.int (0 : Int)), (D.int (8 : Int))] fun r4 =>
 (cond (!(D.b (rs r4 0)))
 (Q [(D.int (3 : Int))])
 (wpF Try.prog A n 115 [(D.fld xo1 4), (D.int (1 : Int)), (D.int (16 : Int))] fun r5 =>
 (cond (!(D.b (rs r5 0)))
 (Q [(D.int (3 : Int))])
 (wpF Try.prog A n 115 [(D.fld xo1 6), (D.int (0 : Int)), (D.int (16 : Int))] fun r6 =>
 (cond (!(D.b (rs r6 0)))
 (Q [(D.int (3 : Int))])
 (wpF Try.prog A n 116 [(D.fld xo1 11), (D.int (1024 : Int))] fun r7 =>
 (cond (!(D.b (rs r7 0)))
 (Q [(D.int (3 : Int))])
 (wpF Try.prog A n 116 [(D.fld xo1 12), (D.int (1024 : Int))] fun r8 =>
 (cond (!(D.b (rs r8 0)))
 (Q [(D.int (3 : Int))])
 (Q [(D.int (0 : Int))])))))))))))) := by kernel_rfl
theorem E86 (n : Nat) (d0 : D) (Q : List D → Prop) : wpF Try.prog A (n + 1) 86 [d0] Q =
 (wpF Try.prog A n 66 [(D.fld d0 0)] fun r1 =>
 (cond (!(iEq (D.i (rs r1 0)) (0 : Int)))
 (Q [(rs r1 0)])
 (wpF Try.prog A n 66 [(D.fld d0 1)] fun r2 =>
 (cond (!(iEq (D.i (rs r2 0)) (0 : Int)))
 (Q [(rs r2 0)])
 (L86_8 n  n (D.int (D.len (D.slc [(D.fld d0 2), (D.fld d0 5), (D.fld d0 7), (D.fld d0 8), (D.fld d0 9), (D.fld d0 10)]))) (D.int (0 : Int)) d0 (D.slc [(D.fld d0 2), (D.fld d0 5), (D.fld d0 7), (D.fld d0 8), (D.fld d0 9), (D.fld d0 10)]) Q))))) := by kernel_rfl
attribute [irreducible] L86_8

/- slices.Clone[[]timebound/api.Span,timebound/api.Span] -/
theorem E87 (n : Nat) (d0 : D) (Q : List D → Prop) : wpF Try.prog A (n + 1) 87 [d0] Q =
 (∀ b1 : Bool, (b1 = true → (D.len d0) = 0) → (cond b1
 (Q [(D.slc ([] : List D))])
 (room (((List.length ([] : List D) : Nat) : Int) + ((List.length (D.xs d0) : Nat) : Int)) 16 ∧ (Q [(D.slc (([] : List D) ++ (D.xs d0)))])))) := by kernel_rfl

/- timebound/scratch.Place -/
def L45_7 (n m0 : Nat) (x1 : D) (x33 : D) (x34 : D) (x35 : D) (xo3 : D) (xo6 : D) (Q : List D → Prop) : Prop :=
  loopK (wpC Try.prog A (hnd Try.prog A n) 45 n (cA (cA (cB (cA (cB (cB (cB (cB (bodyOf Try.f45)))))))))) (nmK (A.loop 45 7)) m0 { sl := [(1, .imm 51 x1), (3, .ptr 3 [] 67), (6, .ptr 6 [] 67), (33, .imm 22 x33), (34, .imm 3 x34), (35, .imm 3 x35)], ob := [(3, some ⟨true, 67, (.agg [(11, (.slc .imm none)), (12, (.slc .imm none))]), xo3⟩), (6, some ⟨true, 67, (.agg [(11, (.slc .imm none)), (12, (.slc .imm none))]), xo6⟩)] } (kBlock 0 (kSeq (wpC Try.prog A (hnd Try.prog A n) 45 n (cB (cB (cB (cB (cB (bodyOf Try.f45))))))) (kEnd Try.prog Try.f45 (A.sig 45) Q)))
theorem L45_7_eq (n m0 : Nat) (x1 : D) (x33 : D) (x34 : D) (x35 : D) (xo3 : D) (xo6 : D) (Q : List D → Prop) : L45_7 n (m0 + 1) x1 x33 x34 x35 xo3 xo6 Q =
 (cond (iLt (D.i x35) (D.i x34))
 ((0 ≤ (D.i x35) ∧ (D.i x35) < (D.len x33)) ∧ ((0 ≤ (D.i (D.el x33 (D.i x35))) ∧ (D.i (D.el x33 (D.i x35))) < (D.len x1)) ∧ (cond (D.b (D.fld (D.el x1 (D.i (D.el x33 (D.i x35)))) 0))
 ((0 ≤ (D.i (D.el x33 (D.i x35))) ∧ (D.i (D.el x33 (D.i x35))) < (D.len x1)) ∧ (room (((List.length (D.xs (D.fld xo3 11)) : Nat) : Int) + ((List.length [(D.fld (D.el x1 (D.i (D.el x33 (D.i x35)))) 1)] : Nat) : Int)) 16 ∧ (True ∧ (L45_7 n  m0 x1 x33 x34 (D.int (IntKind.wrap .i64 ((D.i x35) + (1 : Int)))) (D.agg [(D.fld xo3 0), (D.fld xo3 1), (D.fld xo3 2), (D.fld xo3 3), (D.fld xo3 4), (D.fld xo3 5), (D.fld xo3 6), (D.fld xo3 7), (D.fld xo3 8), (D.fld xo3 9), (D.fld xo3 10), (D.slc ((D.xs (D.fld xo3 11)) ++ [(D.fld (D.el x1 (D.i (D.el x33 (D.i x35)))) 1)])), (D.fld xo3 12)]) xo6 Q))))
 ((0 ≤ (D.i (D.el x33 (D.i x35))) ∧ (D.i (D.el x33 (D.i x35))) < (D.len x1)) ∧ (room (((List.length (D.xs (D.fld xo3 12)) : Nat) : Int) + ((List.length [(D.fld (D.el x1 (D.i (D.el x33 (D.i x35)))) 1)] : Nat) : Int)) 16 ∧ (True ∧ (L45_7 n  m0 x1 x33 x34 (D.int (IntKind.wrap .i64 ((D.i x35) + (1 : Int)))) (D.agg [(D.fld xo3 0), (D.fld xo3 1), (D.fld xo3 2), (D.fld xo3 3), (D.fld xo3 4), (D.fld xo3 5), (D.fld xo3 6), (D.fld xo3 7), (D.fld xo3 8), (D.fld xo3 9), (D.fld xo3 10), (D.fld xo3 11), (D.slc ((D.xs (D.fld xo3 12)) ++ [(D.fld (D.el x1 (D.i (D.el x33 (D.i x35)))) 1)]))]) xo6 Q)))))))
 (wpF Try.prog A n 86 [xo3] fun r6 =>
 (cond (!(iEq (D.i (rs r6 0)) (0 : Int)))
 (True ∧ (Q [(D.agg [(D.agg [(D.int (0 : Int)), (D.int (0 : Int)), (D.int (0 : Int))]), (D.agg [(D.int (0 : Int)), (D.int (0 : Int)), (D.int (0 : Int))]), (D.int (0 : Int)), (D.int (0 : Int)), (D.int (0 : Int)), (D.int (0 : Int)), (D.int (0 : Int)), (D.int (0 : Int)), (D.int (0 : Int)), (D.int (0 : Int)), (D.int (0 : Int)), (D.slc ([] : List D)), (D.slc ([] : List D))]), (D.int (4 : Int))]))
 (True ∧ (Q [xo3, (D.int (0 : Int))]))))) := by kernel_rfl
theorem E45 (n : Nat) (d0 d1 d2 : D) (Q : List D → Prop) : wpF Try.prog A (n + 1) 45 [d0, d1, d2] Q =
 (wpF Try.prog A n 86 [d0] fun r1 =>
 (cond (!(iEq (D.i (rs r1 0)) (0 : Int)))
 (True ∧ (Q [(D.agg [(D.agg [(D.int (0 : Int)), (D.int (0 : Int)), (D.int (0 : Int))]), (D.agg [(D.int (0 : Int)), (D.int (0 : Int)), (D.int (0 : Int))]), (D.int (0 : Int)), (D.int (0 : Int)), (D.int (0 : Int)), (D.int (0 : Int)), (D.int (0 : Int)), (D.int (0 : Int)), (D.int (0 : Int)), (D.int (0 : Int)), (D.int (0 : Int)), (D.slc ([] : List D)), (D.slc ([] : List D))]), (D.int (32 : Int))]))
 (wpF Try.prog A n 37 [d1] fun r2 =>
 (cond (!(D.b (rs r2 0)))
 (True ∧ (Q [(D.agg [(D.agg [(D.int (0 : Int)), (D.int (0 : Int)), (D.int (0 : Int))]), (D.agg [(D.int (0 : Int)), (D.int (0 : Int)), (D.int (0 : Int))]), (D.int (0 : Int)), (D.int (0 : Int)), (D.int (0 : Int)), (D.int (0 : Int)), (D.int (0 : Int)), (D.int (0 : Int)), (D.int (0 : Int)), (D.int (0 : Int)), (D.int (0 : Int)), (D.slc ([] : List D)), (D.slc ([] : List D))]), (D.int (43 : Int))]))
 (wpF Try.prog A n 85 [(D.int (D.len d1)), d2] fun r3 =>
 (cond (!(D.b (rs r3 0)))
 (True ∧ (Q [(D.agg [(D.agg [(D.int (0 : Int)), (D.int (0 : Int)), (D.int (0 : Int))]), (D.agg [(D.int (0 : Int)), (D.int (0 : Int)), (D.int (0 : Int))]), (D.int (0 : Int)), (D.int (0 : Int)), (D.int (0 : Int)), (D.int (0 : Int)), (D.int (0 : Int)), (D.int (0 : Int)), (D.int (0 : Int)), (D.int (0 : Int)), (D.int (0 : Int)), (D.slc ([] : List D)), (D.slc ([] : List D))]), (D.int (43 : Int))]))
 (wpF Try.prog A n 87 [(D.fld d0 11)] fun r4 =>
 (wpF Try.prog A n 87 [(D.fld d0 12)] fun r5 =>
 (True ∧ (True ∧ (L45_7 n  n d1 d2 (D.int (D.len d2)) (D.int (0 : Int)) (D.agg [(D.fld d0 0), (D.fld d0 1), (D.fld d0 2), (D.fld d0 3), (D.fld d0 4), (D.fld d0 5), (D.fld d0 6), (D.fld d0 7), (D.fld d0 8), (D.fld d0 9), (D.fld d0 10), (rs r4 0), (rs r5 0)]) (D.agg [(D.agg [(D.int (0 : Int)), (D.int (0 : Int)), (D.int (0 : Int))]), (D.agg [(D.int (0 : Int)), (D.int (0 : Int)), (D.int (0 : Int))]), (D.int (0 : Int)), (D.int (0 : Int)), (D.int (0 : Int)), (D.int (0 : Int)), (D.int (0 : Int)), (D.int (0 : Int)), (D.int (0 : Int)), (D.int (0 : Int)), (D.int (0 : Int)), (D.slc ([] : List D)), (D.slc ([] : List D))]) Q))))))))))) := by kernel_rfl
attribute [irreducible] L45_7

/- timebound/timeboundref23.Scratch -/
def L46_2 (n m0 : Nat) (x0 : D) (x1 : D) (x5 : D) (Q : List D → Prop) : Prop :=
  loopK (wpC Try.prog A (hnd Try.prog A n) 46 n (cA (cA (cB (cA (cB (bodyOf Try.f46))))))) (nmK (A.loop 46 2)) m0 { sl := [(0, .imm 65 x0), (1, .imm 3 x1), (5, .imm 3 x5)], ob := [] } (kBlock 0 (kSeq (wpC Try.prog A (hnd Try.prog A n) 46 n (cB (cB (bodyOf Try.f46)))) (kEnd Try.prog Try.f46 (A.sig 46) Q)))
theorem L46_2_eq (n m0 : Nat) (x0 : D) (x1 : D) (x5 : D) (Q : List D → Prop) : L46_2 n (m0 + 1) x0 x1 x5 Q =
 (cond (iLt (D.i x5) (D.len x0))
 ((0 ≤ (D.i x5) ∧ (D.i x5) < (D.len x0)) ∧ (cond (iLe (D.i (D.fld (D.el x0 (D.i x5)) 0)) (D.i x1))
 ((0 ≤ (D.i x5) ∧ (D.i x5) < (D.len x0)) ∧ (cond (iLt (D.i x1) (D.i (D.fld (D.el x0 (D.i x5)) 1)))
 (Q [(D.bool true)])
 (L46_2 n  m0 x0 x1 (D.int (IntKind.wrap .i64 ((D.i x5) + (1 : Int)))) Q)))
 (L46_2 n  m0 x0 x1 (D.int (IntKind.wrap .i64 ((D.i x5) + (1 : Int)))) Q)))
 (Q [(D.bool false)])) := by kernel_rfl
theorem E46 (n : Nat) (d0 d1 : D) (Q : List D → Prop) : wpF Try.prog A (n + 1) 46 [d0, d1] Q =
 (L46_2 n  n d0 d1 (D.int (0 : Int)) Q) := by kernel_rfl
attribute [irreducible] L46_2

/- timebound/timeboundlaw36.ScratchFrees -/
def L9_5 (n m0 : Nat) (x23 : D) (x24 : D) (xo5 : D) (xo6 : D) (xo17 : D) (xo19 : D) (Q : List D → Prop) : Prop :=
  loopK (wpC Try.prog A (hnd Try.prog A n) 9 n (cA (cA (cB (cA (cB (cB (cB (cB (bodyOf Try.f9)))))))))) (nmK (A.loop 9 5)) m0 { sl := [(3, .ptr 17 [] 110), (4, .val 19 [] 51), (5, .ptr 5 [] 67), (6, .val 6 [] 22), (23, .imm 3 x23), (24, .imm 3 x24)], ob := [(5, some ⟨true, 67, .imm, xo5⟩), (6, some ⟨false, 22, (.slc .imm none), xo6⟩), (17, some ⟨true, 110, .imm, xo17⟩), (19, some ⟨false, 51, (.slc .imm none), xo19⟩)] } (kBlock 0 (kSeq (wpC Try.prog A (hnd Try.prog A n) 9 n (cB (cB (cB (cB (cB (bodyOf Try.f9))))))) (kEnd Try.prog Try.f9 (A.sig 9) Q)))
def L9_14 (n m0 : Nat) (x49 : D) (xo5 : D) (xo6 : D) (xo8 : D) (xo19 : D) (Q : List D → Prop) : Prop :=
  loopK (wpC Try.prog A (hnd Try.prog A n) 9 n (cA (cA (cB (cA (cB (cB (cB (cB (cB (cB (cB (bodyOf Try.f9))))))))))))) (nmK (A.loop 9 14)) m0 { sl := [(4, .val 19 [] 51), (5, .ptr 5 [] 67), (6, .val 6 [] 22), (8, .ptr 8 [] 67), (49, .imm 3 x49)], ob := [(5, some ⟨true, 67, .imm, xo5⟩), (6, some ⟨false, 22, .imm, xo6⟩), (8, some ⟨true, 67, .imm, xo8⟩), (19, some ⟨false, 51, .imm, xo19⟩)] } (kBlock 2 (kSeq (wpC Try.prog A (hnd Try.prog A n) 9 n (cB (cB (cB (cB (cB (cB (cB (cB (bodyOf Try.f9)))))))))) (kEnd Try.prog Try.f9 (A.sig 9) Q)))
def L9_18 (n m0 m1 : Nat) (x10 : D) (x11 : D) (x12 : D) (x49 : D) (x61 : D) (x62 : D) (xo5 : D) (xo6 : D) (xo8 : D) (xo19 : D) (Q : List D → Prop) : Prop :=
  loopK (wpC Try.prog A (hnd Try.prog A n) 9 n (cA (cA (cB (cA (cB (cB (cA (cA (cB (cB (cA (cA (cB (cA (cB (cB (cB (cB (cB (cB (cB (bodyOf Try.f9))))))))))))))))))))))) (nmK (A.loop 9 18)) m1 { sl := [(4, .val 19 [] 51), (5, .ptr 5 [] 67), (6, .val 6 [] 22), (8, .ptr 8 [] 67), (10, .imm 3 x10), (11, .imm 4 x11), (12, .imm 4 x12), (49, .imm 3 x49), (60, .val 6 [] 22), (61, .imm 3 x61), (62, .imm 3 x62)], ob := [(5, some ⟨true, 67, .imm, xo5⟩), (6, some ⟨false, 22, .imm, xo6⟩), (8, some ⟨true, 67, .imm, xo8⟩), (19, some ⟨false, 51, .imm, xo19⟩)] } (kBlock 4 (kSeq (wpC Try.prog A (hnd Try.prog A n) 9 n (cB (cB (cB (cA (cA (cB (cB (cA (cA (cB (cA (cB (cB (cB (cB (cB (cB (cB (bodyOf Try.f9)))))))))))))))))))) (kBlock 3 (kSeq (wpC Try.prog A (hnd Try.prog A n) 9 n (cB (cB (cB (cA (cA (cB (cA (cB (cB (cB (cB (cB (cB (cB (bodyOf Try.f9)))))))))))))))) (kLoop (nmK (A.loop 9 14)) (fun g => loopK (wpC Try.prog A (hnd Try.prog A n) 9 n (cA (cA (cB (cA (cB (cB (cB (cB (cB (cB (cB (bodyOf Try.f9))))))))))))) (nmK (A.loop 9 14)) m0 g (kBlock 2 (kSeq (wpC Try.prog A (hnd Try.prog A n) 9 n (cB (cB (cB (cB (cB (cB (cB (cB (bodyOf Try.f9)))))))))) (kEnd Try.prog Try.f9 (A.sig 9) Q)))) (kBlock 2 (kSeq (wpC Try.prog A (hnd Try.prog A n) 9 n (cB (cB (cB (cB (cB (cB (cB (cB (bodyOf Try.f9)))))))))) (kEnd Try.prog Try.f9 (A.sig 9) Q))))))))
theorem L9_5_eq (n m0 : Nat) (x23 : D) (x24 : D) (xo5 : D) (xo6 : D) (xo17 : D) (xo19 : D) (Q : List D → Prop) : L9_5 n (m0 + 1) x23 x24 xo5 xo6 xo17 xo19 Q =
 (cond (iLt (D.i x24) (D.i x23))
 (wpF Try.prog A n 18 [xo17, (D.int (2 : Int))] fun r4 =>
 (cond (iEq (D.i (rs r4 0)) (0 : Int))
 (room (((List.length (D.xs xo6) : Nat) : Int) + ((List.length [x24] : Nat) : Int)) 8 ∧ (L9_5 n  m0 x23 (D.int (IntKind.wrap .i64 ((D.i x24) + (1 : Int)))) xo5 (D.slc ((D.xs xo6) ++ [x24])) (rs r4 1) xo19 Q))
 (L9_5 n  m0 x23 (D.int (IntKind.wrap .i64 ((D.i x24) + (1 : Int)))) xo5 xo6 (rs r4 1) xo19 Q)))
 (wpF Try.prog A n 45 [xo5, xo19, xo6] fun r5 =>
 (True ∧ (cond (!(iEq (D.i (rs r5 1)) (0 : Int)))
 (cond (iEq (D.i (rs r5 1)) (4 : Int))
 (wpF Try.prog A n 34 [] fun r6 =>
 (Q [(rs r6 0)]))
 (Q [(D.bool false)]))
 (L9_14 n  n (D.int (0 : Int)) xo5 xo6 (rs r5 0) xo19 Q))))) := by kernel_rfl
theorem L9_14_eq (n m0 : Nat) (x49 : D) (xo5 : D) (xo6 : D) (xo8 : D) (xo19 : D) (Q : List D → Prop) : L9_14 n (m0 + 1) x49 xo5 xo6 xo8 xo19 Q =
 (cond (iLt (D.i x49) (100 : Int))
 (wpF Try.prog A n 46 [(D.fld xo5 11), x49] fun r7 =>
 (wpF Try.prog A n 46 [(D.fld xo5 12), x49] fun r8 =>
 (L9_18 n m0 n x49 (rs r7 0) (rs r8 0) x49 (D.int (D.len xo6)) (D.int (0 : Int)) xo5 xo6 xo8 xo19 Q)))
 (wpF Try.prog A n 34 [] fun r11 =>
 (Q [(rs r11 0)]))) := by kernel_rfl
theorem L9_18_eq (n m0 m1 : Nat) (x10 : D) (x11 : D) (x12 : D) (x49 : D) (x61 : D) (x62 : D) (xo5 : D) (xo6 : D) (xo8 : D) (xo19 : D) (Q : List D → Prop) : L9_18 n m0 (m1 + 1) x10 x11 x12 x49 x61 x62 xo5 xo6 xo8 xo19 Q =
 (cond (iLt (D.i x62) (D.i x61))
 ((0 ≤ (D.i x62) ∧ (D.i x62) < (D.len xo6)) ∧ ((0 ≤ (D.i (D.el xo6 (D.i x62))) ∧ (D.i (D.el xo6 (D.i x62))) < (D.len xo19)) ∧ (cond (iLe (D.i (D.fld (D.fld (D.el xo19 (D.i (D.el xo6 (D.i x62)))) 1) 0)) (D.i x10))
 ((0 ≤ (D.i (D.el xo6 (D.i x62))) ∧ (D.i (D.el xo6 (D.i x62))) < (D.len xo19)) ∧ (cond (D.b x11)
 (cond (D.b x12)
 (L9_18 n m0 m1 x10 (D.bool true) (D.bool true) x49 x61 (D.int (IntKind.wrap .i64 ((D.i x62) + (1 : Int)))) xo5 xo6 xo8 xo19 Q)
 (cond (iLt (D.i x10) (D.i (D.fld (D.fld (D.el xo19 (D.i (D.el xo6 (D.i x62)))) 1) 1)))
 ((0 ≤ (D.i (D.el xo6 (D.i x62))) ∧ (D.i (D.el xo6 (D.i x62))) < (D.len xo19)) ∧ (L9_18 n m0 m1 x10 (D.bool true) (D.bool (!(D.b (D.fld (D.el xo19 (D.i (D.el xo6 (D.i x62)))) 0)))) x49 x61 (D.int (IntKind.wrap .i64 ((D.i x62) + (1 : Int)))) xo5 xo6 xo8 xo19 Q))
 (L9_18 n m0 m1 x10 (D.bool true) (D.bool false) x49 x61 (D.int (IntKind.wrap .i64 ((D.i x62) + (1 : Int)))) xo5 xo6 xo8 xo19 Q)))
 (cond (iLt (D.i x10) (D.i (D.fld (D.fld (D.el xo19 (D.i (D.el xo6 (D.i x62)))) 1) 1)))
 ((0 ≤ (D.i (D.el xo6 (D.i x62))) ∧ (D.i (D.el xo6 (D.i x62))) < (D.len xo19)) ∧ (cond (D.b x12)
 (L9_18 n m0 m1 x10 (D.fld (D.el xo19 (D.i (D.el xo6 (D.i x62)))) 0) (D.bool true) x49 x61 (D.int (IntKind.wrap .i64 ((D.i x62) + (1 : Int)))) xo5 xo6 xo8 xo19 Q)
 (cond (iLt (D.i x10) (D.i (D.fld (D.fld (D.el xo19 (D.i (D.el xo6 (D.i x62)))) 1) 1)))
 ((0 ≤ (D.i (D.el xo6 (D.i x62))) ∧ (D.i (D.el xo6 (D.i x62))) < (D.len xo19)) ∧ (L9_18 n m0 m1 x10 (D.fld (D.el xo19 (D.i (D.el xo6 (D.i x62)))) 0) (D.bool (!(D.b (D.fld (D.el xo19 (D.i (D.el xo6 (D.i x62)))) 0)))) x49 x61 (D.int (IntKind.wrap .i64 ((D.i x62) + (1 : Int)))) xo5 xo6 xo8 xo19 Q))
 (L9_18 n m0 m1 x10 (D.fld (D.el xo19 (D.i (D.el xo6 (D.i x62)))) 0) (D.bool false) x49 x61 (D.int (IntKind.wrap .i64 ((D.i x62) + (1 : Int)))) xo5 xo6 xo8 xo19 Q))))
 (cond (D.b x12)
 (L9_18 n m0 m1 x10 (D.bool false) (D.bool true) x49 x61 (D.int (IntKind.wrap .i64 ((D.i x62) + (1 : Int)))) xo5 xo6 xo8 xo19 Q)
 (cond (iLt (D.i x10) (D.i (D.fld (D.fld (D.el xo19 (D.i (D.el xo6 (D.i x62)))) 1) 1)))
 ((0 ≤ (D.i (D.el xo6 (D.i x62))) ∧ (D.i (D.el xo6 (D.i x62))) < (D.len xo19)) ∧ (L9_18 n m0 m1 x10 (D.bool false) (D.bool (!(D.b (D.fld (D.el xo19 (D.i (D.el xo6 (D.i x62)))) 0)))) x49 x61 (D.int (IntKind.wrap .i64 ((D.i x62) + (1 : Int)))) xo5 xo6 xo8 xo19 Q))
 (L9_18 n m0 m1 x10 (D.bool false) (D.bool false) x49 x61 (D.int (IntKind.wrap .i64 ((D.i x62) + (1 : Int)))) xo5 xo6 xo8 xo19 Q))))))
 (cond (D.b x11)
 (cond (D.b x12)
 (L9_18 n m0 m1 x10 (D.bool true) (D.bool true) x49 x61 (D.int (IntKind.wrap .i64 ((D.i x62) + (1 : Int)))) xo5 xo6 xo8 xo19 Q)
 (L9_18 n m0 m1 x10 (D.bool true) (D.bool false) x49 x61 (D.int (IntKind.wrap .i64 ((D.i x62) + (1 : Int)))) xo5 xo6 xo8 xo19 Q))
 (cond (D.b x12)
 (L9_18 n m0 m1 x10 (D.bool false) (D.bool true) x49 x61 (D.int (IntKind.wrap .i64 ((D.i x62) + (1 : Int)))) xo5 xo6 xo8 xo19 Q)
 (L9_18 n m0 m1 x10 (D.bool false) (D.bool false) x49 x61 (D.int (IntKind.wrap .i64 ((D.i x62) + (1 : Int)))) xo5 xo6 xo8 xo19 Q))))))
 (wpF Try.prog A n 46 [(D.fld xo8 11), x10] fun r9 =>
 (cond (!(bEq (D.b (rs r9 0)) (D.b x11)))
 (Q [(D.bool false)])
 (wpF Try.prog A n 46 [(D.fld xo8 12), x10] fun r10 =>
 (cond (!(bEq (D.b (rs r10 0)) (D.b x12)))
 (Q [(D.bool false)])
 (L9_14 n  m0 (D.int (IntKind.wrap .i64 ((D.i x49) + (1 : Int)))) xo5 xo6 xo8 xo19 Q)))))) := by kernel_rfl
theorem E9 (n : Nat) (d0 : D) (Q : List D → Prop) : wpF Try.prog A (n + 1) 9 [d0] Q =
 (wpF Try.prog A n 15 [d0] fun r1 =>
 (wpF Try.prog A n 35 [(rs r1 0)] fun r2 =>
 (wpF Try.prog A n 44 [(rs r2 1)] fun r3 =>
 (True ∧ (L9_5 n  n (D.int (D.len (rs r2 0))) (D.int (0 : Int)) (rs r3 0) (D.slc ([] : List D)) (rs r3 1) (rs r2 0) Q))))) := by kernel_rfl
attribute [irreducible] L9_5 L9_14 L9_18
end Go.Ab

/- Items: which are valid, values of choices, the best choice: both answers are one. -/
namespace Go.Ab
open Go.Proofs
attribute [local irreducible] wpF

def icode (x : D) : Bool := D.b (D.fld x 0)
def ifr (x : D) : Int := D.i (D.fld (D.fld x 1) 0)
def ito (x : D) : Int := D.i (D.fld (D.fld x 1) 1)
def isz (x : D) : Int := D.i (D.fld x 2)
def ign (x : D) : Int := D.i (D.fld x 3)
def goodI (x : D) : Bool := iLe 0 (ifr x) && (iLt (ifr x) (ito x) && (iLe (ito x) 1024 && (iEq (isz x) (IntKind.wrap .i64 (ito x - ifr x)) && (iLe 0 (ign x) && iLe (ign x) 1099511627776))))
def clash (y x : D) : Bool := bEq (icode x) (icode y) && (iLt (ifr x) (ito y) && iLt (ifr y) (ito x))
def badI (d : D) (k : Nat) : Bool := !goodI (D.el d k) || anyB (fun t => clash (D.el d t) (D.el d k)) k
def validI (d : D) : Bool := !anyB (badI d) (D.len d).toNat && iLe (D.len d) 10
def gi (c : List Int) (k : Nat) : Int := c.getD k 0
def badC (N : Int) (c : List Int) (k : Nat) : Bool := iLt (gi c k) 0 || (iLe N (gi c k) || (iLt 0 k && iLe (gi c k) (gi c (k - 1))))
def sumS (d : D) (c : List Int) (s : Int × Int) (k : Nat) : Int × Int := (IntKind.wrap .i64 (s.1 + ign (D.el d (gi c k))), IntKind.wrap .i64 (s.2 + isz (D.el d (gi c k))))
def choiceB (N : Int) (c : List Int) : Bool := !anyB (badC N c) c.length
def val (d : D) (c : List Int) : (Int × Int) × Bool := cond (validI d && choiceB (D.len d) c) (iter (sumS d c) (0, 0) c.length, true) ((0, 0), false)

theorem len_nn' (d : D) : 0 ≤ D.len d := by simp [D.len]
theorem len_nat' (d : D) : D.len d = ((D.len d).toNat : Nat) := by have := len_nn' d; omega
theorem anyB_mono {p : Nat → Bool} {a b : Nat} (hab : a ≤ b) (h : anyB p b = false) : anyB p a = false := by
  refine anyB_false fun i hi => ?_
  cases hp : p i with
  | false => rfl
  | true => rw [anyB_true (show i < b by omega) hp] at h; cases h
theorem anyB_get {p : Nat → Bool} {a i : Nat} (h : anyB p a = false) (hi : i < a) : p i = false := by
  cases hp : p i with
  | false => rfl
  | true => rw [anyB_true hi hp] at h; cases h

section
variable {n : Nat} {d : D} {Q : List D → Prop}

theorem good_wp (hn : 1 ≤ n) {x : D} (h : Q [.bool (goodI x)]) : wpF Try.prog A n 80 [x] Q := by
  obtain ⟨m, rfl⟩ : ∃ m, n = m + 1 := ⟨n - 1, by omega⟩
  rw [E80]
  unfold goodI ifr ito isz ign at h
  have key : cond (iLe (0 : Int) (D.i (D.fld (D.fld x 1) 0)))
     (cond (iLt (D.i (D.fld (D.fld x 1) 0)) (D.i (D.fld (D.fld x 1) 1)))
     (cond (iLe (D.i (D.fld (D.fld x 1) 1)) (1024 : Int))
     (cond (iEq (D.i (D.fld x 2)) (IntKind.wrap .i64 ((D.i (D.fld (D.fld x 1) 1)) - (D.i (D.fld (D.fld x 1) 0)))))
     (cond (iLe (0 : Int) (D.i (D.fld x 3)))
     (Q [(D.bool (iLe (D.i (D.fld x 3)) (1099511627776 : Int)))])
     (Q [(D.bool false)]))
     (Q [(D.bool false)]))
     (Q [(D.bool false)]))
     (Q [(D.bool false)]))
     (Q [(D.bool false)]) := by
    refine cnd (fun c => ?_) fun c => by rw [c, Bool.false_and] at h; exact h
    rw [c, Bool.true_and] at h
    refine cnd (fun c => ?_) fun c => by rw [c, Bool.false_and] at h; exact h
    rw [c, Bool.true_and] at h
    refine cnd (fun c => ?_) fun c => by rw [c, Bool.false_and] at h; exact h
    rw [c, Bool.true_and] at h
    refine cnd (fun c => ?_) fun c => by rw [c, Bool.false_and] at h; exact h
    rw [c, Bool.true_and] at h
    refine cnd (fun c => ?_) fun c => by rw [c, Bool.false_and] at h; exact h
    rw [c, Bool.true_and] at h
    exact h
  exact cnd (fun _ => key) fun _ => key

theorem clash_wp (hn : 1 ≤ n) {y x : D} (h : Q [.bool (clash y x)]) : wpF Try.prog A n 82 [y, x] Q := by
  obtain ⟨m, rfl⟩ : ∃ m, n = m + 1 := ⟨n - 1, by omega⟩
  rw [E82]
  unfold clash icode ifr ito at h
  refine cnd (fun c => ?_) fun c => by rw [c, Bool.false_and] at h; exact h
  rw [c, Bool.true_and] at h
  refine cnd (fun c => ?_) fun c => by rw [c, Bool.false_and] at h; exact h
  rw [c, Bool.true_and] at h
  exact h

theorem take_el {k t : Nat} (h : t < k) : D.el (D.slc (List.drop (Int.toNat 0) (List.take k (D.xs d)))) (t : Int) = D.el d t := by
  show (List.drop 0 (List.take k (D.xs d))).getD t .und = (D.xs d).getD t .und
  simp [List.getD, List.getElem?_take, h]
theorem take_len {k : Nat} (h : (k : Int) ≤ D.len d) : D.len (D.slc (List.drop (Int.toNat 0) (List.take k (D.xs d)))) = k := by
  have : D.len d = (D.xs d).length := rfl
  simp [D.len, D.xs] at *
  omega

theorem validI_wp (hl : D.len d ≤ 1000) (hn : 2000 ≤ n) (h : Q [.bool (validI d)]) : wpF Try.prog A n 37 [d] Q := by
  obtain ⟨m, rfl⟩ : ∃ m, n = m + 1 := ⟨n - 1, by omega⟩
  rw [E37]
  have hl0 := len_nn' d
  unfold validI at h
  have key : ∀ (m0 k : Nat), (k : Int) ≤ D.len d → D.len d - k < m0 → (∀ t, t < k → badI d t = false) → L37_2 m m0 d d (.int (D.len d)) (.int (k : Int)) Q := by
    intro m0
    induction m0 with
    | zero => intro k _ h; omega
    | succ m0 ih =>
      intro k h1 h2 h3
      rw [L37_2_eq]
      simp only [i_int, toNat_nat]
      refine cLt (fun c => ⟨by omega, trivial, ?_⟩) fun c => ?_
      · have hbad : badI d k = true → Q [.bool false] := fun hb => by
          rw [anyB_true (p := badI d) (i := k) (by omega) hb, Bool.not_true, Bool.false_and] at h
          exact h
        have hgood : badI d k = false → L37_2 m m0 d d (.int (D.len d)) (.int (IntKind.wrap .i64 ((k : Int) + 1))) Q := fun hb => by
          rw [wrap_id (by omega) (by omega)]
          refine ih (k + 1) (by omega) (by omega) fun t ht => ?_
          by_cases e : t = k
          · subst e; exact hb
          · exact h3 t (by omega)
        unfold badI at hbad hgood
        refine good_wp (by omega) ?_
        simp only [rs0, b_bool]
        refine cNot (fun c => ?_) fun c => ?_
        · exact hbad (by rw [c]; rfl)
        rw [c, Bool.not_true, Bool.false_or] at hbad hgood
        refine ⟨⟨by omega, by omega, by omega⟩, ?_⟩
        obtain ⟨p, rfl⟩ : ∃ p, m = p + 2 := ⟨m - 2, by omega⟩
        rw [E81, E113]
        refine found_loop (Q := fun r => cond (D.b (rs r 0)) (Q [.bool false]) (L37_2 (p + 2) m0 d d (.int (D.len d)) (.int (IntKind.wrap .i64 ((k : Int) + 1))) Q)) (x1 := .fn 82 [.ptr (D.el d k)]) (N := k) (p := fun t => clash (D.el d t) (D.el d k)) (L := L113_2 p) (call := fun x1 e Q => dynH A (wpF Try.prog A p) x1 [.imm 75] [.val 4 .imm] [e] Q) (fun m0 x0 x1 x7 x8 Q => L113_2_eq p m0 x0 x1 x7 x8 Q) (take_len h1) (by omega)
          (fun i hi Q hQ => ⟨⟨rfl, rfl, rfl, rfl⟩, by rw [take_el hi]; exact clash_wp (by omega) hQ⟩) (by omega) ?_
        rw [rs0, b_bool]
        exact cnd (fun c => hbad c) fun c => hgood c
      · rw [anyB_false (p := badI d) fun i hi => h3 i (by omega), Bool.not_false, Bool.true_and] at h
        exact h
  exact key m 0 (by omega) (by omega) fun t ht => by omega

theorem validI'_wp (hl : D.len d ≤ 1000) (hn : 2000 ≤ n) (h : Q [.bool (validI d)]) : wpF Try.prog A n 38 [d] Q := by
  obtain ⟨m, rfl⟩ : ∃ m, n = m + 1 := ⟨n - 1, by omega⟩
  rw [E38]
  have hl0 := len_nn' d
  unfold validI at h
  have key : ∀ (m0 k : Nat), (k : Int) ≤ D.len d → D.len d - k < m0 → (∀ t, t < k → badI d t = false) → L38_2 m m0 d d (.int (D.len d)) (.int (k : Int)) Q := by
    intro m0
    induction m0 with
    | zero => intro k _ h; omega
    | succ m0 ih =>
      intro k h1 h2 h3
      rw [L38_2_eq]
      simp only [i_int, toNat_nat]
      refine cLt (fun c => ⟨by omega, trivial, ?_⟩) fun c => ?_
      · have hbad : badI d k = true → Q [.bool false] := fun hb => by
          rw [anyB_true (p := badI d) (i := k) (by omega) hb, Bool.not_true, Bool.false_and] at h
          exact h
        have hgood : badI d k = false → L38_2 m m0 d d (.int (D.len d)) (.int (IntKind.wrap .i64 ((k : Int) + 1))) Q := fun hb => by
          rw [wrap_id (by omega) (by omega)]
          refine ih (k + 1) (by omega) (by omega) fun t ht => ?_
          by_cases e : t = k
          · subst e; exact hb
          · exact h3 t (by omega)
        rw [take_len h1]
        have inner : goodI (D.el d k) = true → L38_10 m m0 m d d (.int (D.len d)) (.int (k : Int)) (.slc (List.drop (Int.toNat 0) (List.take k (D.xs d)))) (.int (k : Int)) (.int 0) (D.el d k) Q := fun hg => by
          unfold badI at hbad hgood
          rw [hg, Bool.not_true, Bool.false_or] at hbad hgood
          have go : ∀ (m1 t : Nat), t ≤ k → k - t < m1 → (∀ u, u < t → clash (D.el d u) (D.el d k) = false) → L38_10 m m0 m1 d d (.int (D.len d)) (.int (k : Int)) (.slc (List.drop (Int.toNat 0) (List.take k (D.xs d)))) (.int (k : Int)) (.int (t : Int)) (D.el d k) Q := by
            intro m1
            induction m1 with
            | zero => intro t _ h; omega
            | succ m1 ih1 =>
              intro t g1 g2 g3
              rw [L38_10_eq]
              simp only [i_int]
              rw [take_len h1]
              refine cLt (fun c => ⟨by omega, trivial, ?_⟩) fun c => ?_
              · rw [take_el (show t < k by omega)]
                have hn1 : clash (D.el d t) (D.el d k) = false → L38_10 m m0 m1 d d (.int (D.len d)) (.int (k : Int)) (.slc (List.drop (Int.toNat 0) (List.take k (D.xs d)))) (.int (k : Int)) (.int (IntKind.wrap .i64 ((t : Int) + 1))) (D.el d k) Q := fun hb => by
                  rw [wrap_id (by omega) (by omega)]
                  refine ih1 (t + 1) (by omega) (by omega) fun u hu => ?_
                  by_cases e : u = t
                  · subst e; exact hb
                  · exact g3 u (by omega)
                refine cnd (fun c1 => cnd (fun c2 => cnd (fun c3 => ?_) fun c3 => ?_) fun c2 => ?_) fun c1 => ?_
                · refine hbad (anyB_true (i := t) (by omega) ?_)
                  unfold clash icode ifr ito
                  rw [c1, c2, c3]; rfl
                · refine hn1 ?_
                  unfold clash icode ifr ito
                  rw [c1, c2, c3]; rfl
                · refine hn1 ?_
                  unfold clash icode ifr ito
                  rw [c1, c2]; rfl
                · refine hn1 ?_
                  unfold clash icode ifr ito
                  rw [c1]; rfl
              · exact hgood (anyB_false fun i hi => g3 i (by omega))
          exact go m 0 (by omega) (by omega) fun u hu => by omega
        have hb0 : goodI (D.el d k) = false → Q [.bool false] := fun hg => hbad (by unfold badI; rw [hg]; rfl)
        have hnot : ∀ {a b : Int}, iLe a b = false → iLt b a = true := fun {a b} h => by
          rw [iLe_not] at h; rw [iLt_iff]; omega
        have body : cond (iLt (D.i (D.fld (D.fld (D.el d k) 1) 0)) (0 : Int))
           (Q [(D.bool false)])
           (cond (iLe (D.i (D.fld (D.fld (D.el d k) 1) 1)) (D.i (D.fld (D.fld (D.el d k) 1) 0)))
           (Q [(D.bool false)])
           (cond (iLt (1024 : Int) (D.i (D.fld (D.fld (D.el d k) 1) 1)))
           (Q [(D.bool false)])
           (cond (!(iEq (D.i (D.fld (D.el d k) 2)) (IntKind.wrap .i64 ((D.i (D.fld (D.fld (D.el d k) 1) 1)) - (D.i (D.fld (D.fld (D.el d k) 1) 0))))))
           (Q [(D.bool false)])
           (cond (iLt (D.i (D.fld (D.el d k) 3)) (0 : Int))
           (Q [(D.bool false)])
           (cond (iLt (1099511627776 : Int) (D.i (D.fld (D.el d k) 3)))
           (Q [(D.bool false)])
           ((0 ≤ (0 : Int) ∧ (0 : Int) ≤ (k : Int) ∧ (k : Int) ≤ (D.len d)) ∧ (L38_10 m m0 m d d (.int (D.len d)) (.int (k : Int)) (.slc (List.drop (Int.toNat 0) (List.take k (D.xs d)))) (.int (k : Int)) (.int 0) (D.el d k) Q))))))) := by
          have e0 : goodI (D.el d k) = (iLe 0 (D.i (D.fld (D.fld (D.el d k) 1) 0)) && (iLt (D.i (D.fld (D.fld (D.el d k) 1) 0)) (D.i (D.fld (D.fld (D.el d k) 1) 1)) && (iLe (D.i (D.fld (D.fld (D.el d k) 1) 1)) 1024 && (iEq (D.i (D.fld (D.el d k) 2)) (IntKind.wrap .i64 (D.i (D.fld (D.fld (D.el d k) 1) 1) - D.i (D.fld (D.fld (D.el d k) 1) 0))) && (iLe 0 (D.i (D.fld (D.el d k) 3)) && iLe (D.i (D.fld (D.el d k) 3)) 1099511627776))))) := rfl
          rw [e0] at inner hb0
          refine cLt (fun c => hb0 ?_) fun c1 => cLe (fun c => hb0 ?_) fun c2 => cLt (fun c => hb0 ?_) fun c3 => cNe (fun c => hb0 ?_) fun c4 => cLt (fun c => hb0 ?_) fun c5 => cLt (fun c => hb0 ?_) fun c6 => ⟨by omega, inner ?_⟩
          · rw [iLe_not.mpr (by omega), Bool.false_and]
          · rw [iLt_not.mpr (by omega), Bool.false_and, Bool.and_false]
          · rw [iLe_not.mpr (show ¬ D.i (D.fld (D.fld (D.el d k) 1) 1) ≤ 1024 by omega), Bool.false_and, Bool.and_false, Bool.and_false]
          · rw [iEq_not.mpr c, Bool.false_and, Bool.and_false, Bool.and_false, Bool.and_false]
          · rw [iLe_not.mpr (show ¬ 0 ≤ D.i (D.fld (D.el d k) 3) by omega), Bool.false_and, Bool.and_false, Bool.and_false, Bool.and_false, Bool.and_false]
          · rw [iLe_not.mpr (show ¬ D.i (D.fld (D.el d k) 3) ≤ 1099511627776 by omega), Bool.and_false, Bool.and_false, Bool.and_false, Bool.and_false, Bool.and_false]
          · rw [iLe_iff.mpr (by omega), iLt_iff.mpr (by omega), iLe_iff.mpr (by omega), iEq_iff.mpr c4, iLe_iff.mpr (by omega), iLe_iff.mpr (by omega)]
            rfl
        exact cnd (fun _ => body) fun _ => body
      · rw [anyB_false (p := badI d) fun i hi => h3 i (by omega), Bool.not_false, Bool.true_and] at h
        exact h
  exact key m 0 (by omega) (by omega) fun t ht => by omega

theorem gi_el {c : List Int} {k : Nat} (h : k < c.length) : D.i (D.el (lst c) (k : Int)) = gi c k := by
  rw [el_lst c k h]; rfl

theorem badC_cases {N : Int} {c : List Int} {k : Nat} (R : Prop) (hb : badC N c k = true → Q [.bool false]) (hg : badC N c k = false → R) (hk : k < c.length) (hl : c.length ≤ 1000000) :
    cond (iLt (gi c k) (0 : Int)) (Q [(D.bool false)])
     (cond (iLe N (gi c k)) (Q [(D.bool false)])
     (cond (iLt (0 : Int) (k : Int))
     ((0 ≤ (IntKind.wrap .i64 ((k : Int) - (1 : Int))) ∧ (IntKind.wrap .i64 ((k : Int) - (1 : Int))) < (D.len (lst c))) ∧ (cond (iLe (gi c k) (D.i (D.el (lst c) (IntKind.wrap .i64 ((k : Int) - (1 : Int))))))
     (Q [(D.bool false)]) R)) R)) := by
  unfold badC at hb hg
  refine cnd (fun c1 => hb (by rw [c1]; rfl)) fun c1 => cnd (fun c2 => hb (by rw [c1, c2]; rfl)) fun c2 => ?_
  rw [c1, c2, Bool.false_or, Bool.false_or] at hb hg
  refine cLt (fun c3 => ?_) fun c3 => hg (by rw [iLt_not.mpr c3]; rfl)
  rw [iLt_iff.mpr c3, Bool.true_and] at hb hg
  rw [wrap_id (by omega) (by omega), show ((k : Int) - 1) = ((k - 1 : Nat) : Int) by omega, gi_el (show k - 1 < c.length by omega), len_lst]
  exact ⟨by omega, cnd (fun c4 => hb c4) fun c4 => hg c4⟩

theorem choice_wp {N : Int} {c : List Int} (hl : c.length ≤ 1000) (hn : 2000 ≤ n) (h : Q [.bool (choiceB N c)]) : wpF Try.prog A n 85 [.int N, lst c] Q := by
  obtain ⟨m, rfl⟩ : ∃ m, n = m + 1 := ⟨n - 1, by omega⟩
  rw [E85, len_lst]
  unfold choiceB at h
  have key : ∀ (m0 k : Nat), k ≤ c.length → c.length - k < m0 → (∀ t, t < k → badC N c t = false) → L85_2 m m0 (.int N) (lst c) (lst c) (.int c.length) (.int (k : Int)) Q := by
    intro m0
    induction m0 with
    | zero => intro k _ h; omega
    | succ m0 ih =>
      intro k h1 h2 h3
      rw [L85_2_eq]
      simp only [i_int]
      refine cLt (fun c1 => ⟨by rw [len_lst]; omega, ?_⟩) fun c1 => ?_
      · rw [gi_el (show k < c.length by omega)]
        refine badC_cases _ (fun hb => ?_) (fun hb => ?_) (by omega) (by omega)
        · rw [anyB_true (p := badC N c) (i := k) (by omega) hb, Bool.not_true] at h
          exact h
        · rw [wrap_id (by omega) (by omega)]
          refine ih (k + 1) (by omega) (by omega) fun t ht => ?_
          by_cases e : t = k
          · subst e; exact hb
          · exact h3 t (by omega)
      · rw [anyB_false (p := badC N c) fun i hi => h3 i (by omega)] at h
        exact h
  exact key m 0 (by omega) (by omega) fun t ht => by omega

theorem badC_ok {N : Int} {c : List Int} {k : Nat} (h : badC N c k = false) : 0 ≤ gi c k ∧ gi c k < N := by
  simp only [badC, Bool.or_eq_false_iff, iLt_not, iLe_not] at h
  omega

theorem val_wp {c : List Int} (hd : D.len d ≤ 1000) (hl : c.length ≤ 1000) (hn : 3000 ≤ n) (h : Q [.int (val d c).1.1, .int (val d c).1.2, .bool (val d c).2]) : wpF Try.prog A n 42 [d, lst c] Q := by
  obtain ⟨m, rfl⟩ : ∃ m, n = m + 1 := ⟨n - 1, by omega⟩
  rw [E42]
  unfold val at h
  refine validI_wp hd (by omega) ?_
  rw [rs0, b_bool]
  refine cNot (fun c1 => by rw [c1, Bool.false_and] at h; exact h) fun c1 => ?_
  rw [c1, Bool.true_and] at h
  refine choice_wp hl (by omega) ?_
  rw [rs0, b_bool]
  refine cNot (fun c2 => by rw [c2] at h; exact h) fun c2 => ?_
  rw [c2, cond_true] at h
  have hc : anyB (badC (D.len d) c) c.length = false := by
    unfold choiceB at c2
    simpa using c2
  rw [len_lst]
  have key : ∀ (m0 k : Nat), k ≤ c.length → c.length - k < m0 → L42_5 m m0 d (.int (iter (sumS d c) (0, 0) k).1) (.int (iter (sumS d c) (0, 0) k).2) (lst c) (.int c.length) (.int (k : Int)) Q := by
    intro m0
    induction m0 with
    | zero => intro k _ h; omega
    | succ m0 ih =>
      intro k h1 h2
      rw [L42_5_eq]
      simp only [i_int]
      refine cLt (fun c3 => ⟨by rw [len_lst]; omega, ?_⟩) fun c3 => ?_
      · rw [gi_el (show k < c.length by omega)]
        have hk := badC_ok (anyB_get hc (show k < c.length by omega))
        refine ⟨hk, hk, ?_⟩
        rw [wrap_id (show -9223372036854775808 ≤ (k : Int) + 1 by omega) (by omega)]
        exact ih (k + 1) (by omega) (by omega)
      · have e : k = c.length := by omega
        subst e
        exact h
  exact key m 0 (by omega) (by omega)

theorem val'_wp {c : List Int} (hd : D.len d ≤ 1000) (hl : c.length ≤ 1000) (hn : 3000 ≤ n) (h : Q [.int (val d c).1.1, .int (val d c).1.2, .bool (val d c).2]) : wpF Try.prog A n 43 [d, lst c] Q := by
  obtain ⟨m, rfl⟩ : ∃ m, n = m + 1 := ⟨n - 1, by omega⟩
  rw [E43]
  unfold val choiceB at h
  refine validI'_wp hd (by omega) ?_
  rw [rs0, b_bool]
  refine cNot (fun c1 => by rw [c1, Bool.false_and] at h; exact h) fun c1 => ?_
  rw [c1, Bool.true_and] at h
  rw [len_lst]
  have key : ∀ (m0 k : Nat), k ≤ c.length → c.length - k < m0 → (∀ t, t < k → badC (D.len d) c t = false) → L43_5 m m0 d (lst c) (.int (iter (sumS d c) (0, 0) k).1) (.int (iter (sumS d c) (0, 0) k).2) (lst c) (.int c.length) (.int (k : Int)) Q := by
    intro m0
    induction m0 with
    | zero => intro k _ h; omega
    | succ m0 ih =>
      intro k h1 h2 h3
      rw [L43_5_eq]
      simp only [i_int]
      refine cLt (fun c3 => ⟨by rw [len_lst]; omega, ?_⟩) fun c3 => ?_
      · rw [gi_el (show k < c.length by omega)]
        rw [wrap_id (show -9223372036854775808 ≤ (k : Int) + 1 by omega) (by omega)]
        have hbad : badC (D.len d) c k = true → Q [.int 0, .int 0, .bool false] := fun hb => by
          rw [anyB_true (p := badC (D.len d) c) (i := k) (by omega) hb] at h
          exact h
        have hgood : badC (D.len d) c k = false → (0 ≤ gi c k ∧ gi c k < D.len d) ∧ ((0 ≤ gi c k ∧ gi c k < D.len d) ∧ L43_5 m m0 d (lst c) (.int (IntKind.wrap .i64 ((iter (sumS d c) (0, 0) k).1 + D.i (D.fld (D.el d (gi c k)) 3)))) (.int (IntKind.wrap .i64 ((iter (sumS d c) (0, 0) k).2 + D.i (D.fld (D.el d (gi c k)) 2)))) (lst c) (.int c.length) (.int ((k : Int) + 1)) Q) := fun hb => by
          have hk := badC_ok hb
          refine ⟨hk, hk, ih (k + 1) (by omega) (by omega) fun t ht => ?_⟩
          by_cases e : t = k
          · subst e; exact hb
          · exact h3 t (by omega)
        unfold badC at hbad hgood
        refine cnd (fun c1 => hbad (by rw [c1]; rfl)) fun c1 => cnd (fun c2 => hbad (by rw [c1, c2]; rfl)) fun c2 => ?_
        rw [c1, c2, Bool.false_or, Bool.false_or] at hbad hgood
        refine cLt (fun c3 => ?_) fun c3 => hgood (by rw [iLt_not.mpr c3]; rfl)
        rw [iLt_iff.mpr c3, Bool.true_and] at hbad hgood
        rw [wrap_id (by omega) (by omega), show ((k : Int) - 1) = ((k - 1 : Nat) : Int) by omega, gi_el (show k - 1 < c.length by omega)]
        exact ⟨by rw [len_lst]; omega, cnd (fun c4 => hbad c4) fun c4 => hgood c4⟩
      · have e : k = c.length := by omega
        subst e
        rw [anyB_false (p := badC (D.len d) c) fun i hi => h3 i (by omega)] at h
        exact h
  exact key m 0 (by omega) (by omega) fun t ht => by omega

/-- Which list comes before which. -/
def bfr : List Int → List Int → Bool
  | [], b => !b.isEmpty
  | _ :: _, [] => false
  | a :: l, b :: m => cond (iEq a b) (bfr l m) (iLt a b)

theorem cmp_wp (hn : 2 ≤ n) {x y : D} (h1 : D.i x < D.i y → Q [.int (-1)]) (h2 : D.i y < D.i x → Q [.int 1]) (h3 : D.i x = D.i y → Q [.int 0]) : wpF Try.prog A n 114 [x, y] Q := by
  obtain ⟨m, rfl⟩ : ∃ m, n = m + 2 := ⟨n - 2, by omega⟩
  rw [E114, E130, E130]
  simp only [rs0, b_bool, iEq_iff.mpr rfl, Bool.not_true, cond_false]
  exact cLt (fun c => h1 c) fun c => cLt (fun c2 => h2 c2) fun c2 => h3 (by omega)

theorem compare_wp {a b : List Int} (ha : a.length ≤ 1000) (hn : 2000 ≤ n) (h : ∀ z, (iLt z 0 = bfr a b) → Q [.int z]) : wpF Try.prog A n 83 [lst a, lst b] Q := by
  obtain ⟨m, rfl⟩ : ∃ m, n = m + 1 := ⟨n - 1, by omega⟩
  rw [E83, len_lst]
  have key : ∀ (m0 k : Nat), k ≤ a.length → a.length - k < m0 → k ≤ b.length → bfr a b = bfr (a.drop k) (b.drop k) → L83_2 m m0 (lst a) (lst b) (lst a) (.int a.length) (.int (k : Int)) Q := by
    intro m0
    induction m0 with
    | zero => intro k _ h; omega
    | succ m0 ih =>
      intro k h1 h2 h3 h4
      rw [L83_2_eq]
      simp only [i_int]
      refine cLt (fun c => ⟨by rw [len_lst]; omega, ?_⟩) fun c => ?_
      · rw [len_lst]
        rw [drop_get 0 (show k < a.length by omega)] at h4
        refine cLe (fun c1 => h 1 ?_) fun c1 => ⟨by omega, ?_⟩
        · rw [List.drop_eq_nil_of_le (show b.length ≤ k by omega)] at h4
          rw [h4]; rfl
        · rw [drop_get 0 (show k < b.length by omega), bfr] at h4
          rw [el_lst a k (by omega), el_lst b k (by omega)]
          refine cmp_wp (by omega) (fun e => ?_) (fun e => ?_) fun e => ?_
          · simp only [i_int] at e
            rw [iEq_not.mpr (by omega), cond_false, iLt_iff.mpr e] at h4
            rw [rs0, i_int, show iEq (-1) 0 = false from rfl, Bool.not_false, cond_true]
            exact h (-1) (by rw [h4]; rfl)
          · simp only [i_int] at e
            rw [iEq_not.mpr (by omega), cond_false, iLt_not.mpr (by omega)] at h4
            rw [rs0, i_int, show iEq 1 0 = false from rfl, Bool.not_false, cond_true]
            exact h 1 (by rw [h4]; rfl)
          · simp only [i_int] at e
            rw [iEq_iff.mpr e, cond_true] at h4
            rw [rs0, i_int, show iEq 0 0 = true from rfl, Bool.not_true, cond_false, wrap_id (by omega) (by omega)]
            exact ih (k + 1) (by omega) (by omega) (by omega) h4
      · rw [List.drop_eq_nil_of_le (show a.length ≤ k by omega)] at h4
        rw [len_lst, len_lst]
        refine cLt (fun c1 => h (-1) ?_) fun c1 => h 0 ?_
        · rw [h4, drop_get 0 (show k < b.length by omega)]; rfl
        · rw [h4, List.drop_eq_nil_of_le (show b.length ≤ k by omega)]; rfl
  exact key m 0 (by omega) (by omega) (by omega) rfl

theorem before36_wp {a b : List Int} (ha : a.length ≤ 1000) (hn : 2000 ≤ n) (h : Q [.bool (bfr a b)]) : wpF Try.prog A n 84 [lst a, lst b] Q := by
  obtain ⟨m, rfl⟩ : ∃ m, n = m + 1 := ⟨n - 1, by omega⟩
  rw [E84, len_lst]
  have key : ∀ (m0 k : Nat), k ≤ a.length → a.length - k < m0 → k ≤ b.length → bfr a b = bfr (a.drop k) (b.drop k) → L84_2 m m0 (lst a) (lst b) (.int a.length) (.int (k : Int)) Q := by
    intro m0
    induction m0 with
    | zero => intro k _ h; omega
    | succ m0 ih =>
      intro k h1 h2 h3 h4
      rw [L84_2_eq]
      simp only [i_int, len_lst]
      refine cLt (fun c => ?_) fun c => ?_
      · rw [drop_get 0 (show k < a.length by omega)] at h4
        refine cLe (fun c1 => ?_) fun c1 => ⟨by omega, by omega, ?_⟩
        · rw [List.drop_eq_nil_of_le (show b.length ≤ k by omega)] at h4
          rw [h4] at h; exact h
        · rw [drop_get 0 (show k < b.length by omega), bfr] at h4
          rw [el_lst a k (by omega), el_lst b k (by omega)]
          simp only [i_int]
          refine cNe (fun e => ⟨by omega, by omega, ?_⟩) fun e => ?_
          · rw [iEq_not.mpr e, cond_false] at h4
            rw [h4] at h; exact h
          · rw [iEq_iff.mpr e, cond_true] at h4
            rw [wrap_id (by omega) (by omega)]
            exact ih (k + 1) (by omega) (by omega) (by omega) h4
      · rw [List.drop_eq_nil_of_le (show a.length ≤ k by omega)] at h4
        rw [h4] at h
        by_cases c1 : a.length < b.length
        · rw [iLt_iff.mpr (by omega)]
          rw [drop_get 0 (show k < b.length by omega)] at h
          exact h
        · rw [iLt_not.mpr (by omega)]
          rw [List.drop_eq_nil_of_le (show b.length ≤ k by omega)] at h
          exact h
  exact key m 0 (by omega) (by omega) (by omega) rfl

theorem same_wp {a : List Int} (ha : a.length ≤ 1000) (hn : 2000 ≤ n) (h : Q [.bool true]) : wpF Try.prog A n 41 [lst a, lst a] Q := by
  obtain ⟨m, rfl⟩ : ∃ m, n = m + 1 := ⟨n - 1, by omega⟩
  rw [E41]
  refine cNe (fun c => absurd rfl c) fun _ => ?_
  have key : ∀ (m0 k : Nat), k ≤ a.length → a.length - k < m0 → L41_4 m m0 (lst a) (lst a) (.int (k : Int)) Q := by
    intro m0
    induction m0 with
    | zero => intro k _ h; omega
    | succ m0 ih =>
      intro k h1 h2
      rw [L41_4_eq]
      simp only [i_int, len_lst]
      refine cLt (fun c => ⟨by omega, by omega, ?_⟩) fun c => h
      refine cNe (fun c => absurd rfl c) fun _ => ?_
      rw [wrap_id (by omega) (by omega)]
      exact ih (k + 1) (by omega) (by omega)
  exact key m 0 (by omega) (by omega)
end
end Go.Ab
