/- What a reply has: the program's and the document's. -/
import Derived.Test.YtmikljncdgfjpaaGreatDoorSeJ
import Derived.Test.YtmikljncdgfjpaaGreatDoorSeK
set_option linter.unusedSimpArgs false
set_option linter.unusedVariables false
open Go Go.Aw Go.Proofs
namespace Go.Se
set_option maxRecDepth 20000
set_option maxHeartbeats 2000000
-- function 66: (corollary/session.Reply).fits
def F66r0 : List ROp := [⟨some 1, .box 36 (.tmp 0), [], none⟩,
  ⟨some 2, .copy true (.const (.bool false)), [], none⟩]
def F66r1 : List ROp := [⟨some 6, .fad 0 (.tmp 1), [], none⟩,
  ⟨some 7, .load 1 false false (.tmp 6), [0], none⟩,
  ⟨some 8, .bin .eql (.tmp 7) (.const (.int .u8 0)), [1], none⟩,
  ⟨some 9, .fad 0 (.tmp 1), [], none⟩,
  ⟨some 10, .load 1 false false (.tmp 9), [3], none⟩,
  ⟨some 11, .bin .eql (.tmp 10) (.const (.int .u8 6)), [4], none⟩,
  ⟨some 12, .copy false (.tmp 11), [5], none⟩,
  ⟨some 13, .fad 0 (.tmp 1), [6], some (12, false)⟩,
  ⟨some 14, .load 1 false false (.tmp 13), [7, 6], some (12, false)⟩,
  ⟨some 15, .bin .eql (.tmp 14) (.const (.int .u8 7)), [8, 6], some (12, false)⟩,
  ⟨some 16, .pick (.tmp 12) (.const (.bool true)) (.tmp 15), [6, 9], none⟩,
  ⟨some 3, .copy true (.tmp 8), [2, 6, 0, 1, 2], none⟩,
  ⟨some 4, .copy true (.tmp 16), [10, 11, 0, 1, 2, 3, 4, 5, 6, 7, 8, 9, 10, 11], none⟩]
def F66r2 : List ROp := [⟨some 17, .copy false (.tmp 3), [], none⟩,
  ⟨some 18, .un .not (.tmp 17), [], none⟩,
  ⟨some 19, .copy false (.tmp 18), [], none⟩,
  ⟨some 20, .copy false (.tmp 4), [], some (19, true)⟩,
  ⟨some 21, .un .not (.tmp 20), [], some (19, true)⟩,
  ⟨some 22, .pick (.tmp 19) (.tmp 21) (.const (.bool false)), [], none⟩,
  ⟨some 23, .copy false (.tmp 22), [], none⟩,
  ⟨some 24, .fad 0 (.tmp 1), [], some (23, true)⟩,
  ⟨some 25, .load 1 false false (.tmp 24), [], some (23, true)⟩,
  ⟨some 26, .bin .neq (.tmp 25) (.const (.int .u8 3)), [], some (23, true)⟩,
  ⟨some 27, .pick (.tmp 23) (.tmp 26) (.const (.bool false)), [], none⟩,
  ⟨some 5, .copy true (.tmp 27), [], none⟩]
def F66r3 : List ROp := [⟨some 29, .copy false (.tmp 3), [], none⟩,
  ⟨some 30, .un .not (.tmp 29), [], none⟩,
  ⟨some 31, .copy false (.tmp 30), [], none⟩,
  ⟨some 32, .fad 1 (.tmp 1), [], some (31, true)⟩,
  ⟨some 33, .load 1 false false (.tmp 32), [], some (31, true)⟩,
  ⟨some 34, .bin .neq (.tmp 33) (.const (.int .i64 0)), [], some (31, true)⟩,
  ⟨some 35, .copy false (.tmp 34), [], some (31, true)⟩,
  ⟨some 36, .fad 2 (.tmp 1), [], some (35, false)⟩,
  ⟨some 37, .load 1 false false (.tmp 36), [], some (35, false)⟩,
  ⟨some 38, .bin .neq (.tmp 37) (.const (.string { data := #[] })), [], some (35, false)⟩,
  ⟨some 39, .pick (.tmp 35) (.const (.bool true)) (.tmp 38), [], some (31, true)⟩,
  ⟨some 40, .copy false (.tmp 39), [], some (31, true)⟩,
  ⟨some 41, .fad 3 (.tmp 1), [], some (40, false)⟩,
  ⟨some 42, .load 2 true false (.tmp 41), [], some (40, false)⟩,
  ⟨some 43, .build [Value.int .i64 0, Value.int .i64 0] [], [], some (40, false)⟩,
  ⟨some 44, .eqg true [0, 0] (.tmp 42) (.tmp 43), [], some (40, false)⟩,
  ⟨some 45, .pick (.tmp 40) (.const (.bool true)) (.tmp 44), [], some (31, true)⟩,
  ⟨some 46, .copy false (.tmp 45), [], some (31, true)⟩,
  ⟨some 47, .fad 5 (.tmp 1), [], some (46, false)⟩,
  ⟨some 48, .load 1 false false (.tmp 47), [], some (46, false)⟩,
  ⟨some 49, .bin .neq (.tmp 48) (.const (.int .i64 0)), [], some (46, false)⟩,
  ⟨some 50, .pick (.tmp 46) (.const (.bool true)) (.tmp 49), [], some (31, true)⟩,
  ⟨some 51, .copy false (.tmp 50), [], some (31, true)⟩,
  ⟨some 52, .fad 6 (.tmp 1), [], some (51, false)⟩,
  ⟨some 53, .load 1 false false (.tmp 52), [], some (51, false)⟩,
  ⟨some 54, .bin .neq (.tmp 53) (.const (.int .i64 0)), [], some (51, false)⟩,
  ⟨some 55, .pick (.tmp 51) (.const (.bool true)) (.tmp 54), [], some (31, true)⟩,
  ⟨some 56, .copy false (.tmp 55), [], some (31, true)⟩,
  ⟨some 57, .fad 7 (.tmp 1), [], some (56, false)⟩,
  ⟨some 58, .load 1 false false (.tmp 57), [], some (56, false)⟩,
  ⟨some 59, .bin .neq (.tmp 58) (.const (.int .i64 0)), [], some (56, false)⟩,
  ⟨some 60, .pick (.tmp 56) (.const (.bool true)) (.tmp 59), [], some (31, true)⟩,
  ⟨some 61, .pick (.tmp 31) (.tmp 60) (.const (.bool false)), [], none⟩,
  ⟨some 28, .copy true (.tmp 61), [], none⟩]
def F66r4 : List ROp := [⟨some 2, .copy true (.const (.bool false)), [], none⟩]
def F66r5 : List ROp := [⟨some 63, .copy false (.tmp 5), [], none⟩,
  ⟨some 64, .un .not (.tmp 63), [], none⟩,
  ⟨some 65, .copy false (.tmp 64), [], none⟩,
  ⟨some 66, .fad 8 (.tmp 1), [], some (65, true)⟩,
  ⟨some 67, .load 1 false false (.tmp 66), [], some (65, true)⟩,
  ⟨some 68, .len 0 (.tmp 67), [], some (65, true)⟩,
  ⟨some 69, .bin .gtr (.tmp 68) (.const (.int .i64 0)), [], some (65, true)⟩,
  ⟨some 70, .pick (.tmp 65) (.tmp 69) (.const (.bool false)), [], none⟩,
  ⟨some 71, .copy false (.tmp 70), [], none⟩,
  ⟨some 72, .fad 0 (.tmp 1), [], some (71, false)⟩,
  ⟨some 73, .load 1 false false (.tmp 72), [], some (71, false)⟩,
  ⟨some 74, .bin .neq (.tmp 73) (.const (.int .u8 3)), [], some (71, false)⟩,
  ⟨some 75, .copy false (.tmp 74), [], some (71, false)⟩,
  ⟨some 76, .fad 9 (.tmp 1), [], some (75, true)⟩,
  ⟨some 77, .load 1 false false (.tmp 76), [], some (75, true)⟩,
  ⟨some 78, .len 0 (.tmp 77), [], some (75, true)⟩,
  ⟨some 79, .bin .gtr (.tmp 78) (.const (.int .i64 0)), [], some (75, true)⟩,
  ⟨some 80, .pick (.tmp 75) (.tmp 79) (.const (.bool false)), [], some (71, false)⟩,
  ⟨some 81, .pick (.tmp 71) (.const (.bool true)) (.tmp 80), [], none⟩,
  ⟨some 82, .copy false (.tmp 81), [], none⟩,
  ⟨some 83, .copy false (.tmp 4), [], some (82, false)⟩,
  ⟨some 84, .un .not (.tmp 83), [], some (82, false)⟩,
  ⟨some 85, .copy false (.tmp 84), [], some (82, false)⟩,
  ⟨some 86, .fad 10 (.tmp 1), [], some (85, true)⟩,
  ⟨some 87, .load 1 false false (.tmp 86), [], some (85, true)⟩,
  ⟨some 88, .bin .neq (.tmp 87) (.const (.string { data := #[] })), [], some (85, true)⟩,
  ⟨some 89, .pick (.tmp 85) (.tmp 88) (.const (.bool false)), [], some (82, false)⟩,
  ⟨some 90, .pick (.tmp 82) (.const (.bool true)) (.tmp 89), [], none⟩,
  ⟨some 62, .copy true (.tmp 90), [], none⟩]
def F66r6 : List ROp := [⟨some 2, .copy true (.const (.bool false)), [], none⟩]
def F66r7 : List ROp := [⟨some 92, .copy false (.tmp 3), [], none⟩,
  ⟨some 93, .copy false (.tmp 92), [], none⟩,
  ⟨some 94, .fad 1 (.tmp 1), [], some (93, true)⟩,
  ⟨some 95, .load 1 false false (.tmp 94), [], some (93, true)⟩,
  ⟨some 96, .bin .lss (.tmp 95) (.const (.int .i64 1)), [], some (93, true)⟩,
  ⟨some 97, .copy false (.tmp 96), [], some (93, true)⟩,
  ⟨some 98, .fad 1 (.tmp 1), [], some (97, false)⟩,
  ⟨some 99, .load 1 false false (.tmp 98), [], some (97, false)⟩,
  ⟨some 100, .bin .gtr (.tmp 99) (.const (.int .i64 99)), [], some (97, false)⟩,
  ⟨some 101, .pick (.tmp 97) (.const (.bool true)) (.tmp 100), [], some (93, true)⟩,
  ⟨some 102, .pick (.tmp 93) (.tmp 101) (.const (.bool false)), [], none⟩,
  ⟨some 103, .copy false (.tmp 102), [], none⟩,
  ⟨some 104, .fad 2 (.tmp 1), [], some (103, false)⟩,
  ⟨some 105, .load 1 false false (.tmp 104), [], some (103, false)⟩,
  ⟨some 106, .len 1 (.tmp 105), [], some (103, false)⟩,
  ⟨some 107, .bin .gtr (.tmp 106) (.const (.int .i64 65)), [], some (103, false)⟩,
  ⟨some 108, .pick (.tmp 103) (.const (.bool true)) (.tmp 107), [], none⟩,
  ⟨some 109, .copy false (.tmp 108), [], none⟩,
  ⟨some 110, .fad 3 (.tmp 1), [], some (109, false)⟩,
  ⟨some 111, .fad 0 (.tmp 110), [], some (109, false)⟩,
  ⟨some 112, .load 1 false false (.tmp 111), [], some (109, false)⟩,
  ⟨some 113, .call (.func 90) [.tmp 112], [], some (109, false)⟩,
  ⟨some 114, .un .not (.tmp 113), [], some (109, false)⟩,
  ⟨some 115, .pick (.tmp 109) (.const (.bool true)) (.tmp 114), [], none⟩,
  ⟨some 116, .copy false (.tmp 115), [], none⟩,
  ⟨some 117, .fad 3 (.tmp 1), [], some (116, false)⟩,
  ⟨some 118, .fad 1 (.tmp 117), [], some (116, false)⟩,
  ⟨some 119, .load 1 false false (.tmp 118), [], some (116, false)⟩,
  ⟨some 120, .call (.func 90) [.tmp 119], [], some (116, false)⟩,
  ⟨some 121, .un .not (.tmp 120), [], some (116, false)⟩,
  ⟨some 122, .pick (.tmp 116) (.const (.bool true)) (.tmp 121), [], none⟩,
  ⟨some 123, .copy false (.tmp 122), [], none⟩,
  ⟨some 124, .fad 7 (.tmp 1), [], some (123, false)⟩,
  ⟨some 125, .load 1 false false (.tmp 124), [], some (123, false)⟩,
  ⟨some 126, .call (.func 90) [.tmp 125], [], some (123, false)⟩,
  ⟨some 127, .un .not (.tmp 126), [], some (123, false)⟩,
  ⟨some 128, .pick (.tmp 123) (.const (.bool true)) (.tmp 127), [], none⟩,
  ⟨some 91, .copy true (.tmp 128), [], none⟩]
def F66r8 : List ROp := [⟨some 2, .copy true (.const (.bool false)), [], none⟩]
def F66r9 : List ROp := [⟨some 129, .fad 8 (.tmp 1), [], none⟩,
  ⟨some 130, .load 1 false false (.tmp 129), [], none⟩,
  ⟨some 131, .call (.func 93) [.tmp 130], [], none⟩,
  ⟨some 132, .copy false (.tmp 131), [], none⟩,
  ⟨some 133, .fad 9 (.tmp 1), [], some (132, true)⟩,
  ⟨some 134, .load 1 false false (.tmp 133), [], some (132, true)⟩,
  ⟨some 135, .call (.func 102) [.tmp 134], [], some (132, true)⟩,
  ⟨some 136, .pick (.tmp 132) (.tmp 135) (.const (.bool false)), [], none⟩,
  ⟨some 2, .copy true (.tmp 136), [], none⟩]
-- function 70: corollary/corollaryref31.says
def F70r0 : List ROp := [⟨some 1, .box 39 (.tmp 0), [], none⟩,
  ⟨some 2, .copy true (.const (.bool false)), [], none⟩]
def F70r1 : List ROp := [⟨some 4, .fad 0 (.tmp 1), [], none⟩,
  ⟨some 5, .load 1 false false (.tmp 4), [], none⟩,
  ⟨some 6, .bin .eql (.tmp 5) (.const (.int .u8 1)), [], none⟩,
  ⟨some 7, .copy false (.tmp 6), [], none⟩,
  ⟨some 8, .fad 0 (.tmp 1), [], some (7, false)⟩,
  ⟨some 9, .load 1 false false (.tmp 8), [], some (7, false)⟩,
  ⟨some 10, .bin .eql (.tmp 9) (.const (.int .u8 2)), [], some (7, false)⟩,
  ⟨some 11, .pick (.tmp 7) (.const (.bool true)) (.tmp 10), [], none⟩,
  ⟨some 12, .copy false (.tmp 11), [], none⟩,
  ⟨some 13, .fad 0 (.tmp 1), [], some (12, false)⟩,
  ⟨some 14, .load 1 false false (.tmp 13), [], some (12, false)⟩,
  ⟨some 15, .bin .eql (.tmp 14) (.const (.int .u8 4)), [], some (12, false)⟩,
  ⟨some 16, .pick (.tmp 12) (.const (.bool true)) (.tmp 15), [], none⟩,
  ⟨some 17, .copy false (.tmp 16), [], none⟩,
  ⟨some 18, .fad 0 (.tmp 1), [], some (17, false)⟩,
  ⟨some 19, .load 1 false false (.tmp 18), [], some (17, false)⟩,
  ⟨some 20, .bin .eql (.tmp 19) (.const (.int .u8 5)), [], some (17, false)⟩,
  ⟨some 21, .pick (.tmp 17) (.const (.bool true)) (.tmp 20), [], none⟩,
  ⟨some 3, .copy true (.tmp 21), [], none⟩]
def F70r2 : List ROp := [⟨some 22, .fad 0 (.tmp 1), [], none⟩,
  ⟨some 23, .load 1 false false (.tmp 22), [], none⟩,
  ⟨some 24, .bin .neq (.tmp 23) (.const (.int .u8 0)), [], none⟩,
  ⟨some 25, .copy false (.tmp 24), [], none⟩,
  ⟨some 26, .fad 1 (.tmp 1), [], some (25, true)⟩,
  ⟨some 27, .load 1 false false (.tmp 26), [], some (25, true)⟩,
  ⟨some 28, .bin .neq (.tmp 27) (.const (.int .i64 0)), [], some (25, true)⟩,
  ⟨some 29, .copy false (.tmp 28), [], some (25, true)⟩,
  ⟨some 30, .fad 2 (.tmp 1), [], some (29, false)⟩,
  ⟨some 31, .load 1 false false (.tmp 30), [], some (29, false)⟩,
  ⟨some 32, .bin .neq (.tmp 31) (.const (.string { data := #[] })), [], some (29, false)⟩,
  ⟨some 33, .pick (.tmp 29) (.const (.bool true)) (.tmp 32), [], some (25, true)⟩,
  ⟨some 34, .copy false (.tmp 33), [], some (25, true)⟩,
  ⟨some 35, .fad 3 (.tmp 1), [], some (34, false)⟩,
  ⟨some 36, .load 2 true false (.tmp 35), [], some (34, false)⟩,
  ⟨some 37, .build [Value.int .i64 0, Value.int .i64 0] [], [], some (34, false)⟩,
  ⟨some 38, .eqg true [0, 0] (.tmp 36) (.tmp 37), [], some (34, false)⟩,
  ⟨some 39, .pick (.tmp 34) (.const (.bool true)) (.tmp 38), [], some (25, true)⟩,
  ⟨some 40, .copy false (.tmp 39), [], some (25, true)⟩,
  ⟨some 41, .fad 5 (.tmp 1), [], some (40, false)⟩,
  ⟨some 42, .load 1 false false (.tmp 41), [], some (40, false)⟩,
  ⟨some 43, .bin .neq (.tmp 42) (.const (.int .i64 0)), [], some (40, false)⟩,
  ⟨some 44, .pick (.tmp 40) (.const (.bool true)) (.tmp 43), [], some (25, true)⟩,
  ⟨some 45, .copy false (.tmp 44), [], some (25, true)⟩,
  ⟨some 46, .fad 6 (.tmp 1), [], some (45, false)⟩,
  ⟨some 47, .load 1 false false (.tmp 46), [], some (45, false)⟩,
  ⟨some 48, .bin .neq (.tmp 47) (.const (.int .i64 0)), [], some (45, false)⟩,
  ⟨some 49, .pick (.tmp 45) (.const (.bool true)) (.tmp 48), [], some (25, true)⟩,
  ⟨some 50, .copy false (.tmp 49), [], some (25, true)⟩,
  ⟨some 51, .fad 7 (.tmp 1), [], some (50, false)⟩,
  ⟨some 52, .load 1 false false (.tmp 51), [], some (50, false)⟩,
  ⟨some 53, .bin .neq (.tmp 52) (.const (.int .i64 0)), [], some (50, false)⟩,
  ⟨some 54, .pick (.tmp 50) (.const (.bool true)) (.tmp 53), [], some (25, true)⟩,
  ⟨some 55, .pick (.tmp 25) (.tmp 54) (.const (.bool false)), [], none⟩]
def F70r3 : List ROp := [⟨some 2, .copy true (.const (.bool false)), [], none⟩]
def F70r4 : List ROp := [⟨some 56, .copy false (.tmp 3), [], none⟩,
  ⟨some 57, .un .not (.tmp 56), [], none⟩,
  ⟨some 58, .copy false (.tmp 57), [], none⟩,
  ⟨some 59, .fad 8 (.tmp 1), [], some (58, true)⟩,
  ⟨some 60, .load 1 false false (.tmp 59), [], some (58, true)⟩,
  ⟨some 61, .len 0 (.tmp 60), [], some (58, true)⟩,
  ⟨some 62, .bin .gtr (.tmp 61) (.const (.int .i64 0)), [], some (58, true)⟩,
  ⟨some 63, .pick (.tmp 58) (.tmp 62) (.const (.bool false)), [], none⟩,
  ⟨some 64, .copy false (.tmp 63), [], none⟩,
  ⟨some 65, .fad 0 (.tmp 1), [], some (64, false)⟩,
  ⟨some 66, .load 1 false false (.tmp 65), [], some (64, false)⟩,
  ⟨some 67, .bin .neq (.tmp 66) (.const (.int .u8 3)), [], some (64, false)⟩,
  ⟨some 68, .copy false (.tmp 67), [], some (64, false)⟩,
  ⟨some 69, .fad 9 (.tmp 1), [], some (68, true)⟩,
  ⟨some 70, .load 1 false false (.tmp 69), [], some (68, true)⟩,
  ⟨some 71, .len 0 (.tmp 70), [], some (68, true)⟩,
  ⟨some 72, .bin .gtr (.tmp 71) (.const (.int .i64 0)), [], some (68, true)⟩,
  ⟨some 73, .pick (.tmp 68) (.tmp 72) (.const (.bool false)), [], some (64, false)⟩,
  ⟨some 74, .pick (.tmp 64) (.const (.bool true)) (.tmp 73), [], none⟩,
  ⟨some 75, .copy false (.tmp 74), [], none⟩,
  ⟨some 76, .fad 0 (.tmp 1), [], some (75, false)⟩,
  ⟨some 77, .load 1 false false (.tmp 76), [], some (75, false)⟩,
  ⟨some 78, .bin .lss (.tmp 77) (.const (.int .u8 6)), [], some (75, false)⟩,
  ⟨some 79, .copy false (.tmp 78), [], some (75, false)⟩,
  ⟨some 80, .fad 10 (.tmp 1), [], some (79, true)⟩,
  ⟨some 81, .load 1 false false (.tmp 80), [], some (79, true)⟩,
  ⟨some 82, .bin .neq (.tmp 81) (.const (.string { data := #[] })), [], some (79, true)⟩,
  ⟨some 83, .pick (.tmp 79) (.tmp 82) (.const (.bool false)), [], some (75, false)⟩,
  ⟨some 84, .pick (.tmp 75) (.const (.bool true)) (.tmp 83), [], none⟩]
def F70r5 : List ROp := [⟨some 2, .copy true (.const (.bool false)), [], none⟩]
def F70r6 : List ROp := [⟨some 85, .fad 0 (.tmp 1), [], none⟩,
  ⟨some 86, .load 1 false false (.tmp 85), [], none⟩,
  ⟨some 87, .bin .eql (.tmp 86) (.const (.int .u8 0)), [], none⟩,
  ⟨some 88, .copy false (.tmp 87), [], none⟩,
  ⟨some 89, .fad 1 (.tmp 1), [], some (88, true)⟩,
  ⟨some 90, .load 1 false false (.tmp 89), [], some (88, true)⟩,
  ⟨some 91, .bin .lss (.tmp 90) (.const (.int .i64 1)), [], some (88, true)⟩,
  ⟨some 92, .copy false (.tmp 91), [], some (88, true)⟩,
  ⟨some 93, .fad 1 (.tmp 1), [], some (92, false)⟩,
  ⟨some 94, .load 1 false false (.tmp 93), [], some (92, false)⟩,
  ⟨some 95, .bin .gtr (.tmp 94) (.const (.int .i64 99)), [], some (92, false)⟩,
  ⟨some 96, .pick (.tmp 92) (.const (.bool true)) (.tmp 95), [], some (88, true)⟩,
  ⟨some 97, .pick (.tmp 88) (.tmp 96) (.const (.bool false)), [], none⟩,
  ⟨some 98, .copy false (.tmp 97), [], none⟩,
  ⟨some 99, .fad 2 (.tmp 1), [], some (98, false)⟩,
  ⟨some 100, .load 1 false false (.tmp 99), [], some (98, false)⟩,
  ⟨some 101, .len 1 (.tmp 100), [], some (98, false)⟩,
  ⟨some 102, .bin .gtr (.tmp 101) (.const (.int .i64 65)), [], some (98, false)⟩,
  ⟨some 103, .pick (.tmp 98) (.const (.bool true)) (.tmp 102), [], none⟩]
def F70r7 : List ROp := [⟨some 2, .copy true (.const (.bool false)), [], none⟩]
def F70r8 : List ROp := [⟨some 104, .fad 3 (.tmp 1), [], none⟩,
  ⟨some 105, .fad 0 (.tmp 104), [], none⟩,
  ⟨some 106, .load 1 false false (.tmp 105), [], none⟩,
  ⟨some 107, .call (.func 98) [.tmp 106], [], none⟩,
  ⟨some 108, .copy false (.tmp 107), [], none⟩,
  ⟨some 109, .fad 3 (.tmp 1), [], some (108, true)⟩,
  ⟨some 110, .fad 1 (.tmp 109), [], some (108, true)⟩,
  ⟨some 111, .load 1 false false (.tmp 110), [], some (108, true)⟩,
  ⟨some 112, .call (.func 98) [.tmp 111], [], some (108, true)⟩,
  ⟨some 113, .pick (.tmp 108) (.tmp 112) (.const (.bool false)), [], none⟩,
  ⟨some 114, .copy false (.tmp 113), [], none⟩,
  ⟨some 115, .fad 7 (.tmp 1), [], some (114, true)⟩,
  ⟨some 116, .load 1 false false (.tmp 115), [], some (114, true)⟩,
  ⟨some 117, .call (.func 98) [.tmp 116], [], some (114, true)⟩,
  ⟨some 118, .pick (.tmp 114) (.tmp 117) (.const (.bool false)), [], none⟩,
  ⟨some 119, .copy false (.tmp 118), [], none⟩,
  ⟨some 120, .fad 8 (.tmp 1), [], some (119, true)⟩,
  ⟨some 121, .load 1 false false (.tmp 120), [], some (119, true)⟩,
  ⟨some 122, .call (.func 99) [.tmp 121], [], some (119, true)⟩,
  ⟨some 123, .pick (.tmp 119) (.tmp 122) (.const (.bool false)), [], none⟩,
  ⟨some 124, .copy false (.tmp 123), [], none⟩,
  ⟨some 125, .fad 9 (.tmp 1), [], some (124, true)⟩,
  ⟨some 126, .load 1 false false (.tmp 125), [], some (124, true)⟩,
  ⟨some 127, .call (.func 106) [.tmp 126], [], some (124, true)⟩,
  ⟨some 128, .pick (.tmp 124) (.tmp 127) (.const (.bool false)), [], none⟩,
  ⟨some 2, .copy true (.tmp 128), [], none⟩]
def repsize (r : RepD) : Nat := r.module.size + csizes r.changes + rsizes r.rows + r.text.size
theorem fitsR_P (r : RepD) (hc : repsize r ≤ 4194304) (k : Fin 8) (hk : r.kind = k.val) : Con Tryz.prog 66 [repX r] (bval (fitsR r)) := by
  unfold repsize at hc
  have h1 := count_ok r.line
  have h2 := count_ok r.col
  have h3 := count_ok r.row
  have h4 := changesP_ok r.changes (by omega)
  have h5 := listsP_ok r.rows (by omega)
  have e1 : decide (r.e < 1) = !decide (1 ≤ r.e) := by rw [← decide_not]; exact decide_eq_decide.2 (by omega)
  have e2 : decide (99 < r.e) = !decide (r.e ≤ 99) := by rw [← decide_not]; exact decide_eq_decide.2 (by omega)
  have e3 : decide ((65 : Int) < r.module.size) = !decide (r.module.size ≤ 65) := by rw [← decide_not]; exact decide_eq_decide.2 (by omega)
  have e4 : decide ((r.module.size : Int) ≤ 65) = decide (r.module.size ≤ 65) := decide_eq_decide.2 (by omega)
  refine Con.of_code Tryz.func66 (by kernel_rfl) rfl (by simp [Tryz.ntmps66]) fun C hC hM => ?_
  refine AWp.seq ?_
  refine AWp.regK [1] [false, true] F66r0 [] (by kernel_rfl) (by rw [hC]; rfl) fun K hK => ?_
  simp (maxSteps := 2000000) [F66r0]
  refine hK _ ?_
  refine AWp.seq ?_
  refine AWp.regKL ops_mixed [[], [0], [0, 1], [], [3], [3, 4], [3, 4, 5], [3, 4, 5, 6], [3, 4, 5, 6, 7], [3, 4, 5, 6, 7, 8], [3, 4, 5, 6, 7, 8, 9], [0, 1, 2, 3, 4, 5, 6], [0, 1, 2, 3, 4, 5, 6, 7, 8, 9, 10, 11]] [1, 3, 4] [false, false, false, false, false, false, false, false, false, false, false, true, true] F66r1 [] (by kernel_rfl) (by rw [hC]; rfl) (by kernel_rfl) (by kernel_rfl) fun K hK => ?_
  simp (maxSteps := 2000000) [F66r1]
  (repeat refine ⟨by first | omega | (intros; omega) | assumption, ?_⟩); first | refine hK _ ?_ | refine ⟨by kernel_rfl, hK _ ?_⟩
  refine AWp.seq ?_
  refine AWp.regK [1, 3, 4, 5] [false, false, false, false, false, false, false, false, false, false, false, true] F66r2 [] (by kernel_rfl) (by rw [hC]; rfl) fun K hK => ?_
  simp (maxSteps := 2000000) [F66r2]
  (repeat refine ⟨by first | omega | (intros; omega) | assumption, ?_⟩); refine hK _ ?_
  refine AWp.seq ?_
  refine AWp.block ?_
  refine AWp.seq ?_
  refine AWp.regK [1, 3, 4, 5, 28] [false, false, false, false, false, false, false, false, false, false, false, false, false, false, false, false, false, false, false, false, false, false, false, false, false, false, false, false, false, false, false, false, false, true] F66r3 [] (by kernel_rfl) (by rw [hC]; rfl) fun K hK => ?_
  simp (maxSteps := 2000000) [F66r3]
  (repeat refine ⟨by first | omega | (intros; omega) | assumption, ?_⟩); refine hK _ ?_
  refine AWp.cond _ (by rfl) (fun hs => ?_) (fun hs => ?_)
  · skip
    refine AWp.seq ?_
    refine AWp.regK [2] [true] F66r4 [] (by kernel_rfl) (by rw [hC]; rfl) fun K hK => ?_
    simp (maxSteps := 2000000) [F66r4]
    refine hK _ ?_
    repeat refine AWp.seq ?_
    refine AWp.ret ⟨.inr rfl, _, by simp [Tryz.results66] <;> rfl, ?_⟩
    refine .clos ?_ rfl
    have hb : shapeR r = false := by
      revert hs
      unfold shapeR
      generalize decide (r.kind = 0) = a1; generalize decide (r.e = 0) = a2; generalize decide (r.module = ⟨#[]⟩) = a3; generalize decide (r.line = 0) = a4; generalize decide (r.col = 0) = a5; generalize decide (r.rule = 0) = a6; generalize decide (r.never = 0) = a7; generalize decide (r.row = 0) = a8
      revert a1 a2 a3 a4 a5 a6 a7 a8
      decide +kernel
    simp [fitsR, hb]
  have hb : shapeR r = true := by
    revert hs
    unfold shapeR
    generalize decide (r.kind = 0) = a1; generalize decide (r.e = 0) = a2; generalize decide (r.module = ⟨#[]⟩) = a3; generalize decide (r.line = 0) = a4; generalize decide (r.col = 0) = a5; generalize decide (r.rule = 0) = a6; generalize decide (r.never = 0) = a7; generalize decide (r.row = 0) = a8
    revert a1 a2 a3 a4 a5 a6 a7 a8
    decide +kernel
  clear hs
  refine AWp.seq ?_
  refine AWp.regK [1, 3, 62] [false, false, false, false, false, false, false, false, false, false, false, false, false, false, false, false, false, false, false, false, false, false, false, false, false, false, false, false, true] F66r5 [] (by kernel_rfl) (by rw [hC]; rfl) fun K hK => ?_
  simp (maxSteps := 2000000) [F66r5]
  (repeat refine ⟨by first | omega | (intros; omega) | assumption, ?_⟩); refine hK _ ?_
  refine AWp.cond _ (by rfl) (fun hs2 => ?_) (fun hs2 => ?_)
  · skip
    refine AWp.seq ?_
    refine AWp.regK [2] [true] F66r6 [] (by kernel_rfl) (by rw [hC]; rfl) fun K hK => ?_
    simp (maxSteps := 2000000) [F66r6]
    refine hK _ ?_
    repeat refine AWp.seq ?_
    refine AWp.ret ⟨.inr rfl, _, by simp [Tryz.results66] <;> rfl, ?_⟩
    refine .clos ?_ rfl
    have hb2 : shapeR2 r = false := by
      revert hs2
      unfold shapeR2 moves
      simp only [len_pos, hk]
      clear hk
      generalize decide (r.changes = []) = a1; generalize decide (r.rows = []) = a2; generalize decide (r.text = ⟨#[]⟩) = a3
      revert k a1 a2 a3
      decide +kernel
    simp [fitsR, hb2]
  have hb2 : shapeR2 r = true := by
    revert hs2
    unfold shapeR2 moves
    simp only [len_pos, hk]
    clear hk
    generalize decide (r.changes = []) = a1; generalize decide (r.rows = []) = a2; generalize decide (r.text = ⟨#[]⟩) = a3
    revert k a1 a2 a3
    decide +kernel
  clear hs2
  refine AWp.seq ?_
  refine AWp.regK [1, 91] [false, false, false, false, false, false, false, false, false, false, false, false, false, false, false, false, false, false, false, false, false, false, false, false, false, false, false, false, false, false, false, false, false, false, false, false, false, true] F66r7 [{ r := bval (countB r.line) }, { r := bval (countB r.col) }, { r := bval (countB r.row) }] (by kernel_rfl) (by rw [hC]; rfl) fun K hK => ?_
  simp (maxSteps := 2000000) [F66r7]
  (repeat first | refine ⟨by first | (show freeP _ _ _ = true; kernel_rfl) | omega | (intros; omega) | assumption, ?_⟩ | refine ⟨by intros; exact callOK rfl h1, ?_⟩ | refine ⟨by intros; exact callOK rfl h2, ?_⟩ | refine ⟨by intros; exact callOK rfl h3, ?_⟩); refine hK _ ?_
  refine AWp.cond _ (by rfl) (fun ht => ?_) (fun ht => ?_)
  · skip
    refine AWp.seq ?_
    refine AWp.regK [2] [true] F66r8 [] (by kernel_rfl) (by rw [hC]; rfl) fun K hK => ?_
    simp (maxSteps := 2000000) [F66r8]
    refine hK _ ?_
    repeat refine AWp.seq ?_
    refine AWp.ret ⟨.inr rfl, _, by simp [Tryz.results66] <;> rfl, ?_⟩
    refine .clos ?_ rfl
    have hr : restR r = false := by
      revert ht
      unfold restR
      simp only [e1, e2, e3, e4]
      generalize decide (r.kind = 0) = a1; generalize decide (1 ≤ r.e) = a2; generalize decide (r.e ≤ 99) = a3; generalize decide (r.module.size ≤ 65) = a4; generalize countB r.line = a5; generalize countB r.col = a6; generalize countB r.row = a7
      revert a1 a2 a3 a4 a5 a6 a7
      decide +kernel
    simp [fitsR, hr]
  have hr : restR r = true := by
    revert ht
    unfold restR
    simp only [e1, e2, e3, e4]
    generalize decide (r.kind = 0) = a1; generalize decide (1 ≤ r.e) = a2; generalize decide (r.e ≤ 99) = a3; generalize decide (r.module.size ≤ 65) = a4; generalize countB r.line = a5; generalize countB r.col = a6; generalize countB r.row = a7
    revert a1 a2 a3 a4 a5 a6 a7
    decide +kernel
  clear ht
  refine AWp.skip ?_
  refine AWp.seq ?_
  refine AWp.regK [2] [false, false, false, false, false, false, false, false, true] F66r9 [{ r := bval (changesOk r.changes) }, { r := bval (rowsOk r.rows) }] (by kernel_rfl) (by rw [hC]; rfl) fun K hK => ?_
  simp (maxSteps := 2000000) [F66r9]
  (repeat first | refine ⟨by first | (show freeP _ _ _ = true; kernel_rfl) | omega | (intros; omega) | assumption, ?_⟩ | refine ⟨by intros; exact callOK rfl h4, ?_⟩ | refine ⟨by intros; exact callOK rfl h5, ?_⟩); refine hK _ ?_
  repeat refine AWp.seq ?_
  refine AWp.ret ⟨.inr rfl, _, by simp [Tryz.results66] <;> rfl, ?_⟩
  refine .clos ?_ rfl
  simp [fitsR, hb, hb2, hr]
theorem fitsR_R (r : RepD) (hc : repsize r ≤ 4194304) (k : Fin 8) (hk : r.kind = k.val) : Con Tryz.prog 70 [repX r] (bval (fitsR r)) := by
  unfold repsize at hc
  have h1 := countR_ok r.line
  have h2 := countR_ok r.col
  have h3 := countR_ok r.row
  have h4 := changesR_ok r.changes (by omega)
  have h5 := rowsR_ok r.rows (by omega)
  have e1 : decide (r.e < 1) = !decide (1 ≤ r.e) := by rw [← decide_not]; exact decide_eq_decide.2 (by omega)
  have e2 : decide (99 < r.e) = !decide (r.e ≤ 99) := by rw [← decide_not]; exact decide_eq_decide.2 (by omega)
  have e3 : decide ((65 : Int) < r.module.size) = !decide (r.module.size ≤ 65) := by rw [← decide_not]; exact decide_eq_decide.2 (by omega)
  have e4 : decide ((r.module.size : Int) ≤ 65) = decide (r.module.size ≤ 65) := decide_eq_decide.2 (by omega)
  refine Con.of_code Tryz.func70 (by kernel_rfl) rfl (by simp [Tryz.ntmps70]) fun C hC hM => ?_
  refine AWp.seq ?_
  refine AWp.regK [1] [false, true] F70r0 [] (by kernel_rfl) (by rw [hC]; rfl) fun K hK => ?_
  simp (maxSteps := 2000000) [F70r0]
  refine hK _ ?_
  refine AWp.seq ?_
  refine AWp.regK [1, 3] [false, false, false, false, false, false, false, false, false, false, false, false, false, false, false, false, false, false, true] F70r1 [] (by kernel_rfl) (by rw [hC]; rfl) fun K hK => ?_
  simp (maxSteps := 2000000) [F70r1]
  (repeat refine ⟨by first | omega | (intros; omega) | assumption, ?_⟩); refine hK _ ?_
  refine AWp.seq ?_
  refine AWp.seq ?_
  refine AWp.regK [1, 3, 55] [] F70r2 [] (by kernel_rfl) (by rw [hC]; rfl) fun K hK => ?_
  simp (maxSteps := 2000000) [F70r2]
  (repeat refine ⟨by first | omega | (intros; omega) | assumption, ?_⟩); refine hK _ ?_
  refine AWp.cond _ (by rfl) (fun hs => ?_) (fun hs => ?_)
  · skip
    refine AWp.seq ?_
    refine AWp.regK [2] [true] F70r3 [] (by kernel_rfl) (by rw [hC]; rfl) fun K hK => ?_
    simp (maxSteps := 2000000) [F70r3]
    refine hK _ ?_
    repeat refine AWp.seq ?_
    refine AWp.ret ⟨.inr rfl, _, by simp [Tryz.results70] <;> rfl, ?_⟩
    refine .clos ?_ rfl
    have hb : shapeR r = false := by
      revert hs
      unfold shapeR
      generalize decide (r.kind = 0) = a1; generalize decide (r.e = 0) = a2; generalize decide (r.module = ⟨#[]⟩) = a3; generalize decide (r.line = 0) = a4; generalize decide (r.col = 0) = a5; generalize decide (r.rule = 0) = a6; generalize decide (r.never = 0) = a7; generalize decide (r.row = 0) = a8
      revert a1 a2 a3 a4 a5 a6 a7 a8
      decide +kernel
    simp [fitsR, hb]
  have hb : shapeR r = true := by
    revert hs
    unfold shapeR
    generalize decide (r.kind = 0) = a1; generalize decide (r.e = 0) = a2; generalize decide (r.module = ⟨#[]⟩) = a3; generalize decide (r.line = 0) = a4; generalize decide (r.col = 0) = a5; generalize decide (r.rule = 0) = a6; generalize decide (r.never = 0) = a7; generalize decide (r.row = 0) = a8
    revert a1 a2 a3 a4 a5 a6 a7 a8
    decide +kernel
  clear hs
  refine AWp.skip ?_
  refine AWp.seq ?_
  refine AWp.seq ?_
  refine AWp.regK [1, 84] [] F70r4 [] (by kernel_rfl) (by rw [hC]; rfl) fun K hK => ?_
  simp (maxSteps := 2000000) [F70r4]
  (repeat refine ⟨by first | omega | (intros; omega) | assumption, ?_⟩); refine hK _ ?_
  refine AWp.cond _ (by rfl) (fun hs2 => ?_) (fun hs2 => ?_)
  · skip
    refine AWp.seq ?_
    refine AWp.regK [2] [true] F70r5 [] (by kernel_rfl) (by rw [hC]; rfl) fun K hK => ?_
    simp (maxSteps := 2000000) [F70r5]
    refine hK _ ?_
    repeat refine AWp.seq ?_
    refine AWp.ret ⟨.inr rfl, _, by simp [Tryz.results70] <;> rfl, ?_⟩
    refine .clos ?_ rfl
    have hb2 : shapeR2 r = false := by
      revert hs2
      unfold shapeR2 moves
      simp only [len_pos, hk]
      clear hk
      generalize decide (r.changes = []) = a1; generalize decide (r.rows = []) = a2; generalize decide (r.text = ⟨#[]⟩) = a3
      revert k a1 a2 a3
      decide +kernel
    simp [fitsR, hb2]
  have hb2 : shapeR2 r = true := by
    revert hs2
    unfold shapeR2 moves
    simp only [len_pos, hk]
    clear hk
    generalize decide (r.changes = []) = a1; generalize decide (r.rows = []) = a2; generalize decide (r.text = ⟨#[]⟩) = a3
    revert k a1 a2 a3
    decide +kernel
  clear hs2
  refine AWp.skip ?_
  refine AWp.seq ?_
  refine AWp.seq ?_
  refine AWp.regK [1, 103] [] F70r6 [] (by kernel_rfl) (by rw [hC]; rfl) fun K hK => ?_
  simp (maxSteps := 2000000) [F70r6]
  (repeat refine ⟨by first | omega | (intros; omega) | assumption, ?_⟩); refine hK _ ?_
  refine AWp.cond _ (by rfl) (fun ht => ?_) (fun ht => ?_)
  · skip
    refine AWp.seq ?_
    refine AWp.regK [2] [true] F70r7 [] (by kernel_rfl) (by rw [hC]; rfl) fun K hK => ?_
    simp (maxSteps := 2000000) [F70r7]
    refine hK _ ?_
    repeat refine AWp.seq ?_
    refine AWp.ret ⟨.inr rfl, _, by simp [Tryz.results70] <;> rfl, ?_⟩
    refine .clos ?_ rfl
    have hr : restR r = false := by
      revert ht
      unfold restR
      simp only [e1, e2, e3, e4]
      generalize decide (r.kind = 0) = a1; generalize decide (1 ≤ r.e) = a2; generalize decide (r.e ≤ 99) = a3; generalize decide (r.module.size ≤ 65) = a4; generalize countB r.line = a5; generalize countB r.col = a6; generalize countB r.row = a7
      revert a1 a2 a3 a4 a5 a6 a7
      decide +kernel
    simp [fitsR, hr]
  have hr : restR r = (countB r.line && countB r.col && countB r.row) := by
    revert ht
    unfold restR
    simp only [e1, e2, e3, e4]
    generalize decide (r.kind = 0) = a1; generalize decide (1 ≤ r.e) = a2; generalize decide (r.e ≤ 99) = a3; generalize decide (r.module.size ≤ 65) = a4; generalize countB r.line = a5; generalize countB r.col = a6; generalize countB r.row = a7
    revert a1 a2 a3 a4 a5 a6 a7
    decide +kernel
  clear ht
  refine AWp.skip ?_
  refine AWp.seq ?_
  refine AWp.regK [2] [false, false, false, false, false, false, false, false, false, false, false, false, false, false, false, false, false, false, false, false, false, false, false, false, false, true] F70r8 [{ r := bval (countB r.line) }, { r := bval (countB r.col) }, { r := bval (countB r.row) }, { r := bval (changesOk r.changes) }, { r := bval (rowsOk r.rows) }] (by kernel_rfl) (by rw [hC]; rfl) fun K hK => ?_
  simp (maxSteps := 2000000) [F70r8]
  (repeat first | refine ⟨by first | (show freeP _ _ _ = true; kernel_rfl) | omega | (intros; omega) | assumption, ?_⟩ | refine ⟨by intros; exact callOK rfl h1, ?_⟩ | refine ⟨by intros; exact callOK rfl h2, ?_⟩ | refine ⟨by intros; exact callOK rfl h3, ?_⟩ | refine ⟨by intros; exact callOK rfl h4, ?_⟩ | refine ⟨by intros; exact callOK rfl h5, ?_⟩); refine hK _ ?_
  repeat refine AWp.seq ?_
  refine AWp.ret ⟨.inr rfl, _, by simp [Tryz.results70] <;> rfl, ?_⟩
  refine .clos ?_ rfl
  simp [fitsR, hb, hb2, hr, Bool.and_assoc]
end Go.Se
