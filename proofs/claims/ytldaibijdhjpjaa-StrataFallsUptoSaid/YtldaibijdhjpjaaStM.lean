/- The law StrataFalls. -/
import Derived.Test.YtldaibijdhjpjaaStJ
import Derived.Test.YtldaibijdhjpjaaStH
import Derived.Test.YtldaibijdhjpjaaStSpN
import Derived.Test.YtldaibijdhjpjaaAwZb
set_option linter.unusedSimpArgs false
set_option linter.unusedVariables false
open Go Go.Aw Go.Proofs
namespace Go.St
attribute [local simp] ints encE
-- function 5: corollary/corollarylaw15.StrataFalls: 200 slots; results ['(Go.ResultVar.tmp 2)']
def F5r0 : List ROp := [{ dst := some 1, op := .box 28 (.tmp 0), after := [], guard := none },
  { dst := some 2, op := .copy true (.const (.bool false)), after := [], guard := none }]
def F5r1 : List ROp := [{ dst := some 14, op := .call (.func 16) [], after := [], guard := none },
  { dst := some 15, op := .un .not (.tmp 14), after := [0], guard := none },
  { dst := some 16, op := .copy false (.tmp 15), after := [1, 0], guard := none },
  { dst := some 17, op := .load 6 true false (.tmp 1), after := [2], guard := some (16, false) },
  { dst := some 18, op := .call (.func 9) [.tmp 17], after := [3, 2, 2], guard := some (16, false) },
  { dst := some 19, op := .pick (.tmp 16) (.const (.bool true)) (.tmp 18), after := [2, 4], guard := none }]
def F5r2 : List ROp := [{ dst := some 20, op := .call (.func 16) [], after := [], guard := none },
  { dst := some 2, op := .copy true (.tmp 20), after := [0, 0, 0], guard := none }]
def F5r3 : List ROp := [{ dst := some 22, op := .load 6 true false (.tmp 1), after := [], guard := none },
  { dst := some 23, op := .call (.func 14) [.tmp 22], after := [0], guard := none },
  { dst := some 21, op := .copy false (.tmp 23), after := [1], guard := none },
  { dst := some 24, op := .ext (.tmp 21) 0, after := [2], guard := none },
  { dst := some 25, op := .ext (.tmp 21) 1, after := [2], guard := none },
  { dst := some 26, op := .ext (.tmp 21) 2, after := [2], guard := none },
  { dst := some 3, op := .alloc 42 [Value.slice none 0 0, Value.slice none 0 0, Value.slice none 0 0], after := [], guard := none },
  { dst := some 4, op := .alloc 32 [Value.int .i64 0, Value.int .i64 0], after := [], guard := none },
  { dst := none, op := .store 3 true (.tmp 3) (.tmp 24), after := [6, 3, 1, 0, 1, 2, 3, 6, 7], guard := none },
  { dst := none, op := .store 2 true (.tmp 4) (.tmp 25), after := [7, 4, 8, 0, 1, 2, 3, 4, 6, 7, 8], guard := none },
  { dst := some 5, op := .copy true (.tmp 26), after := [5, 9, 0, 1, 2, 3, 4, 5, 6, 7, 8, 9], guard := none }]
def F5r4 : List ROp := [{ dst := some 27, op := .copy false (.tmp 5), after := [], guard := none },
  { dst := some 28, op := .bin .neq (.tmp 27) (.const (.int .i64 0)), after := [0], guard := none }]
def F5r5 : List ROp := [{ dst := some 29, op := .fad 0 (.tmp 3), after := [], guard := none },
  { dst := some 30, op := .load 1 false false (.tmp 29), after := [0], guard := none },
  { dst := some 31, op := .len 0 (.tmp 30), after := [1], guard := none },
  { dst := some 32, op := .fad 1 (.tmp 3), after := [], guard := none },
  { dst := some 33, op := .load 1 false false (.tmp 32), after := [3], guard := none },
  { dst := some 34, op := .len 0 (.tmp 33), after := [4], guard := none },
  { dst := some 35, op := .bin .add (.tmp 31) (.tmp 34), after := [2, 5], guard := none },
  { dst := some 36, op := .fad 2 (.tmp 3), after := [], guard := none },
  { dst := some 37, op := .load 1 false false (.tmp 36), after := [7], guard := none },
  { dst := some 38, op := .len 0 (.tmp 37), after := [8], guard := none },
  { dst := some 39, op := .bin .add (.tmp 35) (.tmp 38), after := [6, 9], guard := none },
  { dst := some 40, op := .bin .eql (.tmp 39) (.const (.int .i64 0)), after := [10], guard := none },
  { dst := some 2, op := .copy true (.tmp 40), after := [11, 0, 1, 2, 3, 4, 5, 6, 7, 8, 9, 10, 11], guard := none }]
def F5r6 : List ROp := [{ dst := some 41, op := .fad 0 (.tmp 3), after := [], guard := none },
  { dst := some 42, op := .load 1 false false (.tmp 41), after := [0], guard := none },
  { dst := some 43, op := .len 0 (.tmp 42), after := [1], guard := none },
  { dst := some 44, op := .mksl 4 1 1 [Value.bool false] (.tmp 43) (.tmp 43), after := [2, 2], guard := none },
  { dst := some 6, op := .copy true (.tmp 44), after := [3, 0, 1, 2, 3], guard := none }]
def F5r7 : List ROp := [{ dst := some 7, op := .copy true (.const (.int .i64 0)), after := [], guard := none }]
def F5r8 : List ROp := [{ dst := some 45, op := .copy false (.tmp 7), after := [], guard := none },
  { dst := some 46, op := .fad 0 (.tmp 3), after := [], guard := none },
  { dst := some 47, op := .load 1 false false (.tmp 46), after := [1], guard := none },
  { dst := some 48, op := .len 0 (.tmp 47), after := [2], guard := none },
  { dst := some 49, op := .bin .leq (.tmp 45) (.tmp 48), after := [0, 3], guard := none }]
def F5r9 : List ROp := [{ dst := some 50, op := .copy false (.tmp 7), after := [], guard := none },
  { dst := some 51, op := .bin .add (.tmp 50) (.const (.int .i64 1)), after := [0], guard := none },
  { dst := some 7, op := .copy true (.tmp 51), after := [1, 0, 1], guard := none }]
def F5r10 : List ROp := [{ dst := some 8, op := .copy true (.const (.int .i64 0)), after := [], guard := none }]
def F5r11 : List ROp := [{ dst := some 52, op := .copy false (.tmp 8), after := [], guard := none },
  { dst := some 53, op := .fad 4 (.tmp 1), after := [], guard := none },
  { dst := some 54, op := .load 1 false false (.tmp 53), after := [1], guard := none },
  { dst := some 55, op := .len 0 (.tmp 54), after := [2], guard := none },
  { dst := some 56, op := .bin .lss (.tmp 52) (.tmp 55), after := [0, 3], guard := none }]
def F5r12 : List ROp := [{ dst := some 57, op := .copy false (.tmp 8), after := [], guard := none },
  { dst := some 58, op := .bin .add (.tmp 57) (.const (.int .i64 1)), after := [0], guard := none },
  { dst := some 8, op := .copy true (.tmp 58), after := [1, 0, 1], guard := none }]
def F5r13 : List ROp := [{ dst := some 59, op := .fad 4 (.tmp 1), after := [], guard := none },
  { dst := some 60, op := .load 1 false false (.tmp 59), after := [0], guard := none },
  { dst := some 61, op := .copy false (.tmp 8), after := [], guard := none },
  { dst := some 62, op := .iad 6 (.tmp 60) (.tmp 61), after := [1, 2], guard := none },
  { dst := some 63, op := .load 6 true false (.tmp 62), after := [3], guard := none },
  { dst := some 9, op := .alloc 52 [Value.int .i64 0, Value.int .i64 0, Value.string ByteArray.empty, Value.slice none 0 0, Value.slice none 0 0, Value.slice none 0 0], after := [], guard := none },
  { dst := none, op := .store 6 true (.tmp 9) (.tmp 63), after := [5, 4, 0, 1, 2, 3, 4, 5], guard := none }]
def F5r14 : List ROp := [{ dst := some 64, op := .load 6 true false (.tmp 1), after := [], guard := none },
  { dst := some 65, op := .fad 2 (.tmp 9), after := [], guard := none },
  { dst := some 66, op := .load 1 false false (.tmp 65), after := [1], guard := none },
  { dst := some 67, op := .call (.func 17) [.tmp 64, .tmp 66], after := [0, 2], guard := none },
  { dst := some 10, op := .copy true (.tmp 67), after := [3, 3, 0, 1, 2, 3], guard := none }]
def F5r15 : List ROp := [{ dst := some 11, op := .copy true (.const (.int .i64 0)), after := [], guard := none }]
def F5r16 : List ROp := [{ dst := some 68, op := .copy false (.tmp 11), after := [], guard := none },
  { dst := some 69, op := .fad 5 (.tmp 9), after := [], guard := none },
  { dst := some 70, op := .load 1 false false (.tmp 69), after := [1], guard := none },
  { dst := some 71, op := .len 0 (.tmp 70), after := [2], guard := none },
  { dst := some 72, op := .bin .lss (.tmp 68) (.tmp 71), after := [0, 3], guard := none }]
def F5r17 : List ROp := [{ dst := some 73, op := .copy false (.tmp 11), after := [], guard := none },
  { dst := some 74, op := .bin .add (.tmp 73) (.const (.int .i64 1)), after := [0], guard := none },
  { dst := some 11, op := .copy true (.tmp 74), after := [1, 0, 1], guard := none }]
def F5r18 : List ROp := [{ dst := some 75, op := .fad 5 (.tmp 9), after := [], guard := none },
  { dst := some 76, op := .load 1 false false (.tmp 75), after := [0], guard := none },
  { dst := some 77, op := .copy false (.tmp 11), after := [], guard := none },
  { dst := some 78, op := .iad 5 (.tmp 76) (.tmp 77), after := [1, 2], guard := none },
  { dst := some 79, op := .load 5 true false (.tmp 78), after := [3], guard := none },
  { dst := some 80, op := .call (.func 18) [.tmp 79], after := [4], guard := none },
  { dst := some 81, op := .un .not (.tmp 80), after := [5], guard := none }]
def F5r19 : List ROp := [{ dst := some 82, op := .load 6 true false (.tmp 1), after := [], guard := none },
  { dst := some 83, op := .fad 5 (.tmp 9), after := [], guard := none },
  { dst := some 84, op := .load 1 false false (.tmp 83), after := [1], guard := none },
  { dst := some 85, op := .copy false (.tmp 11), after := [], guard := none },
  { dst := some 86, op := .iad 5 (.tmp 84) (.tmp 85), after := [2, 3], guard := none },
  { dst := some 87, op := .fad 3 (.tmp 86), after := [4], guard := none },
  { dst := some 88, op := .load 1 false false (.tmp 87), after := [5], guard := none },
  { dst := some 89, op := .call (.func 17) [.tmp 82, .tmp 88], after := [0, 6], guard := none },
  { dst := some 12, op := .copy true (.tmp 89), after := [7, 7, 0, 1, 2, 3, 4, 5, 6, 7], guard := none }]
def F5r20 : List ROp := [{ dst := some 90, op := .fad 0 (.tmp 3), after := [], guard := none },
  { dst := some 91, op := .load 1 false false (.tmp 90), after := [0], guard := none },
  { dst := some 92, op := .copy false (.tmp 10), after := [], guard := none },
  { dst := some 93, op := .iad 1 (.tmp 91) (.tmp 92), after := [1, 2], guard := none },
  { dst := some 94, op := .load 1 false false (.tmp 93), after := [3], guard := none },
  { dst := some 95, op := .fad 0 (.tmp 3), after := [], guard := none },
  { dst := some 96, op := .load 1 false false (.tmp 95), after := [5], guard := none },
  { dst := some 97, op := .copy false (.tmp 12), after := [], guard := none },
  { dst := some 98, op := .iad 1 (.tmp 96) (.tmp 97), after := [6, 7], guard := none },
  { dst := some 99, op := .load 1 false false (.tmp 98), after := [8], guard := none },
  { dst := some 100, op := .bin .lss (.tmp 94) (.tmp 99), after := [4, 9], guard := none },
  { dst := some 101, op := .copy false (.tmp 100), after := [10], guard := none },
  { dst := some 102, op := .load 6 true false (.tmp 9), after := [11], guard := some (101, false) },
  { dst := some 103, op := .fad 5 (.tmp 9), after := [11], guard := some (101, false) },
  { dst := some 104, op := .load 1 false false (.tmp 103), after := [13, 11], guard := some (101, false) },
  { dst := some 105, op := .copy false (.tmp 11), after := [11], guard := some (101, false) },
  { dst := some 106, op := .iad 5 (.tmp 104) (.tmp 105), after := [14, 15, 11], guard := some (101, false) },
  { dst := some 107, op := .load 5 true false (.tmp 106), after := [16, 11], guard := some (101, false) },
  { dst := some 108, op := .call (.func 19) [.tmp 102, .tmp 107], after := [12, 17, 11, 11], guard := some (101, false) },
  { dst := some 109, op := .copy false (.tmp 108), after := [18, 18, 11], guard := some (101, false) },
  { dst := some 110, op := .fad 0 (.tmp 3), after := [19], guard := some (109, true) },
  { dst := some 111, op := .load 1 false false (.tmp 110), after := [20, 19], guard := some (109, true) },
  { dst := some 112, op := .copy false (.tmp 10), after := [19], guard := some (109, true) },
  { dst := some 113, op := .iad 1 (.tmp 111) (.tmp 112), after := [21, 22, 19], guard := some (109, true) },
  { dst := some 114, op := .load 1 false false (.tmp 113), after := [23, 19], guard := some (109, true) },
  { dst := some 115, op := .fad 0 (.tmp 3), after := [19], guard := some (109, true) },
  { dst := some 116, op := .load 1 false false (.tmp 115), after := [25, 19], guard := some (109, true) },
  { dst := some 117, op := .copy false (.tmp 12), after := [19], guard := some (109, true) },
  { dst := some 118, op := .iad 1 (.tmp 116) (.tmp 117), after := [26, 27, 19], guard := some (109, true) },
  { dst := some 119, op := .load 1 false false (.tmp 118), after := [28, 19], guard := some (109, true) },
  { dst := some 120, op := .bin .leq (.tmp 114) (.tmp 119), after := [24, 29, 19], guard := some (109, true) },
  { dst := some 121, op := .pick (.tmp 109) (.tmp 120) (.const (.bool false)), after := [19, 30, 11], guard := some (101, false) },
  { dst := some 122, op := .pick (.tmp 101) (.const (.bool true)) (.tmp 121), after := [11, 31], guard := none }]
def F5r21 : List ROp := [{ dst := some 2, op := .copy true (.const (.bool false)), after := [], guard := none }]
def F5r22 : List ROp := [{ dst := some 123, op := .copy false (.tmp 6), after := [], guard := none },
  { dst := some 124, op := .copy false (.tmp 10), after := [], guard := none },
  { dst := some 125, op := .copy false (.tmp 6), after := [], guard := none },
  { dst := some 126, op := .copy false (.tmp 10), after := [], guard := none },
  { dst := some 127, op := .iad 1 (.tmp 125) (.tmp 126), after := [2, 3], guard := none },
  { dst := some 128, op := .load 1 false false (.tmp 127), after := [4], guard := none },
  { dst := some 129, op := .copy false (.tmp 128), after := [5], guard := none },
  { dst := some 130, op := .load 6 true false (.tmp 9), after := [6], guard := some (129, false) },
  { dst := some 131, op := .fad 5 (.tmp 9), after := [6], guard := some (129, false) },
  { dst := some 132, op := .load 1 false false (.tmp 131), after := [8, 6], guard := some (129, false) },
  { dst := some 133, op := .copy false (.tmp 11), after := [6], guard := some (129, false) },
  { dst := some 134, op := .iad 5 (.tmp 132) (.tmp 133), after := [9, 10, 6], guard := some (129, false) },
  { dst := some 135, op := .load 5 true false (.tmp 134), after := [11, 6], guard := some (129, false) },
  { dst := some 136, op := .call (.func 19) [.tmp 130, .tmp 135], after := [7, 12, 6, 6], guard := some (129, false) },
  { dst := some 137, op := .copy false (.tmp 136), after := [13, 13, 6], guard := some (129, false) },
  { dst := some 138, op := .fad 0 (.tmp 3), after := [14], guard := some (137, true) },
  { dst := some 139, op := .load 1 false false (.tmp 138), after := [15, 14], guard := some (137, true) },
  { dst := some 140, op := .copy false (.tmp 10), after := [14], guard := some (137, true) },
  { dst := some 141, op := .iad 1 (.tmp 139) (.tmp 140), after := [16, 17, 14], guard := some (137, true) },
  { dst := some 142, op := .load 1 false false (.tmp 141), after := [18, 14], guard := some (137, true) },
  { dst := some 143, op := .fad 0 (.tmp 3), after := [14], guard := some (137, true) },
  { dst := some 144, op := .load 1 false false (.tmp 143), after := [20, 14], guard := some (137, true) },
  { dst := some 145, op := .copy false (.tmp 12), after := [14], guard := some (137, true) },
  { dst := some 146, op := .iad 1 (.tmp 144) (.tmp 145), after := [21, 22, 14], guard := some (137, true) },
  { dst := some 147, op := .load 1 false false (.tmp 146), after := [23, 14], guard := some (137, true) },
  { dst := some 148, op := .bin .add (.tmp 147) (.const (.int .i64 1)), after := [24, 14], guard := some (137, true) },
  { dst := some 149, op := .bin .eql (.tmp 142) (.tmp 148), after := [19, 25, 14], guard := some (137, true) },
  { dst := some 150, op := .pick (.tmp 137) (.tmp 149) (.const (.bool false)), after := [14, 26, 6], guard := some (129, false) },
  { dst := some 151, op := .pick (.tmp 129) (.const (.bool true)) (.tmp 150), after := [6, 27], guard := none },
  { dst := some 152, op := .copy false (.tmp 151), after := [28, 14], guard := none },
  { dst := some 153, op := .fad 0 (.tmp 3), after := [29], guard := some (152, false) },
  { dst := some 154, op := .load 1 false false (.tmp 153), after := [30, 29], guard := some (152, false) },
  { dst := some 155, op := .copy false (.tmp 10), after := [29], guard := some (152, false) },
  { dst := some 156, op := .iad 1 (.tmp 154) (.tmp 155), after := [31, 32, 29], guard := some (152, false) },
  { dst := some 157, op := .load 1 false false (.tmp 156), after := [33, 29], guard := some (152, false) },
  { dst := some 158, op := .fad 0 (.tmp 3), after := [29], guard := some (152, false) },
  { dst := some 159, op := .load 1 false false (.tmp 158), after := [35, 29], guard := some (152, false) },
  { dst := some 160, op := .copy false (.tmp 12), after := [29], guard := some (152, false) },
  { dst := some 161, op := .iad 1 (.tmp 159) (.tmp 160), after := [36, 37, 29], guard := some (152, false) },
  { dst := some 162, op := .load 1 false false (.tmp 161), after := [38, 29], guard := some (152, false) },
  { dst := some 163, op := .bin .eql (.tmp 157) (.tmp 162), after := [34, 39, 29], guard := some (152, false) },
  { dst := some 164, op := .copy false (.tmp 163), after := [40, 29, 29], guard := some (152, false) },
  { dst := some 165, op := .copy false (.tmp 6), after := [41], guard := some (164, true) },
  { dst := some 166, op := .copy false (.tmp 12), after := [41], guard := some (164, true) },
  { dst := some 167, op := .iad 1 (.tmp 165) (.tmp 166), after := [42, 43, 41], guard := some (164, true) },
  { dst := some 168, op := .load 1 false false (.tmp 167), after := [44, 41], guard := some (164, true) },
  { dst := some 169, op := .pick (.tmp 164) (.tmp 168) (.const (.bool false)), after := [41, 45, 29], guard := some (152, false) },
  { dst := some 170, op := .pick (.tmp 152) (.const (.bool true)) (.tmp 169), after := [29, 46], guard := none },
  { dst := some 171, op := .iad 1 (.tmp 123) (.tmp 124), after := [0, 1, 0, 1, 2, 3, 4, 5, 6, 7, 8, 9, 10, 11, 12, 13, 14, 15, 16, 17, 18, 19, 20, 21, 22, 23, 24, 25, 26, 27, 28, 29, 30, 31, 32, 33, 34, 35, 36, 37, 38, 39, 40, 41, 42, 43, 44, 45, 46, 47], guard := none },
  { dst := none, op := .store 1 true (.tmp 171) (.tmp 170), after := [48, 47, 41, 0, 1, 2, 3, 4, 5, 6, 7, 8, 9, 10, 11, 12, 13, 14, 15, 16, 17, 18, 19, 20, 21, 22, 23, 24, 25, 26, 27, 28, 29, 30, 31, 32, 33, 34, 35, 36, 37, 38, 39, 40, 41, 42, 43, 44, 45, 46, 47], guard := none }]
def F5r23 : List ROp := [{ dst := some 13, op := .copy true (.const (.int .i64 0)), after := [], guard := none }]
def F5r24 : List ROp := [{ dst := some 172, op := .copy false (.tmp 13), after := [], guard := none },
  { dst := some 173, op := .fad 0 (.tmp 3), after := [], guard := none },
  { dst := some 174, op := .load 1 false false (.tmp 173), after := [1], guard := none },
  { dst := some 175, op := .len 0 (.tmp 174), after := [2], guard := none },
  { dst := some 176, op := .bin .lss (.tmp 172) (.tmp 175), after := [0, 3], guard := none }]
def F5r25 : List ROp := [{ dst := some 177, op := .copy false (.tmp 13), after := [], guard := none },
  { dst := some 178, op := .bin .add (.tmp 177) (.const (.int .i64 1)), after := [0], guard := none },
  { dst := some 13, op := .copy true (.tmp 178), after := [1, 0, 1], guard := none }]
def F5r26 : List ROp := [{ dst := some 179, op := .fad 0 (.tmp 3), after := [], guard := none },
  { dst := some 180, op := .load 1 false false (.tmp 179), after := [0], guard := none },
  { dst := some 181, op := .copy false (.tmp 13), after := [], guard := none },
  { dst := some 182, op := .iad 1 (.tmp 180) (.tmp 181), after := [1, 2], guard := none },
  { dst := some 183, op := .load 1 false false (.tmp 182), after := [3], guard := none },
  { dst := some 184, op := .bin .lss (.tmp 183) (.const (.int .i64 0)), after := [4], guard := none },
  { dst := some 185, op := .copy false (.tmp 184), after := [5], guard := none },
  { dst := some 186, op := .fad 0 (.tmp 3), after := [6], guard := some (185, false) },
  { dst := some 187, op := .load 1 false false (.tmp 186), after := [7, 6], guard := some (185, false) },
  { dst := some 188, op := .copy false (.tmp 13), after := [6], guard := some (185, false) },
  { dst := some 189, op := .iad 1 (.tmp 187) (.tmp 188), after := [8, 9, 6], guard := some (185, false) },
  { dst := some 190, op := .load 1 false false (.tmp 189), after := [10, 6], guard := some (185, false) },
  { dst := some 191, op := .bin .gtr (.tmp 190) (.const (.int .i64 0)), after := [11, 6], guard := some (185, false) },
  { dst := some 192, op := .copy false (.tmp 191), after := [12, 6, 6], guard := some (185, false) },
  { dst := some 193, op := .copy false (.tmp 6), after := [13], guard := some (192, true) },
  { dst := some 194, op := .copy false (.tmp 13), after := [13], guard := some (192, true) },
  { dst := some 195, op := .iad 1 (.tmp 193) (.tmp 194), after := [14, 15, 13], guard := some (192, true) },
  { dst := some 196, op := .load 1 false false (.tmp 195), after := [16, 13], guard := some (192, true) },
  { dst := some 197, op := .un .not (.tmp 196), after := [17, 13], guard := some (192, true) },
  { dst := some 198, op := .pick (.tmp 192) (.tmp 197) (.const (.bool false)), after := [13, 18, 6], guard := some (185, false) },
  { dst := some 199, op := .pick (.tmp 185) (.const (.bool true)) (.tmp 198), after := [6, 19], guard := none }]
def F5r27 : List ROp := [{ dst := some 2, op := .copy true (.const (.bool false)), after := [], guard := none }]
def F5r28 : List ROp := [{ dst := some 2, op := .copy true (.const (.bool true)), after := [], guard := none }]
def boolCells (l : List Bool) : List AV := l.map fun b => .val (.bool b)
@[simp] theorem boolCells_within (ids : List Nat) (l : List Bool) : withinL ids (boolCells l) = true := by
  rw [withinL_iff]; intro x hx; simp only [boolCells, List.mem_map] at hx; obtain ⟨b, _, rfl⟩ := hx; rfl
@[simp] theorem boolCells_noref (l : List Bool) : norefL (boolCells l) = true := by
  rw [norefL_iff]; intro x hx; simp only [boolCells, List.mem_map] at hx; obtain ⟨b, _, rfl⟩ := hx; rfl
@[simp] theorem boolCells_at (l : List Bool) (i : Nat) : (boolCells l)[i]? = (l[i]?).map fun b => .val (.bool b) := by simp [boolCells]
@[simp] theorem boolCells_len (l : List Bool) : (boolCells l).length = l.length := by simp [boolCells]
@[simp] theorem boolCells_get (l : List Bool) (i : Nat) (h : i < (boolCells l).length) : (boolCells l)[i] = .val (.bool (l[i]'(by simpa using h))) := by simp [boolCells]
theorem boolCells_set (l : List Bool) (i : Nat) (b : Bool) : (boolCells l).set i (.val (.bool b)) = boolCells (l.set i b) := by simp [boolCells, List.map_set]
def st5 (m : MMod) (s : StrataD) (H : List Bool) (ts : List (Nat × AV)) : AS := { tm := [(1, .ptr 1 0), (3, .ptr 3 0), (6, .vec 44 1 0 H.length H.length)] ++ ts, hp := [(1, .cells 28 (modCells m)), (3, .cells 42 [encInts s.of, encRows s.rels, encRows s.rules]), (44, .cells 4 (boolCells H))] }
def st5b (m : MMod) (s : StrataD) (r : RuleD) (H : List Bool) (ts : List (Nat × AV)) : AS := { tm := [(1, .ptr 1 0), (3, .ptr 3 0), (6, .vec 44 1 0 H.length H.length), (9, .ptr 9 0)] ++ ts, hp := [(1, .cells 28 (modCells m)), (3, .cells 42 [encInts s.of, encRows s.rels, encRows s.rules]), (44, .cells 4 (boolCells H)), (9, .cells 52 (encRule r))] }
set_option maxRecDepth 200000 in
set_option maxHeartbeats 8000000 in
theorem StrataFalls_con (m : MMod) (hm : m.ok) : Con Try.prog 5 [encMod m] (bval true) := by
  have hla := large_ok m hm
  have hwk := works_ok
  refine Con.of_code Try.func5 (by kernel_rfl) rfl (by simp [Try.ntmps5]) fun C hC hM => ?_
  refine AWp.seq ?_
  refine AWp.reg [false, true] F5r0 [] (by kernel_rfl) (by rw [hC]; rfl) fun K hK => ?_
  simp [F5r0]
  first | refine hK _ ?_ | refine ⟨by omega, hK _ ?_⟩ | refine ⟨by omega, by omega, hK _ ?_⟩ | refine ⟨by omega, by omega, by omega, hK _ ?_⟩ | refine ⟨by omega, by omega, by omega, by omega, hK _ ?_⟩
  refine AWp.seq ?_
  refine AWp.seq ?_
  refine AWp.reg [] F5r1 [{ r := bval true }, { r := bval (largeB m) }] (by kernel_rfl) (by rw [hC]; rfl) fun K hK => ?_
  simp [F5r1]
  refine ⟨callOK rfl hwk, callOK rfl hla, hK _ ?_⟩
  cases hl : largeB m with
  | true =>
    refine AWp.cond true (by simp) (fun _ => ?_) (fun he => by cases he)
    refine AWp.seq ?_
    refine AWp.reg [false, true] F5r2 [{ r := bval true }] (by kernel_rfl) (by rw [hC]; rfl) fun K hK => ?_
    simp [F5r2]
    refine ⟨callOK rfl hwk, hK _ ?_⟩
    repeat refine AWp.seq ?_
    refine AWp.ret ⟨.inr rfl, _, by simp [Try.results5] <;> rfl, ?_⟩
    exact .closed rfl
  | false =>
    have hs := Small.of hl
    have hmk := Make_ok m hm hs
    refine AWp.cond false (by simp) (fun he => by cases he) (fun _ => ?_)
    by_cases he : (progMake m).2.2 = 0
    · have hc : (checkE m).2 = 0 := by
        unfold progMake at he
        split at he
        · assumption
        · exact he
      have hg := Check_good hs.rels hc
      have hpm : progMake m = makeOf (graphOf m) := by simp only [progMake, hc, if_true]
      have hno : refuse1 (graphOf m) (graphOf m).pairs = none := by
        cases hr : refuse1 (graphOf m) (graphOf m).pairs with
        | some p => rw [hpm, makeOf_some hr] at he; simp at he
        | none => rfl
      have hgok := graph_ok hg hs
      obtain ⟨of, hof⟩ := exists_least hgok hno
      have hpo : (progMake m).1.of = of := by rw [hpm, makeOf_none hno, leastOf_eq hof]; unfold strataOf; split <;> rfl
      have hle := below_le hgok hno hof.low
      have hheld := fun i => held_all hg hof (i := i)
      have hsat := (satF_iff m (fn of)).1 hof.sat
      have holen : of.length = m.rels.length := hof.len
      have hrl := hs.rels
      have hgn : (graphOf m).n = m.rels.length := rfl
      rw [hgn] at hle
      generalize progMake m = mk at *
      obtain ⟨sd, ⟨p1, p2⟩, f⟩ := mk
      simp only at he hpo
      subst he
      subst hpo
      obtain ⟨of, rels, rules⟩ := sd
      simp only at *
      refine AWp.skip ?_
      refine AWp.seq ?_
      refine AWp.reg [false, false, false, false, false, false, false, false, true, true, true] F5r3 [{ r := encMakeR (⟨of, rels, rules⟩, (p1, p2), 0) }] (by kernel_rfl) (by rw [hC]; rfl) fun K hK => ?_
      simp [F5r3, encMakeR, encStrata]
      refine ⟨callOK rfl hmk, hK _ ?_⟩
      refine AWp.seq ?_
      refine AWp.seq ?_
      refine AWp.reg [] F5r4 [] (by kernel_rfl) (by rw [hC]; rfl) fun K hK => ?_
      simp [F5r4]
      first | refine hK _ ?_ | refine ⟨by omega, hK _ ?_⟩ | refine ⟨by omega, by omega, hK _ ?_⟩ | refine ⟨by omega, by omega, by omega, hK _ ?_⟩ | refine ⟨by omega, by omega, by omega, by omega, hK _ ?_⟩
      refine AWp.cond false (by simp) (fun he => by cases he) (fun _ => ?_)
      refine AWp.skip ?_
      refine AWp.seq ?_
      refine AWp.reg [false, false, false, false, true] F5r6 [] (by kernel_rfl) (by rw [hC]; rfl) fun K hK => ?_
      simp [F5r6]
      first | refine hK _ ?_ | refine ⟨by omega, hK _ ?_⟩ | refine ⟨by omega, by omega, hK _ ?_⟩ | refine ⟨by omega, by omega, by omega, hK _ ?_⟩ | refine ⟨by omega, by omega, by omega, by omega, hK _ ?_⟩
      refine AWp.seq ?_
      refine AWp.seq ?_
      refine AWp.reg [true] F5r7 [] (by kernel_rfl) (by rw [hC]; rfl) fun K hK => ?_
      simp [F5r7]
      first | refine hK _ ?_ | refine ⟨by omega, hK _ ?_⟩ | refine ⟨by omega, by omega, hK _ ?_⟩ | refine ⟨by omega, by omega, by omega, hK _ ?_⟩ | refine ⟨by omega, by omega, by omega, by omega, hK _ ?_⟩
      refine AWp.block ?_
      have hfix : ∀ {i : Nat}, 0 < fn of i → (heldOf m of (of.length + 1)).getD i false = true := hheld _
      refine AWp.loopG (fun k : Nat => st5 m ⟨of, rels, rules⟩ (heldOf m of k) [(7, ival k)]) (fun k => k ≤ of.length + 1) (fun k => of.length + 1 - k) 0 (by simp) (by simp [st5, heldOf, itr, boolCells]) (fun k hk => ?_)
      have hsucc : heldOf m of (k + 1) = m.rules.foldl (hRule m of) (heldOf m of k) := rfl
      have hH0 := heldOf_len m of k
      have hend : ¬ k ≤ of.length → k = of.length + 1 := fun h => by omega
      have hlast : k = of.length + 1 → ∀ i, 0 < fn of i → (heldOf m of k).getD i false = true := by rintro rfl; exact hheld
      generalize heldOf m of k = H0 at *
      refine AWp.seq ?_
      refine AWp.seq ?_
      refine AWp.reg [] F5r8 [] (by kernel_rfl) (by rw [hC]; rfl) fun K hK => ?_
      simp [F5r8, st5]
      first | refine hK _ ?_ | refine ⟨by omega, hK _ ?_⟩ | refine ⟨by omega, by omega, hK _ ?_⟩ | refine ⟨by omega, by omega, by omega, hK _ ?_⟩ | refine ⟨by omega, by omega, by omega, by omega, hK _ ?_⟩
      refine AWp.cond (decide (k ≤ of.length)) (by simp) (fun hlt => ?_) (fun hge => ?_)
      · skip
        have hlt : k ≤ of.length := by simpa using hlt
        clear hlast hend
        refine AWp.skip ?_
        refine AWp.seq ?_
        refine AWp.block ?_
        refine AWp.seq ?_
        refine AWp.reg [true] F5r10 [] (by kernel_rfl) (by rw [hC]; rfl) fun K hK => ?_
        simp [F5r10]
        first | refine hK _ ?_ | refine ⟨by omega, hK _ ?_⟩ | refine ⟨by omega, by omega, hK _ ?_⟩ | refine ⟨by omega, by omega, by omega, hK _ ?_⟩ | refine ⟨by omega, by omega, by omega, by omega, hK _ ?_⟩
        refine AWp.block ?_
        refine AWp.loopG (fun j : Nat => st5 m ⟨of, rels, rules⟩ ((m.rules.take j).foldl (hRule m of) H0) [(7, ival k), (8, ival j)]) (fun j => j ≤ m.rules.length) (fun j => m.rules.length - j) 0 (by simp) (by simp [st5]) (fun j hj => ?_)
        have hmr := hm.rules
        have htake := fun h => foldl_take (hRule m of) H0 m.rules j h
        have hrend : m.rules.length ≤ j → (m.rules.take j).foldl (hRule m of) H0 = m.rules.foldl (hRule m of) H0 := fun h => by rw [List.take_of_length_le h]
        have hH1 : ((m.rules.take j).foldl (hRule m of) H0).length = of.length := by rw [(hRound_up m of _ H0).len, hH0]
        generalize (m.rules.take j).foldl (hRule m of) H0 = H1 at *
        refine AWp.seq ?_
        refine AWp.seq ?_
        refine AWp.reg [] F5r11 [] (by kernel_rfl) (by rw [hC]; rfl) fun K hK => ?_
        simp [F5r11, st5]
        first | refine hK _ ?_ | refine ⟨by omega, hK _ ?_⟩ | refine ⟨by omega, by omega, hK _ ?_⟩ | refine ⟨by omega, by omega, by omega, hK _ ?_⟩ | refine ⟨by omega, by omega, by omega, by omega, hK _ ?_⟩
        refine AWp.cond (decide (j < m.rules.length)) (by simp) (fun hltj => ?_) (fun hgej => ?_)
        · skip
          have hltj : j < m.rules.length := by simpa using hltj
          have hrm : m.rules[j] ∈ m.rules := List.getElem_mem hltj
          have hAt := At_ok m m.rules[j].rel hm
          have hge0 := hg.heads _ hrm
          rw [At_idx hge0] at hAt
          have hbl := hm.bodies _ hrm
          have hal := hm.aggs _ hrm
          have hlits := hg.lits _ hrm
          have hst := hsat _ hrm
          have hhl := idx_lt hge0
          have ht := htake hltj
          clear htake hrend
          obtain ⟨r, hr⟩ : ∃ r, m.rules[j] = r := ⟨_, rfl⟩
          rw [hr] at hAt hge0 hbl hal hlits hst hhl ht hrm
          obtain ⟨h, hh⟩ : ∃ h, idx m r.rel = h := ⟨_, rfl⟩
          rw [hh] at hAt hhl hst
          refine AWp.skip ?_
          refine AWp.seq ?_
          refine AWp.block ?_
          refine AWp.seq ?_
          refine AWp.reg [false, false, false, false, false, false, true] F5r13 [] (by kernel_rfl) (by rw [hC]; rfl) fun K hK => ?_
          simp [F5r13, hltj, hr]
          first | refine hK _ ?_ | refine ⟨by omega, hK _ ?_⟩ | refine ⟨by omega, by omega, hK _ ?_⟩ | refine ⟨by omega, by omega, by omega, hK _ ?_⟩ | refine ⟨by omega, by omega, by omega, by omega, hK _ ?_⟩
          refine AWp.seq ?_
          refine AWp.reg [false, false, false, false, true] F5r14 [{ r := ival h }] (by kernel_rfl) (by rw [hC]; rfl) fun K hK => ?_
          simp [F5r14, hltj]
          refine ⟨callOK rfl hAt, hK _ ?_⟩
          refine AWp.seq ?_
          refine AWp.reg [true] F5r15 [] (by kernel_rfl) (by rw [hC]; rfl) fun K hK => ?_
          simp [F5r15]
          first | refine hK _ ?_ | refine ⟨by omega, hK _ ?_⟩ | refine ⟨by omega, by omega, hK _ ?_⟩ | refine ⟨by omega, by omega, by omega, hK _ ?_⟩ | refine ⟨by omega, by omega, by omega, by omega, hK _ ?_⟩
          refine AWp.block ?_
          refine AWp.loopG (fun c : Nat => st5b m ⟨of, rels, rules⟩ r ((r.body.take c).foldl (hStep m of r) H1) [(7, ival k), (8, ival j), (10, ival h), (11, ival c)]) (fun c => c ≤ r.body.length) (fun c => r.body.length - c) 0 (by simp) (by simp [st5b]) (fun c hcc => ?_)
          have htake2 := fun q => foldl_take (hStep m of r) H1 r.body c q
          have hrend2 : r.body.length ≤ c → (r.body.take c).foldl (hStep m of r) H1 = hRule m of H1 r := fun q => by rw [List.take_of_length_le q]; rfl
          have hH2 : ((r.body.take c).foldl (hStep m of r) H1).length = of.length := by rw [(hRule_up m of r _ H1).len, hH1]
          generalize (r.body.take c).foldl (hStep m of r) H1 = H2 at *
          refine AWp.seq ?_
          refine AWp.seq ?_
          refine AWp.reg [] F5r16 [] (by kernel_rfl) (by rw [hC]; rfl) fun K hK => ?_
          simp [F5r16, st5b]
          first | refine hK _ ?_ | refine ⟨by omega, hK _ ?_⟩ | refine ⟨by omega, by omega, hK _ ?_⟩ | refine ⟨by omega, by omega, by omega, hK _ ?_⟩ | refine ⟨by omega, by omega, by omega, by omega, hK _ ?_⟩
          refine AWp.cond (decide (c < r.body.length)) (by simp) (fun hltc => ?_) (fun hgec => ?_)
          · skip
            have hltc : c < r.body.length := by simpa using hltc
            have hxm : r.body[c] ∈ r.body := List.getElem_mem hltc
            have hlx := hlits _ hxm
            have hsx := hst _ hxm
            have hld := Leads_ok r.body[c]
            have hstr := strict_ok r r.body[c] hal
            have ht2 := htake2 hltc
            clear htake2 hrend2
            obtain ⟨x, hx⟩ : ∃ x, r.body[c] = x := ⟨_, rfl⟩
            rw [hx] at hlx hsx hld hstr ht2
            cases hlead : leads x with
            | false =>
              rw [hlead] at hld
              have e2 : hStep m of r H2 x = H2 := by unfold hStep; rw [hlead]; simp
              rw [e2] at ht2
              refine AWp.skip ?_
              refine AWp.seq ?_
              refine AWp.block ?_
              refine AWp.seq ?_
              refine AWp.seq ?_
              refine AWp.reg [] F5r18 [{ r := bval false }] (by kernel_rfl) (by rw [hC]; rfl) fun K hK => ?_
              simp [F5r18, hltc, hx]
              refine ⟨callOK rfl hld, hK _ ?_⟩
              refine AWp.cond true (by simp) (fun _ => ?_) (fun he => by cases he)
              refine AWp.exit ?_
              refine AWp.reg [false, false, true] F5r17 [] (by kernel_rfl) (by rw [hC]; rfl) fun K hK => ?_
              simp [F5r17]
              first | refine hK _ ?_ | refine ⟨by omega, hK _ ?_⟩ | refine ⟨by omega, by omega, hK _ ?_⟩ | refine ⟨by omega, by omega, by omega, hK _ ?_⟩ | refine ⟨by omega, by omega, by omega, by omega, hK _ ?_⟩
              refine ⟨c + 1, by omega, by omega, ?_⟩
              rw [ht2]
              simp [st5b, wrap_nat c (by omega)]
            | true =>
              rw [hlead] at hld
              have hto := hlx hlead
              have hsx := hsx hlead
              have hAt2 := At_ok m x.rel hm
              rw [At_idx hto] at hAt2
              have hlt2 := idx_lt hto
              have e2 : hStep m of r H2 x = H2.set h (H2.getD h false || hCond of H2 (strictB r x) h (idx m x.rel)) := by unfold hStep; rw [if_pos hlead, hh]
              rw [e2] at ht2
              obtain ⟨t, ht'⟩ : ∃ t, idx m x.rel = t := ⟨_, rfl⟩
              rw [ht'] at hsx hAt2 hlt2 ht2
              obtain ⟨st, hst'⟩ : ∃ b, strictB r x = b := ⟨_, rfl⟩
              rw [hst'] at hsx hstr ht2
              have hho : h < of.length := by omega
              have hto' : t < of.length := by omega
              have hle1 := hle h
              have hle2 := hle t
              simp only [fn, getD_at hho, getD_at hto'] at hsx hle1 hle2
              simp only [hCond, fn, getD_at hho, getD_at hto', getD_at (show h < H2.length by omega), getD_at (show t < H2.length by omega)] at ht2
              obtain ⟨a, ha⟩ : ∃ a, of[h] = a := ⟨_, rfl⟩
              obtain ⟨b, hb⟩ : ∃ b, of[t] = b := ⟨_, rfl⟩
              rw [ha, hb] at hsx ht2
              rw [ha] at hle1
              rw [hb] at hle2
              have hnl : ¬ a < b := by omega
              have hH2h : h < H2.length := by omega
              have hH2t : t < H2.length := by omega
              have hwr : IntKind.i64.wrap ((b : Int) + 1) = (b : Int) + 1 := wrap_in (by omega) (by omega)
              obtain ⟨vh, hvh⟩ : ∃ v, H2[h] = v := ⟨_, rfl⟩
              obtain ⟨vt, hvt⟩ : ∃ v, H2[t] = v := ⟨_, rfl⟩
              rw [hvh, hvt] at ht2
              have hnl2 : ¬ (a : Int) < (b : Int) := by omega
              cases st with
              | true =>
                simp at hsx
                have hnl3 : ¬ (a : Int) ≤ (b : Int) := by omega
                have hab : ¬ a = b := by omega
                refine AWp.skip ?_
                refine AWp.seq ?_
                refine AWp.block ?_
                refine AWp.seq ?_
                refine AWp.seq ?_
                refine AWp.reg [] F5r18 [{ r := bval true }] (by kernel_rfl) (by rw [hC]; rfl) fun K hK => ?_
                simp [F5r18, hltc, hx]
                refine ⟨callOK rfl hld, hK _ ?_⟩
                refine AWp.cond false (by simp) (fun he => by cases he) (fun _ => ?_)
                refine AWp.skip ?_
                refine AWp.seq ?_
                refine AWp.regD ops_mixed [false, false, false, false, false, false, false, false, true] F5r19 [{ r := ival t }] (by kernel_rfl) (by rw [hC]; rfl) rfl (fun K hK => ?_) (by simp [F5r19, hltc, hx] <;> rfl)
                simp [F5r19, hltc, hx]
                refine ⟨callOK rfl hAt2, hK _ ?_⟩
                refine AWp.forget (s' := st5b m ⟨of, rels, rules⟩ r H2 [(7, ival k), (8, ival j), (10, ival h), (11, ival c), (12, ival t)]) (by simp [st5b]) ?_
                refine AWp.seq ?_
                refine AWp.seq ?_
                refine AWp.regL ops_mixed [[], [0], [], [0, 1, 2], [0, 1, 2, 3], [], [5], [], [5, 6, 7], [5, 6, 7, 8], [0, 1, 2, 3, 4, 5, 6, 7, 8, 9], [0, 1, 2, 3, 4, 5, 6, 7, 8, 9, 10], [0, 1, 2, 3, 4, 5, 6, 7, 8, 9, 10, 11], [0, 1, 2, 3, 4, 5, 6, 7, 8, 9, 10, 11], [0, 1, 2, 3, 4, 5, 6, 7, 8, 9, 10, 11, 13], [0, 1, 2, 3, 4, 5, 6, 7, 8, 9, 10, 11], [0, 1, 2, 3, 4, 5, 6, 7, 8, 9, 10, 11, 13, 14, 15], [0, 1, 2, 3, 4, 5, 6, 7, 8, 9, 10, 11, 13, 14, 15, 16], [0, 1, 2, 3, 4, 5, 6, 7, 8, 9, 10, 11, 12, 13, 14, 15, 16, 17], [0, 1, 2, 3, 4, 5, 6, 7, 8, 9, 10, 11, 12, 13, 14, 15, 16, 17, 18], [0, 1, 2, 3, 4, 5, 6, 7, 8, 9, 10, 11, 12, 13, 14, 15, 16, 17, 18, 19], [0, 1, 2, 3, 4, 5, 6, 7, 8, 9, 10, 11, 12, 13, 14, 15, 16, 17, 18, 19, 20], [0, 1, 2, 3, 4, 5, 6, 7, 8, 9, 10, 11, 12, 13, 14, 15, 16, 17, 18, 19], [0, 1, 2, 3, 4, 5, 6, 7, 8, 9, 10, 11, 12, 13, 14, 15, 16, 17, 18, 19, 20, 21, 22], [0, 1, 2, 3, 4, 5, 6, 7, 8, 9, 10, 11, 12, 13, 14, 15, 16, 17, 18, 19, 20, 21, 22, 23], [0, 1, 2, 3, 4, 5, 6, 7, 8, 9, 10, 11, 12, 13, 14, 15, 16, 17, 18, 19], [0, 1, 2, 3, 4, 5, 6, 7, 8, 9, 10, 11, 12, 13, 14, 15, 16, 17, 18, 19, 25], [0, 1, 2, 3, 4, 5, 6, 7, 8, 9, 10, 11, 12, 13, 14, 15, 16, 17, 18, 19], [0, 1, 2, 3, 4, 5, 6, 7, 8, 9, 10, 11, 12, 13, 14, 15, 16, 17, 18, 19, 25, 26, 27], [0, 1, 2, 3, 4, 5, 6, 7, 8, 9, 10, 11, 12, 13, 14, 15, 16, 17, 18, 19, 25, 26, 27, 28], [0, 1, 2, 3, 4, 5, 6, 7, 8, 9, 10, 11, 12, 13, 14, 15, 16, 17, 18, 19, 20, 21, 22, 23, 24, 25, 26, 27, 28, 29], [0, 1, 2, 3, 4, 5, 6, 7, 8, 9, 10, 11, 12, 13, 14, 15, 16, 17, 18, 19, 20, 21, 22, 23, 24, 25, 26, 27, 28, 29, 30], [0, 1, 2, 3, 4, 5, 6, 7, 8, 9, 10, 11, 12, 13, 14, 15, 16, 17, 18, 19, 20, 21, 22, 23, 24, 25, 26, 27, 28, 29, 30, 31]] [] F5r20 [{ r := bval true }] (by kernel_rfl) (by rw [hC]; rfl) (by kernel_rfl) (by kernel_rfl) (fun K hK => ?_) (by simp [F5r20, st5b, hltc, hx, hho, hto', ha, hb, hnl, hnl2, hnl3] <;> kernel_rfl)
                simp [F5r20, st5b, hltc, hx, hho, hto', ha, hb, hnl, hnl2, hnl3]
                refine ⟨callOK (by simp) hstr, hK _ ?_⟩
                refine AWp.cond false (by simp) (fun he => by cases he) (fun _ => ?_)
                refine AWp.skip ?_
                refine AWp.forget (s' := st5b m ⟨of, rels, rules⟩ r H2 [(7, ival k), (8, ival j), (10, ival h), (11, ival c), (12, ival t)]) (by simp [st5b]) ?_
                cases vh with
                | true =>
                  simp at ht2
                  refine AWp.regL ops_mixed [[], [], [], [], [2, 3], [2, 3, 4], [2, 3, 4, 5], [2, 3, 4, 5, 6], [2, 3, 4, 5, 6], [2, 3, 4, 5, 6, 8], [2, 3, 4, 5, 6], [2, 3, 4, 5, 6, 8, 9, 10], [2, 3, 4, 5, 6, 8, 9, 10, 11], [2, 3, 4, 5, 6, 7, 8, 9, 10, 11, 12], [2, 3, 4, 5, 6, 7, 8, 9, 10, 11, 12, 13], [2, 3, 4, 5, 6, 7, 8, 9, 10, 11, 12, 13, 14], [2, 3, 4, 5, 6, 7, 8, 9, 10, 11, 12, 13, 14, 15], [2, 3, 4, 5, 6, 7, 8, 9, 10, 11, 12, 13, 14], [2, 3, 4, 5, 6, 7, 8, 9, 10, 11, 12, 13, 14, 15, 16, 17], [2, 3, 4, 5, 6, 7, 8, 9, 10, 11, 12, 13, 14, 15, 16, 17, 18], [2, 3, 4, 5, 6, 7, 8, 9, 10, 11, 12, 13, 14], [2, 3, 4, 5, 6, 7, 8, 9, 10, 11, 12, 13, 14, 20], [2, 3, 4, 5, 6, 7, 8, 9, 10, 11, 12, 13, 14], [2, 3, 4, 5, 6, 7, 8, 9, 10, 11, 12, 13, 14, 20, 21, 22], [2, 3, 4, 5, 6, 7, 8, 9, 10, 11, 12, 13, 14, 20, 21, 22, 23], [2, 3, 4, 5, 6, 7, 8, 9, 10, 11, 12, 13, 14, 20, 21, 22, 23, 24], [2, 3, 4, 5, 6, 7, 8, 9, 10, 11, 12, 13, 14, 15, 16, 17, 18, 19, 20, 21, 22, 23, 24, 25], [2, 3, 4, 5, 6, 7, 8, 9, 10, 11, 12, 13, 14, 15, 16, 17, 18, 19, 20, 21, 22, 23, 24, 25, 26], [2, 3, 4, 5, 6, 7, 8, 9, 10, 11, 12, 13, 14, 15, 16, 17, 18, 19, 20, 21, 22, 23, 24, 25, 26, 27], [2, 3, 4, 5, 6, 7, 8, 9, 10, 11, 12, 13, 14, 15, 16, 17, 18, 19, 20, 21, 22, 23, 24, 25, 26, 27, 28], [2, 3, 4, 5, 6, 7, 8, 9, 10, 11, 12, 13, 14, 15, 16, 17, 18, 19, 20, 21, 22, 23, 24, 25, 26, 27, 28, 29], [2, 3, 4, 5, 6, 7, 8, 9, 10, 11, 12, 13, 14, 15, 16, 17, 18, 19, 20, 21, 22, 23, 24, 25, 26, 27, 28, 29, 30], [2, 3, 4, 5, 6, 7, 8, 9, 10, 11, 12, 13, 14, 15, 16, 17, 18, 19, 20, 21, 22, 23, 24, 25, 26, 27, 28, 29], [2, 3, 4, 5, 6, 7, 8, 9, 10, 11, 12, 13, 14, 15, 16, 17, 18, 19, 20, 21, 22, 23, 24, 25, 26, 27, 28, 29, 30, 31, 32], [2, 3, 4, 5, 6, 7, 8, 9, 10, 11, 12, 13, 14, 15, 16, 17, 18, 19, 20, 21, 22, 23, 24, 25, 26, 27, 28, 29, 30, 31, 32, 33], [2, 3, 4, 5, 6, 7, 8, 9, 10, 11, 12, 13, 14, 15, 16, 17, 18, 19, 20, 21, 22, 23, 24, 25, 26, 27, 28, 29], [2, 3, 4, 5, 6, 7, 8, 9, 10, 11, 12, 13, 14, 15, 16, 17, 18, 19, 20, 21, 22, 23, 24, 25, 26, 27, 28, 29, 35], [2, 3, 4, 5, 6, 7, 8, 9, 10, 11, 12, 13, 14, 15, 16, 17, 18, 19, 20, 21, 22, 23, 24, 25, 26, 27, 28, 29], [2, 3, 4, 5, 6, 7, 8, 9, 10, 11, 12, 13, 14, 15, 16, 17, 18, 19, 20, 21, 22, 23, 24, 25, 26, 27, 28, 29, 35, 36, 37], [2, 3, 4, 5, 6, 7, 8, 9, 10, 11, 12, 13, 14, 15, 16, 17, 18, 19, 20, 21, 22, 23, 24, 25, 26, 27, 28, 29, 35, 36, 37, 38], [2, 3, 4, 5, 6, 7, 8, 9, 10, 11, 12, 13, 14, 15, 16, 17, 18, 19, 20, 21, 22, 23, 24, 25, 26, 27, 28, 29, 30, 31, 32, 33, 34, 35, 36, 37, 38, 39], [2, 3, 4, 5, 6, 7, 8, 9, 10, 11, 12, 13, 14, 15, 16, 17, 18, 19, 20, 21, 22, 23, 24, 25, 26, 27, 28, 29, 30, 31, 32, 33, 34, 35, 36, 37, 38, 39, 40], [2, 3, 4, 5, 6, 7, 8, 9, 10, 11, 12, 13, 14, 15, 16, 17, 18, 19, 20, 21, 22, 23, 24, 25, 26, 27, 28, 29, 30, 31, 32, 33, 34, 35, 36, 37, 38, 39, 40, 41], [2, 3, 4, 5, 6, 7, 8, 9, 10, 11, 12, 13, 14, 15, 16, 17, 18, 19, 20, 21, 22, 23, 24, 25, 26, 27, 28, 29, 30, 31, 32, 33, 34, 35, 36, 37, 38, 39, 40, 41], [2, 3, 4, 5, 6, 7, 8, 9, 10, 11, 12, 13, 14, 15, 16, 17, 18, 19, 20, 21, 22, 23, 24, 25, 26, 27, 28, 29, 30, 31, 32, 33, 34, 35, 36, 37, 38, 39, 40, 41, 42, 43], [2, 3, 4, 5, 6, 7, 8, 9, 10, 11, 12, 13, 14, 15, 16, 17, 18, 19, 20, 21, 22, 23, 24, 25, 26, 27, 28, 29, 30, 31, 32, 33, 34, 35, 36, 37, 38, 39, 40, 41, 42, 43, 44], [2, 3, 4, 5, 6, 7, 8, 9, 10, 11, 12, 13, 14, 15, 16, 17, 18, 19, 20, 21, 22, 23, 24, 25, 26, 27, 28, 29, 30, 31, 32, 33, 34, 35, 36, 37, 38, 39, 40, 41, 42, 43, 44, 45], [2, 3, 4, 5, 6, 7, 8, 9, 10, 11, 12, 13, 14, 15, 16, 17, 18, 19, 20, 21, 22, 23, 24, 25, 26, 27, 28, 29, 30, 31, 32, 33, 34, 35, 36, 37, 38, 39, 40, 41, 42, 43, 44, 45, 46], [0, 1, 2, 3, 4, 5, 6, 7, 8, 9, 10, 11, 12, 13, 14, 15, 16, 17, 18, 19, 20, 21, 22, 23, 24, 25, 26, 27, 28, 29, 30, 31, 32, 33, 34, 35, 36, 37, 38, 39, 40, 41, 42, 43, 44, 45, 46, 47], [0, 1, 2, 3, 4, 5, 6, 7, 8, 9, 10, 11, 12, 13, 14, 15, 16, 17, 18, 19, 20, 21, 22, 23, 24, 25, 26, 27, 28, 29, 30, 31, 32, 33, 34, 35, 36, 37, 38, 39, 40, 41, 42, 43, 44, 45, 46, 47, 48]] [false, false, false, false, false, false, false, false, false, false, false, false, false, false, false, false, false, false, false, false, false, false, false, false, false, false, false, false, false, false, false, false, false, false, false, false, false, false, false, false, false, false, false, false, false, false, false, false, false, true] F5r22 [{}] (by kernel_rfl) (by rw [hC]; rfl) (by kernel_rfl) (by kernel_rfl) (fun K hK => ?_) (by simp [F5r22, st5b, hltc, hx, hho, hto', ha, hb, hH2h, hvh] <;> kernel_rfl)
                  simp [F5r22, st5b, hltc, hx, hho, hto', ha, hb, hH2h, hvh]
                  refine hK _ ?_
                  refine AWp.reg [false, false, true] F5r17 [] (by kernel_rfl) (by rw [hC]; rfl) fun K hK => ?_
                  simp [F5r17]
                  first | refine hK _ ?_ | refine ⟨by omega, hK _ ?_⟩ | refine ⟨by omega, by omega, hK _ ?_⟩ | refine ⟨by omega, by omega, by omega, hK _ ?_⟩ | refine ⟨by omega, by omega, by omega, by omega, hK _ ?_⟩
                  refine ⟨c + 1, by omega, by omega, ?_⟩
                  rw [ht2]
                  simp [st5b, boolCells_set, wrap_nat c (by omega)]
                | false =>
                  by_cases hab1 : a = b + 1
                  · have hab2 : ((a : Int) == (b : Int) + 1) = true := by simp; omega
                    simp [hab1] at ht2
                    refine AWp.regL ops_mixed [[], [], [], [], [2, 3], [2, 3, 4], [2, 3, 4, 5], [2, 3, 4, 5, 6], [2, 3, 4, 5, 6], [2, 3, 4, 5, 6, 8], [2, 3, 4, 5, 6], [2, 3, 4, 5, 6, 8, 9, 10], [2, 3, 4, 5, 6, 8, 9, 10, 11], [2, 3, 4, 5, 6, 7, 8, 9, 10, 11, 12], [2, 3, 4, 5, 6, 7, 8, 9, 10, 11, 12, 13], [2, 3, 4, 5, 6, 7, 8, 9, 10, 11, 12, 13, 14], [2, 3, 4, 5, 6, 7, 8, 9, 10, 11, 12, 13, 14, 15], [2, 3, 4, 5, 6, 7, 8, 9, 10, 11, 12, 13, 14], [2, 3, 4, 5, 6, 7, 8, 9, 10, 11, 12, 13, 14, 15, 16, 17], [2, 3, 4, 5, 6, 7, 8, 9, 10, 11, 12, 13, 14, 15, 16, 17, 18], [2, 3, 4, 5, 6, 7, 8, 9, 10, 11, 12, 13, 14], [2, 3, 4, 5, 6, 7, 8, 9, 10, 11, 12, 13, 14, 20], [2, 3, 4, 5, 6, 7, 8, 9, 10, 11, 12, 13, 14], [2, 3, 4, 5, 6, 7, 8, 9, 10, 11, 12, 13, 14, 20, 21, 22], [2, 3, 4, 5, 6, 7, 8, 9, 10, 11, 12, 13, 14, 20, 21, 22, 23], [2, 3, 4, 5, 6, 7, 8, 9, 10, 11, 12, 13, 14, 20, 21, 22, 23, 24], [2, 3, 4, 5, 6, 7, 8, 9, 10, 11, 12, 13, 14, 15, 16, 17, 18, 19, 20, 21, 22, 23, 24, 25], [2, 3, 4, 5, 6, 7, 8, 9, 10, 11, 12, 13, 14, 15, 16, 17, 18, 19, 20, 21, 22, 23, 24, 25, 26], [2, 3, 4, 5, 6, 7, 8, 9, 10, 11, 12, 13, 14, 15, 16, 17, 18, 19, 20, 21, 22, 23, 24, 25, 26, 27], [2, 3, 4, 5, 6, 7, 8, 9, 10, 11, 12, 13, 14, 15, 16, 17, 18, 19, 20, 21, 22, 23, 24, 25, 26, 27, 28], [2, 3, 4, 5, 6, 7, 8, 9, 10, 11, 12, 13, 14, 15, 16, 17, 18, 19, 20, 21, 22, 23, 24, 25, 26, 27, 28, 29], [2, 3, 4, 5, 6, 7, 8, 9, 10, 11, 12, 13, 14, 15, 16, 17, 18, 19, 20, 21, 22, 23, 24, 25, 26, 27, 28, 29, 30], [2, 3, 4, 5, 6, 7, 8, 9, 10, 11, 12, 13, 14, 15, 16, 17, 18, 19, 20, 21, 22, 23, 24, 25, 26, 27, 28, 29], [2, 3, 4, 5, 6, 7, 8, 9, 10, 11, 12, 13, 14, 15, 16, 17, 18, 19, 20, 21, 22, 23, 24, 25, 26, 27, 28, 29, 30, 31, 32], [2, 3, 4, 5, 6, 7, 8, 9, 10, 11, 12, 13, 14, 15, 16, 17, 18, 19, 20, 21, 22, 23, 24, 25, 26, 27, 28, 29, 30, 31, 32, 33], [2, 3, 4, 5, 6, 7, 8, 9, 10, 11, 12, 13, 14, 15, 16, 17, 18, 19, 20, 21, 22, 23, 24, 25, 26, 27, 28, 29], [2, 3, 4, 5, 6, 7, 8, 9, 10, 11, 12, 13, 14, 15, 16, 17, 18, 19, 20, 21, 22, 23, 24, 25, 26, 27, 28, 29, 35], [2, 3, 4, 5, 6, 7, 8, 9, 10, 11, 12, 13, 14, 15, 16, 17, 18, 19, 20, 21, 22, 23, 24, 25, 26, 27, 28, 29], [2, 3, 4, 5, 6, 7, 8, 9, 10, 11, 12, 13, 14, 15, 16, 17, 18, 19, 20, 21, 22, 23, 24, 25, 26, 27, 28, 29, 35, 36, 37], [2, 3, 4, 5, 6, 7, 8, 9, 10, 11, 12, 13, 14, 15, 16, 17, 18, 19, 20, 21, 22, 23, 24, 25, 26, 27, 28, 29, 35, 36, 37, 38], [2, 3, 4, 5, 6, 7, 8, 9, 10, 11, 12, 13, 14, 15, 16, 17, 18, 19, 20, 21, 22, 23, 24, 25, 26, 27, 28, 29, 30, 31, 32, 33, 34, 35, 36, 37, 38, 39], [2, 3, 4, 5, 6, 7, 8, 9, 10, 11, 12, 13, 14, 15, 16, 17, 18, 19, 20, 21, 22, 23, 24, 25, 26, 27, 28, 29, 30, 31, 32, 33, 34, 35, 36, 37, 38, 39, 40], [2, 3, 4, 5, 6, 7, 8, 9, 10, 11, 12, 13, 14, 15, 16, 17, 18, 19, 20, 21, 22, 23, 24, 25, 26, 27, 28, 29, 30, 31, 32, 33, 34, 35, 36, 37, 38, 39, 40, 41], [2, 3, 4, 5, 6, 7, 8, 9, 10, 11, 12, 13, 14, 15, 16, 17, 18, 19, 20, 21, 22, 23, 24, 25, 26, 27, 28, 29, 30, 31, 32, 33, 34, 35, 36, 37, 38, 39, 40, 41], [2, 3, 4, 5, 6, 7, 8, 9, 10, 11, 12, 13, 14, 15, 16, 17, 18, 19, 20, 21, 22, 23, 24, 25, 26, 27, 28, 29, 30, 31, 32, 33, 34, 35, 36, 37, 38, 39, 40, 41, 42, 43], [2, 3, 4, 5, 6, 7, 8, 9, 10, 11, 12, 13, 14, 15, 16, 17, 18, 19, 20, 21, 22, 23, 24, 25, 26, 27, 28, 29, 30, 31, 32, 33, 34, 35, 36, 37, 38, 39, 40, 41, 42, 43, 44], [2, 3, 4, 5, 6, 7, 8, 9, 10, 11, 12, 13, 14, 15, 16, 17, 18, 19, 20, 21, 22, 23, 24, 25, 26, 27, 28, 29, 30, 31, 32, 33, 34, 35, 36, 37, 38, 39, 40, 41, 42, 43, 44, 45], [2, 3, 4, 5, 6, 7, 8, 9, 10, 11, 12, 13, 14, 15, 16, 17, 18, 19, 20, 21, 22, 23, 24, 25, 26, 27, 28, 29, 30, 31, 32, 33, 34, 35, 36, 37, 38, 39, 40, 41, 42, 43, 44, 45, 46], [0, 1, 2, 3, 4, 5, 6, 7, 8, 9, 10, 11, 12, 13, 14, 15, 16, 17, 18, 19, 20, 21, 22, 23, 24, 25, 26, 27, 28, 29, 30, 31, 32, 33, 34, 35, 36, 37, 38, 39, 40, 41, 42, 43, 44, 45, 46, 47], [0, 1, 2, 3, 4, 5, 6, 7, 8, 9, 10, 11, 12, 13, 14, 15, 16, 17, 18, 19, 20, 21, 22, 23, 24, 25, 26, 27, 28, 29, 30, 31, 32, 33, 34, 35, 36, 37, 38, 39, 40, 41, 42, 43, 44, 45, 46, 47, 48]] [false, false, false, false, false, false, false, false, false, false, false, false, false, false, false, false, false, false, false, false, false, false, false, false, false, false, false, false, false, false, false, false, false, false, false, false, false, false, false, false, false, false, false, false, false, false, false, false, false, true] F5r22 [{ r := bval true }] (by kernel_rfl) (by rw [hC]; rfl) (by kernel_rfl) (by kernel_rfl) (fun K hK => ?_) (by simp [F5r22, st5b, hltc, hx, hho, hto', ha, hb, hH2h, hvh, hwr, hab2] <;> kernel_rfl)
                    simp [F5r22, st5b, hltc, hx, hho, hto', ha, hb, hH2h, hvh, hwr, hab2]
                    refine ⟨callOK (by simp) hstr, hK _ ?_⟩
                    refine AWp.reg [false, false, true] F5r17 [] (by kernel_rfl) (by rw [hC]; rfl) fun K hK => ?_
                    simp [F5r17]
                    first | refine hK _ ?_ | refine ⟨by omega, hK _ ?_⟩ | refine ⟨by omega, by omega, hK _ ?_⟩ | refine ⟨by omega, by omega, by omega, hK _ ?_⟩ | refine ⟨by omega, by omega, by omega, by omega, hK _ ?_⟩
                    refine ⟨c + 1, by omega, by omega, ?_⟩
                    rw [ht2]
                    simp [st5b, boolCells_set, wrap_nat c (by omega)]
                  · have hab2 : ((a : Int) == (b : Int) + 1) = false := by simp; omega
                    have hab3 : ((a : Int) == (b : Int)) = false := by simp; omega
                    simp [hab, hab1] at ht2
                    refine AWp.regL ops_mixed [[], [], [], [], [2, 3], [2, 3, 4], [2, 3, 4, 5], [2, 3, 4, 5, 6], [2, 3, 4, 5, 6], [2, 3, 4, 5, 6, 8], [2, 3, 4, 5, 6], [2, 3, 4, 5, 6, 8, 9, 10], [2, 3, 4, 5, 6, 8, 9, 10, 11], [2, 3, 4, 5, 6, 7, 8, 9, 10, 11, 12], [2, 3, 4, 5, 6, 7, 8, 9, 10, 11, 12, 13], [2, 3, 4, 5, 6, 7, 8, 9, 10, 11, 12, 13, 14], [2, 3, 4, 5, 6, 7, 8, 9, 10, 11, 12, 13, 14, 15], [2, 3, 4, 5, 6, 7, 8, 9, 10, 11, 12, 13, 14], [2, 3, 4, 5, 6, 7, 8, 9, 10, 11, 12, 13, 14, 15, 16, 17], [2, 3, 4, 5, 6, 7, 8, 9, 10, 11, 12, 13, 14, 15, 16, 17, 18], [2, 3, 4, 5, 6, 7, 8, 9, 10, 11, 12, 13, 14], [2, 3, 4, 5, 6, 7, 8, 9, 10, 11, 12, 13, 14, 20], [2, 3, 4, 5, 6, 7, 8, 9, 10, 11, 12, 13, 14], [2, 3, 4, 5, 6, 7, 8, 9, 10, 11, 12, 13, 14, 20, 21, 22], [2, 3, 4, 5, 6, 7, 8, 9, 10, 11, 12, 13, 14, 20, 21, 22, 23], [2, 3, 4, 5, 6, 7, 8, 9, 10, 11, 12, 13, 14, 20, 21, 22, 23, 24], [2, 3, 4, 5, 6, 7, 8, 9, 10, 11, 12, 13, 14, 15, 16, 17, 18, 19, 20, 21, 22, 23, 24, 25], [2, 3, 4, 5, 6, 7, 8, 9, 10, 11, 12, 13, 14, 15, 16, 17, 18, 19, 20, 21, 22, 23, 24, 25, 26], [2, 3, 4, 5, 6, 7, 8, 9, 10, 11, 12, 13, 14, 15, 16, 17, 18, 19, 20, 21, 22, 23, 24, 25, 26, 27], [2, 3, 4, 5, 6, 7, 8, 9, 10, 11, 12, 13, 14, 15, 16, 17, 18, 19, 20, 21, 22, 23, 24, 25, 26, 27, 28], [2, 3, 4, 5, 6, 7, 8, 9, 10, 11, 12, 13, 14, 15, 16, 17, 18, 19, 20, 21, 22, 23, 24, 25, 26, 27, 28, 29], [2, 3, 4, 5, 6, 7, 8, 9, 10, 11, 12, 13, 14, 15, 16, 17, 18, 19, 20, 21, 22, 23, 24, 25, 26, 27, 28, 29, 30], [2, 3, 4, 5, 6, 7, 8, 9, 10, 11, 12, 13, 14, 15, 16, 17, 18, 19, 20, 21, 22, 23, 24, 25, 26, 27, 28, 29], [2, 3, 4, 5, 6, 7, 8, 9, 10, 11, 12, 13, 14, 15, 16, 17, 18, 19, 20, 21, 22, 23, 24, 25, 26, 27, 28, 29, 30, 31, 32], [2, 3, 4, 5, 6, 7, 8, 9, 10, 11, 12, 13, 14, 15, 16, 17, 18, 19, 20, 21, 22, 23, 24, 25, 26, 27, 28, 29, 30, 31, 32, 33], [2, 3, 4, 5, 6, 7, 8, 9, 10, 11, 12, 13, 14, 15, 16, 17, 18, 19, 20, 21, 22, 23, 24, 25, 26, 27, 28, 29], [2, 3, 4, 5, 6, 7, 8, 9, 10, 11, 12, 13, 14, 15, 16, 17, 18, 19, 20, 21, 22, 23, 24, 25, 26, 27, 28, 29, 35], [2, 3, 4, 5, 6, 7, 8, 9, 10, 11, 12, 13, 14, 15, 16, 17, 18, 19, 20, 21, 22, 23, 24, 25, 26, 27, 28, 29], [2, 3, 4, 5, 6, 7, 8, 9, 10, 11, 12, 13, 14, 15, 16, 17, 18, 19, 20, 21, 22, 23, 24, 25, 26, 27, 28, 29, 35, 36, 37], [2, 3, 4, 5, 6, 7, 8, 9, 10, 11, 12, 13, 14, 15, 16, 17, 18, 19, 20, 21, 22, 23, 24, 25, 26, 27, 28, 29, 35, 36, 37, 38], [2, 3, 4, 5, 6, 7, 8, 9, 10, 11, 12, 13, 14, 15, 16, 17, 18, 19, 20, 21, 22, 23, 24, 25, 26, 27, 28, 29, 30, 31, 32, 33, 34, 35, 36, 37, 38, 39], [2, 3, 4, 5, 6, 7, 8, 9, 10, 11, 12, 13, 14, 15, 16, 17, 18, 19, 20, 21, 22, 23, 24, 25, 26, 27, 28, 29, 30, 31, 32, 33, 34, 35, 36, 37, 38, 39, 40], [2, 3, 4, 5, 6, 7, 8, 9, 10, 11, 12, 13, 14, 15, 16, 17, 18, 19, 20, 21, 22, 23, 24, 25, 26, 27, 28, 29, 30, 31, 32, 33, 34, 35, 36, 37, 38, 39, 40, 41], [2, 3, 4, 5, 6, 7, 8, 9, 10, 11, 12, 13, 14, 15, 16, 17, 18, 19, 20, 21, 22, 23, 24, 25, 26, 27, 28, 29, 30, 31, 32, 33, 34, 35, 36, 37, 38, 39, 40, 41], [2, 3, 4, 5, 6, 7, 8, 9, 10, 11, 12, 13, 14, 15, 16, 17, 18, 19, 20, 21, 22, 23, 24, 25, 26, 27, 28, 29, 30, 31, 32, 33, 34, 35, 36, 37, 38, 39, 40, 41, 42, 43], [2, 3, 4, 5, 6, 7, 8, 9, 10, 11, 12, 13, 14, 15, 16, 17, 18, 19, 20, 21, 22, 23, 24, 25, 26, 27, 28, 29, 30, 31, 32, 33, 34, 35, 36, 37, 38, 39, 40, 41, 42, 43, 44], [2, 3, 4, 5, 6, 7, 8, 9, 10, 11, 12, 13, 14, 15, 16, 17, 18, 19, 20, 21, 22, 23, 24, 25, 26, 27, 28, 29, 30, 31, 32, 33, 34, 35, 36, 37, 38, 39, 40, 41, 42, 43, 44, 45], [2, 3, 4, 5, 6, 7, 8, 9, 10, 11, 12, 13, 14, 15, 16, 17, 18, 19, 20, 21, 22, 23, 24, 25, 26, 27, 28, 29, 30, 31, 32, 33, 34, 35, 36, 37, 38, 39, 40, 41, 42, 43, 44, 45, 46], [0, 1, 2, 3, 4, 5, 6, 7, 8, 9, 10, 11, 12, 13, 14, 15, 16, 17, 18, 19, 20, 21, 22, 23, 24, 25, 26, 27, 28, 29, 30, 31, 32, 33, 34, 35, 36, 37, 38, 39, 40, 41, 42, 43, 44, 45, 46, 47], [0, 1, 2, 3, 4, 5, 6, 7, 8, 9, 10, 11, 12, 13, 14, 15, 16, 17, 18, 19, 20, 21, 22, 23, 24, 25, 26, 27, 28, 29, 30, 31, 32, 33, 34, 35, 36, 37, 38, 39, 40, 41, 42, 43, 44, 45, 46, 47, 48]] [false, false, false, false, false, false, false, false, false, false, false, false, false, false, false, false, false, false, false, false, false, false, false, false, false, false, false, false, false, false, false, false, false, false, false, false, false, false, false, false, false, false, false, false, false, false, false, false, false, true] F5r22 [{ r := bval true }] (by kernel_rfl) (by rw [hC]; rfl) (by kernel_rfl) (by kernel_rfl) (fun K hK => ?_) (by simp [F5r22, st5b, hltc, hx, hho, hto', ha, hb, hH2h, hvh, hwr, hab2, hab3] <;> kernel_rfl)
                    simp [F5r22, st5b, hltc, hx, hho, hto', ha, hb, hH2h, hvh, hwr, hab2, hab3]
                    refine ⟨callOK (by simp) hstr, hK _ ?_⟩
                    refine AWp.reg [false, false, true] F5r17 [] (by kernel_rfl) (by rw [hC]; rfl) fun K hK => ?_
                    simp [F5r17]
                    first | refine hK _ ?_ | refine ⟨by omega, hK _ ?_⟩ | refine ⟨by omega, by omega, hK _ ?_⟩ | refine ⟨by omega, by omega, by omega, hK _ ?_⟩ | refine ⟨by omega, by omega, by omega, by omega, hK _ ?_⟩
                    refine ⟨c + 1, by omega, by omega, ?_⟩
                    rw [ht2]
                    simp [st5b, boolCells_set, wrap_nat c (by omega)]
              | false =>
                refine AWp.skip ?_
                refine AWp.seq ?_
                refine AWp.block ?_
                refine AWp.seq ?_
                refine AWp.seq ?_
                refine AWp.reg [] F5r18 [{ r := bval true }] (by kernel_rfl) (by rw [hC]; rfl) fun K hK => ?_
                simp [F5r18, hltc, hx]
                refine ⟨callOK rfl hld, hK _ ?_⟩
                refine AWp.cond false (by simp) (fun he => by cases he) (fun _ => ?_)
                refine AWp.skip ?_
                refine AWp.seq ?_
                refine AWp.regD ops_mixed [false, false, false, false, false, false, false, false, true] F5r19 [{ r := ival t }] (by kernel_rfl) (by rw [hC]; rfl) rfl (fun K hK => ?_) (by simp [F5r19, hltc, hx] <;> rfl)
                simp [F5r19, hltc, hx]
                refine ⟨callOK rfl hAt2, hK _ ?_⟩
                refine AWp.forget (s' := st5b m ⟨of, rels, rules⟩ r H2 [(7, ival k), (8, ival j), (10, ival h), (11, ival c), (12, ival t)]) (by simp [st5b]) ?_
                refine AWp.seq ?_
                refine AWp.seq ?_
                refine AWp.regL ops_mixed [[], [0], [], [0, 1, 2], [0, 1, 2, 3], [], [5], [], [5, 6, 7], [5, 6, 7, 8], [0, 1, 2, 3, 4, 5, 6, 7, 8, 9], [0, 1, 2, 3, 4, 5, 6, 7, 8, 9, 10], [0, 1, 2, 3, 4, 5, 6, 7, 8, 9, 10, 11], [0, 1, 2, 3, 4, 5, 6, 7, 8, 9, 10, 11], [0, 1, 2, 3, 4, 5, 6, 7, 8, 9, 10, 11, 13], [0, 1, 2, 3, 4, 5, 6, 7, 8, 9, 10, 11], [0, 1, 2, 3, 4, 5, 6, 7, 8, 9, 10, 11, 13, 14, 15], [0, 1, 2, 3, 4, 5, 6, 7, 8, 9, 10, 11, 13, 14, 15, 16], [0, 1, 2, 3, 4, 5, 6, 7, 8, 9, 10, 11, 12, 13, 14, 15, 16, 17], [0, 1, 2, 3, 4, 5, 6, 7, 8, 9, 10, 11, 12, 13, 14, 15, 16, 17, 18], [0, 1, 2, 3, 4, 5, 6, 7, 8, 9, 10, 11, 12, 13, 14, 15, 16, 17, 18, 19], [0, 1, 2, 3, 4, 5, 6, 7, 8, 9, 10, 11, 12, 13, 14, 15, 16, 17, 18, 19, 20], [0, 1, 2, 3, 4, 5, 6, 7, 8, 9, 10, 11, 12, 13, 14, 15, 16, 17, 18, 19], [0, 1, 2, 3, 4, 5, 6, 7, 8, 9, 10, 11, 12, 13, 14, 15, 16, 17, 18, 19, 20, 21, 22], [0, 1, 2, 3, 4, 5, 6, 7, 8, 9, 10, 11, 12, 13, 14, 15, 16, 17, 18, 19, 20, 21, 22, 23], [0, 1, 2, 3, 4, 5, 6, 7, 8, 9, 10, 11, 12, 13, 14, 15, 16, 17, 18, 19], [0, 1, 2, 3, 4, 5, 6, 7, 8, 9, 10, 11, 12, 13, 14, 15, 16, 17, 18, 19, 25], [0, 1, 2, 3, 4, 5, 6, 7, 8, 9, 10, 11, 12, 13, 14, 15, 16, 17, 18, 19], [0, 1, 2, 3, 4, 5, 6, 7, 8, 9, 10, 11, 12, 13, 14, 15, 16, 17, 18, 19, 25, 26, 27], [0, 1, 2, 3, 4, 5, 6, 7, 8, 9, 10, 11, 12, 13, 14, 15, 16, 17, 18, 19, 25, 26, 27, 28], [0, 1, 2, 3, 4, 5, 6, 7, 8, 9, 10, 11, 12, 13, 14, 15, 16, 17, 18, 19, 20, 21, 22, 23, 24, 25, 26, 27, 28, 29], [0, 1, 2, 3, 4, 5, 6, 7, 8, 9, 10, 11, 12, 13, 14, 15, 16, 17, 18, 19, 20, 21, 22, 23, 24, 25, 26, 27, 28, 29, 30], [0, 1, 2, 3, 4, 5, 6, 7, 8, 9, 10, 11, 12, 13, 14, 15, 16, 17, 18, 19, 20, 21, 22, 23, 24, 25, 26, 27, 28, 29, 30, 31]] [] F5r20 [{ r := bval false }] (by kernel_rfl) (by rw [hC]; rfl) (by kernel_rfl) (by kernel_rfl) (fun K hK => ?_) (by simp [F5r20, st5b, hltc, hx, hho, hto', ha, hb, hnl, hnl2] <;> kernel_rfl)
                simp [F5r20, st5b, hltc, hx, hho, hto', ha, hb, hnl, hnl2]
                refine ⟨callOK (by simp) hstr, hK _ ?_⟩
                refine AWp.cond false (by simp) (fun he => by cases he) (fun _ => ?_)
                refine AWp.skip ?_
                refine AWp.forget (s' := st5b m ⟨of, rels, rules⟩ r H2 [(7, ival k), (8, ival j), (10, ival h), (11, ival c), (12, ival t)]) (by simp [st5b]) ?_
                cases vh with
                | true =>
                  simp at ht2
                  refine AWp.regL ops_mixed [[], [], [], [], [2, 3], [2, 3, 4], [2, 3, 4, 5], [2, 3, 4, 5, 6], [2, 3, 4, 5, 6], [2, 3, 4, 5, 6, 8], [2, 3, 4, 5, 6], [2, 3, 4, 5, 6, 8, 9, 10], [2, 3, 4, 5, 6, 8, 9, 10, 11], [2, 3, 4, 5, 6, 7, 8, 9, 10, 11, 12], [2, 3, 4, 5, 6, 7, 8, 9, 10, 11, 12, 13], [2, 3, 4, 5, 6, 7, 8, 9, 10, 11, 12, 13, 14], [2, 3, 4, 5, 6, 7, 8, 9, 10, 11, 12, 13, 14, 15], [2, 3, 4, 5, 6, 7, 8, 9, 10, 11, 12, 13, 14], [2, 3, 4, 5, 6, 7, 8, 9, 10, 11, 12, 13, 14, 15, 16, 17], [2, 3, 4, 5, 6, 7, 8, 9, 10, 11, 12, 13, 14, 15, 16, 17, 18], [2, 3, 4, 5, 6, 7, 8, 9, 10, 11, 12, 13, 14], [2, 3, 4, 5, 6, 7, 8, 9, 10, 11, 12, 13, 14, 20], [2, 3, 4, 5, 6, 7, 8, 9, 10, 11, 12, 13, 14], [2, 3, 4, 5, 6, 7, 8, 9, 10, 11, 12, 13, 14, 20, 21, 22], [2, 3, 4, 5, 6, 7, 8, 9, 10, 11, 12, 13, 14, 20, 21, 22, 23], [2, 3, 4, 5, 6, 7, 8, 9, 10, 11, 12, 13, 14, 20, 21, 22, 23, 24], [2, 3, 4, 5, 6, 7, 8, 9, 10, 11, 12, 13, 14, 15, 16, 17, 18, 19, 20, 21, 22, 23, 24, 25], [2, 3, 4, 5, 6, 7, 8, 9, 10, 11, 12, 13, 14, 15, 16, 17, 18, 19, 20, 21, 22, 23, 24, 25, 26], [2, 3, 4, 5, 6, 7, 8, 9, 10, 11, 12, 13, 14, 15, 16, 17, 18, 19, 20, 21, 22, 23, 24, 25, 26, 27], [2, 3, 4, 5, 6, 7, 8, 9, 10, 11, 12, 13, 14, 15, 16, 17, 18, 19, 20, 21, 22, 23, 24, 25, 26, 27, 28], [2, 3, 4, 5, 6, 7, 8, 9, 10, 11, 12, 13, 14, 15, 16, 17, 18, 19, 20, 21, 22, 23, 24, 25, 26, 27, 28, 29], [2, 3, 4, 5, 6, 7, 8, 9, 10, 11, 12, 13, 14, 15, 16, 17, 18, 19, 20, 21, 22, 23, 24, 25, 26, 27, 28, 29, 30], [2, 3, 4, 5, 6, 7, 8, 9, 10, 11, 12, 13, 14, 15, 16, 17, 18, 19, 20, 21, 22, 23, 24, 25, 26, 27, 28, 29], [2, 3, 4, 5, 6, 7, 8, 9, 10, 11, 12, 13, 14, 15, 16, 17, 18, 19, 20, 21, 22, 23, 24, 25, 26, 27, 28, 29, 30, 31, 32], [2, 3, 4, 5, 6, 7, 8, 9, 10, 11, 12, 13, 14, 15, 16, 17, 18, 19, 20, 21, 22, 23, 24, 25, 26, 27, 28, 29, 30, 31, 32, 33], [2, 3, 4, 5, 6, 7, 8, 9, 10, 11, 12, 13, 14, 15, 16, 17, 18, 19, 20, 21, 22, 23, 24, 25, 26, 27, 28, 29], [2, 3, 4, 5, 6, 7, 8, 9, 10, 11, 12, 13, 14, 15, 16, 17, 18, 19, 20, 21, 22, 23, 24, 25, 26, 27, 28, 29, 35], [2, 3, 4, 5, 6, 7, 8, 9, 10, 11, 12, 13, 14, 15, 16, 17, 18, 19, 20, 21, 22, 23, 24, 25, 26, 27, 28, 29], [2, 3, 4, 5, 6, 7, 8, 9, 10, 11, 12, 13, 14, 15, 16, 17, 18, 19, 20, 21, 22, 23, 24, 25, 26, 27, 28, 29, 35, 36, 37], [2, 3, 4, 5, 6, 7, 8, 9, 10, 11, 12, 13, 14, 15, 16, 17, 18, 19, 20, 21, 22, 23, 24, 25, 26, 27, 28, 29, 35, 36, 37, 38], [2, 3, 4, 5, 6, 7, 8, 9, 10, 11, 12, 13, 14, 15, 16, 17, 18, 19, 20, 21, 22, 23, 24, 25, 26, 27, 28, 29, 30, 31, 32, 33, 34, 35, 36, 37, 38, 39], [2, 3, 4, 5, 6, 7, 8, 9, 10, 11, 12, 13, 14, 15, 16, 17, 18, 19, 20, 21, 22, 23, 24, 25, 26, 27, 28, 29, 30, 31, 32, 33, 34, 35, 36, 37, 38, 39, 40], [2, 3, 4, 5, 6, 7, 8, 9, 10, 11, 12, 13, 14, 15, 16, 17, 18, 19, 20, 21, 22, 23, 24, 25, 26, 27, 28, 29, 30, 31, 32, 33, 34, 35, 36, 37, 38, 39, 40, 41], [2, 3, 4, 5, 6, 7, 8, 9, 10, 11, 12, 13, 14, 15, 16, 17, 18, 19, 20, 21, 22, 23, 24, 25, 26, 27, 28, 29, 30, 31, 32, 33, 34, 35, 36, 37, 38, 39, 40, 41], [2, 3, 4, 5, 6, 7, 8, 9, 10, 11, 12, 13, 14, 15, 16, 17, 18, 19, 20, 21, 22, 23, 24, 25, 26, 27, 28, 29, 30, 31, 32, 33, 34, 35, 36, 37, 38, 39, 40, 41, 42, 43], [2, 3, 4, 5, 6, 7, 8, 9, 10, 11, 12, 13, 14, 15, 16, 17, 18, 19, 20, 21, 22, 23, 24, 25, 26, 27, 28, 29, 30, 31, 32, 33, 34, 35, 36, 37, 38, 39, 40, 41, 42, 43, 44], [2, 3, 4, 5, 6, 7, 8, 9, 10, 11, 12, 13, 14, 15, 16, 17, 18, 19, 20, 21, 22, 23, 24, 25, 26, 27, 28, 29, 30, 31, 32, 33, 34, 35, 36, 37, 38, 39, 40, 41, 42, 43, 44, 45], [2, 3, 4, 5, 6, 7, 8, 9, 10, 11, 12, 13, 14, 15, 16, 17, 18, 19, 20, 21, 22, 23, 24, 25, 26, 27, 28, 29, 30, 31, 32, 33, 34, 35, 36, 37, 38, 39, 40, 41, 42, 43, 44, 45, 46], [0, 1, 2, 3, 4, 5, 6, 7, 8, 9, 10, 11, 12, 13, 14, 15, 16, 17, 18, 19, 20, 21, 22, 23, 24, 25, 26, 27, 28, 29, 30, 31, 32, 33, 34, 35, 36, 37, 38, 39, 40, 41, 42, 43, 44, 45, 46, 47], [0, 1, 2, 3, 4, 5, 6, 7, 8, 9, 10, 11, 12, 13, 14, 15, 16, 17, 18, 19, 20, 21, 22, 23, 24, 25, 26, 27, 28, 29, 30, 31, 32, 33, 34, 35, 36, 37, 38, 39, 40, 41, 42, 43, 44, 45, 46, 47, 48]] [false, false, false, false, false, false, false, false, false, false, false, false, false, false, false, false, false, false, false, false, false, false, false, false, false, false, false, false, false, false, false, false, false, false, false, false, false, false, false, false, false, false, false, false, false, false, false, false, false, true] F5r22 [{}] (by kernel_rfl) (by rw [hC]; rfl) (by kernel_rfl) (by kernel_rfl) (fun K hK => ?_) (by simp [F5r22, st5b, hltc, hx, hho, hto', ha, hb, hH2h, hvh] <;> kernel_rfl)
                  simp [F5r22, st5b, hltc, hx, hho, hto', ha, hb, hH2h, hvh]
                  refine hK _ ?_
                  refine AWp.reg [false, false, true] F5r17 [] (by kernel_rfl) (by rw [hC]; rfl) fun K hK => ?_
                  simp [F5r17]
                  first | refine hK _ ?_ | refine ⟨by omega, hK _ ?_⟩ | refine ⟨by omega, by omega, hK _ ?_⟩ | refine ⟨by omega, by omega, by omega, hK _ ?_⟩ | refine ⟨by omega, by omega, by omega, by omega, hK _ ?_⟩
                  refine ⟨c + 1, by omega, by omega, ?_⟩
                  rw [ht2]
                  simp [st5b, boolCells_set, wrap_nat c (by omega)]
                | false =>
                  by_cases hab : a = b
                  · have hab3 : ((a : Int) == (b : Int)) = true := by simp; omega
                    simp [hab] at ht2
                    refine AWp.regL ops_mixed [[], [], [], [], [2, 3], [2, 3, 4], [2, 3, 4, 5], [2, 3, 4, 5, 6], [2, 3, 4, 5, 6], [2, 3, 4, 5, 6, 8], [2, 3, 4, 5, 6], [2, 3, 4, 5, 6, 8, 9, 10], [2, 3, 4, 5, 6, 8, 9, 10, 11], [2, 3, 4, 5, 6, 7, 8, 9, 10, 11, 12], [2, 3, 4, 5, 6, 7, 8, 9, 10, 11, 12, 13], [2, 3, 4, 5, 6, 7, 8, 9, 10, 11, 12, 13, 14], [2, 3, 4, 5, 6, 7, 8, 9, 10, 11, 12, 13, 14, 15], [2, 3, 4, 5, 6, 7, 8, 9, 10, 11, 12, 13, 14], [2, 3, 4, 5, 6, 7, 8, 9, 10, 11, 12, 13, 14, 15, 16, 17], [2, 3, 4, 5, 6, 7, 8, 9, 10, 11, 12, 13, 14, 15, 16, 17, 18], [2, 3, 4, 5, 6, 7, 8, 9, 10, 11, 12, 13, 14], [2, 3, 4, 5, 6, 7, 8, 9, 10, 11, 12, 13, 14, 20], [2, 3, 4, 5, 6, 7, 8, 9, 10, 11, 12, 13, 14], [2, 3, 4, 5, 6, 7, 8, 9, 10, 11, 12, 13, 14, 20, 21, 22], [2, 3, 4, 5, 6, 7, 8, 9, 10, 11, 12, 13, 14, 20, 21, 22, 23], [2, 3, 4, 5, 6, 7, 8, 9, 10, 11, 12, 13, 14, 20, 21, 22, 23, 24], [2, 3, 4, 5, 6, 7, 8, 9, 10, 11, 12, 13, 14, 15, 16, 17, 18, 19, 20, 21, 22, 23, 24, 25], [2, 3, 4, 5, 6, 7, 8, 9, 10, 11, 12, 13, 14, 15, 16, 17, 18, 19, 20, 21, 22, 23, 24, 25, 26], [2, 3, 4, 5, 6, 7, 8, 9, 10, 11, 12, 13, 14, 15, 16, 17, 18, 19, 20, 21, 22, 23, 24, 25, 26, 27], [2, 3, 4, 5, 6, 7, 8, 9, 10, 11, 12, 13, 14, 15, 16, 17, 18, 19, 20, 21, 22, 23, 24, 25, 26, 27, 28], [2, 3, 4, 5, 6, 7, 8, 9, 10, 11, 12, 13, 14, 15, 16, 17, 18, 19, 20, 21, 22, 23, 24, 25, 26, 27, 28, 29], [2, 3, 4, 5, 6, 7, 8, 9, 10, 11, 12, 13, 14, 15, 16, 17, 18, 19, 20, 21, 22, 23, 24, 25, 26, 27, 28, 29, 30], [2, 3, 4, 5, 6, 7, 8, 9, 10, 11, 12, 13, 14, 15, 16, 17, 18, 19, 20, 21, 22, 23, 24, 25, 26, 27, 28, 29], [2, 3, 4, 5, 6, 7, 8, 9, 10, 11, 12, 13, 14, 15, 16, 17, 18, 19, 20, 21, 22, 23, 24, 25, 26, 27, 28, 29, 30, 31, 32], [2, 3, 4, 5, 6, 7, 8, 9, 10, 11, 12, 13, 14, 15, 16, 17, 18, 19, 20, 21, 22, 23, 24, 25, 26, 27, 28, 29, 30, 31, 32, 33], [2, 3, 4, 5, 6, 7, 8, 9, 10, 11, 12, 13, 14, 15, 16, 17, 18, 19, 20, 21, 22, 23, 24, 25, 26, 27, 28, 29], [2, 3, 4, 5, 6, 7, 8, 9, 10, 11, 12, 13, 14, 15, 16, 17, 18, 19, 20, 21, 22, 23, 24, 25, 26, 27, 28, 29, 35], [2, 3, 4, 5, 6, 7, 8, 9, 10, 11, 12, 13, 14, 15, 16, 17, 18, 19, 20, 21, 22, 23, 24, 25, 26, 27, 28, 29], [2, 3, 4, 5, 6, 7, 8, 9, 10, 11, 12, 13, 14, 15, 16, 17, 18, 19, 20, 21, 22, 23, 24, 25, 26, 27, 28, 29, 35, 36, 37], [2, 3, 4, 5, 6, 7, 8, 9, 10, 11, 12, 13, 14, 15, 16, 17, 18, 19, 20, 21, 22, 23, 24, 25, 26, 27, 28, 29, 35, 36, 37, 38], [2, 3, 4, 5, 6, 7, 8, 9, 10, 11, 12, 13, 14, 15, 16, 17, 18, 19, 20, 21, 22, 23, 24, 25, 26, 27, 28, 29, 30, 31, 32, 33, 34, 35, 36, 37, 38, 39], [2, 3, 4, 5, 6, 7, 8, 9, 10, 11, 12, 13, 14, 15, 16, 17, 18, 19, 20, 21, 22, 23, 24, 25, 26, 27, 28, 29, 30, 31, 32, 33, 34, 35, 36, 37, 38, 39, 40], [2, 3, 4, 5, 6, 7, 8, 9, 10, 11, 12, 13, 14, 15, 16, 17, 18, 19, 20, 21, 22, 23, 24, 25, 26, 27, 28, 29, 30, 31, 32, 33, 34, 35, 36, 37, 38, 39, 40, 41], [2, 3, 4, 5, 6, 7, 8, 9, 10, 11, 12, 13, 14, 15, 16, 17, 18, 19, 20, 21, 22, 23, 24, 25, 26, 27, 28, 29, 30, 31, 32, 33, 34, 35, 36, 37, 38, 39, 40, 41], [2, 3, 4, 5, 6, 7, 8, 9, 10, 11, 12, 13, 14, 15, 16, 17, 18, 19, 20, 21, 22, 23, 24, 25, 26, 27, 28, 29, 30, 31, 32, 33, 34, 35, 36, 37, 38, 39, 40, 41, 42, 43], [2, 3, 4, 5, 6, 7, 8, 9, 10, 11, 12, 13, 14, 15, 16, 17, 18, 19, 20, 21, 22, 23, 24, 25, 26, 27, 28, 29, 30, 31, 32, 33, 34, 35, 36, 37, 38, 39, 40, 41, 42, 43, 44], [2, 3, 4, 5, 6, 7, 8, 9, 10, 11, 12, 13, 14, 15, 16, 17, 18, 19, 20, 21, 22, 23, 24, 25, 26, 27, 28, 29, 30, 31, 32, 33, 34, 35, 36, 37, 38, 39, 40, 41, 42, 43, 44, 45], [2, 3, 4, 5, 6, 7, 8, 9, 10, 11, 12, 13, 14, 15, 16, 17, 18, 19, 20, 21, 22, 23, 24, 25, 26, 27, 28, 29, 30, 31, 32, 33, 34, 35, 36, 37, 38, 39, 40, 41, 42, 43, 44, 45, 46], [0, 1, 2, 3, 4, 5, 6, 7, 8, 9, 10, 11, 12, 13, 14, 15, 16, 17, 18, 19, 20, 21, 22, 23, 24, 25, 26, 27, 28, 29, 30, 31, 32, 33, 34, 35, 36, 37, 38, 39, 40, 41, 42, 43, 44, 45, 46, 47], [0, 1, 2, 3, 4, 5, 6, 7, 8, 9, 10, 11, 12, 13, 14, 15, 16, 17, 18, 19, 20, 21, 22, 23, 24, 25, 26, 27, 28, 29, 30, 31, 32, 33, 34, 35, 36, 37, 38, 39, 40, 41, 42, 43, 44, 45, 46, 47, 48]] [false, false, false, false, false, false, false, false, false, false, false, false, false, false, false, false, false, false, false, false, false, false, false, false, false, false, false, false, false, false, false, false, false, false, false, false, false, false, false, false, false, false, false, false, false, false, false, false, false, true] F5r22 [{ r := bval false }] (by kernel_rfl) (by rw [hC]; rfl) (by kernel_rfl) (by kernel_rfl) (fun K hK => ?_) (by simp [F5r22, st5b, hltc, hx, hho, hto', ha, hb, hH2h, hH2t, hvh, hvt, hab3] <;> kernel_rfl)
                    simp [F5r22, st5b, hltc, hx, hho, hto', ha, hb, hH2h, hH2t, hvh, hvt, hab3]
                    refine ⟨callOK (by simp) hstr, hK _ ?_⟩
                    refine AWp.reg [false, false, true] F5r17 [] (by kernel_rfl) (by rw [hC]; rfl) fun K hK => ?_
                    simp [F5r17]
                    first | refine hK _ ?_ | refine ⟨by omega, hK _ ?_⟩ | refine ⟨by omega, by omega, hK _ ?_⟩ | refine ⟨by omega, by omega, by omega, hK _ ?_⟩ | refine ⟨by omega, by omega, by omega, by omega, hK _ ?_⟩
                    refine ⟨c + 1, by omega, by omega, ?_⟩
                    rw [ht2]
                    simp [st5b, boolCells_set, wrap_nat c (by omega)]
                  · have hab3 : ((a : Int) == (b : Int)) = false := by simp; omega
                    simp [hab] at ht2
                    refine AWp.regL ops_mixed [[], [], [], [], [2, 3], [2, 3, 4], [2, 3, 4, 5], [2, 3, 4, 5, 6], [2, 3, 4, 5, 6], [2, 3, 4, 5, 6, 8], [2, 3, 4, 5, 6], [2, 3, 4, 5, 6, 8, 9, 10], [2, 3, 4, 5, 6, 8, 9, 10, 11], [2, 3, 4, 5, 6, 7, 8, 9, 10, 11, 12], [2, 3, 4, 5, 6, 7, 8, 9, 10, 11, 12, 13], [2, 3, 4, 5, 6, 7, 8, 9, 10, 11, 12, 13, 14], [2, 3, 4, 5, 6, 7, 8, 9, 10, 11, 12, 13, 14, 15], [2, 3, 4, 5, 6, 7, 8, 9, 10, 11, 12, 13, 14], [2, 3, 4, 5, 6, 7, 8, 9, 10, 11, 12, 13, 14, 15, 16, 17], [2, 3, 4, 5, 6, 7, 8, 9, 10, 11, 12, 13, 14, 15, 16, 17, 18], [2, 3, 4, 5, 6, 7, 8, 9, 10, 11, 12, 13, 14], [2, 3, 4, 5, 6, 7, 8, 9, 10, 11, 12, 13, 14, 20], [2, 3, 4, 5, 6, 7, 8, 9, 10, 11, 12, 13, 14], [2, 3, 4, 5, 6, 7, 8, 9, 10, 11, 12, 13, 14, 20, 21, 22], [2, 3, 4, 5, 6, 7, 8, 9, 10, 11, 12, 13, 14, 20, 21, 22, 23], [2, 3, 4, 5, 6, 7, 8, 9, 10, 11, 12, 13, 14, 20, 21, 22, 23, 24], [2, 3, 4, 5, 6, 7, 8, 9, 10, 11, 12, 13, 14, 15, 16, 17, 18, 19, 20, 21, 22, 23, 24, 25], [2, 3, 4, 5, 6, 7, 8, 9, 10, 11, 12, 13, 14, 15, 16, 17, 18, 19, 20, 21, 22, 23, 24, 25, 26], [2, 3, 4, 5, 6, 7, 8, 9, 10, 11, 12, 13, 14, 15, 16, 17, 18, 19, 20, 21, 22, 23, 24, 25, 26, 27], [2, 3, 4, 5, 6, 7, 8, 9, 10, 11, 12, 13, 14, 15, 16, 17, 18, 19, 20, 21, 22, 23, 24, 25, 26, 27, 28], [2, 3, 4, 5, 6, 7, 8, 9, 10, 11, 12, 13, 14, 15, 16, 17, 18, 19, 20, 21, 22, 23, 24, 25, 26, 27, 28, 29], [2, 3, 4, 5, 6, 7, 8, 9, 10, 11, 12, 13, 14, 15, 16, 17, 18, 19, 20, 21, 22, 23, 24, 25, 26, 27, 28, 29, 30], [2, 3, 4, 5, 6, 7, 8, 9, 10, 11, 12, 13, 14, 15, 16, 17, 18, 19, 20, 21, 22, 23, 24, 25, 26, 27, 28, 29], [2, 3, 4, 5, 6, 7, 8, 9, 10, 11, 12, 13, 14, 15, 16, 17, 18, 19, 20, 21, 22, 23, 24, 25, 26, 27, 28, 29, 30, 31, 32], [2, 3, 4, 5, 6, 7, 8, 9, 10, 11, 12, 13, 14, 15, 16, 17, 18, 19, 20, 21, 22, 23, 24, 25, 26, 27, 28, 29, 30, 31, 32, 33], [2, 3, 4, 5, 6, 7, 8, 9, 10, 11, 12, 13, 14, 15, 16, 17, 18, 19, 20, 21, 22, 23, 24, 25, 26, 27, 28, 29], [2, 3, 4, 5, 6, 7, 8, 9, 10, 11, 12, 13, 14, 15, 16, 17, 18, 19, 20, 21, 22, 23, 24, 25, 26, 27, 28, 29, 35], [2, 3, 4, 5, 6, 7, 8, 9, 10, 11, 12, 13, 14, 15, 16, 17, 18, 19, 20, 21, 22, 23, 24, 25, 26, 27, 28, 29], [2, 3, 4, 5, 6, 7, 8, 9, 10, 11, 12, 13, 14, 15, 16, 17, 18, 19, 20, 21, 22, 23, 24, 25, 26, 27, 28, 29, 35, 36, 37], [2, 3, 4, 5, 6, 7, 8, 9, 10, 11, 12, 13, 14, 15, 16, 17, 18, 19, 20, 21, 22, 23, 24, 25, 26, 27, 28, 29, 35, 36, 37, 38], [2, 3, 4, 5, 6, 7, 8, 9, 10, 11, 12, 13, 14, 15, 16, 17, 18, 19, 20, 21, 22, 23, 24, 25, 26, 27, 28, 29, 30, 31, 32, 33, 34, 35, 36, 37, 38, 39], [2, 3, 4, 5, 6, 7, 8, 9, 10, 11, 12, 13, 14, 15, 16, 17, 18, 19, 20, 21, 22, 23, 24, 25, 26, 27, 28, 29, 30, 31, 32, 33, 34, 35, 36, 37, 38, 39, 40], [2, 3, 4, 5, 6, 7, 8, 9, 10, 11, 12, 13, 14, 15, 16, 17, 18, 19, 20, 21, 22, 23, 24, 25, 26, 27, 28, 29, 30, 31, 32, 33, 34, 35, 36, 37, 38, 39, 40, 41], [2, 3, 4, 5, 6, 7, 8, 9, 10, 11, 12, 13, 14, 15, 16, 17, 18, 19, 20, 21, 22, 23, 24, 25, 26, 27, 28, 29, 30, 31, 32, 33, 34, 35, 36, 37, 38, 39, 40, 41], [2, 3, 4, 5, 6, 7, 8, 9, 10, 11, 12, 13, 14, 15, 16, 17, 18, 19, 20, 21, 22, 23, 24, 25, 26, 27, 28, 29, 30, 31, 32, 33, 34, 35, 36, 37, 38, 39, 40, 41, 42, 43], [2, 3, 4, 5, 6, 7, 8, 9, 10, 11, 12, 13, 14, 15, 16, 17, 18, 19, 20, 21, 22, 23, 24, 25, 26, 27, 28, 29, 30, 31, 32, 33, 34, 35, 36, 37, 38, 39, 40, 41, 42, 43, 44], [2, 3, 4, 5, 6, 7, 8, 9, 10, 11, 12, 13, 14, 15, 16, 17, 18, 19, 20, 21, 22, 23, 24, 25, 26, 27, 28, 29, 30, 31, 32, 33, 34, 35, 36, 37, 38, 39, 40, 41, 42, 43, 44, 45], [2, 3, 4, 5, 6, 7, 8, 9, 10, 11, 12, 13, 14, 15, 16, 17, 18, 19, 20, 21, 22, 23, 24, 25, 26, 27, 28, 29, 30, 31, 32, 33, 34, 35, 36, 37, 38, 39, 40, 41, 42, 43, 44, 45, 46], [0, 1, 2, 3, 4, 5, 6, 7, 8, 9, 10, 11, 12, 13, 14, 15, 16, 17, 18, 19, 20, 21, 22, 23, 24, 25, 26, 27, 28, 29, 30, 31, 32, 33, 34, 35, 36, 37, 38, 39, 40, 41, 42, 43, 44, 45, 46, 47], [0, 1, 2, 3, 4, 5, 6, 7, 8, 9, 10, 11, 12, 13, 14, 15, 16, 17, 18, 19, 20, 21, 22, 23, 24, 25, 26, 27, 28, 29, 30, 31, 32, 33, 34, 35, 36, 37, 38, 39, 40, 41, 42, 43, 44, 45, 46, 47, 48]] [false, false, false, false, false, false, false, false, false, false, false, false, false, false, false, false, false, false, false, false, false, false, false, false, false, false, false, false, false, false, false, false, false, false, false, false, false, false, false, false, false, false, false, false, false, false, false, false, false, true] F5r22 [{ r := bval false }] (by kernel_rfl) (by rw [hC]; rfl) (by kernel_rfl) (by kernel_rfl) (fun K hK => ?_) (by simp [F5r22, st5b, hltc, hx, hho, hto', ha, hb, hH2h, hvh, hab3] <;> kernel_rfl)
                    simp [F5r22, st5b, hltc, hx, hho, hto', ha, hb, hH2h, hvh, hab3]
                    refine ⟨callOK (by simp) hstr, hK _ ?_⟩
                    refine AWp.reg [false, false, true] F5r17 [] (by kernel_rfl) (by rw [hC]; rfl) fun K hK => ?_
                    simp [F5r17]
                    first | refine hK _ ?_ | refine ⟨by omega, hK _ ?_⟩ | refine ⟨by omega, by omega, hK _ ?_⟩ | refine ⟨by omega, by omega, by omega, hK _ ?_⟩ | refine ⟨by omega, by omega, by omega, by omega, hK _ ?_⟩
                    refine ⟨c + 1, by omega, by omega, ?_⟩
                    rw [ht2]
                    simp [st5b, boolCells_set, wrap_nat c (by omega)]
          have hgec : ¬ c < r.body.length := by simpa using hgec
          refine AWp.exit ?_
          refine AWp.reg [false, false, true] F5r12 [] (by kernel_rfl) (by rw [hC]; rfl) fun K hK => ?_
          simp [F5r12]
          first | refine hK _ ?_ | refine ⟨by omega, hK _ ?_⟩ | refine ⟨by omega, by omega, hK _ ?_⟩ | refine ⟨by omega, by omega, by omega, hK _ ?_⟩ | refine ⟨by omega, by omega, by omega, by omega, hK _ ?_⟩
          refine ⟨j + 1, by omega, by omega, ?_⟩
          rw [ht, ← hrend2 (by omega)]
          simp [st5, wrap_nat j (by omega)]
        have hgej : ¬ j < m.rules.length := by simpa using hgej
        refine AWp.exit ?_
        refine AWp.reg [false, false, true] F5r9 [] (by kernel_rfl) (by rw [hC]; rfl) fun K hK => ?_
        simp [F5r9]
        first | refine hK _ ?_ | refine ⟨by omega, hK _ ?_⟩ | refine ⟨by omega, by omega, hK _ ?_⟩ | refine ⟨by omega, by omega, by omega, hK _ ?_⟩ | refine ⟨by omega, by omega, by omega, by omega, hK _ ?_⟩
        refine ⟨k + 1, by omega, by omega, ?_⟩
        rw [hsucc, ← hrend (by omega)]
        simp [st5, wrap_nat k (by omega)]
      have hge : ¬ k ≤ of.length := by simpa using hge
      have hH := hlast (hend hge)
      clear hlast hend hsucc
      refine AWp.exit ?_
      refine AWp.seq ?_
      refine AWp.seq ?_
      refine AWp.reg [true] F5r23 [] (by kernel_rfl) (by rw [hC]; rfl) fun K hK => ?_
      simp [F5r23]
      first | refine hK _ ?_ | refine ⟨by omega, hK _ ?_⟩ | refine ⟨by omega, by omega, hK _ ?_⟩ | refine ⟨by omega, by omega, by omega, hK _ ?_⟩ | refine ⟨by omega, by omega, by omega, by omega, hK _ ?_⟩
      refine AWp.block ?_
      refine AWp.loopG (fun i : Nat => st5 m ⟨of, rels, rules⟩ H0 [(13, ival i)]) (fun i => i ≤ of.length) (fun i => of.length - i) 0 (by simp) (by simp [st5]) (fun i hi => ?_)
      refine AWp.seq ?_
      refine AWp.seq ?_
      refine AWp.reg [] F5r24 [] (by kernel_rfl) (by rw [hC]; rfl) fun K hK => ?_
      simp [F5r24, st5]
      first | refine hK _ ?_ | refine ⟨by omega, hK _ ?_⟩ | refine ⟨by omega, by omega, hK _ ?_⟩ | refine ⟨by omega, by omega, by omega, hK _ ?_⟩ | refine ⟨by omega, by omega, by omega, by omega, hK _ ?_⟩
      refine AWp.cond (decide (i < of.length)) (by simp) (fun hlti => ?_) (fun hgei => ?_)
      · skip
        have hlti : i < of.length := by simpa using hlti
        have hil : i < H0.length := by omega
        have hHi := hH i
        simp only [fn, getD_at hlti, getD_at hil] at hHi
        obtain ⟨v, hv⟩ : ∃ v, of[i] = v := ⟨_, rfl⟩
        rw [hv] at hHi
        have hn0 : ¬ (v : Int) < 0 := by omega
        by_cases h0 : 0 < v
        · have hb := hHi h0
          have h0' : (0 : Int) < (v : Int) := by omega
          refine AWp.skip ?_
          refine AWp.seq ?_
          refine AWp.block ?_
          refine AWp.seq ?_
          refine AWp.reg [] F5r26 [] (by kernel_rfl) (by rw [hC]; rfl) fun K hK => ?_
          simp [F5r26, hlti, hv, hn0, hil, hb, h0, h0']
          first | refine hK _ ?_ | refine ⟨by omega, hK _ ?_⟩ | refine ⟨by omega, by omega, hK _ ?_⟩ | refine ⟨by omega, by omega, by omega, hK _ ?_⟩ | refine ⟨by omega, by omega, by omega, by omega, hK _ ?_⟩
          refine AWp.cond false (by simp) (fun he => by cases he) (fun _ => ?_)
          refine AWp.skip ?_
          refine AWp.reg [false, false, true] F5r25 [] (by kernel_rfl) (by rw [hC]; rfl) fun K hK => ?_
          simp [F5r25]
          first | refine hK _ ?_ | refine ⟨by omega, hK _ ?_⟩ | refine ⟨by omega, by omega, hK _ ?_⟩ | refine ⟨by omega, by omega, by omega, hK _ ?_⟩ | refine ⟨by omega, by omega, by omega, by omega, hK _ ?_⟩
          refine ⟨i + 1, by omega, by omega, ?_⟩
          simp [st5, wrap_nat i (by omega)]
        · have hv0 : v = 0 := by omega
          subst hv0
          refine AWp.skip ?_
          refine AWp.seq ?_
          refine AWp.block ?_
          refine AWp.seq ?_
          refine AWp.reg [] F5r26 [] (by kernel_rfl) (by rw [hC]; rfl) fun K hK => ?_
          simp [F5r26, hlti, hv, hil]
          first | refine hK _ ?_ | refine ⟨by omega, hK _ ?_⟩ | refine ⟨by omega, by omega, hK _ ?_⟩ | refine ⟨by omega, by omega, by omega, hK _ ?_⟩ | refine ⟨by omega, by omega, by omega, by omega, hK _ ?_⟩
          refine AWp.cond false (by simp) (fun he => by cases he) (fun _ => ?_)
          refine AWp.skip ?_
          refine AWp.reg [false, false, true] F5r25 [] (by kernel_rfl) (by rw [hC]; rfl) fun K hK => ?_
          simp [F5r25]
          first | refine hK _ ?_ | refine ⟨by omega, hK _ ?_⟩ | refine ⟨by omega, by omega, hK _ ?_⟩ | refine ⟨by omega, by omega, by omega, hK _ ?_⟩ | refine ⟨by omega, by omega, by omega, by omega, hK _ ?_⟩
          refine ⟨i + 1, by omega, by omega, ?_⟩
          simp [st5, wrap_nat i (by omega)]
      refine AWp.exit ?_
      refine AWp.seq ?_
      refine AWp.reg [true] F5r28 [] (by kernel_rfl) (by rw [hC]; rfl) fun K hK => ?_
      simp [F5r28]
      first | refine hK _ ?_ | refine ⟨by omega, hK _ ?_⟩ | refine ⟨by omega, by omega, hK _ ?_⟩ | refine ⟨by omega, by omega, by omega, hK _ ?_⟩ | refine ⟨by omega, by omega, by omega, by omega, hK _ ?_⟩
      repeat refine AWp.seq ?_
      refine AWp.ret ⟨.inr rfl, _, by simp [Try.results5] <;> rfl, ?_⟩
      exact .closed rfl
    · have hpm : ∃ p, progMake m = (⟨[], [], []⟩, p) := by
        by_cases hc : (checkE m).2 = 0
        · have hpm : progMake m = makeOf (graphOf m) := by simp only [progMake, hc, if_true]
          rw [hpm] at he ⊢
          cases hr : refuse1 (graphOf m) (graphOf m).pairs with
          | some p => exact ⟨_, makeOf_some hr⟩
          | none => rw [makeOf_none hr] at he; exact absurd rfl he
        · exact ⟨checkE m, by simp only [progMake, hc, if_false]⟩
      obtain ⟨⟨⟨p1, p2⟩, f⟩, hpm⟩ := hpm
      rw [hpm] at hmk he
      simp only at he
      refine AWp.skip ?_
      refine AWp.seq ?_
      refine AWp.reg [false, false, false, false, false, false, false, false, true, true, true] F5r3 [{ r := encMakeR (⟨[], [], []⟩, ((p1, p2), f)) }] (by kernel_rfl) (by rw [hC]; rfl) fun K hK => ?_
      simp [F5r3, encMakeR, encStrata]
      refine ⟨callOK rfl hmk, hK _ ?_⟩
      refine AWp.seq ?_
      refine AWp.seq ?_
      refine AWp.reg [] F5r4 [] (by kernel_rfl) (by rw [hC]; rfl) fun K hK => ?_
      simp [F5r4]
      first | refine hK _ ?_ | refine ⟨by omega, hK _ ?_⟩ | refine ⟨by omega, by omega, hK _ ?_⟩ | refine ⟨by omega, by omega, by omega, hK _ ?_⟩ | refine ⟨by omega, by omega, by omega, by omega, hK _ ?_⟩
      refine AWp.cond true (by simp [he]) (fun _ => ?_) (fun he => by cases he)
      refine AWp.seq ?_
      refine AWp.reg [false, false, false, false, false, false, false, false, false, false, false, false, true] F5r5 [] (by kernel_rfl) (by rw [hC]; rfl) fun K hK => ?_
      simp [F5r5]
      first | refine hK _ ?_ | refine ⟨by omega, hK _ ?_⟩ | refine ⟨by omega, by omega, hK _ ?_⟩ | refine ⟨by omega, by omega, by omega, hK _ ?_⟩ | refine ⟨by omega, by omega, by omega, by omega, hK _ ?_⟩
      repeat refine AWp.seq ?_
      refine AWp.ret ⟨.inr rfl, _, by simp [Try.results5] <;> rfl, ?_⟩
      exact .closed rfl
end Go.St
