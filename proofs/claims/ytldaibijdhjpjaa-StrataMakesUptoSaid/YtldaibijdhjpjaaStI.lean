/- strata: Max; Make. -/
import Derived.Test.YtldaibijdhjpjaaStG
import Derived.Test.YtldaibijdhjpjaaStSpI
set_option linter.unusedSimpArgs false
set_option linter.unusedVariables false
open Go Go.Aw Go.Proofs
namespace Go.St
attribute [local simp] ints encEdges encEdge encE
-- function 27: slices.Max[[]int,int]: 25 slots; results ['(Go.ResultVar.tmp 2)']
-- NOT SERVED: region 2: makeInterface
def F27r0 : List ROp := [{ dst := some 2, op := .copy true (.const (.int .i64 0)), after := [], guard := none }]
def F27r1 : List ROp := [{ dst := some 5, op := .copy false (.tmp 0), after := [], guard := none },
  { dst := some 6, op := .len 0 (.tmp 5), after := [0], guard := none },
  { dst := some 7, op := .bin .lss (.tmp 6) (.const (.int .i64 1)), after := [1], guard := none }]
def F27r2 : List ROp := []
def F27r3 : List ROp := [{ dst := some 9, op := .copy false (.tmp 0), after := [], guard := none },
  { dst := some 10, op := .iad 1 (.tmp 9) (.const (.int .i64 0)), after := [0], guard := none },
  { dst := some 11, op := .load 1 false false (.tmp 10), after := [1], guard := none },
  { dst := some 3, op := .copy true (.tmp 11), after := [2, 0, 1, 2], guard := none }]
def F27r4 : List ROp := [{ dst := some 4, op := .copy true (.const (.int .i64 1)), after := [], guard := none }]
def F27r5 : List ROp := [{ dst := some 12, op := .copy false (.tmp 4), after := [], guard := none },
  { dst := some 13, op := .copy false (.tmp 0), after := [], guard := none },
  { dst := some 14, op := .len 0 (.tmp 13), after := [1], guard := none },
  { dst := some 15, op := .bin .lss (.tmp 12) (.tmp 14), after := [0, 2], guard := none }]
def F27r6 : List ROp := [{ dst := some 16, op := .copy false (.tmp 4), after := [], guard := none },
  { dst := some 17, op := .bin .add (.tmp 16) (.const (.int .i64 1)), after := [0], guard := none },
  { dst := some 4, op := .copy true (.tmp 17), after := [1, 0, 1], guard := none }]
def F27r7 : List ROp := [{ dst := some 18, op := .copy false (.tmp 3), after := [], guard := none },
  { dst := some 19, op := .copy false (.tmp 0), after := [], guard := none },
  { dst := some 20, op := .copy false (.tmp 4), after := [], guard := none },
  { dst := some 21, op := .iad 1 (.tmp 19) (.tmp 20), after := [1, 2], guard := none },
  { dst := some 22, op := .load 1 false false (.tmp 21), after := [3], guard := none },
  { dst := some 23, op := .mm true (.tmp 18) (.tmp 22), after := [0, 4], guard := none },
  { dst := some 3, op := .copy true (.tmp 23), after := [5, 0, 1, 2, 3, 4, 5], guard := none }]
def F27r8 : List ROp := [{ dst := some 24, op := .copy true (.tmp 3), after := [], guard := none },
  { dst := some 2, op := .copy true (.tmp 24), after := [0, 0], guard := none }]
-- function 14: corollary/strata.Make: 191 slots; results ['(Go.ResultVar.cell 2 42)', '(Go.ResultVar.cell 3 32)', '(Go.ResultVar.tmp 4)']
def F14r0 : List ROp := [{ dst := some 1, op := .box 28 (.tmp 0), after := [], guard := none },
  { dst := some 2, op := .alloc 42 [Value.slice none 0 0, Value.slice none 0 0, Value.slice none 0 0], after := [], guard := none },
  { dst := some 3, op := .alloc 32 [Value.int .i64 0, Value.int .i64 0], after := [], guard := none },
  { dst := some 4, op := .copy true (.const (.int .i64 0)), after := [], guard := none }]
def F14r1 : List ROp := [{ dst := some 26, op := .load 6 true false (.tmp 1), after := [], guard := none },
  { dst := some 27, op := .call (.func 24) [.tmp 26], after := [0], guard := none },
  { dst := some 25, op := .copy false (.tmp 27), after := [1], guard := none },
  { dst := some 28, op := .ext (.tmp 25) 0, after := [2], guard := none },
  { dst := some 29, op := .ext (.tmp 25) 1, after := [2], guard := none },
  { dst := some 30, op := .ext (.tmp 25) 2, after := [2], guard := none },
  { dst := some 5, op := .alloc 72 [Value.int .i64 0, Value.slice none 0 0, Value.slice none 0 0], after := [], guard := none },
  { dst := some 6, op := .alloc 32 [Value.int .i64 0, Value.int .i64 0], after := [], guard := none },
  { dst := none, op := .store 3 true (.tmp 5) (.tmp 28), after := [6, 3, 1, 0, 1, 2, 3, 6, 7], guard := none },
  { dst := none, op := .store 2 true (.tmp 6) (.tmp 29), after := [7, 4, 8, 0, 1, 2, 3, 4, 6, 7, 8], guard := none },
  { dst := some 7, op := .copy true (.tmp 30), after := [5, 9, 0, 1, 2, 3, 4, 5, 6, 7, 8, 9], guard := none }]
def F14r2 : List ROp := [{ dst := some 31, op := .copy false (.tmp 7), after := [], guard := none },
  { dst := some 32, op := .bin .neq (.tmp 31) (.const (.int .i64 0)), after := [0], guard := none }]
def F14r3 : List ROp := [{ dst := some 33, op := .build [Value.slice none 0 0, Value.slice none 0 0, Value.slice none 0 0] [], after := [], guard := none },
  { dst := some 34, op := .load 2 true false (.tmp 6), after := [], guard := none },
  { dst := some 35, op := .copy true (.tmp 7), after := [], guard := none },
  { dst := none, op := .store 3 true (.tmp 2) (.tmp 33), after := [0, 0], guard := none },
  { dst := none, op := .store 2 true (.tmp 3) (.tmp 34), after := [1, 3, 0, 1, 3], guard := none },
  { dst := some 4, op := .copy true (.tmp 35), after := [2, 4, 0, 1, 2, 3, 4], guard := none }]
def F14r4 : List ROp := [{ dst := some 36, op := .load 3 true false (.tmp 5), after := [], guard := none },
  { dst := some 37, op := .call (.func 25) [.tmp 36], after := [0], guard := none },
  { dst := some 8, op := .copy true (.tmp 37), after := [1, 1, 0, 1], guard := none }]
def F14r5 : List ROp := [{ dst := some 38, op := .fad 1 (.tmp 5), after := [], guard := none },
  { dst := some 39, op := .load 1 false false (.tmp 38), after := [0], guard := none },
  { dst := some 40, op := .len 0 (.tmp 39), after := [1], guard := none },
  { dst := some 41, op := .copy false (.const (.int .i64 0)), after := [], guard := none }]
def F14r6 : List ROp := [{ dst := some 42, op := .bin .lss (.tmp 41) (.tmp 40), after := [], guard := none }]
def F14r7 : List ROp := [{ dst := some 43, op := .copy true (.tmp 41), after := [], guard := none },
  { dst := some 44, op := .iad 1 (.tmp 39) (.tmp 41), after := [], guard := none },
  { dst := some 45, op := .load 1 false false (.tmp 44), after := [1], guard := none },
  { dst := some 9, op := .copy true (.tmp 43), after := [0, 0, 1, 2], guard := none },
  { dst := some 10, op := .copy true (.tmp 45), after := [2, 3, 0, 1, 2, 3], guard := none }]
def F14r8 : List ROp := [{ dst := some 46, op := .fad 2 (.tmp 5), after := [], guard := none },
  { dst := some 47, op := .load 1 false false (.tmp 46), after := [0], guard := none },
  { dst := some 48, op := .copy false (.tmp 9), after := [], guard := none },
  { dst := some 49, op := .iad 1 (.tmp 47) (.tmp 48), after := [1, 2], guard := none },
  { dst := some 50, op := .load 1 false false (.tmp 49), after := [3], guard := none },
  { dst := some 51, op := .len 0 (.tmp 50), after := [4], guard := none },
  { dst := some 52, op := .copy false (.const (.int .i64 0)), after := [], guard := none }]
def F14r9 : List ROp := [{ dst := some 53, op := .bin .lss (.tmp 52) (.tmp 51), after := [], guard := none }]
def F14r10 : List ROp := [{ dst := some 54, op := .iad 4 (.tmp 50) (.tmp 52), after := [], guard := none },
  { dst := some 55, op := .load 4 true false (.tmp 54), after := [0], guard := none },
  { dst := some 12, op := .alloc 80 [Value.int .i64 0, Value.bool false, Value.int .i64 0, Value.int .i64 0], after := [], guard := none },
  { dst := none, op := .store 4 true (.tmp 12) (.tmp 55), after := [2, 1, 0, 1, 2], guard := none }]
def F14r11 : List ROp := [{ dst := some 56, op := .fad 1 (.tmp 12), after := [], guard := none },
  { dst := some 57, op := .load 1 false false (.tmp 56), after := [0], guard := none },
  { dst := some 58, op := .copy false (.tmp 57), after := [1], guard := none },
  { dst := some 59, op := .fad 0 (.tmp 12), after := [2], guard := some (58, true) },
  { dst := some 60, op := .load 1 false false (.tmp 59), after := [3, 2], guard := some (58, true) },
  { dst := some 61, op := .copy false (.tmp 10), after := [2], guard := some (58, true) },
  { dst := some 62, op := .bin .eql (.tmp 60) (.tmp 61), after := [4, 5, 2], guard := some (58, true) },
  { dst := some 63, op := .copy false (.tmp 62), after := [6, 2, 2], guard := some (58, true) },
  { dst := some 64, op := .copy false (.tmp 8), after := [7], guard := some (63, false) },
  { dst := some 65, op := .fad 0 (.tmp 12), after := [7], guard := some (63, false) },
  { dst := some 66, op := .load 1 false false (.tmp 65), after := [9, 7], guard := some (63, false) },
  { dst := some 67, op := .iad 1 (.tmp 64) (.tmp 66), after := [8, 10, 7], guard := some (63, false) },
  { dst := some 68, op := .load 1 false false (.tmp 67), after := [11, 7], guard := some (63, false) },
  { dst := some 69, op := .copy false (.tmp 10), after := [7], guard := some (63, false) },
  { dst := some 70, op := .iad 1 (.tmp 68) (.tmp 69), after := [12, 13, 7], guard := some (63, false) },
  { dst := some 71, op := .load 1 false false (.tmp 70), after := [14, 7], guard := some (63, false) },
  { dst := some 72, op := .pick (.tmp 63) (.const (.bool true)) (.tmp 71), after := [7, 15, 2], guard := some (58, true) },
  { dst := some 73, op := .pick (.tmp 58) (.tmp 72) (.const (.bool false)), after := [2, 16], guard := none }]
def F14r12 : List ROp := [{ dst := some 74, op := .build [Value.slice none 0 0, Value.slice none 0 0, Value.slice none 0 0] [], after := [], guard := none },
  { dst := some 75, op := .fad 2 (.tmp 12), after := [], guard := none },
  { dst := some 76, op := .load 2 true false (.tmp 75), after := [1], guard := none },
  { dst := none, op := .store 3 true (.tmp 2) (.tmp 74), after := [0, 0], guard := none },
  { dst := none, op := .store 2 true (.tmp 3) (.tmp 76), after := [2, 3, 0, 1, 2, 3], guard := none },
  { dst := some 4, op := .copy true (.const (.int .i64 73)), after := [4, 0, 1, 2, 3, 4], guard := none }]
def F14r13 : List ROp := [{ dst := some 77, op := .bin .add (.tmp 52) (.const (.int .i64 1)), after := [], guard := none },
  { dst := some 52, op := .copy false (.tmp 77), after := [0], guard := none }]
def F14r14 : List ROp := [{ dst := some 78, op := .bin .add (.tmp 41) (.const (.int .i64 1)), after := [], guard := none },
  { dst := some 41, op := .copy false (.tmp 78), after := [0], guard := none }]
def F14r15 : List ROp := [{ dst := some 79, op := .fad 0 (.tmp 5), after := [], guard := none },
  { dst := some 80, op := .load 1 false false (.tmp 79), after := [0], guard := none },
  { dst := some 81, op := .mksl 3 1 8 [Value.int .i64 0] (.tmp 80) (.tmp 80), after := [1, 1], guard := none },
  { dst := some 82, op := .build [Value.slice none 0 0, Value.slice none 0 0, Value.slice none 0 0] [(0, 1, .tmp 81)], after := [2], guard := none },
  { dst := some 13, op := .alloc 42 [Value.slice none 0 0, Value.slice none 0 0, Value.slice none 0 0], after := [], guard := none },
  { dst := none, op := .store 3 true (.tmp 13) (.tmp 82), after := [4, 3, 0, 1, 2, 3, 4], guard := none }]
def F14r16 : List ROp := [{ dst := some 14, op := .copy true (.const (.bool true)), after := [], guard := none }]
def F14r17 : List ROp := [{ dst := some 83, op := .copy false (.tmp 14), after := [], guard := none }]
def F14r18 : List ROp := [{ dst := some 14, op := .copy true (.const (.bool false)), after := [], guard := none }]
def F14r19 : List ROp := [{ dst := some 84, op := .fad 1 (.tmp 5), after := [], guard := none },
  { dst := some 85, op := .load 1 false false (.tmp 84), after := [0], guard := none },
  { dst := some 86, op := .len 0 (.tmp 85), after := [1], guard := none },
  { dst := some 87, op := .copy false (.const (.int .i64 0)), after := [], guard := none }]
def F14r20 : List ROp := [{ dst := some 88, op := .bin .lss (.tmp 87) (.tmp 86), after := [], guard := none }]
def F14r21 : List ROp := [{ dst := some 89, op := .copy true (.tmp 87), after := [], guard := none },
  { dst := some 90, op := .iad 1 (.tmp 85) (.tmp 87), after := [], guard := none },
  { dst := some 91, op := .load 1 false false (.tmp 90), after := [1], guard := none },
  { dst := some 15, op := .copy true (.tmp 89), after := [0, 0, 1, 2], guard := none },
  { dst := some 16, op := .copy true (.tmp 91), after := [2, 3, 0, 1, 2, 3], guard := none }]
def F14r22 : List ROp := [{ dst := some 92, op := .fad 2 (.tmp 5), after := [], guard := none },
  { dst := some 93, op := .load 1 false false (.tmp 92), after := [0], guard := none },
  { dst := some 94, op := .copy false (.tmp 15), after := [], guard := none },
  { dst := some 95, op := .iad 1 (.tmp 93) (.tmp 94), after := [1, 2], guard := none },
  { dst := some 96, op := .load 1 false false (.tmp 95), after := [3], guard := none },
  { dst := some 97, op := .len 0 (.tmp 96), after := [4], guard := none },
  { dst := some 98, op := .copy false (.const (.int .i64 0)), after := [], guard := none }]
def F14r23 : List ROp := [{ dst := some 99, op := .bin .lss (.tmp 98) (.tmp 97), after := [], guard := none }]
def F14r24 : List ROp := [{ dst := some 100, op := .iad 4 (.tmp 96) (.tmp 98), after := [], guard := none },
  { dst := some 101, op := .load 4 true false (.tmp 100), after := [0], guard := none },
  { dst := some 18, op := .alloc 80 [Value.int .i64 0, Value.bool false, Value.int .i64 0, Value.int .i64 0], after := [], guard := none },
  { dst := none, op := .store 4 true (.tmp 18) (.tmp 101), after := [2, 1, 0, 1, 2], guard := none }]
def F14r25 : List ROp := [{ dst := some 102, op := .fad 0 (.tmp 13), after := [], guard := none },
  { dst := some 103, op := .load 1 false false (.tmp 102), after := [0], guard := none },
  { dst := some 104, op := .fad 0 (.tmp 18), after := [], guard := none },
  { dst := some 105, op := .load 1 false false (.tmp 104), after := [2], guard := none },
  { dst := some 106, op := .iad 1 (.tmp 103) (.tmp 105), after := [1, 3], guard := none },
  { dst := some 107, op := .load 1 false false (.tmp 106), after := [4], guard := none },
  { dst := some 19, op := .copy true (.tmp 107), after := [5, 0, 1, 2, 3, 4, 5], guard := none }]
def F14r26 : List ROp := [{ dst := some 108, op := .fad 1 (.tmp 18), after := [], guard := none },
  { dst := some 109, op := .load 1 false false (.tmp 108), after := [0], guard := none }]
def F14r27 : List ROp := [{ dst := some 110, op := .copy false (.tmp 19), after := [], guard := none },
  { dst := some 111, op := .bin .add (.tmp 110) (.const (.int .i64 1)), after := [0], guard := none },
  { dst := some 19, op := .copy true (.tmp 111), after := [1, 0, 1], guard := none }]
def F14r28 : List ROp := [{ dst := some 112, op := .fad 0 (.tmp 13), after := [], guard := none },
  { dst := some 113, op := .load 1 false false (.tmp 112), after := [0], guard := none },
  { dst := some 114, op := .copy false (.tmp 16), after := [], guard := none },
  { dst := some 115, op := .iad 1 (.tmp 113) (.tmp 114), after := [1, 2], guard := none },
  { dst := some 116, op := .load 1 false false (.tmp 115), after := [3], guard := none },
  { dst := some 117, op := .copy false (.tmp 19), after := [], guard := none },
  { dst := some 118, op := .bin .lss (.tmp 116) (.tmp 117), after := [4, 5], guard := none }]
def F14r29 : List ROp := [{ dst := some 119, op := .fad 0 (.tmp 13), after := [], guard := none },
  { dst := some 120, op := .load 1 false false (.tmp 119), after := [0], guard := none },
  { dst := some 121, op := .copy false (.tmp 16), after := [], guard := none },
  { dst := some 122, op := .copy true (.tmp 19), after := [], guard := none },
  { dst := some 123, op := .iad 1 (.tmp 120) (.tmp 121), after := [1, 2, 0, 1, 2, 3], guard := none },
  { dst := none, op := .store 1 true (.tmp 123) (.tmp 122), after := [4, 3, 0, 1, 2, 3], guard := none }]
def F14r30 : List ROp := [{ dst := some 14, op := .copy true (.const (.bool true)), after := [], guard := none }]
def F14r31 : List ROp := [{ dst := some 124, op := .bin .add (.tmp 98) (.const (.int .i64 1)), after := [], guard := none },
  { dst := some 98, op := .copy false (.tmp 124), after := [0], guard := none }]
def F14r32 : List ROp := [{ dst := some 125, op := .bin .add (.tmp 87) (.const (.int .i64 1)), after := [], guard := none },
  { dst := some 87, op := .copy false (.tmp 125), after := [0], guard := none }]
def F14r33 : List ROp := [{ dst := some 126, op := .fad 0 (.tmp 5), after := [], guard := none },
  { dst := some 127, op := .load 1 false false (.tmp 126), after := [0], guard := none },
  { dst := some 128, op := .bin .gtr (.tmp 127) (.const (.int .i64 0)), after := [1], guard := none }]
def F14r34 : List ROp := [{ dst := some 129, op := .fad 0 (.tmp 13), after := [], guard := none },
  { dst := some 130, op := .load 1 false false (.tmp 129), after := [0], guard := none },
  { dst := some 131, op := .call (.func 27) [.tmp 130], after := [1], guard := none },
  { dst := some 132, op := .bin .add (.tmp 131) (.const (.int .i64 1)), after := [2], guard := none },
  { dst := some 20, op := .copy true (.tmp 132), after := [3, 2, 0, 1, 2, 3], guard := none }]
def F14r35 : List ROp := [{ dst := some 133, op := .copy false (.tmp 20), after := [], guard := none },
  { dst := some 134, op := .mksl 37 1 24 [Value.slice none 0 0] (.tmp 133) (.tmp 133), after := [0, 0], guard := none },
  { dst := some 135, op := .copy false (.tmp 20), after := [], guard := none },
  { dst := some 136, op := .mksl 37 1 24 [Value.slice none 0 0] (.tmp 135) (.tmp 135), after := [2, 2], guard := none },
  { dst := some 137, op := .fad 1 (.tmp 13), after := [0, 1], guard := none },
  { dst := none, op := .store 1 true (.tmp 137) (.tmp 134), after := [4, 1, 0, 1], guard := none },
  { dst := some 138, op := .fad 2 (.tmp 13), after := [0, 1, 2, 3, 4, 5], guard := none },
  { dst := none, op := .store 1 true (.tmp 138) (.tmp 136), after := [6, 3, 5, 0, 1, 2, 3, 4, 5], guard := none }]
def F14r36 : List ROp := [{ dst := some 139, op := .fad 0 (.tmp 13), after := [], guard := none },
  { dst := some 140, op := .load 1 false false (.tmp 139), after := [0], guard := none },
  { dst := some 141, op := .len 0 (.tmp 140), after := [1], guard := none },
  { dst := some 142, op := .copy false (.const (.int .i64 0)), after := [], guard := none }]
def F14r37 : List ROp := [{ dst := some 143, op := .bin .lss (.tmp 142) (.tmp 141), after := [], guard := none }]
def F14r38 : List ROp := [{ dst := some 144, op := .copy true (.tmp 142), after := [], guard := none },
  { dst := some 145, op := .iad 1 (.tmp 140) (.tmp 142), after := [], guard := none },
  { dst := some 146, op := .load 1 false false (.tmp 145), after := [1], guard := none },
  { dst := some 21, op := .copy true (.tmp 144), after := [0, 0, 1, 2], guard := none },
  { dst := some 22, op := .copy true (.tmp 146), after := [2, 3, 0, 1, 2, 3], guard := none }]
def F14r39 : List ROp := [{ dst := some 147, op := .fad 1 (.tmp 13), after := [], guard := none },
  { dst := some 148, op := .load 1 false false (.tmp 147), after := [0], guard := none },
  { dst := some 149, op := .copy false (.tmp 22), after := [], guard := none },
  { dst := some 150, op := .fad 1 (.tmp 13), after := [], guard := none },
  { dst := some 151, op := .load 1 false false (.tmp 150), after := [3], guard := none },
  { dst := some 152, op := .copy false (.tmp 22), after := [], guard := none },
  { dst := some 153, op := .iad 1 (.tmp 151) (.tmp 152), after := [4, 5], guard := none },
  { dst := some 154, op := .load 1 false true (.tmp 153), after := [6], guard := none },
  { dst := some 155, op := .copy false (.tmp 21), after := [], guard := none },
  { dst := some 156, op := .bslice 3 1 [Value.int .i64 0] 1 [(0, .tmp 155)], after := [8], guard := none },
  { dst := some 157, op := .app 3 1 8 (.tmp 154) (.tmp 156), after := [7, 9], guard := none },
  { dst := some 158, op := .iad 1 (.tmp 148) (.tmp 149), after := [1, 2, 0, 1, 2, 3, 4, 5, 6, 7, 8, 9, 10], guard := none },
  { dst := none, op := .store 1 true (.tmp 158) (.tmp 157), after := [11, 10, 10, 0, 1, 2, 3, 4, 5, 6, 7, 8, 9, 10], guard := none }]
def F14r40 : List ROp := [{ dst := some 159, op := .bin .add (.tmp 142) (.const (.int .i64 1)), after := [], guard := none },
  { dst := some 142, op := .copy false (.tmp 159), after := [0], guard := none }]
def F14r41 : List ROp := [{ dst := some 160, op := .fad 1 (.tmp 5), after := [], guard := none },
  { dst := some 161, op := .load 1 false false (.tmp 160), after := [0], guard := none },
  { dst := some 162, op := .len 0 (.tmp 161), after := [1], guard := none },
  { dst := some 163, op := .copy false (.const (.int .i64 0)), after := [], guard := none }]
def F14r42 : List ROp := [{ dst := some 164, op := .bin .lss (.tmp 163) (.tmp 162), after := [], guard := none }]
def F14r43 : List ROp := [{ dst := some 165, op := .copy true (.tmp 163), after := [], guard := none },
  { dst := some 166, op := .iad 1 (.tmp 161) (.tmp 163), after := [], guard := none },
  { dst := some 167, op := .load 1 false false (.tmp 166), after := [1], guard := none },
  { dst := some 23, op := .copy true (.tmp 165), after := [0, 0, 1, 2], guard := none },
  { dst := some 24, op := .copy true (.tmp 167), after := [2, 3, 0, 1, 2, 3], guard := none }]
def F14r44 : List ROp := [{ dst := some 168, op := .fad 2 (.tmp 13), after := [], guard := none },
  { dst := some 169, op := .load 1 false false (.tmp 168), after := [0], guard := none },
  { dst := some 170, op := .fad 0 (.tmp 13), after := [], guard := none },
  { dst := some 171, op := .load 1 false false (.tmp 170), after := [2], guard := none },
  { dst := some 172, op := .copy false (.tmp 24), after := [], guard := none },
  { dst := some 173, op := .iad 1 (.tmp 171) (.tmp 172), after := [3, 4], guard := none },
  { dst := some 174, op := .load 1 false false (.tmp 173), after := [5], guard := none },
  { dst := some 175, op := .fad 2 (.tmp 13), after := [], guard := none },
  { dst := some 176, op := .load 1 false false (.tmp 175), after := [7], guard := none },
  { dst := some 177, op := .fad 0 (.tmp 13), after := [], guard := none },
  { dst := some 178, op := .load 1 false false (.tmp 177), after := [9], guard := none },
  { dst := some 179, op := .copy false (.tmp 24), after := [], guard := none },
  { dst := some 180, op := .iad 1 (.tmp 178) (.tmp 179), after := [10, 11], guard := none },
  { dst := some 181, op := .load 1 false false (.tmp 180), after := [12], guard := none },
  { dst := some 182, op := .iad 1 (.tmp 176) (.tmp 181), after := [8, 13], guard := none },
  { dst := some 183, op := .load 1 false true (.tmp 182), after := [14], guard := none },
  { dst := some 184, op := .copy false (.tmp 23), after := [], guard := none },
  { dst := some 185, op := .bslice 3 1 [Value.int .i64 0] 1 [(0, .tmp 184)], after := [16], guard := none },
  { dst := some 186, op := .app 3 1 8 (.tmp 183) (.tmp 185), after := [15, 17], guard := none },
  { dst := some 187, op := .iad 1 (.tmp 169) (.tmp 174), after := [1, 6, 0, 1, 2, 3, 4, 5, 6, 7, 8, 9, 10, 11, 12, 13, 14, 15, 16, 17, 18], guard := none },
  { dst := none, op := .store 1 true (.tmp 187) (.tmp 186), after := [19, 18, 18, 0, 1, 2, 3, 4, 5, 6, 7, 8, 9, 10, 11, 12, 13, 14, 15, 16, 17, 18], guard := none }]
def F14r45 : List ROp := [{ dst := some 188, op := .bin .add (.tmp 163) (.const (.int .i64 1)), after := [], guard := none },
  { dst := some 163, op := .copy false (.tmp 188), after := [0], guard := none }]
def F14r46 : List ROp := [{ dst := some 189, op := .load 3 true false (.tmp 13), after := [], guard := none },
  { dst := some 190, op := .build [Value.int .i64 0, Value.int .i64 0] [], after := [], guard := none },
  { dst := none, op := .store 3 true (.tmp 2) (.tmp 189), after := [0, 0], guard := none },
  { dst := none, op := .store 2 true (.tmp 3) (.tmp 190), after := [1, 2, 0, 1, 2], guard := none },
  { dst := some 4, op := .copy true (.const (.int .i64 0)), after := [3, 0, 1, 2, 3], guard := none }]
def st27 (l : List Nat) (m k : Nat) : AS := { tm := [(0, encInts l), (3, ival m), (4, ival k)], hp := [] }
theorem foldl_max_take (l : List Nat) (x : Nat) (k : Nat) (h : k < l.length) : (l.take (k + 1)).foldl max x = max ((l.take k).foldl max x) l[k] := by
  rw [List.take_add_one, List.getElem?_eq_getElem h, List.foldl_append]; rfl
theorem Max_ok (x : Nat) (l : List Nat) (hl : l.length ≤ 1048576) : Con Try.prog 27 [encInts (x :: l)] (ival (maxN (x :: l))) := by
  refine Con.of_code Try.func27 (by kernel_rfl) rfl (by simp [Try.ntmps27]) fun C hC hM => ?_
  refine AWp.seq ?_
  refine AWp.reg [true] F27r0 [] (by kernel_rfl) (by rw [hC]; rfl) fun K hK => ?_
  simp [F27r0]
  first | refine hK _ ?_ | refine ⟨by omega, hK _ ?_⟩ | refine ⟨by omega, by omega, hK _ ?_⟩ | refine ⟨by omega, by omega, by omega, hK _ ?_⟩ | refine ⟨by omega, by omega, by omega, by omega, hK _ ?_⟩
  refine AWp.seq ?_
  refine AWp.seq ?_
  refine AWp.reg [] F27r1 [] (by kernel_rfl) (by rw [hC]; rfl) fun K hK => ?_
  simp [F27r1]
  first | refine hK _ ?_ | refine ⟨by omega, hK _ ?_⟩ | refine ⟨by omega, by omega, hK _ ?_⟩ | refine ⟨by omega, by omega, by omega, hK _ ?_⟩ | refine ⟨by omega, by omega, by omega, by omega, hK _ ?_⟩
  refine AWp.cond false (by simp [(by omega : (1 : Int) ≤ (l.length : Int) + 1)]) (fun he => by cases he) (fun _ => ?_)
  refine AWp.skip ?_
  refine AWp.seq ?_
  refine AWp.reg [false, false, false, true] F27r3 [] (by kernel_rfl) (by rw [hC]; rfl) fun K hK => ?_
  simp [F27r3]
  first | refine hK _ ?_ | refine ⟨by omega, hK _ ?_⟩ | refine ⟨by omega, by omega, hK _ ?_⟩ | refine ⟨by omega, by omega, by omega, hK _ ?_⟩ | refine ⟨by omega, by omega, by omega, by omega, hK _ ?_⟩
  refine AWp.seq ?_
  refine AWp.seq ?_
  refine AWp.reg [true] F27r4 [] (by kernel_rfl) (by rw [hC]; rfl) fun K hK => ?_
  simp [F27r4]
  first | refine hK _ ?_ | refine ⟨by omega, hK _ ?_⟩ | refine ⟨by omega, by omega, hK _ ?_⟩ | refine ⟨by omega, by omega, by omega, hK _ ?_⟩ | refine ⟨by omega, by omega, by omega, by omega, hK _ ?_⟩
  refine AWp.block ?_
  refine AWp.loopG (fun k => st27 (x :: l) ((l.take k).foldl max x) (k + 1)) (fun k => k ≤ l.length) (fun k => l.length - k) 0 (by simp) (by simp [st27]) (fun k hk => ?_)
  refine AWp.seq ?_
  refine AWp.seq ?_
  refine AWp.reg [] F27r5 [] (by kernel_rfl) (by rw [hC]; rfl) fun K hK => ?_
  simp [F27r5, st27]
  first | refine hK _ ?_ | refine ⟨by omega, hK _ ?_⟩ | refine ⟨by omega, by omega, hK _ ?_⟩ | refine ⟨by omega, by omega, by omega, hK _ ?_⟩ | refine ⟨by omega, by omega, by omega, by omega, hK _ ?_⟩
  refine AWp.cond (decide (k < l.length)) (by simp) (fun hlt => ?_) (fun hge => ?_)
  · skip
    have hlt : k < l.length := by simpa using hlt
    have ht := foldl_max_take l x k hlt
    refine AWp.skip ?_
    refine AWp.seq ?_
    refine AWp.block ?_
    refine AWp.reg [false, false, false, false, false, false, true] F27r7 [] (by kernel_rfl) (by rw [hC]; rfl) fun K hK => ?_
    simp [F27r7, hlt]
    first | refine hK _ ?_ | refine ⟨by omega, hK _ ?_⟩ | refine ⟨by omega, by omega, hK _ ?_⟩ | refine ⟨by omega, by omega, by omega, hK _ ?_⟩ | refine ⟨by omega, by omega, by omega, by omega, hK _ ?_⟩
    refine AWp.reg [false, false, true] F27r6 [] (by kernel_rfl) (by rw [hC]; rfl) fun K hK => ?_
    simp [F27r6, hlt]
    first | refine hK _ ?_ | refine ⟨by omega, hK _ ?_⟩ | refine ⟨by omega, by omega, hK _ ?_⟩ | refine ⟨by omega, by omega, by omega, hK _ ?_⟩ | refine ⟨by omega, by omega, by omega, by omega, hK _ ?_⟩
    refine ⟨k + 1, by omega, by omega, ?_⟩
    have hm : ∀ a b : Nat, (if a < b then (b : Int) else (a : Int)) = ((max a b : Nat) : Int) := fun a b => by split <;> omega
    have hw := wrap_nat (k + 1) (by omega)
    simp at hw
    simp [st27, ht, hm, hw]
  have hge : ¬ k < l.length := by simpa using hge
  refine AWp.exit ?_
  refine AWp.seq ?_
  refine AWp.reg [true, true] F27r8 [] (by kernel_rfl) (by rw [hC]; rfl) fun K hK => ?_
  simp [F27r8]
  first | refine hK _ ?_ | refine ⟨by omega, hK _ ?_⟩ | refine ⟨by omega, by omega, hK _ ?_⟩ | refine ⟨by omega, by omega, by omega, hK _ ?_⟩ | refine ⟨by omega, by omega, by omega, by omega, hK _ ?_⟩
  repeat refine AWp.seq ?_
  refine AWp.ret ⟨.inr rfl, _, by simp [Try.results27] <;> rfl, ?_⟩
  rw [List.take_of_length_le (by omega)]
  exact .closed rfl

@[simp] theorem ag42 : isAggT Try.prog 42 = some true := by kernel_rfl
@[simp] theorem sz42 : szOf Try.prog 42 = some 3 := by kernel_rfl
def encStrata (s : StrataD) : AV := .agg [encInts s.of, encRows s.rels, encRows s.rules]
def encMakeR (r : StrataD × PosE) : AV := .tup [encStrata r.1, encPos r.2.1, ival r.2.2]
theorem RsvL.mapO {g : Nat → Option Blk} : ∀ (l : List (List Nat)), RsvL g (l.map encO) (l.map encInts)
  | [] => .nil
  | _ :: l => .cons .own (RsvL.mapO l)
/-- a slice of lists of numbers, of the function's own -/
theorem Rsv.vecO {g : Nat → Option Blk} {b n : Nat} {e : TypeId} {l : List (List Nat)} (h : g b = some (.cells e (l.map encO))) (hl : l.length = n) : Rsv g (.vec b 1 0 n n) (encRows l) := by
  subst hl
  have := Rsv.vec (w := 1) (off := 0) (n := l.length) (cap := l.length) h (RsvL.mapO l) (by simp) (Nat.le_refl _)
  rw [List.drop_zero] at this
  have h2 := chunk_one (l.map encInts)
  simp only [List.length_map] at h2
  rw [h2] at this
  simpa [encRows, Function.comp_def] using this
theorem Rsv.vecI {g : Nat → Option Blk} {b n : Nat} {e : TypeId} {l : List Nat} (h : g b = some (.cells e (l.map fun (x : Nat) => ival x))) (hl : l.length = n) : Rsv g (.vec b 1 0 n n) (encInts l) := by
  have := Rsv.vec1 (g := g) (b := b) (n := n) (e := e) h (by simp) (by simpa using hl)
  simpa [encInts, ints, Function.comp_def] using this
def okCells : List AV := [ival 0, ival 0]
attribute [simp] okCells
noncomputable def rowsB (g : Graph) : AV := .rd 1 ((List.range g.n).map fun i => [.rd 1 (boolRows (reachRow (nextOf g) g.n i))])
/-- the first part: is it refused? -/
noncomputable def st14a (g : Graph) (k : Nat) (ts : List (Nat × AV)) : AS := { tm := [(2, .ptr 2 0), (3, .ptr 3 0), (5, .ptr 5 0), (8, rowsB g), (39, encInts g.heads), (40, ival g.heads.length), (41, ival k)] ++ ts, hp := [(2, .cells 42 [.val (.slice none 0 0), .val (.slice none 0 0), .val (.slice none 0 0)]), (3, .cells 32 okCells), (5, .cells 72 (gcells g))] }
def cellsI (l : List Nat) : List AV := l.map fun (x : Nat) => ival x
@[simp] theorem cellsI_within (ids : List Nat) (l : List Nat) : withinL ids (cellsI l) = true := by simp [cellsI]
@[simp] theorem cellsI_len (l : List Nat) : (cellsI l).length = l.length := by simp [cellsI]
theorem cellsI_at {l : List Nat} {i : Nat} (h : i < l.length) : (cellsI l)[i]? = some (.val (.int .i64 (fn l i : Nat))) := by simp [cellsI, fn, h]
theorem cellsI_set {l : List Nat} {i : Nat} {v : Nat} : (cellsI l).set i (.val (.int .i64 (v : Int))) = cellsI (l.set i v) := by simp [cellsI]
/-- the second: the numbers -/
def st14b (g : Graph) (of : List Nat) (ts : List (Nat × AV)) : AS := { tm := [(2, .ptr 2 0), (3, .ptr 3 0), (5, .ptr 5 0), (13, .ptr 13 0)] ++ ts, hp := [(2, .cells 42 [.val (.slice none 0 0), .val (.slice none 0 0), .val (.slice none 0 0)]), (3, .cells 32 okCells), (5, .cells 72 (gcells g)), (13, .cells 42 [.vec 81 1 0 g.n g.n, .val (.slice none 0 0), .val (.slice none 0 0)]), (81, .cells 3 (cellsI of))] }
/-- the third: by their numbers -/
def st14c (g : Graph) (of : List Nat) (rels rules : List (List Nat)) (ts : List (Nat × AV)) : AS := { tm := [(2, .ptr 2 0), (3, .ptr 3 0), (5, .ptr 5 0), (13, .ptr 13 0)] ++ ts, hp := [(2, .cells 42 [.val (.slice none 0 0), .val (.slice none 0 0), .val (.slice none 0 0)]), (3, .cells 32 okCells), (5, .cells 72 (gcells g)), (13, .cells 42 [.vec 81 1 0 g.n g.n, .vec 134 1 0 rels.length rels.length, .vec 136 1 0 rules.length rules.length]), (81, .cells 3 (cellsI of)), (134, .cells 37 (rels.map encO)), (136, .cells 37 (rules.map encO))] }
set_option maxHeartbeats 4000000 in
theorem Make_ok (m : MMod) (hm : m.ok) (hs : Small m) : Con Try.prog 14 [encMod m] (encMakeR (progMake m)) := by
  have hrd := read_ok m hm
  refine Con.of_code Try.func14 (by kernel_rfl) rfl (by simp [Try.ntmps14]) fun C hC hM => ?_
  by_cases he : (checkE m).2 = 0
  · have hre : readE m = (graphOf m, okE) := by simp [readE, he]
    have hgd := Check_good hs.rels he
    have hg := graph_ok hgd hs
    have hro := rests_ok (graphOf m) hg
    have hpm : progMake m = makeOf (graphOf m) := by simp only [progMake, he, if_true]
    rw [hre] at hrd
    rw [hpm]
    generalize graphOf m = g at *
    have hn := hg.n
    have hl := hg.len
    have hr := hg.rules
    have hpl := pairs_len hg
    refine AWp.seq ?_
    refine AWp.reg [false, false, false, true] F14r0 [] (by kernel_rfl) (by rw [hC]; rfl) fun K hK => ?_
    simp [F14r0]
    first | refine hK _ ?_ | refine ⟨by omega, hK _ ?_⟩ | refine ⟨by omega, by omega, hK _ ?_⟩ | refine ⟨by omega, by omega, by omega, hK _ ?_⟩ | refine ⟨by omega, by omega, by omega, by omega, hK _ ?_⟩
    refine AWp.seq ?_
    refine AWp.reg [false, false, false, false, false, false, false, false, true, true, true] F14r1 [{ r := encRead (g, okE) }] (by kernel_rfl) (by rw [hC]; rfl) fun K hK => ?_
    simp [F14r1, encRead, okE]
    refine ⟨callOK rfl hrd, hK _ ?_⟩
    refine AWp.seq ?_
    refine AWp.seq ?_
    refine AWp.reg [] F14r2 [] (by kernel_rfl) (by rw [hC]; rfl) fun K hK => ?_
    simp [F14r2]
    first | refine hK _ ?_ | refine ⟨by omega, hK _ ?_⟩ | refine ⟨by omega, by omega, hK _ ?_⟩ | refine ⟨by omega, by omega, by omega, hK _ ?_⟩ | refine ⟨by omega, by omega, by omega, by omega, hK _ ?_⟩
    refine AWp.cond false (by simp) (fun he => by cases he) (fun _ => ?_)
    refine AWp.skip ?_
    refine AWp.seq ?_
    refine AWp.reg [false, false, true] F14r4 [{ r := rowsB g }] (by kernel_rfl) (by rw [hC]; rfl) fun K hK => ?_
    simp [F14r4, rowsB]
    refine ⟨callOK rfl hro, hK _ ?_⟩
    refine AWp.seqJ (fun (_ : Unit) => { tm := [(2, .ptr 2 0), (3, .ptr 3 0), (5, .ptr 5 0)], hp := [(2, .cells 42 [.val (.slice none 0 0), .val (.slice none 0 0), .val (.slice none 0 0)]), (3, .cells 32 okCells), (5, .cells 72 (gcells g))] }) (fun _ => refuse1 g g.pairs = none) ?_ (fun hJ => ?_)
    · skip
      rintro - hrf
      rw [makeOf_none hrf]
      refine AWp.seq ?_
      refine AWp.reg [false, false, false, false, false, true] F14r15 [] (by kernel_rfl) (by rw [hC]; rfl) fun K hK => ?_
      simp [F14r15]
      first | refine hK _ ?_ | refine ⟨by omega, hK _ ?_⟩ | refine ⟨by omega, by omega, hK _ ?_⟩ | refine ⟨by omega, by omega, by omega, hK _ ?_⟩ | refine ⟨by omega, by omega, by omega, by omega, hK _ ?_⟩
      refine AWp.seq ?_
      refine AWp.seq ?_
      refine AWp.reg [true] F14r16 [] (by kernel_rfl) (by rw [hC]; rfl) fun K hK => ?_
      simp [F14r16]
      first | refine hK _ ?_ | refine ⟨by omega, hK _ ?_⟩ | refine ⟨by omega, by omega, hK _ ?_⟩ | refine ⟨by omega, by omega, by omega, hK _ ?_⟩ | refine ⟨by omega, by omega, by omega, by omega, hK _ ?_⟩
      refine AWp.block ?_
      refine AWp.loopG (fun q : List Nat × Bool => st14b g q.1 [(14, bval q.2)]) (fun q => q.1.length = g.n ∧ below g q.1 ∧ (q.2 = false → IsLeast g q.1)) (fun q => 2 * slack g.n q.1 + (if q.2 then 1 else 0)) (List.replicate g.n 0, true) ⟨by simp, below_zero g, by simp⟩ (by simp [st14b, cellsI]) (fun q hq => ?_)
      obtain ⟨of, ch⟩ := q
      obtain ⟨hofl, hlow, hleast⟩ := hq
      simp only at hofl hlow hleast
      refine AWp.seq ?_
      refine AWp.seq ?_
      refine AWp.reg [] F14r17 [] (by kernel_rfl) (by rw [hC]; rfl) fun K hK => ?_
      simp [F14r17, st14b]
      first | refine hK _ ?_ | refine ⟨by omega, hK _ ?_⟩ | refine ⟨by omega, by omega, hK _ ?_⟩ | refine ⟨by omega, by omega, by omega, hK _ ?_⟩ | refine ⟨by omega, by omega, by omega, by omega, hK _ ?_⟩
      cases ch with
      | false =>
        refine AWp.cond false (by simp) (fun he => by cases he) (fun _ => ?_)
        have hle := hleast rfl
        rw [leastOf_eq hle]
        refine AWp.exit ?_
        have hofb : ∀ i, fn of i ≤ g.n := fun i => below_le hg hrf hlow i
        by_cases hn0 : g.n = 0
        · have hof0 : of = [] := List.eq_nil_of_length_eq_zero (by omega)
          have hh0 : g.heads = [] := by
            cases hhe : g.heads with
            | nil => rfl
            | cons x l => have := hg.heads x (by rw [hhe]; simp); omega
          have hso : strataOf g of = ⟨of, [], []⟩ := by simp [strataOf, hn0]
          rw [hso, hof0]
          refine AWp.seq ?_
          refine AWp.seq ?_
          refine AWp.reg [] F14r33 [] (by kernel_rfl) (by rw [hC]; rfl) fun K hK => ?_
          simp [F14r33, hn0]
          first | refine hK _ ?_ | refine ⟨by omega, hK _ ?_⟩ | refine ⟨by omega, by omega, hK _ ?_⟩ | refine ⟨by omega, by omega, by omega, hK _ ?_⟩ | refine ⟨by omega, by omega, by omega, by omega, hK _ ?_⟩
          refine AWp.cond false (by simp) (fun he => by cases he) (fun _ => ?_)
          refine AWp.skip ?_
          refine AWp.seq ?_
          refine AWp.seq ?_
          refine AWp.reg [] F14r36 [] (by kernel_rfl) (by rw [hC]; rfl) fun K hK => ?_
          simp [F14r36]
          first | refine hK _ ?_ | refine ⟨by omega, hK _ ?_⟩ | refine ⟨by omega, by omega, hK _ ?_⟩ | refine ⟨by omega, by omega, by omega, hK _ ?_⟩ | refine ⟨by omega, by omega, by omega, by omega, hK _ ?_⟩
          refine AWp.block ?_
          refine AWp.loopG (fun _ : Unit => { tm := [(2, .ptr 2 0), (3, .ptr 3 0), (5, .ptr 5 0), (13, .ptr 13 0), (141, ival 0), (142, ival 0)], hp := (st14b g [] []).hp }) (fun _ => True) (fun _ => 0) () trivial (by simp [st14b, hn0, hof0]) (fun _ _ => ?_)
          refine AWp.seq ?_
          refine AWp.reg [] F14r37 [] (by kernel_rfl) (by rw [hC]; rfl) fun K hK => ?_
          simp [F14r37, st14b]
          first | refine hK _ ?_ | refine ⟨by omega, hK _ ?_⟩ | refine ⟨by omega, by omega, hK _ ?_⟩ | refine ⟨by omega, by omega, by omega, hK _ ?_⟩ | refine ⟨by omega, by omega, by omega, by omega, hK _ ?_⟩
          refine AWp.seq ?_
          refine AWp.cond false (by simp) (fun he => by cases he) (fun _ => ?_)
          refine AWp.exit ?_
          refine AWp.seq ?_
          refine AWp.seq ?_
          refine AWp.reg [] F14r41 [] (by kernel_rfl) (by rw [hC]; rfl) fun K hK => ?_
          simp [F14r41, hh0]
          first | refine hK _ ?_ | refine ⟨by omega, hK _ ?_⟩ | refine ⟨by omega, by omega, hK _ ?_⟩ | refine ⟨by omega, by omega, by omega, hK _ ?_⟩ | refine ⟨by omega, by omega, by omega, by omega, hK _ ?_⟩
          refine AWp.block ?_
          refine AWp.loopG (fun _ : Unit => { tm := [(2, .ptr 2 0), (3, .ptr 3 0), (5, .ptr 5 0), (13, .ptr 13 0), (162, ival 0), (163, ival 0)], hp := (st14b g [] []).hp }) (fun _ => True) (fun _ => 0) () trivial (by simp [st14b, hn0, hh0]) (fun _ _ => ?_)
          refine AWp.seq ?_
          refine AWp.reg [] F14r42 [] (by kernel_rfl) (by rw [hC]; rfl) fun K hK => ?_
          simp [F14r42, st14b]
          first | refine hK _ ?_ | refine ⟨by omega, hK _ ?_⟩ | refine ⟨by omega, by omega, hK _ ?_⟩ | refine ⟨by omega, by omega, by omega, hK _ ?_⟩ | refine ⟨by omega, by omega, by omega, by omega, hK _ ?_⟩
          refine AWp.seq ?_
          refine AWp.cond false (by simp) (fun he => by cases he) (fun _ => ?_)
          refine AWp.exit ?_
          refine AWp.seq ?_
          refine AWp.reg [false, false, true, true, true] F14r46 [] (by kernel_rfl) (by rw [hC]; rfl) fun K hK => ?_
          simp [F14r46]
          first | refine hK _ ?_ | refine ⟨by omega, hK _ ?_⟩ | refine ⟨by omega, by omega, hK _ ?_⟩ | refine ⟨by omega, by omega, by omega, hK _ ?_⟩ | refine ⟨by omega, by omega, by omega, by omega, hK _ ?_⟩
          repeat refine AWp.seq ?_
          refine AWp.ret ⟨.inr rfl, _, by simp [Try.results14] <;> rfl, ?_⟩
          refine .tup (.cons (.agg (.cons (Rsv.vecI (l := []) rfl (by simp [hn0])) (.cons .nil (.cons .nil .nil)))) (.cons (.closed rfl) (.cons (.closed rfl) .nil)))
        · skip
          have hso : strataOf g of = ⟨of, pile of (maxN of + 1), pile (rulesOf g of) (maxN of + 1)⟩ := by simp [strataOf, hn0]
          rw [hso]
          have hne : of ≠ [] := by intro e; rw [e] at hofl; simp at hofl; omega
          have hmx : maxN of ≤ g.n := by
            have := maxN_mem of hne
            obtain ⟨i, hi, e⟩ := List.mem_iff_getElem.1 this
            have := hofb i
            simp only [fn, List.getD_eq_getElem?_getD, List.getElem?_eq_getElem hi, Option.getD_some] at this
            omega
          have hMax : Con Try.prog 27 [encInts of] (ival (maxN of)) := by
            cases of with
            | nil => exact absurd rfl hne
            | cons x l => exact Max_ok x l (by simp at hofl; omega)
          have hfm : ∀ i, i < g.n → fn of i < maxN of + 1 := fun i hi => by
            have : fn of i ∈ of := by
              simp only [fn, List.getD_eq_getElem?_getD, List.getElem?_eq_getElem (show i < of.length by omega), Option.getD_some]; exact List.getElem_mem _
            have := maxN_le of _ this
            omega
          obtain ⟨mx, hmx0⟩ : ∃ x, maxN of = x := ⟨_, rfl⟩
          rw [hmx0] at hmx hMax hfm ⊢
          have hwm : IntKind.i64.wrap ((mx : Int) + 1) = ((mx + 1 : Nat) : Int) := wrap_nat mx (by omega)
          have hn1 : (0 : Int) < (g.n : Int) := by omega
          have hn1' : 0 < g.n := by omega
          refine AWp.seq ?_
          refine AWp.seq ?_
          refine AWp.reg [] F14r33 [] (by kernel_rfl) (by rw [hC]; rfl) fun K hK => ?_
          simp [F14r33, hn1]
          first | refine hK _ ?_ | refine ⟨by omega, hK _ ?_⟩ | refine ⟨by omega, by omega, hK _ ?_⟩ | refine ⟨by omega, by omega, by omega, hK _ ?_⟩ | refine ⟨by omega, by omega, by omega, by omega, hK _ ?_⟩
          refine AWp.cond true (by simp [hn1']) (fun _ => ?_) (fun he => by cases he)
          refine AWp.seq ?_
          refine AWp.reg [false, false, false, false, true] F14r34 [{ r := ival mx, us := [81] }] (by kernel_rfl) (by rw [hC]; rfl) fun K hK => ?_
          simp [F14r34, hwm]
          refine ⟨⟨[encInts of], .cons (Rsv.vecI (l := of) rfl (by omega)) .nil, hMax⟩, hK _ ?_⟩
          refine AWp.regD ops_mixed [false, false, false, false, false, true, false, true] F14r35 [] (by kernel_rfl) (by rw [hC]; rfl) rfl (fun K hK => ?_) (by simp [F14r35] <;> rfl)
          simp [F14r35]
          first | refine hK _ ?_ | refine ⟨by omega, hK _ ?_⟩ | refine ⟨by omega, by omega, hK _ ?_⟩ | refine ⟨by omega, by omega, by omega, hK _ ?_⟩ | refine ⟨by omega, by omega, by omega, by omega, hK _ ?_⟩
          refine AWp.seq ?_
          refine AWp.seq ?_
          refine AWp.reg [] F14r36 [] (by kernel_rfl) (by rw [hC]; rfl) fun K hK => ?_
          simp [F14r36]
          first | refine hK _ ?_ | refine ⟨by omega, hK _ ?_⟩ | refine ⟨by omega, by omega, hK _ ?_⟩ | refine ⟨by omega, by omega, by omega, hK _ ?_⟩ | refine ⟨by omega, by omega, by omega, by omega, hK _ ?_⟩
          refine AWp.block ?_
          have hpR : ∀ (l : List Nat) (q : Nat), (itr (pileStep l) q (List.replicate (mx + 1) [])).length = mx + 1 := fun l q => pile_len l (mx + 1) q
          refine AWp.loopG (fun k : Nat => st14c g of (itr (pileStep of) k (List.replicate (mx + 1) [])) (List.replicate (mx + 1) []) [(140, .vec 81 1 0 g.n g.n), (141, ival g.n), (142, ival k)]) (fun k => k ≤ g.n) (fun k => g.n - k) 0 (by simp) (by simp [st14c, itr, encO]) (fun k hk1 => ?_)
          have hL := hpR of k
          have hS := pile_short of (mx + 1) k
          have hsucc : itr (pileStep of) (k + 1) (List.replicate (mx + 1) []) = pileStep of k (itr (pileStep of) k (List.replicate (mx + 1) [])) := rfl
          have hall : k = g.n → itr (pileStep of) k (List.replicate (mx + 1) []) = pile of (mx + 1) := by intro e; rw [pile, hofl, e]
          revert hL hS hsucc hall
          generalize itr (pileStep of) k (List.replicate (mx + 1) []) = out
          intro hL hS hsucc hall
          refine AWp.seq ?_
          refine AWp.reg [] F14r37 [] (by kernel_rfl) (by rw [hC]; rfl) fun K hK => ?_
          simp [F14r37, st14c]
          first | refine hK _ ?_ | refine ⟨by omega, hK _ ?_⟩ | refine ⟨by omega, by omega, hK _ ?_⟩ | refine ⟨by omega, by omega, by omega, hK _ ?_⟩ | refine ⟨by omega, by omega, by omega, by omega, hK _ ?_⟩
          refine AWp.seq ?_
          refine AWp.cond (decide (k < g.n)) (by simp) (fun hlt => ?_) (fun hge => ?_)
          · skip
            have hlt : k < g.n := by simpa using hlt
            have hc := cellsI_at (l := of) (i := k) (by omega)
            have hv := hfm k hlt
            have hst : pileStep of k out = out.set (fn of k) (out.getD (fn of k) [] ++ [k]) := rfl
            obtain ⟨v, hv0⟩ : ∃ v, fn of k = v := ⟨_, rfl⟩
            rw [hv0] at hc hv hst
            have hvl : v < out.length := by omega
            obtain ⟨row, hrow⟩ : ∃ c, out[v] = c := ⟨_, rfl⟩
            have hrl : row.length ≤ 100000 := by have := hS _ (List.getElem_mem hvl); rw [hrow] at this; omega
            rw [List.getD_eq_getElem?_getD, List.getElem?_eq_getElem hvl, hrow] at hst
            simp only [Option.getD_some] at hst
            refine AWp.skip ?_
            refine AWp.seq ?_
            refine AWp.block ?_
            refine AWp.seq ?_
            refine AWp.reg [true, false, false, true, true] F14r38 [] (by kernel_rfl) (by rw [hC]; rfl) fun K hK => ?_
            simp [F14r38, hlt, hc, hL, hv, hvl, hrow, encO]
            first | refine hK _ ?_ | refine ⟨by omega, hK _ ?_⟩ | refine ⟨by omega, by omega, hK _ ?_⟩ | refine ⟨by omega, by omega, by omega, hK _ ?_⟩ | refine ⟨by omega, by omega, by omega, by omega, hK _ ?_⟩
            refine AWp.regD ops_mixed [false, false, false, false, false, false, false, true, false, false, false, false, true] F14r39 [] (by kernel_rfl) (by rw [hC]; rfl) rfl (fun K hK => ?_) (by simp [F14r39, hlt, hc, hL, hv, hvl, hrow, encO] <;> rfl)
            simp [F14r39, hlt, hc, hL, hv, hvl, hrow, encO]
            first | refine hK _ ?_ | refine ⟨by omega, hK _ ?_⟩ | refine ⟨by omega, by omega, hK _ ?_⟩ | refine ⟨by omega, by omega, by omega, hK _ ?_⟩ | refine ⟨by omega, by omega, by omega, by omega, hK _ ?_⟩
            refine AWp.reg [] F14r40 [] (by kernel_rfl) (by rw [hC]; rfl) fun K hK => ?_
            simp [F14r40, hlt, hc, hL, hv, hvl, hrow, encO]
            first | refine hK _ ?_ | refine ⟨by omega, hK _ ?_⟩ | refine ⟨by omega, by omega, hK _ ?_⟩ | refine ⟨by omega, by omega, by omega, hK _ ?_⟩ | refine ⟨by omega, by omega, by omega, by omega, hK _ ?_⟩
            refine ⟨k + 1, by omega, by omega, ?_⟩
            rw [hsucc, hst]
            simp [st14c, wrap_nat k (by omega), encO, hL]
          have hge : ¬ k < g.n := by simpa using hge
          rw [← hall (by omega)]
          refine AWp.exit ?_
          refine AWp.seq ?_
          refine AWp.seq ?_
          refine AWp.reg [] F14r41 [] (by kernel_rfl) (by rw [hC]; rfl) fun K hK => ?_
          simp [F14r41]
          first | refine hK _ ?_ | refine ⟨by omega, hK _ ?_⟩ | refine ⟨by omega, by omega, hK _ ?_⟩ | refine ⟨by omega, by omega, by omega, hK _ ?_⟩ | refine ⟨by omega, by omega, by omega, by omega, hK _ ?_⟩
          refine AWp.block ?_
          refine AWp.loopG (fun k : Nat => st14c g of out (itr (pileStep (rulesOf g of)) k (List.replicate (mx + 1) [])) [(161, encInts g.heads), (162, ival g.heads.length), (163, ival k)]) (fun k => k ≤ g.heads.length) (fun k => g.heads.length - k) 0 (by simp) (by simp [st14c, itr, encO, hL]) (fun k hk1 => ?_)
          have hL2 := hpR (rulesOf g of) k
          have hS2 := pile_short (rulesOf g of) (mx + 1) k
          have hsucc2 : itr (pileStep (rulesOf g of)) (k + 1) (List.replicate (mx + 1) []) = pileStep (rulesOf g of) k (itr (pileStep (rulesOf g of)) k (List.replicate (mx + 1) [])) := rfl
          have hall2 : k = g.heads.length → itr (pileStep (rulesOf g of)) k (List.replicate (mx + 1) []) = pile (rulesOf g of) (mx + 1) := by intro e; rw [pile, e]; simp [rulesOf]
          revert hL2 hS2 hsucc2 hall2
          generalize itr (pileStep (rulesOf g of)) k (List.replicate (mx + 1) []) = out2
          intro hL2 hS2 hsucc2 hall2
          refine AWp.seq ?_
          refine AWp.reg [] F14r42 [] (by kernel_rfl) (by rw [hC]; rfl) fun K hK => ?_
          simp [F14r42, st14c]
          first | refine hK _ ?_ | refine ⟨by omega, hK _ ?_⟩ | refine ⟨by omega, by omega, hK _ ?_⟩ | refine ⟨by omega, by omega, by omega, hK _ ?_⟩ | refine ⟨by omega, by omega, by omega, by omega, hK _ ?_⟩
          refine AWp.seq ?_
          refine AWp.cond (decide (k < g.heads.length)) (by simp) (fun hlt2 => ?_) (fun hge2 => ?_)
          · skip
            have hlt2 : k < g.heads.length := by simpa using hlt2
            have hhn := hg.heads _ (List.getElem_mem hlt2)
            obtain ⟨h, hh⟩ : ∃ h, g.heads[k] = h := ⟨_, rfl⟩
            rw [hh] at hhn
            have hc := cellsI_at (l := of) (i := h) (by omega)
            have hv := hfm h hhn
            have hst : pileStep (rulesOf g of) k out2 = out2.set (fn of h) (out2.getD (fn of h) [] ++ [k]) := by
              have : (rulesOf g of).getD k 0 = fn of h := by simp [rulesOf, List.getD_eq_getElem?_getD, hlt2, hh]
              simp only [pileStep, this]
            obtain ⟨v, hv0⟩ : ∃ v, fn of h = v := ⟨_, rfl⟩
            rw [hv0] at hc hv hst
            have hvl : v < out2.length := by omega
            obtain ⟨row, hrow⟩ : ∃ c, out2[v] = c := ⟨_, rfl⟩
            have hrl : row.length ≤ 100000 := by have := hS2 _ (List.getElem_mem hvl); rw [hrow] at this; omega
            rw [List.getD_eq_getElem?_getD, List.getElem?_eq_getElem hvl, hrow] at hst
            simp only [Option.getD_some] at hst
            refine AWp.skip ?_
            refine AWp.seq ?_
            refine AWp.block ?_
            refine AWp.seq ?_
            refine AWp.reg [true, false, false, true, true] F14r43 [] (by kernel_rfl) (by rw [hC]; rfl) fun K hK => ?_
            simp [F14r43, hlt2, hh, hc, hL2, hv, hvl, hhn, hrow, encO]
            first | refine hK _ ?_ | refine ⟨by omega, hK _ ?_⟩ | refine ⟨by omega, by omega, hK _ ?_⟩ | refine ⟨by omega, by omega, by omega, hK _ ?_⟩ | refine ⟨by omega, by omega, by omega, by omega, hK _ ?_⟩
            refine AWp.regD ops_mixed [false, false, false, false, false, false, false, false, false, false, false, false, false, false, false, true, false, false, false, false, true] F14r44 [] (by kernel_rfl) (by rw [hC]; rfl) rfl (fun K hK => ?_) (by simp [F14r44, hlt2, hh, hc, hL2, hv, hvl, hhn, hrow, encO] <;> rfl)
            simp [F14r44, hlt2, hh, hc, hL2, hv, hvl, hhn, hrow, encO]
            first | refine hK _ ?_ | refine ⟨by omega, hK _ ?_⟩ | refine ⟨by omega, by omega, hK _ ?_⟩ | refine ⟨by omega, by omega, by omega, hK _ ?_⟩ | refine ⟨by omega, by omega, by omega, by omega, hK _ ?_⟩
            refine AWp.reg [] F14r45 [] (by kernel_rfl) (by rw [hC]; rfl) fun K hK => ?_
            simp [F14r45, hlt2, hh, hc, hL2, hv, hvl, hhn, hrow, encO]
            first | refine hK _ ?_ | refine ⟨by omega, hK _ ?_⟩ | refine ⟨by omega, by omega, hK _ ?_⟩ | refine ⟨by omega, by omega, by omega, hK _ ?_⟩ | refine ⟨by omega, by omega, by omega, by omega, hK _ ?_⟩
            refine ⟨k + 1, by omega, by omega, ?_⟩
            rw [hsucc2, hst]
            simp [st14c, wrap_nat k (by omega), encO, hL2]
          have hge2 : ¬ k < g.heads.length := by simpa using hge2
          rw [← hall2 (by omega)]
          refine AWp.exit ?_
          refine AWp.seq ?_
          refine AWp.reg [false, false, true, true, true] F14r46 [] (by kernel_rfl) (by rw [hC]; rfl) fun K hK => ?_
          simp [F14r46]
          first | refine hK _ ?_ | refine ⟨by omega, hK _ ?_⟩ | refine ⟨by omega, by omega, hK _ ?_⟩ | refine ⟨by omega, by omega, by omega, hK _ ?_⟩ | refine ⟨by omega, by omega, by omega, by omega, hK _ ?_⟩
          repeat refine AWp.seq ?_
          refine AWp.ret ⟨.inr rfl, _, by simp [Try.results14] <;> rfl, ?_⟩
          exact .tup (.cons (.agg (.cons (Rsv.vecI (l := of) rfl (by omega)) (.cons (Rsv.vecO (l := out) rfl rfl) (.cons (Rsv.vecO (l := out2) rfl rfl) .nil)))) (.cons (.closed rfl) (.cons (.closed rfl) .nil)))
      | true =>
        refine AWp.cond true (by simp) (fun _ => ?_) (fun he => by cases he)
        refine AWp.skip ?_
        refine AWp.block ?_
        refine AWp.seq ?_
        refine AWp.reg [true] F14r18 [] (by kernel_rfl) (by rw [hC]; rfl) fun K hK => ?_
        simp [F14r18]
        first | refine hK _ ?_ | refine ⟨by omega, hK _ ?_⟩ | refine ⟨by omega, by omega, hK _ ?_⟩ | refine ⟨by omega, by omega, by omega, hK _ ?_⟩ | refine ⟨by omega, by omega, by omega, by omega, hK _ ?_⟩
        refine AWp.seq ?_
        refine AWp.reg [] F14r19 [] (by kernel_rfl) (by rw [hC]; rfl) fun K hK => ?_
        simp [F14r19]
        first | refine hK _ ?_ | refine ⟨by omega, hK _ ?_⟩ | refine ⟨by omega, by omega, hK _ ?_⟩ | refine ⟨by omega, by omega, by omega, hK _ ?_⟩ | refine ⟨by omega, by omega, by omega, by omega, hK _ ?_⟩
        refine AWp.block ?_
        refine AWp.loopG (fun q : Nat × List Nat × Bool => st14b g q.2.1 [(14, bval q.2.2), (85, encInts g.heads), (86, ival g.heads.length), (87, ival q.1)]) (fun q => q.1 ≤ g.heads.length ∧ Rnd g (slack g.n of) (g.pairs.take q.1) q.2.1 q.2.2) (fun q => g.heads.length - q.1) (0, of, false) ⟨by simp, ⟨hofl, hlow, Nat.le_refl _, (fun h => by cases h), fun _ => by simp [satL]⟩⟩ (by simp [st14b]) (fun q hq => ?_)
        obtain ⟨k, of2, ch2⟩ := q
        obtain ⟨hk1, hR⟩ := hq
        simp only at hk1 hR
        refine AWp.seq ?_
        refine AWp.reg [] F14r20 [] (by kernel_rfl) (by rw [hC]; rfl) fun K hK => ?_
        simp [F14r20, st14b]
        first | refine hK _ ?_ | refine ⟨by omega, hK _ ?_⟩ | refine ⟨by omega, by omega, hK _ ?_⟩ | refine ⟨by omega, by omega, by omega, hK _ ?_⟩ | refine ⟨by omega, by omega, by omega, by omega, hK _ ?_⟩
        refine AWp.seq ?_
        refine AWp.cond (decide (k < g.heads.length)) (by simp) (fun hlt => ?_) (fun hge => ?_)
        · skip
          have hlt : k < g.heads.length := by simpa using hlt
          have hlt2 : k < g.edges.length := by omega
          have hlt3 : k < g.pairs.length := by omega
          have hpk := pairs_at k hlt hlt2 hlt3
          have hel := hg.elen _ (List.getElem_mem hlt2)
          have hto := hg.tos _ (List.getElem_mem hlt2)
          have hhn := hg.heads _ (List.getElem_mem hlt)
          have hpm2 : (g.heads[k], g.edges[k]) ∈ g.pairs := by rw [← hpk]; exact List.getElem_mem hlt3
          obtain ⟨es, hes⟩ : ∃ es, g.edges[k] = es := ⟨_, rfl⟩
          obtain ⟨h, hh⟩ : ∃ h, g.heads[k] = h := ⟨_, rfl⟩
          rw [hes] at hel hto hpk hpm2
          rw [hh] at hhn hpk hpm2
          refine AWp.skip ?_
          refine AWp.seq ?_
          refine AWp.block ?_
          refine AWp.seq ?_
          refine AWp.reg [true, false, false, true, true] F14r21 [] (by kernel_rfl) (by rw [hC]; rfl) fun K hK => ?_
          simp [F14r21, hlt, hlt2, hes, hh]
          first | refine hK _ ?_ | refine ⟨by omega, hK _ ?_⟩ | refine ⟨by omega, by omega, hK _ ?_⟩ | refine ⟨by omega, by omega, by omega, hK _ ?_⟩ | refine ⟨by omega, by omega, by omega, by omega, hK _ ?_⟩
          refine AWp.seq ?_
          refine AWp.reg [] F14r22 [] (by kernel_rfl) (by rw [hC]; rfl) fun K hK => ?_
          simp [F14r22, hlt, hlt2, hes, hh]
          first | refine hK _ ?_ | refine ⟨by omega, hK _ ?_⟩ | refine ⟨by omega, by omega, hK _ ?_⟩ | refine ⟨by omega, by omega, by omega, hK _ ?_⟩ | refine ⟨by omega, by omega, by omega, by omega, hK _ ?_⟩
          refine AWp.block ?_
          refine AWp.loopG (fun q : Nat × List Nat × Bool => st14b g q.2.1 [(14, bval q.2.2), (85, encInts g.heads), (86, ival g.heads.length), (87, ival k), (16, ival h), (96, encEdges es), (97, ival es.length), (98, ival q.1)]) (fun q => q.1 ≤ es.length ∧ Rnd g (slack g.n of) (g.pairs.take k ++ [(h, es.take q.1)]) q.2.1 q.2.2) (fun q => es.length - q.1) (0, of2, ch2) ⟨by simp, hR.open h es⟩ (by simp [st14b, cellsI]) (fun q hq => ?_)
          obtain ⟨j, of3, ch3⟩ := q
          obtain ⟨hj1, hR3⟩ := hq
          simp only at hj1 hR3
          have hl3 := hR3.len
          refine AWp.seq ?_
          refine AWp.reg [] F14r23 [] (by kernel_rfl) (by rw [hC]; rfl) fun K hK => ?_
          simp [F14r23, st14b]
          first | refine hK _ ?_ | refine ⟨by omega, hK _ ?_⟩ | refine ⟨by omega, by omega, hK _ ?_⟩ | refine ⟨by omega, by omega, by omega, hK _ ?_⟩ | refine ⟨by omega, by omega, by omega, by omega, hK _ ?_⟩
          refine AWp.seq ?_
          refine AWp.cond (decide (j < es.length)) (by simp) (fun hltj => ?_) (fun hgej => ?_)
          · skip
            have hltj : j < es.length := by simpa using hltj
            have hton := hto _ (List.getElem_mem hltj)
            have hstep := fun hlt => hR3.step hg hrf hltj hpm2 hlt
            have hskip := fun hge => hR3.skip hltj hge
            obtain ⟨e, hee⟩ : ∃ e, es[j] = e := ⟨_, rfl⟩
            rw [hee] at hton hstep hskip
            have hc1 := cellsI_at (l := of3) (i := e.to) (by omega)
            have hc2 := cellsI_at (l := of3) (i := h) (by omega)
            have hb1 := below_le hg hrf hR3.low e.to
            refine AWp.skip ?_
            refine AWp.seq ?_
            refine AWp.block ?_
            refine AWp.seq ?_
            refine AWp.reg [false, false, false, true] F14r24 [] (by kernel_rfl) (by rw [hC]; rfl) fun K hK => ?_
            simp [F14r24, hltj, hee, hton, hc1]
            first | refine hK _ ?_ | refine ⟨by omega, hK _ ?_⟩ | refine ⟨by omega, by omega, hK _ ?_⟩ | refine ⟨by omega, by omega, by omega, hK _ ?_⟩ | refine ⟨by omega, by omega, by omega, by omega, hK _ ?_⟩
            refine AWp.seq ?_
            refine AWp.reg [false, false, false, false, false, false, true] F14r25 [] (by kernel_rfl) (by rw [hC]; rfl) fun K hK => ?_
            simp [F14r25, hltj, hee, hton, hc1]
            first | refine hK _ ?_ | refine ⟨by omega, hK _ ?_⟩ | refine ⟨by omega, by omega, hK _ ?_⟩ | refine ⟨by omega, by omega, by omega, hK _ ?_⟩ | refine ⟨by omega, by omega, by omega, by omega, hK _ ?_⟩
            refine AWp.seqJ (fun _ : Unit => st14b g of3 [(14, bval ch3), (85, encInts g.heads), (86, ival g.heads.length), (87, ival k), (16, ival h), (96, encEdges es), (97, ival es.length), (98, ival j), (19, ival (fn of3 e.to + str e : Nat))]) (fun _ => True) ?_ (fun hJ => ?_)
            · skip
              rintro - -
              obtain ⟨v, hv0⟩ : ∃ v, fn of3 e.to + str e = v := ⟨_, rfl⟩
              rw [hv0] at hstep hskip
              rw [hv0]
              have hhl : h < of3.length := by omega
              refine AWp.seq ?_
              refine AWp.reg [] F14r28 [] (by kernel_rfl) (by rw [hC]; rfl) fun K hK => ?_
              simp [F14r28, st14b, hc2, hhn]
              first | refine hK _ ?_ | refine ⟨by omega, hK _ ?_⟩ | refine ⟨by omega, by omega, hK _ ?_⟩ | refine ⟨by omega, by omega, by omega, hK _ ?_⟩ | refine ⟨by omega, by omega, by omega, by omega, hK _ ?_⟩
              refine AWp.cond (decide (fn of3 h < v)) (by simp) (fun hv => ?_) (fun hv => ?_)
              · skip
                have hv : fn of3 h < v := by simpa using hv
                refine AWp.seq ?_
                refine AWp.reg [false, false, false, true, false, true] F14r29 [] (by kernel_rfl) (by rw [hC]; rfl) fun K hK => ?_
                simp [F14r29, hhl, hhn, hl3, cellsI_set]
                first | refine hK _ ?_ | refine ⟨by omega, hK _ ?_⟩ | refine ⟨by omega, by omega, hK _ ?_⟩ | refine ⟨by omega, by omega, by omega, hK _ ?_⟩ | refine ⟨by omega, by omega, by omega, by omega, hK _ ?_⟩
                refine AWp.reg [true] F14r30 [] (by kernel_rfl) (by rw [hC]; rfl) fun K hK => ?_
                simp [F14r30, hhl, hhn, hl3, cellsI_set]
                first | refine hK _ ?_ | refine ⟨by omega, hK _ ?_⟩ | refine ⟨by omega, by omega, hK _ ?_⟩ | refine ⟨by omega, by omega, by omega, hK _ ?_⟩ | refine ⟨by omega, by omega, by omega, by omega, hK _ ?_⟩
                refine AWp.reg [] F14r31 [] (by kernel_rfl) (by rw [hC]; rfl) fun K hK => ?_
                simp [F14r31, hhl, hhn, hl3, cellsI_set]
                first | refine hK _ ?_ | refine ⟨by omega, hK _ ?_⟩ | refine ⟨by omega, by omega, hK _ ?_⟩ | refine ⟨by omega, by omega, by omega, hK _ ?_⟩ | refine ⟨by omega, by omega, by omega, by omega, hK _ ?_⟩
                refine ⟨(j + 1, of3.set h v, true), ⟨by simp only; omega, hstep hv⟩, by simp only; omega, ?_⟩
                simp [st14b, wrap_nat j (by omega)]
              have hv : ¬ fn of3 h < v := by simpa using hv
              refine AWp.skip ?_
              refine AWp.reg [] F14r31 [] (by kernel_rfl) (by rw [hC]; rfl) fun K hK => ?_
              simp [F14r31]
              first | refine hK _ ?_ | refine ⟨by omega, hK _ ?_⟩ | refine ⟨by omega, by omega, hK _ ?_⟩ | refine ⟨by omega, by omega, by omega, hK _ ?_⟩ | refine ⟨by omega, by omega, by omega, by omega, hK _ ?_⟩
              refine ⟨(j + 1, of3, ch3), ⟨by simp only; omega, hskip hv⟩, by simp only; omega, ?_⟩
              simp [st14b, wrap_nat j (by omega)]
            · skip
              have hw : IntKind.i64.wrap (((fn of3 e.to : Nat) : Int) + 1) = ((fn of3 e.to + 1 : Nat) : Int) := wrap_nat _ (by omega)
              refine AWp.seq ?_
              refine AWp.reg [] F14r26 [] (by kernel_rfl) (by rw [hC]; rfl) fun K hK => ?_
              simp [F14r26, hltj, hee, hton, hc1]
              first | refine hK _ ?_ | refine ⟨by omega, hK _ ?_⟩ | refine ⟨by omega, by omega, hK _ ?_⟩ | refine ⟨by omega, by omega, by omega, hK _ ?_⟩ | refine ⟨by omega, by omega, by omega, by omega, hK _ ?_⟩
              cases hse : e.strict with
              | true =>
                refine AWp.cond true (by simp [hse]) (fun _ => ?_) (fun he => by cases he)
                refine AWp.reg [false, false, true] F14r27 [] (by kernel_rfl) (by rw [hC]; rfl) fun K hK => ?_
                simp [F14r27, hw]
                first | refine hK _ ?_ | refine ⟨by omega, hK _ ?_⟩ | refine ⟨by omega, by omega, hK _ ?_⟩ | refine ⟨by omega, by omega, by omega, hK _ ?_⟩ | refine ⟨by omega, by omega, by omega, by omega, hK _ ?_⟩
                refine hJ _ () trivial ?_
                simp [st14b, str, hse]
              | false =>
                refine AWp.cond false (by simp [hse]) (fun he => by cases he) (fun _ => ?_)
                refine AWp.skip ?_
                refine hJ _ () trivial ?_
                simp [st14b, str, hse]
          have hgej : ¬ j < es.length := by simpa using hgej
          refine AWp.exit ?_
          refine AWp.reg [] F14r32 [] (by kernel_rfl) (by rw [hC]; rfl) fun K hK => ?_
          simp [F14r32]
          first | refine hK _ ?_ | refine ⟨by omega, hK _ ?_⟩ | refine ⟨by omega, by omega, hK _ ?_⟩ | refine ⟨by omega, by omega, by omega, hK _ ?_⟩ | refine ⟨by omega, by omega, by omega, by omega, hK _ ?_⟩
          refine ⟨(k + 1, of3, ch3), ⟨by simp only; omega, Rnd.close hlt3 (by rw [hpk]; rw [List.take_of_length_le (l := es) (by omega)] at hR3; exact hR3)⟩, by simp only; omega, ?_⟩
          simp [st14b, wrap_nat k (by omega), cellsI]
        have hge : ¬ k < g.heads.length := by simpa using hge
        refine AWp.exit ?_
        refine ⟨(of2, ch2), ⟨hR.len, hR.low, fun h => Rnd.least (k := k) (by omega) (by simp only at h; subst h; exact hR)⟩, ?_, ?_⟩
        · have h1 := hR.sl
          have h2 := hR.chg
          cases ch2 with
          | true => have := h2 rfl; simp; omega
          | false => simp; omega
        · simp [st14b, cellsI]
    · skip
      refine AWp.seq ?_
      refine AWp.reg [] F14r5 [] (by kernel_rfl) (by rw [hC]; rfl) fun K hK => ?_
      simp [F14r5]
      first | refine hK _ ?_ | refine ⟨by omega, hK _ ?_⟩ | refine ⟨by omega, by omega, hK _ ?_⟩ | refine ⟨by omega, by omega, by omega, hK _ ?_⟩ | refine ⟨by omega, by omega, by omega, by omega, hK _ ?_⟩
      refine AWp.block ?_
      refine AWp.loopG (fun k => st14a g k []) (fun k => k ≤ g.heads.length ∧ refuse1 g g.pairs = refuse1 g (g.pairs.drop k)) (fun k => g.heads.length - k) 0 (by simp) (by simp [st14a, rowsB]) (fun k hk => ?_)
      obtain ⟨hk1, hk2⟩ := hk
      refine AWp.seq ?_
      refine AWp.reg [] F14r6 [] (by kernel_rfl) (by rw [hC]; rfl) fun K hK => ?_
      simp [F14r6, st14a, rowsB]
      first | refine hK _ ?_ | refine ⟨by omega, hK _ ?_⟩ | refine ⟨by omega, by omega, hK _ ?_⟩ | refine ⟨by omega, by omega, by omega, hK _ ?_⟩ | refine ⟨by omega, by omega, by omega, by omega, hK _ ?_⟩
      refine AWp.seq ?_
      refine AWp.cond (decide (k < g.heads.length)) (by simp) (fun hlt => ?_) (fun hge => ?_)
      · skip
        have hlt : k < g.heads.length := by simpa using hlt
        have hlt2 : k < g.edges.length := by omega
        have hd := refuse1_drop hg k hlt hlt2
        have hel := hg.elen _ (List.getElem_mem hlt2)
        have hto := hg.tos _ (List.getElem_mem hlt2)
        have hhn := hg.heads _ (List.getElem_mem hlt)
        obtain ⟨es, hes⟩ : ∃ es, g.edges[k] = es := ⟨_, rfl⟩
        obtain ⟨h, hh⟩ : ∃ h, g.heads[k] = h := ⟨_, rfl⟩
        rw [hes] at hel hto
        rw [hes, hh] at hd
        rw [hh] at hhn
        refine AWp.skip ?_
        refine AWp.seq ?_
        refine AWp.block ?_
        refine AWp.seq ?_
        refine AWp.reg [true, false, false, true, true] F14r7 [] (by kernel_rfl) (by rw [hC]; rfl) fun K hK => ?_
        simp [F14r7, hlt, hlt2, hes, hh]
        first | refine hK _ ?_ | refine ⟨by omega, hK _ ?_⟩ | refine ⟨by omega, by omega, hK _ ?_⟩ | refine ⟨by omega, by omega, by omega, hK _ ?_⟩ | refine ⟨by omega, by omega, by omega, by omega, hK _ ?_⟩
        refine AWp.seq ?_
        refine AWp.reg [] F14r8 [] (by kernel_rfl) (by rw [hC]; rfl) fun K hK => ?_
        simp [F14r8, hlt, hlt2, hes, hh]
        first | refine hK _ ?_ | refine ⟨by omega, hK _ ?_⟩ | refine ⟨by omega, by omega, hK _ ?_⟩ | refine ⟨by omega, by omega, by omega, hK _ ?_⟩ | refine ⟨by omega, by omega, by omega, by omega, hK _ ?_⟩
        refine AWp.block ?_
        refine AWp.loopG (fun j : Nat => st14a g k [(10, ival h), (50, encEdges es), (51, ival es.length), (52, ival j)]) (fun j : Nat => j ≤ es.length ∧ refuse2 g h es = refuse2 g h (es.drop j)) (fun j => es.length - j) 0 (by simp) (by simp [st14a, rowsB]) (fun j hj => ?_)
        obtain ⟨hj1, hj2⟩ := hj
        refine AWp.seq ?_
        refine AWp.reg [] F14r9 [] (by kernel_rfl) (by rw [hC]; rfl) fun K hK => ?_
        simp [F14r9, st14a, rowsB]
        first | refine hK _ ?_ | refine ⟨by omega, hK _ ?_⟩ | refine ⟨by omega, by omega, hK _ ?_⟩ | refine ⟨by omega, by omega, by omega, hK _ ?_⟩ | refine ⟨by omega, by omega, by omega, by omega, hK _ ?_⟩
        refine AWp.seq ?_
        refine AWp.cond (decide (j < es.length)) (by simp) (fun hltj => ?_) (fun hgej => ?_)
        · skip
          have hltj : j < es.length := by simpa using hltj
          have hd2 := refuse2_drop g h es j hltj
          have hton := hto _ (List.getElem_mem hltj)
          obtain ⟨e, hee⟩ : ∃ e, es[j] = e := ⟨_, rfl⟩
          rw [hee] at hd2 hton
          have hsk : badE g h e = false → refuse2 g h es = refuse2 g h (es.drop (j + 1)) := fun hb => by rw [hj2, hd2, hb]; rfl
          have hst : badE g h e = true → makeOf g = (⟨[], [], []⟩, ((e.line, e.col), 73)) := fun hb => makeOf_some (by rw [hk2, hd, hj2, hd2, hb]; rfl)
          cases hs : e.strict with
          | false =>
            refine AWp.skip ?_
            refine AWp.seq ?_
            refine AWp.block ?_
            refine AWp.seq ?_
            refine AWp.reg [false, false, false, true] F14r10 [] (by kernel_rfl) (by rw [hC]; rfl) fun K hK => ?_
            simp [F14r10, hltj, hee, hs]
            first | refine hK _ ?_ | refine ⟨by omega, hK _ ?_⟩ | refine ⟨by omega, by omega, hK _ ?_⟩ | refine ⟨by omega, by omega, by omega, hK _ ?_⟩ | refine ⟨by omega, by omega, by omega, by omega, hK _ ?_⟩
            refine AWp.seq ?_
            refine AWp.reg [] F14r11 [] (by kernel_rfl) (by rw [hC]; rfl) fun K hK => ?_
            simp [F14r11, hltj, hee, hs]
            first | refine hK _ ?_ | refine ⟨by omega, hK _ ?_⟩ | refine ⟨by omega, by omega, hK _ ?_⟩ | refine ⟨by omega, by omega, by omega, hK _ ?_⟩ | refine ⟨by omega, by omega, by omega, by omega, hK _ ?_⟩
            refine AWp.cond false (by simp) (fun he => by cases he) (fun _ => ?_)
            refine AWp.skip ?_
            refine AWp.reg [] F14r13 [] (by kernel_rfl) (by rw [hC]; rfl) fun K hK => ?_
            simp [F14r13]
            first | refine hK _ ?_ | refine ⟨by omega, hK _ ?_⟩ | refine ⟨by omega, by omega, hK _ ?_⟩ | refine ⟨by omega, by omega, by omega, hK _ ?_⟩ | refine ⟨by omega, by omega, by omega, by omega, hK _ ?_⟩
            refine ⟨j + 1, ⟨by omega, hsk (by simp [badE, hs])⟩, by omega, ?_⟩
            simp [st14a, rowsB, wrap_nat j (by omega)]
          | true =>
            by_cases hth : e.to = h
            · have hth' : ((e.to : Int) == (h : Int)) = true := by simp [hth]
              refine AWp.skip ?_
              refine AWp.seq ?_
              refine AWp.block ?_
              refine AWp.seq ?_
              refine AWp.reg [false, false, false, true] F14r10 [] (by kernel_rfl) (by rw [hC]; rfl) fun K hK => ?_
              simp [F14r10, hltj, hee, hs, hth']
              first | refine hK _ ?_ | refine ⟨by omega, hK _ ?_⟩ | refine ⟨by omega, by omega, hK _ ?_⟩ | refine ⟨by omega, by omega, by omega, hK _ ?_⟩ | refine ⟨by omega, by omega, by omega, by omega, hK _ ?_⟩
              refine AWp.seq ?_
              refine AWp.reg [] F14r11 [] (by kernel_rfl) (by rw [hC]; rfl) fun K hK => ?_
              simp [F14r11, hltj, hee, hs, hth']
              first | refine hK _ ?_ | refine ⟨by omega, hK _ ?_⟩ | refine ⟨by omega, by omega, hK _ ?_⟩ | refine ⟨by omega, by omega, by omega, hK _ ?_⟩ | refine ⟨by omega, by omega, by omega, by omega, hK _ ?_⟩
              refine AWp.cond true (by simp) (fun _ => ?_) (fun he => by cases he)
              refine AWp.seq ?_
              refine AWp.regD ops_mixed [false, false, false, true, true, true] F14r12 [] (by kernel_rfl) (by rw [hC]; rfl) rfl (fun K hK => ?_) (by simp [F14r12] <;> rfl)
              simp [F14r12]
              first | refine hK _ ?_ | refine ⟨by omega, hK _ ?_⟩ | refine ⟨by omega, by omega, hK _ ?_⟩ | refine ⟨by omega, by omega, by omega, hK _ ?_⟩ | refine ⟨by omega, by omega, by omega, by omega, hK _ ?_⟩
              repeat refine AWp.seq ?_
              refine AWp.ret ⟨.inr rfl, _, by simp [Try.results14] <;> rfl, ?_⟩
              rw [hst (by simp [badE, hs, hth])]
              exact .tup (.cons (.agg (.cons .nil (.cons .nil (.cons .nil .nil)))) (.cons (.closed rfl) (.cons (.closed rfl) .nil)))
            · have hth' : ((e.to : Int) == (h : Int)) = false := by simp; omega
              obtain ⟨l, hll⟩ : ∃ l, reachRow (nextOf g) g.n e.to = l := ⟨_, rfl⟩
              have hrl : l.length = g.n := by rw [← hll]; simp [reachRow]
              have hhl : h < l.length := by omega
              obtain ⟨b, hb⟩ : ∃ b, l[h] = b := ⟨_, rfl⟩
              have hbad : badE g h e = b := by
                simp only [badE, hs, hll, hth, decide_false, Bool.false_or, Bool.true_and, List.getD_eq_getElem?_getD, List.getElem?_eq_getElem hhl, hb, Option.getD_some]
              refine AWp.skip ?_
              refine AWp.seq ?_
              refine AWp.block ?_
              refine AWp.seq ?_
              refine AWp.reg [false, false, false, true] F14r10 [] (by kernel_rfl) (by rw [hC]; rfl) fun K hK => ?_
              simp [F14r10, hltj, hee, hs, hth', hton, hll, boolRows, hrl, hhn, hb]
              first | refine hK _ ?_ | refine ⟨by omega, hK _ ?_⟩ | refine ⟨by omega, by omega, hK _ ?_⟩ | refine ⟨by omega, by omega, by omega, hK _ ?_⟩ | refine ⟨by omega, by omega, by omega, by omega, hK _ ?_⟩
              refine AWp.seq ?_
              refine AWp.reg [] F14r11 [] (by kernel_rfl) (by rw [hC]; rfl) fun K hK => ?_
              simp [F14r11, hltj, hee, hs, hth', hton, hll, boolRows, hrl, hhn, hb]
              first | refine hK _ ?_ | refine ⟨by omega, hK _ ?_⟩ | refine ⟨by omega, by omega, hK _ ?_⟩ | refine ⟨by omega, by omega, by omega, hK _ ?_⟩ | refine ⟨by omega, by omega, by omega, by omega, hK _ ?_⟩
              cases b with
              | false =>
                refine AWp.cond false (by simp) (fun he => by cases he) (fun _ => ?_)
                refine AWp.skip ?_
                refine AWp.reg [] F14r13 [] (by kernel_rfl) (by rw [hC]; rfl) fun K hK => ?_
                simp [F14r13]
                first | refine hK _ ?_ | refine ⟨by omega, hK _ ?_⟩ | refine ⟨by omega, by omega, hK _ ?_⟩ | refine ⟨by omega, by omega, by omega, hK _ ?_⟩ | refine ⟨by omega, by omega, by omega, by omega, hK _ ?_⟩
                refine ⟨j + 1, ⟨by omega, hsk hbad⟩, by omega, ?_⟩
                simp [st14a, rowsB, wrap_nat j (by omega), boolRows]
              | true =>
                refine AWp.cond true (by simp) (fun _ => ?_) (fun he => by cases he)
                refine AWp.seq ?_
                refine AWp.regD ops_mixed [false, false, false, true, true, true] F14r12 [] (by kernel_rfl) (by rw [hC]; rfl) rfl (fun K hK => ?_) (by simp [F14r12] <;> rfl)
                simp [F14r12]
                first | refine hK _ ?_ | refine ⟨by omega, hK _ ?_⟩ | refine ⟨by omega, by omega, hK _ ?_⟩ | refine ⟨by omega, by omega, by omega, hK _ ?_⟩ | refine ⟨by omega, by omega, by omega, by omega, hK _ ?_⟩
                repeat refine AWp.seq ?_
                refine AWp.ret ⟨.inr rfl, _, by simp [Try.results14] <;> rfl, ?_⟩
                rw [hst hbad]
                exact .tup (.cons (.agg (.cons .nil (.cons .nil (.cons .nil .nil)))) (.cons (.closed rfl) (.cons (.closed rfl) .nil)))
        have hgej : ¬ j < es.length := by simpa using hgej
        refine AWp.exit ?_
        refine AWp.reg [] F14r14 [] (by kernel_rfl) (by rw [hC]; rfl) fun K hK => ?_
        simp [F14r14]
        first | refine hK _ ?_ | refine ⟨by omega, hK _ ?_⟩ | refine ⟨by omega, by omega, hK _ ?_⟩ | refine ⟨by omega, by omega, by omega, hK _ ?_⟩ | refine ⟨by omega, by omega, by omega, by omega, hK _ ?_⟩
        refine ⟨k + 1, ⟨by omega, by rw [hk2, hd, hj2, List.drop_eq_nil_of_le (by omega)]; rfl⟩, by omega, ?_⟩
        simp [st14a, rowsB, wrap_nat k (by omega)]
      have hge : ¬ k < g.heads.length := by simpa using hge
      refine AWp.exit ?_
      refine hJ _ () (by rw [hk2, List.drop_eq_nil_of_le (by omega)]; rfl) ?_
      simp
  · have hre : readE m = (⟨0, [], []⟩, checkE m) := by simp [readE, he]
    have hpr : progMake m = (⟨[], [], []⟩, checkE m) := by simp [progMake, he]
    rw [hre] at hrd
    rw [hpr]
    refine AWp.seq ?_
    refine AWp.reg [false, false, false, true] F14r0 [] (by kernel_rfl) (by rw [hC]; rfl) fun K hK => ?_
    simp [F14r0]
    first | refine hK _ ?_ | refine ⟨by omega, hK _ ?_⟩ | refine ⟨by omega, by omega, hK _ ?_⟩ | refine ⟨by omega, by omega, by omega, hK _ ?_⟩ | refine ⟨by omega, by omega, by omega, by omega, hK _ ?_⟩
    refine AWp.seq ?_
    refine AWp.reg [false, false, false, false, false, false, false, false, true, true, true] F14r1 [{ r := encRead (⟨0, [], []⟩, checkE m) }] (by kernel_rfl) (by rw [hC]; rfl) fun K hK => ?_
    simp [F14r1, encRead]
    refine ⟨callOK rfl hrd, hK _ ?_⟩
    refine AWp.seq ?_
    refine AWp.seq ?_
    refine AWp.reg [] F14r2 [] (by kernel_rfl) (by rw [hC]; rfl) fun K hK => ?_
    simp [F14r2]
    first | refine hK _ ?_ | refine ⟨by omega, hK _ ?_⟩ | refine ⟨by omega, by omega, hK _ ?_⟩ | refine ⟨by omega, by omega, by omega, hK _ ?_⟩ | refine ⟨by omega, by omega, by omega, by omega, hK _ ?_⟩
    refine AWp.cond true (by simp [he]) (fun _ => ?_) (fun he => by cases he)
    refine AWp.seq ?_
    refine AWp.regD ops_mixed [false, false, true, true, true, true] F14r3 [] (by kernel_rfl) (by rw [hC]; rfl) rfl (fun K hK => ?_) (by simp [F14r3] <;> rfl)
    simp [F14r3]
    first | refine hK _ ?_ | refine ⟨by omega, hK _ ?_⟩ | refine ⟨by omega, by omega, hK _ ?_⟩ | refine ⟨by omega, by omega, by omega, hK _ ?_⟩ | refine ⟨by omega, by omega, by omega, by omega, hK _ ?_⟩
    repeat refine AWp.seq ?_
    refine AWp.ret ⟨.inr rfl, _, by simp [Try.results14] <;> rfl, ?_⟩
    exact .tup (.cons (.agg (.cons .nil (.cons .nil (.cons .nil .nil)))) (.cons (.closed rfl) (.cons (.closed rfl) .nil)))
end Go.St
