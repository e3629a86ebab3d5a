/- The document's Make. -/
import Derived.Test.YtldaibijdhjpjaaAwZf
import Derived.Test.YtldaibijdhjpjaaStJ
import Derived.Test.YtldaibijdhjpjaaStSpQ
set_option linter.unusedSimpArgs false
set_option linter.unusedVariables false
open Go Go.Aw Go.Proofs
namespace Go.St
attribute [local simp] ints encE
-- function 13: corollary/corollaryref15.Make: 259 slots; results ['(Go.ResultVar.cell 2 39)', '(Go.ResultVar.cell 3 32)', '(Go.ResultVar.tmp 4)']
def F13r0 : List ROp := [{ dst := some 1, op := .box 28 (.tmp 0), after := [], guard := none },
  { dst := some 2, op := .alloc 39 [Value.slice none 0 0, Value.slice none 0 0, Value.slice none 0 0], after := [], guard := none },
  { dst := some 3, op := .alloc 32 [Value.int .i64 0, Value.int .i64 0], after := [], guard := none },
  { dst := some 4, op := .copy true (.const (.int .i64 0)), after := [], guard := none }]
def F13r1 : List ROp := [{ dst := some 27, op := .load 6 true false (.tmp 1), after := [], guard := none },
  { dst := some 28, op := .call (.func 22) [.tmp 27], after := [0], guard := none },
  { dst := some 26, op := .copy false (.tmp 28), after := [1], guard := none },
  { dst := some 29, op := .ext (.tmp 26) 0, after := [2], guard := none },
  { dst := some 30, op := .ext (.tmp 26) 1, after := [2], guard := none },
  { dst := some 5, op := .alloc 32 [Value.int .i64 0, Value.int .i64 0], after := [], guard := none },
  { dst := none, op := .store 2 true (.tmp 5) (.tmp 29), after := [5, 3, 1, 0, 1, 2, 3, 5], guard := none },
  { dst := some 6, op := .copy true (.tmp 30), after := [4, 6, 0, 1, 2, 3, 4, 5, 6], guard := none }]
def F13r2 : List ROp := [{ dst := some 31, op := .copy false (.tmp 6), after := [], guard := none },
  { dst := some 32, op := .bin .neq (.tmp 31) (.const (.int .i64 0)), after := [0], guard := none }]
def F13r3 : List ROp := [{ dst := some 33, op := .build [Value.slice none 0 0, Value.slice none 0 0, Value.slice none 0 0] [], after := [], guard := none },
  { dst := some 34, op := .load 2 true false (.tmp 5), after := [], guard := none },
  { dst := some 35, op := .copy true (.tmp 6), after := [], guard := none },
  { dst := none, op := .store 3 true (.tmp 2) (.tmp 33), after := [0, 0], guard := none },
  { dst := none, op := .store 2 true (.tmp 3) (.tmp 34), after := [1, 3, 0, 1, 3], guard := none },
  { dst := some 4, op := .copy true (.tmp 35), after := [2, 4, 0, 1, 2, 3, 4], guard := none }]
def F13r4 : List ROp := [{ dst := some 36, op := .fad 3 (.tmp 1), after := [], guard := none },
  { dst := some 37, op := .load 1 false false (.tmp 36), after := [0], guard := none },
  { dst := some 38, op := .len 0 (.tmp 37), after := [1], guard := none },
  { dst := some 7, op := .copy true (.tmp 38), after := [2, 0, 1, 2], guard := none }]
def F13r5 : List ROp := [{ dst := some 39, op := .load 6 true false (.tmp 1), after := [], guard := none },
  { dst := some 40, op := .call (.func 23) [.tmp 39], after := [0], guard := none },
  { dst := some 8, op := .copy true (.tmp 40), after := [1, 1, 0, 1], guard := none }]
def F13r6 : List ROp := [{ dst := some 9, op := .copy true (.const (.int .i64 0)), after := [], guard := none }]
def F13r7 : List ROp := [{ dst := some 41, op := .copy false (.tmp 9), after := [], guard := none },
  { dst := some 42, op := .fad 4 (.tmp 1), after := [], guard := none },
  { dst := some 43, op := .load 1 false false (.tmp 42), after := [1], guard := none },
  { dst := some 44, op := .len 0 (.tmp 43), after := [2], guard := none },
  { dst := some 45, op := .bin .lss (.tmp 41) (.tmp 44), after := [0, 3], guard := none }]
def F13r8 : List ROp := [{ dst := some 46, op := .copy false (.tmp 9), after := [], guard := none },
  { dst := some 47, op := .bin .add (.tmp 46) (.const (.int .i64 1)), after := [0], guard := none },
  { dst := some 9, op := .copy true (.tmp 47), after := [1, 0, 1], guard := none }]
def F13r9 : List ROp := [{ dst := some 48, op := .fad 4 (.tmp 1), after := [], guard := none },
  { dst := some 49, op := .load 1 false false (.tmp 48), after := [0], guard := none },
  { dst := some 50, op := .copy false (.tmp 9), after := [], guard := none },
  { dst := some 51, op := .iad 6 (.tmp 49) (.tmp 50), after := [1, 2], guard := none },
  { dst := some 52, op := .load 6 true false (.tmp 51), after := [3], guard := none },
  { dst := some 10, op := .alloc 52 [Value.int .i64 0, Value.int .i64 0, Value.string ByteArray.empty, Value.slice none 0 0, Value.slice none 0 0, Value.slice none 0 0], after := [], guard := none },
  { dst := none, op := .store 6 true (.tmp 10) (.tmp 52), after := [5, 4, 0, 1, 2, 3, 4, 5], guard := none }]
def F13r10 : List ROp := [{ dst := some 53, op := .load 6 true false (.tmp 1), after := [], guard := none },
  { dst := some 54, op := .fad 2 (.tmp 10), after := [], guard := none },
  { dst := some 55, op := .load 1 false false (.tmp 54), after := [1], guard := none },
  { dst := some 56, op := .call (.func 17) [.tmp 53, .tmp 55], after := [0, 2], guard := none },
  { dst := some 11, op := .copy true (.tmp 56), after := [3, 3, 0, 1, 2, 3], guard := none }]
def F13r11 : List ROp := [{ dst := some 12, op := .copy true (.const (.int .i64 0)), after := [], guard := none }]
def F13r12 : List ROp := [{ dst := some 57, op := .copy false (.tmp 12), after := [], guard := none },
  { dst := some 58, op := .fad 5 (.tmp 10), after := [], guard := none },
  { dst := some 59, op := .load 1 false false (.tmp 58), after := [1], guard := none },
  { dst := some 60, op := .len 0 (.tmp 59), after := [2], guard := none },
  { dst := some 61, op := .bin .lss (.tmp 57) (.tmp 60), after := [0, 3], guard := none }]
def F13r13 : List ROp := [{ dst := some 62, op := .copy false (.tmp 12), after := [], guard := none },
  { dst := some 63, op := .bin .add (.tmp 62) (.const (.int .i64 1)), after := [0], guard := none },
  { dst := some 12, op := .copy true (.tmp 63), after := [1, 0, 1], guard := none }]
def F13r14 : List ROp := [{ dst := some 64, op := .fad 5 (.tmp 10), after := [], guard := none },
  { dst := some 65, op := .load 1 false false (.tmp 64), after := [0], guard := none },
  { dst := some 66, op := .copy false (.tmp 12), after := [], guard := none },
  { dst := some 67, op := .iad 5 (.tmp 65) (.tmp 66), after := [1, 2], guard := none },
  { dst := some 68, op := .load 5 true false (.tmp 67), after := [3], guard := none },
  { dst := some 13, op := .alloc 56 [Value.int .u8 0, Value.int .i64 0, Value.int .i64 0, Value.string ByteArray.empty, Value.slice none 0 0], after := [], guard := none },
  { dst := none, op := .store 5 true (.tmp 13) (.tmp 68), after := [5, 4, 0, 1, 2, 3, 4, 5], guard := none }]
def F13r15 : List ROp := [{ dst := some 69, op := .load 5 true false (.tmp 13), after := [], guard := none },
  { dst := some 70, op := .call (.func 18) [.tmp 69], after := [0], guard := none },
  { dst := some 71, op := .un .not (.tmp 70), after := [1], guard := none },
  { dst := some 72, op := .copy false (.tmp 71), after := [2, 1], guard := none },
  { dst := some 73, op := .fad 0 (.tmp 13), after := [3], guard := some (72, false) },
  { dst := some 74, op := .load 1 false false (.tmp 73), after := [4, 3], guard := some (72, false) },
  { dst := some 75, op := .bin .neq (.tmp 74) (.const (.int .u8 2)), after := [5, 3], guard := some (72, false) },
  { dst := some 76, op := .copy false (.tmp 75), after := [6, 3, 3], guard := some (72, false) },
  { dst := some 77, op := .load 6 true false (.tmp 10), after := [7], guard := some (76, true) },
  { dst := some 78, op := .call (.func 26) [.tmp 77], after := [8, 7, 7], guard := some (76, true) },
  { dst := some 79, op := .un .not (.tmp 78), after := [9, 7], guard := some (76, true) },
  { dst := some 80, op := .pick (.tmp 76) (.tmp 79) (.const (.bool false)), after := [7, 10, 3], guard := some (72, false) },
  { dst := some 81, op := .pick (.tmp 72) (.const (.bool true)) (.tmp 80), after := [3, 11], guard := none }]
def F13r16 : List ROp := [{ dst := some 82, op := .load 6 true false (.tmp 1), after := [], guard := none },
  { dst := some 83, op := .fad 3 (.tmp 13), after := [], guard := none },
  { dst := some 84, op := .load 1 false false (.tmp 83), after := [1], guard := none },
  { dst := some 85, op := .call (.func 17) [.tmp 82, .tmp 84], after := [0, 2], guard := none },
  { dst := some 14, op := .copy true (.tmp 85), after := [3, 3, 0, 1, 2, 3], guard := none }]
def F13r17 : List ROp := [{ dst := some 86, op := .copy false (.tmp 14), after := [], guard := none },
  { dst := some 87, op := .copy false (.tmp 11), after := [], guard := none },
  { dst := some 88, op := .bin .eql (.tmp 86) (.tmp 87), after := [0, 1], guard := none },
  { dst := some 89, op := .copy false (.tmp 88), after := [2], guard := none },
  { dst := some 90, op := .copy false (.tmp 8), after := [3], guard := some (89, false) },
  { dst := some 91, op := .copy false (.tmp 14), after := [3], guard := some (89, false) },
  { dst := some 92, op := .copy false (.tmp 7), after := [3], guard := some (89, false) },
  { dst := some 93, op := .bin .mul (.tmp 91) (.tmp 92), after := [5, 6, 3], guard := some (89, false) },
  { dst := some 94, op := .copy false (.tmp 11), after := [3], guard := some (89, false) },
  { dst := some 95, op := .bin .add (.tmp 93) (.tmp 94), after := [7, 8, 3], guard := some (89, false) },
  { dst := some 96, op := .iad 1 (.tmp 90) (.tmp 95), after := [4, 9, 3], guard := some (89, false) },
  { dst := some 97, op := .load 1 false false (.tmp 96), after := [10, 3], guard := some (89, false) },
  { dst := some 98, op := .pick (.tmp 89) (.const (.bool true)) (.tmp 97), after := [3, 11], guard := none }]
def F13r18 : List ROp := [{ dst := some 99, op := .build [Value.slice none 0 0, Value.slice none 0 0, Value.slice none 0 0] [], after := [], guard := none },
  { dst := some 100, op := .fad 1 (.tmp 13), after := [], guard := none },
  { dst := some 101, op := .load 2 true false (.tmp 100), after := [1], guard := none },
  { dst := none, op := .store 3 true (.tmp 2) (.tmp 99), after := [0, 0], guard := none },
  { dst := none, op := .store 2 true (.tmp 3) (.tmp 101), after := [2, 3, 0, 1, 2, 3], guard := none },
  { dst := some 4, op := .copy true (.const (.int .i64 73)), after := [4, 0, 1, 2, 3, 4], guard := none }]
def F13r19 : List ROp := [{ dst := some 102, op := .copy false (.tmp 7), after := [], guard := none },
  { dst := some 103, op := .mksl 3 1 8 [Value.int .i64 0] (.tmp 102) (.tmp 102), after := [0, 0], guard := none },
  { dst := some 104, op := .build [Value.slice none 0 0, Value.slice none 0 0, Value.slice none 0 0] [(0, 1, .tmp 103)], after := [1], guard := none },
  { dst := some 15, op := .alloc 39 [Value.slice none 0 0, Value.slice none 0 0, Value.slice none 0 0], after := [], guard := none },
  { dst := none, op := .store 3 true (.tmp 15) (.tmp 104), after := [3, 2, 0, 1, 2, 3], guard := none }]
def F13r20 : List ROp := [{ dst := some 16, op := .copy true (.const (.int .i64 0)), after := [], guard := none }]
def F13r21 : List ROp := [{ dst := some 105, op := .copy false (.tmp 16), after := [], guard := none },
  { dst := some 106, op := .copy false (.tmp 7), after := [], guard := none },
  { dst := some 107, op := .bin .leq (.tmp 105) (.tmp 106), after := [0, 1], guard := none }]
def F13r22 : List ROp := [{ dst := some 108, op := .copy false (.tmp 16), after := [], guard := none },
  { dst := some 109, op := .bin .add (.tmp 108) (.const (.int .i64 1)), after := [0], guard := none },
  { dst := some 16, op := .copy true (.tmp 109), after := [1, 0, 1], guard := none }]
def F13r23 : List ROp := [{ dst := some 17, op := .copy true (.const (.int .i64 0)), after := [], guard := none }]
def F13r24 : List ROp := [{ dst := some 110, op := .copy false (.tmp 17), after := [], guard := none },
  { dst := some 111, op := .fad 4 (.tmp 1), after := [], guard := none },
  { dst := some 112, op := .load 1 false false (.tmp 111), after := [1], guard := none },
  { dst := some 113, op := .len 0 (.tmp 112), after := [2], guard := none },
  { dst := some 114, op := .bin .lss (.tmp 110) (.tmp 113), after := [0, 3], guard := none }]
def F13r25 : List ROp := [{ dst := some 115, op := .copy false (.tmp 17), after := [], guard := none },
  { dst := some 116, op := .bin .add (.tmp 115) (.const (.int .i64 1)), after := [0], guard := none },
  { dst := some 17, op := .copy true (.tmp 116), after := [1, 0, 1], guard := none }]
def F13r26 : List ROp := [{ dst := some 117, op := .fad 4 (.tmp 1), after := [], guard := none },
  { dst := some 118, op := .load 1 false false (.tmp 117), after := [0], guard := none },
  { dst := some 119, op := .copy false (.tmp 17), after := [], guard := none },
  { dst := some 120, op := .iad 6 (.tmp 118) (.tmp 119), after := [1, 2], guard := none },
  { dst := some 121, op := .load 6 true false (.tmp 120), after := [3], guard := none },
  { dst := some 18, op := .alloc 52 [Value.int .i64 0, Value.int .i64 0, Value.string ByteArray.empty, Value.slice none 0 0, Value.slice none 0 0, Value.slice none 0 0], after := [], guard := none },
  { dst := none, op := .store 6 true (.tmp 18) (.tmp 121), after := [5, 4, 0, 1, 2, 3, 4, 5], guard := none }]
def F13r27 : List ROp := [{ dst := some 122, op := .load 6 true false (.tmp 1), after := [], guard := none },
  { dst := some 123, op := .fad 2 (.tmp 18), after := [], guard := none },
  { dst := some 124, op := .load 1 false false (.tmp 123), after := [1], guard := none },
  { dst := some 125, op := .call (.func 17) [.tmp 122, .tmp 124], after := [0, 2], guard := none },
  { dst := some 19, op := .copy true (.tmp 125), after := [3, 3, 0, 1, 2, 3], guard := none }]
def F13r28 : List ROp := [{ dst := some 20, op := .copy true (.const (.int .i64 0)), after := [], guard := none }]
def F13r29 : List ROp := [{ dst := some 126, op := .copy false (.tmp 20), after := [], guard := none },
  { dst := some 127, op := .fad 5 (.tmp 18), after := [], guard := none },
  { dst := some 128, op := .load 1 false false (.tmp 127), after := [1], guard := none },
  { dst := some 129, op := .len 0 (.tmp 128), after := [2], guard := none },
  { dst := some 130, op := .bin .lss (.tmp 126) (.tmp 129), after := [0, 3], guard := none }]
def F13r30 : List ROp := [{ dst := some 131, op := .copy false (.tmp 20), after := [], guard := none },
  { dst := some 132, op := .bin .add (.tmp 131) (.const (.int .i64 1)), after := [0], guard := none },
  { dst := some 20, op := .copy true (.tmp 132), after := [1, 0, 1], guard := none }]
def F13r31 : List ROp := [{ dst := some 133, op := .fad 5 (.tmp 18), after := [], guard := none },
  { dst := some 134, op := .load 1 false false (.tmp 133), after := [0], guard := none },
  { dst := some 135, op := .copy false (.tmp 20), after := [], guard := none },
  { dst := some 136, op := .iad 5 (.tmp 134) (.tmp 135), after := [1, 2], guard := none },
  { dst := some 137, op := .load 5 true false (.tmp 136), after := [3], guard := none },
  { dst := some 138, op := .call (.func 18) [.tmp 137], after := [4], guard := none },
  { dst := some 139, op := .un .not (.tmp 138), after := [5], guard := none }]
def F13r32 : List ROp := [{ dst := some 140, op := .fad 0 (.tmp 15), after := [], guard := none },
  { dst := some 141, op := .load 1 false false (.tmp 140), after := [0], guard := none },
  { dst := some 142, op := .load 6 true false (.tmp 1), after := [], guard := none },
  { dst := some 143, op := .fad 5 (.tmp 18), after := [], guard := none },
  { dst := some 144, op := .load 1 false false (.tmp 143), after := [3], guard := none },
  { dst := some 145, op := .copy false (.tmp 20), after := [], guard := none },
  { dst := some 146, op := .iad 5 (.tmp 144) (.tmp 145), after := [4, 5], guard := none },
  { dst := some 147, op := .fad 3 (.tmp 146), after := [6], guard := none },
  { dst := some 148, op := .load 1 false false (.tmp 147), after := [7], guard := none },
  { dst := some 149, op := .call (.func 17) [.tmp 142, .tmp 148], after := [2, 8], guard := none },
  { dst := some 150, op := .iad 1 (.tmp 141) (.tmp 149), after := [1, 9], guard := none },
  { dst := some 151, op := .load 1 false false (.tmp 150), after := [10], guard := none },
  { dst := some 21, op := .copy true (.tmp 151), after := [11, 9, 0, 1, 2, 3, 4, 5, 6, 7, 8, 9, 10, 11], guard := none }]
def F13r33 : List ROp := [{ dst := some 152, op := .fad 5 (.tmp 18), after := [], guard := none },
  { dst := some 153, op := .load 1 false false (.tmp 152), after := [0], guard := none },
  { dst := some 154, op := .copy false (.tmp 20), after := [], guard := none },
  { dst := some 155, op := .iad 5 (.tmp 153) (.tmp 154), after := [1, 2], guard := none },
  { dst := some 156, op := .fad 0 (.tmp 155), after := [3], guard := none },
  { dst := some 157, op := .load 1 false false (.tmp 156), after := [4], guard := none },
  { dst := some 158, op := .bin .eql (.tmp 157) (.const (.int .u8 2)), after := [5], guard := none },
  { dst := some 159, op := .copy false (.tmp 158), after := [6], guard := none },
  { dst := some 160, op := .load 6 true false (.tmp 18), after := [7], guard := some (159, false) },
  { dst := some 161, op := .call (.func 26) [.tmp 160], after := [8, 7, 7], guard := some (159, false) },
  { dst := some 162, op := .pick (.tmp 159) (.const (.bool true)) (.tmp 161), after := [7, 9], guard := none }]
def F13r34 : List ROp := [{ dst := some 163, op := .copy false (.tmp 21), after := [], guard := none },
  { dst := some 164, op := .bin .add (.tmp 163) (.const (.int .i64 1)), after := [0], guard := none },
  { dst := some 21, op := .copy true (.tmp 164), after := [1, 0, 1], guard := none }]
def F13r35 : List ROp := [{ dst := some 165, op := .copy false (.tmp 21), after := [], guard := none },
  { dst := some 166, op := .fad 0 (.tmp 15), after := [], guard := none },
  { dst := some 167, op := .load 1 false false (.tmp 166), after := [1], guard := none },
  { dst := some 168, op := .copy false (.tmp 19), after := [], guard := none },
  { dst := some 169, op := .iad 1 (.tmp 167) (.tmp 168), after := [2, 3], guard := none },
  { dst := some 170, op := .load 1 false false (.tmp 169), after := [4], guard := none },
  { dst := some 171, op := .bin .gtr (.tmp 165) (.tmp 170), after := [0, 5], guard := none }]
def F13r36 : List ROp := [{ dst := some 172, op := .fad 0 (.tmp 15), after := [], guard := none },
  { dst := some 173, op := .load 1 false false (.tmp 172), after := [0], guard := none },
  { dst := some 174, op := .copy false (.tmp 19), after := [], guard := none },
  { dst := some 175, op := .copy true (.tmp 21), after := [], guard := none },
  { dst := some 176, op := .iad 1 (.tmp 173) (.tmp 174), after := [1, 2, 0, 1, 2, 3], guard := none },
  { dst := none, op := .store 1 true (.tmp 176) (.tmp 175), after := [4, 3, 0, 1, 2, 3], guard := none }]
def F13r37 : List ROp := [{ dst := some 22, op := .copy true (.const (.int .i64 0)), after := [], guard := none }]
def F13r38 : List ROp := [{ dst := some 177, op := .copy false (.tmp 22), after := [], guard := none },
  { dst := some 178, op := .copy false (.tmp 7), after := [], guard := none },
  { dst := some 179, op := .bin .lss (.tmp 177) (.tmp 178), after := [0, 1], guard := none }]
def F13r39 : List ROp := [{ dst := some 180, op := .copy false (.tmp 22), after := [], guard := none },
  { dst := some 181, op := .bin .add (.tmp 180) (.const (.int .i64 1)), after := [0], guard := none },
  { dst := some 22, op := .copy true (.tmp 181), after := [1, 0, 1], guard := none }]
def F13r40 : List ROp := [{ dst := some 182, op := .fad 0 (.tmp 15), after := [], guard := none },
  { dst := some 183, op := .load 1 false false (.tmp 182), after := [0], guard := none },
  { dst := some 184, op := .copy false (.tmp 22), after := [], guard := none },
  { dst := some 185, op := .iad 1 (.tmp 183) (.tmp 184), after := [1, 2], guard := none },
  { dst := some 186, op := .load 1 false false (.tmp 185), after := [3], guard := none },
  { dst := some 187, op := .fad 1 (.tmp 15), after := [], guard := none },
  { dst := some 188, op := .load 1 false false (.tmp 187), after := [5], guard := none },
  { dst := some 189, op := .len 0 (.tmp 188), after := [6], guard := none },
  { dst := some 190, op := .bin .geq (.tmp 186) (.tmp 189), after := [4, 7], guard := none }]
def F13r41 : List ROp := [{ dst := some 191, op := .fad 1 (.tmp 15), after := [], guard := none },
  { dst := some 192, op := .load 1 false true (.tmp 191), after := [0], guard := none },
  { dst := some 193, op := .bslice 37 1 [Value.slice none 0 0] 1 [(0, .const (.slice none 0 0))], after := [], guard := none },
  { dst := some 194, op := .app 37 1 24 (.tmp 192) (.tmp 193), after := [1, 2], guard := none },
  { dst := some 195, op := .fad 1 (.tmp 15), after := [0, 1, 2, 3], guard := none },
  { dst := none, op := .store 1 true (.tmp 195) (.tmp 194), after := [4, 3, 3, 0, 1, 2, 3], guard := none }]
def F13r42 : List ROp := [{ dst := some 196, op := .fad 2 (.tmp 15), after := [], guard := none },
  { dst := some 197, op := .load 1 false true (.tmp 196), after := [0], guard := none },
  { dst := some 198, op := .bslice 37 1 [Value.slice none 0 0] 1 [(0, .const (.slice none 0 0))], after := [], guard := none },
  { dst := some 199, op := .app 37 1 24 (.tmp 197) (.tmp 198), after := [1, 2], guard := none },
  { dst := some 200, op := .fad 2 (.tmp 15), after := [0, 1, 2, 3], guard := none },
  { dst := none, op := .store 1 true (.tmp 200) (.tmp 199), after := [4, 3, 3, 0, 1, 2, 3], guard := none }]
def F13r43 : List ROp := [{ dst := some 23, op := .copy true (.const (.int .i64 0)), after := [], guard := none }]
def F13r44 : List ROp := [{ dst := some 201, op := .copy false (.tmp 23), after := [], guard := none },
  { dst := some 202, op := .copy false (.tmp 7), after := [], guard := none },
  { dst := some 203, op := .bin .lss (.tmp 201) (.tmp 202), after := [0, 1], guard := none }]
def F13r45 : List ROp := [{ dst := some 204, op := .copy false (.tmp 23), after := [], guard := none },
  { dst := some 205, op := .bin .add (.tmp 204) (.const (.int .i64 1)), after := [0], guard := none },
  { dst := some 23, op := .copy true (.tmp 205), after := [1, 0, 1], guard := none }]
def F13r46 : List ROp := [{ dst := some 206, op := .fad 1 (.tmp 15), after := [], guard := none },
  { dst := some 207, op := .load 1 false false (.tmp 206), after := [0], guard := none },
  { dst := some 208, op := .fad 0 (.tmp 15), after := [], guard := none },
  { dst := some 209, op := .load 1 false false (.tmp 208), after := [2], guard := none },
  { dst := some 210, op := .copy false (.tmp 23), after := [], guard := none },
  { dst := some 211, op := .iad 1 (.tmp 209) (.tmp 210), after := [3, 4], guard := none },
  { dst := some 212, op := .load 1 false false (.tmp 211), after := [5], guard := none },
  { dst := some 213, op := .fad 1 (.tmp 15), after := [], guard := none },
  { dst := some 214, op := .load 1 false false (.tmp 213), after := [7], guard := none },
  { dst := some 215, op := .fad 0 (.tmp 15), after := [], guard := none },
  { dst := some 216, op := .load 1 false false (.tmp 215), after := [9], guard := none },
  { dst := some 217, op := .copy false (.tmp 23), after := [], guard := none },
  { dst := some 218, op := .iad 1 (.tmp 216) (.tmp 217), after := [10, 11], guard := none },
  { dst := some 219, op := .load 1 false false (.tmp 218), after := [12], guard := none },
  { dst := some 220, op := .iad 1 (.tmp 214) (.tmp 219), after := [8, 13], guard := none },
  { dst := some 221, op := .load 1 false true (.tmp 220), after := [14], guard := none },
  { dst := some 222, op := .copy false (.tmp 23), after := [], guard := none },
  { dst := some 223, op := .bslice 3 1 [Value.int .i64 0] 1 [(0, .tmp 222)], after := [16], guard := none },
  { dst := some 224, op := .app 3 1 8 (.tmp 221) (.tmp 223), after := [15, 17], guard := none },
  { dst := some 225, op := .iad 1 (.tmp 207) (.tmp 212), after := [1, 6, 0, 1, 2, 3, 4, 5, 6, 7, 8, 9, 10, 11, 12, 13, 14, 15, 16, 17, 18], guard := none },
  { dst := none, op := .store 1 true (.tmp 225) (.tmp 224), after := [19, 18, 18, 0, 1, 2, 3, 4, 5, 6, 7, 8, 9, 10, 11, 12, 13, 14, 15, 16, 17, 18], guard := none }]
def F13r47 : List ROp := [{ dst := some 24, op := .copy true (.const (.int .i64 0)), after := [], guard := none }]
def F13r48 : List ROp := [{ dst := some 226, op := .copy false (.tmp 24), after := [], guard := none },
  { dst := some 227, op := .fad 4 (.tmp 1), after := [], guard := none },
  { dst := some 228, op := .load 1 false false (.tmp 227), after := [1], guard := none },
  { dst := some 229, op := .len 0 (.tmp 228), after := [2], guard := none },
  { dst := some 230, op := .bin .lss (.tmp 226) (.tmp 229), after := [0, 3], guard := none }]
def F13r49 : List ROp := [{ dst := some 231, op := .copy false (.tmp 24), after := [], guard := none },
  { dst := some 232, op := .bin .add (.tmp 231) (.const (.int .i64 1)), after := [0], guard := none },
  { dst := some 24, op := .copy true (.tmp 232), after := [1, 0, 1], guard := none }]
def F13r50 : List ROp := [{ dst := some 233, op := .fad 0 (.tmp 15), after := [], guard := none },
  { dst := some 234, op := .load 1 false false (.tmp 233), after := [0], guard := none },
  { dst := some 235, op := .load 6 true false (.tmp 1), after := [], guard := none },
  { dst := some 236, op := .fad 4 (.tmp 1), after := [], guard := none },
  { dst := some 237, op := .load 1 false false (.tmp 236), after := [3], guard := none },
  { dst := some 238, op := .copy false (.tmp 24), after := [], guard := none },
  { dst := some 239, op := .iad 6 (.tmp 237) (.tmp 238), after := [4, 5], guard := none },
  { dst := some 240, op := .fad 2 (.tmp 239), after := [6], guard := none },
  { dst := some 241, op := .load 1 false false (.tmp 240), after := [7], guard := none },
  { dst := some 242, op := .call (.func 17) [.tmp 235, .tmp 241], after := [2, 8], guard := none },
  { dst := some 243, op := .iad 1 (.tmp 234) (.tmp 242), after := [1, 9], guard := none },
  { dst := some 244, op := .load 1 false false (.tmp 243), after := [10], guard := none },
  { dst := some 25, op := .copy true (.tmp 244), after := [11, 9, 0, 1, 2, 3, 4, 5, 6, 7, 8, 9, 10, 11], guard := none }]
def F13r51 : List ROp := [{ dst := some 245, op := .fad 2 (.tmp 15), after := [], guard := none },
  { dst := some 246, op := .load 1 false false (.tmp 245), after := [0], guard := none },
  { dst := some 247, op := .copy false (.tmp 25), after := [], guard := none },
  { dst := some 248, op := .fad 2 (.tmp 15), after := [], guard := none },
  { dst := some 249, op := .load 1 false false (.tmp 248), after := [3], guard := none },
  { dst := some 250, op := .copy false (.tmp 25), after := [], guard := none },
  { dst := some 251, op := .iad 1 (.tmp 249) (.tmp 250), after := [4, 5], guard := none },
  { dst := some 252, op := .load 1 false true (.tmp 251), after := [6], guard := none },
  { dst := some 253, op := .copy false (.tmp 24), after := [], guard := none },
  { dst := some 254, op := .bslice 3 1 [Value.int .i64 0] 1 [(0, .tmp 253)], after := [8], guard := none },
  { dst := some 255, op := .app 3 1 8 (.tmp 252) (.tmp 254), after := [7, 9], guard := none },
  { dst := some 256, op := .iad 1 (.tmp 246) (.tmp 247), after := [1, 2, 0, 1, 2, 3, 4, 5, 6, 7, 8, 9, 10], guard := none },
  { dst := none, op := .store 1 true (.tmp 256) (.tmp 255), after := [11, 10, 10, 0, 1, 2, 3, 4, 5, 6, 7, 8, 9, 10], guard := none }]
def F13r52 : List ROp := [{ dst := some 257, op := .load 3 true false (.tmp 15), after := [], guard := none },
  { dst := some 258, op := .build [Value.int .i64 0, Value.int .i64 0] [], after := [], guard := none },
  { dst := none, op := .store 3 true (.tmp 2) (.tmp 257), after := [0, 0], guard := none },
  { dst := none, op := .store 2 true (.tmp 3) (.tmp 258), after := [1, 2, 0, 1, 2], guard := none },
  { dst := some 4, op := .copy true (.const (.int .i64 0)), after := [3, 0, 1, 2, 3], guard := none }]
@[simp] theorem ag39 : isAggT Try.prog 39 = some true := by kernel_rfl
@[simp] theorem sz39 : szOf Try.prog 39 = some 3 := by kernel_rfl
def nil3 : List AV := [.val (.slice none 0 0), .val (.slice none 0 0), .val (.slice none 0 0)]
attribute [simp] nil3
/-- is it refused? -/
noncomputable def st13a (m : MMod) (ts : List (Nat × AV)) (bs : List (Nat × Blk)) : AS := { tm := [(1, .ptr 1 0), (2, .ptr 2 0), (3, .ptr 3 0), (7, ival m.rels.length), (8, .rd 1 (boolRows (closed m)))] ++ ts, hp := [(1, .cells 28 (modCells m)), (2, .cells 39 nil3), (3, .cells 32 okCells)] ++ bs }
/-- the numbers -/
def st13b (m : MMod) (of : List Nat) (ts : List (Nat × AV)) (bs : List (Nat × Blk)) : AS := { tm := [(1, .ptr 1 0), (2, .ptr 2 0), (3, .ptr 3 0), (7, ival m.rels.length), (15, .ptr 15 0)] ++ ts, hp := [(1, .cells 28 (modCells m)), (2, .cells 39 nil3), (3, .cells 32 okCells), (15, .cells 39 [.vec 103 1 0 m.rels.length m.rels.length, .val (.slice none 0 0), .val (.slice none 0 0)]), (103, .cells 3 (cellsI of))] ++ bs }
/-- rows that grow: all of them still empty -/
def ownR (c : Nat) : AV := .own 37 1 (List.replicate c [.val (.slice none 0 0)])
def st13c (m : MMod) (of : List Nat) (c : Nat) (ts : List (Nat × AV)) : AS := { tm := [(1, .ptr 1 0), (2, .ptr 2 0), (3, .ptr 3 0), (7, ival m.rels.length), (15, .ptr 15 0)] ++ ts, hp := [(1, .cells 28 (modCells m)), (2, .cells 39 nil3), (3, .cells 32 okCells), (15, .cells 39 [.vec 103 1 0 m.rels.length m.rels.length, ownR c, ownR c]), (103, .cells 3 (cellsI of))] }
/-- rows, and room behind them -/
def cellsE (l : List (List Nat)) (e : Nat) : List AV := l.map encO ++ List.replicate e .unk
@[simp] theorem cellsE_len (l : List (List Nat)) (e : Nat) : (cellsE l e).length = l.length + e := by simp [cellsE]
@[simp] theorem cellsE_within (ids : List Nat) (l : List (List Nat)) (e : Nat) : withinL ids (cellsE l e) = true := by simp [cellsE]
theorem cellsE_at {l : List (List Nat)} {e v : Nat} (h : v < l.length) : (cellsE l e)[v]? = some (.own 3 1 (ints l[v])) := by
  simp [cellsE, List.getElem?_append_left, h, encO]
theorem cellsE_set {l : List (List Nat)} {e v : Nat} {r : List Nat} (h : v < l.length) : (cellsE l e).set v (.own 3 1 (ints r)) = cellsE (l.set v r) e := by
  unfold cellsE
  rw [List.set_append_left _ _ (by simpa using h), List.map_set]; rfl
theorem wkL_append {b d : List AV} (h2 : wkL b d) : ∀ {a c : List AV}, (a = c ∨ wkL a c) → wkL (a ++ b) (c ++ d)
  | [], [], _ => h2
  | [], _ :: _, h => by rcases h with h | h; cases h; simp [wkL] at h
  | _ :: _, [], h => by rcases h with h | h; cases h; simp [wkL] at h
  | x :: a, y :: c, h => by
    simp only [List.cons_append, wkL]
    rcases h with h | h
    · cases h; exact ⟨.inl rfl, .inr (wkL_append h2 (.inl rfl))⟩
    · simp only [wkL] at h
      exact ⟨h.1, .inr (wkL_append h2 h.2)⟩
theorem flat_nil (c : Nat) (x : AV) : (List.replicate c [x]).flatten = List.replicate c x := by
  induction c with
  | zero => rfl
  | succ c ih => simp [List.replicate_succ, ih]
@[simp] theorem thawed_wk (c e : Nat) : wkL (List.replicate c (AV.val (.slice none 0 0)) ++ List.replicate e .unk) (cellsE (List.replicate c []) e) := by
  refine wkL_append ?_ (.inr ?_)
  · simp
  · simp [encO, weakP]
theorem RsvL.append {g : Nat → Option Blk} : ∀ {a b c d : List AV}, RsvL g a c → RsvL g b d → RsvL g (a ++ b) (c ++ d)
  | _, _, _, _, .nil, h => h
  | _, _, _, _, .cons x h1, h2 => .cons x (RsvL.append h1 h2)
theorem Rsv.vecE {g : Nat → Option Blk} {b e : Nat} {t : TypeId} {l : List (List Nat)} (h : g b = some (.cells t (cellsE l e))) : Rsv g (.vec b 1 0 l.length (l.length + e)) (encRows l) := by
  have := Rsv.vec (w := 1) (off := 0) (n := l.length) (cap := l.length + e) h (RsvL.append (RsvL.mapO l) (RsvL.closed (l := List.replicate e AV.unk) (by simp))) (by simp) (by omega)
  rw [List.drop_zero] at this
  have h2 : chunk 1 l.length (l.map encInts ++ List.replicate e AV.unk) = l.map fun x => [encInts x] := by
    unfold chunk
    apply List.ext_getElem
    · simp
    · intro i h1 h2
      simp only [List.length_map, List.length_range] at h1
      simp [List.take_one, List.head?_drop, List.getElem?_append_left, h1]
  rw [h2] at this
  simpa [encRows] using this
def notNil : Value → Bool
  | .slice none 0 0 => false
  | _ => true
theorem shpR_map {α : Type} {q : Value → Bool} {f : α → List AV} {l : List α} (h : ∀ x ∈ l, (f x).any (fun x => match x with | .val v => q v | _ => false) = true ∧ shpL q (f x) = true) : shpR q (l.map f) = true := by
  induction l with
  | nil => rfl
  | cons x l ih =>
    simp only [List.map_cons, shpR, Bool.and_eq_true]
    exact ⟨h x (by simp), ih fun y hy => h y (by simp [hy])⟩
theorem shp_mod (m : MMod) : shpTL notNil (modCells m) = true := by
  have h1 : shpR notNil (m.rels.map encRel) = true := shpR_map fun x _ => by simp [encRel, notNil, shpL, shp]
  have h2 : shpR notNil (m.rules.map encRule) = true := shpR_map fun x _ => by
    have a1 : shpR notNil (x.aggs.map encText) = true := shpR_map fun y _ => by simp [encText, notNil, shpL, shp]
    have a2 : shpR notNil (x.body.map encLit) = true := shpR_map fun y _ => by simp [encLit, notNil, shpL, shp]
    simp only [encRule, shpL, shp, a1, a2]
    simp [notNil, shp]
  have h3 : shpR notNil (m.nevers.map encNev) = true := shpR_map fun x _ => by
    have a2 : shpR notNil (x.body.map encLit) = true := shpR_map fun y _ => by simp [encLit, notNil, shpL, shp]
    simp only [encNev, shpL, shp, a2]
    simp [notNil, shp]
  simp only [modCells, shpTL, List.all_cons, List.all_nil, shpT, shp, h1, h2, h3]
  rfl
theorem shp_ints (of : List Nat) : shpTL notNil (cellsI of) = true := by
  simp only [shpTL, cellsI, List.all_map, List.all_eq_true]
  intro x _; rfl
theorem shp_cellsE (l : List (List Nat)) (e : Nat) : shpTL notNil (cellsE l e) = true := by
  simp only [shpTL, cellsE, List.all_append, Bool.and_eq_true, List.all_eq_true]
  refine ⟨fun x hx => ?_, fun x hx => ?_⟩
  · obtain ⟨r, _, rfl⟩ := List.mem_map.1 hx
    simp only [encO, shpT, List.all_eq_true, ints]
    intro y hy
    obtain ⟨n, _, rfl⟩ := List.mem_map.1 hy
    rfl
  · rw [List.eq_of_mem_replicate hx]; rfl
/-- rows that are written by index -/
def st13d (m : MMod) (of : List Nat) (rels : List (List Nat)) (e1 : Nat) (rules : List (List Nat)) (e2 : Nat) (ts : List (Nat × AV)) : AS := { tm := [(1, .ptr 1 0), (2, .ptr 2 0), (3, .ptr 3 0), (7, ival m.rels.length), (15, .ptr 15 0)] ++ ts, hp := [(1, .cells 28 (modCells m)), (2, .cells 39 nil3), (3, .cells 32 okCells), (15, .cells 39 [.vec 103 1 0 m.rels.length m.rels.length, .vec 191 1 0 rels.length (rels.length + e1), .vec 196 1 0 rules.length (rules.length + e2)]), (103, .cells 3 (cellsI of)), (191, .cells 37 (cellsE rels e1)), (196, .cells 37 (cellsE rules e2))] }
def st13t (m : MMod) (of : List Nat) (c e1 : Nat) (ts : List (Nat × AV)) : AS := { tm := [(1, .ptr 1 0), (2, .ptr 2 0), (3, .ptr 3 0), (7, ival m.rels.length), (15, .ptr 15 0)] ++ ts, hp := [(1, .cells 28 (modCells m)), (2, .cells 39 nil3), (3, .cells 32 okCells), (15, .cells 39 [.vec 103 1 0 m.rels.length m.rels.length, .vec 191 1 0 c (c + e1), ownR c]), (103, .cells 3 (cellsI of)), (191, .cells 37 (cellsE (List.replicate c []) e1))] }
set_option maxHeartbeats 4000000 in
theorem RefMake_ok (m : MMod) (hm : m.ok) (hs : Small m) : Con Try.prog 13 [encMod m] (encMakeR (progMake m)) := by
  have hc := Check_ok m hm
  have h30 := hs.rels
  have h300 := hs.rules
  refine Con.of_code2 Try.func13 (by kernel_rfl) rfl (by simp [Try.ntmps13]) fun C hC hM hF => ?_
  by_cases he : (checkE m).2 = 0
  · have hok := checkE_ok he
    have hgd := Check_good hs.rels he
    have hg := graph_ok hgd hs
    have hpm : progMake m = makeOf (graphOf m) := by simp only [progMake, he, if_true]
    have hcl := Closed_ok m hm hgd
    rw [hok] at hc
    rw [hpm]
    refine AWp.seq ?_
    refine AWp.reg [false, false, false, true] F13r0 [] (by kernel_rfl) (by rw [hC]; rfl) fun K hK => ?_
    simp [F13r0]
    first | refine hK _ ?_ | refine ⟨by omega, hK _ ?_⟩ | refine ⟨by omega, by omega, hK _ ?_⟩ | refine ⟨by omega, by omega, by omega, hK _ ?_⟩ | refine ⟨by omega, by omega, by omega, by omega, hK _ ?_⟩
    refine AWp.seq ?_
    refine AWp.reg [false, false, false, false, false, false, true, true] F13r1 [{ r := encE okE }] (by kernel_rfl) (by rw [hC]; rfl) fun K hK => ?_
    simp [F13r1, okE]
    refine ⟨callOK rfl hc, hK _ ?_⟩
    refine AWp.seq ?_
    refine AWp.seq ?_
    refine AWp.reg [] F13r2 [] (by kernel_rfl) (by rw [hC]; rfl) fun K hK => ?_
    simp [F13r2]
    first | refine hK _ ?_ | refine ⟨by omega, hK _ ?_⟩ | refine ⟨by omega, by omega, hK _ ?_⟩ | refine ⟨by omega, by omega, by omega, hK _ ?_⟩ | refine ⟨by omega, by omega, by omega, by omega, hK _ ?_⟩
    refine AWp.cond false (by simp) (fun he => by cases he) (fun _ => ?_)
    refine AWp.skip ?_
    refine AWp.seq ?_
    refine AWp.reg [false, false, false, true] F13r4 [] (by kernel_rfl) (by rw [hC]; rfl) fun K hK => ?_
    simp [F13r4]
    first | refine hK _ ?_ | refine ⟨by omega, hK _ ?_⟩ | refine ⟨by omega, by omega, hK _ ?_⟩ | refine ⟨by omega, by omega, by omega, hK _ ?_⟩ | refine ⟨by omega, by omega, by omega, by omega, hK _ ?_⟩
    refine AWp.seq ?_
    refine AWp.reg [false, false, true] F13r5 [{ r := .rd 1 ((closed m).map fun b => [.val (.bool b)]) }] (by kernel_rfl) (by rw [hC]; rfl) fun K hK => ?_
    simp [F13r5]
    refine ⟨callOK rfl hcl, hK _ ?_⟩
    refine AWp.seq ?_
    refine AWp.seq ?_
    refine AWp.reg [true] F13r6 [] (by kernel_rfl) (by rw [hC]; rfl) fun K hK => ?_
    simp [F13r6]
    first | refine hK _ ?_ | refine ⟨by omega, hK _ ?_⟩ | refine ⟨by omega, by omega, hK _ ?_⟩ | refine ⟨by omega, by omega, by omega, hK _ ?_⟩ | refine ⟨by omega, by omega, by omega, by omega, hK _ ?_⟩
    refine AWp.block ?_
    refine AWp.loopG (fun k : Nat => st13a m [(9, ival k)] []) (fun k => k ≤ m.rules.length ∧ refR m m.rules = refR m (m.rules.drop k)) (fun k => m.rules.length - k) 0 (by simp) (by simp [st13a, boolRows]) (fun k hk => ?_)
    obtain ⟨hk1, hk2⟩ := hk
    refine AWp.seq ?_
    refine AWp.seq ?_
    refine AWp.reg [] F13r7 [] (by kernel_rfl) (by rw [hC]; rfl) fun K hK => ?_
    simp [F13r7, st13a]
    first | refine hK _ ?_ | refine ⟨by omega, hK _ ?_⟩ | refine ⟨by omega, by omega, hK _ ?_⟩ | refine ⟨by omega, by omega, by omega, hK _ ?_⟩ | refine ⟨by omega, by omega, by omega, by omega, hK _ ?_⟩
    refine AWp.cond (decide (k < m.rules.length)) (by simp) (fun hlt => ?_) (fun hge => ?_)
    · skip
      have hlt : k < m.rules.length := by simpa using hlt
      have hrm : m.rules[k] ∈ m.rules := List.getElem_mem hlt
      have hd := refR_drop k hlt
      obtain ⟨r, hrr⟩ : ∃ r, m.rules[k] = r := ⟨_, rfl⟩
      rw [hrr] at hrm hd
      have hb := hm.bodies _ hrm
      have hagg := hm.aggs _ hrm
      have hhd := hgd.heads _ hrm
      have ha1 := At_ok m r.rel hm
      rw [At_idx hhd] at ha1
      have hi1 := idx_lt hhd
      obtain ⟨h, hh⟩ : ∃ h, idx m r.rel = h := ⟨_, rfl⟩
      rw [hh] at ha1 hi1
      refine AWp.skip ?_
      refine AWp.seq ?_
      refine AWp.block ?_
      refine AWp.seq ?_
      refine AWp.reg [false, false, false, false, false, false, true] F13r9 [] (by kernel_rfl) (by rw [hC]; rfl) fun K hK => ?_
      simp [F13r9, hlt, hrr]
      first | refine hK _ ?_ | refine ⟨by omega, hK _ ?_⟩ | refine ⟨by omega, by omega, hK _ ?_⟩ | refine ⟨by omega, by omega, by omega, hK _ ?_⟩ | refine ⟨by omega, by omega, by omega, by omega, hK _ ?_⟩
      refine AWp.seq ?_
      refine AWp.reg [false, false, false, false, true] F13r10 [{ r := ival h }] (by kernel_rfl) (by rw [hC]; rfl) fun K hK => ?_
      simp [F13r10]
      refine ⟨callOK rfl ha1, hK _ ?_⟩
      refine AWp.seq ?_
      refine AWp.reg [true] F13r11 [] (by kernel_rfl) (by rw [hC]; rfl) fun K hK => ?_
      simp [F13r11]
      first | refine hK _ ?_ | refine ⟨by omega, hK _ ?_⟩ | refine ⟨by omega, by omega, hK _ ?_⟩ | refine ⟨by omega, by omega, by omega, hK _ ?_⟩ | refine ⟨by omega, by omega, by omega, by omega, hK _ ?_⟩
      refine AWp.block ?_
      refine AWp.loopG (fun j : Nat => st13a m [(9, ival k), (10, .ptr 10 0), (11, ival h), (12, ival j)] [(10, .cells 52 (encRule r))]) (fun j => j ≤ r.body.length ∧ refB m r r.body = refB m r (r.body.drop j)) (fun j => r.body.length - j) 0 (by simp) (by simp [st13a, boolRows]) (fun j hj => ?_)
      obtain ⟨hj1, hj2⟩ := hj
      refine AWp.seq ?_
      refine AWp.seq ?_
      refine AWp.reg [] F13r12 [] (by kernel_rfl) (by rw [hC]; rfl) fun K hK => ?_
      simp [F13r12, st13a]
      first | refine hK _ ?_ | refine ⟨by omega, hK _ ?_⟩ | refine ⟨by omega, by omega, hK _ ?_⟩ | refine ⟨by omega, by omega, by omega, hK _ ?_⟩ | refine ⟨by omega, by omega, by omega, by omega, hK _ ?_⟩
      refine AWp.cond (decide (j < r.body.length)) (by simp) (fun hltj => ?_) (fun hgej => ?_)
      · skip
        have hltj : j < r.body.length := by simpa using hltj
        have hxm : r.body[j] ∈ r.body := List.getElem_mem hltj
        have hd2 := refB_drop hgd hs hrm j hltj
        have hlit := hgd.lits r hrm _ hxm
        obtain ⟨x, hxx⟩ : ∃ x, r.body[j] = x := ⟨_, rfl⟩
        rw [hxx] at hxm hd2 hlit
        have hlead := Leads_ok x
        have hgr := Grouped_ok r hagg
        have hsk : badL m (closed m) r x = false → refB m r r.body = refB m r (r.body.drop (j + 1)) := fun hb => by rw [hj2, hd2, hb]; rfl
        have hst : badL m (closed m) r x = true → makeOf (graphOf m) = (⟨[], [], []⟩, ((x.line, x.col), 73)) := fun hb => makeOf_some (by rw [← refR_all, hk2, hd, hj2, hd2, hb]; rfl)
        refine AWp.skip ?_
        refine AWp.seq ?_
        refine AWp.block ?_
        refine AWp.seq ?_
        refine AWp.reg [false, false, false, false, false, false, true] F13r14 [] (by kernel_rfl) (by rw [hC]; rfl) fun K hK => ?_
        simp [F13r14, hltj, hxx]
        first | refine hK _ ?_ | refine ⟨by omega, hK _ ?_⟩ | refine ⟨by omega, by omega, hK _ ?_⟩ | refine ⟨by omega, by omega, by omega, hK _ ?_⟩ | refine ⟨by omega, by omega, by omega, by omega, hK _ ?_⟩
        refine AWp.seq ?_
        refine AWp.seq ?_
        cases hl : leads x with
        | false =>
          rw [hl] at hlead
          refine AWp.reg [] F13r15 [{ r := bval false }] (by kernel_rfl) (by rw [hC]; rfl) fun K hK => ?_
          simp [F13r15]
          refine ⟨callOK rfl hlead, hK _ ?_⟩
          refine AWp.cond true (by simp) (fun _ => ?_) (fun he => by cases he)
          refine AWp.exit ?_
          refine AWp.reg [false, false, true] F13r13 [] (by kernel_rfl) (by rw [hC]; rfl) fun K hK => ?_
          simp [F13r13]
          first | refine hK _ ?_ | refine ⟨by omega, hK _ ?_⟩ | refine ⟨by omega, by omega, hK _ ?_⟩ | refine ⟨by omega, by omega, by omega, hK _ ?_⟩ | refine ⟨by omega, by omega, by omega, by omega, hK _ ?_⟩
          refine ⟨j + 1, ⟨by omega, hsk (by simp [badL, hl])⟩, by omega, ?_⟩
          simp [st13a, wrap_nat j (by omega), boolRows]
        | true =>
          rw [hl] at hlead
          have hlitx := hlit hl
          have ha2 := At_ok m x.rel hm
          rw [At_idx hlitx] at ha2
          have hi2 := idx_lt hlitx
          have hsq := sq_lt hi2 hi1
          have hon : (closed m).length = m.rels.length * m.rels.length := wW_len _ _ _ _ (base_len m)
          have hnn : m.rels.length * m.rels.length ≤ 900 := Nat.mul_le_mul h30 h30
          obtain ⟨to, hto⟩ : ∃ t, idx m x.rel = t := ⟨_, rfl⟩
          rw [hto] at ha2 hi2 hsq
          have hbad : ∀ z, (x.kind == 2 || grouped r) = z → badL m (closed m) r x = (z && (decide (to = h) || (closed m).getD (to * m.rels.length + h) false)) := fun z hz => by simp only [badL, hl, hz, hh, hto, Bool.true_and]
          by_cases h2 : x.kind = 2
          · skip
            refine AWp.reg [] F13r15 [{ r := bval true }] (by kernel_rfl) (by rw [hC]; rfl) fun K hK => ?_
            simp [F13r15, h2]
            refine ⟨callOK rfl (by simpa [h2] using hlead), hK _ ?_⟩
            refine AWp.cond false (by simp) (fun he => by cases he) (fun _ => ?_)
            refine AWp.skip ?_
            refine AWp.seq ?_
            refine AWp.reg [false, false, false, false, true] F13r16 [{ r := ival to }] (by kernel_rfl) (by rw [hC]; rfl) fun K hK => ?_
            simp [F13r16]
            refine ⟨callOK rfl ha2, hK _ ?_⟩
            by_cases hth : to = h
            · have hth' : ((to : Int) == (h : Int)) = true := by simp [hth]
              refine AWp.seq ?_
              refine AWp.reg [] F13r17 [] (by kernel_rfl) (by rw [hC]; rfl) fun K hK => ?_
              simp [F13r17, hth']
              first | refine hK _ ?_ | refine ⟨by omega, hK _ ?_⟩ | refine ⟨by omega, by omega, hK _ ?_⟩ | refine ⟨by omega, by omega, by omega, hK _ ?_⟩ | refine ⟨by omega, by omega, by omega, by omega, hK _ ?_⟩
              refine AWp.cond true (by simp) (fun _ => ?_) (fun he => by cases he)
              refine AWp.seq ?_
              refine AWp.regD ops_mixed [false, false, false, true, true, true] F13r18 [] (by kernel_rfl) (by rw [hC]; rfl) rfl (fun K hK => ?_) (by simp [F13r18] <;> rfl)
              simp [F13r18]
              first | refine hK _ ?_ | refine ⟨by omega, hK _ ?_⟩ | refine ⟨by omega, by omega, hK _ ?_⟩ | refine ⟨by omega, by omega, by omega, hK _ ?_⟩ | refine ⟨by omega, by omega, by omega, by omega, hK _ ?_⟩
              repeat refine AWp.seq ?_
              refine AWp.ret ⟨.inr rfl, _, by simp [Try.results13] <;> rfl, ?_⟩
              rw [hst (by rw [hbad true (by simp [h2])]; simp [hth])]
              exact .tup (.cons (.agg (.cons .nil (.cons .nil (.cons .nil .nil)))) (.cons (.closed rfl) (.cons (.closed rfl) .nil)))
            · have hth' : ((to : Int) == (h : Int)) = false := by simp; omega
              obtain ⟨p, hp⟩ : ∃ p, p = to * m.rels.length := ⟨_, rfl⟩
              obtain ⟨q, hqq⟩ : ∃ q, q = p + h := ⟨_, rfl⟩
              have hq1 : q < (closed m).length := by rw [hon, hqq, hp]; exact hsq
              obtain ⟨b, hb⟩ : ∃ b, (closed m)[q] = b := ⟨_, rfl⟩
              have hbv : badL m (closed m) r x = b := by
                rw [hbad true (by simp [h2]), ← hp, ← hqq, List.getD_eq_getElem?_getD, List.getElem?_eq_getElem hq1, hb]; simp [hth]
              refine AWp.seq ?_
              refine AWp.reg [] F13r17 [] (by kernel_rfl) (by rw [hC]; rfl) fun K hK => ?_
              simp [F13r17, hth', wrap_mulE hp (by omega), wrap_addE hqq (by omega), hq1, hb, boolRows]
              first | refine hK _ ?_ | refine ⟨by omega, hK _ ?_⟩ | refine ⟨by omega, by omega, hK _ ?_⟩ | refine ⟨by omega, by omega, by omega, hK _ ?_⟩ | refine ⟨by omega, by omega, by omega, by omega, hK _ ?_⟩
              cases b with
              | false =>
                refine AWp.cond false (by simp) (fun he => by cases he) (fun _ => ?_)
                refine AWp.skip ?_
                refine AWp.reg [false, false, true] F13r13 [] (by kernel_rfl) (by rw [hC]; rfl) fun K hK => ?_
                simp [F13r13]
                first | refine hK _ ?_ | refine ⟨by omega, hK _ ?_⟩ | refine ⟨by omega, by omega, hK _ ?_⟩ | refine ⟨by omega, by omega, by omega, hK _ ?_⟩ | refine ⟨by omega, by omega, by omega, by omega, hK _ ?_⟩
                refine ⟨j + 1, ⟨by omega, hsk hbv⟩, by omega, ?_⟩
                simp [st13a, wrap_nat j (by omega), boolRows]
              | true =>
                refine AWp.cond true (by simp) (fun _ => ?_) (fun he => by cases he)
                refine AWp.seq ?_
                refine AWp.regD ops_mixed [false, false, false, true, true, true] F13r18 [] (by kernel_rfl) (by rw [hC]; rfl) rfl (fun K hK => ?_) (by simp [F13r18] <;> rfl)
                simp [F13r18]
                first | refine hK _ ?_ | refine ⟨by omega, hK _ ?_⟩ | refine ⟨by omega, by omega, hK _ ?_⟩ | refine ⟨by omega, by omega, by omega, hK _ ?_⟩ | refine ⟨by omega, by omega, by omega, by omega, hK _ ?_⟩
                repeat refine AWp.seq ?_
                refine AWp.ret ⟨.inr rfl, _, by simp [Try.results13] <;> rfl, ?_⟩
                rw [hst hbv]
                exact .tup (.cons (.agg (.cons .nil (.cons .nil (.cons .nil .nil)))) (.cons (.closed rfl) (.cons (.closed rfl) .nil)))
          · have h2' : (x.kind == 2) = false := by simpa using h2
            cases hgp : grouped r with
            | false =>
              rw [hgp] at hgr
              refine AWp.reg [] F13r15 [{ r := bval true }, { r := bval false }] (by kernel_rfl) (by rw [hC]; rfl) fun K hK => ?_
              simp [F13r15, h2, h2']
              refine ⟨callOK rfl hlead, callOK rfl hgr, hK _ ?_⟩
              refine AWp.cond true (by simp) (fun _ => ?_) (fun he => by cases he)
              refine AWp.exit ?_
              refine AWp.reg [false, false, true] F13r13 [] (by kernel_rfl) (by rw [hC]; rfl) fun K hK => ?_
              simp [F13r13]
              first | refine hK _ ?_ | refine ⟨by omega, hK _ ?_⟩ | refine ⟨by omega, by omega, hK _ ?_⟩ | refine ⟨by omega, by omega, by omega, hK _ ?_⟩ | refine ⟨by omega, by omega, by omega, by omega, hK _ ?_⟩
              refine ⟨j + 1, ⟨by omega, hsk (by rw [hbad false (by simp [h2', hgp])]; rfl)⟩, by omega, ?_⟩
              simp [st13a, wrap_nat j (by omega), boolRows]
            | true =>
              rw [hgp] at hgr
              refine AWp.reg [] F13r15 [{ r := bval true }, { r := bval true }] (by kernel_rfl) (by rw [hC]; rfl) fun K hK => ?_
              simp [F13r15, h2, h2']
              refine ⟨callOK rfl hlead, callOK rfl hgr, hK _ ?_⟩
              refine AWp.cond false (by simp) (fun he => by cases he) (fun _ => ?_)
              refine AWp.skip ?_
              refine AWp.seq ?_
              refine AWp.reg [false, false, false, false, true] F13r16 [{ r := ival to }] (by kernel_rfl) (by rw [hC]; rfl) fun K hK => ?_
              simp [F13r16]
              refine ⟨callOK rfl ha2, hK _ ?_⟩
              by_cases hth : to = h
              · have hth' : ((to : Int) == (h : Int)) = true := by simp [hth]
                refine AWp.seq ?_
                refine AWp.reg [] F13r17 [] (by kernel_rfl) (by rw [hC]; rfl) fun K hK => ?_
                simp [F13r17, hth']
                first | refine hK _ ?_ | refine ⟨by omega, hK _ ?_⟩ | refine ⟨by omega, by omega, hK _ ?_⟩ | refine ⟨by omega, by omega, by omega, hK _ ?_⟩ | refine ⟨by omega, by omega, by omega, by omega, hK _ ?_⟩
                refine AWp.cond true (by simp) (fun _ => ?_) (fun he => by cases he)
                refine AWp.seq ?_
                refine AWp.regD ops_mixed [false, false, false, true, true, true] F13r18 [] (by kernel_rfl) (by rw [hC]; rfl) rfl (fun K hK => ?_) (by simp [F13r18] <;> rfl)
                simp [F13r18]
                first | refine hK _ ?_ | refine ⟨by omega, hK _ ?_⟩ | refine ⟨by omega, by omega, hK _ ?_⟩ | refine ⟨by omega, by omega, by omega, hK _ ?_⟩ | refine ⟨by omega, by omega, by omega, by omega, hK _ ?_⟩
                repeat refine AWp.seq ?_
                refine AWp.ret ⟨.inr rfl, _, by simp [Try.results13] <;> rfl, ?_⟩
                rw [hst (by rw [hbad true (by simp [hgp])]; simp [hth])]
                exact .tup (.cons (.agg (.cons .nil (.cons .nil (.cons .nil .nil)))) (.cons (.closed rfl) (.cons (.closed rfl) .nil)))
              · have hth' : ((to : Int) == (h : Int)) = false := by simp; omega
                obtain ⟨p, hp⟩ : ∃ p, p = to * m.rels.length := ⟨_, rfl⟩
                obtain ⟨q, hqq⟩ : ∃ q, q = p + h := ⟨_, rfl⟩
                have hq1 : q < (closed m).length := by rw [hon, hqq, hp]; exact hsq
                obtain ⟨b, hb⟩ : ∃ b, (closed m)[q] = b := ⟨_, rfl⟩
                have hbv : badL m (closed m) r x = b := by
                  rw [hbad true (by simp [hgp]), ← hp, ← hqq, List.getD_eq_getElem?_getD, List.getElem?_eq_getElem hq1, hb]; simp [hth]
                refine AWp.seq ?_
                refine AWp.reg [] F13r17 [] (by kernel_rfl) (by rw [hC]; rfl) fun K hK => ?_
                simp [F13r17, hth', wrap_mulE hp (by omega), wrap_addE hqq (by omega), hq1, hb, boolRows]
                first | refine hK _ ?_ | refine ⟨by omega, hK _ ?_⟩ | refine ⟨by omega, by omega, hK _ ?_⟩ | refine ⟨by omega, by omega, by omega, hK _ ?_⟩ | refine ⟨by omega, by omega, by omega, by omega, hK _ ?_⟩
                cases b with
                | false =>
                  refine AWp.cond false (by simp) (fun he => by cases he) (fun _ => ?_)
                  refine AWp.skip ?_
                  refine AWp.reg [false, false, true] F13r13 [] (by kernel_rfl) (by rw [hC]; rfl) fun K hK => ?_
                  simp [F13r13]
                  first | refine hK _ ?_ | refine ⟨by omega, hK _ ?_⟩ | refine ⟨by omega, by omega, hK _ ?_⟩ | refine ⟨by omega, by omega, by omega, hK _ ?_⟩ | refine ⟨by omega, by omega, by omega, by omega, hK _ ?_⟩
                  refine ⟨j + 1, ⟨by omega, hsk hbv⟩, by omega, ?_⟩
                  simp [st13a, wrap_nat j (by omega), boolRows]
                | true =>
                  refine AWp.cond true (by simp) (fun _ => ?_) (fun he => by cases he)
                  refine AWp.seq ?_
                  refine AWp.regD ops_mixed [false, false, false, true, true, true] F13r18 [] (by kernel_rfl) (by rw [hC]; rfl) rfl (fun K hK => ?_) (by simp [F13r18] <;> rfl)
                  simp [F13r18]
                  first | refine hK _ ?_ | refine ⟨by omega, hK _ ?_⟩ | refine ⟨by omega, by omega, hK _ ?_⟩ | refine ⟨by omega, by omega, by omega, hK _ ?_⟩ | refine ⟨by omega, by omega, by omega, by omega, hK _ ?_⟩
                  repeat refine AWp.seq ?_
                  refine AWp.ret ⟨.inr rfl, _, by simp [Try.results13] <;> rfl, ?_⟩
                  rw [hst hbv]
                  exact .tup (.cons (.agg (.cons .nil (.cons .nil (.cons .nil .nil)))) (.cons (.closed rfl) (.cons (.closed rfl) .nil)))
      have hgej : ¬ j < r.body.length := by simpa using hgej
      refine AWp.exit ?_
      refine AWp.reg [false, false, true] F13r8 [] (by kernel_rfl) (by rw [hC]; rfl) fun K hK => ?_
      simp [F13r8]
      first | refine hK _ ?_ | refine ⟨by omega, hK _ ?_⟩ | refine ⟨by omega, by omega, hK _ ?_⟩ | refine ⟨by omega, by omega, by omega, hK _ ?_⟩ | refine ⟨by omega, by omega, by omega, by omega, hK _ ?_⟩
      refine ⟨k + 1, ⟨by omega, ?_⟩, by omega, ?_⟩
      · rw [hk2, hd, hj2, List.drop_eq_nil_of_le (by omega)]; rfl
      · simp [st13a, wrap_nat k (by omega), boolRows]
    have hge : ¬ k < m.rules.length := by simpa using hge
    have hrf : refuse1 (graphOf m) (graphOf m).pairs = none := by rw [← refR_all, hk2, List.drop_eq_nil_of_le (by omega)]; rfl
    rw [makeOf_none hrf]
    obtain ⟨L, hL⟩ := exists_least hg hrf
    rw [leastOf_eq hL]
    refine AWp.exit ?_
    refine AWp.seq ?_
    refine AWp.reg [false, false, false, false, true] F13r19 [] (by kernel_rfl) (by rw [hC]; rfl) fun K hK => ?_
    simp [F13r19]
    first | refine hK _ ?_ | refine ⟨by omega, hK _ ?_⟩ | refine ⟨by omega, by omega, hK _ ?_⟩ | refine ⟨by omega, by omega, by omega, hK _ ?_⟩ | refine ⟨by omega, by omega, by omega, by omega, hK _ ?_⟩
    refine AWp.seq ?_
    refine AWp.seq ?_
    refine AWp.reg [true] F13r20 [] (by kernel_rfl) (by rw [hC]; rfl) fun K hK => ?_
    simp [F13r20]
    first | refine hK _ ?_ | refine ⟨by omega, hK _ ?_⟩ | refine ⟨by omega, by omega, hK _ ?_⟩ | refine ⟨by omega, by omega, by omega, hK _ ?_⟩ | refine ⟨by omega, by omega, by omega, by omega, hK _ ?_⟩
    refine AWp.block ?_
    refine AWp.loopG (fun q : Nat × List Nat => st13b m q.2 [(16, ival q.1)] []) (fun q => q.1 ≤ m.rels.length + 1 ∧ Rds (graphOf m) L q.1 q.2) (fun q => m.rels.length + 1 - q.1) (0, List.replicate m.rels.length 0) ⟨by simp, Rds.zero (graphOf m) L⟩ (by simp [st13b, cellsI]) (fun q hq => ?_)
    obtain ⟨rd, of0⟩ := q
    obtain ⟨hrd1, hRd⟩ := hq
    simp only at hrd1 hRd
    have hlen0 : of0.length = m.rels.length := hRd.len
    refine AWp.seq ?_
    refine AWp.seq ?_
    refine AWp.reg [] F13r21 [] (by kernel_rfl) (by rw [hC]; rfl) fun K hK => ?_
    simp [F13r21, st13b]
    first | refine hK _ ?_ | refine ⟨by omega, hK _ ?_⟩ | refine ⟨by omega, by omega, hK _ ?_⟩ | refine ⟨by omega, by omega, by omega, hK _ ?_⟩ | refine ⟨by omega, by omega, by omega, by omega, hK _ ?_⟩
    refine AWp.cond (decide (rd ≤ m.rels.length)) (by simp) (fun hlr => ?_) (fun hgr => ?_)
    · skip
      have hlr : rd ≤ m.rels.length := by simpa using hlr
      refine AWp.skip ?_
      refine AWp.seq ?_
      refine AWp.block ?_
      refine AWp.seq ?_
      refine AWp.reg [true] F13r23 [] (by kernel_rfl) (by rw [hC]; rfl) fun K hK => ?_
      simp [F13r23]
      first | refine hK _ ?_ | refine ⟨by omega, hK _ ?_⟩ | refine ⟨by omega, by omega, hK _ ?_⟩ | refine ⟨by omega, by omega, by omega, hK _ ?_⟩ | refine ⟨by omega, by omega, by omega, by omega, hK _ ?_⟩
      refine AWp.block ?_
      refine AWp.loopG (fun q : Nat × List Nat => st13b m q.2 [(16, ival rd), (17, ival q.1)] []) (fun q => q.1 ≤ m.rules.length ∧ Mid (graphOf m) of0 ((graphOf m).pairs.take q.1) q.2) (fun q => m.rules.length - q.1) (0, of0) ⟨by simp, .start hRd.len hRd.low⟩ (by simp [st13b]) (fun q hq => ?_)
      obtain ⟨k, of1⟩ := q
      obtain ⟨hk1, hMd⟩ := hq
      simp only at hk1 hMd
      refine AWp.seq ?_
      refine AWp.seq ?_
      refine AWp.reg [] F13r24 [] (by kernel_rfl) (by rw [hC]; rfl) fun K hK => ?_
      simp [F13r24, st13b]
      first | refine hK _ ?_ | refine ⟨by omega, hK _ ?_⟩ | refine ⟨by omega, by omega, hK _ ?_⟩ | refine ⟨by omega, by omega, by omega, hK _ ?_⟩ | refine ⟨by omega, by omega, by omega, by omega, hK _ ?_⟩
      refine AWp.cond (decide (k < m.rules.length)) (by simp) (fun hlt2 => ?_) (fun hge2 => ?_)
      · skip
        have hlt2 : k < m.rules.length := by simpa using hlt2
        have hrm : m.rules[k] ∈ m.rules := List.getElem_mem hlt2
        have hpt := pairs_take m k hlt2
        obtain ⟨r, hrr⟩ : ∃ r, m.rules[k] = r := ⟨_, rfl⟩
        rw [hrr] at hrm hpt
        have hprm := pr_mem m hrm
        have hb := hm.bodies _ hrm
        have hagg := hm.aggs _ hrm
        have hhd := hgd.heads _ hrm
        have ha1 := At_ok m r.rel hm
        rw [At_idx hhd] at ha1
        have hi1 := idx_lt hhd
        obtain ⟨h, hh⟩ : ∃ h, idx m r.rel = h := ⟨_, rfl⟩
        rw [pr, hh] at hpt hprm
        rw [hh] at ha1 hi1
        have hopen := hMd.open h
        refine AWp.skip ?_
        refine AWp.seq ?_
        refine AWp.block ?_
        refine AWp.seq ?_
        refine AWp.reg [false, false, false, false, false, false, true] F13r26 [] (by kernel_rfl) (by rw [hC]; rfl) fun K hK => ?_
        simp [F13r26, hlt2, hrr]
        first | refine hK _ ?_ | refine ⟨by omega, hK _ ?_⟩ | refine ⟨by omega, by omega, hK _ ?_⟩ | refine ⟨by omega, by omega, by omega, hK _ ?_⟩ | refine ⟨by omega, by omega, by omega, by omega, hK _ ?_⟩
        refine AWp.seq ?_
        refine AWp.reg [false, false, false, false, true] F13r27 [{ r := ival h }] (by kernel_rfl) (by rw [hC]; rfl) fun K hK => ?_
        simp [F13r27]
        refine ⟨callOK rfl ha1, hK _ ?_⟩
        refine AWp.seq ?_
        refine AWp.reg [true] F13r28 [] (by kernel_rfl) (by rw [hC]; rfl) fun K hK => ?_
        simp [F13r28]
        first | refine hK _ ?_ | refine ⟨by omega, hK _ ?_⟩ | refine ⟨by omega, by omega, hK _ ?_⟩ | refine ⟨by omega, by omega, by omega, hK _ ?_⟩ | refine ⟨by omega, by omega, by omega, by omega, hK _ ?_⟩
        refine AWp.block ?_
        refine AWp.loopG (fun q : Nat × List Nat => st13b m q.2 [(16, ival rd), (17, ival k), (18, .ptr 18 0), (19, ival h), (20, ival q.1)] [(18, .cells 52 (encRule r))]) (fun q => q.1 ≤ r.body.length ∧ Mid (graphOf m) of0 ((graphOf m).pairs.take k ++ [(h, edgesOf m (grouped r) (r.body.take q.1))]) q.2) (fun q => r.body.length - q.1) (0, of1) ⟨by simp, hopen⟩ (by simp [st13b]) (fun q hq => ?_)
        obtain ⟨j, of2⟩ := q
        obtain ⟨hj1, hMj⟩ := hq
        simp only at hj1 hMj
        have hl2 : of2.length = m.rels.length := hMj.len
        refine AWp.seq ?_
        refine AWp.seq ?_
        refine AWp.reg [] F13r29 [] (by kernel_rfl) (by rw [hC]; rfl) fun K hK => ?_
        simp [F13r29, st13b]
        first | refine hK _ ?_ | refine ⟨by omega, hK _ ?_⟩ | refine ⟨by omega, by omega, hK _ ?_⟩ | refine ⟨by omega, by omega, by omega, hK _ ?_⟩ | refine ⟨by omega, by omega, by omega, by omega, hK _ ?_⟩
        refine AWp.cond (decide (j < r.body.length)) (by simp) (fun hltj => ?_) (fun hgej => ?_)
        · skip
          have hltj : j < r.body.length := by simpa using hltj
          have hxm : r.body[j] ∈ r.body := List.getElem_mem hltj
          have hlit := hgd.lits r hrm _ hxm
          have hes := edgesOf_succ m (grouped r) r.body j hltj
          have hem := fun hl => edge_mem (m := m) hxm hl
          obtain ⟨x, hxx⟩ : ∃ x, r.body[j] = x := ⟨_, rfl⟩
          rw [hxx] at hxm hlit hes hem
          have hlead := Leads_ok x
          have hgr := Grouped_ok r hagg
          cases hl : leads x with
          | false =>
            rw [hl] at hlead
            refine AWp.skip ?_
            refine AWp.seq ?_
            refine AWp.block ?_
            refine AWp.seq ?_
            refine AWp.seq ?_
            refine AWp.reg [] F13r31 [{ r := bval false }] (by kernel_rfl) (by rw [hC]; rfl) fun K hK => ?_
            simp [F13r31, hltj, hxx]
            refine ⟨callOK rfl hlead, hK _ ?_⟩
            refine AWp.cond true (by simp) (fun _ => ?_) (fun he => by cases he)
            refine AWp.exit ?_
            refine AWp.reg [false, false, true] F13r30 [] (by kernel_rfl) (by rw [hC]; rfl) fun K hK => ?_
            simp [F13r30]
            first | refine hK _ ?_ | refine ⟨by omega, hK _ ?_⟩ | refine ⟨by omega, by omega, hK _ ?_⟩ | refine ⟨by omega, by omega, by omega, hK _ ?_⟩ | refine ⟨by omega, by omega, by omega, by omega, hK _ ?_⟩
            refine ⟨(j + 1, of2), ⟨by simp only; omega, by rw [hl] at hes; simp only at hes ⊢; rw [hes]; simpa using hMj⟩, by simp only; omega, ?_⟩
            simp [st13b, wrap_nat j (by omega)]
          | true =>
            rw [hl] at hlead
            have hlitx := hlit hl
            have ha2 := At_ok m x.rel hm
            rw [At_idx hlitx] at ha2
            have hi2 := idx_lt hlitx
            rw [hl, if_pos rfl] at hes
            have hstep : fn of2 h < fn of2 (mkEdge m (grouped r) x).to + str (mkEdge m (grouped r) x) → Mid (graphOf m) of0 ((graphOf m).pairs.take k ++ [(h, edgesOf m (grouped r) (r.body.take (j + 1)))]) (of2.set h (fn of2 (mkEdge m (grouped r) x).to + str (mkEdge m (grouped r) x))) := fun hlt => by rw [hes]; exact hMj.step hg hprm (hem hl) hlt
            have hskip : ¬ fn of2 h < fn of2 (mkEdge m (grouped r) x).to + str (mkEdge m (grouped r) x) → Mid (graphOf m) of0 ((graphOf m).pairs.take k ++ [(h, edgesOf m (grouped r) (r.body.take (j + 1)))]) of2 := fun hge => by rw [hes]; exact hMj.skip hge
            rw [show (mkEdge m (grouped r) x).to = idx m x.rel from rfl] at hstep hskip
            obtain ⟨to, hto⟩ : ∃ t, idx m x.rel = t := ⟨_, rfl⟩
            rw [hto] at ha2 hi2 hstep hskip
            have hc1 := cellsI_at (l := of2) (i := to) (by omega)
            have hc2 := cellsI_at (l := of2) (i := h) (by omega)
            have hb1 : fn of2 to ≤ m.rels.length := below_le hg hrf hMj.low to
            have hh1 : h < m.rels.length := hi1
            have hhl : h < of2.length := by omega
            have hw : IntKind.i64.wrap (((fn of2 to : Nat) : Int) + 1) = ((fn of2 to + 1 : Nat) : Int) := wrap_nat _ (by omega)
            refine AWp.skip ?_
            refine AWp.seq ?_
            refine AWp.block ?_
            refine AWp.seq ?_
            refine AWp.seq ?_
            refine AWp.reg [] F13r31 [{ r := bval true }] (by kernel_rfl) (by rw [hC]; rfl) fun K hK => ?_
            simp [F13r31, hltj, hxx]
            refine ⟨callOK rfl hlead, hK _ ?_⟩
            refine AWp.cond false (by simp) (fun he => by cases he) (fun _ => ?_)
            refine AWp.skip ?_
            refine AWp.seq ?_
            refine AWp.regD ops_mixed [false, false, false, false, false, false, false, false, false, false, false, false, true] F13r32 [{ r := ival to }] (by kernel_rfl) (by rw [hC]; rfl) rfl (fun K hK => ?_) (by simp [F13r32, hltj, hxx, hc1, hi2] <;> rfl)
            simp [F13r32, hltj, hxx, hc1, hi2]
            refine ⟨callOK rfl ha2, hK _ ?_⟩
            by_cases h2 : x.kind = 2
            · skip
              refine AWp.seq ?_
              refine AWp.seq ?_
              refine AWp.reg [] F13r33 [] (by kernel_rfl) (by rw [hC]; rfl) fun K hK => ?_
              simp [F13r33, hltj, hxx, h2]
              refine hK _ ?_
              obtain ⟨v, hv0⟩ : ∃ v, fn of2 to + str (mkEdge m (grouped r) x) = v := ⟨_, rfl⟩
              have hv1 : v = fn of2 to + 1 := by rw [← hv0]; simp [str, mkEdge, h2]
              rw [hv0] at hstep hskip
              rw [← hv1] at hw
              refine AWp.cond true (by simp) (fun _ => ?_) (fun he => by cases he)
              refine AWp.reg [false, false, true] F13r34 [] (by kernel_rfl) (by rw [hC]; rfl) fun K hK => ?_
              simp [F13r34, hw, hc2, hh1]
              first | refine hK _ ?_ | refine ⟨by omega, hK _ ?_⟩ | refine ⟨by omega, by omega, hK _ ?_⟩ | refine ⟨by omega, by omega, by omega, hK _ ?_⟩ | refine ⟨by omega, by omega, by omega, by omega, hK _ ?_⟩
              refine AWp.seq ?_
              refine AWp.reg [] F13r35 [] (by kernel_rfl) (by rw [hC]; rfl) fun K hK => ?_
              simp [F13r35, hw, hc2, hh1]
              first | refine hK _ ?_ | refine ⟨by omega, hK _ ?_⟩ | refine ⟨by omega, by omega, hK _ ?_⟩ | refine ⟨by omega, by omega, by omega, hK _ ?_⟩ | refine ⟨by omega, by omega, by omega, by omega, hK _ ?_⟩
              refine AWp.cond (decide (fn of2 h < v)) (by simp) (fun hv => ?_) (fun hv => ?_)
              · skip
                have hv : fn of2 h < v := by simpa using hv
                refine AWp.reg [false, false, false, true, false, true] F13r36 [] (by kernel_rfl) (by rw [hC]; rfl) fun K hK => ?_
                simp [F13r36, hhl, hh1, hl2, cellsI_set]
                first | refine hK _ ?_ | refine ⟨by omega, hK _ ?_⟩ | refine ⟨by omega, by omega, hK _ ?_⟩ | refine ⟨by omega, by omega, by omega, hK _ ?_⟩ | refine ⟨by omega, by omega, by omega, by omega, hK _ ?_⟩
                refine AWp.reg [false, false, true] F13r30 [] (by kernel_rfl) (by rw [hC]; rfl) fun K hK => ?_
                simp [F13r30, hhl, hh1, hl2, cellsI_set]
                first | refine hK _ ?_ | refine ⟨by omega, hK _ ?_⟩ | refine ⟨by omega, by omega, hK _ ?_⟩ | refine ⟨by omega, by omega, by omega, hK _ ?_⟩ | refine ⟨by omega, by omega, by omega, by omega, hK _ ?_⟩
                refine ⟨(j + 1, of2.set h v), ⟨by simp only; omega, hstep hv⟩, by simp only; omega, ?_⟩
                simp [st13b, wrap_nat j (by omega)]
              have hv : ¬ fn of2 h < v := by simpa using hv
              refine AWp.skip ?_
              refine AWp.reg [false, false, true] F13r30 [] (by kernel_rfl) (by rw [hC]; rfl) fun K hK => ?_
              simp [F13r30]
              first | refine hK _ ?_ | refine ⟨by omega, hK _ ?_⟩ | refine ⟨by omega, by omega, hK _ ?_⟩ | refine ⟨by omega, by omega, by omega, hK _ ?_⟩ | refine ⟨by omega, by omega, by omega, by omega, hK _ ?_⟩
              refine ⟨(j + 1, of2), ⟨by simp only; omega, hskip hv⟩, by simp only; omega, ?_⟩
              simp [st13b, wrap_nat j (by omega)]
            · have h2' : (x.kind == 2) = false := by simpa using h2
              cases hgp : grouped r with
              | false =>
                rw [hgp] at hgr
                refine AWp.seq ?_
                refine AWp.seq ?_
                refine AWp.reg [] F13r33 [{ r := bval false }] (by kernel_rfl) (by rw [hC]; rfl) fun K hK => ?_
                simp [F13r33, hltj, hxx, h2, h2']
                refine ⟨callOK rfl hgr, hK _ ?_⟩
                refine AWp.cond false (by simp) (fun he => by cases he) (fun _ => ?_)
                refine AWp.skip ?_
                refine AWp.seq ?_
                refine AWp.reg [] F13r35 [] (by kernel_rfl) (by rw [hC]; rfl) fun K hK => ?_
                simp [F13r35, hc2, hh1]
                first | refine hK _ ?_ | refine ⟨by omega, hK _ ?_⟩ | refine ⟨by omega, by omega, hK _ ?_⟩ | refine ⟨by omega, by omega, by omega, hK _ ?_⟩ | refine ⟨by omega, by omega, by omega, by omega, hK _ ?_⟩
                obtain ⟨v, hv0⟩ : ∃ v, fn of2 to + str (mkEdge m (grouped r) x) = v := ⟨_, rfl⟩
                have hv1 : v = fn of2 to := by rw [← hv0]; simp [str, mkEdge, h2', hgp]
                rw [hv0] at hstep hskip
                rw [hgp] at hstep hskip
                rw [← hv1]
                refine AWp.cond (decide (fn of2 h < v)) (by simp) (fun hv => ?_) (fun hv => ?_)
                · skip
                  have hv : fn of2 h < v := by simpa using hv
                  refine AWp.reg [false, false, false, true, false, true] F13r36 [] (by kernel_rfl) (by rw [hC]; rfl) fun K hK => ?_
                  simp [F13r36, hhl, hh1, hl2, cellsI_set]
                  first | refine hK _ ?_ | refine ⟨by omega, hK _ ?_⟩ | refine ⟨by omega, by omega, hK _ ?_⟩ | refine ⟨by omega, by omega, by omega, hK _ ?_⟩ | refine ⟨by omega, by omega, by omega, by omega, hK _ ?_⟩
                  refine AWp.reg [false, false, true] F13r30 [] (by kernel_rfl) (by rw [hC]; rfl) fun K hK => ?_
                  simp [F13r30, hhl, hh1, hl2, cellsI_set]
                  first | refine hK _ ?_ | refine ⟨by omega, hK _ ?_⟩ | refine ⟨by omega, by omega, hK _ ?_⟩ | refine ⟨by omega, by omega, by omega, hK _ ?_⟩ | refine ⟨by omega, by omega, by omega, by omega, hK _ ?_⟩
                  refine ⟨(j + 1, of2.set h v), ⟨by simp only; omega, hstep hv⟩, by simp only; omega, ?_⟩
                  simp [st13b, wrap_nat j (by omega)]
                have hv : ¬ fn of2 h < v := by simpa using hv
                refine AWp.skip ?_
                refine AWp.reg [false, false, true] F13r30 [] (by kernel_rfl) (by rw [hC]; rfl) fun K hK => ?_
                simp [F13r30]
                first | refine hK _ ?_ | refine ⟨by omega, hK _ ?_⟩ | refine ⟨by omega, by omega, hK _ ?_⟩ | refine ⟨by omega, by omega, by omega, hK _ ?_⟩ | refine ⟨by omega, by omega, by omega, by omega, hK _ ?_⟩
                refine ⟨(j + 1, of2), ⟨by simp only; omega, hskip hv⟩, by simp only; omega, ?_⟩
                simp [st13b, wrap_nat j (by omega)]
              | true =>
                rw [hgp] at hgr
                refine AWp.seq ?_
                refine AWp.seq ?_
                refine AWp.reg [] F13r33 [{ r := bval true }] (by kernel_rfl) (by rw [hC]; rfl) fun K hK => ?_
                simp [F13r33, hltj, hxx, h2, h2']
                refine ⟨callOK rfl hgr, hK _ ?_⟩
                obtain ⟨v, hv0⟩ : ∃ v, fn of2 to + str (mkEdge m (grouped r) x) = v := ⟨_, rfl⟩
                have hv1 : v = fn of2 to + 1 := by rw [← hv0]; simp [str, mkEdge, hgp]
                rw [hv0] at hstep hskip
                rw [hgp] at hstep hskip
                rw [← hv1] at hw
                refine AWp.cond true (by simp) (fun _ => ?_) (fun he => by cases he)
                refine AWp.reg [false, false, true] F13r34 [] (by kernel_rfl) (by rw [hC]; rfl) fun K hK => ?_
                simp [F13r34, hw, hc2, hh1]
                first | refine hK _ ?_ | refine ⟨by omega, hK _ ?_⟩ | refine ⟨by omega, by omega, hK _ ?_⟩ | refine ⟨by omega, by omega, by omega, hK _ ?_⟩ | refine ⟨by omega, by omega, by omega, by omega, hK _ ?_⟩
                refine AWp.seq ?_
                refine AWp.reg [] F13r35 [] (by kernel_rfl) (by rw [hC]; rfl) fun K hK => ?_
                simp [F13r35, hw, hc2, hh1]
                first | refine hK _ ?_ | refine ⟨by omega, hK _ ?_⟩ | refine ⟨by omega, by omega, hK _ ?_⟩ | refine ⟨by omega, by omega, by omega, hK _ ?_⟩ | refine ⟨by omega, by omega, by omega, by omega, hK _ ?_⟩
                refine AWp.cond (decide (fn of2 h < v)) (by simp) (fun hv => ?_) (fun hv => ?_)
                · skip
                  have hv : fn of2 h < v := by simpa using hv
                  refine AWp.reg [false, false, false, true, false, true] F13r36 [] (by kernel_rfl) (by rw [hC]; rfl) fun K hK => ?_
                  simp [F13r36, hhl, hh1, hl2, cellsI_set]
                  first | refine hK _ ?_ | refine ⟨by omega, hK _ ?_⟩ | refine ⟨by omega, by omega, hK _ ?_⟩ | refine ⟨by omega, by omega, by omega, hK _ ?_⟩ | refine ⟨by omega, by omega, by omega, by omega, hK _ ?_⟩
                  refine AWp.reg [false, false, true] F13r30 [] (by kernel_rfl) (by rw [hC]; rfl) fun K hK => ?_
                  simp [F13r30, hhl, hh1, hl2, cellsI_set]
                  first | refine hK _ ?_ | refine ⟨by omega, hK _ ?_⟩ | refine ⟨by omega, by omega, hK _ ?_⟩ | refine ⟨by omega, by omega, by omega, hK _ ?_⟩ | refine ⟨by omega, by omega, by omega, by omega, hK _ ?_⟩
                  refine ⟨(j + 1, of2.set h v), ⟨by simp only; omega, hstep hv⟩, by simp only; omega, ?_⟩
                  simp [st13b, wrap_nat j (by omega)]
                have hv : ¬ fn of2 h < v := by simpa using hv
                refine AWp.skip ?_
                refine AWp.reg [false, false, true] F13r30 [] (by kernel_rfl) (by rw [hC]; rfl) fun K hK => ?_
                simp [F13r30]
                first | refine hK _ ?_ | refine ⟨by omega, hK _ ?_⟩ | refine ⟨by omega, by omega, hK _ ?_⟩ | refine ⟨by omega, by omega, by omega, hK _ ?_⟩ | refine ⟨by omega, by omega, by omega, by omega, hK _ ?_⟩
                refine ⟨(j + 1, of2), ⟨by simp only; omega, hskip hv⟩, by simp only; omega, ?_⟩
                simp [st13b, wrap_nat j (by omega)]
        have hgej : ¬ j < r.body.length := by simpa using hgej
        refine AWp.exit ?_
        refine AWp.reg [false, false, true] F13r25 [] (by kernel_rfl) (by rw [hC]; rfl) fun K hK => ?_
        simp [F13r25]
        first | refine hK _ ?_ | refine ⟨by omega, hK _ ?_⟩ | refine ⟨by omega, by omega, hK _ ?_⟩ | refine ⟨by omega, by omega, by omega, hK _ ?_⟩ | refine ⟨by omega, by omega, by omega, by omega, hK _ ?_⟩
        refine ⟨(k + 1, of2), ⟨by simp only; omega, ?_⟩, by simp only; omega, ?_⟩
        · rw [List.take_of_length_le (l := r.body) (by omega)] at hMj
          simp only [hpt]; exact hMj
        · simp [st13b, wrap_nat k (by omega)]
      have hge2 : ¬ k < m.rules.length := by simpa using hge2
      refine AWp.exit ?_
      refine AWp.reg [false, false, true] F13r22 [] (by kernel_rfl) (by rw [hC]; rfl) fun K hK => ?_
      simp [F13r22]
      first | refine hK _ ?_ | refine ⟨by omega, hK _ ?_⟩ | refine ⟨by omega, by omega, hK _ ?_⟩ | refine ⟨by omega, by omega, by omega, hK _ ?_⟩ | refine ⟨by omega, by omega, by omega, by omega, hK _ ?_⟩
      refine ⟨(rd + 1, of1), ⟨by simp only; omega, ?_⟩, by simp only; omega, ?_⟩
      · rw [List.take_of_length_le (by rw [pairs_eq, List.length_map]; omega)] at hMd
        exact hRd.next hg hL hMd
      · simp [st13b, wrap_nat rd (by omega)]
    have hgr : ¬ rd ≤ m.rels.length := by simpa using hgr
    have hofL : of0 = L := hRd.done hL (show m.rels.length ≤ rd by omega)
    subst hofL
    refine AWp.exit ?_
    refine AWp.seq ?_
    refine AWp.seq ?_
    refine AWp.reg [true] F13r37 [] (by kernel_rfl) (by rw [hC]; rfl) fun K hK => ?_
    simp [F13r37]
    first | refine hK _ ?_ | refine ⟨by omega, hK _ ?_⟩ | refine ⟨by omega, by omega, hK _ ?_⟩ | refine ⟨by omega, by omega, by omega, hK _ ?_⟩ | refine ⟨by omega, by omega, by omega, by omega, hK _ ?_⟩
    refine AWp.block ?_
    refine AWp.loopG (fun i : Nat => st13c m of0 (topN (of0.take i)) [(22, ival i)]) (fun i => i ≤ m.rels.length) (fun i => m.rels.length - i) 0 (by simp) (by simp [st13c, topN, ownR]) (fun i hi1 => ?_)
    refine AWp.seq ?_
    refine AWp.seq ?_
    refine AWp.reg [] F13r38 [] (by kernel_rfl) (by rw [hC]; rfl) fun K hK => ?_
    simp [F13r38, st13c]
    first | refine hK _ ?_ | refine ⟨by omega, hK _ ?_⟩ | refine ⟨by omega, by omega, hK _ ?_⟩ | refine ⟨by omega, by omega, by omega, hK _ ?_⟩ | refine ⟨by omega, by omega, by omega, by omega, hK _ ?_⟩
    refine AWp.cond (decide (i < m.rels.length)) (by simp) (fun hlt3 => ?_) (fun hge3 => ?_)
    · skip
      have hlt3 : i < m.rels.length := by simpa using hlt3
      have htk := topN_take of0 i (by omega)
      have hci := cellsI_at (l := of0) (i := i) (by omega)
      have hvb : fn of0 i ≤ m.rels.length := below_le hg hrf hRd.low i
      have hfn : of0[i] = fn of0 i := by simp [fn, List.getD_eq_getElem?_getD, show i < of0.length by omega]
      rw [hfn] at htk
      have htb : topN (of0.take i) ≤ 31 := by
        have key : ∀ k, k ≤ of0.length → topN (of0.take k) ≤ 31 := by
          intro k
          induction k with
          | zero => intro _; simp [topN]
          | succ k ih =>
            intro hk
            have h1 := ih (by omega)
            have h2 : fn of0 k ≤ m.rels.length := below_le hg hrf hRd.low k
            have h3 : of0[k] = fn of0 k := by simp [fn, List.getD_eq_getElem?_getD, show k < of0.length by omega]
            rw [topN_take of0 k (by omega), h3]
            omega
        exact key i (by omega)
      obtain ⟨v, hv0⟩ : ∃ v, fn of0 i = v := ⟨_, rfl⟩
      rw [hv0] at hci hvb htk
      obtain ⟨c0, hc0⟩ : ∃ c, topN (of0.take i) = c := ⟨_, rfl⟩
      rw [hc0] at htk htb
      rw [hc0]
      refine AWp.skip ?_
      refine AWp.seq ?_
      refine AWp.block ?_
      refine AWp.block ?_
      refine AWp.loopG (fun c : Nat => st13c m of0 c [(22, ival i)]) (fun c => c0 ≤ c ∧ c ≤ max c0 (v + 1)) (fun c => max c0 (v + 1) - c) c0 ⟨by omega, by omega⟩ (by simp [st13c, ownR]) (fun c hc => ?_)
      obtain ⟨hca, hcb⟩ := hc
      refine AWp.seq ?_
      refine AWp.seq ?_
      refine AWp.regD ops_mixed [] F13r40 [] (by kernel_rfl) (by rw [hC]; rfl) rfl (fun K hK => ?_) (by simp [F13r40, st13c, hci, ownR, hlt3] <;> rfl)
      simp [F13r40, st13c, hci, ownR, hlt3]
      first | refine hK _ ?_ | refine ⟨by omega, hK _ ?_⟩ | refine ⟨by omega, by omega, hK _ ?_⟩ | refine ⟨by omega, by omega, by omega, hK _ ?_⟩ | refine ⟨by omega, by omega, by omega, by omega, hK _ ?_⟩
      refine AWp.cond (decide (c ≤ v)) (by simp) (fun hcv => ?_) (fun hcv => ?_)
      · skip
        have hcv : c ≤ v := by simpa using hcv
        refine AWp.skip ?_
        refine AWp.block ?_
        refine AWp.seq ?_
        refine AWp.reg [false, true, false, false, false, true] F13r41 [] (by kernel_rfl) (by rw [hC]; rfl) fun K hK => ?_
        simp [F13r41, ownR]
        first | refine hK _ ?_ | refine ⟨by omega, hK _ ?_⟩ | refine ⟨by omega, by omega, hK _ ?_⟩ | refine ⟨by omega, by omega, by omega, hK _ ?_⟩ | refine ⟨by omega, by omega, by omega, by omega, hK _ ?_⟩
        refine AWp.reg [false, true, false, false, false, true] F13r42 [] (by kernel_rfl) (by rw [hC]; rfl) fun K hK => ?_
        simp [F13r42, ownR]
        first | refine hK _ ?_ | refine ⟨by omega, hK _ ?_⟩ | refine ⟨by omega, by omega, hK _ ?_⟩ | refine ⟨by omega, by omega, by omega, hK _ ?_⟩ | refine ⟨by omega, by omega, by omega, by omega, hK _ ?_⟩
        refine ⟨c + 1, ⟨by omega, by omega⟩, by omega, ?_⟩
        simp [st13c, ownR, List.replicate_succ']
      have hcv : ¬ c ≤ v := by simpa using hcv
      have hce : c = topN (of0.take (i + 1)) := by rw [htk]; omega
      refine AWp.exit ?_
      refine AWp.reg [false, false, true] F13r39 [] (by kernel_rfl) (by rw [hC]; rfl) fun K hK => ?_
      simp [F13r39]
      first | refine hK _ ?_ | refine ⟨by omega, hK _ ?_⟩ | refine ⟨by omega, by omega, hK _ ?_⟩ | refine ⟨by omega, by omega, by omega, hK _ ?_⟩ | refine ⟨by omega, by omega, by omega, by omega, hK _ ?_⟩
      refine ⟨i + 1, by omega, by omega, ?_⟩
      rw [← hce]
      simp [st13c, ownR, wrap_nat i (by omega)]
    have hge3 : ¬ i < m.rels.length := by simpa using hge3
    rw [List.take_of_length_le (by omega)]
    refine AWp.exit ?_
    refine AWp.seq ?_
    refine AWp.seq ?_
    refine AWp.reg [true] F13r43 [] (by kernel_rfl) (by rw [hC]; rfl) fun K hK => ?_
    simp [F13r43]
    first | refine hK _ ?_ | refine ⟨by omega, hK _ ?_⟩ | refine ⟨by omega, by omega, hK _ ?_⟩ | refine ⟨by omega, by omega, by omega, hK _ ?_⟩ | refine ⟨by omega, by omega, by omega, by omega, hK _ ?_⟩
    refine AWp.block ?_
    by_cases hn0 : m.rels.length = 0
    · have hof0 : of0 = [] := List.eq_nil_of_length_eq_zero (by omega)
      have hru0 : m.rules = [] := by
        cases hr : m.rules with
        | nil => rfl
        | cons r l => have := idx_lt (hgd.heads r (by rw [hr]; simp)); omega
      have hso : strataOf (graphOf m) of0 = ⟨of0, [], []⟩ := by simp [strataOf, graphOf, hn0]
      rw [hso]
      refine AWp.loopG (fun _ : Unit => st13c m of0 0 [(23, ival 0)]) (fun _ => True) (fun _ => 0) () trivial (by simp [st13c, hof0, topN, ownR]) (fun _ _ => ?_)
      refine AWp.seq ?_
      refine AWp.seq ?_
      refine AWp.reg [] F13r44 [] (by kernel_rfl) (by rw [hC]; rfl) fun K hK => ?_
      simp [F13r44, st13c, hn0]
      first | refine hK _ ?_ | refine ⟨by omega, hK _ ?_⟩ | refine ⟨by omega, by omega, hK _ ?_⟩ | refine ⟨by omega, by omega, by omega, hK _ ?_⟩ | refine ⟨by omega, by omega, by omega, by omega, hK _ ?_⟩
      refine AWp.cond false (by simp) (fun he => by cases he) (fun _ => ?_)
      refine AWp.exit ?_
      refine AWp.seq ?_
      refine AWp.seq ?_
      refine AWp.reg [true] F13r47 [] (by kernel_rfl) (by rw [hC]; rfl) fun K hK => ?_
      simp [F13r47]
      first | refine hK _ ?_ | refine ⟨by omega, hK _ ?_⟩ | refine ⟨by omega, by omega, hK _ ?_⟩ | refine ⟨by omega, by omega, by omega, hK _ ?_⟩ | refine ⟨by omega, by omega, by omega, by omega, hK _ ?_⟩
      refine AWp.block ?_
      refine AWp.loopG (fun _ : Unit => st13c m of0 0 [(24, ival 0)]) (fun _ => True) (fun _ => 0) () trivial (by simp [st13c, hn0, ownR]) (fun _ _ => ?_)
      refine AWp.seq ?_
      refine AWp.seq ?_
      refine AWp.reg [] F13r48 [] (by kernel_rfl) (by rw [hC]; rfl) fun K hK => ?_
      simp [F13r48, st13c, hru0]
      first | refine hK _ ?_ | refine ⟨by omega, hK _ ?_⟩ | refine ⟨by omega, by omega, hK _ ?_⟩ | refine ⟨by omega, by omega, by omega, hK _ ?_⟩ | refine ⟨by omega, by omega, by omega, by omega, hK _ ?_⟩
      refine AWp.cond false (by simp) (fun he => by cases he) (fun _ => ?_)
      refine AWp.exit ?_
      refine AWp.seq ?_
      refine AWp.reg [false, false, true, true, true] F13r52 [] (by kernel_rfl) (by rw [hC]; rfl) fun K hK => ?_
      simp [F13r52, ownR]
      first | refine hK _ ?_ | refine ⟨by omega, hK _ ?_⟩ | refine ⟨by omega, by omega, hK _ ?_⟩ | refine ⟨by omega, by omega, by omega, hK _ ?_⟩ | refine ⟨by omega, by omega, by omega, by omega, hK _ ?_⟩
      repeat refine AWp.seq ?_
      refine AWp.ret ⟨.inr rfl, _, by simp [Try.results13] <;> rfl, ?_⟩
      exact .tup (.cons (.agg (.cons (Rsv.vecI (l := of0) rfl (by omega)) (.cons (.closed rfl) (.cons (.closed rfl) .nil)))) (.cons (.closed rfl) (.cons (.closed rfl) .nil)))
    · skip
      have hne : of0 ≠ [] := by intro e; rw [e] at hlen0; simp at hlen0; omega
      have htop := topN_eq of0 hne
      have hfm : ∀ i, i < m.rels.length → fn of0 i < maxN of0 + 1 := fun i hi => by
        have : fn of0 i ∈ of0 := by
          simp only [fn, List.getD_eq_getElem?_getD, List.getElem?_eq_getElem (show i < of0.length by omega), Option.getD_some]; exact List.getElem_mem _
        have := maxN_le of0 _ this
        omega
      have hmx : maxN of0 ≤ 30 := by
        have := maxN_mem of0 hne
        obtain ⟨i, hi, e⟩ := List.mem_iff_getElem.1 this
        have h2 : fn of0 i ≤ m.rels.length := below_le hg hrf hRd.low i
        simp only [fn, List.getD_eq_getElem?_getD, List.getElem?_eq_getElem hi, Option.getD_some] at h2
        omega
      obtain ⟨mx, hmx0⟩ : ∃ x, maxN of0 = x := ⟨_, rfl⟩
      have hso : strataOf (graphOf m) of0 = ⟨of0, pile of0 (mx + 1), pile (rulesOf (graphOf m) of0) (mx + 1)⟩ := by simp [strataOf, graphOf, hn0, hmx0]
      rw [hmx0] at htop hfm hmx
      rw [hso, htop]
      refine AWp.forget (s' := st13c m of0 (mx + 1) [(23, ival 0)]) (by simp [st13c, ownR]) ?_
      refine AWp.thaw hM hF notNil 15 1 191 (k0 := .cells 39 [.vec 103 1 0 m.rels.length m.rels.length, ownR (mx + 1), ownR (mx + 1)]) (e := 37) (wd := 1) (rows := List.replicate (mx + 1) [.val (.slice none 0 0)]) rfl rfl (by simp) (by rw [hC]; decide) rfl (fun r hr x hx => ⟨.slice none 0 0, by rw [List.eq_of_mem_replicate hr] at hx; simpa using hx, rfl⟩) (by simp only [AS.shp, AS.setB, st13c, ins, Nat.reduceBEq, Nat.reduceEqDiff, if_true, if_false, List.cons_append, List.nil_append, List.all_cons, List.all_nil, shpB, shp_mod, shp_ints, shp_cellsE, Blk.set, List.set, shpT, shp, Bool.and_true]; simp [shpTL, shpT, shp, notNil, ownR, shpL, nil3, okCells]) (fun cap hc1 _ => ?_)
      obtain ⟨e1, rfl⟩ : ∃ e, cap = mx + 1 + e := ⟨cap - (mx + 1), by simp at hc1; omega⟩
      refine AWp.forget (s' := st13t m of0 (mx + 1) e1 [(23, ival 0)]) (by simp [st13c, st13t, thawed, flat_nil, AS.setB, ins, Blk.set, ownR]) ?_
      refine AWp.thaw hM hF notNil 15 2 196 (k0 := .cells 39 [.vec 103 1 0 m.rels.length m.rels.length, .vec 191 1 0 (mx + 1) (mx + 1 + e1), ownR (mx + 1)]) (e := 37) (wd := 1) (rows := List.replicate (mx + 1) [.val (.slice none 0 0)]) rfl rfl (by simp) (by rw [hC]; decide) rfl (fun r hr x hx => ⟨.slice none 0 0, by rw [List.eq_of_mem_replicate hr] at hx; simpa using hx, rfl⟩) (by simp only [AS.shp, AS.setB, st13t, ins, Nat.reduceBEq, Nat.reduceEqDiff, if_true, if_false, List.cons_append, List.nil_append, List.all_cons, List.all_nil, shpB, shp_mod, shp_ints, shp_cellsE, Blk.set, List.set, shpT, shp, Bool.and_true]; simp [shpTL, shpT, shp, notNil, ownR, shpL, nil3, okCells]) (fun cap hc1 _ => ?_)
      obtain ⟨e2, rfl⟩ : ∃ e, cap = mx + 1 + e := ⟨cap - (mx + 1), by simp at hc1; omega⟩
      refine AWp.forget (s' := st13d m of0 (List.replicate (mx + 1) []) e1 (List.replicate (mx + 1) []) e2 [(23, ival 0)]) (by simp [st13d, st13t, thawed, flat_nil, AS.setB, ins, Blk.set, ownR]) ?_
      have hpR : ∀ (l : List Nat) (q : Nat), (itr (pileStep l) q (List.replicate (mx + 1) [])).length = mx + 1 := fun l q => pile_len l (mx + 1) q
      refine AWp.loopG (fun k : Nat => st13d m of0 (itr (pileStep of0) k (List.replicate (mx + 1) [])) e1 (List.replicate (mx + 1) []) e2 [(23, ival k)]) (fun k => k ≤ m.rels.length) (fun k => m.rels.length - k) 0 (by simp) (by simp [st13d, itr]) (fun k hk1 => ?_)
      have hL1 := hpR of0 k
      have hS := pile_short of0 (mx + 1) k
      have hsucc : itr (pileStep of0) (k + 1) (List.replicate (mx + 1) []) = pileStep of0 k (itr (pileStep of0) k (List.replicate (mx + 1) [])) := rfl
      have hall : k = m.rels.length → itr (pileStep of0) k (List.replicate (mx + 1) []) = pile of0 (mx + 1) := by intro e; rw [pile, hlen0, e]
      revert hL1 hS hsucc hall
      generalize itr (pileStep of0) k (List.replicate (mx + 1) []) = out
      intro hL1 hS hsucc hall
      refine AWp.seq ?_
      refine AWp.seq ?_
      refine AWp.reg [] F13r44 [] (by kernel_rfl) (by rw [hC]; rfl) fun K hK => ?_
      simp [F13r44, st13d]
      first | refine hK _ ?_ | refine ⟨by omega, hK _ ?_⟩ | refine ⟨by omega, by omega, hK _ ?_⟩ | refine ⟨by omega, by omega, by omega, hK _ ?_⟩ | refine ⟨by omega, by omega, by omega, by omega, hK _ ?_⟩
      refine AWp.cond (decide (k < m.rels.length)) (by simp) (fun hlt4 => ?_) (fun hge4 => ?_)
      · skip
        have hlt4 : k < m.rels.length := by simpa using hlt4
        have hc4 := cellsI_at (l := of0) (i := k) (by omega)
        have hv := hfm k hlt4
        have hst : pileStep of0 k out = out.set (fn of0 k) (out.getD (fn of0 k) [] ++ [k]) := rfl
        obtain ⟨v, hv0⟩ : ∃ v, fn of0 k = v := ⟨_, rfl⟩
        rw [hv0] at hc4 hv hst
        have hvl : v < out.length := by omega
        have hat := cellsE_at (e := e1) hvl
        obtain ⟨row, hrow⟩ : ∃ c, out[v] = c := ⟨_, rfl⟩
        have hrl : row.length ≤ 100000 := by have := hS _ (List.getElem_mem hvl); rw [hrow] at this; omega
        rw [List.getD_eq_getElem?_getD, List.getElem?_eq_getElem hvl, hrow] at hst
        simp only [Option.getD_some] at hst
        rw [hrow] at hat
        have hset := cellsE_set (e := e1) (r := row ++ [k]) hvl
        have hat2 : ∀ (h : v < (cellsE out e1).length), (cellsE out e1)[v] = .own 3 1 (ints row) := fun h => by rw [List.getElem?_eq_getElem h] at hat; exact Option.some.inj hat
        simp at hset
        have hvl2 : v < out.length + e1 := by omega
        refine AWp.skip ?_
        refine AWp.seq ?_
        refine AWp.block ?_
        refine AWp.regD ops_mixed [false, false, false, false, false, false, false, false, false, false, false, false, false, false, false, true, false, false, false, false, true] F13r46 [] (by kernel_rfl) (by rw [hC]; rfl) rfl (fun K hK => ?_) (by simp [F13r46, hlt4, hc4, hvl, hvl2, hat, hat2] <;> rfl)
        simp [F13r46, hlt4, hc4, hvl, hvl2, hat, hat2]
        first | refine hK _ ?_ | refine ⟨by omega, hK _ ?_⟩ | refine ⟨by omega, by omega, hK _ ?_⟩ | refine ⟨by omega, by omega, by omega, hK _ ?_⟩ | refine ⟨by omega, by omega, by omega, by omega, hK _ ?_⟩
        refine AWp.reg [false, false, true] F13r45 [] (by kernel_rfl) (by rw [hC]; rfl) fun K hK => ?_
        simp [F13r45, hlt4, hc4, hvl, hvl2, hat, hat2]
        first | refine hK _ ?_ | refine ⟨by omega, hK _ ?_⟩ | refine ⟨by omega, by omega, hK _ ?_⟩ | refine ⟨by omega, by omega, by omega, hK _ ?_⟩ | refine ⟨by omega, by omega, by omega, by omega, hK _ ?_⟩
        refine ⟨k + 1, by omega, by omega, ?_⟩
        rw [hsucc, hst]
        simp [st13d, wrap_nat k (by omega), hset, hL1]
      have hge4 : ¬ k < m.rels.length := by simpa using hge4
      rw [← hall (by omega)]
      have hLo : out.length = mx + 1 := hL1
      refine AWp.exit ?_
      refine AWp.seq ?_
      refine AWp.seq ?_
      refine AWp.reg [true] F13r47 [] (by kernel_rfl) (by rw [hC]; rfl) fun K hK => ?_
      simp [F13r47]
      first | refine hK _ ?_ | refine ⟨by omega, hK _ ?_⟩ | refine ⟨by omega, by omega, hK _ ?_⟩ | refine ⟨by omega, by omega, by omega, hK _ ?_⟩ | refine ⟨by omega, by omega, by omega, by omega, hK _ ?_⟩
      refine AWp.block ?_
      refine AWp.loopG (fun k : Nat => st13d m of0 out e1 (itr (pileStep (rulesOf (graphOf m) of0)) k (List.replicate (mx + 1) [])) e2 [(24, ival k)]) (fun k => k ≤ m.rules.length) (fun k => m.rules.length - k) 0 (by simp) (by simp [st13d, itr, hLo]) (fun k hk1 => ?_)
      have hL2 := hpR (rulesOf (graphOf m) of0) k
      have hS2 := pile_short (rulesOf (graphOf m) of0) (mx + 1) k
      have hsucc2 : itr (pileStep (rulesOf (graphOf m) of0)) (k + 1) (List.replicate (mx + 1) []) = pileStep (rulesOf (graphOf m) of0) k (itr (pileStep (rulesOf (graphOf m) of0)) k (List.replicate (mx + 1) [])) := rfl
      have hall2 : k = m.rules.length → itr (pileStep (rulesOf (graphOf m) of0)) k (List.replicate (mx + 1) []) = pile (rulesOf (graphOf m) of0) (mx + 1) := by intro e; rw [pile, e]; simp [rulesOf, graphOf, headsOf]
      revert hL2 hS2 hsucc2 hall2
      generalize itr (pileStep (rulesOf (graphOf m) of0)) k (List.replicate (mx + 1) []) = out2
      intro hL2 hS2 hsucc2 hall2
      refine AWp.seq ?_
      refine AWp.seq ?_
      refine AWp.reg [] F13r48 [] (by kernel_rfl) (by rw [hC]; rfl) fun K hK => ?_
      simp [F13r48, st13d]
      first | refine hK _ ?_ | refine ⟨by omega, hK _ ?_⟩ | refine ⟨by omega, by omega, hK _ ?_⟩ | refine ⟨by omega, by omega, by omega, hK _ ?_⟩ | refine ⟨by omega, by omega, by omega, by omega, hK _ ?_⟩
      refine AWp.cond (decide (k < m.rules.length)) (by simp) (fun hlt5 => ?_) (fun hge5 => ?_)
      · skip
        have hlt5 : k < m.rules.length := by simpa using hlt5
        have hrm : m.rules[k] ∈ m.rules := List.getElem_mem hlt5
        have hst : pileStep (rulesOf (graphOf m) of0) k out2 = out2.set (fn of0 (idx m m.rules[k].rel)) (out2.getD (fn of0 (idx m m.rules[k].rel)) [] ++ [k]) := by
          have : (rulesOf (graphOf m) of0).getD k 0 = fn of0 (idx m m.rules[k].rel) := by simp [rulesOf, graphOf, headsOf, List.getD_eq_getElem?_getD, hlt5]
          simp only [pileStep, this]
        obtain ⟨r, hrr⟩ : ∃ r, m.rules[k] = r := ⟨_, rfl⟩
        rw [hrr] at hrm hst
        have hhd := hgd.heads _ hrm
        have ha1 := At_ok m r.rel hm
        rw [At_idx hhd] at ha1
        have hi1 := idx_lt hhd
        obtain ⟨h, hh⟩ : ∃ h, idx m r.rel = h := ⟨_, rfl⟩
        rw [hh] at ha1 hi1 hst
        have hc5 := cellsI_at (l := of0) (i := h) (by omega)
        have hv := hfm h hi1
        obtain ⟨v, hv0⟩ : ∃ v, fn of0 h = v := ⟨_, rfl⟩
        rw [hv0] at hc5 hv hst
        have hvl : v < out2.length := by omega
        have hat := cellsE_at (e := e2) hvl
        obtain ⟨row, hrow⟩ : ∃ c, out2[v] = c := ⟨_, rfl⟩
        have hrl : row.length ≤ 100000 := by have := hS2 _ (List.getElem_mem hvl); rw [hrow] at this; omega
        rw [List.getD_eq_getElem?_getD, List.getElem?_eq_getElem hvl, hrow] at hst
        simp only [Option.getD_some] at hst
        rw [hrow] at hat
        have hset := cellsE_set (e := e2) (r := row ++ [k]) hvl
        have hat2 : ∀ (h : v < (cellsE out2 e2).length), (cellsE out2 e2)[v] = .own 3 1 (ints row) := fun h => by rw [List.getElem?_eq_getElem h] at hat; exact Option.some.inj hat
        simp at hset
        have hvl2 : v < out2.length + e2 := by omega
        refine AWp.skip ?_
        refine AWp.seq ?_
        refine AWp.block ?_
        refine AWp.seq ?_
        refine AWp.regD ops_mixed [false, false, false, false, false, false, false, false, false, false, false, false, true] F13r50 [{ r := ival h }] (by kernel_rfl) (by rw [hC]; rfl) rfl (fun K hK => ?_) (by simp [F13r50, hlt5, hrr, hc5, hi1] <;> rfl)
        simp [F13r50, hlt5, hrr, hc5, hi1]
        refine ⟨callOK rfl ha1, hK _ ?_⟩
        refine AWp.regD ops_mixed [false, false, false, false, false, false, false, true, false, false, false, false, true] F13r51 [] (by kernel_rfl) (by rw [hC]; rfl) rfl (fun K hK => ?_) (by simp [F13r51, hvl, hvl2, hat, hat2] <;> rfl)
        simp [F13r51, hvl, hvl2, hat, hat2]
        first | refine hK _ ?_ | refine ⟨by omega, hK _ ?_⟩ | refine ⟨by omega, by omega, hK _ ?_⟩ | refine ⟨by omega, by omega, by omega, hK _ ?_⟩ | refine ⟨by omega, by omega, by omega, by omega, hK _ ?_⟩
        refine AWp.reg [false, false, true] F13r49 [] (by kernel_rfl) (by rw [hC]; rfl) fun K hK => ?_
        simp [F13r49, hvl, hvl2, hat, hat2]
        first | refine hK _ ?_ | refine ⟨by omega, hK _ ?_⟩ | refine ⟨by omega, by omega, hK _ ?_⟩ | refine ⟨by omega, by omega, by omega, hK _ ?_⟩ | refine ⟨by omega, by omega, by omega, by omega, hK _ ?_⟩
        refine ⟨k + 1, by omega, by omega, ?_⟩
        rw [hsucc2, hst]
        simp [st13d, wrap_nat k (by omega), hset, hL2]
      have hge5 : ¬ k < m.rules.length := by simpa using hge5
      rw [← hall2 (by omega)]
      refine AWp.exit ?_
      refine AWp.seq ?_
      refine AWp.reg [false, false, true, true, true] F13r52 [] (by kernel_rfl) (by rw [hC]; rfl) fun K hK => ?_
      simp [F13r52]
      first | refine hK _ ?_ | refine ⟨by omega, hK _ ?_⟩ | refine ⟨by omega, by omega, hK _ ?_⟩ | refine ⟨by omega, by omega, by omega, hK _ ?_⟩ | refine ⟨by omega, by omega, by omega, by omega, hK _ ?_⟩
      repeat refine AWp.seq ?_
      refine AWp.ret ⟨.inr rfl, _, by simp [Try.results13] <;> rfl, ?_⟩
      exact .tup (.cons (.agg (.cons (Rsv.vecI (l := of0) rfl (by omega)) (.cons (Rsv.vecE (l := out) (e := e1) rfl) (.cons (Rsv.vecE (l := out2) (e := e2) rfl) .nil)))) (.cons (.closed rfl) (.cons (.closed rfl) .nil)))
  · have hpm : progMake m = (⟨[], [], []⟩, checkE m) := by simp [progMake, he]
    rw [hpm]
    refine AWp.seq ?_
    refine AWp.reg [false, false, false, true] F13r0 [] (by kernel_rfl) (by rw [hC]; rfl) fun K hK => ?_
    simp [F13r0]
    first | refine hK _ ?_ | refine ⟨by omega, hK _ ?_⟩ | refine ⟨by omega, by omega, hK _ ?_⟩ | refine ⟨by omega, by omega, by omega, hK _ ?_⟩ | refine ⟨by omega, by omega, by omega, by omega, hK _ ?_⟩
    refine AWp.seq ?_
    refine AWp.reg [false, false, false, false, false, false, true, true] F13r1 [{ r := encE (checkE m) }] (by kernel_rfl) (by rw [hC]; rfl) fun K hK => ?_
    simp [F13r1]
    refine ⟨callOK rfl hc, hK _ ?_⟩
    refine AWp.seq ?_
    refine AWp.seq ?_
    refine AWp.reg [] F13r2 [] (by kernel_rfl) (by rw [hC]; rfl) fun K hK => ?_
    simp [F13r2]
    first | refine hK _ ?_ | refine ⟨by omega, hK _ ?_⟩ | refine ⟨by omega, by omega, hK _ ?_⟩ | refine ⟨by omega, by omega, by omega, hK _ ?_⟩ | refine ⟨by omega, by omega, by omega, by omega, hK _ ?_⟩
    refine AWp.cond true (by simp [he]) (fun _ => ?_) (fun he => by cases he)
    refine AWp.seq ?_
    refine AWp.regD ops_mixed [false, false, true, true, true, true] F13r3 [] (by kernel_rfl) (by rw [hC]; rfl) rfl (fun K hK => ?_) (by simp [F13r3] <;> rfl)
    simp [F13r3]
    first | refine hK _ ?_ | refine ⟨by omega, hK _ ?_⟩ | refine ⟨by omega, by omega, hK _ ?_⟩ | refine ⟨by omega, by omega, by omega, hK _ ?_⟩ | refine ⟨by omega, by omega, by omega, by omega, hK _ ?_⟩
    repeat refine AWp.seq ?_
    refine AWp.ret ⟨.inr rfl, _, by simp [Try.results13] <;> rfl, ?_⟩
    exact .tup (.cons (.agg (.cons .nil (.cons .nil (.cons .nil .nil)))) (.cons (.closed rfl) (.cons (.closed rfl) .nil)))
end Go.St
