/- The closed examples. -/
import Derived.Test.YtempphkfacccoaaSlM
import Derived.Test.YtempphkfacccoaaSlSpN
import Derived.Test.YtempphkfacccoaaAwZe
set_option linter.unusedSimpArgs false
set_option linter.unusedVariables false
open Go Go.Aw Go.Proofs
namespace Go.Sl
-- function 4: corollary/corollarylaw14.SafeNames: 273 slots; results ['(Go.ResultVar.tmp 0)']
def F4r0 : List ROp := [{ dst := some 0, op := .copy true (.const (.bool false)), after := [], guard := none }]
def F4r1 : List ROp := [{ dst := some 1, op := .copy true (.func 12), after := [], guard := none }]
def F4r2 : List ROp := [{ dst := some 18, op := .build [Value.int .u8 0, Value.int .i64 0, Value.string ByteArray.empty, Value.slice none 0 0] [(0, 1, .const (.int .u8 2)), (1, 1, .const (.int .i64 1))], after := [], guard := none },
  { dst := some 19, op := .build [Value.int .u8 0, Value.int .i64 0, Value.int .i64 0, Value.string ByteArray.empty, Value.int .u8 0, Value.int .i64 0, Value.string ByteArray.empty, Value.slice none 0 0, Value.slice none 0 0] [(0, 1, .const (.int .u8 1)), (4, 4, .tmp 18)], after := [0], guard := none },
  { dst := some 2, op := .alloc 42 [Value.int .u8 0, Value.int .i64 0, Value.int .i64 0, Value.string ByteArray.empty, Value.int .u8 0, Value.int .i64 0, Value.string ByteArray.empty, Value.slice none 0 0, Value.slice none 0 0], after := [], guard := none },
  { dst := none, op := .store 9 true (.tmp 2) (.tmp 19), after := [2, 1, 0, 1, 2], guard := none }]
def F4r3 : List ROp := [{ dst := some 20, op := .mkf (Go.Fn.func 13) [.tmp 2], after := [], guard := none },
  { dst := some 3, op := .copy true (.tmp 20), after := [0, 0], guard := none }]
def F4r4 : List ROp := [{ dst := some 4, op := .copy true (.func 14), after := [], guard := none }]
def F4r5 : List ROp := [{ dst := some 5, op := .copy true (.func 15), after := [], guard := none }]
def F4r6 : List ROp := [{ dst := some 21, op := .copy false (.tmp 5), after := [], guard := none },
  { dst := some 22, op := .copy false (.tmp 1), after := [], guard := none },
  { dst := some 23, op := .call (.tmp 22) [.const (.string { data := #[88] })], after := [1], guard := none },
  { dst := some 24, op := .copy false (.tmp 1), after := [], guard := none },
  { dst := some 25, op := .call (.tmp 24) [.const (.string { data := #[90] })], after := [3, 2], guard := none },
  { dst := some 26, op := .bslice 42 9 [Value.int .u8 0, Value.int .i64 0, Value.int .i64 0, Value.string ByteArray.empty, Value.int .u8 0, Value.int .i64 0, Value.string ByteArray.empty, Value.slice none 0 0, Value.slice none 0 0] 2 [(0, .tmp 23), (1, .tmp 25)], after := [2, 4], guard := none },
  { dst := some 27, op := .copy false (.tmp 4), after := [], guard := none },
  { dst := some 28, op := .copy false (.tmp 1), after := [], guard := none },
  { dst := some 29, op := .call (.tmp 28) [.const (.string { data := #[88] })], after := [7, 4], guard := none },
  { dst := some 30, op := .bslice 42 9 [Value.int .u8 0, Value.int .i64 0, Value.int .i64 0, Value.string ByteArray.empty, Value.int .u8 0, Value.int .i64 0, Value.string ByteArray.empty, Value.slice none 0 0, Value.slice none 0 0] 1 [(0, .tmp 29)], after := [8], guard := none },
  { dst := some 31, op := .call (.tmp 27) [.const (.string { data := #[112] }), .tmp 30], after := [6, 9, 8], guard := none },
  { dst := some 32, op := .bslice 31 5 [Value.int .u8 0, Value.int .i64 0, Value.int .i64 0, Value.string ByteArray.empty, Value.slice none 0 0] 1 [(0, .tmp 31)], after := [10], guard := none },
  { dst := some 33, op := .call (.tmp 21) [.const (.string { data := #[114] }), .tmp 26, .tmp 32], after := [0, 5, 11, 10], guard := none },
  { dst := some 34, op := .build [Value.string ByteArray.empty, Value.slice none 0 0, Value.slice none 0 0, Value.slice none 0 0, Value.slice none 0 0, Value.slice none 0 0, Value.int .i64 0, Value.int .i64 0] [(0, 6, .tmp 33), (6, 1, .const (.int .i64 3)), (7, 1, .const (.int .i64 71))], after := [12], guard := none },
  { dst := some 35, op := .copy false (.tmp 5), after := [], guard := none },
  { dst := some 36, op := .copy false (.tmp 1), after := [], guard := none },
  { dst := some 37, op := .call (.tmp 36) [.const (.string { data := #[88] })], after := [15, 12], guard := none },
  { dst := some 38, op := .copy false (.tmp 3), after := [], guard := none },
  { dst := some 39, op := .copy false (.tmp 1), after := [], guard := none },
  { dst := some 40, op := .call (.tmp 39) [.const (.string { data := #[90] })], after := [18, 16], guard := none },
  { dst := some 41, op := .call (.tmp 38) [.tmp 40], after := [17, 19, 19], guard := none },
  { dst := some 42, op := .bslice 42 9 [Value.int .u8 0, Value.int .i64 0, Value.int .i64 0, Value.string ByteArray.empty, Value.int .u8 0, Value.int .i64 0, Value.string ByteArray.empty, Value.slice none 0 0, Value.slice none 0 0] 2 [(0, .tmp 37), (1, .tmp 41)], after := [16, 20], guard := none },
  { dst := some 43, op := .copy false (.tmp 4), after := [], guard := none },
  { dst := some 44, op := .copy false (.tmp 1), after := [], guard := none },
  { dst := some 45, op := .call (.tmp 44) [.const (.string { data := #[88] })], after := [23, 20], guard := none },
  { dst := some 46, op := .copy false (.tmp 1), after := [], guard := none },
  { dst := some 47, op := .call (.tmp 46) [.const (.string { data := #[90] })], after := [25, 24], guard := none },
  { dst := some 48, op := .bslice 42 9 [Value.int .u8 0, Value.int .i64 0, Value.int .i64 0, Value.string ByteArray.empty, Value.int .u8 0, Value.int .i64 0, Value.string ByteArray.empty, Value.slice none 0 0, Value.slice none 0 0] 2 [(0, .tmp 45), (1, .tmp 47)], after := [24, 26], guard := none },
  { dst := some 49, op := .call (.tmp 43) [.const (.string { data := #[112, 97, 116, 104] }), .tmp 48], after := [22, 27, 26], guard := none },
  { dst := some 50, op := .bslice 31 5 [Value.int .u8 0, Value.int .i64 0, Value.int .i64 0, Value.string ByteArray.empty, Value.slice none 0 0] 1 [(0, .tmp 49)], after := [28], guard := none },
  { dst := some 51, op := .call (.tmp 35) [.const (.string { data := #[112, 97, 116, 104] }), .tmp 42, .tmp 50], after := [14, 21, 29, 28], guard := none },
  { dst := some 52, op := .build [Value.string ByteArray.empty, Value.slice none 0 0, Value.slice none 0 0, Value.slice none 0 0, Value.slice none 0 0, Value.slice none 0 0, Value.int .i64 0, Value.int .i64 0] [(0, 6, .tmp 51), (6, 1, .const (.int .i64 9)), (7, 1, .const (.int .i64 72))], after := [30], guard := none },
  { dst := some 53, op := .copy false (.tmp 5), after := [], guard := none },
  { dst := some 54, op := .copy false (.tmp 1), after := [], guard := none },
  { dst := some 55, op := .call (.tmp 54) [.const (.string { data := #[88] })], after := [33, 30], guard := none },
  { dst := some 56, op := .copy false (.tmp 3), after := [], guard := none },
  { dst := some 57, op := .copy false (.tmp 1), after := [], guard := none },
  { dst := some 58, op := .call (.tmp 57) [.const (.string { data := #[90] })], after := [36, 34], guard := none },
  { dst := some 59, op := .call (.tmp 56) [.tmp 58], after := [35, 37, 37], guard := none },
  { dst := some 60, op := .bslice 42 9 [Value.int .u8 0, Value.int .i64 0, Value.int .i64 0, Value.string ByteArray.empty, Value.int .u8 0, Value.int .i64 0, Value.string ByteArray.empty, Value.slice none 0 0, Value.slice none 0 0] 2 [(0, .tmp 55), (1, .tmp 59)], after := [34, 38], guard := none },
  { dst := some 61, op := .copy false (.tmp 4), after := [], guard := none },
  { dst := some 62, op := .copy false (.tmp 1), after := [], guard := none },
  { dst := some 63, op := .call (.tmp 62) [.const (.string { data := #[88] })], after := [41, 38], guard := none },
  { dst := some 64, op := .copy false (.tmp 1), after := [], guard := none },
  { dst := some 65, op := .call (.tmp 64) [.const (.string { data := #[90] })], after := [43, 42], guard := none },
  { dst := some 66, op := .bslice 42 9 [Value.int .u8 0, Value.int .i64 0, Value.int .i64 0, Value.string ByteArray.empty, Value.int .u8 0, Value.int .i64 0, Value.string ByteArray.empty, Value.slice none 0 0, Value.slice none 0 0] 2 [(0, .tmp 63), (1, .tmp 65)], after := [42, 44], guard := none },
  { dst := some 67, op := .call (.tmp 61) [.const (.string { data := #[101, 100, 103, 101] }), .tmp 66], after := [40, 45, 44], guard := none },
  { dst := some 68, op := .bslice 31 5 [Value.int .u8 0, Value.int .i64 0, Value.int .i64 0, Value.string ByteArray.empty, Value.slice none 0 0] 1 [(0, .tmp 67)], after := [46], guard := none },
  { dst := some 69, op := .call (.tmp 53) [.const (.string { data := #[112, 97, 116, 104] }), .tmp 60, .tmp 68], after := [32, 39, 47, 46], guard := none },
  { dst := some 70, op := .build [Value.string ByteArray.empty, Value.slice none 0 0, Value.slice none 0 0, Value.slice none 0 0, Value.slice none 0 0, Value.slice none 0 0, Value.int .i64 0, Value.int .i64 0] [(0, 6, .tmp 69), (6, 1, .const (.int .i64 0)), (7, 1, .const (.int .i64 0))], after := [48], guard := none },
  { dst := some 71, op := .copy false (.tmp 5), after := [], guard := none },
  { dst := some 72, op := .copy false (.tmp 1), after := [], guard := none },
  { dst := some 73, op := .call (.tmp 72) [.const (.string { data := #[89] })], after := [51, 48], guard := none },
  { dst := some 74, op := .bslice 42 9 [Value.int .u8 0, Value.int .i64 0, Value.int .i64 0, Value.string ByteArray.empty, Value.int .u8 0, Value.int .i64 0, Value.string ByteArray.empty, Value.slice none 0 0, Value.slice none 0 0] 1 [(0, .tmp 73)], after := [52], guard := none },
  { dst := some 75, op := .copy false (.tmp 4), after := [], guard := none },
  { dst := some 76, op := .copy false (.tmp 1), after := [], guard := none },
  { dst := some 77, op := .call (.tmp 76) [.const (.string { data := #[88] })], after := [55, 52], guard := none },
  { dst := some 78, op := .bslice 42 9 [Value.int .u8 0, Value.int .i64 0, Value.int .i64 0, Value.string ByteArray.empty, Value.int .u8 0, Value.int .i64 0, Value.string ByteArray.empty, Value.slice none 0 0, Value.slice none 0 0] 1 [(0, .tmp 77)], after := [56], guard := none },
  { dst := some 79, op := .call (.tmp 75) [.const (.string { data := #[112, 97, 116, 104] }), .tmp 78], after := [54, 57, 56], guard := none },
  { dst := some 80, op := .copy false (.tmp 1), after := [], guard := none },
  { dst := some 81, op := .call (.tmp 80) [.const (.string { data := #[88] })], after := [59, 58], guard := none },
  { dst := some 82, op := .bslice 42 9 [Value.int .u8 0, Value.int .i64 0, Value.int .i64 0, Value.string ByteArray.empty, Value.int .u8 0, Value.int .i64 0, Value.string ByteArray.empty, Value.slice none 0 0, Value.slice none 0 0] 1 [(0, .tmp 81)], after := [60], guard := none },
  { dst := some 83, op := .build [Value.int .u8 0, Value.int .i64 0, Value.int .i64 0, Value.string ByteArray.empty, Value.slice none 0 0] [(0, 1, .const (.int .u8 4)), (3, 1, .const (.string { data := #[89] })), (4, 1, .tmp 82)], after := [61], guard := none },
  { dst := some 84, op := .bslice 31 5 [Value.int .u8 0, Value.int .i64 0, Value.int .i64 0, Value.string ByteArray.empty, Value.slice none 0 0] 2 [(0, .tmp 79), (1, .tmp 83)], after := [58, 62], guard := none },
  { dst := some 85, op := .call (.tmp 71) [.const (.string { data := #[112, 97, 116, 104] }), .tmp 74, .tmp 84], after := [50, 53, 63, 60], guard := none },
  { dst := some 86, op := .build [Value.string ByteArray.empty, Value.slice none 0 0, Value.slice none 0 0, Value.slice none 0 0, Value.slice none 0 0, Value.slice none 0 0, Value.int .i64 0, Value.int .i64 0] [(0, 6, .tmp 85), (6, 1, .const (.int .i64 7)), (7, 1, .const (.int .i64 72))], after := [64], guard := none },
  { dst := some 87, op := .copy false (.tmp 5), after := [], guard := none },
  { dst := some 88, op := .copy false (.tmp 1), after := [], guard := none },
  { dst := some 89, op := .call (.tmp 88) [.const (.string { data := #[88] })], after := [67, 64], guard := none },
  { dst := some 90, op := .load 9 true false (.tmp 2), after := [], guard := none },
  { dst := some 91, op := .bslice 42 9 [Value.int .u8 0, Value.int .i64 0, Value.int .i64 0, Value.string ByteArray.empty, Value.int .u8 0, Value.int .i64 0, Value.string ByteArray.empty, Value.slice none 0 0, Value.slice none 0 0] 2 [(0, .tmp 89), (1, .tmp 90)], after := [68, 69], guard := none },
  { dst := some 92, op := .copy false (.tmp 4), after := [], guard := none },
  { dst := some 93, op := .copy false (.tmp 3), after := [], guard := none },
  { dst := some 94, op := .copy false (.tmp 1), after := [], guard := none },
  { dst := some 95, op := .call (.tmp 94) [.const (.string { data := #[88] })], after := [73, 68], guard := none },
  { dst := some 96, op := .call (.tmp 93) [.tmp 95], after := [72, 74, 74], guard := none },
  { dst := some 97, op := .load 9 true false (.tmp 2), after := [], guard := none },
  { dst := some 98, op := .bslice 42 9 [Value.int .u8 0, Value.int .i64 0, Value.int .i64 0, Value.string ByteArray.empty, Value.int .u8 0, Value.int .i64 0, Value.string ByteArray.empty, Value.slice none 0 0, Value.slice none 0 0] 2 [(0, .tmp 96), (1, .tmp 97)], after := [75, 76], guard := none },
  { dst := some 99, op := .call (.tmp 92) [.const (.string { data := #[112, 97, 116, 104] }), .tmp 98], after := [71, 77, 75], guard := none },
  { dst := some 100, op := .bslice 31 5 [Value.int .u8 0, Value.int .i64 0, Value.int .i64 0, Value.string ByteArray.empty, Value.slice none 0 0] 1 [(0, .tmp 99)], after := [78], guard := none },
  { dst := some 101, op := .call (.tmp 87) [.const (.string { data := #[112, 97, 116, 104] }), .tmp 91, .tmp 100], after := [66, 70, 79, 78], guard := none },
  { dst := some 102, op := .build [Value.string ByteArray.empty, Value.slice none 0 0, Value.slice none 0 0, Value.slice none 0 0, Value.slice none 0 0, Value.slice none 0 0, Value.int .i64 0, Value.int .i64 0] [(0, 6, .tmp 101), (6, 1, .const (.int .i64 0)), (7, 1, .const (.int .i64 0))], after := [80], guard := none },
  { dst := some 103, op := .copy false (.tmp 3), after := [], guard := none },
  { dst := some 104, op := .copy false (.tmp 1), after := [], guard := none },
  { dst := some 105, op := .call (.tmp 104) [.const (.string { data := #[88] })], after := [83, 80], guard := none },
  { dst := some 106, op := .call (.tmp 103) [.tmp 105], after := [82, 84, 84], guard := none },
  { dst := some 107, op := .bslice 42 9 [Value.int .u8 0, Value.int .i64 0, Value.int .i64 0, Value.string ByteArray.empty, Value.int .u8 0, Value.int .i64 0, Value.string ByteArray.empty, Value.slice none 0 0, Value.slice none 0 0] 1 [(0, .tmp 106)], after := [85], guard := none },
  { dst := some 108, op := .copy false (.tmp 4), after := [], guard := none },
  { dst := some 109, op := .copy false (.tmp 1), after := [], guard := none },
  { dst := some 110, op := .call (.tmp 109) [.const (.string { data := #[88] })], after := [88, 85], guard := none },
  { dst := some 111, op := .bslice 42 9 [Value.int .u8 0, Value.int .i64 0, Value.int .i64 0, Value.string ByteArray.empty, Value.int .u8 0, Value.int .i64 0, Value.string ByteArray.empty, Value.slice none 0 0, Value.slice none 0 0] 1 [(0, .tmp 110)], after := [89], guard := none },
  { dst := some 112, op := .call (.tmp 108) [.const (.string { data := #[98] }), .tmp 111], after := [87, 90, 89], guard := none },
  { dst := some 113, op := .bslice 31 5 [Value.int .u8 0, Value.int .i64 0, Value.int .i64 0, Value.string ByteArray.empty, Value.slice none 0 0] 1 [(0, .tmp 112)], after := [91], guard := none },
  { dst := some 114, op := .build [Value.int .i64 0, Value.int .i64 0, Value.string ByteArray.empty, Value.slice none 0 0, Value.slice none 0 0, Value.slice none 0 0] [(2, 1, .const (.string { data := #[97] })), (3, 1, .tmp 107), (5, 1, .tmp 113)], after := [86, 92], guard := none },
  { dst := some 115, op := .copy false (.tmp 1), after := [], guard := none },
  { dst := some 116, op := .call (.tmp 115) [.const (.string { data := #[88] })], after := [94, 91], guard := none },
  { dst := some 117, op := .bslice 42 9 [Value.int .u8 0, Value.int .i64 0, Value.int .i64 0, Value.string ByteArray.empty, Value.int .u8 0, Value.int .i64 0, Value.string ByteArray.empty, Value.slice none 0 0, Value.slice none 0 0] 1 [(0, .tmp 116)], after := [95], guard := none },
  { dst := some 118, op := .copy false (.tmp 4), after := [], guard := none },
  { dst := some 119, op := .copy false (.tmp 1), after := [], guard := none },
  { dst := some 120, op := .call (.tmp 119) [.const (.string { data := #[88] })], after := [98, 95], guard := none },
  { dst := some 121, op := .bslice 42 9 [Value.int .u8 0, Value.int .i64 0, Value.int .i64 0, Value.string ByteArray.empty, Value.int .u8 0, Value.int .i64 0, Value.string ByteArray.empty, Value.slice none 0 0, Value.slice none 0 0] 1 [(0, .tmp 120)], after := [99], guard := none },
  { dst := some 122, op := .call (.tmp 118) [.const (.string { data := #[99] }), .tmp 121], after := [97, 100, 99], guard := none },
  { dst := some 123, op := .copy false (.tmp 1), after := [], guard := none },
  { dst := some 124, op := .call (.tmp 123) [.const (.string { data := #[88] })], after := [102, 101], guard := none },
  { dst := some 125, op := .bslice 42 9 [Value.int .u8 0, Value.int .i64 0, Value.int .i64 0, Value.string ByteArray.empty, Value.int .u8 0, Value.int .i64 0, Value.string ByteArray.empty, Value.slice none 0 0, Value.slice none 0 0] 1 [(0, .tmp 124)], after := [103], guard := none },
  { dst := some 126, op := .build [Value.int .u8 0, Value.int .i64 0, Value.int .i64 0, Value.string ByteArray.empty, Value.slice none 0 0] [(0, 1, .const (.int .u8 2)), (3, 1, .const (.string { data := #[97] })), (4, 1, .tmp 125)], after := [104], guard := none },
  { dst := some 127, op := .bslice 31 5 [Value.int .u8 0, Value.int .i64 0, Value.int .i64 0, Value.string ByteArray.empty, Value.slice none 0 0] 2 [(0, .tmp 122), (1, .tmp 126)], after := [101, 105], guard := none },
  { dst := some 128, op := .build [Value.int .i64 0, Value.int .i64 0, Value.string ByteArray.empty, Value.slice none 0 0, Value.slice none 0 0, Value.slice none 0 0] [(2, 1, .const (.string { data := #[98] })), (3, 1, .tmp 117), (5, 1, .tmp 127)], after := [96, 106], guard := none },
  { dst := some 129, op := .bslice 54 6 [Value.int .i64 0, Value.int .i64 0, Value.string ByteArray.empty, Value.slice none 0 0, Value.slice none 0 0, Value.slice none 0 0] 2 [(0, .tmp 114), (1, .tmp 128)], after := [93, 107], guard := none },
  { dst := some 130, op := .build [Value.string ByteArray.empty, Value.slice none 0 0, Value.slice none 0 0, Value.slice none 0 0, Value.slice none 0 0, Value.slice none 0 0] [(4, 1, .tmp 129)], after := [108], guard := none },
  { dst := some 131, op := .build [Value.string ByteArray.empty, Value.slice none 0 0, Value.slice none 0 0, Value.slice none 0 0, Value.slice none 0 0, Value.slice none 0 0, Value.int .i64 0, Value.int .i64 0] [(0, 6, .tmp 130), (6, 1, .const (.int .i64 9)), (7, 1, .const (.int .i64 72))], after := [109], guard := none },
  { dst := some 132, op := .copy false (.tmp 3), after := [], guard := none },
  { dst := some 133, op := .copy false (.tmp 1), after := [], guard := none },
  { dst := some 134, op := .call (.tmp 133) [.const (.string { data := #[88] })], after := [112, 103], guard := none },
  { dst := some 135, op := .call (.tmp 132) [.tmp 134], after := [111, 113, 113], guard := none },
  { dst := some 136, op := .bslice 42 9 [Value.int .u8 0, Value.int .i64 0, Value.int .i64 0, Value.string ByteArray.empty, Value.int .u8 0, Value.int .i64 0, Value.string ByteArray.empty, Value.slice none 0 0, Value.slice none 0 0] 1 [(0, .tmp 135)], after := [114], guard := none },
  { dst := some 137, op := .copy false (.tmp 4), after := [], guard := none },
  { dst := some 138, op := .copy false (.tmp 1), after := [], guard := none },
  { dst := some 139, op := .call (.tmp 138) [.const (.string { data := #[88] })], after := [117, 114], guard := none },
  { dst := some 140, op := .bslice 42 9 [Value.int .u8 0, Value.int .i64 0, Value.int .i64 0, Value.string ByteArray.empty, Value.int .u8 0, Value.int .i64 0, Value.string ByteArray.empty, Value.slice none 0 0, Value.slice none 0 0] 1 [(0, .tmp 139)], after := [118], guard := none },
  { dst := some 141, op := .call (.tmp 137) [.const (.string { data := #[98] }), .tmp 140], after := [116, 119, 118], guard := none },
  { dst := some 142, op := .bslice 31 5 [Value.int .u8 0, Value.int .i64 0, Value.int .i64 0, Value.string ByteArray.empty, Value.slice none 0 0] 1 [(0, .tmp 141)], after := [120], guard := none },
  { dst := some 143, op := .build [Value.int .i64 0, Value.int .i64 0, Value.string ByteArray.empty, Value.slice none 0 0, Value.slice none 0 0, Value.slice none 0 0] [(2, 1, .const (.string { data := #[97] })), (3, 1, .tmp 136), (5, 1, .tmp 142)], after := [115, 121], guard := none },
  { dst := some 144, op := .copy false (.tmp 1), after := [], guard := none },
  { dst := some 145, op := .call (.tmp 144) [.const (.string { data := #[88] })], after := [123, 120], guard := none },
  { dst := some 146, op := .bslice 42 9 [Value.int .u8 0, Value.int .i64 0, Value.int .i64 0, Value.string ByteArray.empty, Value.int .u8 0, Value.int .i64 0, Value.string ByteArray.empty, Value.slice none 0 0, Value.slice none 0 0] 1 [(0, .tmp 145)], after := [124], guard := none },
  { dst := some 147, op := .copy false (.tmp 4), after := [], guard := none },
  { dst := some 148, op := .copy false (.tmp 1), after := [], guard := none },
  { dst := some 149, op := .call (.tmp 148) [.const (.string { data := #[88] })], after := [127, 124], guard := none },
  { dst := some 150, op := .bslice 42 9 [Value.int .u8 0, Value.int .i64 0, Value.int .i64 0, Value.string ByteArray.empty, Value.int .u8 0, Value.int .i64 0, Value.string ByteArray.empty, Value.slice none 0 0, Value.slice none 0 0] 1 [(0, .tmp 149)], after := [128], guard := none },
  { dst := some 151, op := .call (.tmp 147) [.const (.string { data := #[99] }), .tmp 150], after := [126, 129, 128], guard := none },
  { dst := some 152, op := .bslice 31 5 [Value.int .u8 0, Value.int .i64 0, Value.int .i64 0, Value.string ByteArray.empty, Value.slice none 0 0] 1 [(0, .tmp 151)], after := [130], guard := none },
  { dst := some 153, op := .build [Value.int .i64 0, Value.int .i64 0, Value.string ByteArray.empty, Value.slice none 0 0, Value.slice none 0 0, Value.slice none 0 0] [(2, 1, .const (.string { data := #[98] })), (3, 1, .tmp 146), (5, 1, .tmp 152)], after := [125, 131], guard := none },
  { dst := some 154, op := .copy false (.tmp 1), after := [], guard := none },
  { dst := some 155, op := .call (.tmp 154) [.const (.string { data := #[88] })], after := [133, 130], guard := none },
  { dst := some 156, op := .bslice 42 9 [Value.int .u8 0, Value.int .i64 0, Value.int .i64 0, Value.string ByteArray.empty, Value.int .u8 0, Value.int .i64 0, Value.string ByteArray.empty, Value.slice none 0 0, Value.slice none 0 0] 1 [(0, .tmp 155)], after := [134], guard := none },
  { dst := some 157, op := .copy false (.tmp 4), after := [], guard := none },
  { dst := some 158, op := .copy false (.tmp 1), after := [], guard := none },
  { dst := some 159, op := .call (.tmp 158) [.const (.string { data := #[88] })], after := [137, 134], guard := none },
  { dst := some 160, op := .bslice 42 9 [Value.int .u8 0, Value.int .i64 0, Value.int .i64 0, Value.string ByteArray.empty, Value.int .u8 0, Value.int .i64 0, Value.string ByteArray.empty, Value.slice none 0 0, Value.slice none 0 0] 1 [(0, .tmp 159)], after := [138], guard := none },
  { dst := some 161, op := .call (.tmp 157) [.const (.string { data := #[100] }), .tmp 160], after := [136, 139, 138], guard := none },
  { dst := some 162, op := .bslice 31 5 [Value.int .u8 0, Value.int .i64 0, Value.int .i64 0, Value.string ByteArray.empty, Value.slice none 0 0] 1 [(0, .tmp 161)], after := [140], guard := none },
  { dst := some 163, op := .build [Value.int .i64 0, Value.int .i64 0, Value.string ByteArray.empty, Value.slice none 0 0, Value.slice none 0 0, Value.slice none 0 0] [(2, 1, .const (.string { data := #[99] })), (3, 1, .tmp 156), (5, 1, .tmp 162)], after := [135, 141], guard := none },
  { dst := some 164, op := .copy false (.tmp 1), after := [], guard := none },
  { dst := some 165, op := .call (.tmp 164) [.const (.string { data := #[88] })], after := [143, 140], guard := none },
  { dst := some 166, op := .bslice 42 9 [Value.int .u8 0, Value.int .i64 0, Value.int .i64 0, Value.string ByteArray.empty, Value.int .u8 0, Value.int .i64 0, Value.string ByteArray.empty, Value.slice none 0 0, Value.slice none 0 0] 1 [(0, .tmp 165)], after := [144], guard := none },
  { dst := some 167, op := .copy false (.tmp 4), after := [], guard := none },
  { dst := some 168, op := .copy false (.tmp 1), after := [], guard := none },
  { dst := some 169, op := .call (.tmp 168) [.const (.string { data := #[88] })], after := [147, 144], guard := none },
  { dst := some 170, op := .bslice 42 9 [Value.int .u8 0, Value.int .i64 0, Value.int .i64 0, Value.string ByteArray.empty, Value.int .u8 0, Value.int .i64 0, Value.string ByteArray.empty, Value.slice none 0 0, Value.slice none 0 0] 1 [(0, .tmp 169)], after := [148], guard := none },
  { dst := some 171, op := .call (.tmp 167) [.const (.string { data := #[97] }), .tmp 170], after := [146, 149, 148], guard := none },
  { dst := some 172, op := .bslice 31 5 [Value.int .u8 0, Value.int .i64 0, Value.int .i64 0, Value.string ByteArray.empty, Value.slice none 0 0] 1 [(0, .tmp 171)], after := [150], guard := none },
  { dst := some 173, op := .build [Value.int .i64 0, Value.int .i64 0, Value.string ByteArray.empty, Value.slice none 0 0, Value.slice none 0 0, Value.slice none 0 0] [(2, 1, .const (.string { data := #[100] })), (3, 1, .tmp 166), (5, 1, .tmp 172)], after := [145, 151], guard := none },
  { dst := some 174, op := .bslice 54 6 [Value.int .i64 0, Value.int .i64 0, Value.string ByteArray.empty, Value.slice none 0 0, Value.slice none 0 0, Value.slice none 0 0] 4 [(0, .tmp 143), (1, .tmp 153), (2, .tmp 163), (3, .tmp 173)], after := [122, 132, 142, 152], guard := none },
  { dst := some 175, op := .build [Value.string ByteArray.empty, Value.slice none 0 0, Value.slice none 0 0, Value.slice none 0 0, Value.slice none 0 0, Value.slice none 0 0] [(4, 1, .tmp 174)], after := [153], guard := none },
  { dst := some 176, op := .build [Value.string ByteArray.empty, Value.slice none 0 0, Value.slice none 0 0, Value.slice none 0 0, Value.slice none 0 0, Value.slice none 0 0, Value.int .i64 0, Value.int .i64 0] [(0, 6, .tmp 175), (6, 1, .const (.int .i64 9)), (7, 1, .const (.int .i64 72))], after := [154], guard := none },
  { dst := some 177, op := .copy false (.tmp 3), after := [], guard := none },
  { dst := some 178, op := .copy false (.tmp 1), after := [], guard := none },
  { dst := some 179, op := .call (.tmp 178) [.const (.string { data := #[88] })], after := [157, 150], guard := none },
  { dst := some 180, op := .call (.tmp 177) [.tmp 179], after := [156, 158, 158], guard := none },
  { dst := some 181, op := .bslice 42 9 [Value.int .u8 0, Value.int .i64 0, Value.int .i64 0, Value.string ByteArray.empty, Value.int .u8 0, Value.int .i64 0, Value.string ByteArray.empty, Value.slice none 0 0, Value.slice none 0 0] 1 [(0, .tmp 180)], after := [159], guard := none },
  { dst := some 182, op := .bslice 9 1 [Value.string ByteArray.empty] 1 [(0, .const (.string { data := #[115, 117, 109] }))], after := [], guard := none },
  { dst := some 183, op := .copy false (.tmp 4), after := [], guard := none },
  { dst := some 184, op := .copy false (.tmp 1), after := [], guard := none },
  { dst := some 185, op := .call (.tmp 184) [.const (.string { data := #[88] })], after := [163, 159], guard := none },
  { dst := some 186, op := .bslice 42 9 [Value.int .u8 0, Value.int .i64 0, Value.int .i64 0, Value.string ByteArray.empty, Value.int .u8 0, Value.int .i64 0, Value.string ByteArray.empty, Value.slice none 0 0, Value.slice none 0 0] 1 [(0, .tmp 185)], after := [164], guard := none },
  { dst := some 187, op := .call (.tmp 183) [.const (.string { data := #[97] }), .tmp 186], after := [162, 165, 164], guard := none },
  { dst := some 188, op := .bslice 31 5 [Value.int .u8 0, Value.int .i64 0, Value.int .i64 0, Value.string ByteArray.empty, Value.slice none 0 0] 1 [(0, .tmp 187)], after := [166], guard := none },
  { dst := some 189, op := .build [Value.int .i64 0, Value.int .i64 0, Value.string ByteArray.empty, Value.slice none 0 0, Value.slice none 0 0, Value.slice none 0 0] [(2, 1, .const (.string { data := #[97] })), (3, 1, .tmp 181), (4, 1, .tmp 182), (5, 1, .tmp 188)], after := [160, 161, 167], guard := none },
  { dst := some 190, op := .bslice 54 6 [Value.int .i64 0, Value.int .i64 0, Value.string ByteArray.empty, Value.slice none 0 0, Value.slice none 0 0, Value.slice none 0 0] 1 [(0, .tmp 189)], after := [168], guard := none },
  { dst := some 191, op := .build [Value.string ByteArray.empty, Value.slice none 0 0, Value.slice none 0 0, Value.slice none 0 0, Value.slice none 0 0, Value.slice none 0 0] [(4, 1, .tmp 190)], after := [169], guard := none },
  { dst := some 192, op := .build [Value.string ByteArray.empty, Value.slice none 0 0, Value.slice none 0 0, Value.slice none 0 0, Value.slice none 0 0, Value.slice none 0 0, Value.int .i64 0, Value.int .i64 0] [(0, 6, .tmp 191), (6, 1, .const (.int .i64 0)), (7, 1, .const (.int .i64 0))], after := [170], guard := none },
  { dst := some 193, op := .build [Value.int .i64 0, Value.int .i64 0] [(0, 1, .const (.int .i64 5))], after := [], guard := none },
  { dst := some 194, op := .copy false (.tmp 1), after := [], guard := none },
  { dst := some 195, op := .call (.tmp 194) [.const (.string { data := #[88] })], after := [173, 166], guard := none },
  { dst := some 196, op := .bslice 42 9 [Value.int .u8 0, Value.int .i64 0, Value.int .i64 0, Value.string ByteArray.empty, Value.int .u8 0, Value.int .i64 0, Value.string ByteArray.empty, Value.slice none 0 0, Value.slice none 0 0] 1 [(0, .tmp 195)], after := [174], guard := none },
  { dst := some 197, op := .build [Value.int .u8 0, Value.int .i64 0, Value.int .i64 0, Value.string ByteArray.empty, Value.slice none 0 0] [(0, 1, .const (.int .u8 2)), (3, 1, .const (.string { data := #[113] })), (1, 2, .tmp 193), (4, 1, .tmp 196)], after := [172, 175], guard := none },
  { dst := some 198, op := .bslice 31 5 [Value.int .u8 0, Value.int .i64 0, Value.int .i64 0, Value.string ByteArray.empty, Value.slice none 0 0] 1 [(0, .tmp 197)], after := [176], guard := none },
  { dst := some 199, op := .build [Value.int .i64 0, Value.int .i64 0, Value.string ByteArray.empty, Value.slice none 0 0] [(3, 1, .tmp 198)], after := [177], guard := none },
  { dst := some 200, op := .bslice 58 4 [Value.int .i64 0, Value.int .i64 0, Value.string ByteArray.empty, Value.slice none 0 0] 1 [(0, .tmp 199)], after := [178], guard := none },
  { dst := some 201, op := .build [Value.string ByteArray.empty, Value.slice none 0 0, Value.slice none 0 0, Value.slice none 0 0, Value.slice none 0 0, Value.slice none 0 0] [(5, 1, .tmp 200)], after := [179], guard := none },
  { dst := some 202, op := .build [Value.string ByteArray.empty, Value.slice none 0 0, Value.slice none 0 0, Value.slice none 0 0, Value.slice none 0 0, Value.slice none 0 0, Value.int .i64 0, Value.int .i64 0] [(0, 6, .tmp 201), (6, 1, .const (.int .i64 5)), (7, 1, .const (.int .i64 71))], after := [180], guard := none },
  { dst := some 203, op := .bslice 56 8 [Value.string ByteArray.empty, Value.slice none 0 0, Value.slice none 0 0, Value.slice none 0 0, Value.slice none 0 0, Value.slice none 0 0, Value.int .i64 0, Value.int .i64 0] 9 [(0, .tmp 34), (1, .tmp 52), (2, .tmp 70), (3, .tmp 86), (4, .tmp 102), (5, .tmp 131), (6, .tmp 176), (7, .tmp 192), (8, .tmp 202)], after := [13, 31, 49, 65, 81, 110, 155, 171, 181], guard := none },
  { dst := some 204, op := .len 0 (.tmp 203), after := [182], guard := none },
  { dst := some 205, op := .copy false (.const (.int .i64 0)), after := [], guard := none }]
def F4r7 : List ROp := [{ dst := some 206, op := .bin .lss (.tmp 205) (.tmp 204), after := [], guard := none }]
def F4r8 : List ROp := [{ dst := some 207, op := .iad 8 (.tmp 203) (.tmp 205), after := [], guard := none },
  { dst := some 208, op := .load 8 true false (.tmp 207), after := [0], guard := none },
  { dst := some 7, op := .alloc 56 [Value.string ByteArray.empty, Value.slice none 0 0, Value.slice none 0 0, Value.slice none 0 0, Value.slice none 0 0, Value.slice none 0 0, Value.int .i64 0, Value.int .i64 0], after := [], guard := none },
  { dst := none, op := .store 8 true (.tmp 7) (.tmp 208), after := [2, 1, 0, 1, 2], guard := none }]
def F4r9 : List ROp := [{ dst := some 210, op := .fad 0 (.tmp 7), after := [], guard := none },
  { dst := some 211, op := .load 6 true false (.tmp 210), after := [0], guard := none },
  { dst := some 212, op := .call (.func 16) [.tmp 211], after := [1], guard := none },
  { dst := some 209, op := .copy false (.tmp 212), after := [2], guard := none },
  { dst := some 213, op := .ext (.tmp 209) 0, after := [3], guard := none },
  { dst := some 214, op := .ext (.tmp 209) 1, after := [3], guard := none },
  { dst := some 8, op := .alloc 28 [Value.int .i64 0, Value.int .i64 0], after := [], guard := none },
  { dst := none, op := .store 2 true (.tmp 8) (.tmp 213), after := [6, 4, 2, 0, 1, 2, 3, 4, 6], guard := none },
  { dst := some 9, op := .copy true (.tmp 214), after := [5, 7, 0, 1, 2, 3, 4, 5, 6, 7], guard := none }]
def F4r10 : List ROp := [{ dst := some 215, op := .fad 0 (.tmp 8), after := [], guard := none },
  { dst := some 216, op := .load 1 false false (.tmp 215), after := [0], guard := none },
  { dst := some 217, op := .fad 6 (.tmp 7), after := [], guard := none },
  { dst := some 218, op := .load 1 false false (.tmp 217), after := [2], guard := none },
  { dst := some 219, op := .bin .neq (.tmp 216) (.tmp 218), after := [1, 3], guard := none },
  { dst := some 220, op := .copy false (.tmp 219), after := [4], guard := none },
  { dst := some 221, op := .copy false (.tmp 9), after := [5], guard := some (220, false) },
  { dst := some 222, op := .fad 7 (.tmp 7), after := [5], guard := some (220, false) },
  { dst := some 223, op := .load 1 false false (.tmp 222), after := [7, 5], guard := some (220, false) },
  { dst := some 224, op := .bin .neq (.tmp 221) (.tmp 223), after := [6, 8, 5], guard := some (220, false) },
  { dst := some 225, op := .pick (.tmp 220) (.const (.bool true)) (.tmp 224), after := [5, 9], guard := none }]
def F4r11 : List ROp := [{ dst := some 0, op := .copy true (.const (.bool false)), after := [], guard := none }]
def F4r12 : List ROp := [{ dst := some 226, op := .bin .add (.tmp 205) (.const (.int .i64 1)), after := [], guard := none },
  { dst := some 205, op := .copy false (.tmp 226), after := [0], guard := none }]
def F4r13 : List ROp := [{ dst := some 228, op := .build [Value.int .i64 0, Value.int .i64 0] [(0, 1, .const (.int .i64 2))], after := [], guard := none },
  { dst := some 229, op := .copy false (.tmp 1), after := [], guard := none },
  { dst := some 230, op := .call (.tmp 229) [.const (.string { data := #[89] })], after := [1], guard := none },
  { dst := some 231, op := .bslice 42 9 [Value.int .u8 0, Value.int .i64 0, Value.int .i64 0, Value.string ByteArray.empty, Value.int .u8 0, Value.int .i64 0, Value.string ByteArray.empty, Value.slice none 0 0, Value.slice none 0 0] 1 [(0, .tmp 230)], after := [2], guard := none },
  { dst := some 232, op := .build [Value.int .u8 0, Value.int .i64 0, Value.int .i64 0, Value.string ByteArray.empty, Value.slice none 0 0] [(0, 1, .const (.int .u8 4)), (3, 1, .const (.string { data := #[88] })), (1, 2, .tmp 228), (4, 1, .tmp 231)], after := [0, 3], guard := none },
  { dst := some 233, op := .copy false (.tmp 1), after := [], guard := none },
  { dst := some 234, op := .call (.tmp 233) [.const (.string { data := #[88] })], after := [5, 2], guard := none },
  { dst := some 235, op := .bslice 42 9 [Value.int .u8 0, Value.int .i64 0, Value.int .i64 0, Value.string ByteArray.empty, Value.int .u8 0, Value.int .i64 0, Value.string ByteArray.empty, Value.slice none 0 0, Value.slice none 0 0] 1 [(0, .tmp 234)], after := [6], guard := none },
  { dst := some 236, op := .build [Value.int .u8 0, Value.int .i64 0, Value.int .i64 0, Value.string ByteArray.empty, Value.slice none 0 0] [(0, 1, .const (.int .u8 4)), (3, 1, .const (.string { data := #[89] })), (4, 1, .tmp 235)], after := [7], guard := none },
  { dst := some 237, op := .bslice 31 5 [Value.int .u8 0, Value.int .i64 0, Value.int .i64 0, Value.string ByteArray.empty, Value.slice none 0 0] 2 [(0, .tmp 232), (1, .tmp 236)], after := [4, 8], guard := none },
  { dst := some 238, op := .call (.func 10) [.tmp 237], after := [9, 6], guard := none },
  { dst := some 227, op := .copy false (.tmp 238), after := [10], guard := none },
  { dst := some 239, op := .ext (.tmp 227) 0, after := [11], guard := none },
  { dst := some 240, op := .ext (.tmp 227) 1, after := [11], guard := none },
  { dst := some 241, op := .ext (.tmp 227) 2, after := [11], guard := none },
  { dst := some 242, op := .ext (.tmp 227) 3, after := [11], guard := none },
  { dst := some 12, op := .alloc 28 [Value.int .i64 0, Value.int .i64 0], after := [], guard := none },
  { dst := some 10, op := .copy true (.tmp 239), after := [12, 10, 0, 1, 2, 3, 4, 5, 6, 7, 8, 9, 10, 11, 12, 16], guard := none },
  { dst := some 11, op := .copy true (.tmp 240), after := [13, 17, 0, 1, 2, 3, 4, 5, 6, 7, 8, 9, 10, 11, 12, 13, 16, 17], guard := none },
  { dst := none, op := .store 2 true (.tmp 12) (.tmp 241), after := [16, 14, 18, 0, 1, 2, 3, 4, 5, 6, 7, 8, 9, 10, 11, 12, 13, 14, 16, 17, 18], guard := none },
  { dst := some 13, op := .copy true (.tmp 242), after := [15, 19, 0, 1, 2, 3, 4, 5, 6, 7, 8, 9, 10, 11, 12, 13, 14, 15, 16, 17, 18, 19], guard := none }]
def F4r14 : List ROp := [{ dst := some 244, op := .call (.func 10) [.const (.slice none 0 0)], after := [], guard := none },
  { dst := some 243, op := .copy false (.tmp 244), after := [0], guard := none },
  { dst := some 245, op := .ext (.tmp 243) 0, after := [1], guard := none },
  { dst := some 246, op := .ext (.tmp 243) 1, after := [1], guard := none },
  { dst := some 247, op := .ext (.tmp 243) 2, after := [1], guard := none },
  { dst := some 248, op := .ext (.tmp 243) 3, after := [1], guard := none },
  { dst := some 16, op := .alloc 28 [Value.int .i64 0, Value.int .i64 0], after := [], guard := none },
  { dst := some 14, op := .copy true (.tmp 245), after := [2, 0, 0, 1, 2, 6], guard := none },
  { dst := some 15, op := .copy true (.tmp 246), after := [3, 7, 0, 1, 2, 3, 6, 7], guard := none },
  { dst := none, op := .store 2 true (.tmp 16) (.tmp 247), after := [6, 4, 8, 0, 1, 2, 3, 4, 6, 7, 8], guard := none },
  { dst := some 17, op := .copy true (.tmp 248), after := [5, 9, 0, 1, 2, 3, 4, 5, 6, 7, 8, 9], guard := none }]
def F4r15 : List ROp := [{ dst := some 249, op := .fad 0 (.tmp 12), after := [], guard := none },
  { dst := some 250, op := .load 1 false false (.tmp 249), after := [0], guard := none },
  { dst := some 251, op := .bin .eql (.tmp 250) (.const (.int .i64 2)), after := [1], guard := none },
  { dst := some 252, op := .copy false (.tmp 251), after := [2], guard := none },
  { dst := some 253, op := .copy false (.tmp 13), after := [3], guard := some (252, true) },
  { dst := some 254, op := .bin .eql (.tmp 253) (.const (.int .i64 71)), after := [4, 3], guard := some (252, true) },
  { dst := some 255, op := .pick (.tmp 252) (.tmp 254) (.const (.bool false)), after := [3, 5], guard := none },
  { dst := some 256, op := .copy false (.tmp 255), after := [6, 3], guard := none },
  { dst := some 257, op := .copy false (.tmp 14), after := [7], guard := some (256, true) },
  { dst := some 258, op := .len 0 (.tmp 257), after := [8, 7], guard := some (256, true) },
  { dst := some 259, op := .bin .eql (.tmp 258) (.const (.int .i64 0)), after := [9, 7], guard := some (256, true) },
  { dst := some 260, op := .pick (.tmp 256) (.tmp 259) (.const (.bool false)), after := [7, 10], guard := none },
  { dst := some 261, op := .copy false (.tmp 260), after := [11, 7], guard := none },
  { dst := some 262, op := .copy false (.tmp 15), after := [12], guard := some (261, true) },
  { dst := some 263, op := .len 0 (.tmp 262), after := [13, 12], guard := some (261, true) },
  { dst := some 264, op := .bin .eql (.tmp 263) (.const (.int .i64 0)), after := [14, 12], guard := some (261, true) },
  { dst := some 265, op := .pick (.tmp 261) (.tmp 264) (.const (.bool false)), after := [12, 15], guard := none },
  { dst := some 266, op := .copy false (.tmp 265), after := [16, 12], guard := none },
  { dst := some 267, op := .copy false (.tmp 17), after := [17], guard := some (266, true) },
  { dst := some 268, op := .bin .eql (.tmp 267) (.const (.int .i64 0)), after := [18, 17], guard := some (266, true) },
  { dst := some 269, op := .pick (.tmp 266) (.tmp 268) (.const (.bool false)), after := [17, 19], guard := none },
  { dst := some 270, op := .copy false (.tmp 269), after := [20, 17], guard := none },
  { dst := some 271, op := .call (.func 9) [], after := [21, 21], guard := some (270, true) },
  { dst := some 272, op := .pick (.tmp 270) (.tmp 271) (.const (.bool false)), after := [21, 22], guard := none },
  { dst := some 0, op := .copy true (.tmp 272), after := [23, 22, 0, 1, 2, 3, 4, 5, 6, 7, 8, 9, 10, 11, 12, 13, 14, 15, 16, 17, 18, 19, 20, 21, 22, 23], guard := none }]
def fnV (f : Nat) : AV := .val (.func (.func f) #[] #[])
def s6 : AS := { tm := [(1, fnV 12), (2, .elt 9 [encE exOne] 0 0), (3, .clo (.func 13) [.elt 9 [encE exOne] 0 0]), (4, fnV 14), (5, fnV 15)], hp := [] }
theorem wkRows {α : Type} {f : α → List AV} {w : Nat} (l : List α) : Wk (.fx w (l.map f)) (.rd w (l.map f)) := .fx (WkR.map fun _ _ => .refl _)
theorem allC {p : CallO → Prop} {x : CallO} {l : List CallO} (h : p x) (k : ∀ o ∈ l, p o) : ∀ o ∈ x :: l, p o := List.forall_mem_cons.2 ⟨h, k⟩
def R6 : List Res := [{ r := .agg (encE (exV ⟨#[88]⟩)) }, { r := .agg (encE (exV ⟨#[90]⟩)) }, { r := .agg (encE (exV ⟨#[88]⟩)) }, { r := .agg (encL (litA ⟨#[112]⟩ [exV ⟨#[88]⟩])) }, { r := .agg (modC (modR ⟨#[114]⟩ [exV ⟨#[88]⟩, exV ⟨#[90]⟩] [litA ⟨#[112]⟩ [exV ⟨#[88]⟩]])) }, { r := .agg (encE (exV ⟨#[88]⟩)) }, { r := .agg (encE (exV ⟨#[90]⟩)) }, { r := .agg (encE (exPlus (exV ⟨#[90]⟩))) }, { r := .agg (encE (exV ⟨#[88]⟩)) }, { r := .agg (encE (exV ⟨#[90]⟩)) }, { r := .agg (encL (litA ⟨#[112, 97, 116, 104]⟩ [exV ⟨#[88]⟩, exV ⟨#[90]⟩])) }, { r := .agg (modC (modR ⟨#[112, 97, 116, 104]⟩ [exV ⟨#[88]⟩, exPlus (exV ⟨#[90]⟩)] [litA ⟨#[112, 97, 116, 104]⟩ [exV ⟨#[88]⟩, exV ⟨#[90]⟩]])) }, { r := .agg (encE (exV ⟨#[88]⟩)) }, { r := .agg (encE (exV ⟨#[90]⟩)) }, { r := .agg (encE (exPlus (exV ⟨#[90]⟩))) }, { r := .agg (encE (exV ⟨#[88]⟩)) }, { r := .agg (encE (exV ⟨#[90]⟩)) }, { r := .agg (encL (litA ⟨#[101, 100, 103, 101]⟩ [exV ⟨#[88]⟩, exV ⟨#[90]⟩])) }, { r := .agg (modC (modR ⟨#[112, 97, 116, 104]⟩ [exV ⟨#[88]⟩, exPlus (exV ⟨#[90]⟩)] [litA ⟨#[101, 100, 103, 101]⟩ [exV ⟨#[88]⟩, exV ⟨#[90]⟩]])) }, { r := .agg (encE (exV ⟨#[89]⟩)) }, { r := .agg (encE (exV ⟨#[88]⟩)) }, { r := .agg (encL (litA ⟨#[112, 97, 116, 104]⟩ [exV ⟨#[88]⟩])) }, { r := .agg (encE (exV ⟨#[88]⟩)) }, { r := .agg (modC (modR ⟨#[112, 97, 116, 104]⟩ [exV ⟨#[89]⟩] [litA ⟨#[112, 97, 116, 104]⟩ [exV ⟨#[88]⟩], (⟨4, 0, 0, ⟨#[89]⟩, [exV ⟨#[88]⟩]⟩ : LitD)])) }, { r := .agg (encE (exV ⟨#[88]⟩)) }, { r := .agg (encE (exV ⟨#[88]⟩)) }, { r := .agg (encE (exPlus (exV ⟨#[88]⟩))) }, { r := .agg (encL (litA ⟨#[112, 97, 116, 104]⟩ [exPlus (exV ⟨#[88]⟩), exOne])) }, { r := .agg (modC (modR ⟨#[112, 97, 116, 104]⟩ [exV ⟨#[88]⟩, exOne] [litA ⟨#[112, 97, 116, 104]⟩ [exPlus (exV ⟨#[88]⟩), exOne]])) }, { r := .agg (encE (exV ⟨#[88]⟩)) }, { r := .agg (encE (exPlus (exV ⟨#[88]⟩))) }, { r := .agg (encE (exV ⟨#[88]⟩)) }, { r := .agg (encL (litA ⟨#[98]⟩ [exV ⟨#[88]⟩])) }, { r := .agg (encE (exV ⟨#[88]⟩)) }, { r := .agg (encE (exV ⟨#[88]⟩)) }, { r := .agg (encL (litA ⟨#[99]⟩ [exV ⟨#[88]⟩])) }, { r := .agg (encE (exV ⟨#[88]⟩)) }, { r := .agg (encE (exV ⟨#[88]⟩)) }, { r := .agg (encE (exPlus (exV ⟨#[88]⟩))) }, { r := .agg (encE (exV ⟨#[88]⟩)) }, { r := .agg (encL (litA ⟨#[98]⟩ [exV ⟨#[88]⟩])) }, { r := .agg (encE (exV ⟨#[88]⟩)) }, { r := .agg (encE (exV ⟨#[88]⟩)) }, { r := .agg (encL (litA ⟨#[99]⟩ [exV ⟨#[88]⟩])) }, { r := .agg (encE (exV ⟨#[88]⟩)) }, { r := .agg (encE (exV ⟨#[88]⟩)) }, { r := .agg (encL (litA ⟨#[100]⟩ [exV ⟨#[88]⟩])) }, { r := .agg (encE (exV ⟨#[88]⟩)) }, { r := .agg (encE (exV ⟨#[88]⟩)) }, { r := .agg (encL (litA ⟨#[97]⟩ [exV ⟨#[88]⟩])) }, { r := .agg (encE (exV ⟨#[88]⟩)) }, { r := .agg (encE (exPlus (exV ⟨#[88]⟩))) }, { r := .agg (encE (exV ⟨#[88]⟩)) }, { r := .agg (encL (litA ⟨#[97]⟩ [exV ⟨#[88]⟩])) }, { r := .agg (encE (exV ⟨#[88]⟩)) }]
def CS6 : List CallO := [⟨12, [sval ⟨#[88]⟩], .agg (encE (exV ⟨#[88]⟩))⟩, ⟨14, [sval ⟨#[97]⟩, .fx 9 [encE (exV ⟨#[88]⟩)]], .agg (encL (litA ⟨#[97]⟩ [exV ⟨#[88]⟩]))⟩, ⟨12, [sval ⟨#[88]⟩], .agg (encE (exV ⟨#[88]⟩))⟩, ⟨13, [.agg (encE (exV ⟨#[88]⟩)), .elt 9 [encE exOne] 0 0], .agg (encE (exPlus (exV ⟨#[88]⟩)))⟩, ⟨12, [sval ⟨#[88]⟩], .agg (encE (exV ⟨#[88]⟩))⟩, ⟨14, [sval ⟨#[97]⟩, .fx 9 [encE (exV ⟨#[88]⟩)]], .agg (encL (litA ⟨#[97]⟩ [exV ⟨#[88]⟩]))⟩, ⟨12, [sval ⟨#[88]⟩], .agg (encE (exV ⟨#[88]⟩))⟩, ⟨12, [sval ⟨#[88]⟩], .agg (encE (exV ⟨#[88]⟩))⟩, ⟨14, [sval ⟨#[100]⟩, .fx 9 [encE (exV ⟨#[88]⟩)]], .agg (encL (litA ⟨#[100]⟩ [exV ⟨#[88]⟩]))⟩, ⟨12, [sval ⟨#[88]⟩], .agg (encE (exV ⟨#[88]⟩))⟩, ⟨12, [sval ⟨#[88]⟩], .agg (encE (exV ⟨#[88]⟩))⟩, ⟨14, [sval ⟨#[99]⟩, .fx 9 [encE (exV ⟨#[88]⟩)]], .agg (encL (litA ⟨#[99]⟩ [exV ⟨#[88]⟩]))⟩, ⟨12, [sval ⟨#[88]⟩], .agg (encE (exV ⟨#[88]⟩))⟩, ⟨12, [sval ⟨#[88]⟩], .agg (encE (exV ⟨#[88]⟩))⟩, ⟨14, [sval ⟨#[98]⟩, .fx 9 [encE (exV ⟨#[88]⟩)]], .agg (encL (litA ⟨#[98]⟩ [exV ⟨#[88]⟩]))⟩, ⟨12, [sval ⟨#[88]⟩], .agg (encE (exV ⟨#[88]⟩))⟩, ⟨13, [.agg (encE (exV ⟨#[88]⟩)), .elt 9 [encE exOne] 0 0], .agg (encE (exPlus (exV ⟨#[88]⟩)))⟩, ⟨12, [sval ⟨#[88]⟩], .agg (encE (exV ⟨#[88]⟩))⟩, ⟨12, [sval ⟨#[88]⟩], .agg (encE (exV ⟨#[88]⟩))⟩, ⟨14, [sval ⟨#[99]⟩, .fx 9 [encE (exV ⟨#[88]⟩)]], .agg (encL (litA ⟨#[99]⟩ [exV ⟨#[88]⟩]))⟩, ⟨12, [sval ⟨#[88]⟩], .agg (encE (exV ⟨#[88]⟩))⟩, ⟨12, [sval ⟨#[88]⟩], .agg (encE (exV ⟨#[88]⟩))⟩, ⟨14, [sval ⟨#[98]⟩, .fx 9 [encE (exV ⟨#[88]⟩)]], .agg (encL (litA ⟨#[98]⟩ [exV ⟨#[88]⟩]))⟩, ⟨12, [sval ⟨#[88]⟩], .agg (encE (exV ⟨#[88]⟩))⟩, ⟨13, [.agg (encE (exV ⟨#[88]⟩)), .elt 9 [encE exOne] 0 0], .agg (encE (exPlus (exV ⟨#[88]⟩)))⟩, ⟨12, [sval ⟨#[88]⟩], .agg (encE (exV ⟨#[88]⟩))⟩, ⟨15, [sval ⟨#[112, 97, 116, 104]⟩, .fx 9 [encE (exV ⟨#[88]⟩), encE exOne], .fx 5 [encL (litA ⟨#[112, 97, 116, 104]⟩ [exPlus (exV ⟨#[88]⟩), exOne])]], .agg (modC (modR ⟨#[112, 97, 116, 104]⟩ [exV ⟨#[88]⟩, exOne] [litA ⟨#[112, 97, 116, 104]⟩ [exPlus (exV ⟨#[88]⟩), exOne]]))⟩, ⟨14, [sval ⟨#[112, 97, 116, 104]⟩, .fx 9 [encE (exPlus (exV ⟨#[88]⟩)), encE exOne]], .agg (encL (litA ⟨#[112, 97, 116, 104]⟩ [exPlus (exV ⟨#[88]⟩), exOne]))⟩, ⟨13, [.agg (encE (exV ⟨#[88]⟩)), .elt 9 [encE exOne] 0 0], .agg (encE (exPlus (exV ⟨#[88]⟩)))⟩, ⟨12, [sval ⟨#[88]⟩], .agg (encE (exV ⟨#[88]⟩))⟩, ⟨12, [sval ⟨#[88]⟩], .agg (encE (exV ⟨#[88]⟩))⟩, ⟨15, [sval ⟨#[112, 97, 116, 104]⟩, .fx 9 [encE (exV ⟨#[89]⟩)], .fx 5 [encL (litA ⟨#[112, 97, 116, 104]⟩ [exV ⟨#[88]⟩]), [.val (.int .u8 4), .val (.int .i64 0), .val (.int .i64 0), sval ⟨#[89]⟩, .fx 9 [encE (exV ⟨#[88]⟩)]]]], .agg (modC (modR ⟨#[112, 97, 116, 104]⟩ [exV ⟨#[89]⟩] [litA ⟨#[112, 97, 116, 104]⟩ [exV ⟨#[88]⟩], (⟨4, 0, 0, ⟨#[89]⟩, [exV ⟨#[88]⟩]⟩ : LitD)]))⟩, ⟨12, [sval ⟨#[88]⟩], .agg (encE (exV ⟨#[88]⟩))⟩, ⟨14, [sval ⟨#[112, 97, 116, 104]⟩, .fx 9 [encE (exV ⟨#[88]⟩)]], .agg (encL (litA ⟨#[112, 97, 116, 104]⟩ [exV ⟨#[88]⟩]))⟩, ⟨12, [sval ⟨#[88]⟩], .agg (encE (exV ⟨#[88]⟩))⟩, ⟨12, [sval ⟨#[89]⟩], .agg (encE (exV ⟨#[89]⟩))⟩, ⟨15, [sval ⟨#[112, 97, 116, 104]⟩, .fx 9 [encE (exV ⟨#[88]⟩), encE (exPlus (exV ⟨#[90]⟩))], .fx 5 [encL (litA ⟨#[101, 100, 103, 101]⟩ [exV ⟨#[88]⟩, exV ⟨#[90]⟩])]], .agg (modC (modR ⟨#[112, 97, 116, 104]⟩ [exV ⟨#[88]⟩, exPlus (exV ⟨#[90]⟩)] [litA ⟨#[101, 100, 103, 101]⟩ [exV ⟨#[88]⟩, exV ⟨#[90]⟩]]))⟩, ⟨14, [sval ⟨#[101, 100, 103, 101]⟩, .fx 9 [encE (exV ⟨#[88]⟩), encE (exV ⟨#[90]⟩)]], .agg (encL (litA ⟨#[101, 100, 103, 101]⟩ [exV ⟨#[88]⟩, exV ⟨#[90]⟩]))⟩, ⟨12, [sval ⟨#[90]⟩], .agg (encE (exV ⟨#[90]⟩))⟩, ⟨12, [sval ⟨#[88]⟩], .agg (encE (exV ⟨#[88]⟩))⟩, ⟨13, [.agg (encE (exV ⟨#[90]⟩)), .elt 9 [encE exOne] 0 0], .agg (encE (exPlus (exV ⟨#[90]⟩)))⟩, ⟨12, [sval ⟨#[90]⟩], .agg (encE (exV ⟨#[90]⟩))⟩, ⟨12, [sval ⟨#[88]⟩], .agg (encE (exV ⟨#[88]⟩))⟩, ⟨15, [sval ⟨#[112, 97, 116, 104]⟩, .fx 9 [encE (exV ⟨#[88]⟩), encE (exPlus (exV ⟨#[90]⟩))], .fx 5 [encL (litA ⟨#[112, 97, 116, 104]⟩ [exV ⟨#[88]⟩, exV ⟨#[90]⟩])]], .agg (modC (modR ⟨#[112, 97, 116, 104]⟩ [exV ⟨#[88]⟩, exPlus (exV ⟨#[90]⟩)] [litA ⟨#[112, 97, 116, 104]⟩ [exV ⟨#[88]⟩, exV ⟨#[90]⟩]]))⟩, ⟨14, [sval ⟨#[112, 97, 116, 104]⟩, .fx 9 [encE (exV ⟨#[88]⟩), encE (exV ⟨#[90]⟩)]], .agg (encL (litA ⟨#[112, 97, 116, 104]⟩ [exV ⟨#[88]⟩, exV ⟨#[90]⟩]))⟩, ⟨12, [sval ⟨#[90]⟩], .agg (encE (exV ⟨#[90]⟩))⟩, ⟨12, [sval ⟨#[88]⟩], .agg (encE (exV ⟨#[88]⟩))⟩, ⟨13, [.agg (encE (exV ⟨#[90]⟩)), .elt 9 [encE exOne] 0 0], .agg (encE (exPlus (exV ⟨#[90]⟩)))⟩, ⟨12, [sval ⟨#[90]⟩], .agg (encE (exV ⟨#[90]⟩))⟩, ⟨12, [sval ⟨#[88]⟩], .agg (encE (exV ⟨#[88]⟩))⟩, ⟨15, [sval ⟨#[114]⟩, .fx 9 [encE (exV ⟨#[88]⟩), encE (exV ⟨#[90]⟩)], .fx 5 [encL (litA ⟨#[112]⟩ [exV ⟨#[88]⟩])]], .agg (modC (modR ⟨#[114]⟩ [exV ⟨#[88]⟩, exV ⟨#[90]⟩] [litA ⟨#[112]⟩ [exV ⟨#[88]⟩]]))⟩, ⟨14, [sval ⟨#[112]⟩, .fx 9 [encE (exV ⟨#[88]⟩)]], .agg (encL (litA ⟨#[112]⟩ [exV ⟨#[88]⟩]))⟩, ⟨12, [sval ⟨#[88]⟩], .agg (encE (exV ⟨#[88]⟩))⟩, ⟨12, [sval ⟨#[90]⟩], .agg (encE (exV ⟨#[90]⟩))⟩, ⟨12, [sval ⟨#[88]⟩], .agg (encE (exV ⟨#[88]⟩))⟩]
theorem CS6_ok : ∀ o ∈ CS6, Con Try.prog o.fn o.vs o.r :=
  allC (v_ok ⟨#[88]⟩) (allC ((atom_ok ⟨#[97]⟩ [exV ⟨#[88]⟩]).args (.cons (.refl _) (.cons (wkRows (f := encE) [exV ⟨#[88]⟩]) .nil))) (allC (v_ok ⟨#[88]⟩) (allC (plus_ok (exV ⟨#[88]⟩)) (allC (v_ok ⟨#[88]⟩) (allC ((atom_ok ⟨#[97]⟩ [exV ⟨#[88]⟩]).args (.cons (.refl _) (.cons (wkRows (f := encE) [exV ⟨#[88]⟩]) .nil))) (allC (v_ok ⟨#[88]⟩) (allC (v_ok ⟨#[88]⟩) (allC ((atom_ok ⟨#[100]⟩ [exV ⟨#[88]⟩]).args (.cons (.refl _) (.cons (wkRows (f := encE) [exV ⟨#[88]⟩]) .nil))) (allC (v_ok ⟨#[88]⟩) (allC (v_ok ⟨#[88]⟩) (allC ((atom_ok ⟨#[99]⟩ [exV ⟨#[88]⟩]).args (.cons (.refl _) (.cons (wkRows (f := encE) [exV ⟨#[88]⟩]) .nil))) (allC (v_ok ⟨#[88]⟩) (allC (v_ok ⟨#[88]⟩) (allC ((atom_ok ⟨#[98]⟩ [exV ⟨#[88]⟩]).args (.cons (.refl _) (.cons (wkRows (f := encE) [exV ⟨#[88]⟩]) .nil))) (allC (v_ok ⟨#[88]⟩) (allC (plus_ok (exV ⟨#[88]⟩)) (allC (v_ok ⟨#[88]⟩) (allC (v_ok ⟨#[88]⟩) (allC ((atom_ok ⟨#[99]⟩ [exV ⟨#[88]⟩]).args (.cons (.refl _) (.cons (wkRows (f := encE) [exV ⟨#[88]⟩]) .nil))) (allC (v_ok ⟨#[88]⟩) (allC (v_ok ⟨#[88]⟩) (allC ((atom_ok ⟨#[98]⟩ [exV ⟨#[88]⟩]).args (.cons (.refl _) (.cons (wkRows (f := encE) [exV ⟨#[88]⟩]) .nil))) (allC (v_ok ⟨#[88]⟩) (allC (plus_ok (exV ⟨#[88]⟩)) (allC (v_ok ⟨#[88]⟩) (allC ((rule_ok ⟨#[112, 97, 116, 104]⟩ [exV ⟨#[88]⟩, exOne] [litA ⟨#[112, 97, 116, 104]⟩ [exPlus (exV ⟨#[88]⟩), exOne]]).args (.cons (.refl _) (.cons (wkRows (f := encE) [exV ⟨#[88]⟩, exOne]) (.cons (wkRows (f := encL) [litA ⟨#[112, 97, 116, 104]⟩ [exPlus (exV ⟨#[88]⟩), exOne]]) .nil)))) (allC ((atom_ok ⟨#[112, 97, 116, 104]⟩ [exPlus (exV ⟨#[88]⟩), exOne]).args (.cons (.refl _) (.cons (wkRows (f := encE) [exPlus (exV ⟨#[88]⟩), exOne]) .nil))) (allC (plus_ok (exV ⟨#[88]⟩)) (allC (v_ok ⟨#[88]⟩) (allC (v_ok ⟨#[88]⟩) (allC ((rule_ok ⟨#[112, 97, 116, 104]⟩ [exV ⟨#[89]⟩] [litA ⟨#[112, 97, 116, 104]⟩ [exV ⟨#[88]⟩], (⟨4, 0, 0, ⟨#[89]⟩, [exV ⟨#[88]⟩]⟩ : LitD)]).args (.cons (.refl _) (.cons (wkRows (f := encE) [exV ⟨#[89]⟩]) (.cons (.fx (by repeat' first | exact Wk.refl _ | exact WkL.nil | exact WkR.nil | exact Wk.nil _ | refine WkR.cons ?_ ?_ | refine WkL.cons ?_ ?_ | refine Wk.fx ?_)) .nil)))) (allC (v_ok ⟨#[88]⟩) (allC ((atom_ok ⟨#[112, 97, 116, 104]⟩ [exV ⟨#[88]⟩]).args (.cons (.refl _) (.cons (wkRows (f := encE) [exV ⟨#[88]⟩]) .nil))) (allC (v_ok ⟨#[88]⟩) (allC (v_ok ⟨#[89]⟩) (allC ((rule_ok ⟨#[112, 97, 116, 104]⟩ [exV ⟨#[88]⟩, exPlus (exV ⟨#[90]⟩)] [litA ⟨#[101, 100, 103, 101]⟩ [exV ⟨#[88]⟩, exV ⟨#[90]⟩]]).args (.cons (.refl _) (.cons (wkRows (f := encE) [exV ⟨#[88]⟩, exPlus (exV ⟨#[90]⟩)]) (.cons (wkRows (f := encL) [litA ⟨#[101, 100, 103, 101]⟩ [exV ⟨#[88]⟩, exV ⟨#[90]⟩]]) .nil)))) (allC ((atom_ok ⟨#[101, 100, 103, 101]⟩ [exV ⟨#[88]⟩, exV ⟨#[90]⟩]).args (.cons (.refl _) (.cons (wkRows (f := encE) [exV ⟨#[88]⟩, exV ⟨#[90]⟩]) .nil))) (allC (v_ok ⟨#[90]⟩) (allC (v_ok ⟨#[88]⟩) (allC (plus_ok (exV ⟨#[90]⟩)) (allC (v_ok ⟨#[90]⟩) (allC (v_ok ⟨#[88]⟩) (allC ((rule_ok ⟨#[112, 97, 116, 104]⟩ [exV ⟨#[88]⟩, exPlus (exV ⟨#[90]⟩)] [litA ⟨#[112, 97, 116, 104]⟩ [exV ⟨#[88]⟩, exV ⟨#[90]⟩]]).args (.cons (.refl _) (.cons (wkRows (f := encE) [exV ⟨#[88]⟩, exPlus (exV ⟨#[90]⟩)]) (.cons (wkRows (f := encL) [litA ⟨#[112, 97, 116, 104]⟩ [exV ⟨#[88]⟩, exV ⟨#[90]⟩]]) .nil)))) (allC ((atom_ok ⟨#[112, 97, 116, 104]⟩ [exV ⟨#[88]⟩, exV ⟨#[90]⟩]).args (.cons (.refl _) (.cons (wkRows (f := encE) [exV ⟨#[88]⟩, exV ⟨#[90]⟩]) .nil))) (allC (v_ok ⟨#[90]⟩) (allC (v_ok ⟨#[88]⟩) (allC (plus_ok (exV ⟨#[90]⟩)) (allC (v_ok ⟨#[90]⟩) (allC (v_ok ⟨#[88]⟩) (allC ((rule_ok ⟨#[114]⟩ [exV ⟨#[88]⟩, exV ⟨#[90]⟩] [litA ⟨#[112]⟩ [exV ⟨#[88]⟩]]).args (.cons (.refl _) (.cons (wkRows (f := encE) [exV ⟨#[88]⟩, exV ⟨#[90]⟩]) (.cons (wkRows (f := encL) [litA ⟨#[112]⟩ [exV ⟨#[88]⟩]]) .nil)))) (allC ((atom_ok ⟨#[112]⟩ [exV ⟨#[88]⟩]).args (.cons (.refl _) (.cons (wkRows (f := encE) [exV ⟨#[88]⟩]) .nil))) (allC (v_ok ⟨#[88]⟩) (allC (v_ok ⟨#[90]⟩) (allC (v_ok ⟨#[88]⟩) (fun _ h => absurd h (by simp))))))))))))))))))))))))))))))))))))))))))))))))))))))))
def V203 : AV := .fx 8 [modC (modR ⟨#[114]⟩ [exV ⟨#[88]⟩, exV ⟨#[90]⟩] [litA ⟨#[112]⟩ [exV ⟨#[88]⟩]]) ++ [.val (.int .i64 3), .val (.int .i64 71)], modC (modR ⟨#[112, 97, 116, 104]⟩ [exV ⟨#[88]⟩, exPlus (exV ⟨#[90]⟩)] [litA ⟨#[112, 97, 116, 104]⟩ [exV ⟨#[88]⟩, exV ⟨#[90]⟩]]) ++ [.val (.int .i64 9), .val (.int .i64 72)], modC (modR ⟨#[112, 97, 116, 104]⟩ [exV ⟨#[88]⟩, exPlus (exV ⟨#[90]⟩)] [litA ⟨#[101, 100, 103, 101]⟩ [exV ⟨#[88]⟩, exV ⟨#[90]⟩]]) ++ [.val (.int .i64 0), .val (.int .i64 0)], modC (modR ⟨#[112, 97, 116, 104]⟩ [exV ⟨#[89]⟩] [litA ⟨#[112, 97, 116, 104]⟩ [exV ⟨#[88]⟩], (⟨4, 0, 0, ⟨#[89]⟩, [exV ⟨#[88]⟩]⟩ : LitD)]) ++ [.val (.int .i64 7), .val (.int .i64 72)], modC (modR ⟨#[112, 97, 116, 104]⟩ [exV ⟨#[88]⟩, exOne] [litA ⟨#[112, 97, 116, 104]⟩ [exPlus (exV ⟨#[88]⟩), exOne]]) ++ [.val (.int .i64 0), .val (.int .i64 0)], [sval ByteArray.empty, .val (.slice none 0 0), .val (.slice none 0 0), .val (.slice none 0 0), .fx 6 [[.val (.int .i64 0), .val (.int .i64 0), sval ⟨#[97]⟩, .fx 9 [encE (exPlus (exV ⟨#[88]⟩))], .val (.slice none 0 0), .fx 5 [encL (litA ⟨#[98]⟩ [exV ⟨#[88]⟩])]], [.val (.int .i64 0), .val (.int .i64 0), sval ⟨#[98]⟩, .fx 9 [encE (exV ⟨#[88]⟩)], .val (.slice none 0 0), .fx 5 [encL (litA ⟨#[99]⟩ [exV ⟨#[88]⟩]), [.val (.int .u8 2), .val (.int .i64 0), .val (.int .i64 0), sval ⟨#[97]⟩, .fx 9 [encE (exV ⟨#[88]⟩)]]]]], .val (.slice none 0 0), .val (.int .i64 9), .val (.int .i64 72)], [sval ByteArray.empty, .val (.slice none 0 0), .val (.slice none 0 0), .val (.slice none 0 0), .fx 6 [[.val (.int .i64 0), .val (.int .i64 0), sval ⟨#[97]⟩, .fx 9 [encE (exPlus (exV ⟨#[88]⟩))], .val (.slice none 0 0), .fx 5 [encL (litA ⟨#[98]⟩ [exV ⟨#[88]⟩])]], [.val (.int .i64 0), .val (.int .i64 0), sval ⟨#[98]⟩, .fx 9 [encE (exV ⟨#[88]⟩)], .val (.slice none 0 0), .fx 5 [encL (litA ⟨#[99]⟩ [exV ⟨#[88]⟩])]], [.val (.int .i64 0), .val (.int .i64 0), sval ⟨#[99]⟩, .fx 9 [encE (exV ⟨#[88]⟩)], .val (.slice none 0 0), .fx 5 [encL (litA ⟨#[100]⟩ [exV ⟨#[88]⟩])]], [.val (.int .i64 0), .val (.int .i64 0), sval ⟨#[100]⟩, .fx 9 [encE (exV ⟨#[88]⟩)], .val (.slice none 0 0), .fx 5 [encL (litA ⟨#[97]⟩ [exV ⟨#[88]⟩])]]], .val (.slice none 0 0), .val (.int .i64 9), .val (.int .i64 72)], [sval ByteArray.empty, .val (.slice none 0 0), .val (.slice none 0 0), .val (.slice none 0 0), .fx 6 [[.val (.int .i64 0), .val (.int .i64 0), sval ⟨#[97]⟩, .fx 9 [encE (exPlus (exV ⟨#[88]⟩))], .fx 1 [[sval ⟨#[115, 117, 109]⟩]], .fx 5 [encL (litA ⟨#[97]⟩ [exV ⟨#[88]⟩])]]], .val (.slice none 0 0), .val (.int .i64 0), .val (.int .i64 0)], [sval ByteArray.empty, .val (.slice none 0 0), .val (.slice none 0 0), .val (.slice none 0 0), .val (.slice none 0 0), .fx 4 [[.val (.int .i64 0), .val (.int .i64 0), sval ByteArray.empty, .fx 5 [[.val (.int .u8 2), .val (.int .i64 5), .val (.int .i64 0), sval ⟨#[113]⟩, .fx 9 [encE (exV ⟨#[88]⟩)]]]]], .val (.int .i64 5), .val (.int .i64 71)]]
def stN (k : Nat) : AS := { tm := [(1, fnV 12), (203, .rd 8 (tab.map rowT)), (204, ival 9), (205, ival k)], hp := [] }
set_option maxRecDepth 100000 in
theorem names_ok : Con Try.prog 4 [] (bval true) := by
  refine Con.of_code Try.func4 (by kernel_rfl) rfl (by simp [Try.ntmps4]) fun C hC hM => ?_
  refine AWp.seq ?_
  refine AWp.reg [true] F4r0 [] (by kernel_rfl) (by rw [hC]; rfl) fun K hK => ?_
  simp [F4r0]
  first | refine hK _ ?_ | refine ⟨by omega, hK _ ?_⟩ | refine ⟨by omega, by omega, hK _ ?_⟩ | refine ⟨by omega, by omega, by omega, hK _ ?_⟩ | refine ⟨by omega, by omega, by omega, by omega, hK _ ?_⟩
  refine AWp.seq ?_
  refine AWp.reg [true] F4r1 [] (by kernel_rfl) (by rw [hC]; rfl) fun K hK => ?_
  simp [F4r1]
  first | refine hK _ ?_ | refine ⟨by omega, hK _ ?_⟩ | refine ⟨by omega, by omega, hK _ ?_⟩ | refine ⟨by omega, by omega, by omega, hK _ ?_⟩ | refine ⟨by omega, by omega, by omega, by omega, hK _ ?_⟩
  refine AWp.seq ?_
  refine AWp.reg [false, false, false, true] F4r2 [] (by kernel_rfl) (by rw [hC]; rfl) fun K hK => ?_
  simp [F4r2]
  first | refine hK _ ?_ | refine ⟨by omega, hK _ ?_⟩ | refine ⟨by omega, by omega, hK _ ?_⟩ | refine ⟨by omega, by omega, by omega, hK _ ?_⟩ | refine ⟨by omega, by omega, by omega, by omega, hK _ ?_⟩
  refine AWp.seq ?_
  refine AWp.reg [false, true] F4r3 [] (by kernel_rfl) (by rw [hC]; rfl) fun K hK => ?_
  simp [F4r3]
  first | refine hK _ ?_ | refine ⟨by omega, hK _ ?_⟩ | refine ⟨by omega, by omega, hK _ ?_⟩ | refine ⟨by omega, by omega, by omega, hK _ ?_⟩ | refine ⟨by omega, by omega, by omega, by omega, hK _ ?_⟩
  refine AWp.seq ?_
  refine AWp.reg [true] F4r4 [] (by kernel_rfl) (by rw [hC]; rfl) fun K hK => ?_
  simp [F4r4]
  first | refine hK _ ?_ | refine ⟨by omega, hK _ ?_⟩ | refine ⟨by omega, by omega, hK _ ?_⟩ | refine ⟨by omega, by omega, by omega, hK _ ?_⟩ | refine ⟨by omega, by omega, by omega, by omega, hK _ ?_⟩
  refine AWp.seq ?_
  refine AWp.reg [true] F4r5 [] (by kernel_rfl) (by rw [hC]; rfl) fun K hK => ?_
  simp [F4r5]
  first | refine hK _ ?_ | refine ⟨by omega, hK _ ?_⟩ | refine ⟨by omega, by omega, hK _ ?_⟩ | refine ⟨by omega, by omega, by omega, hK _ ?_⟩ | refine ⟨by omega, by omega, by omega, by omega, hK _ ?_⟩
  refine AWp.forget (s' := { tm := [(1, fnV 12), (2, .ptr 2 0), (3, .clo (.func 13) [.ptr 2 0]), (4, fnV 14), (5, fnV 15)], hp := [(2, .cells 42 (encE exOne))] }) (by simp [encE_eq, exOne, ExprD.kind, ExprD.line, ExprD.col, ExprD.name, ExprD.vk, ExprD.vn, ExprD.vs, ExprD.vl, ExprD.args, fnV, noV]) ?_
  have hone : Rsv (frzG [2] { tm := [(1, fnV 12), (2, .ptr 2 0), (3, .clo (.func 13) [.ptr 2 0]), (4, fnV 14), (5, fnV 15)], hp := [(2, .cells 42 (encE exOne))] }) (.ptr 2 0) (.elt (encE exOne).length [encE exOne] 0 0) := .ptr rfl (RsvL.closed (encE_noref exOne))
  refine AWp.freezeM [2] s6 ⟨rfl, ⟨?_, trivial⟩, ⟨.inl ⟨rfl, rfl⟩, ⟨.inr ⟨rfl, .inr ⟨rfl, _, hone, .refl _⟩⟩, ⟨.inr ⟨rfl, .inr ⟨rfl, _, .clo (.cons hone .nil), .refl _⟩⟩, ⟨.inl ⟨rfl, rfl⟩, ⟨.inl ⟨rfl, rfl⟩, trivial⟩⟩⟩⟩⟩, trivial⟩ ?_
  · exact encE_within _ _
  refine AWp.seq ?_
  refine AWp.seq ?_
  refine AWp.regC ops_mixed [] F4r6 R6 [1, 203, 204, 205] { tm := [(1, fnV 12), (203, V203), (204, ival 9), (205, ival 0)], hp := [] } CS6 _ _ (by kernel_rfl) (by rw [hC]; rfl) (by kernel_rfl) rfl rfl (by kernel_rfl) (by kernel_rfl) CS6_ok (fun s1 hle => AWp.forget hle ?_)
  refine AWp.freezeM [] { tm := [(1, fnV 12), (203, .rd 8 (tab.map rowT)), (204, ival 9), (205, ival 0)], hp := [] } ⟨rfl, trivial, ⟨.inl ⟨rfl, rfl⟩, ⟨.inr ⟨rfl, .inl ⟨rfl, ?_⟩⟩, ⟨.inl ⟨rfl, rfl⟩, ⟨.inl ⟨rfl, rfl⟩, trivial⟩⟩⟩⟩, trivial⟩ ?_
  · refine .fx ?_
    repeat' first | exact Wk.refl _ | exact WkL.nil | exact WkR.nil | exact Wk.nil _ | refine WkR.cons ?_ ?_ | refine WkL.cons ?_ ?_ | refine Wk.fx ?_
  refine AWp.block ?_
  have htl : tab.length = 9 := rfl
  refine AWp.loopG stN (fun k => k ≤ tab.length) (fun k => tab.length - k) 0 (by simp) (by simp [stN, fnV]) (fun k hk => ?_)
  refine AWp.seq ?_
  refine AWp.reg [] F4r7 [] (by kernel_rfl) (by rw [hC]; rfl) fun K hK => ?_
  simp [F4r7, stN]
  first | refine hK _ ?_ | refine ⟨by omega, hK _ ?_⟩ | refine ⟨by omega, by omega, hK _ ?_⟩ | refine ⟨by omega, by omega, by omega, hK _ ?_⟩ | refine ⟨by omega, by omega, by omega, by omega, hK _ ?_⟩
  refine AWp.seq ?_
  refine AWp.cond (decide ((k : Int) < 9)) (by simp) (fun hlt => ?_) (fun hge => ?_)
  · skip
    have hlt : k < tab.length := by simp at hlt; omega
    have hmem := List.getElem_mem hlt
    obtain ⟨⟨m, a, e⟩, hx⟩ : ∃ x, tab[k] = x := ⟨_, rfl⟩
    rw [hx] at hmem
    obtain ⟨hok, c, hce⟩ := tab_ok _ hmem
    simp only at hok hce
    have hch := Check_ok m hok
    rw [hce] at hch
    refine AWp.skip ?_
    refine AWp.seq ?_
    refine AWp.block ?_
    refine AWp.seq ?_
    refine AWp.reg [false, false, false, true] F4r8 [] (by kernel_rfl) (by rw [hC]; rfl) fun K hK => ?_
    simp [F4r8, hlt, hx, rowT, modC]
    first | refine hK _ ?_ | refine ⟨by omega, hK _ ?_⟩ | refine ⟨by omega, by omega, hK _ ?_⟩ | refine ⟨by omega, by omega, by omega, hK _ ?_⟩ | refine ⟨by omega, by omega, by omega, by omega, hK _ ?_⟩
    refine AWp.seq ?_
    refine AWp.reg [false, false, false, false, false, false, false, true, true] F4r9 [{ r := encC (a, c, e) }] (by kernel_rfl) (by rw [hC]; rfl) fun K hK => ?_
    simp [F4r9, encC, rowT, modC]
    refine ⟨callOK rfl hch, hK _ ?_⟩
    refine AWp.seq ?_
    refine AWp.reg [] F4r10 [] (by kernel_rfl) (by rw [hC]; rfl) fun K hK => ?_
    simp [F4r10]
    first | refine hK _ ?_ | refine ⟨by omega, hK _ ?_⟩ | refine ⟨by omega, by omega, hK _ ?_⟩ | refine ⟨by omega, by omega, by omega, hK _ ?_⟩ | refine ⟨by omega, by omega, by omega, by omega, hK _ ?_⟩
    refine AWp.cond false (by simp) (fun he => by cases he) (fun _ => ?_)
    refine AWp.skip ?_
    refine AWp.reg [] F4r12 [] (by kernel_rfl) (by rw [hC]; rfl) fun K hK => ?_
    simp [F4r12]
    first | refine hK _ ?_ | refine ⟨by omega, hK _ ?_⟩ | refine ⟨by omega, by omega, hK _ ?_⟩ | refine ⟨by omega, by omega, by omega, hK _ ?_⟩ | refine ⟨by omega, by omega, by omega, by omega, hK _ ?_⟩
    refine ⟨k + 1, by omega, by omega, ?_⟩
    simp [stN, fnV, wrap_nat k (by omega)]
  have hge : ¬ (k : Int) < 9 := by simpa using hge
  refine AWp.exit ?_
  refine AWp.forget (s' := { tm := [(1, fnV 12)], hp := [] }) (by simp [fnV]) ?_
  have ho1 := Order_ok [⟨4, 2, 0, tX, [eY]⟩, ⟨4, 0, 0, tY, [eX]⟩] (by decide)
  rw [order_circle] at ho1
  have ho2 := Order_ok [] (by decide)
  rw [order_nil] at ho2
  refine AWp.seq ?_
  refine AWp.reg [false, false, false, false, false, false, false, false, false, false, false, false, false, false, false, false, false, true, true, true, true] F4r13 [{ r := .agg (encE eY) }, { r := .agg (encE eX) }, { r := encO ([], [], 2, 0, 71) }] (by kernel_rfl) (by rw [hC]; rfl) fun K hK => ?_
  simp [F4r13, fnV, encO, encE_eq]
  refine ⟨callOK rfl (v_ok tY), callOK rfl (v_ok tX), callWk rfl ?_ ho1, hK _ ?_⟩
  · refine .cons ?_ .nil
    refine .fx ?_
    repeat' first | exact Wk.refl _ | exact WkL.nil | exact WkR.nil | exact Wk.nil _ | refine WkR.cons ?_ ?_ | refine WkL.cons ?_ ?_ | refine Wk.fx ?_
  refine AWp.seq ?_
  refine AWp.reg [false, false, false, false, false, false, false, true, true, true, true] F4r14 [{ r := encO ([], [], 0, 0, 0) }] (by kernel_rfl) (by rw [hC]; rfl) fun K hK => ?_
  simp [F4r14, encO]
  refine ⟨callWk rfl (.cons (.nil 5) .nil) ho2, hK _ ?_⟩
  refine AWp.forget (s' := { tm := [(12, .ptr 12 0), (13, ival 71), (14, .rd 1 []), (15, .rd 1 []), (17, ival 0)], hp := [(12, .cells 28 [ival 2, ival 0])] }) (by simp) ?_
  refine AWp.seq ?_
  refine AWp.reg [false, false, false, false, false, false, false, false, false, false, false, false, false, false, false, false, false, false, false, false, false, false, false, false, true] F4r15 [{ r := bval true }] (by kernel_rfl) (by rw [hC]; rfl) fun K hK => ?_
  simp [F4r15]
  refine ⟨callOK rfl awake_ok, hK _ ?_⟩
  repeat refine AWp.seq ?_
  refine AWp.ret ⟨.inr rfl, _, by simp [Try.results4] <;> rfl, ?_⟩
  exact .closed rfl
end Go.Sl
