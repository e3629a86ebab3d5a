/- The law SessionWrites. -/
import Derived.Test.YtmikljncdgfjpaaGreatDoorSeNb
import Derived.Test.YtmikljncdgfjpaaGreatDoorSeNc
import Derived.Test.YtmikljncdgfjpaaGreatDoorSeNd
set_option linter.unusedSimpArgs false
set_option linter.unusedVariables false
open Go Go.Aw Go.Proofs
namespace Go.Se
set_option maxRecDepth 20000
set_option maxHeartbeats 2000000
-- function 14: corollary/corollarylaw31.to
def F14r0 : List ROp := [⟨some 1, .box 29 (.tmp 0), [], none⟩,
  ⟨some 2, .alloc 25 [Value.int .u8 0, Value.int .i64 0, Value.slice none 0 0, Value.slice none 0 0, Value.string ByteArray.empty, Value.bool false, Value.string ByteArray.empty], [], none⟩]
def F14r1 : List ROp := [⟨some 3, .fad 0 (.tmp 1), [], none⟩,
  ⟨some 4, .load 1 false false (.tmp 3), [0], none⟩,
  ⟨some 5, .fad 1 (.tmp 1), [], none⟩,
  ⟨some 6, .load 1 false false (.tmp 5), [2], none⟩,
  ⟨some 7, .bslice 9 1 [Value.string ByteArray.empty] 0 [], [], none⟩,
  ⟨some 8, .fad 2 (.tmp 1), [], none⟩,
  ⟨some 9, .load 1 false false (.tmp 8), [5], none⟩,
  ⟨some 10, .app 9 1 16 (.tmp 7) (.tmp 9), [4, 6], none⟩,
  ⟨some 11, .fad 3 (.tmp 1), [], none⟩,
  ⟨some 12, .load 1 false false (.tmp 11), [8], none⟩,
  ⟨some 13, .call (.func 45) [.tmp 12], [9, 7], none⟩,
  ⟨some 14, .fad 4 (.tmp 1), [], none⟩,
  ⟨some 15, .load 1 false false (.tmp 14), [11], none⟩,
  ⟨some 16, .fad 5 (.tmp 1), [], none⟩,
  ⟨some 17, .load 1 false false (.tmp 16), [13], none⟩,
  ⟨some 18, .fad 6 (.tmp 1), [], none⟩,
  ⟨some 19, .load 1 false false (.tmp 18), [15], none⟩,
  ⟨some 20, .build [Value.int .u8 0, Value.int .i64 0, Value.slice none 0 0, Value.slice none 0 0, Value.string ByteArray.empty, Value.bool false, Value.string ByteArray.empty] [(0, 1, .tmp 4), (1, 1, .tmp 6), (2, 1, .tmp 10), (3, 1, .tmp 13), (4, 1, .tmp 15), (5, 1, .tmp 17), (6, 1, .tmp 19)], [1, 3, 7, 10, 12, 14, 16], none⟩,
  ⟨none, .store 7 true (.tmp 2) (.tmp 20), [17, 10, 0, 1, 2, 3, 4, 5, 6, 7, 8, 9, 10, 11, 12, 13, 14, 15, 16, 17], none⟩]
-- function 10: corollary/corollarylaw31.of
def F10r0 : List ROp := [⟨some 1, .box 25 (.tmp 0), [], none⟩,
  ⟨some 2, .alloc 29 [Value.int .u8 0, Value.int .i64 0, Value.slice none 0 0, Value.slice none 0 0, Value.string ByteArray.empty, Value.bool false, Value.string ByteArray.empty], [], none⟩]
def F10r1 : List ROp := [⟨some 3, .fad 0 (.tmp 1), [], none⟩,
  ⟨some 4, .load 1 false false (.tmp 3), [0], none⟩,
  ⟨some 5, .fad 1 (.tmp 1), [], none⟩,
  ⟨some 6, .load 1 false false (.tmp 5), [2], none⟩,
  ⟨some 7, .bslice 9 1 [Value.string ByteArray.empty] 0 [], [], none⟩,
  ⟨some 8, .fad 2 (.tmp 1), [], none⟩,
  ⟨some 9, .load 1 false false (.tmp 8), [5], none⟩,
  ⟨some 10, .app 9 1 16 (.tmp 7) (.tmp 9), [4, 6], none⟩,
  ⟨some 11, .fad 3 (.tmp 1), [], none⟩,
  ⟨some 12, .load 1 false false (.tmp 11), [8], none⟩,
  ⟨some 13, .call (.func 45) [.tmp 12], [9, 7], none⟩,
  ⟨some 14, .fad 4 (.tmp 1), [], none⟩,
  ⟨some 15, .load 1 false false (.tmp 14), [11], none⟩,
  ⟨some 16, .fad 5 (.tmp 1), [], none⟩,
  ⟨some 17, .load 1 false false (.tmp 16), [13], none⟩,
  ⟨some 18, .fad 6 (.tmp 1), [], none⟩,
  ⟨some 19, .load 1 false false (.tmp 18), [15], none⟩,
  ⟨some 20, .build [Value.int .u8 0, Value.int .i64 0, Value.slice none 0 0, Value.slice none 0 0, Value.string ByteArray.empty, Value.bool false, Value.string ByteArray.empty] [(0, 1, .tmp 4), (1, 1, .tmp 6), (2, 1, .tmp 10), (3, 1, .tmp 13), (4, 1, .tmp 15), (5, 1, .tmp 17), (6, 1, .tmp 19)], [1, 3, 7, 10, 12, 14, 16], none⟩,
  ⟨none, .store 7 true (.tmp 2) (.tmp 20), [17, 10, 0, 1, 2, 3, 4, 5, 6, 7, 8, 9, 10, 11, 12, 13, 14, 15, 16, 17], none⟩]
-- function 15: corollary/corollarylaw31.tell
def F15r0 : List ROp := [⟨some 1, .box 39 (.tmp 0), [], none⟩,
  ⟨some 2, .alloc 36 [Value.int .u8 0, Value.int .i64 0, Value.string ByteArray.empty, Value.int .i64 0, Value.int .i64 0, Value.int .i64 0, Value.int .i64 0, Value.int .i64 0, Value.slice none 0 0, Value.slice none 0 0, Value.string ByteArray.empty], [], none⟩]
def F15r1 : List ROp := [⟨some 3, .fad 0 (.tmp 1), [], none⟩,
  ⟨some 4, .load 1 false false (.tmp 3), [0], none⟩,
  ⟨some 5, .fad 1 (.tmp 1), [], none⟩,
  ⟨some 6, .load 1 false false (.tmp 5), [2], none⟩,
  ⟨some 7, .fad 2 (.tmp 1), [], none⟩,
  ⟨some 8, .load 1 false false (.tmp 7), [4], none⟩,
  ⟨some 9, .fad 3 (.tmp 1), [], none⟩,
  ⟨some 10, .load 2 true false (.tmp 9), [6], none⟩,
  ⟨some 11, .fad 5 (.tmp 1), [], none⟩,
  ⟨some 12, .load 1 false false (.tmp 11), [8], none⟩,
  ⟨some 13, .fad 6 (.tmp 1), [], none⟩,
  ⟨some 14, .load 1 false false (.tmp 13), [10], none⟩,
  ⟨some 15, .fad 7 (.tmp 1), [], none⟩,
  ⟨some 16, .load 1 false false (.tmp 15), [12], none⟩,
  ⟨some 17, .fad 8 (.tmp 1), [], none⟩,
  ⟨some 18, .load 1 false false (.tmp 17), [14], none⟩,
  ⟨some 19, .call (.func 45) [.tmp 18], [15], none⟩,
  ⟨some 20, .fad 9 (.tmp 1), [], none⟩,
  ⟨some 21, .load 1 false false (.tmp 20), [17], none⟩,
  ⟨some 22, .call (.func 47) [.tmp 21], [18, 16], none⟩,
  ⟨some 23, .fad 10 (.tmp 1), [], none⟩,
  ⟨some 24, .load 1 false false (.tmp 23), [20], none⟩,
  ⟨some 25, .build [Value.int .u8 0, Value.int .i64 0, Value.string ByteArray.empty, Value.int .i64 0, Value.int .i64 0, Value.int .i64 0, Value.int .i64 0, Value.int .i64 0, Value.slice none 0 0, Value.slice none 0 0, Value.string ByteArray.empty] [(0, 1, .tmp 4), (1, 1, .tmp 6), (2, 1, .tmp 8), (3, 2, .tmp 10), (5, 1, .tmp 12), (6, 1, .tmp 14), (7, 1, .tmp 16), (8, 1, .tmp 19), (9, 1, .tmp 22), (10, 1, .tmp 24)], [1, 3, 5, 7, 9, 11, 13, 16, 19, 21], none⟩,
  ⟨none, .store 11 true (.tmp 2) (.tmp 25), [22, 19, 0, 1, 2, 3, 4, 5, 6, 7, 8, 9, 10, 11, 12, 13, 14, 15, 16, 17, 18, 19, 20, 21, 22], none⟩]
-- function 12: corollary/corollarylaw31.told
def F12r0 : List ROp := [⟨some 1, .box 36 (.tmp 0), [], none⟩,
  ⟨some 2, .alloc 39 [Value.int .u8 0, Value.int .i64 0, Value.string ByteArray.empty, Value.int .i64 0, Value.int .i64 0, Value.int .i64 0, Value.int .i64 0, Value.int .i64 0, Value.slice none 0 0, Value.slice none 0 0, Value.string ByteArray.empty], [], none⟩]
def F12r1 : List ROp := [⟨some 3, .fad 0 (.tmp 1), [], none⟩,
  ⟨some 4, .load 1 false false (.tmp 3), [0], none⟩,
  ⟨some 5, .fad 1 (.tmp 1), [], none⟩,
  ⟨some 6, .load 1 false false (.tmp 5), [2], none⟩,
  ⟨some 7, .fad 2 (.tmp 1), [], none⟩,
  ⟨some 8, .load 1 false false (.tmp 7), [4], none⟩,
  ⟨some 9, .fad 3 (.tmp 1), [], none⟩,
  ⟨some 10, .load 2 true false (.tmp 9), [6], none⟩,
  ⟨some 11, .fad 5 (.tmp 1), [], none⟩,
  ⟨some 12, .load 1 false false (.tmp 11), [8], none⟩,
  ⟨some 13, .fad 6 (.tmp 1), [], none⟩,
  ⟨some 14, .load 1 false false (.tmp 13), [10], none⟩,
  ⟨some 15, .fad 7 (.tmp 1), [], none⟩,
  ⟨some 16, .load 1 false false (.tmp 15), [12], none⟩,
  ⟨some 17, .fad 8 (.tmp 1), [], none⟩,
  ⟨some 18, .load 1 false false (.tmp 17), [14], none⟩,
  ⟨some 19, .call (.func 45) [.tmp 18], [15], none⟩,
  ⟨some 20, .fad 9 (.tmp 1), [], none⟩,
  ⟨some 21, .load 1 false false (.tmp 20), [17], none⟩,
  ⟨some 22, .call (.func 47) [.tmp 21], [18, 16], none⟩,
  ⟨some 23, .fad 10 (.tmp 1), [], none⟩,
  ⟨some 24, .load 1 false false (.tmp 23), [20], none⟩,
  ⟨some 25, .build [Value.int .u8 0, Value.int .i64 0, Value.string ByteArray.empty, Value.int .i64 0, Value.int .i64 0, Value.int .i64 0, Value.int .i64 0, Value.int .i64 0, Value.slice none 0 0, Value.slice none 0 0, Value.string ByteArray.empty] [(0, 1, .tmp 4), (1, 1, .tmp 6), (2, 1, .tmp 8), (3, 2, .tmp 10), (5, 1, .tmp 12), (6, 1, .tmp 14), (7, 1, .tmp 16), (8, 1, .tmp 19), (9, 1, .tmp 22), (10, 1, .tmp 24)], [1, 3, 5, 7, 9, 11, 13, 16, 19, 21], none⟩,
  ⟨none, .store 11 true (.tmp 2) (.tmp 25), [22, 19, 0, 1, 2, 3, 4, 5, 6, 7, 8, 9, 10, 11, 12, 13, 14, 15, 16, 17, 18, 19, 20, 21, 22], none⟩]
-- function 13: corollary/corollarylaw31.huge
def F13r0 : List ROp := [⟨some 2, .box 29 (.tmp 0), [], none⟩,
  ⟨some 3, .box 39 (.tmp 1), [], none⟩,
  ⟨some 4, .copy true (.const (.bool false)), [], none⟩]
def F13r1 : List ROp := [⟨some 7, .fad 3 (.tmp 2), [], none⟩,
  ⟨some 8, .load 1 false false (.tmp 7), [0], none⟩,
  ⟨some 9, .call (.func 48) [.tmp 8], [1], none⟩,
  ⟨some 10, .fad 8 (.tmp 3), [], none⟩,
  ⟨some 11, .load 1 false false (.tmp 10), [3], none⟩,
  ⟨some 12, .call (.func 48) [.tmp 11], [4, 2], none⟩,
  ⟨some 13, .bin .add (.tmp 9) (.tmp 12), [2, 5], none⟩,
  ⟨some 14, .fad 9 (.tmp 3), [], none⟩,
  ⟨some 15, .load 1 false false (.tmp 14), [7], none⟩,
  ⟨some 16, .len 0 (.tmp 15), [8], none⟩,
  ⟨some 17, .bin .add (.tmp 13) (.tmp 16), [6, 9], none⟩,
  ⟨some 5, .copy true (.tmp 17), [10, 5, 0, 1, 2, 3, 4, 5, 6, 7, 8, 9, 10], none⟩]
def F13r2 : List ROp := [⟨some 6, .copy true (.const (.int .i64 0)), [], none⟩]
def F13r3 : List ROp := [⟨some 18, .copy false (.tmp 6), [], none⟩,
  ⟨some 19, .fad 9 (.tmp 3), [], none⟩,
  ⟨some 20, .load 1 false false (.tmp 19), [], none⟩,
  ⟨some 21, .len 0 (.tmp 20), [], none⟩,
  ⟨some 22, .bin .lss (.tmp 18) (.tmp 21), [], none⟩,
  ⟨some 23, .copy false (.tmp 22), [], none⟩,
  ⟨some 24, .copy false (.tmp 5), [], some (23, true)⟩,
  ⟨some 25, .bin .lss (.tmp 24) (.const (.int .i64 3000)), [], some (23, true)⟩,
  ⟨some 26, .pick (.tmp 23) (.tmp 25) (.const (.bool false)), [], none⟩]
def F13r4 : List ROp := [⟨some 27, .copy false (.tmp 6), [], none⟩,
  ⟨some 28, .bin .add (.tmp 27) (.const (.int .i64 1)), [], none⟩,
  ⟨some 6, .copy true (.tmp 28), [], none⟩]
def F13r5 : List ROp := [⟨some 29, .copy false (.tmp 5), [], none⟩,
  ⟨some 30, .fad 9 (.tmp 3), [], none⟩,
  ⟨some 31, .load 1 false false (.tmp 30), [], none⟩,
  ⟨some 32, .copy false (.tmp 6), [], none⟩,
  ⟨some 33, .iad 1 (.tmp 31) (.tmp 32), [], none⟩,
  ⟨some 34, .load 1 false false (.tmp 33), [], none⟩,
  ⟨some 35, .call (.func 49) [.tmp 34], [], none⟩,
  ⟨some 36, .bin .add (.tmp 29) (.tmp 35), [], none⟩,
  ⟨some 5, .copy true (.tmp 36), [], none⟩]
def F13r6 : List ROp := [⟨some 37, .copy false (.tmp 5), [], none⟩,
  ⟨some 38, .bin .geq (.tmp 37) (.const (.int .i64 3000)), [], none⟩,
  ⟨some 39, .copy false (.tmp 38), [], none⟩,
  ⟨some 40, .fad 2 (.tmp 2), [], some (39, false)⟩,
  ⟨some 41, .load 1 false false (.tmp 40), [], some (39, false)⟩,
  ⟨some 42, .call (.func 50) [.tmp 41], [], some (39, false)⟩,
  ⟨some 43, .bin .geq (.tmp 42) (.const (.int .i64 200000)), [], some (39, false)⟩,
  ⟨some 44, .pick (.tmp 39) (.const (.bool true)) (.tmp 43), [], none⟩,
  ⟨some 45, .copy false (.tmp 44), [], none⟩,
  ⟨some 46, .fad 4 (.tmp 2), [], some (45, false)⟩,
  ⟨some 47, .load 1 false false (.tmp 46), [], some (45, false)⟩,
  ⟨some 48, .fad 6 (.tmp 2), [], some (45, false)⟩,
  ⟨some 49, .load 1 false false (.tmp 48), [], some (45, false)⟩,
  ⟨some 50, .fad 2 (.tmp 3), [], some (45, false)⟩,
  ⟨some 51, .load 1 false false (.tmp 50), [], some (45, false)⟩,
  ⟨some 52, .fad 10 (.tmp 3), [], some (45, false)⟩,
  ⟨some 53, .load 1 false false (.tmp 52), [], some (45, false)⟩,
  ⟨some 54, .bslice 9 1 [Value.string ByteArray.empty] 4 [(0, .tmp 47), (1, .tmp 49), (2, .tmp 51), (3, .tmp 53)], [], some (45, false)⟩,
  ⟨some 55, .call (.func 50) [.tmp 54], [], some (45, false)⟩,
  ⟨some 56, .bin .geq (.tmp 55) (.const (.int .i64 200000)), [], some (45, false)⟩,
  ⟨some 57, .pick (.tmp 45) (.const (.bool true)) (.tmp 56), [], none⟩,
  ⟨some 4, .copy true (.tmp 57), [], none⟩]
-- function 9: corollary/corollaryref31.SameCommand
def F9r0 : List ROp := [⟨some 2, .box 29 (.tmp 0), [], none⟩,
  ⟨some 3, .box 29 (.tmp 1), [], none⟩,
  ⟨some 4, .copy true (.const (.bool false)), [], none⟩]
def F9r1 : List ROp := [⟨some 6, .fad 0 (.tmp 2), [], none⟩,
  ⟨some 7, .load 1 false false (.tmp 6), [], none⟩,
  ⟨some 8, .fad 0 (.tmp 3), [], none⟩,
  ⟨some 9, .load 1 false false (.tmp 8), [], none⟩,
  ⟨some 10, .bin .neq (.tmp 7) (.tmp 9), [], none⟩,
  ⟨some 11, .copy false (.tmp 10), [], none⟩,
  ⟨some 12, .fad 1 (.tmp 2), [], some (11, false)⟩,
  ⟨some 13, .load 1 false false (.tmp 12), [], some (11, false)⟩,
  ⟨some 14, .fad 1 (.tmp 3), [], some (11, false)⟩,
  ⟨some 15, .load 1 false false (.tmp 14), [], some (11, false)⟩,
  ⟨some 16, .bin .neq (.tmp 13) (.tmp 15), [], some (11, false)⟩,
  ⟨some 17, .pick (.tmp 11) (.const (.bool true)) (.tmp 16), [], none⟩,
  ⟨some 18, .copy false (.tmp 17), [], none⟩,
  ⟨some 19, .fad 2 (.tmp 2), [], some (18, false)⟩,
  ⟨some 20, .load 1 false false (.tmp 19), [], some (18, false)⟩,
  ⟨some 21, .len 0 (.tmp 20), [], some (18, false)⟩,
  ⟨some 22, .fad 2 (.tmp 3), [], some (18, false)⟩,
  ⟨some 23, .load 1 false false (.tmp 22), [], some (18, false)⟩,
  ⟨some 24, .len 0 (.tmp 23), [], some (18, false)⟩,
  ⟨some 25, .bin .neq (.tmp 21) (.tmp 24), [], some (18, false)⟩,
  ⟨some 26, .pick (.tmp 18) (.const (.bool true)) (.tmp 25), [], none⟩,
  ⟨some 27, .copy false (.tmp 26), [], none⟩,
  ⟨some 28, .fad 4 (.tmp 2), [], some (27, false)⟩,
  ⟨some 29, .load 1 false false (.tmp 28), [], some (27, false)⟩,
  ⟨some 30, .fad 4 (.tmp 3), [], some (27, false)⟩,
  ⟨some 31, .load 1 false false (.tmp 30), [], some (27, false)⟩,
  ⟨some 32, .bin .neq (.tmp 29) (.tmp 31), [], some (27, false)⟩,
  ⟨some 33, .pick (.tmp 27) (.const (.bool true)) (.tmp 32), [], none⟩,
  ⟨some 34, .copy false (.tmp 33), [], none⟩,
  ⟨some 35, .fad 5 (.tmp 2), [], some (34, false)⟩,
  ⟨some 36, .load 1 false false (.tmp 35), [], some (34, false)⟩,
  ⟨some 37, .fad 5 (.tmp 3), [], some (34, false)⟩,
  ⟨some 38, .load 1 false false (.tmp 37), [], some (34, false)⟩,
  ⟨some 39, .eqb true (.tmp 36) (.tmp 38), [], some (34, false)⟩,
  ⟨some 40, .pick (.tmp 34) (.const (.bool true)) (.tmp 39), [], none⟩,
  ⟨some 41, .copy false (.tmp 40), [], none⟩,
  ⟨some 42, .fad 6 (.tmp 2), [], some (41, false)⟩,
  ⟨some 43, .load 1 false false (.tmp 42), [], some (41, false)⟩,
  ⟨some 44, .fad 6 (.tmp 3), [], some (41, false)⟩,
  ⟨some 45, .load 1 false false (.tmp 44), [], some (41, false)⟩,
  ⟨some 46, .bin .neq (.tmp 43) (.tmp 45), [], some (41, false)⟩,
  ⟨some 47, .pick (.tmp 41) (.const (.bool true)) (.tmp 46), [], none⟩,
  ⟨some 48, .copy false (.tmp 47), [], none⟩,
  ⟨some 49, .fad 3 (.tmp 2), [], some (48, false)⟩,
  ⟨some 50, .load 1 false false (.tmp 49), [], some (48, false)⟩,
  ⟨some 51, .fad 3 (.tmp 3), [], some (48, false)⟩,
  ⟨some 52, .load 1 false false (.tmp 51), [], some (48, false)⟩,
  ⟨some 53, .call (.func 44) [.tmp 50, .tmp 52], [], some (48, false)⟩,
  ⟨some 54, .un .not (.tmp 53), [], some (48, false)⟩,
  ⟨some 55, .pick (.tmp 48) (.const (.bool true)) (.tmp 54), [], none⟩]
def F9r2 : List ROp := [⟨some 4, .copy true (.const (.bool false)), [], none⟩]
def F9r3 : List ROp := [⟨some 5, .copy true (.const (.int .i64 0)), [], none⟩]
def F9r4 : List ROp := [⟨some 56, .copy false (.tmp 5), [], none⟩,
  ⟨some 57, .fad 2 (.tmp 2), [], none⟩,
  ⟨some 58, .load 1 false false (.tmp 57), [], none⟩,
  ⟨some 59, .len 0 (.tmp 58), [], none⟩,
  ⟨some 60, .bin .lss (.tmp 56) (.tmp 59), [], none⟩]
def F9r5 : List ROp := [⟨some 61, .copy false (.tmp 5), [], none⟩,
  ⟨some 62, .bin .add (.tmp 61) (.const (.int .i64 1)), [], none⟩,
  ⟨some 5, .copy true (.tmp 62), [], none⟩]
def F9r6 : List ROp := [⟨some 63, .fad 2 (.tmp 2), [], none⟩,
  ⟨some 64, .load 1 false false (.tmp 63), [0], none⟩,
  ⟨some 65, .copy false (.tmp 5), [], none⟩,
  ⟨some 66, .iad 1 (.tmp 64) (.tmp 65), [1, 2], none⟩,
  ⟨some 67, .load 1 false false (.tmp 66), [3], none⟩,
  ⟨some 68, .fad 2 (.tmp 3), [], none⟩,
  ⟨some 69, .load 1 false false (.tmp 68), [5], none⟩,
  ⟨some 70, .copy false (.tmp 5), [], none⟩,
  ⟨some 71, .iad 1 (.tmp 69) (.tmp 70), [6, 7], none⟩,
  ⟨some 72, .load 1 false false (.tmp 71), [8], none⟩,
  ⟨some 73, .bin .neq (.tmp 67) (.tmp 72), [4, 9], none⟩]
def F9r7 : List ROp := [⟨some 4, .copy true (.const (.bool false)), [], none⟩]
def F9r8 : List ROp := [⟨some 4, .copy true (.const (.bool true)), [], none⟩]
-- function 11: corollary/corollaryref31.SameReply
def F11r0 : List ROp := [⟨some 2, .box 39 (.tmp 0), [], none⟩,
  ⟨some 3, .box 39 (.tmp 1), [], none⟩,
  ⟨some 4, .copy true (.const (.bool false)), [], none⟩]
def F11r1 : List ROp := [⟨some 5, .fad 0 (.tmp 2), [], none⟩,
  ⟨some 6, .load 1 false false (.tmp 5), [], none⟩,
  ⟨some 7, .fad 0 (.tmp 3), [], none⟩,
  ⟨some 8, .load 1 false false (.tmp 7), [], none⟩,
  ⟨some 9, .bin .eql (.tmp 6) (.tmp 8), [], none⟩,
  ⟨some 10, .copy false (.tmp 9), [], none⟩,
  ⟨some 11, .fad 1 (.tmp 2), [], some (10, true)⟩,
  ⟨some 12, .load 1 false false (.tmp 11), [], some (10, true)⟩,
  ⟨some 13, .fad 1 (.tmp 3), [], some (10, true)⟩,
  ⟨some 14, .load 1 false false (.tmp 13), [], some (10, true)⟩,
  ⟨some 15, .bin .eql (.tmp 12) (.tmp 14), [], some (10, true)⟩,
  ⟨some 16, .pick (.tmp 10) (.tmp 15) (.const (.bool false)), [], none⟩,
  ⟨some 17, .copy false (.tmp 16), [], none⟩,
  ⟨some 18, .fad 2 (.tmp 2), [], some (17, true)⟩,
  ⟨some 19, .load 1 false false (.tmp 18), [], some (17, true)⟩,
  ⟨some 20, .fad 2 (.tmp 3), [], some (17, true)⟩,
  ⟨some 21, .load 1 false false (.tmp 20), [], some (17, true)⟩,
  ⟨some 22, .bin .eql (.tmp 19) (.tmp 21), [], some (17, true)⟩,
  ⟨some 23, .pick (.tmp 17) (.tmp 22) (.const (.bool false)), [], none⟩,
  ⟨some 24, .copy false (.tmp 23), [], none⟩,
  ⟨some 25, .fad 3 (.tmp 2), [], some (24, true)⟩,
  ⟨some 26, .load 2 true false (.tmp 25), [], some (24, true)⟩,
  ⟨some 27, .fad 3 (.tmp 3), [], some (24, true)⟩,
  ⟨some 28, .load 2 true false (.tmp 27), [], some (24, true)⟩,
  ⟨some 29, .eqg false [0, 0] (.tmp 26) (.tmp 28), [], some (24, true)⟩,
  ⟨some 30, .pick (.tmp 24) (.tmp 29) (.const (.bool false)), [], none⟩,
  ⟨some 31, .copy false (.tmp 30), [], none⟩,
  ⟨some 32, .fad 5 (.tmp 2), [], some (31, true)⟩,
  ⟨some 33, .load 1 false false (.tmp 32), [], some (31, true)⟩,
  ⟨some 34, .fad 5 (.tmp 3), [], some (31, true)⟩,
  ⟨some 35, .load 1 false false (.tmp 34), [], some (31, true)⟩,
  ⟨some 36, .bin .eql (.tmp 33) (.tmp 35), [], some (31, true)⟩,
  ⟨some 37, .pick (.tmp 31) (.tmp 36) (.const (.bool false)), [], none⟩,
  ⟨some 38, .copy false (.tmp 37), [], none⟩,
  ⟨some 39, .fad 6 (.tmp 2), [], some (38, true)⟩,
  ⟨some 40, .load 1 false false (.tmp 39), [], some (38, true)⟩,
  ⟨some 41, .fad 6 (.tmp 3), [], some (38, true)⟩,
  ⟨some 42, .load 1 false false (.tmp 41), [], some (38, true)⟩,
  ⟨some 43, .bin .eql (.tmp 40) (.tmp 42), [], some (38, true)⟩,
  ⟨some 44, .pick (.tmp 38) (.tmp 43) (.const (.bool false)), [], none⟩,
  ⟨some 45, .copy false (.tmp 44), [], none⟩,
  ⟨some 46, .fad 7 (.tmp 2), [], some (45, true)⟩,
  ⟨some 47, .load 1 false false (.tmp 46), [], some (45, true)⟩,
  ⟨some 48, .fad 7 (.tmp 3), [], some (45, true)⟩,
  ⟨some 49, .load 1 false false (.tmp 48), [], some (45, true)⟩,
  ⟨some 50, .bin .eql (.tmp 47) (.tmp 49), [], some (45, true)⟩,
  ⟨some 51, .pick (.tmp 45) (.tmp 50) (.const (.bool false)), [], none⟩,
  ⟨some 52, .copy false (.tmp 51), [], none⟩,
  ⟨some 53, .fad 10 (.tmp 2), [], some (52, true)⟩,
  ⟨some 54, .load 1 false false (.tmp 53), [], some (52, true)⟩,
  ⟨some 55, .fad 10 (.tmp 3), [], some (52, true)⟩,
  ⟨some 56, .load 1 false false (.tmp 55), [], some (52, true)⟩,
  ⟨some 57, .bin .eql (.tmp 54) (.tmp 56), [], some (52, true)⟩,
  ⟨some 58, .pick (.tmp 52) (.tmp 57) (.const (.bool false)), [], none⟩,
  ⟨some 59, .copy false (.tmp 58), [], none⟩,
  ⟨some 60, .fad 8 (.tmp 2), [], some (59, true)⟩,
  ⟨some 61, .load 1 false false (.tmp 60), [], some (59, true)⟩,
  ⟨some 62, .fad 8 (.tmp 3), [], some (59, true)⟩,
  ⟨some 63, .load 1 false false (.tmp 62), [], some (59, true)⟩,
  ⟨some 64, .call (.func 44) [.tmp 61, .tmp 63], [], some (59, true)⟩,
  ⟨some 65, .pick (.tmp 59) (.tmp 64) (.const (.bool false)), [], none⟩,
  ⟨some 66, .copy false (.tmp 65), [], none⟩,
  ⟨some 67, .fad 9 (.tmp 2), [], some (66, true)⟩,
  ⟨some 68, .load 1 false false (.tmp 67), [], some (66, true)⟩,
  ⟨some 69, .fad 9 (.tmp 3), [], some (66, true)⟩,
  ⟨some 70, .load 1 false false (.tmp 69), [], some (66, true)⟩,
  ⟨some 71, .call (.func 46) [.tmp 68, .tmp 70], [], some (66, true)⟩,
  ⟨some 72, .pick (.tmp 66) (.tmp 71) (.const (.bool false)), [], none⟩,
  ⟨some 4, .copy true (.tmp 72), [], none⟩]
-- function 4: corollary/corollarylaw31.SessionWrites
def F4r0 : List ROp := [⟨some 2, .box 29 (.tmp 0), [], none⟩,
  ⟨some 3, .box 39 (.tmp 1), [], none⟩,
  ⟨some 4, .copy true (.const (.bool false)), [], none⟩]
def F4r1 : List ROp := [⟨some 15, .load 7 true false (.tmp 2), [], none⟩,
  ⟨some 16, .load 11 true false (.tmp 3), [], none⟩,
  ⟨some 17, .call (.func 13) [.tmp 15, .tmp 16], [], none⟩]
def F4r2 : List ROp := [⟨some 4, .copy true (.const (.bool true)), [], none⟩]
def F4r3 : List ROp := [⟨some 18, .load 7 true false (.tmp 2), [], none⟩,
  ⟨some 19, .call (.func 14) [.tmp 18], [], none⟩,
  ⟨some 5, .alloc 25 [Value.int .u8 0, Value.int .i64 0, Value.slice none 0 0, Value.slice none 0 0, Value.string ByteArray.empty, Value.bool false, Value.string ByteArray.empty], [], none⟩,
  ⟨none, .store 7 true (.tmp 5) (.tmp 19), [], none⟩]
def F4r4 : List ROp := [⟨some 20, .load 11 true false (.tmp 3), [], none⟩,
  ⟨some 21, .call (.func 15) [.tmp 20], [], none⟩,
  ⟨some 6, .alloc 36 [Value.int .u8 0, Value.int .i64 0, Value.string ByteArray.empty, Value.int .i64 0, Value.int .i64 0, Value.int .i64 0, Value.int .i64 0, Value.int .i64 0, Value.slice none 0 0, Value.slice none 0 0, Value.string ByteArray.empty], [], none⟩,
  ⟨none, .store 11 true (.tmp 6) (.tmp 21), [], none⟩]
def F4r5 : List ROp := [⟨some 23, .load 7 true false (.tmp 5), [], none⟩,
  ⟨some 24, .call (.func 16) [.tmp 23], [], none⟩,
  ⟨some 22, .copy false (.tmp 24), [], none⟩,
  ⟨some 25, .ext (.tmp 22) 0, [], none⟩,
  ⟨some 26, .ext (.tmp 22) 1, [], none⟩,
  ⟨some 7, .copy true (.tmp 25), [], none⟩,
  ⟨some 8, .copy true (.tmp 26), [], none⟩]
def F4r6 : List ROp := [⟨some 28, .load 7 true false (.tmp 2), [], none⟩,
  ⟨some 29, .call (.func 17) [.tmp 28], [], none⟩,
  ⟨some 27, .copy false (.tmp 29), [], none⟩,
  ⟨some 30, .ext (.tmp 27) 0, [], none⟩,
  ⟨some 31, .ext (.tmp 27) 1, [], none⟩,
  ⟨some 9, .copy true (.tmp 30), [], none⟩,
  ⟨some 10, .copy true (.tmp 31), [], none⟩]
def F4r7 : List ROp := [⟨some 33, .load 11 true false (.tmp 6), [], none⟩,
  ⟨some 34, .call (.func 18) [.tmp 33], [], none⟩,
  ⟨some 32, .copy false (.tmp 34), [], none⟩,
  ⟨some 35, .ext (.tmp 32) 0, [], none⟩,
  ⟨some 36, .ext (.tmp 32) 1, [], none⟩,
  ⟨some 11, .copy true (.tmp 35), [], none⟩,
  ⟨some 12, .copy true (.tmp 36), [], none⟩]
def F4r8 : List ROp := [⟨some 38, .load 11 true false (.tmp 3), [], none⟩,
  ⟨some 39, .call (.func 19) [.tmp 38], [], none⟩,
  ⟨some 37, .copy false (.tmp 39), [], none⟩,
  ⟨some 40, .ext (.tmp 37) 0, [], none⟩,
  ⟨some 41, .ext (.tmp 37) 1, [], none⟩,
  ⟨some 13, .copy true (.tmp 40), [], none⟩,
  ⟨some 14, .copy true (.tmp 41), [], none⟩]
def F4r9 : List ROp := [⟨some 42, .copy false (.tmp 7), [], none⟩,
  ⟨some 43, .copy false (.tmp 9), [], none⟩,
  ⟨some 44, .bin .eql (.tmp 42) (.tmp 43), [0, 1], none⟩,
  ⟨some 45, .copy false (.tmp 44), [2], none⟩,
  ⟨some 46, .copy false (.tmp 8), [3], some (45, true)⟩,
  ⟨some 47, .copy false (.tmp 10), [3], some (45, true)⟩,
  ⟨some 48, .bin .eql (.tmp 46) (.tmp 47), [4, 5, 3], some (45, true)⟩,
  ⟨some 49, .pick (.tmp 45) (.tmp 48) (.const (.bool false)), [3, 6], none⟩,
  ⟨some 50, .copy false (.tmp 49), [7, 3], none⟩,
  ⟨some 51, .copy false (.tmp 11), [8], some (50, true)⟩,
  ⟨some 52, .copy false (.tmp 13), [8], some (50, true)⟩,
  ⟨some 53, .bin .eql (.tmp 51) (.tmp 52), [9, 10, 8], some (50, true)⟩,
  ⟨some 54, .pick (.tmp 50) (.tmp 53) (.const (.bool false)), [8, 11], none⟩,
  ⟨some 55, .copy false (.tmp 54), [12, 8], none⟩,
  ⟨some 56, .copy false (.tmp 12), [13], some (55, true)⟩,
  ⟨some 57, .copy false (.tmp 14), [13], some (55, true)⟩,
  ⟨some 58, .bin .eql (.tmp 56) (.tmp 57), [14, 15, 13], some (55, true)⟩,
  ⟨some 59, .pick (.tmp 55) (.tmp 58) (.const (.bool false)), [13, 16], none⟩,
  ⟨some 60, .copy false (.tmp 59), [17, 13], none⟩,
  ⟨some 61, .load 7 true false (.tmp 5), [18], some (60, true)⟩,
  ⟨some 62, .call (.func 10) [.tmp 61], [19, 18, 18], some (60, true)⟩,
  ⟨some 63, .load 7 true false (.tmp 2), [18], some (60, true)⟩,
  ⟨some 64, .call (.func 9) [.tmp 62, .tmp 63], [20, 21, 20, 18], some (60, true)⟩,
  ⟨some 65, .pick (.tmp 60) (.tmp 64) (.const (.bool false)), [18, 22], none⟩,
  ⟨some 66, .copy false (.tmp 65), [23, 22], none⟩,
  ⟨some 67, .load 11 true false (.tmp 6), [24], some (66, true)⟩,
  ⟨some 68, .call (.func 12) [.tmp 67], [25, 24, 24], some (66, true)⟩,
  ⟨some 69, .load 11 true false (.tmp 3), [24], some (66, true)⟩,
  ⟨some 70, .call (.func 11) [.tmp 68, .tmp 69], [26, 27, 26, 24], some (66, true)⟩,
  ⟨some 71, .pick (.tmp 66) (.tmp 70) (.const (.bool false)), [24, 28], none⟩,
  ⟨some 4, .copy true (.tmp 71), [29, 28, 0, 1, 2, 3, 4, 5, 6, 7, 8, 9, 10, 11, 12, 13, 14, 15, 16, 17, 18, 19, 20, 21, 22, 23, 24, 25, 26, 27, 28, 29], none⟩]
theorem to_ok (c : CmdD) (hc : cmdsize c ≤ 4194304) : Con Tryz.prog 14 [cmdX c] (cmdX c) := by
  unfold cmdsize at hc
  have ht := tsizes_len c.texts
  have h1 := given_ok c.changes (by omega)
  refine Con.of_code Tryz.func14 (by kernel_rfl) rfl (by simp [Tryz.ntmps14]) fun C hC hM => ?_
  refine AWp.seq ?_
  refine AWp.regK [1, 2] [] F14r0 [] (by kernel_rfl) (by rw [hC]; rfl) fun K hK => ?_
  simp (maxSteps := 2000000) [F14r0]
  refine hK _ ?_
  refine AWp.seq ?_
  refine AWp.regKL ops_mixed [[], [0], [], [2], [], [], [5], [4, 5, 6], [], [8], [4, 5, 6, 7, 8, 9], [], [11], [], [13], [], [15], [0, 1, 2, 3, 4, 5, 6, 7, 8, 9, 10, 11, 12, 13, 14, 15, 16], [0, 1, 2, 3, 4, 5, 6, 7, 8, 9, 10, 11, 12, 13, 14, 15, 16, 17]] [2] [false, false, false, false, false, false, false, false, false, false, false, false, false, false, false, false, false, false, true] F14r1 [{ r := .rd 3 (c.changes.map encC) }] (by kernel_rfl) (by rw [hC]; rfl) (by kernel_rfl) (by kernel_rfl) fun K hK => ?_
  simp (maxSteps := 2000000) [F14r1]
  (repeat first | refine ⟨by first | (show freeP _ _ _ = true; kernel_rfl) | omega | (intros; omega) | assumption, ?_⟩ | refine ⟨by intros; exact callOK rfl h1, ?_⟩); refine hK _ ?_
  repeat refine AWp.seq ?_
  refine AWp.ret ⟨.inr rfl, _, by simp [Tryz.results14] <;> rfl, ?_⟩
  exact .clos (by simp; kernel_rfl) rfl
theorem of_ok (c : CmdD) (hc : cmdsize c ≤ 4194304) : Con Tryz.prog 10 [cmdX c] (cmdX c) := by
  unfold cmdsize at hc
  have ht := tsizes_len c.texts
  have h1 := given_ok c.changes (by omega)
  refine Con.of_code Tryz.func10 (by kernel_rfl) rfl (by simp [Tryz.ntmps10]) fun C hC hM => ?_
  refine AWp.seq ?_
  refine AWp.regK [1, 2] [] F10r0 [] (by kernel_rfl) (by rw [hC]; rfl) fun K hK => ?_
  simp (maxSteps := 2000000) [F10r0]
  refine hK _ ?_
  refine AWp.seq ?_
  refine AWp.regKL ops_mixed [[], [0], [], [2], [], [], [5], [4, 5, 6], [], [8], [4, 5, 6, 7, 8, 9], [], [11], [], [13], [], [15], [0, 1, 2, 3, 4, 5, 6, 7, 8, 9, 10, 11, 12, 13, 14, 15, 16], [0, 1, 2, 3, 4, 5, 6, 7, 8, 9, 10, 11, 12, 13, 14, 15, 16, 17]] [2] [false, false, false, false, false, false, false, false, false, false, false, false, false, false, false, false, false, false, true] F10r1 [{ r := .rd 3 (c.changes.map encC) }] (by kernel_rfl) (by rw [hC]; rfl) (by kernel_rfl) (by kernel_rfl) fun K hK => ?_
  simp (maxSteps := 2000000) [F10r1]
  (repeat first | refine ⟨by first | (show freeP _ _ _ = true; kernel_rfl) | omega | (intros; omega) | assumption, ?_⟩ | refine ⟨by intros; exact callOK rfl h1, ?_⟩); refine hK _ ?_
  repeat refine AWp.seq ?_
  refine AWp.ret ⟨.inr rfl, _, by simp [Tryz.results10] <;> rfl, ?_⟩
  exact .clos (by simp; kernel_rfl) rfl
theorem tell_ok (r : RepD) (hc : repsize r ≤ 4194304) : Con Tryz.prog 15 [repX r] (repX r) := by
  unfold repsize at hc
  have h1 := given_ok r.changes (by omega)
  have h2 := lists_ok r.rows (by omega)
  refine Con.of_code Tryz.func15 (by kernel_rfl) rfl (by simp [Tryz.ntmps15]) fun C hC hM => ?_
  refine AWp.seq ?_
  refine AWp.regK [1, 2] [] F15r0 [] (by kernel_rfl) (by rw [hC]; rfl) fun K hK => ?_
  simp (maxSteps := 2000000) [F15r0]
  refine hK _ ?_
  refine AWp.seq ?_
  refine AWp.regKL ops_mixed [[], [0], [], [2], [], [4], [], [6], [], [8], [], [10], [], [12], [], [14], [14, 15], [], [17], [14, 15, 16, 17, 18], [], [20], [0, 1, 2, 3, 4, 5, 6, 7, 8, 9, 10, 11, 12, 13, 14, 15, 16, 17, 18, 19, 20, 21], [0, 1, 2, 3, 4, 5, 6, 7, 8, 9, 10, 11, 12, 13, 14, 15, 16, 17, 18, 19, 20, 21, 22]] [2] [false, false, false, false, false, false, false, false, false, false, false, false, false, false, false, false, false, false, false, false, false, false, false, true] F15r1 [{ r := .rd 3 (r.changes.map encC) }, { r := .rd 1 (r.rows.map encL) }] (by kernel_rfl) (by rw [hC]; rfl) (by kernel_rfl) (by kernel_rfl) fun K hK => ?_
  simp (maxSteps := 2000000) [F15r1]
  (repeat first | refine ⟨by first | (show freeP _ _ _ = true; kernel_rfl) | omega | (intros; omega) | assumption, ?_⟩ | refine ⟨by intros; exact callOK rfl h1, ?_⟩ | refine ⟨by intros; exact callOK rfl h2, ?_⟩); refine hK _ ?_
  repeat refine AWp.seq ?_
  refine AWp.ret ⟨.inr rfl, _, by simp [Tryz.results15] <;> rfl, ?_⟩
  exact .clos (by simp; kernel_rfl) rfl
theorem told_ok (r : RepD) (hc : repsize r ≤ 4194304) : Con Tryz.prog 12 [repX r] (repX r) := by
  unfold repsize at hc
  have h1 := given_ok r.changes (by omega)
  have h2 := lists_ok r.rows (by omega)
  refine Con.of_code Tryz.func12 (by kernel_rfl) rfl (by simp [Tryz.ntmps12]) fun C hC hM => ?_
  refine AWp.seq ?_
  refine AWp.regK [1, 2] [] F12r0 [] (by kernel_rfl) (by rw [hC]; rfl) fun K hK => ?_
  simp (maxSteps := 2000000) [F12r0]
  refine hK _ ?_
  refine AWp.seq ?_
  refine AWp.regKL ops_mixed [[], [0], [], [2], [], [4], [], [6], [], [8], [], [10], [], [12], [], [14], [14, 15], [], [17], [14, 15, 16, 17, 18], [], [20], [0, 1, 2, 3, 4, 5, 6, 7, 8, 9, 10, 11, 12, 13, 14, 15, 16, 17, 18, 19, 20, 21], [0, 1, 2, 3, 4, 5, 6, 7, 8, 9, 10, 11, 12, 13, 14, 15, 16, 17, 18, 19, 20, 21, 22]] [2] [false, false, false, false, false, false, false, false, false, false, false, false, false, false, false, false, false, false, false, false, false, false, false, true] F12r1 [{ r := .rd 3 (r.changes.map encC) }, { r := .rd 1 (r.rows.map encL) }] (by kernel_rfl) (by rw [hC]; rfl) (by kernel_rfl) (by kernel_rfl) fun K hK => ?_
  simp (maxSteps := 2000000) [F12r1]
  (repeat first | refine ⟨by first | (show freeP _ _ _ = true; kernel_rfl) | omega | (intros; omega) | assumption, ?_⟩ | refine ⟨by intros; exact callOK rfl h1, ?_⟩ | refine ⟨by intros; exact callOK rfl h2, ?_⟩); refine hK _ ?_
  repeat refine AWp.seq ?_
  refine AWp.ret ⟨.inr rfl, _, by simp [Tryz.results12] <;> rfl, ?_⟩
  exact .clos (by simp; kernel_rfl) rfl
theorem SameCommand_ok (c : CmdD) (hc : cmdsize c ≤ 4194304) : Con Tryz.prog 9 [cmdX c, cmdX c] (bval true) := by
  unfold cmdsize at hc
  have ht := tsizes_len c.texts
  have h1 := SameC_ok c.changes (by omega)
  refine Con.of_code Tryz.func9 (by kernel_rfl) rfl (by simp [Tryz.ntmps9]) fun C hC hM => ?_
  refine AWp.seq ?_
  refine AWp.regK [2, 3] [false, false, true] F9r0 [] (by kernel_rfl) (by rw [hC]; rfl) fun K hK => ?_
  simp (maxSteps := 2000000) [F9r0]
  refine hK _ ?_
  refine AWp.seq ?_
  refine AWp.seq ?_
  refine AWp.regK [2, 3, 55] [] F9r1 [{ r := bval true }] (by kernel_rfl) (by rw [hC]; rfl) fun K hK => ?_
  simp (maxSteps := 2000000) [F9r1]
  (repeat first | refine ⟨by first | (show freeP _ _ _ = true; kernel_rfl) | omega | (intros; omega) | assumption, ?_⟩ | refine ⟨by intros; exact callOK rfl h1, ?_⟩); refine hK _ ?_
  refine AWp.cond false (by simp) (fun he => by cases he) (fun _ => ?_)
  refine AWp.skip ?_
  refine AWp.seq ?_
  refine AWp.seq ?_
  refine AWp.regK [2, 3, 5] [true] F9r3 [] (by kernel_rfl) (by rw [hC]; rfl) fun K hK => ?_
  simp (maxSteps := 2000000) [F9r3]
  refine hK _ ?_
  refine AWp.block ?_
  refine AWp.loopG (fun k : Nat => { tm := [(2, .ptr 2 0), (3, .ptr 3 0), (5, ival k)], hp := [(2, .cells 29 (encCmd c)), (3, .cells 29 (encCmd c))] }) (fun k => k ≤ c.texts.length) (fun k => c.texts.length - k) 0 (by omega) (by simp) (fun k hk => ?_)
  refine AWp.seq ?_
  refine AWp.seq ?_
  refine AWp.regK [2, 3, 5, 60] [] F9r4 [] (by kernel_rfl) (by rw [hC]; rfl) fun K hK => ?_
  simp (maxSteps := 2000000) [F9r4]
  refine hK _ ?_
  refine AWp.cond _ (by rfl) (fun hlt => ?_) (fun hge => ?_)
  · skip
    have hlt : k < c.texts.length := by simpa using hlt
    refine AWp.skip ?_
    refine AWp.seq ?_
    refine AWp.block ?_
    refine AWp.seq ?_
    refine AWp.regKL ops_mixed [[], [0], [], [0, 1, 2], [0, 1, 2, 3], [], [5], [], [5, 6, 7], [5, 6, 7, 8], [0, 1, 2, 3, 4, 5, 6, 7, 8, 9]] [2, 3, 5, 73] [] F9r6 [] (by kernel_rfl) (by rw [hC]; rfl) (by kernel_rfl) (by kernel_rfl) fun K hK => ?_
    simp (maxSteps := 2000000) [F9r6, hlt]
    (repeat refine ⟨by first | omega | (intros; omega) | assumption, ?_⟩); first | refine hK _ ?_ | refine ⟨by kernel_rfl, hK _ ?_⟩
    refine AWp.cond false (by simp) (fun he => by cases he) (fun _ => ?_)
    refine AWp.skip ?_
    refine AWp.regK [2, 3, 5] [false, false, true] F9r5 [] (by kernel_rfl) (by rw [hC]; rfl) fun K hK => ?_
    simp (maxSteps := 2000000) [F9r5]
    (repeat refine ⟨by first | omega | (intros; omega) | assumption, ?_⟩); refine hK _ ?_
    refine ⟨k + 1, by omega, by omega, ?_⟩
    simp [wrap_nat k (by omega)]
  refine AWp.exit ?_
  refine AWp.seq ?_
  refine AWp.regK [4] [true] F9r8 [] (by kernel_rfl) (by rw [hC]; rfl) fun K hK => ?_
  simp (maxSteps := 2000000) [F9r8]
  refine hK _ ?_
  repeat refine AWp.seq ?_
  refine AWp.ret ⟨.inr rfl, _, by simp [Tryz.results9] <;> rfl, ?_⟩
  exact .closed rfl
theorem SameReply_ok (r : RepD) (hc : repsize r ≤ 4194304) : Con Tryz.prog 11 [repX r, repX r] (bval true) := by
  unfold repsize at hc
  have h1 := SameC_ok r.changes (by omega)
  have h2 := SameRows_ok r.rows (by omega)
  refine Con.of_code Tryz.func11 (by kernel_rfl) rfl (by simp [Tryz.ntmps11]) fun C hC hM => ?_
  refine AWp.seq ?_
  refine AWp.regK [2, 3] [false, false, true] F11r0 [] (by kernel_rfl) (by rw [hC]; rfl) fun K hK => ?_
  simp (maxSteps := 2000000) [F11r0]
  refine hK _ ?_
  refine AWp.seq ?_
  refine AWp.regK [4] [false, false, false, false, false, false, false, false, false, false, false, false, false, false, false, false, false, false, false, false, false, false, false, false, false, false, false, false, false, false, false, false, false, false, false, false, false, false, false, false, false, false, false, false, false, false, false, false, false, false, false, false, false, false, false, false, false, false, false, false, false, false, false, false, false, false, false, false, true] F11r1 [{ r := bval true }, { r := bval true }] (by kernel_rfl) (by rw [hC]; rfl) fun K hK => ?_
  simp (maxSteps := 2000000) [F11r1]
  (repeat first | refine ⟨by first | (show freeP _ _ _ = true; kernel_rfl) | omega | (intros; omega) | assumption, ?_⟩ | refine ⟨by intros; exact callOK rfl h1, ?_⟩ | refine ⟨by intros; exact callOK rfl h2, ?_⟩); refine hK _ ?_
  repeat refine AWp.seq ?_
  refine AWp.ret ⟨.inr rfl, _, by simp [Tryz.results11] <;> rfl, ?_⟩
  exact .clos (by simp) rfl
theorem huge_ok (c : CmdD) (r : RepD) (hc : cmdsize c ≤ 1048576) (hr : repsize r ≤ 1048576) : ∃ b, Con Tryz.prog 13 [cmdX c, repX r] (bval b) := by
  unfold cmdsize at hc
  unfold repsize at hr
  have ht := tsizes_len c.texts
  have hrl := rsizes_len r.rows
  have h1 := changes_ok c.changes (by omega)
  have h2 := changes_ok r.changes (by omega)
  have hl1 := changesN_le c.changes
  have hl2 := changesN_le r.changes
  have h3 := long_ok c.texts (by omega)
  have h4 := long_ok [c.rel, c.text, r.module, r.text] (by simp only [tsizes]; omega)
  have hrn := rNs_le r.rows (changesN c.changes + changesN r.changes + r.rows.length)
  have hw1 : IntKind.i64.wrap ((changesN c.changes : Int) + changesN r.changes) = ((changesN c.changes + changesN r.changes : Nat) : Int) := by rw [wrap_in (by omega) (by omega)]; omega
  have hw2 : IntKind.i64.wrap (((changesN c.changes + changesN r.changes : Nat) : Int) + r.rows.length) = ((changesN c.changes + changesN r.changes + r.rows.length : Nat) : Int) := by rw [wrap_in (by omega) (by omega)]; omega
  generalize hn0 : changesN c.changes + changesN r.changes + r.rows.length = n0 at *
  generalize changesN c.changes + changesN r.changes = n1 at *
  refine ⟨decide (3000 ≤ rNs r.rows n0) || (decide (200000 ≤ tNs c.texts c.texts.length) || decide (200000 ≤ tNs [c.rel, c.text, r.module, r.text] 4)), ?_⟩
  refine Con.of_code Tryz.func13 (by kernel_rfl) rfl (by simp [Tryz.ntmps13]) fun C hC hM => ?_
  refine AWp.seq ?_
  refine AWp.regK [2, 3] [false, false, true] F13r0 [] (by kernel_rfl) (by rw [hC]; rfl) fun K hK => ?_
  simp (maxSteps := 2000000) [F13r0]
  refine hK _ ?_
  refine AWp.seq ?_
  refine AWp.regKL ops_mixed [[], [0], [0, 1], [], [3], [0, 1, 2, 3, 4], [0, 1, 2, 3, 4, 5], [], [7], [7, 8], [0, 1, 2, 3, 4, 5, 6, 7, 8, 9], [0, 1, 2, 3, 4, 5, 6, 7, 8, 9, 10]] [2, 3, 5] [false, false, false, false, false, false, false, false, false, false, false, true] F13r1 [{ r := ival (changesN c.changes) }, { r := ival (changesN r.changes) }] (by kernel_rfl) (by rw [hC]; rfl) (by kernel_rfl) (by kernel_rfl) fun K hK => ?_
  simp (maxSteps := 2000000) [F13r1, hw1, hw2]
  (repeat first | refine ⟨by first | (show freeP _ _ _ = true; kernel_rfl) | omega | (intros; omega) | assumption, ?_⟩ | refine ⟨by intros; exact callOK rfl h1, ?_⟩ | refine ⟨by intros; exact callOK rfl h2, ?_⟩); refine hK _ ?_
  refine AWp.seq ?_
  refine AWp.seq ?_
  refine AWp.regK [2, 3, 5, 6] [true] F13r2 [] (by kernel_rfl) (by rw [hC]; rfl) fun K hK => ?_
  simp (maxSteps := 2000000) [F13r2]
  refine hK _ ?_
  refine AWp.block ?_
  refine AWp.loopG (fun x : Nat × Nat => { tm := [(2, .ptr 2 0), (3, .ptr 3 0), (5, ival x.2), (6, ival x.1)], hp := [(2, .cells 29 (encCmd c)), (3, .cells 39 (encRep r))] }) (fun x => x.1 ≤ r.rows.length ∧ rNs r.rows n0 = rNs (r.rows.drop x.1) x.2) (fun x => r.rows.length - x.1) (0, n0) ⟨by omega, by simp⟩ (by simp) (fun x hk => ?_)
  obtain ⟨k, m⟩ := x
  obtain ⟨hk1, hk2⟩ := hk
  simp only at hk1 hk2
  have hge := rNs_ge (r.rows.drop k) m
  refine AWp.seq ?_
  refine AWp.seq ?_
  refine AWp.regK [2, 3, 5, 6, 26] [] F13r3 [] (by kernel_rfl) (by rw [hC]; rfl) fun K hK => ?_
  simp (maxSteps := 2000000) [F13r3]
  (repeat refine ⟨by first | omega | (intros; omega) | assumption, ?_⟩); refine hK _ ?_
  refine AWp.cond _ (by rfl) (fun hlt => ?_) (fun hlt => ?_)
  · skip
    have hlt2 : k < r.rows.length ∧ m < 3000 := by simp at hlt; omega
    clear hlt
    obtain ⟨hlt, hm3⟩ := hlt2
    have hd := rNs_drop r.rows k m hlt
    rw [if_pos hm3] at hd
    have hm := rsize_mem (List.getElem_mem hlt)
    have hc := values'_ok r.rows[k] (by omega)
    have hcl := valuesN_le r.rows[k]
    have hw3 : IntKind.i64.wrap ((m : Int) + (valuesN r.rows[k] : Int)) = ((m + valuesN r.rows[k] : Nat) : Int) := by rw [wrap_in (by omega) (by omega)]; omega
    refine AWp.skip ?_
    refine AWp.seq ?_
    refine AWp.block ?_
    refine AWp.regK [2, 3, 5, 6] [false, false, false, false, false, false, false, false, true] F13r5 [{ r := ival (valuesN r.rows[k]) }] (by kernel_rfl) (by rw [hC]; rfl) fun K hK => ?_
    simp (maxSteps := 2000000) [F13r5, hlt, hw3]
    (repeat first | refine ⟨by first | (show freeP _ _ _ = true; kernel_rfl) | omega | (intros; omega) | assumption, ?_⟩ | refine ⟨by intros; exact callOK rfl hc, ?_⟩); refine hK _ ?_
    refine AWp.regK [2, 3, 5, 6] [false, false, true] F13r4 [] (by kernel_rfl) (by rw [hC]; rfl) fun K hK => ?_
    simp (maxSteps := 2000000) [F13r4]
    (repeat refine ⟨by first | omega | (intros; omega) | assumption, ?_⟩); refine hK _ ?_
    refine ⟨(k + 1, m + valuesN r.rows[k]), ⟨by simp; omega, by rw [hk2, hd]⟩, by simp; omega, ?_⟩
    simp [wrap_nat k (by omega)]
  have hfin : rNs r.rows n0 = m := by
    rw [hk2]
    by_cases h : k < r.rows.length
    · rw [rNs_drop r.rows k m h, if_neg (by simp [h] at hlt; omega)]
    · rw [List.drop_eq_nil_of_le (by omega)]; rfl
  rw [hfin]
  refine AWp.exit ?_
  refine AWp.seq ?_
  refine AWp.regK [4] [false, false, false, false, false, false, false, false, false, false, false, false, false, false, false, false, false, false, false, false, false, true] F13r6 [{ r := ival (tNs c.texts c.texts.length) }, { r := ival (tNs [c.rel, c.text, r.module, r.text] 4) }] (by kernel_rfl) (by rw [hC]; rfl) fun K hK => ?_
  simp (maxSteps := 2000000) [F13r6, show List.range 4 = [0, 1, 2, 3] from rfl]
  (repeat first | refine ⟨by first | (show freeP _ _ _ = true; kernel_rfl) | omega | (intros; omega) | assumption, ?_⟩ | refine ⟨by intros; exact callOK rfl h3, ?_⟩ | refine ⟨by intros; exact callWk rfl (by repeat (first | exact WkL.nil | refine WkL.cons (by first | exact Wk.refl _ | exact Wk.nil _ | exact Wk.own (WkR.refl _)) ?_)) h4, ?_⟩); refine hK _ ?_
  repeat refine AWp.seq ?_
  refine AWp.ret ⟨.inr rfl, _, by simp [Tryz.results13] <;> rfl, ?_⟩
  refine .clos ?_ rfl
  have e1 : decide ((3000 : Int) ≤ m) = decide (3000 ≤ m) := decide_eq_decide.2 (by omega)
  have e2 : decide ((200000 : Int) ≤ tNs c.texts c.texts.length) = decide (200000 ≤ tNs c.texts c.texts.length) := decide_eq_decide.2 (by omega)
  have e3 : decide ((200000 : Int) ≤ tNs [c.rel, c.text, r.module, r.text] 4) = decide (200000 ≤ tNs [c.rel, c.text, r.module, r.text] 4) := decide_eq_decide.2 (by omega)
  simp only [e1, e2, e3]
  cases decide (3000 ≤ m) <;> cases decide (200000 ≤ tNs c.texts c.texts.length) <;> cases decide (200000 ≤ tNs [c.rel, c.text, r.module, r.text] 4) <;> rfl
theorem encodeA_tup (c : CmdD) : ∃ (s : ByteArray) (e : Int), encodeA c = .tup [sval s, ival e] := by
  unfold encodeA; split
  · exact ⟨_, _, rfl⟩
  · split
    · exact ⟨_, _, rfl⟩
    · exact wholeA_tup _
theorem tellA_tup (c : RepD) : ∃ (s : ByteArray) (e : Int), tellA c = .tup [sval s, ival e] := by
  unfold tellA; split
  · exact ⟨_, _, rfl⟩
  · split
    · exact ⟨_, _, rfl⟩
    · exact wholeA_tup _
theorem SessionWrites_con (c : CmdD) (r : RepD) (hc : cmdsize c ≤ 1048576) (hr : repsize r ≤ 1048576) (hcr : cmdrng c) (hrr : reprng r) : Con Tryz.prog 4 [cmdX c, repX r] (bval true) := by
  obtain ⟨b, hh⟩ := huge_ok c r hc hr
  have h1 := to_ok c (by omega)
  have h2 := tell_ok r (by omega)
  have h3 := encode_P c (by omega) hcr
  have h4 := encode_R c (by omega) hcr
  have h5 := tell_P r (by omega) hrr
  have h6 := tell_R r (by omega) hrr
  have h7 := of_ok c (by omega)
  have h8 := told_ok r (by omega)
  have h9 := SameCommand_ok c (by omega)
  have h10 := SameReply_ok r (by omega)
  obtain ⟨s1, e1, he1⟩ := encodeA_tup c
  obtain ⟨s2, e2, he2⟩ := tellA_tup r
  rw [he1] at h3 h4
  rw [he2] at h5 h6
  refine Con.of_code Tryz.func4 (by kernel_rfl) rfl (by simp [Tryz.ntmps4]) fun C hC hM => ?_
  refine AWp.seq ?_
  refine AWp.regK [2, 3] [false, false, true] F4r0 [] (by kernel_rfl) (by rw [hC]; rfl) fun K hK => ?_
  simp (maxSteps := 2000000) [F4r0]
  refine hK _ ?_
  refine AWp.seq ?_
  refine AWp.seq ?_
  refine AWp.regK [2, 3, 17] [] F4r1 [{ r := bval b }] (by kernel_rfl) (by rw [hC]; rfl) fun K hK => ?_
  simp (maxSteps := 2000000) [F4r1]
  (repeat first | refine ⟨by first | (show freeP _ _ _ = true; kernel_rfl) | omega | (intros; omega) | assumption, ?_⟩ | refine ⟨by intros; exact callOK rfl hh, ?_⟩); refine hK _ ?_
  refine AWp.cond _ (by rfl) (fun hb => ?_) (fun hb => ?_)
  · skip
    refine AWp.seq ?_
    refine AWp.regK [4] [true] F4r2 [] (by kernel_rfl) (by rw [hC]; rfl) fun K hK => ?_
    simp (maxSteps := 2000000) [F4r2]
    refine hK _ ?_
    repeat refine AWp.seq ?_
    refine AWp.ret ⟨.inr rfl, _, by simp [Tryz.results4] <;> rfl, ?_⟩
    exact .closed rfl
  refine AWp.skip ?_
  refine AWp.seq ?_
  refine AWp.regK [2, 3, 5] [false, false, false, true] F4r3 [{ r := cmdX c }] (by kernel_rfl) (by rw [hC]; rfl) fun K hK => ?_
  simp (maxSteps := 2000000) [F4r3]
  (repeat first | refine ⟨by first | (show freeP _ _ _ = true; kernel_rfl) | omega | (intros; omega) | assumption, ?_⟩ | refine ⟨by intros; exact callOK rfl h1, ?_⟩); refine hK _ ?_
  refine AWp.seq ?_
  refine AWp.regK [2, 3, 5, 6] [false, false, false, true] F4r4 [{ r := repX r }] (by kernel_rfl) (by rw [hC]; rfl) fun K hK => ?_
  simp (maxSteps := 2000000) [F4r4]
  (repeat first | refine ⟨by first | (show freeP _ _ _ = true; kernel_rfl) | omega | (intros; omega) | assumption, ?_⟩ | refine ⟨by intros; exact callOK rfl h2, ?_⟩); refine hK _ ?_
  refine AWp.seq ?_
  refine AWp.regK [2, 3, 5, 6, 7, 8] [false, false, false, false, false, true, true] F4r5 [{ r := .tup [sval s1, ival e1] }] (by kernel_rfl) (by rw [hC]; rfl) fun K hK => ?_
  simp (maxSteps := 2000000) [F4r5]
  (repeat first | refine ⟨by first | (show freeP _ _ _ = true; kernel_rfl) | omega | (intros; omega) | assumption, ?_⟩ | refine ⟨by intros; exact callOK rfl h3, ?_⟩); refine hK _ ?_
  refine AWp.seq ?_
  refine AWp.regK [2, 3, 5, 6, 7, 8, 9, 10] [false, false, false, false, false, true, true] F4r6 [{ r := .tup [sval s1, ival e1] }] (by kernel_rfl) (by rw [hC]; rfl) fun K hK => ?_
  simp (maxSteps := 2000000) [F4r6]
  (repeat first | refine ⟨by first | (show freeP _ _ _ = true; kernel_rfl) | omega | (intros; omega) | assumption, ?_⟩ | refine ⟨by intros; exact callOK rfl h4, ?_⟩); refine hK _ ?_
  refine AWp.seq ?_
  refine AWp.regK [2, 3, 5, 6, 7, 8, 9, 10, 11, 12] [false, false, false, false, false, true, true] F4r7 [{ r := .tup [sval s2, ival e2] }] (by kernel_rfl) (by rw [hC]; rfl) fun K hK => ?_
  simp (maxSteps := 2000000) [F4r7]
  (repeat first | refine ⟨by first | (show freeP _ _ _ = true; kernel_rfl) | omega | (intros; omega) | assumption, ?_⟩ | refine ⟨by intros; exact callOK rfl h5, ?_⟩); refine hK _ ?_
  refine AWp.seq ?_
  refine AWp.regK [2, 3, 5, 6, 7, 8, 9, 10, 11, 12, 13, 14] [false, false, false, false, false, true, true] F4r8 [{ r := .tup [sval s2, ival e2] }] (by kernel_rfl) (by rw [hC]; rfl) fun K hK => ?_
  simp (maxSteps := 2000000) [F4r8]
  (repeat first | refine ⟨by first | (show freeP _ _ _ = true; kernel_rfl) | omega | (intros; omega) | assumption, ?_⟩ | refine ⟨by intros; exact callOK rfl h6, ?_⟩); refine hK _ ?_
  refine AWp.seq ?_
  refine AWp.regKL ops_mixed [[], [], [0, 1], [0, 1, 2], [0, 1, 2, 3], [0, 1, 2, 3], [0, 1, 2, 3, 4, 5], [0, 1, 2, 3, 4, 5, 6], [0, 1, 2, 3, 4, 5, 6, 7], [0, 1, 2, 3, 4, 5, 6, 7, 8], [0, 1, 2, 3, 4, 5, 6, 7, 8], [0, 1, 2, 3, 4, 5, 6, 7, 8, 9, 10], [0, 1, 2, 3, 4, 5, 6, 7, 8, 9, 10, 11], [0, 1, 2, 3, 4, 5, 6, 7, 8, 9, 10, 11, 12], [0, 1, 2, 3, 4, 5, 6, 7, 8, 9, 10, 11, 12, 13], [0, 1, 2, 3, 4, 5, 6, 7, 8, 9, 10, 11, 12, 13], [0, 1, 2, 3, 4, 5, 6, 7, 8, 9, 10, 11, 12, 13, 14, 15], [0, 1, 2, 3, 4, 5, 6, 7, 8, 9, 10, 11, 12, 13, 14, 15, 16], [0, 1, 2, 3, 4, 5, 6, 7, 8, 9, 10, 11, 12, 13, 14, 15, 16, 17], [0, 1, 2, 3, 4, 5, 6, 7, 8, 9, 10, 11, 12, 13, 14, 15, 16, 17, 18], [0, 1, 2, 3, 4, 5, 6, 7, 8, 9, 10, 11, 12, 13, 14, 15, 16, 17, 18, 19], [0, 1, 2, 3, 4, 5, 6, 7, 8, 9, 10, 11, 12, 13, 14, 15, 16, 17, 18], [0, 1, 2, 3, 4, 5, 6, 7, 8, 9, 10, 11, 12, 13, 14, 15, 16, 17, 18, 19, 20, 21], [0, 1, 2, 3, 4, 5, 6, 7, 8, 9, 10, 11, 12, 13, 14, 15, 16, 17, 18, 19, 20, 21, 22], [0, 1, 2, 3, 4, 5, 6, 7, 8, 9, 10, 11, 12, 13, 14, 15, 16, 17, 18, 19, 20, 21, 22, 23], [0, 1, 2, 3, 4, 5, 6, 7, 8, 9, 10, 11, 12, 13, 14, 15, 16, 17, 18, 19, 20, 21, 22, 23, 24], [0, 1, 2, 3, 4, 5, 6, 7, 8, 9, 10, 11, 12, 13, 14, 15, 16, 17, 18, 19, 20, 21, 22, 23, 24, 25], [0, 1, 2, 3, 4, 5, 6, 7, 8, 9, 10, 11, 12, 13, 14, 15, 16, 17, 18, 19, 20, 21, 22, 23, 24], [0, 1, 2, 3, 4, 5, 6, 7, 8, 9, 10, 11, 12, 13, 14, 15, 16, 17, 18, 19, 20, 21, 22, 23, 24, 25, 26, 27], [0, 1, 2, 3, 4, 5, 6, 7, 8, 9, 10, 11, 12, 13, 14, 15, 16, 17, 18, 19, 20, 21, 22, 23, 24, 25, 26, 27, 28], [0, 1, 2, 3, 4, 5, 6, 7, 8, 9, 10, 11, 12, 13, 14, 15, 16, 17, 18, 19, 20, 21, 22, 23, 24, 25, 26, 27, 28, 29]] [4] [false, false, false, false, false, false, false, false, false, false, false, false, false, false, false, false, false, false, false, false, false, false, false, false, false, false, false, false, false, false, true] F4r9 [{ r := cmdX c }, { r := bval true }, { r := repX r }, { r := bval true }] (by kernel_rfl) (by rw [hC]; rfl) (by kernel_rfl) (by kernel_rfl) fun K hK => ?_
  simp (maxSteps := 2000000) [F4r9]
  (repeat first | refine ⟨by first | (show freeP _ _ _ = true; kernel_rfl) | omega | (intros; omega) | assumption, ?_⟩ | refine ⟨by intros; exact callOK rfl h7, ?_⟩ | refine ⟨by intros; exact callOK rfl h8, ?_⟩ | refine ⟨by intros; exact callOK rfl h9, ?_⟩ | refine ⟨by intros; exact callOK rfl h10, ?_⟩); refine hK _ ?_
  repeat refine AWp.seq ?_
  refine AWp.ret ⟨.inr rfl, _, by simp [Tryz.results4] <;> rfl, ?_⟩
  exact .clos (by simp) rfl
end Go.Se
