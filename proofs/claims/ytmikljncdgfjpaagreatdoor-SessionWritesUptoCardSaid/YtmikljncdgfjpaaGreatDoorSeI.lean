/- The guard; copies; the same. -/
import Derived.Test.YtmikljncdgfjpaaGreatDoorSeA
import Derived.Test.YtmikljncdgfjpaaGreatDoorSeSpC
set_option linter.unusedSimpArgs false
set_option linter.unusedVariables false
open Go Go.Aw Go.Proofs
namespace Go.Se
set_option maxRecDepth 20000
-- function 49: corollary/corollarylaw31.values
def F49r0 : List ROp := [⟨some 2, .copy true (.const (.int .i64 0)), [], none⟩]
def F49r1 : List ROp := [⟨some 5, .copy false (.tmp 0), [], none⟩,
  ⟨some 6, .len 0 (.tmp 5), [], none⟩,
  ⟨some 3, .copy true (.tmp 6), [], none⟩]
def F49r2 : List ROp := [⟨some 4, .copy true (.const (.int .i64 0)), [], none⟩]
def F49r3 : List ROp := [⟨some 7, .copy false (.tmp 4), [], none⟩,
  ⟨some 8, .copy false (.tmp 0), [], none⟩,
  ⟨some 9, .len 0 (.tmp 8), [], none⟩,
  ⟨some 10, .bin .lss (.tmp 7) (.tmp 9), [], none⟩,
  ⟨some 11, .copy false (.tmp 10), [], none⟩,
  ⟨some 12, .copy false (.tmp 3), [], some (11, true)⟩,
  ⟨some 13, .bin .lss (.tmp 12) (.const (.int .i64 3000)), [], some (11, true)⟩,
  ⟨some 14, .pick (.tmp 11) (.tmp 13) (.const (.bool false)), [], none⟩]
def F49r4 : List ROp := [⟨some 15, .copy false (.tmp 4), [], none⟩,
  ⟨some 16, .bin .add (.tmp 15) (.const (.int .i64 1)), [], none⟩,
  ⟨some 4, .copy true (.tmp 16), [], none⟩]
def F49r5 : List ROp := [⟨some 17, .copy false (.tmp 3), [], none⟩,
  ⟨some 18, .copy false (.tmp 0), [], none⟩,
  ⟨some 19, .copy false (.tmp 4), [], none⟩,
  ⟨some 20, .iad 4 (.tmp 18) (.tmp 19), [1, 2], none⟩,
  ⟨some 21, .fad 2 (.tmp 20), [3], none⟩,
  ⟨some 22, .load 1 false false (.tmp 21), [4], none⟩,
  ⟨some 23, .len 1 (.tmp 22), [5], none⟩,
  ⟨some 24, .bin .quo (.tmp 23) (.const (.int .i64 64)), [6], none⟩,
  ⟨some 25, .bin .add (.tmp 17) (.tmp 24), [0, 7], none⟩,
  ⟨some 26, .copy false (.tmp 0), [], none⟩,
  ⟨some 27, .copy false (.tmp 4), [], none⟩,
  ⟨some 28, .iad 4 (.tmp 26) (.tmp 27), [9, 10], none⟩,
  ⟨some 29, .fad 3 (.tmp 28), [11], none⟩,
  ⟨some 30, .load 1 false false (.tmp 29), [12], none⟩,
  ⟨some 31, .call (.func 49) [.tmp 30], [13], none⟩,
  ⟨some 32, .bin .add (.tmp 25) (.tmp 31), [8, 14], none⟩,
  ⟨some 3, .copy true (.tmp 32), [15, 14, 0, 1, 2, 3, 4, 5, 6, 7, 8, 9, 10, 11, 12, 13, 14, 15], none⟩]
def F49r6 : List ROp := [⟨some 33, .copy true (.tmp 3), [], none⟩,
  ⟨some 2, .copy true (.tmp 33), [], none⟩]
-- function 48: corollary/corollarylaw31.changes
def F48r0 : List ROp := [⟨some 2, .copy true (.const (.int .i64 0)), [], none⟩]
def F48r1 : List ROp := [⟨some 5, .copy false (.tmp 0), [], none⟩,
  ⟨some 6, .len 0 (.tmp 5), [], none⟩,
  ⟨some 3, .copy true (.tmp 6), [], none⟩]
def F48r2 : List ROp := [⟨some 4, .copy true (.const (.int .i64 0)), [], none⟩]
def F48r3 : List ROp := [⟨some 7, .copy false (.tmp 4), [], none⟩,
  ⟨some 8, .copy false (.tmp 0), [], none⟩,
  ⟨some 9, .len 0 (.tmp 8), [], none⟩,
  ⟨some 10, .bin .lss (.tmp 7) (.tmp 9), [], none⟩,
  ⟨some 11, .copy false (.tmp 10), [], none⟩,
  ⟨some 12, .copy false (.tmp 3), [], some (11, true)⟩,
  ⟨some 13, .bin .lss (.tmp 12) (.const (.int .i64 3000)), [], some (11, true)⟩,
  ⟨some 14, .pick (.tmp 11) (.tmp 13) (.const (.bool false)), [], none⟩]
def F48r4 : List ROp := [⟨some 15, .copy false (.tmp 4), [], none⟩,
  ⟨some 16, .bin .add (.tmp 15) (.const (.int .i64 1)), [], none⟩,
  ⟨some 4, .copy true (.tmp 16), [], none⟩]
def F48r5 : List ROp := [⟨some 17, .copy false (.tmp 3), [], none⟩,
  ⟨some 18, .copy false (.tmp 0), [], none⟩,
  ⟨some 19, .copy false (.tmp 4), [], none⟩,
  ⟨some 20, .iad 3 (.tmp 18) (.tmp 19), [1, 2], none⟩,
  ⟨some 21, .fad 0 (.tmp 20), [3], none⟩,
  ⟨some 22, .fad 1 (.tmp 21), [4], none⟩,
  ⟨some 23, .load 1 false false (.tmp 22), [5], none⟩,
  ⟨some 24, .call (.func 49) [.tmp 23], [6], none⟩,
  ⟨some 25, .bin .add (.tmp 17) (.tmp 24), [0, 7], none⟩,
  ⟨some 26, .copy false (.tmp 0), [], none⟩,
  ⟨some 27, .copy false (.tmp 4), [], none⟩,
  ⟨some 28, .iad 3 (.tmp 26) (.tmp 27), [9, 10], none⟩,
  ⟨some 29, .fad 0 (.tmp 28), [11], none⟩,
  ⟨some 30, .fad 0 (.tmp 29), [12], none⟩,
  ⟨some 31, .load 1 false false (.tmp 30), [13], none⟩,
  ⟨some 32, .len 1 (.tmp 31), [14], none⟩,
  ⟨some 33, .bin .quo (.tmp 32) (.const (.int .i64 64)), [15], none⟩,
  ⟨some 34, .bin .add (.tmp 25) (.tmp 33), [8, 16], none⟩,
  ⟨some 3, .copy true (.tmp 34), [17, 7, 0, 1, 2, 3, 4, 5, 6, 7, 8, 9, 10, 11, 12, 13, 14, 15, 16, 17], none⟩]
def F48r6 : List ROp := [⟨some 35, .copy true (.tmp 3), [], none⟩,
  ⟨some 2, .copy true (.tmp 35), [], none⟩]
-- function 50: corollary/corollarylaw31.long
def F50r0 : List ROp := [⟨some 2, .copy true (.const (.int .i64 0)), [], none⟩]
def F50r1 : List ROp := [⟨some 5, .copy false (.tmp 0), [], none⟩,
  ⟨some 6, .len 0 (.tmp 5), [], none⟩,
  ⟨some 3, .copy true (.tmp 6), [], none⟩]
def F50r2 : List ROp := [⟨some 4, .copy true (.const (.int .i64 0)), [], none⟩]
def F50r3 : List ROp := [⟨some 7, .copy false (.tmp 4), [], none⟩,
  ⟨some 8, .copy false (.tmp 0), [], none⟩,
  ⟨some 9, .len 0 (.tmp 8), [], none⟩,
  ⟨some 10, .bin .lss (.tmp 7) (.tmp 9), [], none⟩,
  ⟨some 11, .copy false (.tmp 10), [], none⟩,
  ⟨some 12, .copy false (.tmp 3), [], some (11, true)⟩,
  ⟨some 13, .bin .lss (.tmp 12) (.const (.int .i64 400000)), [], some (11, true)⟩,
  ⟨some 14, .pick (.tmp 11) (.tmp 13) (.const (.bool false)), [], none⟩]
def F50r4 : List ROp := [⟨some 15, .copy false (.tmp 4), [], none⟩,
  ⟨some 16, .bin .add (.tmp 15) (.const (.int .i64 1)), [], none⟩,
  ⟨some 4, .copy true (.tmp 16), [], none⟩]
def F50r5 : List ROp := [⟨some 17, .copy false (.tmp 3), [], none⟩,
  ⟨some 18, .copy false (.tmp 0), [], none⟩,
  ⟨some 19, .copy false (.tmp 4), [], none⟩,
  ⟨some 20, .iad 1 (.tmp 18) (.tmp 19), [], none⟩,
  ⟨some 21, .load 1 false false (.tmp 20), [], none⟩,
  ⟨some 22, .len 1 (.tmp 21), [], none⟩,
  ⟨some 23, .mm false (.tmp 22) (.const (.int .i64 200000)), [], none⟩,
  ⟨some 24, .bin .add (.tmp 17) (.tmp 23), [], none⟩,
  ⟨some 3, .copy true (.tmp 24), [], none⟩]
def F50r6 : List ROp := [⟨some 25, .copy true (.tmp 3), [], none⟩,
  ⟨some 2, .copy true (.tmp 25), [], none⟩]
-- function 88: corollary/corollaryref02.Own
def F88r0 : List ROp := [⟨some 2, .copy true (.const (.slice none 0 0)), [], none⟩]
def F88r1 : List ROp := [⟨some 3, .copy true (.const (.slice none 0 0)), [], none⟩]
def F88r2 : List ROp := [⟨some 4, .copy true (.const (.int .i64 0)), [], none⟩]
def F88r3 : List ROp := [⟨some 6, .copy false (.tmp 4), [], none⟩,
  ⟨some 7, .copy false (.tmp 0), [], none⟩,
  ⟨some 8, .len 0 (.tmp 7), [], none⟩,
  ⟨some 9, .bin .lss (.tmp 6) (.tmp 8), [], none⟩]
def F88r4 : List ROp := [⟨some 10, .copy false (.tmp 4), [], none⟩,
  ⟨some 11, .bin .add (.tmp 10) (.const (.int .i64 1)), [], none⟩,
  ⟨some 4, .copy true (.tmp 11), [], none⟩]
def F88r5 : List ROp := [⟨some 12, .copy false (.tmp 0), [], none⟩,
  ⟨some 13, .copy false (.tmp 4), [], none⟩,
  ⟨some 14, .iad 4 (.tmp 12) (.tmp 13), [], none⟩,
  ⟨some 15, .load 4 true false (.tmp 14), [], none⟩,
  ⟨some 5, .alloc 114 [Value.int .u8 0, Value.int .i64 0, Value.string ByteArray.empty, Value.slice none 0 0], [], none⟩,
  ⟨none, .store 4 true (.tmp 5) (.tmp 15), [], none⟩]
def F88r6 : List ROp := [⟨some 16, .fad 3 (.tmp 5), [], none⟩,
  ⟨some 17, .load 1 false false (.tmp 16), [], none⟩,
  ⟨some 18, .call (.func 88) [.tmp 17], [], none⟩,
  ⟨some 19, .fad 3 (.tmp 5), [], none⟩,
  ⟨none, .store 1 true (.tmp 19) (.tmp 18), [], none⟩]
def F88r7 : List ROp := [⟨some 20, .copy true (.tmp 3), [], none⟩,
  ⟨some 21, .load 4 true false (.tmp 5), [], none⟩,
  ⟨some 22, .bslice 114 4 [Value.int .u8 0, Value.int .i64 0, Value.string ByteArray.empty, Value.slice none 0 0] 1 [(0, .tmp 21)], [], none⟩,
  ⟨some 23, .app 114 4 56 (.tmp 20) (.tmp 22), [], none⟩,
  ⟨some 3, .copy true (.tmp 23), [], none⟩]
def F88r8 : List ROp := [⟨some 24, .copy true (.tmp 3), [], none⟩,
  ⟨some 2, .copy true (.tmp 24), [], none⟩]
-- function 45: corollary/corollarylaw31.given
def F45r0 : List ROp := [⟨some 2, .copy true (.const (.slice none 0 0)), [], none⟩]
def F45r1 : List ROp := [⟨some 3, .copy true (.const (.slice none 0 0)), [], none⟩]
def F45r2 : List ROp := [⟨some 4, .copy true (.const (.int .i64 0)), [], none⟩]
def F45r3 : List ROp := [⟨some 5, .copy false (.tmp 4), [], none⟩,
  ⟨some 6, .copy false (.tmp 0), [], none⟩,
  ⟨some 7, .len 0 (.tmp 6), [], none⟩,
  ⟨some 8, .bin .lss (.tmp 5) (.tmp 7), [], none⟩]
def F45r4 : List ROp := [⟨some 9, .copy false (.tmp 4), [], none⟩,
  ⟨some 10, .bin .add (.tmp 9) (.const (.int .i64 1)), [], none⟩,
  ⟨some 4, .copy true (.tmp 10), [], none⟩]
def F45r5 : List ROp := [⟨some 11, .copy true (.tmp 3), [], none⟩,
  ⟨some 12, .copy false (.tmp 0), [], none⟩,
  ⟨some 13, .copy false (.tmp 4), [], none⟩,
  ⟨some 14, .iad 3 (.tmp 12) (.tmp 13), [1, 2], none⟩,
  ⟨some 15, .fad 0 (.tmp 14), [3], none⟩,
  ⟨some 16, .fad 0 (.tmp 15), [4], none⟩,
  ⟨some 17, .load 1 false false (.tmp 16), [5], none⟩,
  ⟨some 18, .copy false (.tmp 0), [], none⟩,
  ⟨some 19, .copy false (.tmp 4), [], none⟩,
  ⟨some 20, .iad 3 (.tmp 18) (.tmp 19), [7, 8], none⟩,
  ⟨some 21, .fad 0 (.tmp 20), [9], none⟩,
  ⟨some 22, .fad 1 (.tmp 21), [10], none⟩,
  ⟨some 23, .load 1 false false (.tmp 22), [11], none⟩,
  ⟨some 24, .call (.func 88) [.tmp 23], [12], none⟩,
  ⟨some 25, .build [Value.string ByteArray.empty, Value.slice none 0 0] [(0, 1, .tmp 17), (1, 1, .tmp 24)], [6, 13], none⟩,
  ⟨some 26, .copy false (.tmp 0), [], none⟩,
  ⟨some 27, .copy false (.tmp 4), [], none⟩,
  ⟨some 28, .iad 3 (.tmp 26) (.tmp 27), [15, 16], none⟩,
  ⟨some 29, .fad 2 (.tmp 28), [17], none⟩,
  ⟨some 30, .load 1 false false (.tmp 29), [18], none⟩,
  ⟨some 31, .build [Value.string ByteArray.empty, Value.slice none 0 0, Value.int .i64 0] [(0, 2, .tmp 25), (2, 1, .tmp 30)], [14, 19], none⟩,
  ⟨some 32, .bslice 67 3 [Value.string ByteArray.empty, Value.slice none 0 0, Value.int .i64 0] 1 [(0, .tmp 31)], [20], none⟩,
  ⟨some 33, .app 67 3 48 (.tmp 11) (.tmp 32), [0, 21, 13], none⟩,
  ⟨some 3, .copy true (.tmp 33), [22, 22, 0, 1, 2, 3, 4, 5, 6, 7, 8, 9, 10, 11, 12, 13, 14, 15, 16, 17, 18, 19, 20, 21, 22], none⟩]
def F45r6 : List ROp := [⟨some 34, .copy true (.tmp 3), [], none⟩,
  ⟨some 2, .copy true (.tmp 34), [], none⟩]
-- function 47: corollary/corollarylaw31.lists
def F47r0 : List ROp := [⟨some 2, .copy true (.const (.slice none 0 0)), [], none⟩]
def F47r1 : List ROp := [⟨some 3, .copy true (.const (.slice none 0 0)), [], none⟩]
def F47r2 : List ROp := [⟨some 4, .copy true (.const (.int .i64 0)), [], none⟩]
def F47r3 : List ROp := [⟨some 5, .copy false (.tmp 4), [], none⟩,
  ⟨some 6, .copy false (.tmp 0), [], none⟩,
  ⟨some 7, .len 0 (.tmp 6), [], none⟩,
  ⟨some 8, .bin .lss (.tmp 5) (.tmp 7), [], none⟩]
def F47r4 : List ROp := [⟨some 9, .copy false (.tmp 4), [], none⟩,
  ⟨some 10, .bin .add (.tmp 9) (.const (.int .i64 1)), [], none⟩,
  ⟨some 4, .copy true (.tmp 10), [], none⟩]
def F47r5 : List ROp := [⟨some 11, .copy true (.tmp 3), [], none⟩,
  ⟨some 12, .copy false (.tmp 0), [], none⟩,
  ⟨some 13, .copy false (.tmp 4), [], none⟩,
  ⟨some 14, .iad 1 (.tmp 12) (.tmp 13), [], none⟩,
  ⟨some 15, .load 1 false false (.tmp 14), [], none⟩,
  ⟨some 16, .call (.func 88) [.tmp 15], [], none⟩,
  ⟨some 17, .bslice 63 1 [Value.slice none 0 0] 1 [(0, .tmp 16)], [], none⟩,
  ⟨some 18, .app 63 1 24 (.tmp 11) (.tmp 17), [], none⟩,
  ⟨some 3, .copy true (.tmp 18), [], none⟩]
def F47r6 : List ROp := [⟨some 19, .copy true (.tmp 3), [], none⟩,
  ⟨some 2, .copy true (.tmp 19), [], none⟩]
-- function 113: corollary/corollaryref02.Same
def F113r0 : List ROp := [⟨some 2, .box 114 (.tmp 0), [], none⟩,
  ⟨some 3, .box 114 (.tmp 1), [], none⟩,
  ⟨some 4, .copy true (.const (.bool false)), [], none⟩]
def F113r1 : List ROp := [⟨some 5, .fad 0 (.tmp 2), [], none⟩,
  ⟨some 6, .load 1 false false (.tmp 5), [], none⟩,
  ⟨some 7, .fad 0 (.tmp 3), [], none⟩,
  ⟨some 8, .load 1 false false (.tmp 7), [], none⟩,
  ⟨some 9, .bin .eql (.tmp 6) (.tmp 8), [], none⟩,
  ⟨some 10, .copy false (.tmp 9), [], none⟩,
  ⟨some 11, .fad 1 (.tmp 2), [], some (10, true)⟩,
  ⟨some 12, .load 1 false false (.tmp 11), [], some (10, true)⟩,
  ⟨some 13, .fad 1 (.tmp 3), [], some (10, true)⟩,
  ⟨some 14, .load 1 false false (.tmp 13), [], some (10, true)⟩,
  ⟨some 15, .bin .eql (.tmp 12) (.tmp 14), [], some (10, true)⟩,
  ⟨some 16, .pick (.tmp 10) (.tmp 15) (.const (.bool false)), [], none⟩,
  ⟨some 17, .copy false (.tmp 16), [], none⟩,
  ⟨some 18, .fad 2 (.tmp 2), [], some (17, true)⟩,
  ⟨some 19, .load 1 false false (.tmp 18), [], some (17, true)⟩,
  ⟨some 20, .fad 2 (.tmp 3), [], some (17, true)⟩,
  ⟨some 21, .load 1 false false (.tmp 20), [], some (17, true)⟩,
  ⟨some 22, .bin .eql (.tmp 19) (.tmp 21), [], some (17, true)⟩,
  ⟨some 23, .pick (.tmp 17) (.tmp 22) (.const (.bool false)), [], none⟩,
  ⟨some 24, .copy false (.tmp 23), [], none⟩,
  ⟨some 25, .fad 3 (.tmp 2), [], some (24, true)⟩,
  ⟨some 26, .load 1 false false (.tmp 25), [], some (24, true)⟩,
  ⟨some 27, .fad 3 (.tmp 3), [], some (24, true)⟩,
  ⟨some 28, .load 1 false false (.tmp 27), [], some (24, true)⟩,
  ⟨some 29, .call (.func 89) [.tmp 26, .tmp 28], [], some (24, true)⟩,
  ⟨some 30, .pick (.tmp 24) (.tmp 29) (.const (.bool false)), [], none⟩,
  ⟨some 4, .copy true (.tmp 30), [], none⟩]
-- function 89: corollary/corollaryref02.SameRow
def F89r0 : List ROp := [⟨some 4, .copy true (.const (.bool false)), [], none⟩]
def F89r1 : List ROp := [⟨some 6, .copy false (.tmp 0), [], none⟩,
  ⟨some 7, .len 0 (.tmp 6), [], none⟩,
  ⟨some 8, .copy false (.tmp 1), [], none⟩,
  ⟨some 9, .len 0 (.tmp 8), [], none⟩,
  ⟨some 10, .bin .neq (.tmp 7) (.tmp 9), [], none⟩]
def F89r2 : List ROp := [⟨some 4, .copy true (.const (.bool false)), [], none⟩]
def F89r3 : List ROp := [⟨some 5, .copy true (.const (.int .i64 0)), [], none⟩]
def F89r4 : List ROp := [⟨some 11, .copy false (.tmp 5), [], none⟩,
  ⟨some 12, .copy false (.tmp 0), [], none⟩,
  ⟨some 13, .len 0 (.tmp 12), [], none⟩,
  ⟨some 14, .bin .lss (.tmp 11) (.tmp 13), [], none⟩]
def F89r5 : List ROp := [⟨some 15, .copy false (.tmp 5), [], none⟩,
  ⟨some 16, .bin .add (.tmp 15) (.const (.int .i64 1)), [], none⟩,
  ⟨some 5, .copy true (.tmp 16), [], none⟩]
def F89r6 : List ROp := [⟨some 17, .copy false (.tmp 0), [], none⟩,
  ⟨some 18, .copy false (.tmp 5), [], none⟩,
  ⟨some 19, .iad 4 (.tmp 17) (.tmp 18), [0, 1], none⟩,
  ⟨some 20, .load 4 true false (.tmp 19), [2], none⟩,
  ⟨some 21, .copy false (.tmp 1), [], none⟩,
  ⟨some 22, .copy false (.tmp 5), [], none⟩,
  ⟨some 23, .iad 4 (.tmp 21) (.tmp 22), [4, 5], none⟩,
  ⟨some 24, .load 4 true false (.tmp 23), [6], none⟩,
  ⟨some 25, .call (.func 113) [.tmp 20, .tmp 24], [3, 7], none⟩,
  ⟨some 26, .un .not (.tmp 25), [8], none⟩]
def F89r7 : List ROp := [⟨some 4, .copy true (.const (.bool false)), [], none⟩]
def F89r8 : List ROp := [⟨some 4, .copy true (.const (.bool true)), [], none⟩]
-- function 46: corollary/corollaryref02.SameRows
def F46r0 : List ROp := [⟨some 4, .copy true (.const (.bool false)), [], none⟩]
def F46r1 : List ROp := [⟨some 6, .copy false (.tmp 0), [], none⟩,
  ⟨some 7, .len 0 (.tmp 6), [], none⟩,
  ⟨some 8, .copy false (.tmp 1), [], none⟩,
  ⟨some 9, .len 0 (.tmp 8), [], none⟩,
  ⟨some 10, .bin .neq (.tmp 7) (.tmp 9), [], none⟩]
def F46r2 : List ROp := [⟨some 4, .copy true (.const (.bool false)), [], none⟩]
def F46r3 : List ROp := [⟨some 5, .copy true (.const (.int .i64 0)), [], none⟩]
def F46r4 : List ROp := [⟨some 11, .copy false (.tmp 5), [], none⟩,
  ⟨some 12, .copy false (.tmp 0), [], none⟩,
  ⟨some 13, .len 0 (.tmp 12), [], none⟩,
  ⟨some 14, .bin .lss (.tmp 11) (.tmp 13), [], none⟩]
def F46r5 : List ROp := [⟨some 15, .copy false (.tmp 5), [], none⟩,
  ⟨some 16, .bin .add (.tmp 15) (.const (.int .i64 1)), [], none⟩,
  ⟨some 5, .copy true (.tmp 16), [], none⟩]
def F46r6 : List ROp := [⟨some 17, .copy false (.tmp 0), [], none⟩,
  ⟨some 18, .copy false (.tmp 5), [], none⟩,
  ⟨some 19, .iad 1 (.tmp 17) (.tmp 18), [0, 1], none⟩,
  ⟨some 20, .load 1 false false (.tmp 19), [2], none⟩,
  ⟨some 21, .copy false (.tmp 1), [], none⟩,
  ⟨some 22, .copy false (.tmp 5), [], none⟩,
  ⟨some 23, .iad 1 (.tmp 21) (.tmp 22), [4, 5], none⟩,
  ⟨some 24, .load 1 false false (.tmp 23), [6], none⟩,
  ⟨some 25, .call (.func 89) [.tmp 20, .tmp 24], [3, 7], none⟩,
  ⟨some 26, .un .not (.tmp 25), [8], none⟩]
def F46r7 : List ROp := [⟨some 4, .copy true (.const (.bool false)), [], none⟩]
def F46r8 : List ROp := [⟨some 4, .copy true (.const (.bool true)), [], none⟩]
-- function 87: corollary/corollaryref25.At
def F87r0 : List ROp := [⟨some 3, .box 65 (.tmp 1), [], none⟩,
  ⟨some 4, .copy true (.const (.int .i64 0)), [], none⟩]
def F87r1 : List ROp := [⟨some 5, .copy true (.const (.int .i64 0)), [], none⟩]
def F87r2 : List ROp := [⟨some 6, .copy false (.tmp 5), [], none⟩,
  ⟨some 7, .copy false (.tmp 0), [], none⟩,
  ⟨some 8, .len 0 (.tmp 7), [], none⟩,
  ⟨some 9, .bin .lss (.tmp 6) (.tmp 8), [], none⟩]
def F87r3 : List ROp := [⟨some 10, .copy false (.tmp 5), [], none⟩,
  ⟨some 11, .bin .add (.tmp 10) (.const (.int .i64 1)), [], none⟩,
  ⟨some 5, .copy true (.tmp 11), [], none⟩]
def F87r4 : List ROp := [⟨some 12, .copy false (.tmp 0), [], none⟩,
  ⟨some 13, .copy false (.tmp 5), [], none⟩,
  ⟨some 14, .iad 2 (.tmp 12) (.tmp 13), [0, 1], none⟩,
  ⟨some 15, .fad 0 (.tmp 14), [2], none⟩,
  ⟨some 16, .load 1 false false (.tmp 15), [3], none⟩,
  ⟨some 17, .fad 0 (.tmp 3), [], none⟩,
  ⟨some 18, .load 1 false false (.tmp 17), [5], none⟩,
  ⟨some 19, .bin .eql (.tmp 16) (.tmp 18), [4, 6], none⟩,
  ⟨some 20, .copy false (.tmp 19), [7], none⟩,
  ⟨some 21, .copy false (.tmp 0), [8], some (20, true)⟩,
  ⟨some 22, .copy false (.tmp 5), [8], some (20, true)⟩,
  ⟨some 23, .iad 2 (.tmp 21) (.tmp 22), [9, 10, 8], some (20, true)⟩,
  ⟨some 24, .fad 1 (.tmp 23), [11, 8], some (20, true)⟩,
  ⟨some 25, .load 1 false false (.tmp 24), [12, 8], some (20, true)⟩,
  ⟨some 26, .fad 1 (.tmp 3), [8], some (20, true)⟩,
  ⟨some 27, .load 1 false false (.tmp 26), [14, 8], some (20, true)⟩,
  ⟨some 28, .call (.func 89) [.tmp 25, .tmp 27], [13, 15, 8, 8], some (20, true)⟩,
  ⟨some 29, .pick (.tmp 20) (.tmp 28) (.const (.bool false)), [8, 16], none⟩]
def F87r5 : List ROp := [⟨some 30, .copy true (.tmp 5), [], none⟩,
  ⟨some 4, .copy true (.tmp 30), [], none⟩]
def F87r6 : List ROp := [⟨some 4, .copy true (.const (.int .i64 (-1))), [], none⟩]
-- function 44: corollary/corollaryref25.Same
def F44r0 : List ROp := [⟨some 4, .copy true (.const (.bool false)), [], none⟩]
def F44r1 : List ROp := [⟨some 6, .copy false (.tmp 0), [], none⟩,
  ⟨some 7, .len 0 (.tmp 6), [], none⟩,
  ⟨some 8, .copy false (.tmp 1), [], none⟩,
  ⟨some 9, .len 0 (.tmp 8), [], none⟩,
  ⟨some 10, .bin .neq (.tmp 7) (.tmp 9), [], none⟩]
def F44r2 : List ROp := [⟨some 4, .copy true (.const (.bool false)), [], none⟩]
def F44r3 : List ROp := [⟨some 5, .copy true (.const (.int .i64 0)), [], none⟩]
def F44r4 : List ROp := [⟨some 11, .copy false (.tmp 5), [], none⟩,
  ⟨some 12, .copy false (.tmp 0), [], none⟩,
  ⟨some 13, .len 0 (.tmp 12), [], none⟩,
  ⟨some 14, .bin .lss (.tmp 11) (.tmp 13), [], none⟩]
def F44r5 : List ROp := [⟨some 15, .copy false (.tmp 5), [], none⟩,
  ⟨some 16, .bin .add (.tmp 15) (.const (.int .i64 1)), [], none⟩,
  ⟨some 5, .copy true (.tmp 16), [], none⟩]
def F44r6 : List ROp := [⟨some 17, .copy false (.tmp 0), [], none⟩,
  ⟨some 18, .copy false (.tmp 5), [], none⟩,
  ⟨some 19, .iad 3 (.tmp 17) (.tmp 18), [0, 1], none⟩,
  ⟨some 20, .fad 2 (.tmp 19), [2], none⟩,
  ⟨some 21, .load 1 false false (.tmp 20), [3], none⟩,
  ⟨some 22, .copy false (.tmp 1), [], none⟩,
  ⟨some 23, .copy false (.tmp 5), [], none⟩,
  ⟨some 24, .iad 3 (.tmp 22) (.tmp 23), [5, 6], none⟩,
  ⟨some 25, .fad 2 (.tmp 24), [7], none⟩,
  ⟨some 26, .load 1 false false (.tmp 25), [8], none⟩,
  ⟨some 27, .bin .neq (.tmp 21) (.tmp 26), [4, 9], none⟩,
  ⟨some 28, .copy false (.tmp 27), [10], none⟩,
  ⟨some 29, .copy false (.tmp 0), [11], some (28, false)⟩,
  ⟨some 30, .copy false (.tmp 5), [11], some (28, false)⟩,
  ⟨some 31, .iad 3 (.tmp 29) (.tmp 30), [12, 13, 11], some (28, false)⟩,
  ⟨some 32, .fad 0 (.tmp 31), [14, 11], some (28, false)⟩,
  ⟨some 33, .load 2 true false (.tmp 32), [15, 11], some (28, false)⟩,
  ⟨some 34, .bslice 65 2 [Value.string ByteArray.empty, Value.slice none 0 0] 1 [(0, .tmp 33)], [16, 11], some (28, false)⟩,
  ⟨some 35, .copy false (.tmp 1), [11], some (28, false)⟩,
  ⟨some 36, .copy false (.tmp 5), [11], some (28, false)⟩,
  ⟨some 37, .iad 3 (.tmp 35) (.tmp 36), [18, 19, 11], some (28, false)⟩,
  ⟨some 38, .fad 0 (.tmp 37), [20, 11], some (28, false)⟩,
  ⟨some 39, .load 2 true false (.tmp 38), [21, 11], some (28, false)⟩,
  ⟨some 40, .call (.func 87) [.tmp 34, .tmp 39], [17, 22, 11, 11], some (28, false)⟩,
  ⟨some 41, .bin .neq (.tmp 40) (.const (.int .i64 0)), [23, 11], some (28, false)⟩,
  ⟨some 42, .pick (.tmp 28) (.const (.bool true)) (.tmp 41), [11, 24], none⟩]
def F44r7 : List ROp := [⟨some 4, .copy true (.const (.bool false)), [], none⟩]
def F44r8 : List ROp := [⟨some 4, .copy true (.const (.bool true)), [], none⟩]
attribute [local simp] valX encV_eq
theorem mtake {α β : Type} (f : α → β) (l : List α) (k : Nat) (h : k < l.length) : (l.map f).take (k + 1) = (l.map f).take k ++ [f l[k]] := by
  rw [← List.map_take, List.take_succ_eq_append_getElem h, List.map_append, ← List.map_take]; rfl
theorem mtake_all {α β : Type} (f : α → β) (l : List α) (k : Nat) (h : ¬ k < l.length) : (l.map f).take k = l.map f := List.take_of_length_le (by simp; omega)
theorem values_ok : ∀ (n : Nat) (l : List ValD), vsizes l < n → vsizes l ≤ 4194304 → Con Tryz.prog 49 [encRow l] (ival (valuesN l)) := by
  intro n
  induction n with
  | zero => intro l h; omega
  | succ n ih =>
    intro l hn hl
    have hlen := vsizes_len l
    have hle := valuesN_le l
    refine Con.of_code Tryz.func49 (by kernel_rfl) rfl (by simp [Tryz.ntmps49]) fun C hC hM => ?_
    refine AWp.seq ?_
    refine AWp.regK [0] [true] F49r0 [] (by kernel_rfl) (by rw [hC]; rfl) fun K hK => ?_
    simp (maxSteps := 2000000) [F49r0]
    refine hK _ ?_
    refine AWp.seq ?_
    refine AWp.regK [0, 3] [false, false, true] F49r1 [] (by kernel_rfl) (by rw [hC]; rfl) fun K hK => ?_
    simp (maxSteps := 2000000) [F49r1]
    refine hK _ ?_
    refine AWp.seq ?_
    refine AWp.seq ?_
    refine AWp.regK [0, 3, 4] [true] F49r2 [] (by kernel_rfl) (by rw [hC]; rfl) fun K hK => ?_
    simp (maxSteps := 2000000) [F49r2]
    refine hK _ ?_
    refine AWp.block ?_
    refine AWp.loopG (fun x : Nat × Nat => { tm := [(0, encRow l), (3, ival x.2), (4, ival x.1)], hp := [] }) (fun x => x.1 ≤ l.length ∧ valuesN l = vNs (l.drop x.1) x.2) (fun x => l.length - x.1) (0, l.length) ⟨by omega, by simp [valuesN]⟩ (by simp) (fun x hk => ?_)
    obtain ⟨k, m⟩ := x
    obtain ⟨hk1, hk2⟩ := hk
    simp only at hk1 hk2
    have hge := vNs_ge (l.drop k) m
    refine AWp.seq ?_
    refine AWp.seq ?_
    refine AWp.regK [0, 3, 4, 14] [] F49r3 [] (by kernel_rfl) (by rw [hC]; rfl) fun K hK => ?_
    simp (maxSteps := 2000000) [F49r3]
    (repeat refine ⟨by first | omega | (intros; omega) | assumption, ?_⟩); refine hK _ ?_
    refine AWp.cond _ (by rfl) (fun hlt => ?_) (fun hlt => ?_)
    · skip
      have hlt2 : k < l.length ∧ m < 3000 := by simp at hlt; omega
      clear hlt
      obtain ⟨hlt, hm3⟩ := hlt2
      have hd := vNs_drop l k m hlt
      rw [if_pos hm3, vN_eq] at hd
      have hm := vsize_mem (List.getElem_mem hlt)
      have hsz := vsize_eq l[k]
      have hc := ih l[k].l (by omega) (by omega)
      have hcl := valuesN_le l[k].l
      have hw1 : IntKind.i64.wrap ((l[k].s.size : Int) / 64) = ((l[k].s.size / 64 : Nat) : Int) := by rw [wrap_in (by omega) (by omega)]; omega
      refine AWp.skip ?_
      refine AWp.seq ?_
      refine AWp.block ?_
      refine AWp.regKL ops_mixed [[], [], [], [1, 2], [1, 2, 3], [1, 2, 3, 4], [1, 2, 3, 4, 5], [1, 2, 3, 4, 5, 6], [0, 1, 2, 3, 4, 5, 6, 7], [], [], [9, 10], [9, 10, 11], [9, 10, 11, 12], [9, 10, 11, 12, 13], [0, 1, 2, 3, 4, 5, 6, 7, 8, 9, 10, 11, 12, 13, 14], [0, 1, 2, 3, 4, 5, 6, 7, 8, 9, 10, 11, 12, 13, 14, 15]] [0, 3, 4] [false, false, false, false, false, false, false, false, false, false, false, false, false, false, false, false, true] F49r5 [{ r := ival (valuesN l[k].l) }] (by kernel_rfl) (by rw [hC]; rfl) (by kernel_rfl) (by kernel_rfl) fun K hK => ?_
      simp (maxSteps := 2000000) [F49r5, hlt, hw1]
      (repeat first | refine ⟨by first | (show freeP _ _ _ = true; kernel_rfl) | omega | (intros; omega) | assumption, ?_⟩ | refine ⟨by intros; exact callOK rfl hc, ?_⟩); refine hK _ ?_
      refine AWp.regK [0, 3, 4] [false, false, true] F49r4 [] (by kernel_rfl) (by rw [hC]; rfl) fun K hK => ?_
      simp (maxSteps := 2000000) [F49r4]
      (repeat refine ⟨by first | omega | (intros; omega) | assumption, ?_⟩); refine hK _ ?_
      refine ⟨(k + 1, m + l[k].s.size / 64 + valuesN l[k].l), ⟨by simp; omega, by rw [hk2, hd]; simp [valuesN, Nat.add_assoc]⟩, by simp; omega, ?_⟩
      have hw2 : IntKind.i64.wrap ((m : Int) + (l[k].s.size : Int) / 64) = ((m + l[k].s.size / 64 : Nat) : Int) := by rw [wrap_in (by omega) (by omega)]; omega
      have hw3 : IntKind.i64.wrap (((m + l[k].s.size / 64 : Nat) : Int) + (valuesN l[k].l : Int)) = ((m + l[k].s.size / 64 + valuesN l[k].l : Nat) : Int) := by rw [wrap_in (by omega) (by omega)]; omega
      simp only [hw2, hw3]
      simp [wrap_nat k (by omega)]
    refine AWp.exit ?_
    refine AWp.seq ?_
    refine AWp.regK [2] [true, true] F49r6 [] (by kernel_rfl) (by rw [hC]; rfl) fun K hK => ?_
    simp (maxSteps := 2000000) [F49r6]
    refine hK _ ?_
    repeat refine AWp.seq ?_
    refine AWp.ret ⟨.inr rfl, _, by simp [Tryz.results49] <;> rfl, ?_⟩
    refine .clos ?_ rfl
    rw [hk2]
    by_cases h : k < l.length
    · rw [vNs_drop l k m h, if_neg (by simp [h] at hlt; omega)]; rfl
    · rw [List.drop_eq_nil_of_le (by omega)]; rfl
theorem Own_ok : ∀ (n : Nat) (l : List ValD), vsizes l < n → vsizes l ≤ 4194304 → Con Tryz.prog 88 [encRow l] (encRow l) := by
  intro n
  induction n with
  | zero => intro l h; omega
  | succ n ih =>
    intro l hn hl
    have hlen := vsizes_len l
    refine Con.of_code Tryz.func88 (by kernel_rfl) rfl (by simp [Tryz.ntmps88]) fun C hC hM => ?_
    refine AWp.seq ?_
    refine AWp.regK [0] [true] F88r0 [] (by kernel_rfl) (by rw [hC]; rfl) fun K hK => ?_
    simp (maxSteps := 2000000) [F88r0]
    refine hK _ ?_
    refine AWp.seq ?_
    refine AWp.regK [0, 3] [true] F88r1 [] (by kernel_rfl) (by rw [hC]; rfl) fun K hK => ?_
    simp (maxSteps := 2000000) [F88r1]
    refine hK _ ?_
    refine AWp.seq ?_
    refine AWp.seq ?_
    refine AWp.regK [0, 3, 4] [true] F88r2 [] (by kernel_rfl) (by rw [hC]; rfl) fun K hK => ?_
    simp (maxSteps := 2000000) [F88r2]
    refine hK _ ?_
    refine AWp.block ?_
    refine AWp.loopG (fun k : Nat => { tm := [(0, encRow l), (3, .own 114 4 ((l.map encV).take k)), (4, ival k)], hp := [] }) (fun k => k ≤ l.length) (fun k => l.length - k) 0 (by omega) (by simp) (fun k hk => ?_)
    refine AWp.seq ?_
    refine AWp.seq ?_
    refine AWp.regK [0, 3, 4, 9] [] F88r3 [] (by kernel_rfl) (by rw [hC]; rfl) fun K hK => ?_
    simp (maxSteps := 2000000) [F88r3]
    refine hK _ ?_
    refine AWp.cond _ (by rfl) (fun hlt => ?_) (fun hge => ?_)
    · skip
      have hlt : k < l.length := by simpa using hlt
      have hm := vsize_mem (List.getElem_mem hlt)
      have hsz := vsize_eq l[k]
      have hc := ih l[k].l (by omega) (by omega)
      refine AWp.skip ?_
      refine AWp.seq ?_
      refine AWp.block ?_
      refine AWp.seq ?_
      refine AWp.regK [0, 3, 4, 5] [false, false, false, false, false, true] F88r5 [] (by kernel_rfl) (by rw [hC]; rfl) fun K hK => ?_
      simp (maxSteps := 2000000) [F88r5, hlt]
      (repeat refine ⟨by first | omega | (intros; omega) | assumption, ?_⟩); refine hK _ ?_
      refine AWp.seq ?_
      refine AWp.regK [0, 3, 4, 5] [false, false, false, false, true] F88r6 [{ r := encRow l[k].l }] (by kernel_rfl) (by rw [hC]; rfl) fun K hK => ?_
      simp (maxSteps := 2000000) [F88r6, hlt]
      (repeat first | refine ⟨by first | (show freeP _ _ _ = true; kernel_rfl) | omega | (intros; omega) | assumption, ?_⟩ | refine ⟨by intros; exact callOK rfl hc, ?_⟩); refine hK _ ?_
      have hln : (List.take k (List.map encV l)).length ≤ 4194304 := by rw [List.length_take]; omega
      refine AWp.regK [0, 3, 4] [true, false, false, false, true] F88r7 [] (by kernel_rfl) (by rw [hC]; rfl) fun K hK => ?_
      simp (maxSteps := 2000000) [F88r7]
      (repeat refine ⟨by first | omega | (intros; omega) | assumption, ?_⟩); refine hK _ ?_
      refine AWp.regK [0, 3, 4] [false, false, true] F88r4 [] (by kernel_rfl) (by rw [hC]; rfl) fun K hK => ?_
      simp (maxSteps := 2000000) [F88r4]
      (repeat refine ⟨by first | omega | (intros; omega) | assumption, ?_⟩); refine hK _ ?_
      refine ⟨k + 1, by omega, by omega, ?_⟩
      rw [mtake encV l k hlt]
      generalize List.take k (List.map encV l) = cur
      simp [wrap_nat k (by omega)]
    have hge : ¬ k < l.length := by simpa using hge
    refine AWp.exit ?_
    refine AWp.seq ?_
    refine AWp.regK [2] [true, true] F88r8 [] (by kernel_rfl) (by rw [hC]; rfl) fun K hK => ?_
    simp (maxSteps := 2000000) [F88r8]
    refine hK _ ?_
    repeat refine AWp.seq ?_
    refine AWp.ret ⟨.inr rfl, _, by simp [Tryz.results88] <;> rfl, ?_⟩
    rw [mtake_all encV l k hge]
    exact .own
theorem Own'_ok (l : List ValD) (hl : vsizes l ≤ 4194304) : Con Tryz.prog 88 [encRow l] (encRow l) := Own_ok _ l (Nat.lt_succ_self _) hl
theorem values'_ok (l : List ValD) (hl : vsizes l ≤ 4194304) : Con Tryz.prog 49 [encRow l] (ival (valuesN l)) := values_ok _ l (Nat.lt_succ_self _) hl
theorem changes_ok (l : List ChgD) (hl : csizes l ≤ 4194304) : Con Tryz.prog 48 [.rd 3 (l.map encC)] (ival (changesN l)) := by
  have hlen := csizes_len l
  have hle := changesN_le l
  refine Con.of_code Tryz.func48 (by kernel_rfl) rfl (by simp [Tryz.ntmps48]) fun C hC hM => ?_
  refine AWp.seq ?_
  refine AWp.regK [0] [true] F48r0 [] (by kernel_rfl) (by rw [hC]; rfl) fun K hK => ?_
  simp (maxSteps := 2000000) [F48r0]
  refine hK _ ?_
  refine AWp.seq ?_
  refine AWp.regK [0, 3] [false, false, true] F48r1 [] (by kernel_rfl) (by rw [hC]; rfl) fun K hK => ?_
  simp (maxSteps := 2000000) [F48r1]
  refine hK _ ?_
  refine AWp.seq ?_
  refine AWp.seq ?_
  refine AWp.regK [0, 3, 4] [true] F48r2 [] (by kernel_rfl) (by rw [hC]; rfl) fun K hK => ?_
  simp (maxSteps := 2000000) [F48r2]
  refine hK _ ?_
  refine AWp.block ?_
  refine AWp.loopG (fun x : Nat × Nat => { tm := [(0, .rd 3 (l.map encC)), (3, ival x.2), (4, ival x.1)], hp := [] }) (fun x => x.1 ≤ l.length ∧ changesN l = cNs (l.drop x.1) x.2) (fun x => l.length - x.1) (0, l.length) ⟨by omega, by simp [changesN]⟩ (by simp) (fun x hk => ?_)
  obtain ⟨k, m⟩ := x
  obtain ⟨hk1, hk2⟩ := hk
  simp only at hk1 hk2
  have hge := cNs_ge (l.drop k) m
  refine AWp.seq ?_
  refine AWp.seq ?_
  refine AWp.regK [0, 3, 4, 14] [] F48r3 [] (by kernel_rfl) (by rw [hC]; rfl) fun K hK => ?_
  simp (maxSteps := 2000000) [F48r3]
  (repeat refine ⟨by first | omega | (intros; omega) | assumption, ?_⟩); refine hK _ ?_
  refine AWp.cond _ (by rfl) (fun hlt => ?_) (fun hlt => ?_)
  · skip
    have hlt2 : k < l.length ∧ m < 3000 := by simp at hlt; omega
    clear hlt
    obtain ⟨hlt, hm3⟩ := hlt2
    have hd := cNs_drop l k m hlt
    rw [if_pos hm3] at hd
    have hm := csize_mem (List.getElem_mem hlt)
    have hsz : csize l[k] = 1 + l[k].rel.size + vsizes l[k].l := rfl
    have hc := values'_ok l[k].l (by omega)
    have hcl := valuesN_le l[k].l
    have hw1 : IntKind.i64.wrap ((l[k].rel.size : Int) / 64) = ((l[k].rel.size / 64 : Nat) : Int) := by rw [wrap_in (by omega) (by omega)]; omega
    refine AWp.skip ?_
    refine AWp.seq ?_
    refine AWp.block ?_
    refine AWp.regKL ops_mixed [[], [], [], [1, 2], [1, 2, 3], [1, 2, 3, 4], [1, 2, 3, 4, 5], [1, 2, 3, 4, 5, 6], [0, 1, 2, 3, 4, 5, 6, 7], [], [], [9, 10], [9, 10, 11], [9, 10, 11, 12], [9, 10, 11, 12, 13], [9, 10, 11, 12, 13, 14], [9, 10, 11, 12, 13, 14, 15], [0, 1, 2, 3, 4, 5, 6, 7, 8, 9, 10, 11, 12, 13, 14, 15, 16], [0, 1, 2, 3, 4, 5, 6, 7, 8, 9, 10, 11, 12, 13, 14, 15, 16, 17]] [0, 3, 4] [false, false, false, false, false, false, false, false, false, false, false, false, false, false, false, false, false, false, true] F48r5 [{ r := ival (valuesN l[k].l) }] (by kernel_rfl) (by rw [hC]; rfl) (by kernel_rfl) (by kernel_rfl) fun K hK => ?_
    simp (maxSteps := 2000000) [F48r5, hlt, hw1]
    (repeat first | refine ⟨by first | (show freeP _ _ _ = true; kernel_rfl) | omega | (intros; omega) | assumption, ?_⟩ | refine ⟨by intros; exact callOK rfl hc, ?_⟩); refine hK _ ?_
    refine AWp.regK [0, 3, 4] [false, false, true] F48r4 [] (by kernel_rfl) (by rw [hC]; rfl) fun K hK => ?_
    simp (maxSteps := 2000000) [F48r4]
    (repeat refine ⟨by first | omega | (intros; omega) | assumption, ?_⟩); refine hK _ ?_
    refine ⟨(k + 1, m + valuesN l[k].l + l[k].rel.size / 64), ⟨by simp; omega, by rw [hk2, hd]⟩, by simp; omega, ?_⟩
    have hw2 : IntKind.i64.wrap ((m : Int) + (valuesN l[k].l : Int)) = ((m + valuesN l[k].l : Nat) : Int) := by rw [wrap_in (by omega) (by omega)]; omega
    have hw3 : IntKind.i64.wrap (((m + valuesN l[k].l : Nat) : Int) + (l[k].rel.size : Int) / 64) = ((m + valuesN l[k].l + l[k].rel.size / 64 : Nat) : Int) := by rw [wrap_in (by omega) (by omega)]; omega
    simp only [hw2, hw3]
    simp [wrap_nat k (by omega)]
  refine AWp.exit ?_
  refine AWp.seq ?_
  refine AWp.regK [2] [true, true] F48r6 [] (by kernel_rfl) (by rw [hC]; rfl) fun K hK => ?_
  simp (maxSteps := 2000000) [F48r6]
  refine hK _ ?_
  repeat refine AWp.seq ?_
  refine AWp.ret ⟨.inr rfl, _, by simp [Tryz.results48] <;> rfl, ?_⟩
  refine .clos ?_ rfl
  rw [hk2]
  by_cases h : k < l.length
  · rw [cNs_drop l k m h, if_neg (by simp [h] at hlt; omega)]; rfl
  · rw [List.drop_eq_nil_of_le (by omega)]; rfl
theorem long_ok (l : List ByteArray) (hl : tsizes l ≤ 4194304) : Con Tryz.prog 50 [.rd 1 (l.map encT)] (ival (tNs l l.length)) := by
  have hlen := tsizes_len l
  have hle := tNs_le l l.length
  refine Con.of_code Tryz.func50 (by kernel_rfl) rfl (by simp [Tryz.ntmps50]) fun C hC hM => ?_
  refine AWp.seq ?_
  refine AWp.regK [0] [true] F50r0 [] (by kernel_rfl) (by rw [hC]; rfl) fun K hK => ?_
  simp (maxSteps := 2000000) [F50r0]
  refine hK _ ?_
  refine AWp.seq ?_
  refine AWp.regK [0, 3] [false, false, true] F50r1 [] (by kernel_rfl) (by rw [hC]; rfl) fun K hK => ?_
  simp (maxSteps := 2000000) [F50r1]
  refine hK _ ?_
  refine AWp.seq ?_
  refine AWp.seq ?_
  refine AWp.regK [0, 3, 4] [true] F50r2 [] (by kernel_rfl) (by rw [hC]; rfl) fun K hK => ?_
  simp (maxSteps := 2000000) [F50r2]
  refine hK _ ?_
  refine AWp.block ?_
  refine AWp.loopG (fun x : Nat × Nat => { tm := [(0, .rd 1 (l.map encT)), (3, ival x.2), (4, ival x.1)], hp := [] }) (fun x => x.1 ≤ l.length ∧ tNs l l.length = tNs (l.drop x.1) x.2) (fun x => l.length - x.1) (0, l.length) ⟨by omega, by simp⟩ (by simp) (fun x hk => ?_)
  obtain ⟨k, m⟩ := x
  obtain ⟨hk1, hk2⟩ := hk
  simp only at hk1 hk2
  have hge := tNs_ge (l.drop k) m
  refine AWp.seq ?_
  refine AWp.seq ?_
  refine AWp.regK [0, 3, 4, 14] [] F50r3 [] (by kernel_rfl) (by rw [hC]; rfl) fun K hK => ?_
  simp (maxSteps := 2000000) [F50r3]
  (repeat refine ⟨by first | omega | (intros; omega) | assumption, ?_⟩); refine hK _ ?_
  refine AWp.cond _ (by rfl) (fun hlt => ?_) (fun hlt => ?_)
  · skip
    have hlt2 : k < l.length ∧ m < 400000 := by simp at hlt; omega
    clear hlt
    obtain ⟨hlt, hm3⟩ := hlt2
    have hd := tNs_drop l k m hlt
    rw [if_pos hm3] at hd
    have hm := tsize_mem (List.getElem_mem hlt)
    refine AWp.skip ?_
    refine AWp.seq ?_
    refine AWp.block ?_
    refine AWp.regK [0, 3, 4] [false, false, false, false, false, false, false, false, true] F50r5 [] (by kernel_rfl) (by rw [hC]; rfl) fun K hK => ?_
    simp (maxSteps := 2000000) [F50r5, hlt]
    (repeat refine ⟨by first | omega | (intros; omega) | assumption, ?_⟩); refine hK _ ?_
    refine AWp.regK [0, 3, 4] [false, false, true] F50r4 [] (by kernel_rfl) (by rw [hC]; rfl) fun K hK => ?_
    simp (maxSteps := 2000000) [F50r4, hlt]
    (repeat refine ⟨by first | omega | (intros; omega) | assumption, ?_⟩); refine hK _ ?_
    refine ⟨(k + 1, m + min l[k].size 200000), ⟨by simp; omega, by rw [hk2, hd]⟩, by simp; omega, ?_⟩
    simp [wrap_nat k (by omega)]
    rw [wrap_in (by omega) (by omega)]
    omega
  refine AWp.exit ?_
  refine AWp.seq ?_
  refine AWp.regK [2] [true, true] F50r6 [] (by kernel_rfl) (by rw [hC]; rfl) fun K hK => ?_
  simp (maxSteps := 2000000) [F50r6]
  refine hK _ ?_
  repeat refine AWp.seq ?_
  refine AWp.ret ⟨.inr rfl, _, by simp [Tryz.results50] <;> rfl, ?_⟩
  refine .clos ?_ rfl
  rw [hk2]
  by_cases h : k < l.length
  · rw [tNs_drop l k m h, if_neg (by simp [h] at hlt; omega)]; rfl
  · rw [List.drop_eq_nil_of_le (by omega)]; rfl
theorem given_ok (l : List ChgD) (hl : csizes l ≤ 4194304) : Con Tryz.prog 45 [.rd 3 (l.map encC)] (.rd 3 (l.map encC)) := by
  have hlen := csizes_len l
  refine Con.of_code Tryz.func45 (by kernel_rfl) rfl (by simp [Tryz.ntmps45]) fun C hC hM => ?_
  refine AWp.seq ?_
  refine AWp.regK [0] [true] F45r0 [] (by kernel_rfl) (by rw [hC]; rfl) fun K hK => ?_
  simp (maxSteps := 2000000) [F45r0]
  refine hK _ ?_
  refine AWp.seq ?_
  refine AWp.regK [0, 3] [true] F45r1 [] (by kernel_rfl) (by rw [hC]; rfl) fun K hK => ?_
  simp (maxSteps := 2000000) [F45r1]
  refine hK _ ?_
  refine AWp.seq ?_
  refine AWp.seq ?_
  refine AWp.regK [0, 3, 4] [true] F45r2 [] (by kernel_rfl) (by rw [hC]; rfl) fun K hK => ?_
  simp (maxSteps := 2000000) [F45r2]
  refine hK _ ?_
  refine AWp.block ?_
  refine AWp.loopG (fun k : Nat => { tm := [(0, .rd 3 (l.map encC)), (3, .own 67 3 ((l.map encC).take k)), (4, ival k)], hp := [] }) (fun k => k ≤ l.length) (fun k => l.length - k) 0 (by omega) (by simp) (fun k hk => ?_)
  refine AWp.seq ?_
  refine AWp.seq ?_
  refine AWp.regK [0, 3, 4, 8] [] F45r3 [] (by kernel_rfl) (by rw [hC]; rfl) fun K hK => ?_
  simp (maxSteps := 2000000) [F45r3]
  refine hK _ ?_
  refine AWp.cond _ (by rfl) (fun hlt => ?_) (fun hge => ?_)
  · skip
    have hlt : k < l.length := by simpa using hlt
    have hm := csize_mem (List.getElem_mem hlt)
    have hsz : csize l[k] = 1 + l[k].rel.size + vsizes l[k].l := rfl
    have hc := Own'_ok l[k].l (by omega)
    have hln : (List.take k (List.map encC l)).length ≤ 4194304 := by rw [List.length_take]; omega
    refine AWp.skip ?_
    refine AWp.seq ?_
    refine AWp.block ?_
    refine AWp.regKL ops_mixed [[], [], [], [1, 2], [1, 2, 3], [1, 2, 3, 4], [1, 2, 3, 4, 5], [], [], [7, 8], [7, 8, 9], [7, 8, 9, 10], [7, 8, 9, 10, 11], [7, 8, 9, 10, 11, 12], [1, 2, 3, 4, 5, 6, 7, 8, 9, 10, 11, 12, 13], [], [], [15, 16], [15, 16, 17], [15, 16, 17, 18], [1, 2, 3, 4, 5, 6, 7, 8, 9, 10, 11, 12, 13, 14, 15, 16, 17, 18, 19], [1, 2, 3, 4, 5, 6, 7, 8, 9, 10, 11, 12, 13, 14, 15, 16, 17, 18, 19, 20], [0, 1, 2, 3, 4, 5, 6, 7, 8, 9, 10, 11, 12, 13, 14, 15, 16, 17, 18, 19, 20, 21], [0, 1, 2, 3, 4, 5, 6, 7, 8, 9, 10, 11, 12, 13, 14, 15, 16, 17, 18, 19, 20, 21, 22]] [0, 3, 4] [true, false, false, false, false, false, false, false, false, false, false, false, false, false, false, false, false, false, false, false, false, false, false, true] F45r5 [{ r := encRow l[k].l }] (by kernel_rfl) (by rw [hC]; rfl) (by kernel_rfl) (by kernel_rfl) fun K hK => ?_
    simp (maxSteps := 2000000) [F45r5, hlt]
    (repeat first | refine ⟨by first | (show freeP _ _ _ = true; kernel_rfl) | omega | (intros; omega) | assumption, ?_⟩ | refine ⟨by intros; exact callOK rfl hc, ?_⟩); refine hK _ ?_
    refine AWp.regK [0, 3, 4] [false, false, true] F45r4 [] (by kernel_rfl) (by rw [hC]; rfl) fun K hK => ?_
    simp (maxSteps := 2000000) [F45r4]
    (repeat refine ⟨by first | omega | (intros; omega) | assumption, ?_⟩); refine hK _ ?_
    refine ⟨k + 1, by omega, by omega, ?_⟩
    rw [mtake encC l k hlt]
    generalize List.take k (List.map encC l) = cur
    simp [wrap_nat k (by omega)]
  have hge : ¬ k < l.length := by simpa using hge
  refine AWp.exit ?_
  refine AWp.seq ?_
  refine AWp.regK [2] [true, true] F45r6 [] (by kernel_rfl) (by rw [hC]; rfl) fun K hK => ?_
  simp (maxSteps := 2000000) [F45r6]
  refine hK _ ?_
  repeat refine AWp.seq ?_
  refine AWp.ret ⟨.inr rfl, _, by simp [Tryz.results45] <;> rfl, ?_⟩
  rw [mtake_all encC l k hge]
  exact .own
theorem lists_ok (l : List (List ValD)) (hl : rsizes l ≤ 4194304) : Con Tryz.prog 47 [.rd 1 (l.map encL)] (.rd 1 (l.map encL)) := by
  have hlen := rsizes_len l
  refine Con.of_code Tryz.func47 (by kernel_rfl) rfl (by simp [Tryz.ntmps47]) fun C hC hM => ?_
  refine AWp.seq ?_
  refine AWp.regK [0] [true] F47r0 [] (by kernel_rfl) (by rw [hC]; rfl) fun K hK => ?_
  simp (maxSteps := 2000000) [F47r0]
  refine hK _ ?_
  refine AWp.seq ?_
  refine AWp.regK [0, 3] [true] F47r1 [] (by kernel_rfl) (by rw [hC]; rfl) fun K hK => ?_
  simp (maxSteps := 2000000) [F47r1]
  refine hK _ ?_
  refine AWp.seq ?_
  refine AWp.seq ?_
  refine AWp.regK [0, 3, 4] [true] F47r2 [] (by kernel_rfl) (by rw [hC]; rfl) fun K hK => ?_
  simp (maxSteps := 2000000) [F47r2]
  refine hK _ ?_
  refine AWp.block ?_
  refine AWp.loopG (fun k : Nat => { tm := [(0, .rd 1 (l.map encL)), (3, .own 63 1 ((l.map encL).take k)), (4, ival k)], hp := [] }) (fun k => k ≤ l.length) (fun k => l.length - k) 0 (by omega) (by simp) (fun k hk => ?_)
  refine AWp.seq ?_
  refine AWp.seq ?_
  refine AWp.regK [0, 3, 4, 8] [] F47r3 [] (by kernel_rfl) (by rw [hC]; rfl) fun K hK => ?_
  simp (maxSteps := 2000000) [F47r3]
  refine hK _ ?_
  refine AWp.cond _ (by rfl) (fun hlt => ?_) (fun hge => ?_)
  · skip
    have hlt : k < l.length := by simpa using hlt
    have hm := rsize_mem (List.getElem_mem hlt)
    have hc := Own'_ok l[k] (by omega)
    have hln : (List.take k (List.map encL l)).length ≤ 4194304 := by rw [List.length_take]; omega
    refine AWp.skip ?_
    refine AWp.seq ?_
    refine AWp.block ?_
    refine AWp.regK [0, 3, 4] [true, false, false, false, false, false, false, false, true] F47r5 [{ r := encRow l[k] }] (by kernel_rfl) (by rw [hC]; rfl) fun K hK => ?_
    simp (maxSteps := 2000000) [F47r5, hlt]
    (repeat first | refine ⟨by first | (show freeP _ _ _ = true; kernel_rfl) | omega | (intros; omega) | assumption, ?_⟩ | refine ⟨by intros; exact callOK rfl hc, ?_⟩); refine hK _ ?_
    refine AWp.regK [0, 3, 4] [false, false, true] F47r4 [] (by kernel_rfl) (by rw [hC]; rfl) fun K hK => ?_
    simp (maxSteps := 2000000) [F47r4]
    (repeat refine ⟨by first | omega | (intros; omega) | assumption, ?_⟩); refine hK _ ?_
    refine ⟨k + 1, by omega, by omega, ?_⟩
    rw [mtake encL l k hlt]
    generalize List.take k (List.map encL l) = cur
    simp [wrap_nat k (by omega)]
  have hge : ¬ k < l.length := by simpa using hge
  refine AWp.exit ?_
  refine AWp.seq ?_
  refine AWp.regK [2] [true, true] F47r6 [] (by kernel_rfl) (by rw [hC]; rfl) fun K hK => ?_
  simp (maxSteps := 2000000) [F47r6]
  refine hK _ ?_
  repeat refine AWp.seq ?_
  refine AWp.ret ⟨.inr rfl, _, by simp [Tryz.results47] <;> rfl, ?_⟩
  rw [mtake_all encL l k hge]
  exact .own
theorem SameRow_of (l : List ValD) (hl : l.length ≤ 4194304) (h : ∀ v ∈ l, Con Tryz.prog 113 [valX v, valX v] (bval true)) : Con Tryz.prog 89 [encRow l, encRow l] (bval true) := by
  refine Con.of_code Tryz.func89 (by kernel_rfl) rfl (by simp [Tryz.ntmps89]) fun C hC hM => ?_
  refine AWp.seq ?_
  refine AWp.regK [0, 1] [true] F89r0 [] (by kernel_rfl) (by rw [hC]; rfl) fun K hK => ?_
  simp (maxSteps := 2000000) [F89r0]
  refine hK _ ?_
  refine AWp.seq ?_
  refine AWp.seq ?_
  refine AWp.regK [0, 1, 10] [] F89r1 [] (by kernel_rfl) (by rw [hC]; rfl) fun K hK => ?_
  simp (maxSteps := 2000000) [F89r1]
  refine hK _ ?_
  refine AWp.cond false (by simp) (fun he => by cases he) (fun _ => ?_)
  refine AWp.skip ?_
  refine AWp.seq ?_
  refine AWp.seq ?_
  refine AWp.regK [0, 1, 5] [true] F89r3 [] (by kernel_rfl) (by rw [hC]; rfl) fun K hK => ?_
  simp (maxSteps := 2000000) [F89r3]
  refine hK _ ?_
  refine AWp.block ?_
  refine AWp.loopG (fun k : Nat => { tm := [(0, encRow l), (1, encRow l), (5, ival k)], hp := [] }) (fun k => k ≤ l.length) (fun k => l.length - k) 0 (by omega) (by simp) (fun k hk => ?_)
  refine AWp.seq ?_
  refine AWp.seq ?_
  refine AWp.regK [0, 1, 5, 14] [] F89r4 [] (by kernel_rfl) (by rw [hC]; rfl) fun K hK => ?_
  simp (maxSteps := 2000000) [F89r4]
  refine hK _ ?_
  refine AWp.cond _ (by rfl) (fun hlt => ?_) (fun hge => ?_)
  · skip
    have hlt : k < l.length := by simpa using hlt
    have hc := h l[k] (List.getElem_mem hlt)
    refine AWp.skip ?_
    refine AWp.seq ?_
    refine AWp.block ?_
    refine AWp.seq ?_
    refine AWp.regKL ops_mixed [[], [], [0, 1], [0, 1, 2], [], [], [4, 5], [4, 5, 6], [0, 1, 2, 3, 4, 5, 6, 7], [0, 1, 2, 3, 4, 5, 6, 7, 8]] [0, 1, 5, 26] [] F89r6 [{ r := bval true }] (by kernel_rfl) (by rw [hC]; rfl) (by kernel_rfl) (by kernel_rfl) fun K hK => ?_
    simp (maxSteps := 2000000) [F89r6, hlt]
    (repeat first | refine ⟨by first | (show freeP _ _ _ = true; kernel_rfl) | omega | (intros; omega) | assumption, ?_⟩ | refine ⟨by intros; exact callOK rfl hc, ?_⟩); refine hK _ ?_
    refine AWp.cond false (by simp) (fun he => by cases he) (fun _ => ?_)
    refine AWp.skip ?_
    refine AWp.regK [0, 1, 5] [false, false, true] F89r5 [] (by kernel_rfl) (by rw [hC]; rfl) fun K hK => ?_
    simp (maxSteps := 2000000) [F89r5]
    (repeat refine ⟨by first | omega | (intros; omega) | assumption, ?_⟩); refine hK _ ?_
    refine ⟨k + 1, by omega, by omega, ?_⟩
    simp [wrap_nat k (by omega)]
  refine AWp.exit ?_
  refine AWp.seq ?_
  refine AWp.regK [4] [true] F89r8 [] (by kernel_rfl) (by rw [hC]; rfl) fun K hK => ?_
  simp (maxSteps := 2000000) [F89r8]
  refine hK _ ?_
  repeat refine AWp.seq ?_
  refine AWp.ret ⟨.inr rfl, _, by simp [Tryz.results89] <;> rfl, ?_⟩
  exact .closed rfl
theorem Same_ok : ∀ (n : Nat) (v : ValD), vsize v < n → vsize v ≤ 4194304 → Con Tryz.prog 113 [valX v, valX v] (bval true) := by
  intro n
  induction n with
  | zero => intro v h; omega
  | succ n ih =>
    intro v hn hv
    have hsz := vsize_eq v
    have hlen := vsizes_len v.l
    have hc := SameRow_of v.l (by omega) fun x hx => by have := vsize_mem hx; exact ih x (by omega) (by omega)
    refine Con.of_code Tryz.func113 (by kernel_rfl) rfl (by simp [Tryz.ntmps113]) fun C hC hM => ?_
    refine AWp.seq ?_
    refine AWp.regK [2, 3] [false, false, true] F113r0 [] (by kernel_rfl) (by rw [hC]; rfl) fun K hK => ?_
    simp (maxSteps := 2000000) [F113r0]
    refine hK _ ?_
    refine AWp.seq ?_
    refine AWp.regK [4] [false, false, false, false, false, false, false, false, false, false, false, false, false, false, false, false, false, false, false, false, false, false, false, false, false, false, true] F113r1 [{ r := bval true }] (by kernel_rfl) (by rw [hC]; rfl) fun K hK => ?_
    simp (maxSteps := 2000000) [F113r1]
    (repeat first | refine ⟨by first | (show freeP _ _ _ = true; kernel_rfl) | omega | (intros; omega) | assumption, ?_⟩ | refine ⟨by intros; exact callOK rfl hc, ?_⟩); refine hK _ ?_
    repeat refine AWp.seq ?_
    refine AWp.ret ⟨.inr rfl, _, by simp [Tryz.results113] <;> rfl, ?_⟩
    exact .clos (by simp) rfl
theorem SameRow_ok (l : List ValD) (hl : vsizes l ≤ 4194304) : Con Tryz.prog 89 [encRow l, encRow l] (bval true) :=
  SameRow_of l (by have := vsizes_len l; omega) fun v hv => Same_ok _ v (Nat.lt_succ_self _) (by have := vsize_mem hv; omega)
theorem SameRows_ok (l : List (List ValD)) (hl : rsizes l ≤ 4194304) : Con Tryz.prog 46 [.rd 1 (l.map encL), .rd 1 (l.map encL)] (bval true) := by
  have hlen := rsizes_len l
  refine Con.of_code Tryz.func46 (by kernel_rfl) rfl (by simp [Tryz.ntmps46]) fun C hC hM => ?_
  refine AWp.seq ?_
  refine AWp.regK [0, 1] [true] F46r0 [] (by kernel_rfl) (by rw [hC]; rfl) fun K hK => ?_
  simp (maxSteps := 2000000) [F46r0]
  refine hK _ ?_
  refine AWp.seq ?_
  refine AWp.seq ?_
  refine AWp.regK [0, 1, 10] [] F46r1 [] (by kernel_rfl) (by rw [hC]; rfl) fun K hK => ?_
  simp (maxSteps := 2000000) [F46r1]
  refine hK _ ?_
  refine AWp.cond false (by simp) (fun he => by cases he) (fun _ => ?_)
  refine AWp.skip ?_
  refine AWp.seq ?_
  refine AWp.seq ?_
  refine AWp.regK [0, 1, 5] [true] F46r3 [] (by kernel_rfl) (by rw [hC]; rfl) fun K hK => ?_
  simp (maxSteps := 2000000) [F46r3]
  refine hK _ ?_
  refine AWp.block ?_
  refine AWp.loopG (fun k : Nat => { tm := [(0, .rd 1 (l.map encL)), (1, .rd 1 (l.map encL)), (5, ival k)], hp := [] }) (fun k => k ≤ l.length) (fun k => l.length - k) 0 (by omega) (by simp) (fun k hk => ?_)
  refine AWp.seq ?_
  refine AWp.seq ?_
  refine AWp.regK [0, 1, 5, 14] [] F46r4 [] (by kernel_rfl) (by rw [hC]; rfl) fun K hK => ?_
  simp (maxSteps := 2000000) [F46r4]
  refine hK _ ?_
  refine AWp.cond _ (by rfl) (fun hlt => ?_) (fun hge => ?_)
  · skip
    have hlt : k < l.length := by simpa using hlt
    have hc := SameRow_ok l[k] (by have := rsize_mem (List.getElem_mem hlt); omega)
    refine AWp.skip ?_
    refine AWp.seq ?_
    refine AWp.block ?_
    refine AWp.seq ?_
    refine AWp.regKL ops_mixed [[], [], [0, 1], [0, 1, 2], [], [], [4, 5], [4, 5, 6], [0, 1, 2, 3, 4, 5, 6, 7], [0, 1, 2, 3, 4, 5, 6, 7, 8]] [0, 1, 5, 26] [] F46r6 [{ r := bval true }] (by kernel_rfl) (by rw [hC]; rfl) (by kernel_rfl) (by kernel_rfl) fun K hK => ?_
    simp (maxSteps := 2000000) [F46r6, hlt]
    (repeat first | refine ⟨by first | (show freeP _ _ _ = true; kernel_rfl) | omega | (intros; omega) | assumption, ?_⟩ | refine ⟨by intros; exact callOK rfl hc, ?_⟩); refine hK _ ?_
    refine AWp.cond false (by simp) (fun he => by cases he) (fun _ => ?_)
    refine AWp.skip ?_
    refine AWp.regK [0, 1, 5] [false, false, true] F46r5 [] (by kernel_rfl) (by rw [hC]; rfl) fun K hK => ?_
    simp (maxSteps := 2000000) [F46r5]
    (repeat refine ⟨by first | omega | (intros; omega) | assumption, ?_⟩); refine hK _ ?_
    refine ⟨k + 1, by omega, by omega, ?_⟩
    simp [wrap_nat k (by omega)]
  refine AWp.exit ?_
  refine AWp.seq ?_
  refine AWp.regK [4] [true] F46r8 [] (by kernel_rfl) (by rw [hC]; rfl) fun K hK => ?_
  simp (maxSteps := 2000000) [F46r8]
  refine hK _ ?_
  repeat refine AWp.seq ?_
  refine AWp.ret ⟨.inr rfl, _, by simp [Tryz.results46] <;> rfl, ?_⟩
  exact .closed rfl
theorem At_ok (s : ByteArray) (l : List ValD) (hl : vsizes l ≤ 4194304) : Con Tryz.prog 87 [.rd 2 [[sval s, .rd 4 (l.map encV)]], .agg [sval s, .rd 4 (l.map encV)]] (ival 0) := by
  have hc := SameRow_ok l hl
  refine Con.of_code Tryz.func87 (by kernel_rfl) rfl (by simp [Tryz.ntmps87]) fun C hC hM => ?_
  refine AWp.seq ?_
  refine AWp.regK [0, 3] [false, true] F87r0 [] (by kernel_rfl) (by rw [hC]; rfl) fun K hK => ?_
  simp (maxSteps := 2000000) [F87r0]
  refine hK _ ?_
  refine AWp.seq ?_
  refine AWp.seq ?_
  refine AWp.regK [0, 3, 5] [true] F87r1 [] (by kernel_rfl) (by rw [hC]; rfl) fun K hK => ?_
  simp (maxSteps := 2000000) [F87r1]
  refine hK _ ?_
  refine AWp.block ?_
  refine AWp.loopG (fun _ : Unit => { tm := [(0, .rd 2 [[sval s, .rd 4 (l.map encV)]]), (3, .ptr 3 0), (5, ival 0)], hp := [(3, .cells 65 [sval s, .rd 4 (l.map encV)])] }) (fun _ => True) (fun _ => 0) () trivial (by simp) (fun _ _ => ?_)
  refine AWp.seq ?_
  refine AWp.seq ?_
  refine AWp.regK [0, 3, 5, 9] [] F87r2 [] (by kernel_rfl) (by rw [hC]; rfl) fun K hK => ?_
  simp (maxSteps := 2000000) [F87r2]
  refine hK _ ?_
  refine AWp.cond true (by simp) (fun _ => ?_) (fun he => by cases he)
  refine AWp.skip ?_
  refine AWp.seq ?_
  refine AWp.block ?_
  refine AWp.seq ?_
  refine AWp.regKL ops_mixed [[], [], [0, 1], [0, 1, 2], [0, 1, 2, 3], [], [5], [0, 1, 2, 3, 4, 5, 6], [0, 1, 2, 3, 4, 5, 6, 7], [0, 1, 2, 3, 4, 5, 6, 7, 8], [0, 1, 2, 3, 4, 5, 6, 7, 8], [0, 1, 2, 3, 4, 5, 6, 7, 8, 9, 10], [0, 1, 2, 3, 4, 5, 6, 7, 8, 9, 10, 11], [0, 1, 2, 3, 4, 5, 6, 7, 8, 9, 10, 11, 12], [0, 1, 2, 3, 4, 5, 6, 7, 8], [0, 1, 2, 3, 4, 5, 6, 7, 8, 14], [0, 1, 2, 3, 4, 5, 6, 7, 8, 9, 10, 11, 12, 13, 14, 15], [0, 1, 2, 3, 4, 5, 6, 7, 8, 9, 10, 11, 12, 13, 14, 15, 16]] [0, 3, 5, 29] [] F87r4 [{ r := bval true }] (by kernel_rfl) (by rw [hC]; rfl) (by kernel_rfl) (by kernel_rfl) fun K hK => ?_
  simp (maxSteps := 2000000) [F87r4]
  (repeat first | refine ⟨by first | (show freeP _ _ _ = true; kernel_rfl) | omega | (intros; omega) | assumption, ?_⟩ | refine ⟨by intros; exact callOK rfl hc, ?_⟩); refine hK _ ?_
  refine AWp.cond true (by simp) (fun _ => ?_) (fun he => by cases he)
  refine AWp.seq ?_
  refine AWp.regK [4] [true, true] F87r5 [] (by kernel_rfl) (by rw [hC]; rfl) fun K hK => ?_
  simp (maxSteps := 2000000) [F87r5]
  refine hK _ ?_
  repeat refine AWp.seq ?_
  refine AWp.ret ⟨.inr rfl, _, by simp [Tryz.results87] <;> rfl, ?_⟩
  exact .closed rfl
theorem SameC_ok (l : List ChgD) (hl : csizes l ≤ 4194304) : Con Tryz.prog 44 [.rd 3 (l.map encC), .rd 3 (l.map encC)] (bval true) := by
  have hlen := csizes_len l
  refine Con.of_code Tryz.func44 (by kernel_rfl) rfl (by simp [Tryz.ntmps44]) fun C hC hM => ?_
  refine AWp.seq ?_
  refine AWp.regK [0, 1] [true] F44r0 [] (by kernel_rfl) (by rw [hC]; rfl) fun K hK => ?_
  simp (maxSteps := 2000000) [F44r0]
  refine hK _ ?_
  refine AWp.seq ?_
  refine AWp.seq ?_
  refine AWp.regK [0, 1, 10] [] F44r1 [] (by kernel_rfl) (by rw [hC]; rfl) fun K hK => ?_
  simp (maxSteps := 2000000) [F44r1]
  refine hK _ ?_
  refine AWp.cond false (by simp) (fun he => by cases he) (fun _ => ?_)
  refine AWp.skip ?_
  refine AWp.seq ?_
  refine AWp.seq ?_
  refine AWp.regK [0, 1, 5] [true] F44r3 [] (by kernel_rfl) (by rw [hC]; rfl) fun K hK => ?_
  simp (maxSteps := 2000000) [F44r3]
  refine hK _ ?_
  refine AWp.block ?_
  refine AWp.loopG (fun k : Nat => { tm := [(0, .rd 3 (l.map encC)), (1, .rd 3 (l.map encC)), (5, ival k)], hp := [] }) (fun k => k ≤ l.length) (fun k => l.length - k) 0 (by omega) (by simp) (fun k hk => ?_)
  refine AWp.seq ?_
  refine AWp.seq ?_
  refine AWp.regK [0, 1, 5, 14] [] F44r4 [] (by kernel_rfl) (by rw [hC]; rfl) fun K hK => ?_
  simp (maxSteps := 2000000) [F44r4]
  refine hK _ ?_
  refine AWp.cond _ (by rfl) (fun hlt => ?_) (fun hge => ?_)
  · skip
    have hlt : k < l.length := by simpa using hlt
    have hm := csize_mem (List.getElem_mem hlt)
    have hsz : csize l[k] = 1 + l[k].rel.size + vsizes l[k].l := rfl
    have hc := At_ok l[k].rel l[k].l (by omega)
    refine AWp.skip ?_
    refine AWp.seq ?_
    refine AWp.block ?_
    refine AWp.seq ?_
    refine AWp.regKL ops_mixed [[], [], [0, 1], [0, 1, 2], [0, 1, 2, 3], [], [], [5, 6], [5, 6, 7], [5, 6, 7, 8], [0, 1, 2, 3, 4, 5, 6, 7, 8, 9], [0, 1, 2, 3, 4, 5, 6, 7, 8, 9, 10], [0, 1, 2, 3, 4, 5, 6, 7, 8, 9, 10, 11], [0, 1, 2, 3, 4, 5, 6, 7, 8, 9, 10, 11], [0, 1, 2, 3, 4, 5, 6, 7, 8, 9, 10, 11, 12, 13], [0, 1, 2, 3, 4, 5, 6, 7, 8, 9, 10, 11, 12, 13, 14], [0, 1, 2, 3, 4, 5, 6, 7, 8, 9, 10, 11, 12, 13, 14, 15], [0, 1, 2, 3, 4, 5, 6, 7, 8, 9, 10, 11, 12, 13, 14, 15, 16], [0, 1, 2, 3, 4, 5, 6, 7, 8, 9, 10, 11], [0, 1, 2, 3, 4, 5, 6, 7, 8, 9, 10, 11], [0, 1, 2, 3, 4, 5, 6, 7, 8, 9, 10, 11, 18, 19], [0, 1, 2, 3, 4, 5, 6, 7, 8, 9, 10, 11, 18, 19, 20], [0, 1, 2, 3, 4, 5, 6, 7, 8, 9, 10, 11, 18, 19, 20, 21], [0, 1, 2, 3, 4, 5, 6, 7, 8, 9, 10, 11, 12, 13, 14, 15, 16, 17, 18, 19, 20, 21, 22], [0, 1, 2, 3, 4, 5, 6, 7, 8, 9, 10, 11, 12, 13, 14, 15, 16, 17, 18, 19, 20, 21, 22, 23], [0, 1, 2, 3, 4, 5, 6, 7, 8, 9, 10, 11, 12, 13, 14, 15, 16, 17, 18, 19, 20, 21, 22, 23, 24]] [0, 1, 5, 42] [] F44r6 [{ r := ival 0 }] (by kernel_rfl) (by rw [hC]; rfl) (by kernel_rfl) (by kernel_rfl) fun K hK => ?_
    simp (maxSteps := 2000000) [F44r6, hlt]
    (repeat first | refine ⟨by first | (show freeP _ _ _ = true; kernel_rfl) | omega | (intros; omega) | assumption, ?_⟩ | refine ⟨by intros; exact callWk rfl (by repeat (first | exact WkL.nil | refine WkL.cons (by first | exact Wk.refl _ | exact Wk.nil _ | exact Wk.own (WkR.refl _)) ?_)) hc, ?_⟩); refine hK _ ?_
    refine AWp.cond false (by simp) (fun he => by cases he) (fun _ => ?_)
    refine AWp.skip ?_
    refine AWp.regK [0, 1, 5] [false, false, true] F44r5 [] (by kernel_rfl) (by rw [hC]; rfl) fun K hK => ?_
    simp (maxSteps := 2000000) [F44r5]
    (repeat refine ⟨by first | omega | (intros; omega) | assumption, ?_⟩); refine hK _ ?_
    refine ⟨k + 1, by omega, by omega, ?_⟩
    simp [wrap_nat k (by omega)]
  refine AWp.exit ?_
  refine AWp.seq ?_
  refine AWp.regK [4] [true] F44r8 [] (by kernel_rfl) (by rw [hC]; rfl) fun K hK => ?_
  simp (maxSteps := 2000000) [F44r8]
  refine hK _ ?_
  repeat refine AWp.seq ?_
  refine AWp.ret ⟨.inr rfl, _, by simp [Tryz.results44] <;> rfl, ?_⟩
  exact .closed rfl
end Go.Se
