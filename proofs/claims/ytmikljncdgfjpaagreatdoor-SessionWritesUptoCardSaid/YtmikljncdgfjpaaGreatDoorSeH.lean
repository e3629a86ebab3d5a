/- The document's bytes of values, numbers, texts. -/
import Derived.Test.YtmikljncdgfjpaaGreatDoorSeB
import Derived.Test.YtmikljncdgfjpaaGreatDoorSeG
set_option linter.unusedSimpArgs false
set_option linter.unusedVariables false
open Go Go.Aw Go.Proofs
namespace Go.Se
set_option maxRecDepth 20000
-- function 100: corollary/corollaryref03.with
def F100r0 : List ROp := [⟨some 4, .copy true (.const (.slice none 0 0)), [], none⟩]
def F100r1 : List ROp := [⟨some 5, .bslice 5 1 [Value.int .u8 0] 0 [], [], none⟩,
  ⟨some 6, .copy false (.tmp 0), [], none⟩,
  ⟨some 7, .app 5 1 1 (.tmp 5) (.tmp 6), [], none⟩,
  ⟨some 8, .copy false (.tmp 1), [], none⟩,
  ⟨some 9, .app 5 1 1 (.tmp 7) (.tmp 8), [], none⟩,
  ⟨some 4, .copy true (.tmp 9), [], none⟩]
-- function 101: corollary/corollaryref03.digits
def F101r0 : List ROp := [⟨some 2, .copy true (.const (.slice none 0 0)), [], none⟩]
def F101r1 : List ROp := [⟨some 3, .copy true (.const (.slice none 0 0)), [], none⟩]
def F101r2 : List ROp := [⟨some 4, .copy false (.tmp 0), [], none⟩,
  ⟨some 5, .bin .gtr (.tmp 4) (.const (.int .u64 0)), [], none⟩]
def F101r3 : List ROp := [⟨some 6, .copy false (.tmp 0), [], none⟩,
  ⟨some 7, .bin .rem (.tmp 6) (.const (.int .u64 256)), [], none⟩,
  ⟨some 8, .conv .u8 (.tmp 7), [], none⟩,
  ⟨some 9, .bslice 5 1 [Value.int .u8 0] 1 [(0, .tmp 8)], [], none⟩,
  ⟨some 10, .copy false (.tmp 3), [], none⟩,
  ⟨some 11, .app 5 1 1 (.tmp 9) (.tmp 10), [], none⟩,
  ⟨some 3, .copy true (.tmp 11), [], none⟩]
def F101r4 : List ROp := [⟨some 12, .copy false (.tmp 0), [], none⟩,
  ⟨some 13, .bin .quo (.tmp 12) (.const (.int .u64 256)), [], none⟩,
  ⟨some 0, .copy true (.tmp 13), [], none⟩]
def F101r5 : List ROp := [⟨some 14, .copy true (.tmp 3), [], none⟩,
  ⟨some 2, .copy true (.tmp 14), [], none⟩]
-- function 85: corollary/corollaryref03.turned
def F85r0 : List ROp := [⟨some 2, .copy true (.const (.slice none 0 0)), [], none⟩]
def F85r1 : List ROp := [⟨some 3, .copy true (.const (.slice none 0 0)), [], none⟩]
def F85r2 : List ROp := [⟨some 4, .copy true (.const (.int .i64 0)), [], none⟩]
def F85r3 : List ROp := [⟨some 5, .copy false (.tmp 4), [], none⟩,
  ⟨some 6, .copy false (.tmp 0), [], none⟩,
  ⟨some 7, .len 0 (.tmp 6), [], none⟩,
  ⟨some 8, .bin .lss (.tmp 5) (.tmp 7), [], none⟩]
def F85r4 : List ROp := [⟨some 9, .copy false (.tmp 4), [], none⟩,
  ⟨some 10, .bin .add (.tmp 9) (.const (.int .i64 1)), [], none⟩,
  ⟨some 4, .copy true (.tmp 10), [], none⟩]
def F85r5 : List ROp := [⟨some 11, .copy true (.tmp 3), [], none⟩,
  ⟨some 12, .copy false (.tmp 0), [], none⟩,
  ⟨some 13, .copy false (.tmp 4), [], none⟩,
  ⟨some 14, .iad 1 (.tmp 12) (.tmp 13), [], none⟩,
  ⟨some 15, .load 1 false false (.tmp 14), [], none⟩,
  ⟨some 16, .bin .sub (.const (.int .u8 255)) (.tmp 15), [], none⟩,
  ⟨some 17, .bslice 5 1 [Value.int .u8 0] 1 [(0, .tmp 16)], [], none⟩,
  ⟨some 18, .app 5 1 1 (.tmp 11) (.tmp 17), [], none⟩,
  ⟨some 3, .copy true (.tmp 18), [], none⟩]
def F85r6 : List ROp := [⟨some 19, .copy true (.tmp 3), [], none⟩,
  ⟨some 2, .copy true (.tmp 19), [], none⟩]
-- function 71: corollary/corollaryref03.Num
def F71r0 : List ROp := [⟨some 4, .copy true (.const (.slice none 0 0)), [], none⟩]
def F71r1 : List ROp := [⟨some 6, .copy false (.tmp 1), [], none⟩,
  ⟨some 7, .bin .lss (.tmp 6) (.const (.int .i64 0)), [], none⟩]
def F71r2 : List ROp := [⟨some 8, .copy false (.tmp 0), [], none⟩,
  ⟨some 9, .copy false (.tmp 1), [], none⟩,
  ⟨some 10, .bin .add (.tmp 9) (.const (.int .i64 1)), [], none⟩,
  ⟨some 11, .un .neg (.tmp 10), [], none⟩,
  ⟨some 12, .call (.func 71) [.const (.slice none 0 0), .tmp 11], [], none⟩,
  ⟨some 13, .call (.func 85) [.tmp 12], [], none⟩,
  ⟨some 14, .call (.func 100) [.tmp 8, .tmp 13], [], none⟩,
  ⟨some 4, .copy true (.tmp 14), [], none⟩]
def F71r3 : List ROp := [⟨some 15, .copy false (.tmp 1), [], none⟩,
  ⟨some 16, .conv .u64 (.tmp 15), [], none⟩,
  ⟨some 17, .call (.func 101) [.tmp 16], [], none⟩,
  ⟨some 5, .copy true (.tmp 17), [], none⟩]
def F71r4 : List ROp := [⟨some 18, .copy false (.tmp 0), [], none⟩,
  ⟨some 19, .copy false (.tmp 5), [], none⟩,
  ⟨some 20, .len 0 (.tmp 19), [], none⟩,
  ⟨some 21, .bin .add (.const (.int .i64 128)) (.tmp 20), [], none⟩,
  ⟨some 22, .conv .u8 (.tmp 21), [], none⟩,
  ⟨some 23, .bslice 5 1 [Value.int .u8 0] 1 [(0, .tmp 22)], [], none⟩,
  ⟨some 24, .copy false (.tmp 5), [], none⟩,
  ⟨some 25, .call (.func 100) [.tmp 23, .tmp 24], [], none⟩,
  ⟨some 26, .call (.func 100) [.tmp 18, .tmp 25], [], none⟩,
  ⟨some 4, .copy true (.tmp 26), [], none⟩]
-- function 61: corollary/corollaryref03.Count
def F61r0 : List ROp := [⟨some 4, .copy true (.const (.slice none 0 0)), [], none⟩]
def F61r1 : List ROp := [⟨some 6, .copy false (.tmp 1), [], none⟩,
  ⟨some 7, .bin .lss (.tmp 6) (.const (.int .i64 0)), [], none⟩,
  ⟨some 8, .copy false (.tmp 7), [], none⟩,
  ⟨some 9, .copy false (.tmp 1), [], some (8, false)⟩,
  ⟨some 10, .bin .gtr (.tmp 9) (.const (.int .i64 2147483647)), [], some (8, false)⟩,
  ⟨some 11, .pick (.tmp 8) (.const (.bool true)) (.tmp 10), [], none⟩]
def F61r2 : List ROp := [⟨some 12, .copy false (.tmp 0), [], none⟩,
  ⟨some 13, .call (.func 100) [.tmp 12, .const (.slice none 0 0)], [], none⟩,
  ⟨some 4, .copy true (.tmp 13), [], none⟩]
def F61r3 : List ROp := [⟨some 14, .copy false (.tmp 1), [], none⟩,
  ⟨some 15, .conv .u64 (.tmp 14), [], none⟩,
  ⟨some 16, .call (.func 101) [.tmp 15], [], none⟩,
  ⟨some 5, .copy true (.tmp 16), [], none⟩]
def F61r4 : List ROp := [⟨some 17, .copy false (.tmp 0), [], none⟩,
  ⟨some 18, .copy false (.tmp 5), [], none⟩,
  ⟨some 19, .len 0 (.tmp 18), [], none⟩,
  ⟨some 20, .conv .u8 (.tmp 19), [], none⟩,
  ⟨some 21, .bslice 5 1 [Value.int .u8 0] 1 [(0, .tmp 20)], [], none⟩,
  ⟨some 22, .copy false (.tmp 5), [], none⟩,
  ⟨some 23, .call (.func 100) [.tmp 21, .tmp 22], [], none⟩,
  ⟨some 24, .call (.func 100) [.tmp 17, .tmp 23], [], none⟩,
  ⟨some 4, .copy true (.tmp 24), [], none⟩]
-- function 62: corollary/corollaryref03.Str
def F62r0 : List ROp := [⟨some 4, .copy true (.const (.slice none 0 0)), [], none⟩]
def F62r1 : List ROp := [⟨some 7, .copy false (.tmp 0), [], none⟩,
  ⟨some 8, .call (.func 100) [.tmp 7, .const (.slice none 0 0)], [], none⟩,
  ⟨some 5, .copy true (.tmp 8), [], none⟩]
def F62r2 : List ROp := [⟨some 6, .copy true (.const (.int .i64 0)), [], none⟩]
def F62r3 : List ROp := [⟨some 9, .copy false (.tmp 6), [], none⟩,
  ⟨some 10, .copy false (.tmp 1), [], none⟩,
  ⟨some 11, .len 1 (.tmp 10), [], none⟩,
  ⟨some 12, .bin .lss (.tmp 9) (.tmp 11), [], none⟩]
def F62r4 : List ROp := [⟨some 13, .copy false (.tmp 6), [], none⟩,
  ⟨some 14, .bin .add (.tmp 13) (.const (.int .i64 1)), [], none⟩,
  ⟨some 6, .copy true (.tmp 14), [], none⟩]
def F62r5 : List ROp := [⟨some 15, .copy true (.tmp 5), [], none⟩,
  ⟨some 16, .copy false (.tmp 1), [], none⟩,
  ⟨some 17, .copy false (.tmp 6), [], none⟩,
  ⟨some 18, .idxs (.tmp 16) (.tmp 17), [], none⟩,
  ⟨some 19, .bslice 5 1 [Value.int .u8 0] 1 [(0, .tmp 18)], [], none⟩,
  ⟨some 20, .app 5 1 1 (.tmp 15) (.tmp 19), [], none⟩,
  ⟨some 5, .copy true (.tmp 20), [], none⟩]
def F62r6 : List ROp := [⟨some 21, .copy false (.tmp 1), [], none⟩,
  ⟨some 22, .copy false (.tmp 6), [], none⟩,
  ⟨some 23, .idxs (.tmp 21) (.tmp 22), [], none⟩,
  ⟨some 24, .bin .eql (.tmp 23) (.const (.int .u8 0)), [], none⟩]
def F62r7 : List ROp := [⟨some 25, .copy true (.tmp 5), [], none⟩,
  ⟨some 26, .bslice 5 1 [Value.int .u8 0] 1 [(0, .const (.int .u8 255))], [], none⟩,
  ⟨some 27, .app 5 1 1 (.tmp 25) (.tmp 26), [], none⟩,
  ⟨some 5, .copy true (.tmp 27), [], none⟩]
def F62r8 : List ROp := [⟨some 28, .copy true (.tmp 5), [], none⟩,
  ⟨some 29, .bslice 5 1 [Value.int .u8 0] 2 [(0, .const (.int .u8 0)), (1, .const (.int .u8 0))], [], none⟩,
  ⟨some 30, .app 5 1 1 (.tmp 28) (.tmp 29), [], none⟩,
  ⟨some 4, .copy true (.tmp 30), [], none⟩]
-- function 64: corollary/corollaryref03.Flag
def F64r0 : List ROp := [⟨some 4, .copy true (.const (.slice none 0 0)), [], none⟩]
def F64r1 : List ROp := [⟨some 5, .copy false (.tmp 1), [], none⟩]
def F64r2 : List ROp := [⟨some 6, .copy false (.tmp 0), [], none⟩,
  ⟨some 7, .bslice 5 1 [Value.int .u8 0] 1 [(0, .const (.int .u8 1))], [], none⟩,
  ⟨some 8, .call (.func 100) [.tmp 6, .tmp 7], [], none⟩,
  ⟨some 4, .copy true (.tmp 8), [], none⟩]
def F64r3 : List ROp := [⟨some 9, .copy false (.tmp 0), [], none⟩,
  ⟨some 10, .bslice 5 1 [Value.int .u8 0] 1 [(0, .const (.int .u8 0))], [], none⟩,
  ⟨some 11, .call (.func 100) [.tmp 9, .tmp 10], [], none⟩,
  ⟨some 4, .copy true (.tmp 11), [], none⟩]
-- function 136: corollary/corollaryref03.big
def F136r0 : List ROp := [⟨some 2, .copy true (.const (.slice none 0 0)), [], none⟩]
def F136r1 : List ROp := [⟨some 3, .copy false (.tmp 0), [], none⟩,
  ⟨some 4, .idxs (.tmp 3) (.const (.int .i64 0)), [], none⟩,
  ⟨some 5, .bin .eql (.tmp 4) (.const (.int .u8 45)), [], none⟩]
def F136r2 : List ROp := [⟨some 6, .copy false (.tmp 0), [], none⟩,
  ⟨some 7, .subs (.tmp 6) (some (.const (.int .i64 1))) none, [], none⟩,
  ⟨some 8, .call (.func 136) [.tmp 7], [], none⟩,
  ⟨some 9, .call (.func 85) [.tmp 8], [], none⟩,
  ⟨some 2, .copy true (.tmp 9), [], none⟩]
def F136r3 : List ROp := [⟨some 10, .bslice 5 1 [Value.int .u8 0] 1 [(0, .const (.int .u8 128))], [], none⟩,
  ⟨some 11, .copy false (.tmp 0), [], none⟩,
  ⟨some 12, .len 1 (.tmp 11), [], none⟩,
  ⟨some 13, .call (.func 61) [.tmp 10, .tmp 12], [], none⟩,
  ⟨some 14, .copy false (.tmp 0), [], none⟩,
  ⟨some 15, .x1 1 (.tmp 14), [], none⟩,
  ⟨some 16, .call (.func 100) [.tmp 13, .tmp 15], [], none⟩,
  ⟨some 2, .copy true (.tmp 16), [], none⟩]
-- function 112: corollary/corollaryref03.put
def F112r0 : List ROp := [⟨some 1, .box 114 (.tmp 0), [], none⟩,
  ⟨some 2, .copy true (.const (.slice none 0 0)), [], none⟩]
def F112r1 : List ROp := [⟨some 5, .fad 0 (.tmp 1), [], none⟩,
  ⟨some 6, .load 1 false false (.tmp 5), [], none⟩,
  ⟨some 7, .bslice 5 1 [Value.int .u8 0] 1 [(0, .tmp 6)], [], none⟩,
  ⟨some 3, .copy true (.tmp 7), [], none⟩]
def F112r2 : List ROp := [⟨some 8, .fad 0 (.tmp 1), [], none⟩,
  ⟨some 9, .load 1 false false (.tmp 8), [], none⟩]
def F112r3 : List ROp := [⟨some 11, .bin .eql (.tmp 9) (.const (.int .u8 1)), [], none⟩,
  ⟨some 10, .copy true (.tmp 11), [], none⟩]
def F112r4 : List ROp := [⟨some 12, .copy false (.tmp 3), [], none⟩,
  ⟨some 13, .fad 1 (.tmp 1), [], none⟩,
  ⟨some 14, .load 1 false false (.tmp 13), [], none⟩,
  ⟨some 15, .bin .eql (.tmp 14) (.const (.int .i64 1)), [], none⟩,
  ⟨some 16, .call (.func 64) [.tmp 12, .tmp 15], [], none⟩,
  ⟨some 2, .copy true (.tmp 16), [], none⟩]
def F112r5 : List ROp := [⟨some 18, .bin .eql (.tmp 9) (.const (.int .u8 2)), [], none⟩,
  ⟨some 17, .copy true (.tmp 18), [], none⟩]
def F112r6 : List ROp := [⟨some 19, .copy false (.tmp 3), [], none⟩,
  ⟨some 20, .fad 1 (.tmp 1), [], none⟩,
  ⟨some 21, .load 1 false false (.tmp 20), [], none⟩,
  ⟨some 22, .call (.func 71) [.tmp 19, .tmp 21], [], none⟩,
  ⟨some 2, .copy true (.tmp 22), [], none⟩]
def F112r7 : List ROp := [⟨some 24, .bin .eql (.tmp 9) (.const (.int .u8 3)), [], none⟩,
  ⟨some 23, .copy true (.tmp 24), [], none⟩]
def F112r8 : List ROp := [⟨some 25, .copy false (.tmp 3), [], none⟩,
  ⟨some 26, .fad 2 (.tmp 1), [], none⟩,
  ⟨some 27, .load 1 false false (.tmp 26), [], none⟩,
  ⟨some 28, .call (.func 136) [.tmp 27], [], none⟩,
  ⟨some 29, .call (.func 100) [.tmp 25, .tmp 28], [], none⟩,
  ⟨some 2, .copy true (.tmp 29), [], none⟩]
def F112r9 : List ROp := [⟨some 31, .bin .eql (.tmp 9) (.const (.int .u8 4)), [], none⟩,
  ⟨some 30, .copy true (.tmp 31), [], none⟩]
def F112r10 : List ROp := [⟨some 32, .copy false (.tmp 3), [], none⟩,
  ⟨some 33, .fad 2 (.tmp 1), [], none⟩,
  ⟨some 34, .load 1 false false (.tmp 33), [], none⟩,
  ⟨some 35, .call (.func 62) [.tmp 32, .tmp 34], [], none⟩,
  ⟨some 2, .copy true (.tmp 35), [], none⟩]
def F112r11 : List ROp := [⟨some 37, .bin .eql (.tmp 9) (.const (.int .u8 6)), [], none⟩,
  ⟨some 36, .copy true (.tmp 37), [], none⟩]
def F112r12 : List ROp := [⟨some 38, .copy false (.tmp 3), [], none⟩,
  ⟨some 39, .fad 2 (.tmp 1), [], none⟩,
  ⟨some 40, .load 1 false false (.tmp 39), [], none⟩,
  ⟨some 41, .call (.func 62) [.tmp 38, .tmp 40], [], none⟩,
  ⟨some 3, .copy true (.tmp 41), [], none⟩]
def F112r13 : List ROp := [⟨some 4, .copy true (.const (.int .i64 0)), [], none⟩]
def F112r14 : List ROp := [⟨some 42, .copy false (.tmp 4), [], none⟩,
  ⟨some 43, .fad 3 (.tmp 1), [], none⟩,
  ⟨some 44, .load 1 false false (.tmp 43), [], none⟩,
  ⟨some 45, .len 0 (.tmp 44), [], none⟩,
  ⟨some 46, .bin .lss (.tmp 42) (.tmp 45), [], none⟩]
def F112r15 : List ROp := [⟨some 47, .copy false (.tmp 4), [], none⟩,
  ⟨some 48, .bin .add (.tmp 47) (.const (.int .i64 1)), [], none⟩,
  ⟨some 4, .copy true (.tmp 48), [], none⟩]
def F112r16 : List ROp := [⟨some 49, .copy true (.tmp 3), [], none⟩,
  ⟨some 50, .bslice 5 1 [Value.int .u8 0] 1 [(0, .const (.int .u8 1))], [], none⟩,
  ⟨some 51, .app 5 1 1 (.tmp 49) (.tmp 50), [0, 1], none⟩,
  ⟨some 52, .fad 3 (.tmp 1), [], none⟩,
  ⟨some 53, .load 1 false false (.tmp 52), [3], none⟩,
  ⟨some 54, .copy false (.tmp 4), [], none⟩,
  ⟨some 55, .iad 4 (.tmp 53) (.tmp 54), [4, 5], none⟩,
  ⟨some 56, .load 4 true false (.tmp 55), [6], none⟩,
  ⟨some 57, .call (.func 112) [.tmp 56], [7, 2], none⟩,
  ⟨some 58, .call (.func 100) [.tmp 51, .tmp 57], [2, 8, 8], none⟩,
  ⟨some 3, .copy true (.tmp 58), [9, 9, 0, 1, 2, 3, 4, 5, 6, 7, 8, 9], none⟩]
def F112r17 : List ROp := [⟨some 59, .copy true (.tmp 3), [], none⟩,
  ⟨some 60, .bslice 5 1 [Value.int .u8 0] 1 [(0, .const (.int .u8 0))], [], none⟩,
  ⟨some 61, .app 5 1 1 (.tmp 59) (.tmp 60), [], none⟩,
  ⟨some 2, .copy true (.tmp 61), [], none⟩]
-- function 107: corollary/corollaryref03.Value
def F107r0 : List ROp := [⟨some 3, .box 114 (.tmp 1), [], none⟩,
  ⟨some 4, .copy true (.const (.slice none 0 0)), [], none⟩]
def F107r1 : List ROp := [⟨some 5, .load 4 true false (.tmp 3), [], none⟩,
  ⟨some 6, .call (.func 111) [.tmp 5], [], none⟩,
  ⟨some 7, .bin .neq (.tmp 6) (.const (.int .i64 0)), [], none⟩]
def F107r2 : List ROp := [⟨some 8, .copy false (.tmp 0), [], none⟩,
  ⟨some 9, .call (.func 100) [.tmp 8, .const (.slice none 0 0)], [], none⟩,
  ⟨some 4, .copy true (.tmp 9), [], none⟩]
def F107r3 : List ROp := [⟨some 10, .copy false (.tmp 0), [], none⟩,
  ⟨some 11, .load 4 true false (.tmp 3), [], none⟩,
  ⟨some 12, .call (.func 112) [.tmp 11], [], none⟩,
  ⟨some 13, .call (.func 100) [.tmp 10, .tmp 12], [], none⟩,
  ⟨some 4, .copy true (.tmp 13), [], none⟩]
attribute [local simp] valX encV_eq
abbrev rB (l : List Int) : AV := .rd 1 (bt l)
abbrev oB (l : List Int) : AV := .own 5 1 (bt l)
theorem with_ok (x y : List Int) (hl : x.length + y.length ≤ 1099511627776) : Con Tryz.prog 100 [rB x, rB y] (oB (x ++ y)) := by
  refine Con.of_code Tryz.func100 (by kernel_rfl) rfl (by simp [Tryz.ntmps100]) fun C hC hM => ?_
  refine AWp.seq ?_
  refine AWp.regK [0, 1] [true] F100r0 [] (by kernel_rfl) (by rw [hC]; rfl) fun K hK => ?_
  simp (maxSteps := 2000000) [F100r0]
  refine hK _ ?_
  refine AWp.seq ?_
  refine AWp.regK [4] [false, false, false, false, false, true] F100r1 [] (by kernel_rfl) (by rw [hC]; rfl) fun K hK => ?_
  simp (maxSteps := 2000000) [F100r1]
  (repeat refine ⟨by first | omega | (intros; omega) | assumption, ?_⟩); refine hK _ ?_
  repeat refine AWp.seq ?_
  refine AWp.ret ⟨.inr rfl, _, by simp [Tryz.results100] <;> rfl, ?_⟩
  exact .clos (by simp [bt]) rfl
theorem digits_ok (u : Nat) (hu : u < 18446744073709551616) : Con Tryz.prog 101 [.val (.int .u64 u)] (rB (digits u)) := by
  refine Con.of_code Tryz.func101 (by kernel_rfl) rfl (by simp [Tryz.ntmps101]) fun C hC hM => ?_
  refine AWp.seq ?_
  refine AWp.regK [0] [true] F101r0 [] (by kernel_rfl) (by rw [hC]; rfl) fun K hK => ?_
  simp (maxSteps := 2000000) [F101r0]
  refine hK _ ?_
  refine AWp.seq ?_
  refine AWp.regK [0, 3] [true] F101r1 [] (by kernel_rfl) (by rw [hC]; rfl) fun K hK => ?_
  simp (maxSteps := 2000000) [F101r1]
  refine hK _ ?_
  refine AWp.seq ?_
  refine AWp.block ?_
  refine AWp.loopG (fun x : Nat × List Int => { tm := [(0, .val (.int .u64 x.1)), (3, rB x.2)], hp := [] }) (fun x => x.1 ≤ u ∧ x.2.length + nb x.1 ≤ 8 ∧ digits u = digits x.1 ++ x.2) (fun x => x.1) (u, []) ⟨Nat.le_refl _, by have := nb_le u hu; simpa using this, by simp⟩ (by simp [bt]) (fun x hk => ?_)
  obtain ⟨d, out⟩ := x
  obtain ⟨hk1, hk2, hk3⟩ := hk
  simp only at hk1 hk2 hk3
  refine AWp.seq ?_
  refine AWp.seq ?_
  refine AWp.regK [0, 3, 5] [] F101r2 [] (by kernel_rfl) (by rw [hC]; rfl) fun K hK => ?_
  simp (maxSteps := 2000000) [F101r2]
  refine hK _ ?_
  refine AWp.cond _ (by rfl) (fun hlt => ?_) (fun hge => ?_)
  · skip
    have hlt : 0 < d := by simp at hlt; omega
    have hst := digits_step d hlt (by omega)
    have hnb := nb_step d hlt (by omega)
    have hr : IntKind.u8.wrap ((d : Int).tmod 256) = ((d % 256 : Nat) : Int) := by rw [Int.tmod_eq_emod_of_nonneg (by omega), IntKind.wrap_u8]; omega
    have hq : IntKind.u64.wrap ((d : Int) / 256) = ((d / 256 : Nat) : Int) := by rw [IntKind.wrap_u64]; omega
    have hqd : d / 256 < d := by omega
    generalize ((d % 256 : Nat) : Int) = r at *
    generalize d / 256 = q at *
    refine AWp.skip ?_
    refine AWp.block ?_
    refine AWp.seq ?_
    refine AWp.regK [0, 3] [false, false, false, false, false, false, true] F101r3 [] (by kernel_rfl) (by rw [hC]; rfl) fun K hK => ?_
    simp (maxSteps := 2000000) [F101r3, hr, hq]
    (repeat refine ⟨by first | omega | (intros; omega) | assumption, ?_⟩); refine hK _ ?_
    refine AWp.regK [0, 3] [false, false, true] F101r4 [] (by kernel_rfl) (by rw [hC]; rfl) fun K hK => ?_
    simp (maxSteps := 2000000) [F101r4, hr, hq]
    (repeat refine ⟨by first | omega | (intros; omega) | assumption, ?_⟩); refine hK _ ?_
    refine ⟨(q, r :: out), ⟨by simp; omega, by simp; omega, by rw [hk3, hst]; simp⟩, hqd, ?_⟩
    simp [bt]
  have hge : d = 0 := by simp at hge; omega
  subst hge
  refine AWp.exit ?_
  refine AWp.seq ?_
  refine AWp.regK [2] [true, true] F101r5 [] (by kernel_rfl) (by rw [hC]; rfl) fun K hK => ?_
  simp (maxSteps := 2000000) [F101r5]
  refine hK _ ?_
  repeat refine AWp.seq ?_
  refine AWp.ret ⟨.inr rfl, _, by simp [Tryz.results101] <;> rfl, ?_⟩
  rw [hk3, digits_zero]
  exact .closed rfl
theorem turned_ok (l : List Int) (hb : areB l) (hl : l.length ≤ 268435456) : Con Tryz.prog 85 [rB l] (oB (flipL l)) := by
  refine Con.of_code Tryz.func85 (by kernel_rfl) rfl (by simp [Tryz.ntmps85]) fun C hC hM => ?_
  refine AWp.seq ?_
  refine AWp.regK [0] [true] F85r0 [] (by kernel_rfl) (by rw [hC]; rfl) fun K hK => ?_
  simp (maxSteps := 2000000) [F85r0]
  refine hK _ ?_
  refine AWp.seq ?_
  refine AWp.regK [0, 3] [true] F85r1 [] (by kernel_rfl) (by rw [hC]; rfl) fun K hK => ?_
  simp (maxSteps := 2000000) [F85r1]
  refine hK _ ?_
  refine AWp.seq ?_
  refine AWp.seq ?_
  refine AWp.regK [0, 3, 4] [true] F85r2 [] (by kernel_rfl) (by rw [hC]; rfl) fun K hK => ?_
  simp (maxSteps := 2000000) [F85r2]
  refine hK _ ?_
  refine AWp.block ?_
  refine AWp.loopG (fun k : Nat => { tm := [(0, rB l), (3, oB (flipL (l.take k))), (4, ival k)], hp := [] }) (fun k => k ≤ l.length) (fun k => l.length - k) 0 (by omega) (by simp [bt, flipL]) (fun k hk => ?_)
  refine AWp.seq ?_
  refine AWp.seq ?_
  refine AWp.regK [0, 3, 4, 8] [] F85r3 [] (by kernel_rfl) (by rw [hC]; rfl) fun K hK => ?_
  simp (maxSteps := 2000000) [F85r3]
  refine hK _ ?_
  refine AWp.cond _ (by rfl) (fun hlt => ?_) (fun hge => ?_)
  · skip
    have hlt : k < l.length := by simpa using hlt
    have hbk := hb l[k] (List.getElem_mem hlt)
    have hw : IntKind.u8.wrap (255 - l[k]) = 255 - l[k] := by unfold isB at hbk; rw [IntKind.wrap_u8]; omega
    have hst : flipL (l.take (k + 1)) = flipL (l.take k) ++ [255 - l[k]] := by rw [List.take_succ_eq_append_getElem hlt]; simp only [flipL, List.map_append, List.map_cons, List.map_nil]
    have hfl : (flipL (l.take k)).length ≤ l.length := by rw [flipL_len, List.length_take]; omega
    refine AWp.skip ?_
    refine AWp.seq ?_
    refine AWp.block ?_
    refine AWp.regK [0, 3, 4] [true, false, false, false, false, false, false, false, true] F85r5 [] (by kernel_rfl) (by rw [hC]; rfl) fun K hK => ?_
    simp (maxSteps := 2000000) [F85r5, hlt, hw, bt]
    (repeat refine ⟨by first | omega | (intros; omega) | assumption, ?_⟩); refine hK _ ?_
    refine AWp.regK [0, 3, 4] [false, false, true] F85r4 [] (by kernel_rfl) (by rw [hC]; rfl) fun K hK => ?_
    simp (maxSteps := 2000000) [F85r4, hlt, hw, bt]
    (repeat refine ⟨by first | omega | (intros; omega) | assumption, ?_⟩); refine hK _ ?_
    refine ⟨k + 1, by omega, by omega, ?_⟩
    rw [hst]
    generalize flipL (l.take k) = ys
    simp [wrap_nat k (by omega), bt]
  have hge : ¬ k < l.length := by simpa using hge
  refine AWp.exit ?_
  refine AWp.seq ?_
  refine AWp.regK [2] [true, true] F85r6 [] (by kernel_rfl) (by rw [hC]; rfl) fun K hK => ?_
  simp (maxSteps := 2000000) [F85r6]
  refine hK _ ?_
  repeat refine AWp.seq ?_
  refine AWp.ret ⟨.inr rfl, _, by simp [Tryz.results85] <;> rfl, ?_⟩
  rw [List.take_of_length_le (by omega)]
  exact .closed rfl
theorem NumR0_ok (l : List Int) (n : Int) (h0 : 0 ≤ n) (h1 : n ≤ 9223372036854775807) (hl : l.length ≤ 268435456) : Con Tryz.prog 71 [rB l, ival n] (oB (l ++ numE 128 n.toNat)) := by
  obtain ⟨u, rfl⟩ : ∃ u : Nat, n = (u : Int) := ⟨n.toNat, by omega⟩
  have hd := digits_ok u (by omega)
  have hnb := nb_le u (by omega)
  have hlen : (digits u).length = nb u := digs_len _ _
  have hw1 : IntKind.u64.wrap (u : Int) = (u : Int) := by rw [IntKind.wrap_u64]; omega
  have hw2 : IntKind.i64.wrap (128 + (nb u : Int)) = 128 + (nb u : Int) := wrap_in (by omega) (by omega)
  have hw3 : IntKind.u8.wrap (128 + (nb u : Int)) = 128 + (nb u : Int) := by rw [IntKind.wrap_u8]; omega
  have h2 := with_ok [128 + (nb u : Int)] (digits u) (by simp; omega)
  have h3 := with_ok l ([128 + (nb u : Int)] ++ digits u) (by simp; omega)
  have he : (128 + (nb u : Int)) :: digits u = numE 128 u := rfl
  rw [List.singleton_append, he] at h2 h3
  simp only [Int.toNat_natCast]
  refine Con.of_code Tryz.func71 (by kernel_rfl) rfl (by simp [Tryz.ntmps71]) fun C hC hM => ?_
  refine AWp.seq ?_
  refine AWp.regK [0, 1] [true] F71r0 [] (by kernel_rfl) (by rw [hC]; rfl) fun K hK => ?_
  simp (maxSteps := 2000000) [F71r0]
  refine hK _ ?_
  refine AWp.seq ?_
  refine AWp.seq ?_
  refine AWp.regK [0, 1, 7] [] F71r1 [] (by kernel_rfl) (by rw [hC]; rfl) fun K hK => ?_
  simp (maxSteps := 2000000) [F71r1]
  refine hK _ ?_
  refine AWp.cond false (by simp) (fun he => by cases he) (fun _ => ?_)
  refine AWp.skip ?_
  refine AWp.seq ?_
  refine AWp.regK [0, 5] [false, false, false, true] F71r3 [{ r := rB (digits u) }] (by kernel_rfl) (by rw [hC]; rfl) fun K hK => ?_
  simp (maxSteps := 2000000) [F71r3, hw1]
  (repeat first | refine ⟨by first | (show freeP _ _ _ = true; kernel_rfl) | omega | (intros; omega) | assumption, ?_⟩ | refine ⟨by intros; exact callOK rfl hd, ?_⟩); refine hK _ ?_
  refine AWp.seq ?_
  refine AWp.regK [4] [false, false, false, false, false, false, false, false, false, true] F71r4 [{ r := oB (numE 128 u) }, { r := oB (l ++ numE 128 u) }] (by kernel_rfl) (by rw [hC]; rfl) fun K hK => ?_
  simp (maxSteps := 2000000) [F71r4, hlen, hw2, hw3]
  (repeat first | refine ⟨by first | (show freeP _ _ _ = true; kernel_rfl) | omega | (intros; omega) | assumption, ?_⟩ | refine ⟨by intros; exact callWk rfl (by repeat (first | exact WkL.nil | refine WkL.cons (by first | exact Wk.refl _ | exact Wk.nil _ | exact Wk.own (WkR.refl _)) ?_)) h2, ?_⟩ | refine ⟨by intros; exact callWk rfl (by repeat (first | exact WkL.nil | refine WkL.cons (by first | exact Wk.refl _ | exact Wk.nil _ | exact Wk.own (WkR.refl _)) ?_)) h3, ?_⟩); refine hK _ ?_
  repeat refine AWp.seq ?_
  refine AWp.ret ⟨.inr rfl, _, by simp [Tryz.results71] <;> rfl, ?_⟩
  exact .closed rfl
theorem NumR_ok (l : List Int) (n : Int) (h0 : -9223372036854775808 ≤ n) (h1 : n ≤ 9223372036854775807) (hl : l.length ≤ 268435456) : Con Tryz.prog 71 [rB l, ival n] (oB (l ++ numI n)) := by
  by_cases hn : n < 0
  · have hw1 : IntKind.i64.wrap (n + 1) = n + 1 := wrap_in (by omega) (by omega)
    have hw2 : IntKind.i64.wrap (-(n + 1)) = -n - 1 := by rw [wrap_in (by omega) (by omega)]; omega
    have h2 := NumR0_ok [] (-n - 1) (by omega) (by omega) (by simp)
    have hu : (-n - 1).toNat < 18446744073709551616 := by omega
    have hni : numI n = flipL (numE 128 (-n - 1).toNat) := by unfold numI; rw [if_pos hn]
    rw [hni]
    generalize hm : -n - 1 = m at *
    generalize m.toNat = u at *
    have hlen := numE_len 128 u hu
    have h3 := turned_ok (numE 128 u) (numE_areB (by omega) (by omega) hu) (by omega)
    have hfl := flipL_len (numE 128 u)
    have h4 := with_ok l (flipL (numE 128 u)) (by omega)
    rw [List.nil_append] at h2
    refine Con.of_code Tryz.func71 (by kernel_rfl) rfl (by simp [Tryz.ntmps71]) fun C hC hM => ?_
    refine AWp.seq ?_
    refine AWp.regK [0, 1] [true] F71r0 [] (by kernel_rfl) (by rw [hC]; rfl) fun K hK => ?_
    simp (maxSteps := 2000000) [F71r0]
    refine hK _ ?_
    refine AWp.seq ?_
    refine AWp.seq ?_
    refine AWp.regK [0, 1, 7] [] F71r1 [] (by kernel_rfl) (by rw [hC]; rfl) fun K hK => ?_
    simp (maxSteps := 2000000) [F71r1]
    refine hK _ ?_
    refine AWp.cond true (by simp [hn]) (fun _ => ?_) (fun he => by cases he)
    refine AWp.seq ?_
    refine AWp.regK [4] [false, false, false, false, false, false, false, true] F71r2 [{ r := oB (numE 128 u) }, { r := oB (flipL (numE 128 u)) }, { r := oB (l ++ flipL (numE 128 u)) }] (by kernel_rfl) (by rw [hC]; rfl) fun K hK => ?_
    simp (maxSteps := 2000000) [F71r2, hw1, hw2]
    (repeat first | refine ⟨by first | (show freeP _ _ _ = true; kernel_rfl) | omega | (intros; omega) | assumption, ?_⟩ | refine ⟨by intros; exact callWk rfl (by repeat (first | exact WkL.nil | refine WkL.cons (by first | exact Wk.refl _ | exact Wk.nil _ | exact Wk.own (WkR.refl _)) ?_)) h2, ?_⟩ | refine ⟨by intros; exact callWk rfl (by repeat (first | exact WkL.nil | refine WkL.cons (by first | exact Wk.refl _ | exact Wk.nil _ | exact Wk.own (WkR.refl _)) ?_)) h3, ?_⟩ | refine ⟨by intros; exact callWk rfl (by repeat (first | exact WkL.nil | refine WkL.cons (by first | exact Wk.refl _ | exact Wk.nil _ | exact Wk.own (WkR.refl _)) ?_)) h4, ?_⟩); refine hK _ ?_
    repeat refine AWp.seq ?_
    refine AWp.ret ⟨.inr rfl, _, by simp [Tryz.results71] <;> rfl, ?_⟩
    exact .closed rfl
  · have h2 := NumR0_ok l n (by omega) h1 hl
    unfold numI
    rw [if_neg hn]
    exact h2
theorem CountR_ok (l : List Int) (n : Int) (hl : l.length ≤ 268435456) : Con Tryz.prog 61 [rB l, ival n] (oB (l ++ cntE n)) := by
  unfold cntE
  by_cases h : 0 ≤ n ∧ n ≤ 2147483647
  · rw [if_pos h]
    obtain ⟨u, rfl⟩ : ∃ u : Nat, n = (u : Int) := ⟨n.toNat, by omega⟩
    have hd := digits_ok u (by omega)
    have hnb := nb_le u (by omega)
    have hlen : (digits u).length = nb u := digs_len _ _
    have hw1 : IntKind.u64.wrap (u : Int) = (u : Int) := by rw [IntKind.wrap_u64]; omega
    have hw3 : IntKind.u8.wrap (nb u : Int) = (nb u : Int) := by rw [IntKind.wrap_u8]; omega
    have h2 := with_ok [(nb u : Int)] (digits u) (by simp; omega)
    have h3 := with_ok l ([(nb u : Int)] ++ digits u) (by simp; omega)
    have he : (nb u : Int) :: digits u = numE 0 u := by unfold numE; rw [Int.zero_add]
    rw [List.singleton_append, he] at h2 h3
    simp only [Int.toNat_natCast]
    refine Con.of_code Tryz.func61 (by kernel_rfl) rfl (by simp [Tryz.ntmps61]) fun C hC hM => ?_
    refine AWp.seq ?_
    refine AWp.regK [0, 1] [true] F61r0 [] (by kernel_rfl) (by rw [hC]; rfl) fun K hK => ?_
    simp (maxSteps := 2000000) [F61r0]
    refine hK _ ?_
    refine AWp.seq ?_
    refine AWp.seq ?_
    refine AWp.regK [0, 1, 11] [] F61r1 [] (by kernel_rfl) (by rw [hC]; rfl) fun K hK => ?_
    simp (maxSteps := 2000000) [F61r1]
    (repeat refine ⟨by first | omega | (intros; omega) | assumption, ?_⟩); refine hK _ ?_
    refine AWp.cond false (by simp; omega) (fun he => by cases he) (fun _ => ?_)
    refine AWp.skip ?_
    refine AWp.seq ?_
    refine AWp.regK [0, 5] [false, false, false, true] F61r3 [{ r := rB (digits u) }] (by kernel_rfl) (by rw [hC]; rfl) fun K hK => ?_
    simp (maxSteps := 2000000) [F61r3, hw1]
    (repeat first | refine ⟨by first | (show freeP _ _ _ = true; kernel_rfl) | omega | (intros; omega) | assumption, ?_⟩ | refine ⟨by intros; exact callOK rfl hd, ?_⟩); refine hK _ ?_
    refine AWp.seq ?_
    refine AWp.regK [4] [false, false, false, false, false, false, false, false, true] F61r4 [{ r := oB (numE 0 u) }, { r := oB (l ++ numE 0 u) }] (by kernel_rfl) (by rw [hC]; rfl) fun K hK => ?_
    simp (maxSteps := 2000000) [F61r4, hlen, hw3]
    (repeat first | refine ⟨by first | (show freeP _ _ _ = true; kernel_rfl) | omega | (intros; omega) | assumption, ?_⟩ | refine ⟨by intros; exact callWk rfl (by repeat (first | exact WkL.nil | refine WkL.cons (by first | exact Wk.refl _ | exact Wk.nil _ | exact Wk.own (WkR.refl _)) ?_)) h2, ?_⟩ | refine ⟨by intros; exact callWk rfl (by repeat (first | exact WkL.nil | refine WkL.cons (by first | exact Wk.refl _ | exact Wk.nil _ | exact Wk.own (WkR.refl _)) ?_)) h3, ?_⟩); refine hK _ ?_
    repeat refine AWp.seq ?_
    refine AWp.ret ⟨.inr rfl, _, by simp [Tryz.results61] <;> rfl, ?_⟩
    exact .closed rfl
  · rw [if_neg h, List.append_nil]
    have h2 := with_ok l [] (by simp; omega)
    rw [List.append_nil] at h2
    refine Con.of_code Tryz.func61 (by kernel_rfl) rfl (by simp [Tryz.ntmps61]) fun C hC hM => ?_
    refine AWp.seq ?_
    refine AWp.regK [0, 1] [true] F61r0 [] (by kernel_rfl) (by rw [hC]; rfl) fun K hK => ?_
    simp (maxSteps := 2000000) [F61r0]
    refine hK _ ?_
    refine AWp.seq ?_
    refine AWp.seq ?_
    refine AWp.regK [0, 1, 11] [] F61r1 [] (by kernel_rfl) (by rw [hC]; rfl) fun K hK => ?_
    simp (maxSteps := 2000000) [F61r1]
    (repeat refine ⟨by first | omega | (intros; omega) | assumption, ?_⟩); refine hK _ ?_
    refine AWp.cond true (by simp; omega) (fun _ => ?_) (fun he => by cases he)
    refine AWp.seq ?_
    refine AWp.regK [4] [false, false, true] F61r2 [{ r := oB l }] (by kernel_rfl) (by rw [hC]; rfl) fun K hK => ?_
    simp (maxSteps := 2000000) [F61r2]
    (repeat first | refine ⟨by first | (show freeP _ _ _ = true; kernel_rfl) | omega | (intros; omega) | assumption, ?_⟩ | refine ⟨by intros; exact callWk rfl (by repeat (first | exact WkL.nil | refine WkL.cons (by first | exact Wk.refl _ | exact Wk.nil _ | exact Wk.own (WkR.refl _)) ?_)) h2, ?_⟩); refine hK _ ?_
    repeat refine AWp.seq ?_
    refine AWp.ret ⟨.inr rfl, _, by simp [Tryz.results61] <;> rfl, ?_⟩
    exact .closed rfl
theorem StrR_ok (l : List Int) (s : ByteArray) (hs : s.size ≤ 4194304) (hl : l.length ≤ 268435456) : Con Tryz.prog 62 [rB l, sval s] (oB (l ++ txtE s)) := by
  have h2 := with_ok l [] (by simp; omega)
  rw [List.append_nil] at h2
  refine Con.of_code Tryz.func62 (by kernel_rfl) rfl (by simp [Tryz.ntmps62]) fun C hC hM => ?_
  refine AWp.seq ?_
  refine AWp.regK [0, 1] [true] F62r0 [] (by kernel_rfl) (by rw [hC]; rfl) fun K hK => ?_
  simp (maxSteps := 2000000) [F62r0]
  refine hK _ ?_
  refine AWp.seq ?_
  refine AWp.regK [1, 5] [false, false, true] F62r1 [{ r := oB l }] (by kernel_rfl) (by rw [hC]; rfl) fun K hK => ?_
  simp (maxSteps := 2000000) [F62r1]
  (repeat first | refine ⟨by first | (show freeP _ _ _ = true; kernel_rfl) | omega | (intros; omega) | assumption, ?_⟩ | refine ⟨by intros; exact callWk rfl (by repeat (first | exact WkL.nil | refine WkL.cons (by first | exact Wk.refl _ | exact Wk.nil _ | exact Wk.own (WkR.refl _)) ?_)) h2, ?_⟩); refine hK _ ?_
  refine AWp.seq ?_
  refine AWp.seq ?_
  refine AWp.regK [1, 5, 6] [true] F62r2 [] (by kernel_rfl) (by rw [hC]; rfl) fun K hK => ?_
  simp (maxSteps := 2000000) [F62r2]
  refine hK _ ?_
  refine AWp.block ?_
  refine AWp.loopG (fun k : Nat => { tm := [(1, sval s), (5, oB (l ++ escL ((byL s).take k))), (6, ival k)], hp := [] }) (fun k => k ≤ s.size) (fun k => s.size - k) 0 (by omega) (by simp [escL]) (fun k hk => ?_)
  have hel : (escL ((byL s).take k)).length ≤ 2 * s.size := by
    have := escL_len ((byL s).take k)
    rw [List.length_take, byL_len] at this; omega
  have hcl : (l ++ escL ((byL s).take k)).length ≤ l.length + 2 * s.size := by simp; omega
  refine AWp.seq ?_
  refine AWp.seq ?_
  refine AWp.regK [1, 5, 6, 12] [] F62r3 [] (by kernel_rfl) (by rw [hC]; rfl) fun K hK => ?_
  simp (maxSteps := 2000000) [F62r3]
  refine hK _ ?_
  refine AWp.cond _ (by rfl) (fun hlt => ?_) (fun hge => ?_)
  · skip
    have hlt : k < s.size := by simpa using hlt
    have hst : l ++ escL ((byL s).take (k + 1)) = l ++ escL ((byL s).take k) ++ esc1 (chr s k) := by rw [byL_take s k hlt, escL_app]; simp [escL]
    generalize l ++ escL ((byL s).take k) = cur at *
    refine AWp.skip ?_
    refine AWp.seq ?_
    refine AWp.block ?_
    refine AWp.seq ?_
    refine AWp.regK [1, 5, 6] [true, false, false, false, false, false, true] F62r5 [] (by kernel_rfl) (by rw [hC]; rfl) fun K hK => ?_
    simp (maxSteps := 2000000) [F62r5, hlt]
    (repeat refine ⟨by first | omega | (intros; omega) | (intros; exact sz_pos (by assumption)) | assumption, ?_⟩); refine hK _ ?_
    refine AWp.seq ?_
    refine AWp.regK [1, 5, 6, 24] [] F62r6 [] (by kernel_rfl) (by rw [hC]; rfl) fun K hK => ?_
    simp (maxSteps := 2000000) [F62r6, hlt]
    (repeat refine ⟨by first | omega | (intros; omega) | (intros; exact sz_pos (by assumption)) | assumption, ?_⟩); refine hK _ ?_
    refine AWp.cond _ (by rfl) (fun h0 => ?_) (fun h0 => ?_)
    · skip
      have h0 : chr s k = 0 := by simpa using h0
      refine AWp.regK [1, 5, 6] [true, false, false, true] F62r7 [] (by kernel_rfl) (by rw [hC]; rfl) fun K hK => ?_
      simp (maxSteps := 2000000) [F62r7, hlt]
      (repeat refine ⟨by first | omega | (intros; omega) | assumption, ?_⟩); refine hK _ ?_
      refine AWp.regK [1, 5, 6] [false, false, true] F62r4 [] (by kernel_rfl) (by rw [hC]; rfl) fun K hK => ?_
      simp (maxSteps := 2000000) [F62r4, hlt]
      (repeat refine ⟨by first | omega | (intros; omega) | assumption, ?_⟩); refine hK _ ?_
      refine ⟨k + 1, by omega, by omega, ?_⟩
      rw [hst]
      simp [wrap_nat k (by omega), esc1, h0, bt]
    have h0 : ¬ chr s k = 0 := by simpa using h0
    refine AWp.skip ?_
    refine AWp.regK [1, 5, 6] [false, false, true] F62r4 [] (by kernel_rfl) (by rw [hC]; rfl) fun K hK => ?_
    simp (maxSteps := 2000000) [F62r4]
    (repeat refine ⟨by first | omega | (intros; omega) | assumption, ?_⟩); refine hK _ ?_
    refine ⟨k + 1, by omega, by omega, ?_⟩
    rw [hst]
    simp [wrap_nat k (by omega), esc1, h0, bt]
  have hge : ¬ k < s.size := by simpa using hge
  rw [List.take_of_length_le (by rw [byL_len]; omega)] at hcl ⊢
  simp only [List.length_append] at hcl
  refine AWp.exit ?_
  refine AWp.seq ?_
  refine AWp.regK [4] [true, false, false, true] F62r8 [] (by kernel_rfl) (by rw [hC]; rfl) fun K hK => ?_
  simp (maxSteps := 2000000) [F62r8, show List.range 2 = [0, 1] from rfl]
  (repeat refine ⟨by first | omega | (intros; omega) | assumption, ?_⟩); refine hK _ ?_
  repeat refine AWp.seq ?_
  refine AWp.ret ⟨.inr rfl, _, by simp [Tryz.results62] <;> rfl, ?_⟩
  refine .clos ?_ rfl
  simp [bt, txtE]
theorem FlagR_ok (l : List Int) (f : Bool) (hl : l.length ≤ 268435456) : Con Tryz.prog 64 [rB l, bval f] (oB (l ++ flagE f)) := by
  have h1 := with_ok l [1] (by simp; omega)
  have h2 := with_ok l [0] (by simp; omega)
  refine Con.of_code Tryz.func64 (by kernel_rfl) rfl (by simp [Tryz.ntmps64]) fun C hC hM => ?_
  refine AWp.seq ?_
  refine AWp.regK [0, 1] [true] F64r0 [] (by kernel_rfl) (by rw [hC]; rfl) fun K hK => ?_
  simp (maxSteps := 2000000) [F64r0]
  refine hK _ ?_
  refine AWp.seq ?_
  refine AWp.seq ?_
  refine AWp.regK [0, 5] [] F64r1 [] (by kernel_rfl) (by rw [hC]; rfl) fun K hK => ?_
  simp (maxSteps := 2000000) [F64r1]
  refine hK _ ?_
  refine AWp.cond _ (by rfl) (fun h => ?_) (fun h => ?_)
  · skip
    refine AWp.seq ?_
    refine AWp.regK [4] [false, false, false, true] F64r2 [{ r := oB (l ++ [1]) }] (by kernel_rfl) (by rw [hC]; rfl) fun K hK => ?_
    simp (maxSteps := 2000000) [F64r2]
    (repeat first | refine ⟨by first | (show freeP _ _ _ = true; kernel_rfl) | omega | (intros; omega) | assumption, ?_⟩ | refine ⟨by intros; exact callWk rfl (by repeat (first | exact WkL.nil | refine WkL.cons (by first | exact Wk.refl _ | exact Wk.nil _ | exact Wk.own (WkR.refl _)) ?_)) h1, ?_⟩); refine hK _ ?_
    repeat refine AWp.seq ?_
    refine AWp.ret ⟨.inr rfl, _, by simp [Tryz.results64] <;> rfl, ?_⟩
    exact .clos (by simp [flagE, h]) rfl
  refine AWp.skip ?_
  refine AWp.seq ?_
  refine AWp.regK [4] [false, false, false, true] F64r3 [{ r := oB (l ++ [0]) }] (by kernel_rfl) (by rw [hC]; rfl) fun K hK => ?_
  simp (maxSteps := 2000000) [F64r3]
  (repeat first | refine ⟨by first | (show freeP _ _ _ = true; kernel_rfl) | omega | (intros; omega) | assumption, ?_⟩ | refine ⟨by intros; exact callWk rfl (by repeat (first | exact WkL.nil | refine WkL.cons (by first | exact Wk.refl _ | exact Wk.nil _ | exact Wk.own (WkR.refl _)) ?_)) h2, ?_⟩); refine hK _ ?_
  repeat refine AWp.seq ?_
  refine AWp.ret ⟨.inr rfl, _, by simp [Tryz.results64] <;> rfl, ?_⟩
  exact .clos (by simp [flagE, h]) rfl
theorem bigU_ok (s : ByteArray) (hs : s.size ≤ 4194304) (hp : 0 < s.size) (hm : ¬ chr s 0 = 45) : Con Tryz.prog 136 [sval s] (oB (bigU s)) := by
  have h1 := CountR_ok [128] s.size (by simp)
  have hce : cntE (s.size : Int) = numE 0 s.size := by unfold cntE; rw [if_pos (by omega)]; rfl
  rw [hce] at h1
  have hlen := numE_len 0 s.size (by omega)
  have h2 := with_ok ([128] ++ numE 0 s.size) (byL s) (by rw [byL_len]; simp; omega)
  have he : [128] ++ numE 0 s.size ++ byL s = bigU s := by simp [bigU]
  rw [he] at h2
  generalize [128] ++ numE 0 s.size = mid at *
  refine Con.of_code Tryz.func136 (by kernel_rfl) rfl (by simp [Tryz.ntmps136]) fun C hC hM => ?_
  refine AWp.seq ?_
  refine AWp.regK [0] [true] F136r0 [] (by kernel_rfl) (by rw [hC]; rfl) fun K hK => ?_
  simp (maxSteps := 2000000) [F136r0, hp]
  refine hK _ ?_
  refine AWp.seq ?_
  refine AWp.seq ?_
  refine AWp.regK [0, 5] [] F136r1 [] (by kernel_rfl) (by rw [hC]; rfl) fun K hK => ?_
  simp (maxSteps := 2000000) [F136r1, hp]
  (repeat refine ⟨by first | omega | (intros; omega) | (intros; exact sz_pos (by assumption)) | assumption, ?_⟩); refine hK _ ?_
  refine AWp.cond false (by simp [hm]) (fun he => by cases he) (fun _ => ?_)
  refine AWp.skip ?_
  refine AWp.seq ?_
  refine AWp.regK [2] [false, false, false, false, false, false, false, true] F136r3 [{ r := oB mid }, { r := oB (bigU s) }] (by kernel_rfl) (by rw [hC]; rfl) fun K hK => ?_
  simp (maxSteps := 2000000) [F136r3, byteRows_bt]
  (repeat first | refine ⟨by first | (show freeP _ _ _ = true; kernel_rfl) | omega | (intros; omega) | assumption, ?_⟩ | refine ⟨by intros; exact callWk rfl (by repeat (first | exact WkL.nil | refine WkL.cons (by first | exact Wk.refl _ | exact Wk.nil _ | exact Wk.own (WkR.refl _)) ?_)) h1, ?_⟩ | refine ⟨by intros; exact callWk rfl (by repeat (first | exact WkL.nil | refine WkL.cons (by first | exact Wk.refl _ | exact Wk.nil _ | exact Wk.own (WkR.refl _)) ?_)) h2, ?_⟩); refine hK _ ?_
  repeat refine AWp.seq ?_
  refine AWp.ret ⟨.inr rfl, _, by simp [Tryz.results136] <;> rfl, ?_⟩
  exact .closed rfl
theorem bigR_ok (s : ByteArray) (hs : s.size ≤ 4194304) (hN : Number s = true) : Con Tryz.prog 136 [sval s] (oB (bigE s)) := by
  have hp := Number_pos hN
  unfold bigE
  by_cases hm : chr s 0 = 45
  · rw [if_pos hm]
    have hd : 0 < (s.extract 1 s.size).size ∧ ¬ chr (s.extract 1 s.size) 0 = 45 := by
      unfold Number at hN
      by_cases h1 : 1 < s.size
      · rw [if_pos (by simp [h1, hm])] at hN
        simp only [Bool.and_eq_true] at hN
        have hz := size_extract1 s hp
        have hN2 := hN.2
        unfold numB at hN2
        simp only [Bool.and_eq_true] at hN2
        rw [allFrom_step _ _ _ (by omega), Bool.and_eq_true] at hN2
        refine ⟨by omega, fun h => ?_⟩
        have := hN2.2.1
        rw [h] at this
        revert this; decide
      · rw [if_neg (by simp [h1])] at hN
        unfold numB at hN
        simp only [Bool.and_eq_true] at hN
        have := hN.2
        rw [allFrom_step _ _ _ hp, Bool.and_eq_true, hm] at this
        exact absurd this.1 (by decide)
    have hle := ext1_le s
    have h1 := bigU_ok (s.extract 1 s.size) (by omega) hd.1 hd.2
    have hlen := bigU_len (s.extract 1 s.size) (by omega)
    have h2 := turned_ok (bigU (s.extract 1 s.size)) (bigU_areB _ (by omega)) (by omega)
    refine Con.of_code Tryz.func136 (by kernel_rfl) rfl (by simp [Tryz.ntmps136]) fun C hC hM => ?_
    refine AWp.seq ?_
    refine AWp.regK [0] [true] F136r0 [] (by kernel_rfl) (by rw [hC]; rfl) fun K hK => ?_
    simp (maxSteps := 2000000) [F136r0, hp]
    refine hK _ ?_
    refine AWp.seq ?_
    refine AWp.seq ?_
    refine AWp.regK [0, 5] [] F136r1 [] (by kernel_rfl) (by rw [hC]; rfl) fun K hK => ?_
    simp (maxSteps := 2000000) [F136r1, hp]
    (repeat refine ⟨by first | omega | (intros; omega) | (intros; exact sz_pos (by assumption)) | assumption, ?_⟩); refine hK _ ?_
    refine AWp.cond true (by simp [hm]) (fun _ => ?_) (fun he => by cases he)
    refine AWp.seq ?_
    refine AWp.regK [2] [false, false, false, false, true] F136r2 [{ r := oB (bigU (s.extract 1 s.size)) }, { r := oB (flipL (bigU (s.extract 1 s.size))) }] (by kernel_rfl) (by rw [hC]; rfl) fun K hK => ?_
    simp (maxSteps := 2000000) [F136r2]
    (repeat first | refine ⟨by first | (show freeP _ _ _ = true; kernel_rfl) | omega | (intros; omega) | assumption, ?_⟩ | refine ⟨by intros; exact callWk rfl (by repeat (first | exact WkL.nil | refine WkL.cons (by first | exact Wk.refl _ | exact Wk.nil _ | exact Wk.own (WkR.refl _)) ?_)) h1, ?_⟩ | refine ⟨by intros; exact callWk rfl (by repeat (first | exact WkL.nil | refine WkL.cons (by first | exact Wk.refl _ | exact Wk.nil _ | exact Wk.own (WkR.refl _)) ?_)) h2, ?_⟩); refine hK _ ?_
    repeat refine AWp.seq ?_
    refine AWp.ret ⟨.inr rfl, _, by simp [Tryz.results136] <;> rfl, ?_⟩
    exact .closed rfl
  · rw [if_neg hm]
    exact bigU_ok s hs hp hm
theorem putR_ok : ∀ (n : Nat) (v : ValD), vsize v < n → vsize v ≤ 4194304 → form v = true → rng v → Con Tryz.prog 112 [valX v] (oB (valE v)) := by
  intro n
  induction n with
  | zero => intro v h; omega
  | succ n ih =>
    intro v hn hv hf hr
    have hsz := vsize_eq v
    have hlen := vsizes_len v.l
    have hk := form_kind hf
    have hff := hf
    rw [form_eq, Bool.and_eq_true] at hff
    have hrr := hr
    rw [rng_eq] at hrr
    have hvE := valE_eq v
    have hvl := valsE_len v.l hrr.2 (by omega)
    refine Con.of_code Tryz.func112 (by kernel_rfl) rfl (by simp [Tryz.ntmps112]) fun C hC hM => ?_
    refine AWp.seq ?_
    refine AWp.regK [1] [false, true] F112r0 [] (by kernel_rfl) (by rw [hC]; rfl) fun K hK => ?_
    simp (maxSteps := 2000000) [F112r0]
    refine hK _ ?_
    refine AWp.seq ?_
    refine AWp.regK [1, 3] [false, false, false, true] F112r1 [] (by kernel_rfl) (by rw [hC]; rfl) fun K hK => ?_
    simp (maxSteps := 2000000) [F112r1]
    (repeat refine ⟨by first | omega | (intros; omega) | assumption, ?_⟩); refine hK _ ?_
    refine AWp.seqJ (fun pre : List Int => { tm := [(1, .ptr 1 0), (3, oB pre)], hp := [(1, valB v)] }) (fun pre => pre.length ≤ 16777216 ∧ valE v = pre ++ (valsE v.l ++ [0])) ?_ (fun hJ => ?_)
    · skip
      rintro pre ⟨hp1, hp2⟩
      refine AWp.seq ?_
      refine AWp.seq ?_
      refine AWp.regK [1, 3, 4] [true] F112r13 [] (by kernel_rfl) (by rw [hC]; rfl) fun K hK => ?_
      simp (maxSteps := 2000000) [F112r13]
      refine hK _ ?_
      refine AWp.block ?_
      refine AWp.loopG (fun k : Nat => { tm := [(1, .ptr 1 0), (3, oB (pre ++ valsE (v.l.take k))), (4, ival k)], hp := [(1, valB v)] }) (fun k => k ≤ v.l.length) (fun k => v.l.length - k) 0 (by omega) (by simp [valsE]) (fun k hk => ?_)
      have hvt := valsE_len (v.l.take k) (rngs_take _ _ hrr.2) (by have := vsizes_take_le v.l k; omega)
      have htl := vsizes_take_le v.l k
      have hcl : (pre ++ valsE (v.l.take k)).length ≤ 16777216 + 12 * vsizes (v.l.take k) := by simp; omega
      refine AWp.seq ?_
      refine AWp.seq ?_
      refine AWp.regK [1, 3, 4, 46] [] F112r14 [] (by kernel_rfl) (by rw [hC]; rfl) fun K hK => ?_
      simp (maxSteps := 2000000) [F112r14]
      refine hK _ ?_
      refine AWp.cond _ (by rfl) (fun hlt => ?_) (fun hge => ?_)
      · skip
        have hlt : k < v.l.length := by simpa using hlt
        have hsn := vsizes_snoc v.l k hlt
        have htl2 := vsizes_take_le v.l (k + 1)
        have hst : pre ++ valsE (v.l.take (k + 1)) = pre ++ valsE (v.l.take k) ++ [1] ++ valE v.l[k] := by rw [valsE_take v.l k hlt]; simp
        generalize pre ++ valsE (v.l.take k) = cur at *
        have hm := List.getElem_mem hlt
        have h1 := ih v.l[k] (by omega) (by omega) (forms_mem hm hff.2) (rngs_mem hm hrr.2)
        have hvl1 := valE_len v.l[k] (rngs_mem hm hrr.2) (by omega)
        have h2 := with_ok (cur ++ [1]) (valE v.l[k]) (by simp; omega)
        rw [← hst, show rB (cur ++ [1]) = .rd 1 (bt cur ++ [[uval 1]]) from by simp [bt]] at h2
        generalize hnx : pre ++ valsE (v.l.take (k + 1)) = nxt at *
        refine AWp.skip ?_
        refine AWp.seq ?_
        refine AWp.block ?_
        refine AWp.regKL ops_mixed [[], [], [0, 1], [], [3], [], [3, 4, 5], [3, 4, 5, 6], [0, 1, 2, 3, 4, 5, 6, 7], [0, 1, 2, 3, 4, 5, 6, 7, 8], [0, 1, 2, 3, 4, 5, 6, 7, 8, 9]] [1, 3, 4] [true, false, false, false, false, false, false, false, false, false, true] F112r16 [{ r := oB (valE v.l[k]) }, { r := oB nxt }] (by kernel_rfl) (by rw [hC]; rfl) (by kernel_rfl) (by kernel_rfl) fun K hK => ?_
        simp (maxSteps := 2000000) [F112r16, hlt]
        (repeat first | refine ⟨by first | (show freeP _ _ _ = true; kernel_rfl) | omega | (intros; omega) | assumption, ?_⟩ | refine ⟨by intros; exact callOK rfl h1, ?_⟩ | refine ⟨by intros; exact callWk rfl (by repeat (first | exact WkL.nil | refine WkL.cons (by first | exact Wk.refl _ | exact Wk.nil _ | exact Wk.own (WkR.refl _)) ?_)) h2, ?_⟩); refine hK _ ?_
        refine AWp.regK [1, 3, 4] [false, false, true] F112r15 [] (by kernel_rfl) (by rw [hC]; rfl) fun K hK => ?_
        simp (maxSteps := 2000000) [F112r15]
        (repeat refine ⟨by first | omega | (intros; omega) | assumption, ?_⟩); refine hK _ ?_
        refine ⟨k + 1, by omega, by omega, ?_⟩
        rw [hnx]
        simp [wrap_nat k (by omega)]
      have hge : ¬ k < v.l.length := by simpa using hge
      refine AWp.exit ?_
      rw [List.take_of_length_le (by omega)] at hcl ⊢
      simp only [List.length_append] at hcl
      refine AWp.seq ?_
      refine AWp.regK [2] [true, false, false, true] F112r17 [] (by kernel_rfl) (by rw [hC]; rfl) fun K hK => ?_
      simp (maxSteps := 2000000) [F112r17]
      (repeat refine ⟨by first | omega | (intros; omega) | assumption, ?_⟩); refine hK _ ?_
      repeat refine AWp.seq ?_
      refine AWp.ret ⟨.inr rfl, _, by simp [Tryz.results112] <;> rfl, ?_⟩
      refine .clos ?_ rfl
      rw [hp2]
      simp [bt]
    · skip
      refine AWp.seq ?_
      refine AWp.regK [1, 3, 9] [] F112r2 [] (by kernel_rfl) (by rw [hC]; rfl) fun K hK => ?_
      simp (maxSteps := 2000000) [F112r2]
      refine hK _ ?_
      refine AWp.block ?_
      refine AWp.seq ?_
      refine AWp.regK [1, 3, 9, 10] [false, true] F112r3 [] (by kernel_rfl) (by rw [hC]; rfl) fun K hK => ?_
      simp (maxSteps := 2000000) [F112r3]
      refine hK _ ?_
      have hk1 : ([v.kind] : List Int).length ≤ 268435456 := by simp
      have hs := numI_len v.n hrr.1.1 hrr.1.2
      refine AWp.cond _ (by rfl) (fun h1 => ?_) (fun h1 => ?_)
      · skip
        have h1 : v.kind = 1 := by simpa using h1
        have hn := form_bool hf h1
        have hc := FlagR_ok [v.kind] (decide (v.n = 1)) hk1
        have he : [v.kind] ++ flagE (decide (v.n = 1)) = valE v := by
          rw [hvE, if_pos h1]; rcases hn with h | h <;> simp [flagE, h]
        rw [he] at hc
        refine AWp.seq ?_
        refine AWp.regK [2] [false, false, false, false, false, true] F112r4 [{ r := oB (valE v) }] (by kernel_rfl) (by rw [hC]; rfl) fun K hK => ?_
        simp (maxSteps := 2000000) [F112r4]
        (repeat first | refine ⟨by first | (show freeP _ _ _ = true; kernel_rfl) | omega | (intros; omega) | assumption, ?_⟩ | refine ⟨by intros; exact callWk rfl (by repeat (first | exact WkL.nil | refine WkL.cons (by first | exact Wk.refl _ | exact Wk.nil _ | exact Wk.own (WkR.refl _)) ?_)) hc, ?_⟩); refine hK _ ?_
        repeat refine AWp.seq ?_
        refine AWp.ret ⟨.inr rfl, _, by simp [Tryz.results112] <;> rfl, ?_⟩
        exact .closed rfl
      have h1 : ¬ v.kind = 1 := by simpa using h1
      refine AWp.seq ?_
      refine AWp.regK [1, 3, 9, 17] [false, true] F112r5 [] (by kernel_rfl) (by rw [hC]; rfl) fun K hK => ?_
      simp (maxSteps := 2000000) [F112r5]
      refine hK _ ?_
      refine AWp.cond _ (by rfl) (fun h2 => ?_) (fun h2 => ?_)
      · skip
        have h2 : v.kind = 2 := by simpa using h2
        have hc := NumR_ok [v.kind] v.n hrr.1.1 hrr.1.2 hk1
        have he : [v.kind] ++ numI v.n = valE v := by rw [hvE, if_neg h1, if_pos h2]; rfl
        rw [he] at hc
        refine AWp.seq ?_
        refine AWp.regK [2] [false, false, false, false, true] F112r6 [{ r := oB (valE v) }] (by kernel_rfl) (by rw [hC]; rfl) fun K hK => ?_
        simp (maxSteps := 2000000) [F112r6]
        (repeat first | refine ⟨by first | (show freeP _ _ _ = true; kernel_rfl) | omega | (intros; omega) | assumption, ?_⟩ | refine ⟨by intros; exact callWk rfl (by repeat (first | exact WkL.nil | refine WkL.cons (by first | exact Wk.refl _ | exact Wk.nil _ | exact Wk.own (WkR.refl _)) ?_)) hc, ?_⟩); refine hK _ ?_
        repeat refine AWp.seq ?_
        refine AWp.ret ⟨.inr rfl, _, by simp [Tryz.results112] <;> rfl, ?_⟩
        exact .closed rfl
      have h2 : ¬ v.kind = 2 := by simpa using h2
      refine AWp.seq ?_
      refine AWp.regK [1, 3, 9, 23] [false, true] F112r7 [] (by kernel_rfl) (by rw [hC]; rfl) fun K hK => ?_
      simp (maxSteps := 2000000) [F112r7]
      refine hK _ ?_
      refine AWp.cond _ (by rfl) (fun h3 => ?_) (fun h3 => ?_)
      · skip
        have h3 : v.kind = 3 := by simpa using h3
        have hc := bigR_ok v.s (by omega) (form_big hf h3)
        have hbl := bigE_len v.s (by omega)
        have hc2 := with_ok [v.kind] (bigE v.s) (by simp; omega)
        have he : [v.kind] ++ bigE v.s = valE v := by rw [hvE, if_neg h1, if_neg h2, if_pos h3]; rfl
        rw [he] at hc2
        refine AWp.seq ?_
        refine AWp.regK [2] [false, false, false, false, false, true] F112r8 [{ r := oB (bigE v.s) }, { r := oB (valE v) }] (by kernel_rfl) (by rw [hC]; rfl) fun K hK => ?_
        simp (maxSteps := 2000000) [F112r8]
        (repeat first | refine ⟨by first | (show freeP _ _ _ = true; kernel_rfl) | omega | (intros; omega) | assumption, ?_⟩ | refine ⟨by intros; exact callOK rfl hc, ?_⟩ | refine ⟨by intros; exact callWk rfl (by repeat (first | exact WkL.nil | refine WkL.cons (by first | exact Wk.refl _ | exact Wk.nil _ | exact Wk.own (WkR.refl _)) ?_)) hc2, ?_⟩); refine hK _ ?_
        repeat refine AWp.seq ?_
        refine AWp.ret ⟨.inr rfl, _, by simp [Tryz.results112] <;> rfl, ?_⟩
        exact .closed rfl
      have h3 : ¬ v.kind = 3 := by simpa using h3
      refine AWp.seq ?_
      refine AWp.regK [1, 3, 9, 30] [false, true] F112r9 [] (by kernel_rfl) (by rw [hC]; rfl) fun K hK => ?_
      simp (maxSteps := 2000000) [F112r9]
      refine hK _ ?_
      refine AWp.cond _ (by rfl) (fun h4 => ?_) (fun h4 => ?_)
      · skip
        have h4 : v.kind = 4 := by simpa using h4
        have hc := StrR_ok [v.kind] v.s (by omega) hk1
        have he : [v.kind] ++ txtE v.s = valE v := by rw [hvE, if_neg h1, if_neg h2, if_neg h3, if_pos h4]; rfl
        rw [he] at hc
        refine AWp.seq ?_
        refine AWp.regK [2] [false, false, false, false, true] F112r10 [{ r := oB (valE v) }] (by kernel_rfl) (by rw [hC]; rfl) fun K hK => ?_
        simp (maxSteps := 2000000) [F112r10]
        (repeat first | refine ⟨by first | (show freeP _ _ _ = true; kernel_rfl) | omega | (intros; omega) | assumption, ?_⟩ | refine ⟨by intros; exact callWk rfl (by repeat (first | exact WkL.nil | refine WkL.cons (by first | exact Wk.refl _ | exact Wk.nil _ | exact Wk.own (WkR.refl _)) ?_)) hc, ?_⟩); refine hK _ ?_
        repeat refine AWp.seq ?_
        refine AWp.ret ⟨.inr rfl, _, by simp [Tryz.results112] <;> rfl, ?_⟩
        exact .closed rfl
      have h4 : ¬ v.kind = 4 := by simpa using h4
      refine AWp.seq ?_
      refine AWp.regK [1, 3, 36] [false, true] F112r11 [] (by kernel_rfl) (by rw [hC]; rfl) fun K hK => ?_
      simp (maxSteps := 2000000) [F112r11]
      refine hK _ ?_
      refine AWp.cond _ (by rfl) (fun h6 => ?_) (fun h6 => ?_)
      · skip
        have h6 : v.kind = 6 := by simpa using h6
        have hc := StrR_ok [v.kind] v.s (by omega) hk1
        have htl := txtE_len v.s
        refine AWp.regK [1, 3] [false, false, false, false, true] F112r12 [{ r := oB ([v.kind] ++ txtE v.s) }] (by kernel_rfl) (by rw [hC]; rfl) fun K hK => ?_
        simp (maxSteps := 2000000) [F112r12]
        (repeat first | refine ⟨by first | (show freeP _ _ _ = true; kernel_rfl) | omega | (intros; omega) | assumption, ?_⟩ | refine ⟨by intros; exact callWk rfl (by repeat (first | exact WkL.nil | refine WkL.cons (by first | exact Wk.refl _ | exact Wk.nil _ | exact Wk.own (WkR.refl _)) ?_)) hc, ?_⟩); refine hK _ ?_
        refine hJ _ ([v.kind] ++ txtE v.s) ⟨by simp; omega, ?_⟩ (by simp [valB])
        rw [hvE, if_neg h1, if_neg h2, if_neg h3, if_neg h4, if_neg (by omega)]; simp
      have h6 : ¬ v.kind = 6 := by simpa using h6
      refine AWp.skip ?_
      refine hJ _ [v.kind] ⟨by simp, ?_⟩ (by simp [valB, bt])
      rw [hvE, if_neg h1, if_neg h2, if_neg h3, if_neg h4, if_pos (by omega)]; simp
theorem ValueR_ok (l : List Int) (v : ValD) (hv : vsize v ≤ 4194304) (hr : rng v) (hl : l.length ≤ 268435456) : Con Tryz.prog 107 [rB l, valX v] (oB (l ++ valP v)) := by
  have hCk := Check_ok v hv
  unfold valP
  by_cases h : Check v = 0
  · rw [if_pos h]
    have h1 := putR_ok _ v (Nat.lt_succ_self _) hv (Check_form h) hr
    have hvl := valE_len v hr hv
    have h2 := with_ok l (valE v) (by omega)
    refine Con.of_code Tryz.func107 (by kernel_rfl) rfl (by simp [Tryz.ntmps107]) fun C hC hM => ?_
    refine AWp.seq ?_
    refine AWp.regK [0, 3] [false, true] F107r0 [] (by kernel_rfl) (by rw [hC]; rfl) fun K hK => ?_
    simp (maxSteps := 2000000) [F107r0]
    refine hK _ ?_
    refine AWp.seq ?_
    refine AWp.seq ?_
    refine AWp.regK [0, 3, 7] [] F107r1 [{ r := ival (Check v) }] (by kernel_rfl) (by rw [hC]; rfl) fun K hK => ?_
    simp (maxSteps := 2000000) [F107r1]
    (repeat first | refine ⟨by first | (show freeP _ _ _ = true; kernel_rfl) | omega | (intros; omega) | assumption, ?_⟩ | refine ⟨by intros; exact callOK rfl hCk, ?_⟩); refine hK _ ?_
    refine AWp.cond false (by simp [h]) (fun he => by cases he) (fun _ => ?_)
    refine AWp.skip ?_
    refine AWp.seq ?_
    refine AWp.regK [4] [false, false, false, false, true] F107r3 [{ r := oB (valE v) }, { r := oB (l ++ valE v) }] (by kernel_rfl) (by rw [hC]; rfl) fun K hK => ?_
    simp (maxSteps := 2000000) [F107r3]
    (repeat first | refine ⟨by first | (show freeP _ _ _ = true; kernel_rfl) | omega | (intros; omega) | assumption, ?_⟩ | refine ⟨by intros; exact callOK rfl h1, ?_⟩ | refine ⟨by intros; exact callWk rfl (by repeat (first | exact WkL.nil | refine WkL.cons (by first | exact Wk.refl _ | exact Wk.nil _ | exact Wk.own (WkR.refl _)) ?_)) h2, ?_⟩); refine hK _ ?_
    repeat refine AWp.seq ?_
    refine AWp.ret ⟨.inr rfl, _, by simp [Tryz.results107] <;> rfl, ?_⟩
    exact .closed rfl
  · rw [if_neg h, List.append_nil]
    have h2 := with_ok l [] (by simp; omega)
    rw [List.append_nil] at h2
    refine Con.of_code Tryz.func107 (by kernel_rfl) rfl (by simp [Tryz.ntmps107]) fun C hC hM => ?_
    refine AWp.seq ?_
    refine AWp.regK [0, 3] [false, true] F107r0 [] (by kernel_rfl) (by rw [hC]; rfl) fun K hK => ?_
    simp (maxSteps := 2000000) [F107r0]
    refine hK _ ?_
    refine AWp.seq ?_
    refine AWp.seq ?_
    refine AWp.regK [0, 3, 7] [] F107r1 [{ r := ival (Check v) }] (by kernel_rfl) (by rw [hC]; rfl) fun K hK => ?_
    simp (maxSteps := 2000000) [F107r1]
    (repeat first | refine ⟨by first | (show freeP _ _ _ = true; kernel_rfl) | omega | (intros; omega) | assumption, ?_⟩ | refine ⟨by intros; exact callOK rfl hCk, ?_⟩); refine hK _ ?_
    refine AWp.cond true (by simp [h]) (fun _ => ?_) (fun he => by cases he)
    refine AWp.seq ?_
    refine AWp.regK [4] [false, false, true] F107r2 [{ r := oB l }] (by kernel_rfl) (by rw [hC]; rfl) fun K hK => ?_
    simp (maxSteps := 2000000) [F107r2]
    (repeat first | refine ⟨by first | (show freeP _ _ _ = true; kernel_rfl) | omega | (intros; omega) | assumption, ?_⟩ | refine ⟨by intros; exact callWk rfl (by repeat (first | exact WkL.nil | refine WkL.cons (by first | exact Wk.refl _ | exact Wk.nil _ | exact Wk.own (WkR.refl _)) ?_)) h2, ?_⟩); refine hK _ ?_
    repeat refine AWp.seq ?_
    refine AWp.ret ⟨.inr rfl, _, by simp [Tryz.results107] <;> rfl, ?_⟩
    exact .closed rfl
end Go.Se
