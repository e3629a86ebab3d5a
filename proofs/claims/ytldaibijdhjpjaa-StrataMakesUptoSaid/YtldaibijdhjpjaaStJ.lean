/- The example of the statements; strict. -/
import Derived.Test.YtldaibijdhjpjaaStI
import Derived.Test.YtldaibijdhjpjaaStD
import Derived.Test.YtldaibijdhjpjaaStSpJ
set_option linter.unusedSimpArgs false
set_option linter.unusedVariables false
open Go Go.Aw Go.Proofs
namespace Go.St
attribute [local simp] ints encE
@[local simp] theorem rg1 : List.range 1 = [0] := rfl
@[local simp] theorem rg2 : List.range 2 = [0, 1] := rfl
@[local simp] theorem rg3 : List.range 3 = [0, 1, 2] := rfl
@[local simp] theorem rg4 : List.range 4 = [0, 1, 2, 3] := rfl
@[simp] theorem ag52 : isAggT Try.prog 52 = some true := by kernel_rfl
@[simp] theorem sz52 : szOf Try.prog 52 = some 6 := by kernel_rfl
@[simp] theorem ag28 : isAggT Try.prog 28 = some true := by kernel_rfl
@[simp] theorem sz28 : szOf Try.prog 28 = some 6 := by kernel_rfl
-- function 19: corollary/corollarylaw15.strict: 12 slots; results ['(Go.ResultVar.tmp 4)']
def F19r0 : List ROp := [{ dst := some 2, op := .box 52 (.tmp 0), after := [], guard := none },
  { dst := some 3, op := .box 56 (.tmp 1), after := [], guard := none },
  { dst := some 4, op := .copy true (.const (.bool false)), after := [], guard := none }]
def F19r1 : List ROp := [{ dst := some 5, op := .fad 0 (.tmp 3), after := [], guard := none },
  { dst := some 6, op := .load 1 false false (.tmp 5), after := [0], guard := none },
  { dst := some 7, op := .bin .eql (.tmp 6) (.const (.int .u8 2)), after := [1], guard := none },
  { dst := some 8, op := .copy false (.tmp 7), after := [2], guard := none },
  { dst := some 9, op := .load 6 true false (.tmp 2), after := [3], guard := some (8, false) },
  { dst := some 10, op := .call (.func 26) [.tmp 9], after := [4, 3, 3], guard := some (8, false) },
  { dst := some 11, op := .pick (.tmp 8) (.const (.bool true)) (.tmp 10), after := [3, 5], guard := none },
  { dst := some 4, op := .copy true (.tmp 11), after := [6, 5, 0, 1, 2, 3, 4, 5, 6], guard := none }]
-- function 21: corollary/corollarylaw15.rule: 62 slots; results ['(Go.ResultVar.cell 10 52)']
def F21r0 : List ROp := [{ dst := some 10, op := .alloc 52 [Value.int .i64 0, Value.int .i64 0, Value.string ByteArray.empty, Value.slice none 0 0, Value.slice none 0 0, Value.slice none 0 0], after := [], guard := none }]
def F21r1 : List ROp := [{ dst := some 14, op := .copy false (.tmp 0), after := [], guard := none },
  { dst := some 15, op := .build [Value.int .i64 0, Value.int .i64 0] [(0, 1, .tmp 14), (1, 1, .const (.int .i64 1))], after := [0], guard := none },
  { dst := some 16, op := .copy false (.tmp 1), after := [], guard := none },
  { dst := some 17, op := .build [Value.int .i64 0, Value.int .i64 0, Value.string ByteArray.empty, Value.slice none 0 0, Value.slice none 0 0, Value.slice none 0 0] [(0, 2, .tmp 15), (2, 1, .tmp 16)], after := [1, 2], guard := none },
  { dst := some 11, op := .alloc 52 [Value.int .i64 0, Value.int .i64 0, Value.string ByteArray.empty, Value.slice none 0 0, Value.slice none 0 0, Value.slice none 0 0], after := [], guard := none },
  { dst := none, op := .store 6 true (.tmp 11) (.tmp 17), after := [4, 3, 0, 1, 2, 3, 4], guard := none }]
def F21r2 : List ROp := [{ dst := some 18, op := .copy false (.tmp 2), after := [], guard := none }]
def F21r3 : List ROp := [{ dst := some 19, op := .bslice 9 1 [Value.string ByteArray.empty] 2 [(0, .const (.string { data := #[] })), (1, .const (.string { data := #[99, 111, 117, 110, 116] }))], after := [], guard := none },
  { dst := some 20, op := .fad 4 (.tmp 11), after := [0], guard := none },
  { dst := none, op := .store 1 true (.tmp 20) (.tmp 19), after := [1, 0, 0], guard := none }]
def F21r4 : List ROp := [{ dst := some 12, op := .copy true (.const (.int .i64 0)), after := [], guard := none }]
def F21r5 : List ROp := [{ dst := some 21, op := .copy false (.tmp 12), after := [], guard := none },
  { dst := some 22, op := .copy false (.tmp 3), after := [], guard := none },
  { dst := some 23, op := .len 0 (.tmp 22), after := [1], guard := none },
  { dst := some 24, op := .bin .lss (.tmp 21) (.tmp 23), after := [0, 2], guard := none }]
def F21r6 : List ROp := [{ dst := some 25, op := .copy false (.tmp 12), after := [], guard := none },
  { dst := some 26, op := .bin .add (.tmp 25) (.const (.int .i64 1)), after := [0], guard := none },
  { dst := some 12, op := .copy true (.tmp 26), after := [1, 0, 1], guard := none }]
def F21r7 : List ROp := [{ dst := some 27, op := .fad 5 (.tmp 11), after := [], guard := none },
  { dst := some 28, op := .load 1 false true (.tmp 27), after := [0], guard := none },
  { dst := some 29, op := .copy false (.tmp 0), after := [], guard := none },
  { dst := some 30, op := .copy false (.tmp 12), after := [], guard := none },
  { dst := some 31, op := .bin .add (.const (.int .i64 2)) (.tmp 30), after := [3], guard := none },
  { dst := some 32, op := .build [Value.int .i64 0, Value.int .i64 0] [(0, 1, .tmp 29), (1, 1, .tmp 31)], after := [2, 4], guard := none },
  { dst := some 33, op := .copy false (.tmp 3), after := [], guard := none },
  { dst := some 34, op := .copy false (.tmp 12), after := [], guard := none },
  { dst := some 35, op := .iad 1 (.tmp 33) (.tmp 34), after := [6, 7], guard := none },
  { dst := some 36, op := .load 1 false false (.tmp 35), after := [8], guard := none },
  { dst := some 37, op := .build [Value.int .u8 0, Value.int .i64 0, Value.int .i64 0, Value.string ByteArray.empty, Value.slice none 0 0] [(0, 1, .const (.int .u8 1)), (1, 2, .tmp 32), (3, 1, .tmp 36)], after := [5, 9], guard := none },
  { dst := some 38, op := .bslice 56 5 [Value.int .u8 0, Value.int .i64 0, Value.int .i64 0, Value.string ByteArray.empty, Value.slice none 0 0] 1 [(0, .tmp 37)], after := [10], guard := none },
  { dst := some 39, op := .app 56 5 64 (.tmp 28) (.tmp 38), after := [1, 11], guard := none },
  { dst := some 40, op := .fad 5 (.tmp 11), after := [0, 1, 2, 3, 4, 5, 6, 7, 8, 9, 10, 11, 12], guard := none },
  { dst := none, op := .store 1 true (.tmp 40) (.tmp 39), after := [13, 12, 12, 0, 1, 2, 3, 4, 5, 6, 7, 8, 9, 10, 11, 12], guard := none }]
def F21r8 : List ROp := [{ dst := some 13, op := .copy true (.const (.int .i64 0)), after := [], guard := none }]
def F21r9 : List ROp := [{ dst := some 41, op := .copy false (.tmp 13), after := [], guard := none },
  { dst := some 42, op := .copy false (.tmp 4), after := [], guard := none },
  { dst := some 43, op := .len 0 (.tmp 42), after := [1], guard := none },
  { dst := some 44, op := .bin .lss (.tmp 41) (.tmp 43), after := [0, 2], guard := none }]
def F21r10 : List ROp := [{ dst := some 45, op := .copy false (.tmp 13), after := [], guard := none },
  { dst := some 46, op := .bin .add (.tmp 45) (.const (.int .i64 1)), after := [0], guard := none },
  { dst := some 13, op := .copy true (.tmp 46), after := [1, 0, 1], guard := none }]
def F21r11 : List ROp := [{ dst := some 47, op := .fad 5 (.tmp 11), after := [], guard := none },
  { dst := some 48, op := .load 1 false true (.tmp 47), after := [0], guard := none },
  { dst := some 49, op := .copy false (.tmp 0), after := [], guard := none },
  { dst := some 50, op := .copy false (.tmp 13), after := [], guard := none },
  { dst := some 51, op := .bin .add (.const (.int .i64 20)) (.tmp 50), after := [3], guard := none },
  { dst := some 52, op := .build [Value.int .i64 0, Value.int .i64 0] [(0, 1, .tmp 49), (1, 1, .tmp 51)], after := [2, 4], guard := none },
  { dst := some 53, op := .copy false (.tmp 4), after := [], guard := none },
  { dst := some 54, op := .copy false (.tmp 13), after := [], guard := none },
  { dst := some 55, op := .iad 1 (.tmp 53) (.tmp 54), after := [6, 7], guard := none },
  { dst := some 56, op := .load 1 false false (.tmp 55), after := [8], guard := none },
  { dst := some 57, op := .build [Value.int .u8 0, Value.int .i64 0, Value.int .i64 0, Value.string ByteArray.empty, Value.slice none 0 0] [(0, 1, .const (.int .u8 2)), (1, 2, .tmp 52), (3, 1, .tmp 56)], after := [5, 9], guard := none },
  { dst := some 58, op := .bslice 56 5 [Value.int .u8 0, Value.int .i64 0, Value.int .i64 0, Value.string ByteArray.empty, Value.slice none 0 0] 1 [(0, .tmp 57)], after := [10], guard := none },
  { dst := some 59, op := .app 56 5 64 (.tmp 48) (.tmp 58), after := [1, 11], guard := none },
  { dst := some 60, op := .fad 5 (.tmp 11), after := [0, 1, 2, 3, 4, 5, 6, 7, 8, 9, 10, 11, 12], guard := none },
  { dst := none, op := .store 1 true (.tmp 60) (.tmp 59), after := [13, 12, 12, 0, 1, 2, 3, 4, 5, 6, 7, 8, 9, 10, 11, 12], guard := none }]
def F21r12 : List ROp := [{ dst := some 61, op := .load 6 true false (.tmp 11), after := [], guard := none },
  { dst := none, op := .store 6 true (.tmp 10) (.tmp 61), after := [0, 0], guard := none }]
-- function 20: corollary/corollarylaw15.example: 17 slots; results ['(Go.ResultVar.cell 0 28)']
def F20r0 : List ROp := [{ dst := some 0, op := .alloc 28 [Value.string ByteArray.empty, Value.slice none 0 0, Value.slice none 0 0, Value.slice none 0 0, Value.slice none 0 0, Value.slice none 0 0], after := [], guard := none }]
def F20r1 : List ROp := [{ dst := some 1, op := .build [Value.int .i64 0, Value.int .i64 0, Value.bool false, Value.bool false, Value.string ByteArray.empty, Value.slice none 0 0] [(4, 1, .const (.string { data := #[101, 100, 103, 101] })), (3, 1, .const (.bool true))], after := [], guard := none },
  { dst := some 2, op := .build [Value.int .i64 0, Value.int .i64 0, Value.bool false, Value.bool false, Value.string ByteArray.empty, Value.slice none 0 0] [(4, 1, .const (.string { data := #[112, 97, 116, 104] }))], after := [], guard := none },
  { dst := some 3, op := .build [Value.int .i64 0, Value.int .i64 0, Value.bool false, Value.bool false, Value.string ByteArray.empty, Value.slice none 0 0] [(4, 1, .const (.string { data := #[100, 101, 103] }))], after := [], guard := none },
  { dst := some 4, op := .build [Value.int .i64 0, Value.int .i64 0, Value.bool false, Value.bool false, Value.string ByteArray.empty, Value.slice none 0 0] [(4, 1, .const (.string { data := #[102, 97, 114] }))], after := [], guard := none },
  { dst := some 5, op := .bslice 64 6 [Value.int .i64 0, Value.int .i64 0, Value.bool false, Value.bool false, Value.string ByteArray.empty, Value.slice none 0 0] 4 [(0, .tmp 1), (1, .tmp 2), (2, .tmp 3), (3, .tmp 4)], after := [0, 1, 2, 3], guard := none },
  { dst := some 6, op := .bslice 9 1 [Value.string ByteArray.empty] 1 [(0, .const (.string { data := #[101, 100, 103, 101] }))], after := [], guard := none },
  { dst := some 7, op := .call (.func 21) [.const (.int .i64 1), .const (.string { data := #[112, 97, 116, 104] }), .const (.bool false), .tmp 6, .const (.slice none 0 0)], after := [5], guard := none },
  { dst := some 8, op := .bslice 9 1 [Value.string ByteArray.empty] 2 [(0, .const (.string { data := #[112, 97, 116, 104] })), (1, .const (.string { data := #[101, 100, 103, 101] }))], after := [], guard := none },
  { dst := some 9, op := .call (.func 21) [.const (.int .i64 2), .const (.string { data := #[112, 97, 116, 104] }), .const (.bool false), .tmp 8, .const (.slice none 0 0)], after := [7, 6], guard := none },
  { dst := some 10, op := .bslice 9 1 [Value.string ByteArray.empty] 1 [(0, .const (.string { data := #[101, 100, 103, 101] }))], after := [], guard := none },
  { dst := some 11, op := .call (.func 21) [.const (.int .i64 3), .const (.string { data := #[100, 101, 103] }), .const (.bool true), .tmp 10, .const (.slice none 0 0)], after := [9, 8], guard := none },
  { dst := some 12, op := .bslice 9 1 [Value.string ByteArray.empty] 1 [(0, .const (.string { data := #[112, 97, 116, 104] }))], after := [], guard := none },
  { dst := some 13, op := .bslice 9 1 [Value.string ByteArray.empty] 1 [(0, .const (.string { data := #[100, 101, 103] }))], after := [], guard := none },
  { dst := some 14, op := .call (.func 21) [.const (.int .i64 4), .const (.string { data := #[102, 97, 114] }), .const (.bool false), .tmp 12, .tmp 13], after := [11, 12, 10], guard := none },
  { dst := some 15, op := .bslice 52 6 [Value.int .i64 0, Value.int .i64 0, Value.string ByteArray.empty, Value.slice none 0 0, Value.slice none 0 0, Value.slice none 0 0] 4 [(0, .tmp 7), (1, .tmp 9), (2, .tmp 11), (3, .tmp 14)], after := [6, 8, 10, 13], guard := none },
  { dst := some 16, op := .build [Value.string ByteArray.empty, Value.slice none 0 0, Value.slice none 0 0, Value.slice none 0 0, Value.slice none 0 0, Value.slice none 0 0] [(3, 1, .tmp 5), (4, 1, .tmp 15)], after := [4, 14], guard := none },
  { dst := none, op := .store 6 true (.tmp 0) (.tmp 16), after := [15, 13, 0, 1, 2, 3, 4, 5, 6, 7, 8, 9, 10, 11, 12, 13, 14, 15], guard := none }]
-- function 16: corollary/corollarylaw15.works: 36 slots; results ['(Go.ResultVar.tmp 0)']
def F16r0 : List ROp := [{ dst := some 0, op := .copy true (.const (.bool false)), after := [], guard := none }]
def F16r1 : List ROp := [{ dst := some 5, op := .call (.func 20) [], after := [], guard := none },
  { dst := some 6, op := .call (.func 14) [.tmp 5], after := [0, 0], guard := none },
  { dst := some 4, op := .copy false (.tmp 6), after := [1], guard := none },
  { dst := some 7, op := .ext (.tmp 4) 0, after := [2], guard := none },
  { dst := some 8, op := .ext (.tmp 4) 1, after := [2], guard := none },
  { dst := some 9, op := .ext (.tmp 4) 2, after := [2], guard := none },
  { dst := some 1, op := .alloc 42 [Value.slice none 0 0, Value.slice none 0 0, Value.slice none 0 0], after := [], guard := none },
  { dst := some 2, op := .alloc 32 [Value.int .i64 0, Value.int .i64 0], after := [], guard := none },
  { dst := none, op := .store 3 true (.tmp 1) (.tmp 7), after := [6, 3, 1, 0, 1, 2, 3, 6, 7], guard := none },
  { dst := none, op := .store 2 true (.tmp 2) (.tmp 8), after := [7, 4, 8, 0, 1, 2, 3, 4, 6, 7, 8], guard := none },
  { dst := some 3, op := .copy true (.tmp 9), after := [5, 9, 0, 1, 2, 3, 4, 5, 6, 7, 8, 9], guard := none }]
def F16r2 : List ROp := [{ dst := some 10, op := .copy false (.tmp 3), after := [], guard := none },
  { dst := some 11, op := .bin .eql (.tmp 10) (.const (.int .i64 0)), after := [0], guard := none },
  { dst := some 12, op := .copy false (.tmp 11), after := [1], guard := none },
  { dst := some 13, op := .fad 0 (.tmp 1), after := [2], guard := some (12, true) },
  { dst := some 14, op := .load 1 false false (.tmp 13), after := [3, 2], guard := some (12, true) },
  { dst := some 15, op := .bslice 3 1 [Value.int .i64 0] 4 [(0, .const (.int .i64 0)), (1, .const (.int .i64 0)), (2, .const (.int .i64 1)), (3, .const (.int .i64 2))], after := [2], guard := some (12, true) },
  { dst := some 16, op := .call (.func 15) [.tmp 14, .tmp 15], after := [4, 5, 2, 2], guard := some (12, true) },
  { dst := some 17, op := .pick (.tmp 12) (.tmp 16) (.const (.bool false)), after := [2, 6], guard := none },
  { dst := some 18, op := .copy false (.tmp 17), after := [7, 6], guard := none },
  { dst := some 19, op := .fad 1 (.tmp 1), after := [8], guard := some (18, true) },
  { dst := some 20, op := .load 1 false false (.tmp 19), after := [9, 8], guard := some (18, true) },
  { dst := some 21, op := .bslice 3 1 [Value.int .i64 0] 2 [(0, .const (.int .i64 0)), (1, .const (.int .i64 1))], after := [8], guard := some (18, true) },
  { dst := some 22, op := .bslice 3 1 [Value.int .i64 0] 1 [(0, .const (.int .i64 2))], after := [8], guard := some (18, true) },
  { dst := some 23, op := .bslice 3 1 [Value.int .i64 0] 1 [(0, .const (.int .i64 3))], after := [8], guard := some (18, true) },
  { dst := some 24, op := .bslice 37 1 [Value.slice none 0 0] 3 [(0, .tmp 21), (1, .tmp 22), (2, .tmp 23)], after := [11, 12, 13, 8], guard := some (18, true) },
  { dst := some 25, op := .call (.func 12) [.tmp 20, .tmp 24], after := [10, 14, 8, 8], guard := some (18, true) },
  { dst := some 26, op := .pick (.tmp 18) (.tmp 25) (.const (.bool false)), after := [8, 15], guard := none },
  { dst := some 27, op := .copy false (.tmp 26), after := [16, 15], guard := none },
  { dst := some 28, op := .fad 2 (.tmp 1), after := [17], guard := some (27, true) },
  { dst := some 29, op := .load 1 false false (.tmp 28), after := [18, 17], guard := some (27, true) },
  { dst := some 30, op := .bslice 3 1 [Value.int .i64 0] 2 [(0, .const (.int .i64 0)), (1, .const (.int .i64 1))], after := [17], guard := some (27, true) },
  { dst := some 31, op := .bslice 3 1 [Value.int .i64 0] 1 [(0, .const (.int .i64 2))], after := [17], guard := some (27, true) },
  { dst := some 32, op := .bslice 3 1 [Value.int .i64 0] 1 [(0, .const (.int .i64 3))], after := [17], guard := some (27, true) },
  { dst := some 33, op := .bslice 37 1 [Value.slice none 0 0] 3 [(0, .tmp 30), (1, .tmp 31), (2, .tmp 32)], after := [20, 21, 22, 17], guard := some (27, true) },
  { dst := some 34, op := .call (.func 12) [.tmp 29, .tmp 33], after := [19, 23, 17, 17], guard := some (27, true) },
  { dst := some 35, op := .pick (.tmp 27) (.tmp 34) (.const (.bool false)), after := [17, 24], guard := none },
  { dst := some 0, op := .copy true (.tmp 35), after := [25, 24, 0, 1, 2, 3, 4, 5, 6, 7, 8, 9, 10, 11, 12, 13, 14, 15, 16, 17, 18, 19, 20, 21, 22, 23, 24, 25], guard := none }]
theorem Grouped_con (r : RuleD) (hr : r.aggs.length ≤ 1048576) : Con Try.prog 26 [.agg (encRule r)] (bval (grouped r)) := Grouped_ok r hr
theorem strict_ok (r : RuleD) (l : LitD) (hr : r.aggs.length ≤ 1048576) : Con Try.prog 19 [.agg (encRule r), .agg (encLit l)] (bval (strictB r l)) := by
  have hg := Grouped_ok r hr
  refine Con.of_code Try.func19 (by kernel_rfl) rfl (by simp [Try.ntmps19]) fun C hC hM => ?_
  refine AWp.seq ?_
  refine AWp.reg [false, false, true] F19r0 [] (by kernel_rfl) (by rw [hC]; rfl) fun K hK => ?_
  simp [F19r0]
  first | refine hK _ ?_ | refine ⟨by omega, hK _ ?_⟩ | refine ⟨by omega, by omega, hK _ ?_⟩ | refine ⟨by omega, by omega, by omega, hK _ ?_⟩ | refine ⟨by omega, by omega, by omega, by omega, hK _ ?_⟩
  refine AWp.seq ?_
  by_cases h2 : l.kind = 2
  · skip
    refine AWp.reg [false, false, false, false, false, false, false, true] F19r1 [] (by kernel_rfl) (by rw [hC]; rfl) fun K hK => ?_
    simp [F19r1, h2]
    refine hK _ ?_
    repeat refine AWp.seq ?_
    refine AWp.ret ⟨.inr rfl, _, by simp [Try.results19] <;> rfl, ?_⟩
    simp [strictB, h2]
    exact .closed rfl
  · have h2' : (l.kind == 2) = false := by simpa using h2
    refine AWp.reg [false, false, false, false, false, false, false, true] F19r1 [{ r := bval (grouped r) }] (by kernel_rfl) (by rw [hC]; rfl) fun K hK => ?_
    simp [F19r1, h2']
    refine ⟨callOK rfl hg, hK _ ?_⟩
    repeat refine AWp.seq ?_
    refine AWp.ret ⟨.inr rfl, _, by simp [Try.results19] <;> rfl, ?_⟩
    simp [strictB, h2']
    exact .closed rfl
def st21 (line : Int) (nm : ByteArray) (aggs : List ByteArray) (atoms nots : List ByteArray) (body : List LitD) (ts : List (Nat × AV)) : AS := { tm := [(0, ival line), (3, .rd 1 (atoms.map encText)), (4, .rd 1 (nots.map encText)), (10, .ptr 10 0), (11, .ptr 11 0)] ++ ts, hp := [(10, .cells 52 [ival 0, ival 0, sval ByteArray.empty, .val (.slice none 0 0), .val (.slice none 0 0), .val (.slice none 0 0)]), (11, .cells 52 [ival line, ival 1, sval nm, .val (.slice none 0 0), .rd 1 (aggs.map encText), .own 56 5 (body.map encLit)])] }
theorem rule_ok (line : Int) (nm : ByteArray) (agg : Bool) (atoms nots : List ByteArray) (h1 : atoms.length ≤ 1000) (h2 : nots.length ≤ 1000) :
    Con Try.prog 21 [ival line, sval nm, bval agg, .rd 1 (atoms.map encText), .rd 1 (nots.map encText)] (.agg (encRule (ruleD line nm agg atoms nots))) := by
  refine Con.of_code Try.func21 (by kernel_rfl) rfl (by simp [Try.ntmps21]) fun C hC hM => ?_
  refine AWp.seq ?_
  refine AWp.reg [] F21r0 [] (by kernel_rfl) (by rw [hC]; rfl) fun K hK => ?_
  simp [F21r0]
  first | refine hK _ ?_ | refine ⟨by omega, hK _ ?_⟩ | refine ⟨by omega, by omega, hK _ ?_⟩ | refine ⟨by omega, by omega, by omega, hK _ ?_⟩ | refine ⟨by omega, by omega, by omega, by omega, hK _ ?_⟩
  refine AWp.seq ?_
  refine AWp.reg [false, false, false, false, false, true] F21r1 [] (by kernel_rfl) (by rw [hC]; rfl) fun K hK => ?_
  simp [F21r1]
  first | refine hK _ ?_ | refine ⟨by omega, hK _ ?_⟩ | refine ⟨by omega, by omega, hK _ ?_⟩ | refine ⟨by omega, by omega, by omega, hK _ ?_⟩ | refine ⟨by omega, by omega, by omega, by omega, hK _ ?_⟩
  refine AWp.seqJ (fun _ : Unit => st21 line nm (if agg then [⟨#[]⟩, countB] else []) atoms nots [] []) (fun _ => True) ?_ (fun hJ => ?_)
  · skip
    rintro - -
    have hag : (if agg then [⟨#[]⟩, countB] else []) = (ruleD line nm agg atoms nots).aggs := rfl
    rw [hag]
    refine AWp.seq ?_
    refine AWp.seq ?_
    refine AWp.reg [true] F21r4 [] (by kernel_rfl) (by rw [hC]; rfl) fun K hK => ?_
    simp [F21r4]
    first | refine hK _ ?_ | refine ⟨by omega, hK _ ?_⟩ | refine ⟨by omega, by omega, hK _ ?_⟩ | refine ⟨by omega, by omega, by omega, hK _ ?_⟩ | refine ⟨by omega, by omega, by omega, by omega, hK _ ?_⟩
    refine AWp.block ?_
    refine AWp.loopG (fun k : Nat => st21 line nm (ruleD line nm agg atoms nots).aggs atoms nots (litsFrom 1 line 2 0 (atoms.take k)) [(12, ival k)]) (fun k => k ≤ atoms.length) (fun k => atoms.length - k) 0 (by simp) (by simp [st21, litsFrom]) (fun k hk => ?_)
    have hll : (litsFrom 1 line 2 0 (atoms.take k)).length ≤ k := by rw [litsFrom_len]; simp; omega
    have hlt0 := fun h => litsFrom_take 1 line 2 atoms k h
    have hall : atoms.length ≤ k → litsFrom 1 line 2 0 (atoms.take k) = litsFrom 1 line 2 0 atoms := fun h => by rw [List.take_of_length_le h]
    revert hll hlt0 hall
    generalize litsFrom 1 line 2 0 (atoms.take k) = out
    intro hll hlt0 hall
    refine AWp.seq ?_
    refine AWp.seq ?_
    refine AWp.reg [] F21r5 [] (by kernel_rfl) (by rw [hC]; rfl) fun K hK => ?_
    simp [F21r5, st21]
    first | refine hK _ ?_ | refine ⟨by omega, hK _ ?_⟩ | refine ⟨by omega, by omega, hK _ ?_⟩ | refine ⟨by omega, by omega, by omega, hK _ ?_⟩ | refine ⟨by omega, by omega, by omega, by omega, hK _ ?_⟩
    refine AWp.cond (decide (k < atoms.length)) (by simp) (fun hlt => ?_) (fun hge => ?_)
    · skip
      have hlt : k < atoms.length := by simpa using hlt
      have hw : IntKind.i64.wrap (2 + (k : Int)) = 2 + (k : Int) := wrap_in (by omega) (by omega)
      refine AWp.skip ?_
      refine AWp.seq ?_
      refine AWp.block ?_
      refine AWp.regD ops_mixed [false, true, false, false, false, false, false, false, false, false, false, false, false, false, true] F21r7 [] (by kernel_rfl) (by rw [hC]; rfl) rfl (fun K hK => ?_) (by simp [F21r7, hlt, hw] <;> rfl)
      simp [F21r7, hlt, hw]
      first | refine hK _ ?_ | refine ⟨by omega, hK _ ?_⟩ | refine ⟨by omega, by omega, hK _ ?_⟩ | refine ⟨by omega, by omega, by omega, hK _ ?_⟩ | refine ⟨by omega, by omega, by omega, by omega, hK _ ?_⟩
      refine AWp.reg [false, false, true] F21r6 [] (by kernel_rfl) (by rw [hC]; rfl) fun K hK => ?_
      simp [F21r6, hlt, hw]
      first | refine hK _ ?_ | refine ⟨by omega, hK _ ?_⟩ | refine ⟨by omega, by omega, hK _ ?_⟩ | refine ⟨by omega, by omega, by omega, hK _ ?_⟩ | refine ⟨by omega, by omega, by omega, by omega, hK _ ?_⟩
      refine ⟨k + 1, by omega, by omega, ?_⟩
      rw [hlt0 hlt]
      simp [st21, wrap_nat k (by omega), nilO]
    have hge : ¬ k < atoms.length := by simpa using hge
    rw [hall (by omega)]
    refine AWp.exit ?_
    refine AWp.seq ?_
    refine AWp.seq ?_
    refine AWp.reg [true] F21r8 [] (by kernel_rfl) (by rw [hC]; rfl) fun K hK => ?_
    simp [F21r8]
    first | refine hK _ ?_ | refine ⟨by omega, hK _ ?_⟩ | refine ⟨by omega, by omega, hK _ ?_⟩ | refine ⟨by omega, by omega, by omega, hK _ ?_⟩ | refine ⟨by omega, by omega, by omega, by omega, hK _ ?_⟩
    refine AWp.block ?_
    have hbd : (ruleD line nm agg atoms nots).body = litsFrom 1 line 2 0 atoms ++ litsFrom 2 line 20 0 (nots.take nots.length) := by simp [ruleD]
    have hal : (litsFrom 1 line 2 0 atoms).length = atoms.length := litsFrom_len _ _ _ _ _
    revert hbd hal
    generalize litsFrom 1 line 2 0 atoms = l1
    intro hbd hal
    refine AWp.loopG (fun k : Nat => st21 line nm (ruleD line nm agg atoms nots).aggs atoms nots (l1 ++ litsFrom 2 line 20 0 (nots.take k)) [(13, ival k)]) (fun k => k ≤ nots.length) (fun k => nots.length - k) 0 (by simp) (by simp [st21, litsFrom]) (fun k hk => ?_)
    have hll : (litsFrom 2 line 20 0 (nots.take k)).length ≤ k := by rw [litsFrom_len]; simp; omega
    have hlt0 := fun h => litsFrom_take 2 line 20 nots k h
    have hall : nots.length ≤ k → (ruleD line nm agg atoms nots).body = l1 ++ litsFrom 2 line 20 0 (nots.take k) := fun h => by rw [hbd, List.take_of_length_le h, List.take_of_length_le (Nat.le_refl _)]
    revert hll hlt0 hall
    generalize litsFrom 2 line 20 0 (nots.take k) = out
    intro hll hlt0 hall
    refine AWp.seq ?_
    refine AWp.seq ?_
    refine AWp.reg [] F21r9 [] (by kernel_rfl) (by rw [hC]; rfl) fun K hK => ?_
    simp [F21r9, st21]
    first | refine hK _ ?_ | refine ⟨by omega, hK _ ?_⟩ | refine ⟨by omega, by omega, hK _ ?_⟩ | refine ⟨by omega, by omega, by omega, hK _ ?_⟩ | refine ⟨by omega, by omega, by omega, by omega, hK _ ?_⟩
    refine AWp.cond (decide (k < nots.length)) (by simp) (fun hlt => ?_) (fun hge => ?_)
    · skip
      have hlt : k < nots.length := by simpa using hlt
      have hw : IntKind.i64.wrap (20 + (k : Int)) = 20 + (k : Int) := wrap_in (by omega) (by omega)
      refine AWp.skip ?_
      refine AWp.seq ?_
      refine AWp.block ?_
      refine AWp.regD ops_mixed [false, true, false, false, false, false, false, false, false, false, false, false, false, false, true] F21r11 [] (by kernel_rfl) (by rw [hC]; rfl) rfl (fun K hK => ?_) (by simp [F21r11, hlt, hw] <;> rfl)
      simp [F21r11, hlt, hw]
      first | refine hK _ ?_ | refine ⟨by omega, hK _ ?_⟩ | refine ⟨by omega, by omega, hK _ ?_⟩ | refine ⟨by omega, by omega, by omega, hK _ ?_⟩ | refine ⟨by omega, by omega, by omega, by omega, hK _ ?_⟩
      refine AWp.reg [false, false, true] F21r10 [] (by kernel_rfl) (by rw [hC]; rfl) fun K hK => ?_
      simp [F21r10, hlt, hw]
      first | refine hK _ ?_ | refine ⟨by omega, hK _ ?_⟩ | refine ⟨by omega, by omega, hK _ ?_⟩ | refine ⟨by omega, by omega, by omega, hK _ ?_⟩ | refine ⟨by omega, by omega, by omega, by omega, hK _ ?_⟩
      refine ⟨k + 1, by omega, by omega, ?_⟩
      rw [hlt0 hlt]
      simp [st21, wrap_nat k (by omega), nilO]
    have hge : ¬ k < nots.length := by simpa using hge
    refine AWp.exit ?_
    refine AWp.seq ?_
    refine AWp.reg [false, true] F21r12 [] (by kernel_rfl) (by rw [hC]; rfl) fun K hK => ?_
    simp [F21r12]
    first | refine hK _ ?_ | refine ⟨by omega, hK _ ?_⟩ | refine ⟨by omega, by omega, hK _ ?_⟩ | refine ⟨by omega, by omega, by omega, hK _ ?_⟩ | refine ⟨by omega, by omega, by omega, by omega, hK _ ?_⟩
    repeat refine AWp.seq ?_
    refine AWp.ret ⟨.inr rfl, _, by simp [Try.results21] <;> rfl, ?_⟩
    have hr : encRule (ruleD line nm agg atoms nots) = [ival line, ival 1, sval nm, .val (.slice none 0 0), .rd 1 ((ruleD line nm agg atoms nots).aggs.map encText), .rd 5 ((l1 ++ out).map encLit)] := by rw [← hall (by omega)]; rfl
    rw [hr]
    simp
    exact .closed (by simp)
  · skip
    refine AWp.seq ?_
    refine AWp.reg [] F21r2 [] (by kernel_rfl) (by rw [hC]; rfl) fun K hK => ?_
    simp [F21r2]
    first | refine hK _ ?_ | refine ⟨by omega, hK _ ?_⟩ | refine ⟨by omega, by omega, hK _ ?_⟩ | refine ⟨by omega, by omega, by omega, hK _ ?_⟩ | refine ⟨by omega, by omega, by omega, by omega, hK _ ?_⟩
    cases agg with
    | true =>
      refine AWp.cond true (by simp) (fun _ => ?_) (fun he => by cases he)
      refine AWp.reg [false, false, true] F21r3 [] (by kernel_rfl) (by rw [hC]; rfl) fun K hK => ?_
      simp [F21r3]
      first | refine hK _ ?_ | refine ⟨by omega, hK _ ?_⟩ | refine ⟨by omega, by omega, hK _ ?_⟩ | refine ⟨by omega, by omega, by omega, hK _ ?_⟩ | refine ⟨by omega, by omega, by omega, by omega, hK _ ?_⟩
      refine hJ _ () trivial ?_
      simp [st21, countB]
    | false =>
      refine AWp.cond false (by simp) (fun he => by cases he) (fun _ => ?_)
      refine AWp.skip ?_
      refine hJ _ () trivial ?_
      simp [st21]
def relsA : List RelD := exMod.rels
theorem example_ok : Con Try.prog 20 [] (encMod exMod) := by
  have c1 := rule_ok 1 pathB false [edgeB] [] (by decide) (by decide)
  have c2 := rule_ok 2 pathB false [pathB, edgeB] [] (by decide) (by decide)
  have c3 := rule_ok 3 degB true [edgeB] [] (by decide) (by decide)
  have c4 := rule_ok 4 farB false [pathB] [degB] (by decide) (by decide)
  have e1 : encRule (ruleD 1 pathB false [edgeB] []) = encRule (exMod.rules[0]) := rfl
  refine Con.of_code Try.func20 (by kernel_rfl) rfl (by simp [Try.ntmps20]) fun C hC hM => ?_
  refine AWp.seq ?_
  refine AWp.reg [] F20r0 [] (by kernel_rfl) (by rw [hC]; rfl) fun K hK => ?_
  simp [F20r0]
  first | refine hK _ ?_ | refine ⟨by omega, hK _ ?_⟩ | refine ⟨by omega, by omega, hK _ ?_⟩ | refine ⟨by omega, by omega, by omega, hK _ ?_⟩ | refine ⟨by omega, by omega, by omega, by omega, hK _ ?_⟩
  refine AWp.seq ?_
  refine AWp.reg [false, false, false, false, false, false, false, false, false, false, false, false, false, false, false, false, true] F20r1 [{ r := .agg (encRule (ruleD 1 pathB false [edgeB] [])) }, { r := .agg (encRule (ruleD 2 pathB false [pathB, edgeB] [])) }, { r := .agg (encRule (ruleD 3 degB true [edgeB] [])) }, { r := .agg (encRule (ruleD 4 farB false [pathB] [degB])) }] (by kernel_rfl) (by rw [hC]; rfl) fun K hK => ?_
  simp [F20r1]
  refine ⟨⟨_, .cons (.closed rfl) (.cons (.closed rfl) (.cons (.closed rfl) (.cons .fx (.cons .nil .nil)))), c1⟩, ⟨_, .cons (.closed rfl) (.cons (.closed rfl) (.cons (.closed rfl) (.cons .fx (.cons .nil .nil)))), c2⟩, ⟨_, .cons (.closed rfl) (.cons (.closed rfl) (.cons (.closed rfl) (.cons .fx (.cons .nil .nil)))), c3⟩, ⟨_, .cons (.closed rfl) (.cons (.closed rfl) (.cons (.closed rfl) (.cons .fx (.cons .fx .nil)))), c4⟩, hK _ ?_⟩
  repeat refine AWp.seq ?_
  refine AWp.ret ⟨.inr rfl, _, by simp [Try.results20] <;> rfl, ?_⟩
  exact .agg (.cons (.closed rfl) (.cons (.closed rfl) (.cons (.closed rfl) (.cons .fx (.cons .fx (.cons .nil .nil))))))
theorem wkInts (l : List Nat) : Wk (.fx 1 (ints l)) (encInts l) := .fx (WkR.map fun _ _ => .refl _)
theorem Ints_fx (a b : List Nat) (ha : a.length ≤ 1048576) (hb : b.length ≤ 1048576) : Con Try.prog 15 [encInts a, .fx 1 (ints b)] (bval (decide (a = b))) := (Ints_ok a b ha hb).args (.cons (.refl _) (.cons (wkInts b) .nil))
theorem Rows_fx (a b : List (List Nat)) (ha : rowsOK a) (hb : rowsOK b) : Con Try.prog 12 [encRows a, .fx 1 (b.map fun r => [.fx 1 (ints r)])] (bval (decide (a = b))) :=
  (Rows_ok a b ha hb).args (.cons (.refl _) (.cons (.fx (WkR.map fun r _ => .cons (wkInts r) .nil)) .nil))
theorem works_ok : Con Try.prog 16 [] (bval true) := by
  have c0 := example_ok
  have c1 := Make_ok exMod exMod_ok exMod_small
  have c2 := Ints_fx [0, 0, 1, 2] [0, 0, 1, 2] (by decide) (by decide)
  have c3 := Rows_fx [[0, 1], [2], [3]] [[0, 1], [2], [3]] ⟨by decide, by decide⟩ ⟨by decide, by decide⟩
  rw [exMod_make] at c1
  refine Con.of_code Try.func16 (by kernel_rfl) rfl (by simp [Try.ntmps16]) fun C hC hM => ?_
  refine AWp.seq ?_
  refine AWp.reg [true] F16r0 [] (by kernel_rfl) (by rw [hC]; rfl) fun K hK => ?_
  simp [F16r0]
  first | refine hK _ ?_ | refine ⟨by omega, hK _ ?_⟩ | refine ⟨by omega, by omega, hK _ ?_⟩ | refine ⟨by omega, by omega, by omega, hK _ ?_⟩ | refine ⟨by omega, by omega, by omega, by omega, hK _ ?_⟩
  refine AWp.seq ?_
  refine AWp.reg [false, false, false, false, false, false, false, false, true, true, true] F16r1 [{ r := encMod exMod }, { r := encMakeR (exStrata, okE) }] (by kernel_rfl) (by rw [hC]; rfl) fun K hK => ?_
  simp [F16r1, encMakeR, encStrata, exStrata, okE]
  refine ⟨callOK rfl c0, callOK (by simp) c1, hK _ ?_⟩
  refine AWp.seq ?_
  refine AWp.reg [false, false, false, false, false, false, false, false, false, false, false, false, false, false, false, false, false, false, false, false, false, false, false, false, false, false, true] F16r2 [{ r := bval true }, { r := bval true }, { r := bval true }] (by kernel_rfl) (by rw [hC]; rfl) fun K hK => ?_
  simp [F16r2]
  refine ⟨callOK (by simp) c2, callOK (by simp) c3, callOK (by simp) c3, hK _ ?_⟩
  repeat refine AWp.seq ?_
  refine AWp.ret ⟨.inr rfl, _, by simp [Try.results16] <;> rfl, ?_⟩
  exact .closed rfl
end Go.St
