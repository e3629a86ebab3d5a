/- The first example. -/
import Derived.Test.YtempphkfacccoaaSlF
import Derived.Test.YtempphkfacccoaaSlC
import Derived.Test.YtempphkfacccoaaSlSpG
set_option linter.unusedSimpArgs false
set_option linter.unusedVariables false
open Go Go.Aw Go.Proofs
namespace Go.Sl
-- function 9: corollary/corollarylaw14.awake: 91 slots; results ['(Go.ResultVar.tmp 0)']
def F9r0 : List ROp := [{ dst := some 0, op := .copy true (.const (.bool false)), after := [], guard := none }]
def F9r1 : List ROp := [{ dst := some 13, op := .build [Value.int .u8 0, Value.int .i64 0, Value.int .i64 0, Value.string ByteArray.empty, Value.int .u8 0, Value.int .i64 0, Value.string ByteArray.empty, Value.slice none 0 0, Value.slice none 0 0] [(0, 1, .const (.int .u8 2)), (3, 1, .const (.string { data := #[88] }))], after := [], guard := none },
  { dst := some 1, op := .alloc 42 [Value.int .u8 0, Value.int .i64 0, Value.int .i64 0, Value.string ByteArray.empty, Value.int .u8 0, Value.int .i64 0, Value.string ByteArray.empty, Value.slice none 0 0, Value.slice none 0 0], after := [], guard := none },
  { dst := none, op := .store 9 true (.tmp 1) (.tmp 13), after := [1, 0, 0, 1], guard := none }]
def F9r2 : List ROp := [{ dst := some 14, op := .build [Value.int .u8 0, Value.int .i64 0, Value.string ByteArray.empty, Value.slice none 0 0] [(0, 1, .const (.int .u8 2)), (1, 1, .const (.int .i64 1))], after := [], guard := none },
  { dst := some 15, op := .build [Value.int .u8 0, Value.int .i64 0, Value.int .i64 0, Value.string ByteArray.empty, Value.int .u8 0, Value.int .i64 0, Value.string ByteArray.empty, Value.slice none 0 0, Value.slice none 0 0] [(0, 1, .const (.int .u8 1)), (4, 4, .tmp 14)], after := [0], guard := none },
  { dst := some 2, op := .alloc 42 [Value.int .u8 0, Value.int .i64 0, Value.int .i64 0, Value.string ByteArray.empty, Value.int .u8 0, Value.int .i64 0, Value.string ByteArray.empty, Value.slice none 0 0, Value.slice none 0 0], after := [], guard := none },
  { dst := none, op := .store 9 true (.tmp 2) (.tmp 15), after := [2, 1, 0, 1, 2], guard := none }]
def F9r3 : List ROp := [{ dst := some 16, op := .load 9 true false (.tmp 1), after := [], guard := none },
  { dst := some 17, op := .bslice 42 9 [Value.int .u8 0, Value.int .i64 0, Value.int .i64 0, Value.string ByteArray.empty, Value.int .u8 0, Value.int .i64 0, Value.string ByteArray.empty, Value.slice none 0 0, Value.slice none 0 0] 1 [(0, .tmp 16)], after := [0], guard := none },
  { dst := some 18, op := .build [Value.int .u8 0, Value.int .i64 0, Value.int .i64 0, Value.string ByteArray.empty, Value.slice none 0 0] [(0, 1, .const (.int .u8 2)), (3, 1, .const (.string { data := #[113] })), (4, 1, .tmp 17)], after := [1], guard := none },
  { dst := some 19, op := .load 9 true false (.tmp 1), after := [], guard := none },
  { dst := some 20, op := .load 9 true false (.tmp 2), after := [], guard := none },
  { dst := some 21, op := .bslice 42 9 [Value.int .u8 0, Value.int .i64 0, Value.int .i64 0, Value.string ByteArray.empty, Value.int .u8 0, Value.int .i64 0, Value.string ByteArray.empty, Value.slice none 0 0, Value.slice none 0 0] 2 [(0, .tmp 19), (1, .tmp 20)], after := [3, 4], guard := none },
  { dst := some 22, op := .build [Value.int .u8 0, Value.int .i64 0, Value.int .i64 0, Value.string ByteArray.empty, Value.int .u8 0, Value.int .i64 0, Value.string ByteArray.empty, Value.slice none 0 0, Value.slice none 0 0] [(0, 1, .const (.int .u8 6)), (3, 1, .const (.string { data := #[43] })), (8, 1, .tmp 21)], after := [5], guard := none },
  { dst := some 23, op := .bslice 42 9 [Value.int .u8 0, Value.int .i64 0, Value.int .i64 0, Value.string ByteArray.empty, Value.int .u8 0, Value.int .i64 0, Value.string ByteArray.empty, Value.slice none 0 0, Value.slice none 0 0] 1 [(0, .tmp 22)], after := [6], guard := none },
  { dst := some 24, op := .build [Value.int .u8 0, Value.int .i64 0, Value.int .i64 0, Value.string ByteArray.empty, Value.slice none 0 0] [(0, 1, .const (.int .u8 4)), (3, 1, .const (.string { data := #[89] })), (4, 1, .tmp 23)], after := [7], guard := none },
  { dst := some 25, op := .load 9 true false (.tmp 1), after := [], guard := none },
  { dst := some 26, op := .bslice 42 9 [Value.int .u8 0, Value.int .i64 0, Value.int .i64 0, Value.string ByteArray.empty, Value.int .u8 0, Value.int .i64 0, Value.string ByteArray.empty, Value.slice none 0 0, Value.slice none 0 0] 1 [(0, .tmp 25)], after := [9], guard := none },
  { dst := some 27, op := .build [Value.int .u8 0, Value.int .i64 0, Value.int .i64 0, Value.string ByteArray.empty, Value.slice none 0 0] [(0, 1, .const (.int .u8 1)), (3, 1, .const (.string { data := #[112] })), (4, 1, .tmp 26)], after := [10], guard := none },
  { dst := some 28, op := .bslice 31 5 [Value.int .u8 0, Value.int .i64 0, Value.int .i64 0, Value.string ByteArray.empty, Value.slice none 0 0] 3 [(0, .tmp 18), (1, .tmp 24), (2, .tmp 27)], after := [2, 8, 11], guard := none },
  { dst := some 3, op := .copy true (.tmp 28), after := [12, 0, 1, 2, 3, 4, 5, 6, 7, 8, 9, 10, 11, 12], guard := none }]
def F9r4 : List ROp := [{ dst := some 30, op := .copy false (.tmp 3), after := [], guard := none },
  { dst := some 31, op := .call (.func 10) [.tmp 30], after := [0], guard := none },
  { dst := some 29, op := .copy false (.tmp 31), after := [1], guard := none },
  { dst := some 32, op := .ext (.tmp 29) 0, after := [2], guard := none },
  { dst := some 33, op := .ext (.tmp 29) 1, after := [2], guard := none },
  { dst := some 34, op := .ext (.tmp 29) 2, after := [2], guard := none },
  { dst := some 35, op := .ext (.tmp 29) 3, after := [2], guard := none },
  { dst := some 6, op := .alloc 28 [Value.int .i64 0, Value.int .i64 0], after := [], guard := none },
  { dst := some 4, op := .copy true (.tmp 32), after := [3, 1, 0, 1, 2, 3, 7], guard := none },
  { dst := some 5, op := .copy true (.tmp 33), after := [4, 8, 0, 1, 2, 3, 4, 7, 8], guard := none },
  { dst := none, op := .store 2 true (.tmp 6) (.tmp 34), after := [7, 5, 9, 0, 1, 2, 3, 4, 5, 7, 8, 9], guard := none },
  { dst := some 7, op := .copy true (.tmp 35), after := [6, 10, 0, 1, 2, 3, 4, 5, 6, 7, 8, 9, 10], guard := none }]
def F9r5 : List ROp := [{ dst := some 37, op := .copy false (.tmp 3), after := [], guard := none },
  { dst := some 38, op := .sub 5 (.tmp 37) none (some (.const (.int .i64 2))) none, after := [0], guard := none },
  { dst := some 39, op := .call (.func 10) [.tmp 38], after := [1], guard := none },
  { dst := some 36, op := .copy false (.tmp 39), after := [2], guard := none },
  { dst := some 40, op := .ext (.tmp 36) 0, after := [3], guard := none },
  { dst := some 41, op := .ext (.tmp 36) 1, after := [3], guard := none },
  { dst := some 42, op := .ext (.tmp 36) 2, after := [3], guard := none },
  { dst := some 43, op := .ext (.tmp 36) 3, after := [3], guard := none },
  { dst := some 10, op := .alloc 28 [Value.int .i64 0, Value.int .i64 0], after := [], guard := none },
  { dst := some 8, op := .copy true (.tmp 40), after := [4, 2, 0, 1, 2, 3, 4, 8], guard := none },
  { dst := some 9, op := .copy true (.tmp 41), after := [5, 9, 0, 1, 2, 3, 4, 5, 8, 9], guard := none },
  { dst := none, op := .store 2 true (.tmp 10) (.tmp 42), after := [8, 6, 10, 0, 1, 2, 3, 4, 5, 6, 8, 9, 10], guard := none },
  { dst := some 11, op := .copy true (.tmp 43), after := [7, 11, 0, 1, 2, 3, 4, 5, 6, 7, 8, 9, 10, 11], guard := none }]
def F9r6 : List ROp := [{ dst := some 44, op := .copy false (.tmp 3), after := [], guard := none },
  { dst := some 45, op := .build [Value.int .i64 0, Value.int .i64 0, Value.string ByteArray.empty, Value.slice none 0 0, Value.slice none 0 0, Value.slice none 0 0] [(2, 1, .const (.string { data := #[112] })), (5, 1, .tmp 44)], after := [0], guard := none },
  { dst := some 46, op := .copy false (.tmp 3), after := [], guard := none },
  { dst := some 47, op := .sub 5 (.tmp 46) none (some (.const (.int .i64 2))) none, after := [2], guard := none },
  { dst := some 48, op := .build [Value.int .i64 0, Value.int .i64 0, Value.string ByteArray.empty, Value.slice none 0 0, Value.slice none 0 0, Value.slice none 0 0] [(2, 1, .const (.string { data := #[113] })), (5, 1, .tmp 47)], after := [3], guard := none },
  { dst := some 49, op := .copy false (.tmp 3), after := [], guard := none },
  { dst := some 50, op := .build [Value.int .i64 0, Value.int .i64 0, Value.string ByteArray.empty, Value.slice none 0 0, Value.slice none 0 0, Value.slice none 0 0] [(2, 1, .const (.string { data := #[122] })), (5, 1, .tmp 49)], after := [5], guard := none },
  { dst := some 51, op := .bslice 54 6 [Value.int .i64 0, Value.int .i64 0, Value.string ByteArray.empty, Value.slice none 0 0, Value.slice none 0 0, Value.slice none 0 0] 3 [(0, .tmp 45), (1, .tmp 48), (2, .tmp 50)], after := [1, 4, 6], guard := none },
  { dst := some 52, op := .build [Value.string ByteArray.empty, Value.slice none 0 0, Value.slice none 0 0, Value.slice none 0 0, Value.slice none 0 0, Value.slice none 0 0] [(4, 1, .tmp 51)], after := [7], guard := none },
  { dst := some 53, op := .call (.func 29) [.tmp 52], after := [8], guard := none },
  { dst := some 12, op := .copy true (.tmp 53), after := [9, 9, 0, 1, 2, 3, 4, 5, 6, 7, 8, 9], guard := none }]
def F9r7 : List ROp := [{ dst := some 54, op := .copy false (.tmp 7), after := [], guard := none },
  { dst := some 55, op := .bin .eql (.tmp 54) (.const (.int .i64 0)), after := [0], guard := none },
  { dst := some 56, op := .copy false (.tmp 55), after := [1], guard := none },
  { dst := some 57, op := .copy false (.tmp 4), after := [2], guard := some (56, true) },
  { dst := some 58, op := .bslice 3 1 [Value.int .i64 0] 3 [(0, .const (.int .i64 2)), (1, .const (.int .i64 0)), (2, .const (.int .i64 1))], after := [2], guard := some (56, true) },
  { dst := some 59, op := .call (.func 30) [.tmp 57, .tmp 58], after := [3, 4, 2, 2], guard := some (56, true) },
  { dst := some 60, op := .pick (.tmp 56) (.tmp 59) (.const (.bool false)), after := [2, 5], guard := none },
  { dst := some 61, op := .copy false (.tmp 60), after := [6, 5], guard := none },
  { dst := some 62, op := .copy false (.tmp 5), after := [7], guard := some (61, true) },
  { dst := some 63, op := .bslice 9 1 [Value.string ByteArray.empty] 2 [(0, .const (.string { data := #[88] })), (1, .const (.string { data := #[89] }))], after := [7], guard := some (61, true) },
  { dst := some 64, op := .call (.func 20) [.tmp 62, .tmp 63], after := [8, 9, 7, 7], guard := some (61, true) },
  { dst := some 65, op := .pick (.tmp 61) (.tmp 64) (.const (.bool false)), after := [7, 10], guard := none },
  { dst := some 66, op := .copy false (.tmp 65), after := [11, 10], guard := none },
  { dst := some 67, op := .copy false (.tmp 11), after := [12], guard := some (66, true) },
  { dst := some 68, op := .bin .eql (.tmp 67) (.const (.int .i64 71)), after := [13, 12], guard := some (66, true) },
  { dst := some 69, op := .pick (.tmp 66) (.tmp 68) (.const (.bool false)), after := [12, 14], guard := none },
  { dst := some 70, op := .copy false (.tmp 69), after := [15, 12], guard := none },
  { dst := some 71, op := .copy false (.tmp 12), after := [16], guard := some (70, true) },
  { dst := some 72, op := .len 0 (.tmp 71), after := [17, 16], guard := some (70, true) },
  { dst := some 73, op := .bin .eql (.tmp 72) (.const (.int .i64 3)), after := [18, 16], guard := some (70, true) },
  { dst := some 74, op := .pick (.tmp 70) (.tmp 73) (.const (.bool false)), after := [16, 19], guard := none },
  { dst := some 75, op := .copy false (.tmp 74), after := [20, 16], guard := none },
  { dst := some 76, op := .copy false (.tmp 12), after := [21], guard := some (75, true) },
  { dst := some 77, op := .iad 1 (.tmp 76) (.const (.int .i64 0)), after := [22, 21], guard := some (75, true) },
  { dst := some 78, op := .load 1 false false (.tmp 77), after := [23, 21], guard := some (75, true) },
  { dst := some 79, op := .pick (.tmp 75) (.tmp 78) (.const (.bool false)), after := [21, 24], guard := none },
  { dst := some 80, op := .copy false (.tmp 79), after := [25, 21], guard := none },
  { dst := some 81, op := .copy false (.tmp 12), after := [26], guard := some (80, true) },
  { dst := some 82, op := .iad 1 (.tmp 81) (.const (.int .i64 1)), after := [27, 26], guard := some (80, true) },
  { dst := some 83, op := .load 1 false false (.tmp 82), after := [28, 26], guard := some (80, true) },
  { dst := some 84, op := .pick (.tmp 80) (.tmp 83) (.const (.bool false)), after := [26, 29], guard := none },
  { dst := some 85, op := .copy false (.tmp 84), after := [30, 26], guard := none },
  { dst := some 86, op := .copy false (.tmp 12), after := [31], guard := some (85, true) },
  { dst := some 87, op := .iad 1 (.tmp 86) (.const (.int .i64 2)), after := [32, 31], guard := some (85, true) },
  { dst := some 88, op := .load 1 false false (.tmp 87), after := [33, 31], guard := some (85, true) },
  { dst := some 89, op := .un .not (.tmp 88), after := [34, 31], guard := some (85, true) },
  { dst := some 90, op := .pick (.tmp 85) (.tmp 89) (.const (.bool false)), after := [31, 35], guard := none },
  { dst := some 0, op := .copy true (.tmp 90), after := [36, 31, 0, 1, 2, 3, 4, 5, 6, 7, 8, 9, 10, 11, 12, 13, 14, 15, 16, 17, 18, 19, 20, 21, 22, 23, 24, 25, 26, 27, 28, 29, 30, 31, 32, 33, 34, 35, 36], guard := none }]
theorem awake_ok : Con Try.prog 9 [] (bval true) := by
  refine Con.of_code Try.func9 (by kernel_rfl) rfl (by simp [Try.ntmps9]) fun C hC hM => ?_
  refine AWp.seq ?_
  refine AWp.reg [true] F9r0 [] (by kernel_rfl) (by rw [hC]; rfl) fun K hK => ?_
  simp [F9r0]
  first | refine hK _ ?_ | refine ⟨by omega, hK _ ?_⟩ | refine ⟨by omega, by omega, hK _ ?_⟩ | refine ⟨by omega, by omega, by omega, hK _ ?_⟩ | refine ⟨by omega, by omega, by omega, by omega, hK _ ?_⟩
  refine AWp.seq ?_
  refine AWp.reg [false, false, true] F9r1 [] (by kernel_rfl) (by rw [hC]; rfl) fun K hK => ?_
  simp [F9r1]
  first | refine hK _ ?_ | refine ⟨by omega, hK _ ?_⟩ | refine ⟨by omega, by omega, hK _ ?_⟩ | refine ⟨by omega, by omega, by omega, hK _ ?_⟩ | refine ⟨by omega, by omega, by omega, by omega, hK _ ?_⟩
  refine AWp.seq ?_
  refine AWp.reg [false, false, false, true] F9r2 [] (by kernel_rfl) (by rw [hC]; rfl) fun K hK => ?_
  simp [F9r2]
  first | refine hK _ ?_ | refine ⟨by omega, hK _ ?_⟩ | refine ⟨by omega, by omega, hK _ ?_⟩ | refine ⟨by omega, by omega, by omega, hK _ ?_⟩ | refine ⟨by omega, by omega, by omega, by omega, hK _ ?_⟩
  refine AWp.seq ?_
  refine AWp.reg [false, false, false, false, false, false, false, false, false, false, false, false, false, true] F9r3 [] (by kernel_rfl) (by rw [hC]; rfl) fun K hK => ?_
  simp [F9r3]
  first | refine hK _ ?_ | refine ⟨by omega, hK _ ?_⟩ | refine ⟨by omega, by omega, hK _ ?_⟩ | refine ⟨by omega, by omega, by omega, hK _ ?_⟩ | refine ⟨by omega, by omega, by omega, by omega, hK _ ?_⟩
  refine AWp.seq ?_
  refine AWp.freezeM [] { tm := [(3, .rd 5 (awL.map encL))], hp := [] } ⟨rfl, trivial, ⟨.inr ⟨rfl, .inl ⟨?_, ?_⟩⟩, trivial⟩, trivial⟩ ?_
  · rfl
  · show Wk (.fx 5 _) _
    refine .fx ?_
    repeat' first | exact Wk.refl _ | exact WkL.nil | exact WkR.nil | exact Wk.nil _ | refine WkR.cons ?_ ?_ | refine WkL.cons ?_ ?_ | refine Wk.fx ?_
  refine AWp.reg [false, false, false, false, false, false, false, false, true, true, true, true] F9r4 [{ r := encO (orderE awL) }] (by kernel_rfl) (by rw [hC]; rfl) fun K hK => ?_
  simp [F9r4, aw_order, encO]
  refine ⟨callOK rfl (Order_ok awL (by decide)), hK _ ?_⟩
  refine AWp.seq ?_
  refine AWp.reg [false, false, false, false, false, false, false, false, false, true, true, true, true] F9r5 [{ r := encO (orderE awL2) }] (by kernel_rfl) (by rw [hC]; rfl) fun K hK => ?_
  simp [F9r5, aw_order2, encO]
  refine ⟨by decide, callOK rfl (Order_ok awL2 (by decide)), hK _ ?_⟩
  have hro := Rounds_ok awM (by decide) (by decide)
  rw [show awM.rules = awR from rfl, aw_rounds] at hro
  refine AWp.seq ?_
  refine AWp.reg [false, false, false, false, false, false, false, false, false, false, true] F9r6 [{ r := .rd 1 (bools [true, true, false]) }] (by kernel_rfl) (by rw [hC]; rfl) fun K hK => ?_
  simp [F9r6]
  refine ⟨by decide, callWk rfl ?_ hro, hK _ ?_⟩
  · refine .cons ?_ .nil
    show Wk (.agg _) _
    refine .agg ?_
    repeat' first | exact Wk.refl _ | exact WkL.nil | exact WkR.nil | exact Wk.nil _ | refine WkR.cons ?_ ?_ | refine WkL.cons ?_ ?_ | refine Wk.fx ?_
  refine AWp.forget (s' := { tm := [(4, .rd 1 (ints [2, 0, 1])), (5, .rd 1 (texts [tX, tY])), (7, ival 0), (11, ival 71), (12, .rd 1 [[bval true], [bval true], [bval false]])], hp := [] }) (by simp [bools]) ?_
  have h1 := ints_ok [2, 0, 1] [2, 0, 1] (by decide) (by decide)
  have h2 := SameTexts_ok [tX, tY] [tX, tY] (by decide) (by decide)
  rw [sameL_iff.2 rfl] at h1 h2
  refine AWp.seq ?_
  refine AWp.reg [false, false, false, false, false, false, false, false, false, false, false, false, false, false, false, false, false, false, false, false, false, false, false, false, false, false, false, false, false, false, false, false, false, false, false, false, false, true] F9r7 [{ r := bval true }, { r := bval true }] (by kernel_rfl) (by rw [hC]; rfl) fun K hK => ?_
  simp [F9r7]
  refine ⟨callWk rfl ?_ h1, callWk rfl ?_ h2, hK _ ?_⟩
  · refine .cons (.refl _) (.cons ?_ .nil)
    refine .fx ?_
    repeat' first | exact Wk.refl _ | exact WkL.nil | exact WkR.nil | refine WkR.cons ?_ ?_ | refine WkL.cons ?_ ?_
  · refine .cons (.refl _) (.cons ?_ .nil)
    refine .fx ?_
    repeat' first | exact Wk.refl _ | exact WkL.nil | exact WkR.nil | refine WkR.cons ?_ ?_ | refine WkL.cons ?_ ?_
  repeat refine AWp.seq ?_
  refine AWp.ret ⟨.inr rfl, _, by simp [Try.results9] <;> rfl, ?_⟩
  exact .closed rfl
end Go.Sl
