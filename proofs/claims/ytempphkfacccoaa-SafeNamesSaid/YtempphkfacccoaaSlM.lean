/- The closed examples: what builds them. -/
import Derived.Test.YtempphkfacccoaaSlJ
import Derived.Test.YtempphkfacccoaaSlSpM
set_option linter.unusedSimpArgs false
set_option linter.unusedVariables false
open Go Go.Aw Go.Proofs
namespace Go.Sl
-- function 12: corollary/corollarylaw14.SafeNames$1: 6 slots; results ['(Go.ResultVar.cell 2 42)']
def F12r0 : List ROp := [{ dst := some 2, op := .alloc 42 [Value.int .u8 0, Value.int .i64 0, Value.int .i64 0, Value.string ByteArray.empty, Value.int .u8 0, Value.int .i64 0, Value.string ByteArray.empty, Value.slice none 0 0, Value.slice none 0 0], after := [], guard := none }]
def F12r1 : List ROp := [{ dst := some 3, op := .copy false (.tmp 0), after := [], guard := none },
  { dst := some 4, op := .build [Value.int .i64 0, Value.int .i64 0] [(0, 1, .const (.int .i64 7))], after := [], guard := none },
  { dst := some 5, op := .build [Value.int .u8 0, Value.int .i64 0, Value.int .i64 0, Value.string ByteArray.empty, Value.int .u8 0, Value.int .i64 0, Value.string ByteArray.empty, Value.slice none 0 0, Value.slice none 0 0] [(0, 1, .const (.int .u8 2)), (3, 1, .tmp 3), (1, 2, .tmp 4)], after := [0, 1], guard := none },
  { dst := none, op := .store 9 true (.tmp 2) (.tmp 5), after := [2, 0, 1, 2], guard := none }]
-- function 13: corollary/corollarylaw14.SafeNames$2: 9 slots; results ['(Go.ResultVar.cell 3 42)']
def F13r0 : List ROp := [{ dst := some 2, op := .box 42 (.tmp 0), after := [], guard := none },
  { dst := some 3, op := .alloc 42 [Value.int .u8 0, Value.int .i64 0, Value.int .i64 0, Value.string ByteArray.empty, Value.int .u8 0, Value.int .i64 0, Value.string ByteArray.empty, Value.slice none 0 0, Value.slice none 0 0], after := [], guard := none }]
def F13r1 : List ROp := [{ dst := some 4, op := .build [Value.int .i64 0, Value.int .i64 0] [(0, 1, .const (.int .i64 9))], after := [], guard := none },
  { dst := some 5, op := .load 9 true false (.tmp 2), after := [], guard := none },
  { dst := some 6, op := .load 9 true false (.tmp 1), after := [], guard := none },
  { dst := some 7, op := .bslice 42 9 [Value.int .u8 0, Value.int .i64 0, Value.int .i64 0, Value.string ByteArray.empty, Value.int .u8 0, Value.int .i64 0, Value.string ByteArray.empty, Value.slice none 0 0, Value.slice none 0 0] 2 [(0, .tmp 5), (1, .tmp 6)], after := [1, 2], guard := none },
  { dst := some 8, op := .build [Value.int .u8 0, Value.int .i64 0, Value.int .i64 0, Value.string ByteArray.empty, Value.int .u8 0, Value.int .i64 0, Value.string ByteArray.empty, Value.slice none 0 0, Value.slice none 0 0] [(0, 1, .const (.int .u8 6)), (3, 1, .const (.string { data := #[43] })), (1, 2, .tmp 4), (8, 1, .tmp 7)], after := [0, 3], guard := none },
  { dst := none, op := .store 9 true (.tmp 3) (.tmp 8), after := [4, 0, 1, 2, 3, 4], guard := none }]
-- function 14: corollary/corollarylaw14.SafeNames$3: 8 slots; results ['(Go.ResultVar.cell 4 31)']
def F14r0 : List ROp := [{ dst := some 4, op := .alloc 31 [Value.int .u8 0, Value.int .i64 0, Value.int .i64 0, Value.string ByteArray.empty, Value.slice none 0 0], after := [], guard := none }]
def F14r1 : List ROp := [{ dst := some 5, op := .copy false (.tmp 0), after := [], guard := none },
  { dst := some 6, op := .copy false (.tmp 1), after := [], guard := none },
  { dst := some 7, op := .build [Value.int .u8 0, Value.int .i64 0, Value.int .i64 0, Value.string ByteArray.empty, Value.slice none 0 0] [(0, 1, .const (.int .u8 1)), (3, 1, .tmp 5), (4, 1, .tmp 6)], after := [0, 1], guard := none },
  { dst := none, op := .store 5 true (.tmp 4) (.tmp 7), after := [2, 0, 1, 2], guard := none }]
-- function 15: corollary/corollarylaw14.SafeNames$4: 14 slots; results ['(Go.ResultVar.cell 6 52)']
def F15r0 : List ROp := [{ dst := some 6, op := .alloc 52 [Value.string ByteArray.empty, Value.slice none 0 0, Value.slice none 0 0, Value.slice none 0 0, Value.slice none 0 0, Value.slice none 0 0], after := [], guard := none }]
def F15r1 : List ROp := [{ dst := some 7, op := .copy false (.tmp 0), after := [], guard := none },
  { dst := some 8, op := .copy false (.tmp 1), after := [], guard := none },
  { dst := some 9, op := .build [Value.int .i64 0, Value.int .i64 0] [(0, 1, .const (.int .i64 3))], after := [], guard := none },
  { dst := some 10, op := .copy false (.tmp 2), after := [], guard := none },
  { dst := some 11, op := .build [Value.int .i64 0, Value.int .i64 0, Value.string ByteArray.empty, Value.slice none 0 0, Value.slice none 0 0, Value.slice none 0 0] [(2, 1, .tmp 7), (3, 1, .tmp 8), (0, 2, .tmp 9), (5, 1, .tmp 10)], after := [0, 1, 2, 3], guard := none },
  { dst := some 12, op := .bslice 54 6 [Value.int .i64 0, Value.int .i64 0, Value.string ByteArray.empty, Value.slice none 0 0, Value.slice none 0 0, Value.slice none 0 0] 1 [(0, .tmp 11)], after := [4], guard := none },
  { dst := some 13, op := .build [Value.string ByteArray.empty, Value.slice none 0 0, Value.slice none 0 0, Value.slice none 0 0, Value.slice none 0 0, Value.slice none 0 0] [(4, 1, .tmp 12)], after := [5], guard := none },
  { dst := none, op := .store 6 true (.tmp 6) (.tmp 13), after := [6, 0, 1, 2, 3, 4, 5, 6], guard := none }]
@[simp] theorem ag42 : isAggT Try.prog 42 = some true := by kernel_rfl
@[simp] theorem sz42 : szOf Try.prog 42 = some 9 := by kernel_rfl
@[simp] theorem ag31 : isAggT Try.prog 31 = some true := by kernel_rfl
@[simp] theorem sz31 : szOf Try.prog 31 = some 5 := by kernel_rfl
@[simp] theorem ag52 : isAggT Try.prog 52 = some true := by kernel_rfl
@[simp] theorem sz52 : szOf Try.prog 52 = some 6 := by kernel_rfl
theorem v_ok (s : ByteArray) : Con Try.prog 12 [sval s] (encX (exV s)) := by
  refine Con.of_code Try.func12 (by kernel_rfl) rfl (by simp [Try.ntmps12]) fun C hC hM => ?_
  refine AWp.seq ?_
  refine AWp.reg [] F12r0 [] (by kernel_rfl) (by rw [hC]; rfl) fun K hK => ?_
  simp [F12r0]
  first | refine hK _ ?_ | refine ⟨by omega, hK _ ?_⟩ | refine ⟨by omega, by omega, hK _ ?_⟩ | refine ⟨by omega, by omega, by omega, hK _ ?_⟩ | refine ⟨by omega, by omega, by omega, by omega, hK _ ?_⟩
  refine AWp.seq ?_
  refine AWp.reg [false, false, false, true] F12r1 [] (by kernel_rfl) (by rw [hC]; rfl) fun K hK => ?_
  simp [F12r1]
  first | refine hK _ ?_ | refine ⟨by omega, hK _ ?_⟩ | refine ⟨by omega, by omega, hK _ ?_⟩ | refine ⟨by omega, by omega, by omega, hK _ ?_⟩ | refine ⟨by omega, by omega, by omega, by omega, hK _ ?_⟩
  repeat refine AWp.seq ?_
  refine AWp.ret ⟨.inr rfl, _, by simp [Try.results12] <;> rfl, ?_⟩
  rw [encX, encE_eq]
  exact .agg (.cons (.closed rfl) (.cons (.closed rfl) (.cons (.closed rfl) (.cons (.closed rfl) (.cons (.closed rfl) (.cons (.closed rfl) (.cons (.closed rfl) (.cons (.closed rfl) (.cons .nil .nil)))))))))
theorem plus_ok (e : ExprD) : Con Try.prog 13 [encX e, .elt 9 [encE exOne] 0 0] (encX (exPlus e)) := by
  refine Con.of_code Try.func13 (by kernel_rfl) rfl (by simp [Try.ntmps13]) fun C hC hM => ?_
  refine AWp.seq ?_
  refine AWp.reg [] F13r0 [] (by kernel_rfl) (by rw [hC]; rfl) fun K hK => ?_
  simp [F13r0, encX, encE_eq]
  first | refine hK _ ?_ | refine ⟨by omega, hK _ ?_⟩ | refine ⟨by omega, by omega, hK _ ?_⟩ | refine ⟨by omega, by omega, by omega, hK _ ?_⟩ | refine ⟨by omega, by omega, by omega, by omega, hK _ ?_⟩
  refine AWp.seq ?_
  refine AWp.reg [false, false, false, false, false, true] F13r1 [] (by kernel_rfl) (by rw [hC]; rfl) fun K hK => ?_
  simp [F13r1, encX, encE_eq]
  first | refine hK _ ?_ | refine ⟨by omega, hK _ ?_⟩ | refine ⟨by omega, by omega, hK _ ?_⟩ | refine ⟨by omega, by omega, by omega, hK _ ?_⟩ | refine ⟨by omega, by omega, by omega, by omega, hK _ ?_⟩
  repeat refine AWp.seq ?_
  refine AWp.ret ⟨.inr rfl, _, by simp [Try.results13] <;> rfl, ?_⟩
  rw [encX, encE_eq]
  refine .agg (.cons (.closed rfl) (.cons (.closed rfl) (.cons (.closed rfl) (.cons (.closed rfl) (.cons (.closed rfl) (.cons (.closed rfl) (.cons (.closed rfl) (.cons (.closed rfl) (.cons ?_ .nil)))))))))
  have : (List.map (fun i => List.take 9 (List.drop (i * 9) (encE e ++ encE exOne))) (List.range 2)) = List.map encE (exPlus e).args := by
    show [List.take 9 (List.drop (0 * 9) (encE e ++ encE exOne)), List.take 9 (List.drop (1 * 9) (encE e ++ encE exOne))] = [encE e, encE exOne]
    simp [List.take_append, List.drop_append, List.take_of_length_le (show (encE exOne).length ≤ 9 by rw [encE_len]; exact Nat.le_refl 9)]
  rw [encE_eq, encE_eq exOne] at this
  rw [← this]
  exact .fx
theorem atom_ok (s : ByteArray) (l : List ExprD) : Con Try.prog 14 [sval s, .rd 9 (l.map encE)] (.agg (encL (litA s l))) := by
  refine Con.of_code Try.func14 (by kernel_rfl) rfl (by simp [Try.ntmps14]) fun C hC hM => ?_
  refine AWp.seq ?_
  refine AWp.reg [] F14r0 [] (by kernel_rfl) (by rw [hC]; rfl) fun K hK => ?_
  simp [F14r0]
  first | refine hK _ ?_ | refine ⟨by omega, hK _ ?_⟩ | refine ⟨by omega, by omega, hK _ ?_⟩ | refine ⟨by omega, by omega, by omega, hK _ ?_⟩ | refine ⟨by omega, by omega, by omega, by omega, hK _ ?_⟩
  refine AWp.seq ?_
  refine AWp.reg [false, false, false, true] F14r1 [] (by kernel_rfl) (by rw [hC]; rfl) fun K hK => ?_
  simp [F14r1]
  first | refine hK _ ?_ | refine ⟨by omega, hK _ ?_⟩ | refine ⟨by omega, by omega, hK _ ?_⟩ | refine ⟨by omega, by omega, by omega, hK _ ?_⟩ | refine ⟨by omega, by omega, by omega, by omega, hK _ ?_⟩
  repeat refine AWp.seq ?_
  refine AWp.ret ⟨.inr rfl, _, by simp [Try.results14] <;> rfl, ?_⟩
  exact .closed rfl
def ruleC (s : ByteArray) (h : List ExprD) (l : List LitD) : AV :=
  .agg [sval ByteArray.empty, .val (.slice none 0 0), .val (.slice none 0 0), .val (.slice none 0 0), .rd 6 [[ival 3, ival 0, sval s, .rd 9 (h.map encE), .val (.slice none 0 0), .rd 5 (l.map encL)]], .val (.slice none 0 0)]
theorem rule_ok0 (s : ByteArray) (h : List ExprD) (l : List LitD) : Con Try.prog 15 [sval s, .rd 9 (h.map encE), .rd 5 (l.map encL)] (ruleC s h l) := by
  refine Con.of_code Try.func15 (by kernel_rfl) rfl (by simp [Try.ntmps15]) fun C hC hM => ?_
  refine AWp.seq ?_
  refine AWp.reg [] F15r0 [] (by kernel_rfl) (by rw [hC]; rfl) fun K hK => ?_
  simp [F15r0]
  first | refine hK _ ?_ | refine ⟨by omega, hK _ ?_⟩ | refine ⟨by omega, by omega, hK _ ?_⟩ | refine ⟨by omega, by omega, by omega, hK _ ?_⟩ | refine ⟨by omega, by omega, by omega, by omega, hK _ ?_⟩
  refine AWp.seq ?_
  refine AWp.reg [false, false, false, false, false, false, false, true] F15r1 [] (by kernel_rfl) (by rw [hC]; rfl) fun K hK => ?_
  simp [F15r1]
  first | refine hK _ ?_ | refine ⟨by omega, hK _ ?_⟩ | refine ⟨by omega, by omega, hK _ ?_⟩ | refine ⟨by omega, by omega, by omega, hK _ ?_⟩ | refine ⟨by omega, by omega, by omega, by omega, hK _ ?_⟩
  repeat refine AWp.seq ?_
  refine AWp.ret ⟨.inr rfl, _, by simp [Try.results15] <;> rfl, ?_⟩
  exact .agg (.cons (.closed rfl) (.cons (.closed rfl) (.cons (.closed rfl) (.cons (.closed rfl) (.cons .fx (.cons (.closed rfl) .nil))))))
theorem rule_ok (s : ByteArray) (h : List ExprD) (l : List LitD) : Con Try.prog 15 [sval s, .rd 9 (h.map encE), .rd 5 (l.map encL)] (encM (modR s h l)) :=
  (rule_ok0 s h l).res (.agg (.cons (.refl _) (.cons (.refl _) (.cons (.refl _) (.cons (.refl _) (.cons (.rd (.cons (.cons (.refl _) (.cons (.refl _) (.cons (.refl _) (.cons (.refl _) (.cons (.nil _) (.cons (.refl _) .nil)))))) .nil)) (.cons (.nil _) .nil))))))) rfl
end Go.Sl
