/- Texts in lists; the variables of expressions. -/
import Derived.Test.YtempphkfacccoaaProg
import Derived.Test.YtempphkfacccoaaSlSp
set_option linter.unusedSimpArgs false
set_option linter.unusedVariables false
open Go Go.Aw Go.Proofs
namespace Go.Sl
theorem ops_mixed : Try.prog.follows .mixedOrders = true := by kernel_rfl
-- function 11: corollary/corollarylaw14.in: 18 slots; results ['(Go.ResultVar.tmp 4)']
def F11r0 : List ROp := [{ dst := some 4, op := .copy true (.const (.bool false)), after := [], guard := none }]
def F11r1 : List ROp := [{ dst := some 5, op := .copy true (.const (.int .i64 0)), after := [], guard := none }]
def F11r2 : List ROp := [{ dst := some 6, op := .copy false (.tmp 5), after := [], guard := none },
  { dst := some 7, op := .copy false (.tmp 0), after := [], guard := none },
  { dst := some 8, op := .len 0 (.tmp 7), after := [1], guard := none },
  { dst := some 9, op := .bin .lss (.tmp 6) (.tmp 8), after := [0, 2], guard := none }]
def F11r3 : List ROp := [{ dst := some 10, op := .copy false (.tmp 5), after := [], guard := none },
  { dst := some 11, op := .bin .add (.tmp 10) (.const (.int .i64 1)), after := [0], guard := none },
  { dst := some 5, op := .copy true (.tmp 11), after := [1, 0, 1], guard := none }]
def F11r4 : List ROp := [{ dst := some 12, op := .copy false (.tmp 0), after := [], guard := none },
  { dst := some 13, op := .copy false (.tmp 5), after := [], guard := none },
  { dst := some 14, op := .iad 1 (.tmp 12) (.tmp 13), after := [0, 1], guard := none },
  { dst := some 15, op := .load 1 false false (.tmp 14), after := [2], guard := none },
  { dst := some 16, op := .copy false (.tmp 1), after := [], guard := none },
  { dst := some 17, op := .bin .eql (.tmp 15) (.tmp 16), after := [3, 4], guard := none }]
def F11r5 : List ROp := [{ dst := some 4, op := .copy true (.const (.bool true)), after := [], guard := none }]
def F11r6 : List ROp := [{ dst := some 4, op := .copy true (.const (.bool false)), after := [], guard := none }]
-- function 53: slices.Index[[]string,string]: 19 slots; results ['(Go.ResultVar.tmp 4)']
def F53r0 : List ROp := [{ dst := some 4, op := .copy true (.const (.int .i64 0)), after := [], guard := none }]
def F53r1 : List ROp := [{ dst := some 6, op := .copy false (.tmp 0), after := [], guard := none },
  { dst := some 7, op := .len 0 (.tmp 6), after := [0], guard := none },
  { dst := some 8, op := .copy false (.const (.int .i64 0)), after := [], guard := none }]
def F53r2 : List ROp := [{ dst := some 9, op := .bin .lss (.tmp 8) (.tmp 7), after := [], guard := none }]
def F53r3 : List ROp := [{ dst := some 10, op := .copy true (.tmp 8), after := [], guard := none },
  { dst := some 5, op := .copy true (.tmp 10), after := [0, 0], guard := none }]
def F53r4 : List ROp := [{ dst := some 11, op := .copy false (.tmp 1), after := [], guard := none },
  { dst := some 12, op := .copy false (.tmp 0), after := [], guard := none },
  { dst := some 13, op := .copy false (.tmp 5), after := [], guard := none },
  { dst := some 14, op := .iad 1 (.tmp 12) (.tmp 13), after := [1, 2], guard := none },
  { dst := some 15, op := .load 1 false false (.tmp 14), after := [3], guard := none },
  { dst := some 16, op := .bin .eql (.tmp 11) (.tmp 15), after := [0, 4], guard := none }]
def F53r5 : List ROp := [{ dst := some 17, op := .copy true (.tmp 5), after := [], guard := none },
  { dst := some 4, op := .copy true (.tmp 17), after := [0, 0], guard := none }]
def F53r6 : List ROp := [{ dst := some 18, op := .bin .add (.tmp 8) (.const (.int .i64 1)), after := [], guard := none },
  { dst := some 8, op := .copy false (.tmp 18), after := [0], guard := none }]
def F53r7 : List ROp := [{ dst := some 4, op := .copy true (.const (.int .i64 (-1))), after := [], guard := none }]
-- function 36: slices.Contains[[]string,string]: 9 slots; results ['(Go.ResultVar.tmp 4)']
def F36r0 : List ROp := [{ dst := some 4, op := .copy true (.const (.bool false)), after := [], guard := none }]
def F36r1 : List ROp := [{ dst := some 5, op := .copy false (.tmp 0), after := [], guard := none },
  { dst := some 6, op := .copy false (.tmp 1), after := [], guard := none },
  { dst := some 7, op := .call (.func 53) [.tmp 5, .tmp 6], after := [0, 1], guard := none },
  { dst := some 8, op := .bin .geq (.tmp 7) (.const (.int .i64 0)), after := [2], guard := none },
  { dst := some 4, op := .copy true (.tmp 8), after := [3, 2, 0, 1, 2, 3], guard := none }]
-- function 52: slices.IndexFunc[[]string,string]: 19 slots; results ['(Go.ResultVar.tmp 4)']
def F52r0 : List ROp := [{ dst := some 4, op := .copy true (.const (.int .i64 0)), after := [], guard := none }]
def F52r1 : List ROp := [{ dst := some 6, op := .copy false (.tmp 0), after := [], guard := none },
  { dst := some 7, op := .len 0 (.tmp 6), after := [0], guard := none },
  { dst := some 8, op := .copy false (.const (.int .i64 0)), after := [], guard := none }]
def F52r2 : List ROp := [{ dst := some 9, op := .bin .lss (.tmp 8) (.tmp 7), after := [], guard := none }]
def F52r3 : List ROp := [{ dst := some 10, op := .copy true (.tmp 8), after := [], guard := none },
  { dst := some 5, op := .copy true (.tmp 10), after := [0, 0], guard := none }]
def F52r4 : List ROp := [{ dst := some 11, op := .copy false (.tmp 1), after := [], guard := none },
  { dst := some 12, op := .copy false (.tmp 0), after := [], guard := none },
  { dst := some 13, op := .copy false (.tmp 5), after := [], guard := none },
  { dst := some 14, op := .iad 1 (.tmp 12) (.tmp 13), after := [1, 2], guard := none },
  { dst := some 15, op := .load 1 false false (.tmp 14), after := [3], guard := none },
  { dst := some 16, op := .call (.tmp 11) [.tmp 15], after := [0, 4], guard := none }]
def F52r5 : List ROp := [{ dst := some 17, op := .copy true (.tmp 5), after := [], guard := none },
  { dst := some 4, op := .copy true (.tmp 17), after := [0, 0], guard := none }]
def F52r6 : List ROp := [{ dst := some 18, op := .bin .add (.tmp 8) (.const (.int .i64 1)), after := [], guard := none },
  { dst := some 8, op := .copy false (.tmp 18), after := [0], guard := none }]
def F52r7 : List ROp := [{ dst := some 4, op := .copy true (.const (.int .i64 (-1))), after := [], guard := none }]
-- function 34: slices.ContainsFunc[[]string,string]: 9 slots; results ['(Go.ResultVar.tmp 4)']
def F34r0 : List ROp := [{ dst := some 4, op := .copy true (.const (.bool false)), after := [], guard := none }]
def F34r1 : List ROp := [{ dst := some 5, op := .copy false (.tmp 0), after := [], guard := none },
  { dst := some 6, op := .copy false (.tmp 1), after := [], guard := none },
  { dst := some 7, op := .call (.func 52) [.tmp 5, .tmp 6], after := [0, 1], guard := none },
  { dst := some 8, op := .bin .geq (.tmp 7) (.const (.int .i64 0)), after := [2], guard := none },
  { dst := some 4, op := .copy true (.tmp 8), after := [3, 2, 0, 1, 2, 3], guard := none }]
-- function 59: corollary/tree.Vars$1: 30 slots; results []
def F59r0 : List ROp := [{ dst := some 3, op := .box 42 (.tmp 0), after := [], guard := none }]
def F59r1 : List ROp := [{ dst := some 6, op := .fad 0 (.tmp 3), after := [], guard := none },
  { dst := some 7, op := .load 1 false false (.tmp 6), after := [0], guard := none },
  { dst := some 8, op := .bin .eql (.tmp 7) (.const (.int .u8 2)), after := [1], guard := none }]
def F59r2 : List ROp := [{ dst := some 9, op := .load 1 false false (.tmp 1), after := [], guard := none },
  { dst := some 10, op := .fad 3 (.tmp 3), after := [], guard := none },
  { dst := some 11, op := .load 1 false false (.tmp 10), after := [1], guard := none },
  { dst := some 12, op := .call (.func 36) [.tmp 9, .tmp 11], after := [0, 2], guard := none },
  { dst := some 13, op := .un .not (.tmp 12), after := [3], guard := none }]
def F59r3 : List ROp := [{ dst := some 14, op := .load 1 false true (.tmp 1), after := [], guard := none },
  { dst := some 15, op := .fad 3 (.tmp 3), after := [], guard := none },
  { dst := some 16, op := .load 1 false false (.tmp 15), after := [1], guard := none },
  { dst := some 17, op := .bslice 9 1 [Value.string ByteArray.empty] 1 [(0, .tmp 16)], after := [2], guard := none },
  { dst := some 18, op := .app 9 1 16 (.tmp 14) (.tmp 17), after := [0, 3], guard := none },
  { dst := none, op := .store 1 true (.tmp 1) (.tmp 18), after := [4, 4, 0, 1, 2, 3, 4], guard := none }]
def F59r4 : List ROp := [{ dst := some 19, op := .fad 8 (.tmp 3), after := [], guard := none },
  { dst := some 20, op := .load 1 false false (.tmp 19), after := [0], guard := none },
  { dst := some 21, op := .len 0 (.tmp 20), after := [1], guard := none },
  { dst := some 22, op := .copy false (.const (.int .i64 0)), after := [], guard := none }]
def F59r5 : List ROp := [{ dst := some 23, op := .bin .lss (.tmp 22) (.tmp 21), after := [], guard := none }]
def F59r6 : List ROp := [{ dst := some 24, op := .iad 9 (.tmp 20) (.tmp 22), after := [], guard := none },
  { dst := some 25, op := .load 9 true false (.tmp 24), after := [0], guard := none },
  { dst := some 5, op := .alloc 42 [Value.int .u8 0, Value.int .i64 0, Value.int .i64 0, Value.string ByteArray.empty, Value.int .u8 0, Value.int .i64 0, Value.string ByteArray.empty, Value.slice none 0 0, Value.slice none 0 0], after := [], guard := none },
  { dst := none, op := .store 9 true (.tmp 5) (.tmp 25), after := [2, 1, 0, 1, 2], guard := none }]
def F59r7 : List ROp := [{ dst := some 26, op := .load 1 false false (.tmp 2), after := [], guard := none },
  { dst := some 27, op := .load 9 true false (.tmp 5), after := [], guard := none },
  { dst := some 28, op := .call (.tmp 26) [.tmp 27], after := [0, 1], guard := none }]
def F59r8 : List ROp := [{ dst := some 29, op := .bin .add (.tmp 22) (.const (.int .i64 1)), after := [], guard := none },
  { dst := some 22, op := .copy false (.tmp 29), after := [0], guard := none }]
-- function 44: corollary/tree.Vars: 10 slots; results ['(Go.ResultVar.tmp 2)']
def F44r0 : List ROp := [{ dst := some 1, op := .box 42 (.tmp 0), after := [], guard := none },
  { dst := some 2, op := .copy true (.const (.slice none 0 0)), after := [], guard := none }]
def F44r1 : List ROp := [{ dst := some 3, op := .alloc 32 [Value.slice none 0 0], after := [], guard := none }]
def F44r2 : List ROp := [{ dst := some 4, op := .alloc 111 [Value.nilFunc], after := [], guard := none }]
def F44r3 : List ROp := [{ dst := some 5, op := .mkf (Go.Fn.func 59) [.tmp 3, .tmp 4], after := [], guard := none },
  { dst := none, op := .store 1 true (.tmp 4) (.tmp 5), after := [0, 0], guard := none }]
def F44r4 : List ROp := [{ dst := some 6, op := .load 1 false false (.tmp 4), after := [], guard := none },
  { dst := some 7, op := .load 9 true false (.tmp 1), after := [], guard := none },
  { dst := some 8, op := .call (.tmp 6) [.tmp 7], after := [0, 1], guard := none }]
def F44r5 : List ROp := [{ dst := some 9, op := .load 1 false false (.tmp 3), after := [], guard := none },
  { dst := some 2, op := .copy true (.tmp 9), after := [0, 0], guard := none }]
-- function 33: corollary/safe.vars: 6 slots; results ['(Go.ResultVar.tmp 2)']
def F33r0 : List ROp := [{ dst := some 2, op := .copy true (.const (.slice none 0 0)), after := [], guard := none }]
def F33r1 : List ROp := [{ dst := some 3, op := .copy false (.tmp 0), after := [], guard := none },
  { dst := some 4, op := .build [Value.int .u8 0, Value.int .i64 0, Value.int .i64 0, Value.string ByteArray.empty, Value.int .u8 0, Value.int .i64 0, Value.string ByteArray.empty, Value.slice none 0 0, Value.slice none 0 0] [(0, 1, .const (.int .u8 4)), (8, 1, .tmp 3)], after := [0], guard := none },
  { dst := some 5, op := .call (.func 44) [.tmp 4], after := [1], guard := none },
  { dst := some 2, op := .copy true (.tmp 5), after := [2, 2, 0, 1, 2], guard := none }]
def stIx (l : List ByteArray) (y : AV) (k : Nat) : AS := { tm := [(0, .rd 1 (texts l)), (1, y), (7, ival l.length), (8, ival k)], hp := [] }
@[simp] theorem texts_len (l : List ByteArray) : (texts l).length = l.length := by simp [texts]
@[simp] theorem texts_at (l : List ByteArray) (k : Nat) : (texts l)[k]? = (l[k]?).map encT := by simp [texts]
@[simp] theorem texts_get (l : List ByteArray) (k : Nat) (h : k < (texts l).length) : (texts l)[k] = [sval (l[k]'(by simpa using h))] := by simp [texts]
theorem texts_snoc (l : List ByteArray) (s : ByteArray) : texts l ++ [[.val (.string s)]] = texts (l ++ [s]) := by simp [texts]
theorem Index_ok (l : List ByteArray) (s : ByteArray) (hl : l.length ≤ 4194304) : Con Try.prog 53 [.rd 1 (texts l), sval s] (ival (idxF (fun x => decide (s = x)) l 0)) := by
  refine Con.of_code Try.func53 (by kernel_rfl) rfl (by simp [Try.ntmps53]) fun C hC hM => ?_
  refine AWp.seq ?_
  refine AWp.reg [true] F53r0 [] (by kernel_rfl) (by rw [hC]; rfl) fun K hK => ?_
  simp [F53r0]
  first | refine hK _ ?_ | refine ⟨by omega, hK _ ?_⟩ | refine ⟨by omega, by omega, hK _ ?_⟩ | refine ⟨by omega, by omega, by omega, hK _ ?_⟩ | refine ⟨by omega, by omega, by omega, by omega, hK _ ?_⟩
  refine AWp.seq ?_
  refine AWp.seq ?_
  refine AWp.reg [] F53r1 [] (by kernel_rfl) (by rw [hC]; rfl) fun K hK => ?_
  simp [F53r1]
  first | refine hK _ ?_ | refine ⟨by omega, hK _ ?_⟩ | refine ⟨by omega, by omega, hK _ ?_⟩ | refine ⟨by omega, by omega, by omega, hK _ ?_⟩ | refine ⟨by omega, by omega, by omega, by omega, hK _ ?_⟩
  refine AWp.block ?_
  refine AWp.loopG (stIx l (sval s)) (fun k => k ≤ l.length ∧ idxF (fun x => decide (s = x)) l 0 = idxF (fun x => decide (s = x)) (l.drop k) k) (fun k => l.length - k) 0 (by simp) (by simp [stIx]) (fun k hk => ?_)
  obtain ⟨hk1, hk2⟩ := hk
  refine AWp.seq ?_
  refine AWp.reg [] F53r2 [] (by kernel_rfl) (by rw [hC]; rfl) fun K hK => ?_
  simp [F53r2, stIx]
  first | refine hK _ ?_ | refine ⟨by omega, hK _ ?_⟩ | refine ⟨by omega, by omega, hK _ ?_⟩ | refine ⟨by omega, by omega, by omega, hK _ ?_⟩ | refine ⟨by omega, by omega, by omega, by omega, hK _ ?_⟩
  refine AWp.seq ?_
  refine AWp.cond (decide (k < l.length)) (by simp) (fun hlt => ?_) (fun hge => ?_)
  · skip
    have hlt : k < l.length := by simpa using hlt
    have hd := idxF_drop (fun x => decide (s = x)) l k hlt
    refine AWp.skip ?_
    refine AWp.seq ?_
    refine AWp.block ?_
    refine AWp.seq ?_
    refine AWp.reg [true, true] F53r3 [] (by kernel_rfl) (by rw [hC]; rfl) fun K hK => ?_
    simp [F53r3, hlt]
    first | refine hK _ ?_ | refine ⟨by omega, hK _ ?_⟩ | refine ⟨by omega, by omega, hK _ ?_⟩ | refine ⟨by omega, by omega, by omega, hK _ ?_⟩ | refine ⟨by omega, by omega, by omega, by omega, hK _ ?_⟩
    refine AWp.seq ?_
    refine AWp.reg [] F53r4 [] (by kernel_rfl) (by rw [hC]; rfl) fun K hK => ?_
    simp [F53r4, hlt]
    first | refine hK _ ?_ | refine ⟨by omega, hK _ ?_⟩ | refine ⟨by omega, by omega, hK _ ?_⟩ | refine ⟨by omega, by omega, by omega, hK _ ?_⟩ | refine ⟨by omega, by omega, by omega, by omega, hK _ ?_⟩
    refine AWp.cond (decide (s = l[k])) (by simp) (fun heq => ?_) (fun hne => ?_)
    · skip
      refine AWp.seq ?_
      refine AWp.reg [true, true] F53r5 [] (by kernel_rfl) (by rw [hC]; rfl) fun K hK => ?_
      simp [F53r5]
      first | refine hK _ ?_ | refine ⟨by omega, hK _ ?_⟩ | refine ⟨by omega, by omega, hK _ ?_⟩ | refine ⟨by omega, by omega, by omega, hK _ ?_⟩ | refine ⟨by omega, by omega, by omega, by omega, hK _ ?_⟩
      repeat refine AWp.seq ?_
      refine AWp.ret ⟨.inr rfl, _, by simp [Try.results53] <;> rfl, ?_⟩
      rw [hk2, hd, if_pos heq]
      exact .closed rfl
    refine AWp.skip ?_
    refine AWp.reg [] F53r6 [] (by kernel_rfl) (by rw [hC]; rfl) fun K hK => ?_
    simp [F53r6]
    first | refine hK _ ?_ | refine ⟨by omega, hK _ ?_⟩ | refine ⟨by omega, by omega, hK _ ?_⟩ | refine ⟨by omega, by omega, by omega, hK _ ?_⟩ | refine ⟨by omega, by omega, by omega, by omega, hK _ ?_⟩
    refine ⟨k + 1, ⟨by omega, by rw [hk2, hd, if_neg (by simpa using hne)]⟩, by omega, ?_⟩
    simp [stIx, wrap_nat k (by omega)]
  have hge : ¬ k < l.length := by simpa using hge
  refine AWp.exit ?_
  refine AWp.seq ?_
  refine AWp.reg [true] F53r7 [] (by kernel_rfl) (by rw [hC]; rfl) fun K hK => ?_
  simp [F53r7]
  first | refine hK _ ?_ | refine ⟨by omega, hK _ ?_⟩ | refine ⟨by omega, by omega, hK _ ?_⟩ | refine ⟨by omega, by omega, by omega, hK _ ?_⟩ | refine ⟨by omega, by omega, by omega, by omega, hK _ ?_⟩
  repeat refine AWp.seq ?_
  refine AWp.ret ⟨.inr rfl, _, by simp [Try.results53] <;> rfl, ?_⟩
  rw [hk2, List.drop_eq_nil_of_le (by omega)]
  exact .closed rfl
theorem Contains_ok (l : List ByteArray) (s : ByteArray) (hl : l.length ≤ 4194304) : Con Try.prog 36 [.rd 1 (texts l), sval s] (bval (hasT l s)) := by
  refine Con.of_code Try.func36 (by kernel_rfl) rfl (by simp [Try.ntmps36]) fun C hC hM => ?_
  refine AWp.seq ?_
  refine AWp.reg [true] F36r0 [] (by kernel_rfl) (by rw [hC]; rfl) fun K hK => ?_
  simp [F36r0]
  first | refine hK _ ?_ | refine ⟨by omega, hK _ ?_⟩ | refine ⟨by omega, by omega, hK _ ?_⟩ | refine ⟨by omega, by omega, by omega, hK _ ?_⟩ | refine ⟨by omega, by omega, by omega, by omega, hK _ ?_⟩
  refine AWp.seq ?_
  refine AWp.reg [false, false, false, false, true] F36r1 [{ r := ival (idxF (fun x => decide (s = x)) l 0) }] (by kernel_rfl) (by rw [hC]; rfl) fun K hK => ?_
  simp [F36r1]
  refine ⟨callOK rfl (Index_ok l s hl), hK _ ?_⟩
  repeat refine AWp.seq ?_
  refine AWp.ret ⟨.inr rfl, _, by simp [Try.results36] <;> rfl, ?_⟩
  rw [hasT, ← idxF_any _ l 0]
  exact .closed rfl
theorem IndexFunc_ok (l : List ByteArray) (hl : l.length ≤ 4194304) (f : FuncId) (caps : List AV) (hc : norefL caps = true) (p : ByteArray → Bool) (hp : ∀ x ∈ l, Con Try.prog f (sval x :: caps) (bval (p x))) :
    Con Try.prog 52 [.rd 1 (texts l), .clo (.func f) caps] (ival (idxF p l 0)) := by
  have hw : withinL [] caps = true := withinL_of_noref [] caps hc
  refine Con.of_code Try.func52 (by kernel_rfl) rfl (by simp [Try.ntmps52]) fun C hC hM => ?_
  refine AWp.seq ?_
  refine AWp.reg [true] F52r0 [] (by kernel_rfl) (by rw [hC]; rfl) fun K hK => ?_
  simp [F52r0]
  first | refine hK _ ?_ | refine ⟨by omega, hK _ ?_⟩ | refine ⟨by omega, by omega, hK _ ?_⟩ | refine ⟨by omega, by omega, by omega, hK _ ?_⟩ | refine ⟨by omega, by omega, by omega, by omega, hK _ ?_⟩
  refine AWp.seq ?_
  refine AWp.seq ?_
  refine AWp.reg [] F52r1 [] (by kernel_rfl) (by rw [hC]; rfl) fun K hK => ?_
  simp [F52r1]
  first | refine hK _ ?_ | refine ⟨by omega, hK _ ?_⟩ | refine ⟨by omega, by omega, hK _ ?_⟩ | refine ⟨by omega, by omega, by omega, hK _ ?_⟩ | refine ⟨by omega, by omega, by omega, by omega, hK _ ?_⟩
  refine AWp.block ?_
  refine AWp.loopG (stIx l (.clo (.func f) caps)) (fun k => k ≤ l.length ∧ idxF p l 0 = idxF p (l.drop k) k) (fun k => l.length - k) 0 (by simp) (by simp [stIx, hw]) (fun k hk => ?_)
  obtain ⟨hk1, hk2⟩ := hk
  refine AWp.seq ?_
  refine AWp.reg [] F52r2 [] (by kernel_rfl) (by rw [hC]; rfl) fun K hK => ?_
  simp [F52r2, stIx]
  first | refine hK _ ?_ | refine ⟨by omega, hK _ ?_⟩ | refine ⟨by omega, by omega, hK _ ?_⟩ | refine ⟨by omega, by omega, by omega, hK _ ?_⟩ | refine ⟨by omega, by omega, by omega, by omega, hK _ ?_⟩
  refine AWp.seq ?_
  refine AWp.cond (decide (k < l.length)) (by simp) (fun hlt => ?_) (fun hge => ?_)
  · skip
    have hlt : k < l.length := by simpa using hlt
    have hd := idxF_drop p l k hlt
    have hpk := hp l[k] (List.getElem_mem hlt)
    refine AWp.skip ?_
    refine AWp.seq ?_
    refine AWp.block ?_
    refine AWp.seq ?_
    refine AWp.reg [true, true] F52r3 [] (by kernel_rfl) (by rw [hC]; rfl) fun K hK => ?_
    simp [F52r3, hlt]
    first | refine hK _ ?_ | refine ⟨by omega, hK _ ?_⟩ | refine ⟨by omega, by omega, hK _ ?_⟩ | refine ⟨by omega, by omega, by omega, hK _ ?_⟩ | refine ⟨by omega, by omega, by omega, by omega, hK _ ?_⟩
    refine AWp.seq ?_
    refine AWp.reg [] F52r4 [{ r := bval (p l[k]) }] (by kernel_rfl) (by rw [hC]; rfl) fun K hK => ?_
    simp [F52r4, hlt]
    refine ⟨callOK (by simpa using hc) hpk, hK _ ?_⟩
    refine AWp.cond (p l[k]) (by simp) (fun heq => ?_) (fun hne => ?_)
    · skip
      refine AWp.seq ?_
      refine AWp.reg [true, true] F52r5 [] (by kernel_rfl) (by rw [hC]; rfl) fun K hK => ?_
      simp [F52r5]
      first | refine hK _ ?_ | refine ⟨by omega, hK _ ?_⟩ | refine ⟨by omega, by omega, hK _ ?_⟩ | refine ⟨by omega, by omega, by omega, hK _ ?_⟩ | refine ⟨by omega, by omega, by omega, by omega, hK _ ?_⟩
      repeat refine AWp.seq ?_
      refine AWp.ret ⟨.inr rfl, _, by simp [Try.results52] <;> rfl, ?_⟩
      rw [hk2, hd, if_pos heq]
      exact .closed rfl
    refine AWp.skip ?_
    refine AWp.reg [] F52r6 [] (by kernel_rfl) (by rw [hC]; rfl) fun K hK => ?_
    simp [F52r6]
    first | refine hK _ ?_ | refine ⟨by omega, hK _ ?_⟩ | refine ⟨by omega, by omega, hK _ ?_⟩ | refine ⟨by omega, by omega, by omega, hK _ ?_⟩ | refine ⟨by omega, by omega, by omega, by omega, hK _ ?_⟩
    refine ⟨k + 1, ⟨by omega, by rw [hk2, hd, if_neg (by simp [hne])]⟩, by omega, ?_⟩
    simp [stIx, hw, wrap_nat k (by omega)]
  have hge : ¬ k < l.length := by simpa using hge
  refine AWp.exit ?_
  refine AWp.seq ?_
  refine AWp.reg [true] F52r7 [] (by kernel_rfl) (by rw [hC]; rfl) fun K hK => ?_
  simp [F52r7]
  first | refine hK _ ?_ | refine ⟨by omega, hK _ ?_⟩ | refine ⟨by omega, by omega, hK _ ?_⟩ | refine ⟨by omega, by omega, by omega, hK _ ?_⟩ | refine ⟨by omega, by omega, by omega, by omega, hK _ ?_⟩
  repeat refine AWp.seq ?_
  refine AWp.ret ⟨.inr rfl, _, by simp [Try.results52] <;> rfl, ?_⟩
  rw [hk2, List.drop_eq_nil_of_le (by omega)]
  exact .closed rfl
theorem ContainsFunc_ok (l : List ByteArray) (hl : l.length ≤ 4194304) (f : FuncId) (caps : List AV) (hc : norefL caps = true) (p : ByteArray → Bool) (hp : ∀ x ∈ l, Con Try.prog f (sval x :: caps) (bval (p x))) :
    Con Try.prog 34 [.rd 1 (texts l), .clo (.func f) caps] (bval (l.any p)) := by
  refine Con.of_code Try.func34 (by kernel_rfl) rfl (by simp [Try.ntmps34]) fun C hC hM => ?_
  refine AWp.seq ?_
  refine AWp.reg [true] F34r0 [] (by kernel_rfl) (by rw [hC]; rfl) fun K hK => ?_
  simp [F34r0]
  first | refine hK _ ?_ | refine ⟨by omega, hK _ ?_⟩ | refine ⟨by omega, by omega, hK _ ?_⟩ | refine ⟨by omega, by omega, by omega, hK _ ?_⟩ | refine ⟨by omega, by omega, by omega, by omega, hK _ ?_⟩
  refine AWp.seq ?_
  refine AWp.reg [false, false, false, false, true] F34r1 [{ r := ival (idxF p l 0) }] (by kernel_rfl) (by rw [hC]; rfl) fun K hK => ?_
  simp [F34r1]
  refine ⟨callOK (by simpa using hc) (IndexFunc_ok l hl f caps hc p hp), hK _ ?_⟩
  repeat refine AWp.seq ?_
  refine AWp.ret ⟨.inr rfl, _, by simp [Try.results34] <;> rfl, ?_⟩
  rw [← idxF_any p l 0]
  exact .closed rfl
-- the closure that looks through an expression: it writes the list that it finds, and reads itself
def look : AV := .clo (.func 59) [.ptr 1000 0, .ptr 1001 0]
def HL (out : List ByteArray) : List (Nat × Blk) := [(1000, .cells 32 [.own 9 1 (texts out)]), (1001, .cells 111 [look])]
theorem look_call {g : Nat → Option Blk} {out out' : List ByteArray} {e : ExprD} {es : List AV} (he : es = encE e) (h0 : g 1000 = some (.cells 32 [.own 9 1 (texts out)])) (h1 : g 1001 = some (.cells 111 [look]))
    (hc : ConM Try.prog 59 (HL out) [encX e, .ptr 1000 0, .ptr 1001 0] (.tup []) (HL out')) : ∃ H ts, CallM Try.prog 59 g [1000, 1001] [.agg es, .ptr 1000 0, .ptr 1001 0] (.tup []) (HL out') H ts := by
  subst he
  refine ⟨HL out, [encX e, .ptr 1000 0, .ptr 1001 0], fun b k hb => ?_, fun b k hb => ?_, fun b k hb hn => ?_, more_of rfl, fun b k hb => ?_, by simp [HL, encX], .cons .refl (.cons .refl (.cons .refl .nil)), hc⟩
  · simp only [HL, lk] at hb; split at hb
    · rename_i e; subst e; rfl
    · split at hb
      · rename_i e; subst e; rfl
      · cases hb
  · simp only [HL, lk] at hb; split at hb
    · rename_i e; subst e; cases hb; exact h0
    · split at hb
      · rename_i e; subst e; cases hb; exact h1
      · cases hb
  · simp only [HL, lk] at hb hn; split at hb
    · rename_i e; rw [if_pos e] at hn; cases hn
    · rename_i e1; rw [if_neg e1] at hn; split at hb
      · rename_i e; rw [if_pos e] at hn; cases hn
      · cases hb
  · simp only [HL, lk] at hb; split at hb
    · cases hb; rfl
    · split at hb
      · cases hb; rfl
      · cases hb
attribute [local simp] look HL encE_eq encX
def st59 (e : ExprD) (out : List ByteArray) (k : Nat) : AS :=
  { tm := [(1, .ptr 1000 0), (2, .ptr 1001 0), (20, .rd 9 (e.args.map encE)), (21, ival e.args.length), (22, ival k)], hp := HL ((e.args.take k).foldl varsE out) }
theorem look_ok : ∀ (n : Nat) (e : ExprD) (out : List ByteArray), size e ≤ n → out.length + size e ≤ 4194304 →
    ConM Try.prog 59 (HL out) [encX e, .ptr 1000 0, .ptr 1001 0] (.tup []) (HL (varsE out e)) := by
  intro n
  induction n with
  | zero => intro e out hn; have := size_eq e; omega
  | succ n ih =>
    intro e out hn hout
    have hsz := size_eq e
    have hlen := length_le_sizes e.args
    have heq := varsE_eq out e
    have henc := encE_eq e
    refine ConM.of_code Try.func59 (by kernel_rfl) rfl (by simp [Try.ntmps59]) (by simp [Try.ntmps59]) (hand_of rfl) (more_of rfl) rfl (fun C hC hρ => ?_)
    refine AWp.seq ?_
    refine AWp.reg [] F59r0 [] (by kernel_rfl) (by rw [hC]; rfl) fun K hK => ?_
    simp [F59r0]
    first | refine hK _ ?_ | refine ⟨by omega, hK _ ?_⟩ | refine ⟨by omega, by omega, hK _ ?_⟩ | refine ⟨by omega, by omega, by omega, hK _ ?_⟩ | refine ⟨by omega, by omega, by omega, by omega, hK _ ?_⟩
    refine AWp.seq ?_
    refine AWp.seq ?_
    refine AWp.reg [] F59r1 [] (by kernel_rfl) (by rw [hC]; rfl) fun K hK => ?_
    simp [F59r1]
    first | refine hK _ ?_ | refine ⟨by omega, hK _ ?_⟩ | refine ⟨by omega, by omega, hK _ ?_⟩ | refine ⟨by omega, by omega, by omega, hK _ ?_⟩ | refine ⟨by omega, by omega, by omega, by omega, hK _ ?_⟩
    refine AWp.cond (e.kind == 2) (by simp) (fun hk => ?_) (fun hk => ?_)
    · skip
      have hk : e.kind = 2 := by simpa using hk
      rw [if_pos hk] at heq
      refine AWp.seq ?_
      refine AWp.seq ?_
      refine AWp.reg [] F59r2 [{ r := bval (hasT out e.name) }] (by kernel_rfl) (by rw [hC]; rfl) fun K hK => ?_
      simp [F59r2]
      refine ⟨callOK rfl (Contains_ok out e.name (by omega)), hK _ ?_⟩
      cases hh : hasT out e.name with
      | true =>
        refine AWp.cond false (by simp) (fun he => by cases he) (fun _ => ?_)
        refine AWp.skip ?_
        refine AWp.ret ⟨.inr rfl, ⟨_, by simp [Try.results59] <;> rfl, ?_⟩, ?_⟩
        · exact .refl
        · rw [heq, addT, hh]; simp
      | false =>
        refine AWp.cond true (by simp) (fun _ => ?_) (fun he => by cases he)
        refine AWp.reg [true, false, false, false, false, true] F59r3 [] (by kernel_rfl) (by rw [hC]; rfl) fun K hK => ?_
        simp [F59r3]
        first | refine hK _ ?_ | refine ⟨by omega, hK _ ?_⟩ | refine ⟨by omega, by omega, hK _ ?_⟩ | refine ⟨by omega, by omega, by omega, hK _ ?_⟩ | refine ⟨by omega, by omega, by omega, by omega, hK _ ?_⟩
        refine AWp.ret ⟨.inr rfl, ⟨_, by simp [Try.results59] <;> rfl, ?_⟩, ?_⟩
        · exact .refl
        · rw [heq, addT, hh]; simp [texts_snoc]
    have hk : ¬ e.kind = 2 := by simpa using hk
    rw [if_neg hk] at heq
    refine AWp.skip ?_
    refine AWp.seq ?_
    refine AWp.reg [] F59r4 [] (by kernel_rfl) (by rw [hC]; rfl) fun K hK => ?_
    simp [F59r4]
    first | refine hK _ ?_ | refine ⟨by omega, hK _ ?_⟩ | refine ⟨by omega, by omega, hK _ ?_⟩ | refine ⟨by omega, by omega, by omega, hK _ ?_⟩ | refine ⟨by omega, by omega, by omega, by omega, hK _ ?_⟩
    refine AWp.block ?_
    refine AWp.loopG (st59 e out) (fun k => k ≤ e.args.length) (fun k => e.args.length - k) 0 (by simp) (by simp [st59]) (fun k hk => ?_)
    have hb : ((e.args.take k).foldl varsE out).length ≤ out.length + sizes (e.args.take k) := by rw [← varsEs_fold]; exact varsEs_len _ _
    refine AWp.seq ?_
    refine AWp.reg [] F59r5 [] (by kernel_rfl) (by rw [hC]; rfl) fun K hK => ?_
    simp [F59r5, st59]
    first | refine hK _ ?_ | refine ⟨by omega, hK _ ?_⟩ | refine ⟨by omega, by omega, hK _ ?_⟩ | refine ⟨by omega, by omega, by omega, hK _ ?_⟩ | refine ⟨by omega, by omega, by omega, by omega, hK _ ?_⟩
    refine AWp.seq ?_
    refine AWp.cond (decide (k < e.args.length)) (by simp) (fun hlt => ?_) (fun hge => ?_)
    · skip
      have hlt : k < e.args.length := by simpa using hlt
      have hd : (e.args.take (k + 1)).foldl varsE out = varsE ((e.args.take k).foldl varsE out) e.args[k] := by rw [List.take_succ_eq_append_getElem hlt, List.foldl_append]; rfl
      have hs : sizes (e.args.take k) + size e.args[k] ≤ sizes e.args := by
        rw [sizes_map, sizes_map]
        have h1 : (e.args.map size).sum = ((e.args.take k).map size).sum + ((e.args.drop k).map size).sum := by rw [← List.sum_append_nat, ← List.map_append, List.take_append_drop]
        rw [List.drop_eq_getElem_cons hlt, List.map_cons, List.sum_cons] at h1
        omega
      generalize (e.args.take k).foldl varsE out = o2 at *
      have hc := ih e.args[k] o2 (by omega) (by omega)
      refine AWp.skip ?_
      refine AWp.seq ?_
      refine AWp.block ?_
      refine AWp.seq ?_
      refine AWp.reg [false, false, false, true] F59r6 [] (by kernel_rfl) (by rw [hC]; rfl) fun K hK => ?_
      simp [F59r6, hlt]
      first | refine hK _ ?_ | refine ⟨by omega, hK _ ?_⟩ | refine ⟨by omega, by omega, hK _ ?_⟩ | refine ⟨by omega, by omega, by omega, hK _ ?_⟩ | refine ⟨by omega, by omega, by omega, by omega, hK _ ?_⟩
      refine AWp.reg [] F59r7 [{ r := .tup [], us := [1000, 1001], bs := HL (varsE o2 e.args[k]) }] (by kernel_rfl) (by rw [hC]; rfl) fun K hK => ?_
      simp [F59r7]
      refine ⟨look_call (encE_eq _).symm rfl rfl hc, hK _ ?_⟩
      refine AWp.reg [] F59r8 [] (by kernel_rfl) (by rw [hC]; rfl) fun K hK => ?_
      simp [F59r8]
      first | refine hK _ ?_ | refine ⟨by omega, hK _ ?_⟩ | refine ⟨by omega, by omega, hK _ ?_⟩ | refine ⟨by omega, by omega, by omega, hK _ ?_⟩ | refine ⟨by omega, by omega, by omega, by omega, hK _ ?_⟩
      refine ⟨k + 1, by omega, by omega, ?_⟩
      simp only [st59, hd]
      simp [wrap_nat k (by omega)]
    have hge : ¬ k < e.args.length := by simpa using hge
    refine AWp.exit ?_
    refine ⟨.inl rfl, ⟨[], rfl, .refl⟩, rfl, ?_⟩
    rw [heq, List.take_of_length_le (show e.args.length ≤ k by omega)]
    simp
theorem Vars_ok (e : ExprD) (hs : size e ≤ 4194304) : Con Try.prog 44 [encX e] (.rd 1 (texts (varsE [] e))) := by
  refine Con.of_code Try.func44 (by kernel_rfl) rfl (by simp [Try.ntmps44]) fun C hC hM => ?_
  refine AWp.seq ?_
  refine AWp.reg [false, true] F44r0 [] (by kernel_rfl) (by rw [hC]; rfl) fun K hK => ?_
  simp [F44r0]
  first | refine hK _ ?_ | refine ⟨by omega, hK _ ?_⟩ | refine ⟨by omega, by omega, hK _ ?_⟩ | refine ⟨by omega, by omega, by omega, hK _ ?_⟩ | refine ⟨by omega, by omega, by omega, by omega, hK _ ?_⟩
  refine AWp.seq ?_
  refine AWp.reg [] F44r1 [] (by kernel_rfl) (by rw [hC]; rfl) fun K hK => ?_
  simp [F44r1]
  first | refine hK _ ?_ | refine ⟨by omega, hK _ ?_⟩ | refine ⟨by omega, by omega, hK _ ?_⟩ | refine ⟨by omega, by omega, by omega, hK _ ?_⟩ | refine ⟨by omega, by omega, by omega, by omega, hK _ ?_⟩
  refine AWp.seq ?_
  refine AWp.reg [] F44r2 [] (by kernel_rfl) (by rw [hC]; rfl) fun K hK => ?_
  simp [F44r2]
  first | refine hK _ ?_ | refine ⟨by omega, hK _ ?_⟩ | refine ⟨by omega, by omega, hK _ ?_⟩ | refine ⟨by omega, by omega, by omega, hK _ ?_⟩ | refine ⟨by omega, by omega, by omega, by omega, hK _ ?_⟩
  refine AWp.seq ?_
  refine AWp.reg [false, true] F44r3 [] (by kernel_rfl) (by rw [hC]; rfl) fun K hK => ?_
  simp [F44r3]
  first | refine hK _ ?_ | refine ⟨by omega, hK _ ?_⟩ | refine ⟨by omega, by omega, hK _ ?_⟩ | refine ⟨by omega, by omega, by omega, hK _ ?_⟩ | refine ⟨by omega, by omega, by omega, by omega, hK _ ?_⟩
  refine AWp.seq ?_
  refine AWp.renP hM 3 1000 (by decide) (by simp) _ rfl ?_
  refine AWp.renP hM 4 1001 (by decide) (by simp) _ rfl ?_
  refine AWp.forget (s' := { tm := [(1, .ptr 1 0), (3, .ptr 1000 0), (4, .ptr 1001 0)], hp := [(1, .cells 42 (encE e))] ++ HL [] }) (by simp [texts]) ?_
  refine AWp.reg [] F44r4 [{ r := .tup [], us := [1000, 1001], bs := HL (varsE [] e) }] (by kernel_rfl) (by rw [hC]; rfl) fun K hK => ?_
  simp [F44r4]
  refine ⟨look_call (encE_eq _).symm rfl rfl (look_ok _ e [] (Nat.le_refl _) (by simpa using hs)), hK _ ?_⟩
  refine AWp.seq ?_
  refine AWp.reg [false, true] F44r5 [] (by kernel_rfl) (by rw [hC]; rfl) fun K hK => ?_
  simp [F44r5]
  first | refine hK _ ?_ | refine ⟨by omega, hK _ ?_⟩ | refine ⟨by omega, by omega, hK _ ?_⟩ | refine ⟨by omega, by omega, by omega, hK _ ?_⟩ | refine ⟨by omega, by omega, by omega, by omega, hK _ ?_⟩
  repeat refine AWp.seq ?_
  refine AWp.ret ⟨.inr rfl, _, by simp [Try.results44] <;> rfl, ?_⟩
  exact .closed rfl
theorem vars_ok (l : List ExprD) (hs : sizes l ≤ 4194303) : Con Try.prog 33 [.rd 9 (l.map encE)] (.rd 1 (texts (varsOf l))) := by
  let e : ExprD := .mk 4 0 0 ByteArray.empty 0 0 ByteArray.empty ⟨.slice none 0 0, rfl⟩ l
  have hv : varsE [] e = varsOf l := by simp [e, varsE_eq, ExprD.kind, ExprD.args, varsOf]
  have hz : size e ≤ 4194304 := by rw [size_eq]; simp only [e, ExprD.args]; omega
  have hc := Vars_ok e hz
  rw [hv] at hc
  have he : encX e = .agg [.val (.int .u8 4), .val (.int .i64 0), .val (.int .i64 0), .val (.string ByteArray.empty), .val (.int .u8 0), .val (.int .i64 0), .val (.string ByteArray.empty), .val (.slice none 0 0), .rd 9 (l.map encE)] := by
    simp [encX, encE_eq, e, ExprD.kind, ExprD.line, ExprD.col, ExprD.name, ExprD.vk, ExprD.vn, ExprD.vs, ExprD.vl, ExprD.args]
  rw [he] at hc
  refine Con.of_code Try.func33 (by kernel_rfl) rfl (by simp [Try.ntmps33]) fun C hC hM => ?_
  refine AWp.seq ?_
  refine AWp.reg [true] F33r0 [] (by kernel_rfl) (by rw [hC]; rfl) fun K hK => ?_
  simp [F33r0]
  first | refine hK _ ?_ | refine ⟨by omega, hK _ ?_⟩ | refine ⟨by omega, by omega, hK _ ?_⟩ | refine ⟨by omega, by omega, by omega, hK _ ?_⟩ | refine ⟨by omega, by omega, by omega, by omega, hK _ ?_⟩
  refine AWp.seq ?_
  refine AWp.reg [false, false, false, true] F33r1 [{ r := .rd 1 (texts (varsOf l)) }] (by kernel_rfl) (by rw [hC]; rfl) fun K hK => ?_
  simp [F33r1]
  refine ⟨callOK rfl hc, hK _ ?_⟩
  repeat refine AWp.seq ?_
  refine AWp.ret ⟨.inr rfl, _, by simp [Try.results33] <;> rfl, ?_⟩
  exact .closed rfl
end Go.Sl
