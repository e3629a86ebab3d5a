/- The document's uses; texts side by side. -/
import Derived.Test.YtempphkfacccoaaSuA
set_option linter.unusedSimpArgs false
set_option linter.unusedVariables false
open Go Go.Aw Go.Proofs
namespace Go.Sl
-- function 20: corollary/corollaryref06.SameTexts: 26 slots; results ['(Go.ResultVar.tmp 4)']
def F20r0 : List ROp := [{ dst := some 4, op := .copy true (.const (.bool false)), after := [], guard := none }]
def F20r1 : List ROp := [{ dst := some 6, op := .copy false (.tmp 0), after := [], guard := none },
  { dst := some 7, op := .len 0 (.tmp 6), after := [0], guard := none },
  { dst := some 8, op := .copy false (.tmp 1), after := [], guard := none },
  { dst := some 9, op := .len 0 (.tmp 8), after := [2], guard := none },
  { dst := some 10, op := .bin .neq (.tmp 7) (.tmp 9), after := [1, 3], guard := none }]
def F20r2 : List ROp := [{ dst := some 4, op := .copy true (.const (.bool false)), after := [], guard := none }]
def F20r3 : List ROp := [{ dst := some 5, op := .copy true (.const (.int .i64 0)), after := [], guard := none }]
def F20r4 : List ROp := [{ dst := some 11, op := .copy false (.tmp 5), after := [], guard := none },
  { dst := some 12, op := .copy false (.tmp 0), after := [], guard := none },
  { dst := some 13, op := .len 0 (.tmp 12), after := [1], guard := none },
  { dst := some 14, op := .bin .lss (.tmp 11) (.tmp 13), after := [0, 2], guard := none }]
def F20r5 : List ROp := [{ dst := some 15, op := .copy false (.tmp 5), after := [], guard := none },
  { dst := some 16, op := .bin .add (.tmp 15) (.const (.int .i64 1)), after := [0], guard := none },
  { dst := some 5, op := .copy true (.tmp 16), after := [1, 0, 1], guard := none }]
def F20r6 : List ROp := [{ dst := some 17, op := .copy false (.tmp 0), after := [], guard := none },
  { dst := some 18, op := .copy false (.tmp 5), after := [], guard := none },
  { dst := some 19, op := .iad 1 (.tmp 17) (.tmp 18), after := [0, 1], guard := none },
  { dst := some 20, op := .load 1 false false (.tmp 19), after := [2], guard := none },
  { dst := some 21, op := .copy false (.tmp 1), after := [], guard := none },
  { dst := some 22, op := .copy false (.tmp 5), after := [], guard := none },
  { dst := some 23, op := .iad 1 (.tmp 21) (.tmp 22), after := [4, 5], guard := none },
  { dst := some 24, op := .load 1 false false (.tmp 23), after := [6], guard := none },
  { dst := some 25, op := .bin .neq (.tmp 20) (.tmp 24), after := [3, 7], guard := none }]
def F20r7 : List ROp := [{ dst := some 4, op := .copy true (.const (.bool false)), after := [], guard := none }]
def F20r8 : List ROp := [{ dst := some 4, op := .copy true (.const (.bool true)), after := [], guard := none }]
-- function 57: corollary/corollaryref20.add: 49 slots; results ['(Go.ResultVar.tmp 4)']
def F57r0 : List ROp := [{ dst := some 4, op := .copy true (.const (.slice none 0 0)), after := [], guard := none }]
def F57r1 : List ROp := [{ dst := some 5, op := .copy true (.const (.int .i64 0)), after := [], guard := none }]
def F57r2 : List ROp := [{ dst := some 7, op := .copy false (.tmp 5), after := [], guard := none },
  { dst := some 8, op := .copy false (.tmp 0), after := [], guard := none },
  { dst := some 9, op := .len 0 (.tmp 8), after := [1], guard := none },
  { dst := some 10, op := .bin .lss (.tmp 7) (.tmp 9), after := [0, 2], guard := none },
  { dst := some 11, op := .copy false (.tmp 10), after := [3], guard := none },
  { dst := some 12, op := .copy false (.tmp 0), after := [4], guard := some (11, true) },
  { dst := some 13, op := .copy false (.tmp 5), after := [4], guard := some (11, true) },
  { dst := some 14, op := .iad 1 (.tmp 12) (.tmp 13), after := [5, 6, 4], guard := some (11, true) },
  { dst := some 15, op := .load 1 false false (.tmp 14), after := [7, 4], guard := some (11, true) },
  { dst := some 16, op := .copy false (.tmp 1), after := [4], guard := some (11, true) },
  { dst := some 17, op := .bin .lss (.tmp 15) (.tmp 16), after := [8, 9, 4], guard := some (11, true) },
  { dst := some 18, op := .pick (.tmp 11) (.tmp 17) (.const (.bool false)), after := [4, 10], guard := none }]
def F57r3 : List ROp := [{ dst := some 19, op := .copy false (.tmp 5), after := [], guard := none },
  { dst := some 20, op := .bin .add (.tmp 19) (.const (.int .i64 1)), after := [0], guard := none },
  { dst := some 5, op := .copy true (.tmp 20), after := [1, 0, 1], guard := none }]
def F57r4 : List ROp := [{ dst := some 21, op := .copy false (.tmp 5), after := [], guard := none },
  { dst := some 22, op := .copy false (.tmp 0), after := [], guard := none },
  { dst := some 23, op := .len 0 (.tmp 22), after := [1], guard := none },
  { dst := some 24, op := .bin .lss (.tmp 21) (.tmp 23), after := [0, 2], guard := none },
  { dst := some 25, op := .copy false (.tmp 24), after := [3], guard := none },
  { dst := some 26, op := .copy false (.tmp 0), after := [4], guard := some (25, true) },
  { dst := some 27, op := .copy false (.tmp 5), after := [4], guard := some (25, true) },
  { dst := some 28, op := .iad 1 (.tmp 26) (.tmp 27), after := [5, 6, 4], guard := some (25, true) },
  { dst := some 29, op := .load 1 false false (.tmp 28), after := [7, 4], guard := some (25, true) },
  { dst := some 30, op := .copy false (.tmp 1), after := [4], guard := some (25, true) },
  { dst := some 31, op := .bin .eql (.tmp 29) (.tmp 30), after := [8, 9, 4], guard := some (25, true) },
  { dst := some 32, op := .pick (.tmp 25) (.tmp 31) (.const (.bool false)), after := [4, 10], guard := none }]
def F57r5 : List ROp := [{ dst := some 33, op := .copy true (.tmp 0), after := [], guard := none },
  { dst := some 4, op := .copy true (.tmp 33), after := [0, 0], guard := none }]
def F57r6 : List ROp := [{ dst := some 34, op := .bslice 9 1 [Value.string ByteArray.empty] 0 [], after := [], guard := none },
  { dst := some 35, op := .copy false (.tmp 0), after := [], guard := none },
  { dst := some 36, op := .copy false (.tmp 5), after := [], guard := none },
  { dst := some 37, op := .sub 1 (.tmp 35) none (some (.tmp 36)) none, after := [1, 2], guard := none },
  { dst := some 38, op := .app 9 1 16 (.tmp 34) (.tmp 37), after := [0, 3], guard := none },
  { dst := some 6, op := .copy true (.tmp 38), after := [4, 4, 0, 1, 2, 3, 4], guard := none }]
def F57r7 : List ROp := [{ dst := some 39, op := .copy true (.tmp 6), after := [], guard := none },
  { dst := some 40, op := .copy false (.tmp 1), after := [], guard := none },
  { dst := some 41, op := .bslice 9 1 [Value.string ByteArray.empty] 1 [(0, .tmp 40)], after := [1], guard := none },
  { dst := some 42, op := .app 9 1 16 (.tmp 39) (.tmp 41), after := [0, 2], guard := none },
  { dst := some 6, op := .copy true (.tmp 42), after := [3, 3, 0, 1, 2, 3], guard := none }]
def F57r8 : List ROp := [{ dst := some 43, op := .copy true (.tmp 6), after := [], guard := none },
  { dst := some 44, op := .copy false (.tmp 0), after := [], guard := none },
  { dst := some 45, op := .copy false (.tmp 5), after := [], guard := none },
  { dst := some 46, op := .sub 1 (.tmp 44) (some (.tmp 45)) none none, after := [1, 2], guard := none },
  { dst := some 47, op := .app 9 1 16 (.tmp 43) (.tmp 46), after := [0, 3], guard := none },
  { dst := some 6, op := .copy true (.tmp 47), after := [4, 4, 0, 1, 2, 3, 4], guard := none }]
def F57r9 : List ROp := [{ dst := some 48, op := .copy true (.tmp 6), after := [], guard := none },
  { dst := some 4, op := .copy true (.tmp 48), after := [0, 0], guard := none }]
-- function 42: corollary/corollaryref20.uses: 33 slots; results ['(Go.ResultVar.tmp 4)']
def F42r0 : List ROp := [{ dst := some 3, op := .box 66 (.tmp 1), after := [], guard := none },
  { dst := some 4, op := .copy true (.const (.slice none 0 0)), after := [], guard := none }]
def F42r1 : List ROp := [{ dst := some 6, op := .fad 0 (.tmp 3), after := [], guard := none },
  { dst := some 7, op := .load 1 false false (.tmp 6), after := [0], guard := none },
  { dst := some 8, op := .bin .eql (.tmp 7) (.const (.int .u8 2)), after := [1], guard := none },
  { dst := some 9, op := .copy false (.tmp 8), after := [2], guard := none },
  { dst := some 10, op := .fad 0 (.tmp 3), after := [3], guard := some (9, false) },
  { dst := some 11, op := .load 1 false false (.tmp 10), after := [4, 3], guard := some (9, false) },
  { dst := some 12, op := .bin .eql (.tmp 11) (.const (.int .u8 4)), after := [5, 3], guard := some (9, false) },
  { dst := some 13, op := .pick (.tmp 9) (.const (.bool true)) (.tmp 12), after := [3, 6], guard := none }]
def F42r2 : List ROp := [{ dst := some 14, op := .copy false (.tmp 0), after := [], guard := none },
  { dst := some 15, op := .fad 1 (.tmp 3), after := [], guard := none },
  { dst := some 16, op := .load 1 false false (.tmp 15), after := [1], guard := none },
  { dst := some 17, op := .call (.func 57) [.tmp 14, .tmp 16], after := [0, 2], guard := none },
  { dst := some 0, op := .copy true (.tmp 17), after := [3, 3, 0, 1, 2, 3], guard := none }]
def F42r3 : List ROp := [{ dst := some 5, op := .copy true (.const (.int .i64 0)), after := [], guard := none }]
def F42r4 : List ROp := [{ dst := some 18, op := .copy false (.tmp 5), after := [], guard := none },
  { dst := some 19, op := .fad 5 (.tmp 3), after := [], guard := none },
  { dst := some 20, op := .load 1 false false (.tmp 19), after := [1], guard := none },
  { dst := some 21, op := .len 0 (.tmp 20), after := [2], guard := none },
  { dst := some 22, op := .bin .lss (.tmp 18) (.tmp 21), after := [0, 3], guard := none }]
def F42r5 : List ROp := [{ dst := some 23, op := .copy false (.tmp 5), after := [], guard := none },
  { dst := some 24, op := .bin .add (.tmp 23) (.const (.int .i64 1)), after := [0], guard := none },
  { dst := some 5, op := .copy true (.tmp 24), after := [1, 0, 1], guard := none }]
def F42r6 : List ROp := [{ dst := some 25, op := .copy false (.tmp 0), after := [], guard := none },
  { dst := some 26, op := .fad 5 (.tmp 3), after := [], guard := none },
  { dst := some 27, op := .load 1 false false (.tmp 26), after := [1], guard := none },
  { dst := some 28, op := .copy false (.tmp 5), after := [], guard := none },
  { dst := some 29, op := .iad 6 (.tmp 27) (.tmp 28), after := [2, 3], guard := none },
  { dst := some 30, op := .load 6 true false (.tmp 29), after := [4], guard := none },
  { dst := some 31, op := .call (.func 42) [.tmp 25, .tmp 30], after := [0, 5], guard := none },
  { dst := some 0, op := .copy true (.tmp 31), after := [6, 6, 0, 1, 2, 3, 4, 5, 6], guard := none }]
def F42r7 : List ROp := [{ dst := some 32, op := .copy true (.tmp 0), after := [], guard := none },
  { dst := some 4, op := .copy true (.tmp 32), after := [0, 0], guard := none }]
-- function 23: corollary/corollaryref20.Uses: 5 slots; results ['(Go.ResultVar.tmp 2)']
def F23r0 : List ROp := [{ dst := some 1, op := .box 66 (.tmp 0), after := [], guard := none },
  { dst := some 2, op := .copy true (.const (.slice none 0 0)), after := [], guard := none }]
def F23r1 : List ROp := [{ dst := some 3, op := .load 6 true false (.tmp 1), after := [], guard := none },
  { dst := some 4, op := .call (.func 42) [.const (.slice none 0 0), .tmp 3], after := [0], guard := none },
  { dst := some 2, op := .copy true (.tmp 4), after := [1, 1, 0, 1], guard := none }]
theorem SameTexts_ok (a b : List ByteArray) (ha : a.length ≤ 4194304) (hb : b.length ≤ 4194304) : Con Try.prog 20 [.rd 1 (texts a), .rd 1 (texts b)] (bval (sameL a b)) := by
  refine Con.of_code Try.func20 (by kernel_rfl) rfl (by simp [Try.ntmps20]) fun C hC hM => ?_
  refine AWp.seq ?_
  refine AWp.reg [true] F20r0 [] (by kernel_rfl) (by rw [hC]; rfl) fun K hK => ?_
  simp [F20r0]
  first | refine hK _ ?_ | refine ⟨by omega, hK _ ?_⟩ | refine ⟨by omega, by omega, hK _ ?_⟩ | refine ⟨by omega, by omega, by omega, hK _ ?_⟩ | refine ⟨by omega, by omega, by omega, by omega, hK _ ?_⟩
  refine AWp.seq ?_
  refine AWp.seq ?_
  refine AWp.reg [] F20r1 [] (by kernel_rfl) (by rw [hC]; rfl) fun K hK => ?_
  simp [F20r1]
  first | refine hK _ ?_ | refine ⟨by omega, hK _ ?_⟩ | refine ⟨by omega, by omega, hK _ ?_⟩ | refine ⟨by omega, by omega, by omega, hK _ ?_⟩ | refine ⟨by omega, by omega, by omega, by omega, hK _ ?_⟩
  refine AWp.cond ((a.length : Int) != (b.length : Int)) (by simp) (fun hne => ?_) (fun heq => ?_)
  · skip
    refine AWp.seq ?_
    refine AWp.reg [true] F20r2 [] (by kernel_rfl) (by rw [hC]; rfl) fun K hK => ?_
    simp [F20r2]
    first | refine hK _ ?_ | refine ⟨by omega, hK _ ?_⟩ | refine ⟨by omega, by omega, hK _ ?_⟩ | refine ⟨by omega, by omega, by omega, hK _ ?_⟩ | refine ⟨by omega, by omega, by omega, by omega, hK _ ?_⟩
    repeat refine AWp.seq ?_
    refine AWp.ret ⟨.inr rfl, _, by simp [Try.results20] <;> rfl, ?_⟩
    rw [sameL_len (by simp at hne; omega)]
    exact .closed rfl
  have heq : a.length = b.length := by simp at heq; omega
  refine AWp.skip ?_
  refine AWp.seq ?_
  refine AWp.seq ?_
  refine AWp.reg [true] F20r3 [] (by kernel_rfl) (by rw [hC]; rfl) fun K hK => ?_
  simp [F20r3]
  first | refine hK _ ?_ | refine ⟨by omega, hK _ ?_⟩ | refine ⟨by omega, by omega, hK _ ?_⟩ | refine ⟨by omega, by omega, by omega, hK _ ?_⟩ | refine ⟨by omega, by omega, by omega, by omega, hK _ ?_⟩
  refine AWp.block ?_
  refine AWp.loopG (fun k : Nat => { tm := [(0, .rd 1 (texts a)), (1, .rd 1 (texts b)), (5, ival k)], hp := [] }) (fun k => k ≤ a.length ∧ sameL a b = sameL (a.drop k) (b.drop k)) (fun k => a.length - k) 0 (by simp) (by simp) (fun k hk => ?_)
  obtain ⟨hk1, hk2⟩ := hk
  refine AWp.seq ?_
  refine AWp.seq ?_
  refine AWp.reg [] F20r4 [] (by kernel_rfl) (by rw [hC]; rfl) fun K hK => ?_
  simp [F20r4]
  first | refine hK _ ?_ | refine ⟨by omega, hK _ ?_⟩ | refine ⟨by omega, by omega, hK _ ?_⟩ | refine ⟨by omega, by omega, by omega, hK _ ?_⟩ | refine ⟨by omega, by omega, by omega, by omega, hK _ ?_⟩
  refine AWp.cond (decide (k < a.length)) (by simp) (fun hlt => ?_) (fun hge => ?_)
  · skip
    have hlt : k < a.length := by simpa using hlt
    have hlt2 : k < b.length := by omega
    have hd := sameL_drop a b k hlt hlt2
    refine AWp.skip ?_
    refine AWp.seq ?_
    refine AWp.block ?_
    refine AWp.seq ?_
    refine AWp.regD ops_mixed [] F20r6 [] (by kernel_rfl) (by rw [hC]; rfl) rfl (fun K hK => ?_) (by simp [F20r6, hlt, hlt2] <;> rfl)
    simp [F20r6, hlt, hlt2]
    first | refine hK _ ?_ | refine ⟨by omega, hK _ ?_⟩ | refine ⟨by omega, by omega, hK _ ?_⟩ | refine ⟨by omega, by omega, by omega, hK _ ?_⟩ | refine ⟨by omega, by omega, by omega, by omega, hK _ ?_⟩
    refine AWp.cond (decide (a[k] ≠ b[k])) (by simp) (fun h1 => ?_) (fun h1 => ?_)
    · skip
      have h1 : ¬ a[k] = b[k] := by simpa using h1
      refine AWp.seq ?_
      refine AWp.reg [true] F20r7 [] (by kernel_rfl) (by rw [hC]; rfl) fun K hK => ?_
      simp [F20r7]
      first | refine hK _ ?_ | refine ⟨by omega, hK _ ?_⟩ | refine ⟨by omega, by omega, hK _ ?_⟩ | refine ⟨by omega, by omega, by omega, hK _ ?_⟩ | refine ⟨by omega, by omega, by omega, by omega, hK _ ?_⟩
      repeat refine AWp.seq ?_
      refine AWp.ret ⟨.inr rfl, _, by simp [Try.results20] <;> rfl, ?_⟩
      rw [hk2, hd, decide_eq_false h1]
      exact .closed rfl
    have h1 : a[k] = b[k] := by simpa using h1
    refine AWp.skip ?_
    refine AWp.reg [false, false, true] F20r5 [] (by kernel_rfl) (by rw [hC]; rfl) fun K hK => ?_
    simp [F20r5]
    first | refine hK _ ?_ | refine ⟨by omega, hK _ ?_⟩ | refine ⟨by omega, by omega, hK _ ?_⟩ | refine ⟨by omega, by omega, by omega, hK _ ?_⟩ | refine ⟨by omega, by omega, by omega, by omega, hK _ ?_⟩
    refine ⟨k + 1, ⟨by omega, by rw [hk2, hd, decide_eq_true h1]; rfl⟩, by omega, ?_⟩
    simp [wrap_nat k (by omega)]
  have hge : ¬ k < a.length := by simpa using hge
  refine AWp.exit ?_
  refine AWp.seq ?_
  refine AWp.reg [true] F20r8 [] (by kernel_rfl) (by rw [hC]; rfl) fun K hK => ?_
  simp [F20r8]
  first | refine hK _ ?_ | refine ⟨by omega, hK _ ?_⟩ | refine ⟨by omega, by omega, hK _ ?_⟩ | refine ⟨by omega, by omega, by omega, hK _ ?_⟩ | refine ⟨by omega, by omega, by omega, by omega, hK _ ?_⟩
  repeat refine AWp.seq ?_
  refine AWp.ret ⟨.inr rfl, _, by simp [Try.results20] <;> rfl, ?_⟩
  rw [hk2, List.drop_eq_nil_of_le (show a.length ≤ k by omega), List.drop_eq_nil_of_le (show b.length ≤ k by omega)]
  exact .closed rfl
theorem add_ok (l : List ByteArray) (s : ByteArray) (hl : l.length ≤ 4194304) : Con Try.prog 57 [.rd 1 (texts l), sval s] (.rd 1 (texts (addS l s))) := by
  refine Con.of_code Try.func57 (by kernel_rfl) rfl (by simp [Try.ntmps57]) fun C hC hM => ?_
  refine AWp.seq ?_
  refine AWp.reg [true] F57r0 [] (by kernel_rfl) (by rw [hC]; rfl) fun K hK => ?_
  simp [F57r0]
  first | refine hK _ ?_ | refine ⟨by omega, hK _ ?_⟩ | refine ⟨by omega, by omega, hK _ ?_⟩ | refine ⟨by omega, by omega, by omega, hK _ ?_⟩ | refine ⟨by omega, by omega, by omega, by omega, hK _ ?_⟩
  refine AWp.seq ?_
  refine AWp.reg [true] F57r1 [] (by kernel_rfl) (by rw [hC]; rfl) fun K hK => ?_
  simp [F57r1]
  first | refine hK _ ?_ | refine ⟨by omega, hK _ ?_⟩ | refine ⟨by omega, by omega, hK _ ?_⟩ | refine ⟨by omega, by omega, by omega, hK _ ?_⟩ | refine ⟨by omega, by omega, by omega, by omega, hK _ ?_⟩
  refine AWp.seq ?_
  refine AWp.block ?_
  refine AWp.loopG (fun k : Nat => { tm := [(0, .rd 1 (texts l)), (1, sval s), (5, ival k)], hp := [] }) (fun k => k ≤ l.length ∧ posS l s = k + posS (l.drop k) s) (fun k => l.length - k) 0 (by simp) (by simp) (fun k hk => ?_)
  obtain ⟨hk1, hk2⟩ := hk
  by_cases hlt : k < l.length
  · have hd := posS_drop l s k hlt
    obtain ⟨x, hx⟩ : ∃ x, l[k] = x := ⟨_, rfl⟩
    rw [hx] at hd
    cases hb : ltT x s with
    | true =>
      rw [hb, if_pos rfl] at hd
      have hb' : Op.bytesLess x.toList s.toList = true := hb
      refine AWp.seq ?_
      refine AWp.seq ?_
      refine AWp.reg [] F57r2 [] (by kernel_rfl) (by rw [hC]; rfl) fun K hK => ?_
      simp [F57r2, hlt, hx, hb']
      first | refine hK _ ?_ | refine ⟨by omega, hK _ ?_⟩ | refine ⟨by omega, by omega, hK _ ?_⟩ | refine ⟨by omega, by omega, by omega, hK _ ?_⟩ | refine ⟨by omega, by omega, by omega, by omega, hK _ ?_⟩
      refine AWp.cond true (by simp) (fun _ => ?_) (fun he => by cases he)
      refine AWp.skip ?_
      refine AWp.block ?_
      refine AWp.reg [false, false, true] F57r3 [] (by kernel_rfl) (by rw [hC]; rfl) fun K hK => ?_
      simp [F57r3]
      first | refine hK _ ?_ | refine ⟨by omega, hK _ ?_⟩ | refine ⟨by omega, by omega, hK _ ?_⟩ | refine ⟨by omega, by omega, by omega, hK _ ?_⟩ | refine ⟨by omega, by omega, by omega, by omega, hK _ ?_⟩
      refine ⟨k + 1, ⟨by omega, by omega⟩, by omega, ?_⟩
      simp [wrap_nat k (by omega)]
    | false =>
      rw [hb, if_neg (by simp)] at hd
      have hb' : Op.bytesLess x.toList s.toList = false := hb
      have hp : posS l s = k := by omega
      refine AWp.seq ?_
      refine AWp.seq ?_
      refine AWp.reg [] F57r2 [] (by kernel_rfl) (by rw [hC]; rfl) fun K hK => ?_
      simp [F57r2, hlt, hx, hb']
      first | refine hK _ ?_ | refine ⟨by omega, hK _ ?_⟩ | refine ⟨by omega, by omega, hK _ ?_⟩ | refine ⟨by omega, by omega, by omega, hK _ ?_⟩ | refine ⟨by omega, by omega, by omega, by omega, hK _ ?_⟩
      refine AWp.cond false (by simp) (fun he => by cases he) (fun _ => ?_)
      refine AWp.exit ?_
      by_cases hxs : x = s
      · skip
        refine AWp.seq ?_
        refine AWp.seq ?_
        refine AWp.reg [] F57r4 [] (by kernel_rfl) (by rw [hC]; rfl) fun K hK => ?_
        simp [F57r4, hlt, hx, hxs]
        first | refine hK _ ?_ | refine ⟨by omega, hK _ ?_⟩ | refine ⟨by omega, by omega, hK _ ?_⟩ | refine ⟨by omega, by omega, by omega, hK _ ?_⟩ | refine ⟨by omega, by omega, by omega, by omega, hK _ ?_⟩
        refine AWp.cond true (by simp) (fun _ => ?_) (fun he => by cases he)
        refine AWp.seq ?_
        refine AWp.reg [true, true] F57r5 [] (by kernel_rfl) (by rw [hC]; rfl) fun K hK => ?_
        simp [F57r5]
        first | refine hK _ ?_ | refine ⟨by omega, hK _ ?_⟩ | refine ⟨by omega, by omega, hK _ ?_⟩ | refine ⟨by omega, by omega, by omega, hK _ ?_⟩ | refine ⟨by omega, by omega, by omega, by omega, hK _ ?_⟩
        repeat refine AWp.seq ?_
        refine AWp.ret ⟨.inr rfl, _, by simp [Try.results57] <;> rfl, ?_⟩
        rw [addS, hp, List.getElem?_eq_getElem hlt, hx, if_pos (by rw [hxs])]
        exact .closed rfl
      · have hxs' : decide (x = s) = false := by simpa using hxs
        refine AWp.seq ?_
        refine AWp.seq ?_
        refine AWp.reg [] F57r4 [] (by kernel_rfl) (by rw [hC]; rfl) fun K hK => ?_
        simp [F57r4, hlt, hx, hxs]
        first | refine hK _ ?_ | refine ⟨by omega, hK _ ?_⟩ | refine ⟨by omega, by omega, hK _ ?_⟩ | refine ⟨by omega, by omega, by omega, hK _ ?_⟩ | refine ⟨by omega, by omega, by omega, by omega, hK _ ?_⟩
        refine AWp.cond false (by simp) (fun he => by cases he) (fun _ => ?_)
        have hle : k ≤ l.length := by omega
        refine AWp.skip ?_
        refine AWp.seq ?_
        refine AWp.reg [false, false, false, false, false, true] F57r6 [] (by kernel_rfl) (by rw [hC]; rfl) fun K hK => ?_
        simp [F57r6, hle]
        first | refine hK _ ?_ | refine ⟨by omega, hK _ ?_⟩ | refine ⟨by omega, by omega, hK _ ?_⟩ | refine ⟨by omega, by omega, by omega, hK _ ?_⟩ | refine ⟨by omega, by omega, by omega, by omega, hK _ ?_⟩
        refine AWp.seq ?_
        refine AWp.reg [true, false, false, false, true] F57r7 [] (by kernel_rfl) (by rw [hC]; rfl) fun K hK => ?_
        simp [F57r7, hle]
        first | refine hK _ ?_ | refine ⟨by omega, hK _ ?_⟩ | refine ⟨by omega, by omega, hK _ ?_⟩ | refine ⟨by omega, by omega, by omega, hK _ ?_⟩ | refine ⟨by omega, by omega, by omega, by omega, hK _ ?_⟩
        refine AWp.seq ?_
        refine AWp.reg [true, false, false, false, false, true] F57r8 [] (by kernel_rfl) (by rw [hC]; rfl) fun K hK => ?_
        simp [F57r8, hle]
        first | refine hK _ ?_ | refine ⟨by omega, hK _ ?_⟩ | refine ⟨by omega, by omega, hK _ ?_⟩ | refine ⟨by omega, by omega, by omega, hK _ ?_⟩ | refine ⟨by omega, by omega, by omega, by omega, hK _ ?_⟩
        refine AWp.seq ?_
        refine AWp.reg [true, true] F57r9 [] (by kernel_rfl) (by rw [hC]; rfl) fun K hK => ?_
        simp [F57r9, hle]
        first | refine hK _ ?_ | refine ⟨by omega, hK _ ?_⟩ | refine ⟨by omega, by omega, hK _ ?_⟩ | refine ⟨by omega, by omega, by omega, hK _ ?_⟩ | refine ⟨by omega, by omega, by omega, by omega, hK _ ?_⟩
        repeat refine AWp.seq ?_
        refine AWp.ret ⟨.inr rfl, _, by simp [Try.results57] <;> rfl, ?_⟩
        rw [addS, hp, List.getElem?_eq_getElem hlt, hx, if_neg (by simpa using hxs)]
        simp [texts, List.map_take, List.map_drop, encT]
        exact .own
  · skip
    have hp : posS l s = k := by rw [hk2, List.drop_eq_nil_of_le (by omega)]; rfl
    refine AWp.seq ?_
    refine AWp.seq ?_
    refine AWp.reg [] F57r2 [] (by kernel_rfl) (by rw [hC]; rfl) fun K hK => ?_
    simp [F57r2, hlt]
    first | refine hK _ ?_ | refine ⟨by omega, hK _ ?_⟩ | refine ⟨by omega, by omega, hK _ ?_⟩ | refine ⟨by omega, by omega, by omega, hK _ ?_⟩ | refine ⟨by omega, by omega, by omega, by omega, hK _ ?_⟩
    refine AWp.cond false (by simp) (fun he => by cases he) (fun _ => ?_)
    refine AWp.exit ?_
    refine AWp.seq ?_
    refine AWp.seq ?_
    refine AWp.reg [] F57r4 [] (by kernel_rfl) (by rw [hC]; rfl) fun K hK => ?_
    simp [F57r4, hlt]
    first | refine hK _ ?_ | refine ⟨by omega, hK _ ?_⟩ | refine ⟨by omega, by omega, hK _ ?_⟩ | refine ⟨by omega, by omega, by omega, hK _ ?_⟩ | refine ⟨by omega, by omega, by omega, by omega, hK _ ?_⟩
    refine AWp.cond false (by simp) (fun he => by cases he) (fun _ => ?_)
    have hle : k ≤ l.length := by omega
    refine AWp.skip ?_
    refine AWp.seq ?_
    refine AWp.reg [false, false, false, false, false, true] F57r6 [] (by kernel_rfl) (by rw [hC]; rfl) fun K hK => ?_
    simp [F57r6, hle]
    first | refine hK _ ?_ | refine ⟨by omega, hK _ ?_⟩ | refine ⟨by omega, by omega, hK _ ?_⟩ | refine ⟨by omega, by omega, by omega, hK _ ?_⟩ | refine ⟨by omega, by omega, by omega, by omega, hK _ ?_⟩
    refine AWp.seq ?_
    refine AWp.reg [true, false, false, false, true] F57r7 [] (by kernel_rfl) (by rw [hC]; rfl) fun K hK => ?_
    simp [F57r7, hle]
    first | refine hK _ ?_ | refine ⟨by omega, hK _ ?_⟩ | refine ⟨by omega, by omega, hK _ ?_⟩ | refine ⟨by omega, by omega, by omega, hK _ ?_⟩ | refine ⟨by omega, by omega, by omega, by omega, hK _ ?_⟩
    refine AWp.seq ?_
    refine AWp.reg [true, false, false, false, false, true] F57r8 [] (by kernel_rfl) (by rw [hC]; rfl) fun K hK => ?_
    simp [F57r8, hle]
    first | refine hK _ ?_ | refine ⟨by omega, hK _ ?_⟩ | refine ⟨by omega, by omega, hK _ ?_⟩ | refine ⟨by omega, by omega, by omega, hK _ ?_⟩ | refine ⟨by omega, by omega, by omega, by omega, hK _ ?_⟩
    refine AWp.seq ?_
    refine AWp.reg [true, true] F57r9 [] (by kernel_rfl) (by rw [hC]; rfl) fun K hK => ?_
    simp [F57r9, hle]
    first | refine hK _ ?_ | refine ⟨by omega, hK _ ?_⟩ | refine ⟨by omega, by omega, hK _ ?_⟩ | refine ⟨by omega, by omega, by omega, hK _ ?_⟩ | refine ⟨by omega, by omega, by omega, by omega, hK _ ?_⟩
    repeat refine AWp.seq ?_
    refine AWp.ret ⟨.inr rfl, _, by simp [Try.results57] <;> rfl, ?_⟩
    rw [addS, hp, List.getElem?_eq_none (by omega), if_neg (by simp)]
    simp [texts, List.map_take, List.map_drop, encT]
    exact .own
theorem uses_ok : ∀ (n : Nat) (p : PlanD) (l : List ByteArray), psize p < n → l.length + psize p ≤ 4194304 → Con Try.prog 42 [.rd 1 (texts l), encPX p] (.rd 1 (texts (usesP l p))) := by
  intro n
  induction n with
  | zero => intro p l hn; omega
  | succ n ih =>
    intro p l hn hl
    have hsz := psize_eq p
    have hil := psizes_len p.ins
    have heq := usesP_eq l p
    have hadd := add_ok l p.rel (by omega)
    refine Con.of_code Try.func42 (by kernel_rfl) rfl (by simp [Try.ntmps42]) fun C hC hM => ?_
    refine AWp.seq ?_
    refine AWp.reg [false, true] F42r0 [] (by kernel_rfl) (by rw [hC]; rfl) fun K hK => ?_
    simp [F42r0, encPX, encP_eq]
    first | refine hK _ ?_ | refine ⟨by omega, hK _ ?_⟩ | refine ⟨by omega, by omega, hK _ ?_⟩ | refine ⟨by omega, by omega, by omega, hK _ ?_⟩ | refine ⟨by omega, by omega, by omega, by omega, hK _ ?_⟩
    refine AWp.seqJ (fun _ : Unit => { tm := [(0, .rd 1 (texts ((own1 p).foldl addS l))), (3, .ptr 3 0)], hp := [(3, .cells 66 (encP p))] }) (fun _ => True) ?_ (fun hJ => ?_)
    · skip
      rintro - -
      have hl1 : ((own1 p).foldl addS l).length ≤ l.length + 1 := by
        have h1 := foldl_addS_len (own1 p) l
        have h2 := own1_len p
        omega
      rw [heq]
      generalize (own1 p).foldl addS l = l1 at *
      refine AWp.seq ?_
      refine AWp.seq ?_
      refine AWp.reg [true] F42r3 [] (by kernel_rfl) (by rw [hC]; rfl) fun K hK => ?_
      simp [F42r3, encP_eq]
      first | refine hK _ ?_ | refine ⟨by omega, hK _ ?_⟩ | refine ⟨by omega, by omega, hK _ ?_⟩ | refine ⟨by omega, by omega, by omega, hK _ ?_⟩ | refine ⟨by omega, by omega, by omega, by omega, hK _ ?_⟩
      refine AWp.block ?_
      refine AWp.loopG (fun i : Nat => { tm := [(0, .rd 1 (texts ((p.ins.take i).foldl usesP l1))), (3, .ptr 3 0), (5, ival i)], hp := [(3, .cells 66 (encP p))] }) (fun i => i ≤ p.ins.length) (fun i => p.ins.length - i) 0 (by simp) (by simp [encP_eq]) (fun i hi => ?_)
      have hlen := foldl_usesP_len (p.ins.take i) l1
      refine AWp.seq ?_
      refine AWp.seq ?_
      refine AWp.reg [] F42r4 [] (by kernel_rfl) (by rw [hC]; rfl) fun K hK => ?_
      simp [F42r4, encP_eq]
      first | refine hK _ ?_ | refine ⟨by omega, hK _ ?_⟩ | refine ⟨by omega, by omega, hK _ ?_⟩ | refine ⟨by omega, by omega, by omega, hK _ ?_⟩ | refine ⟨by omega, by omega, by omega, by omega, hK _ ?_⟩
      refine AWp.cond (decide (i < p.ins.length)) (by simp) (fun hlt => ?_) (fun hge => ?_)
      · skip
        have hlt : i < p.ins.length := by simpa using hlt
        have h1 := psizes_snoc p.ins i hlt
        have h3 := psizes_take_le p.ins (i + 1)
        have htk : (p.ins.take (i + 1)).foldl usesP l1 = usesP ((p.ins.take i).foldl usesP l1) p.ins[i] := by rw [List.take_succ_eq_append_getElem hlt, List.foldl_append]; rfl
        obtain ⟨l2, hl2⟩ : ∃ l2, (p.ins.take i).foldl usesP l1 = l2 := ⟨_, rfl⟩
        rw [hl2] at htk hlen
        rw [hl2]
        have hcall := ih p.ins[i] l2 (by omega) (by omega)
        refine AWp.skip ?_
        refine AWp.seq ?_
        refine AWp.block ?_
        refine AWp.reg [false, false, false, false, false, false, false, true] F42r6 [{ r := .rd 1 (texts (usesP l2 p.ins[i])) }] (by kernel_rfl) (by rw [hC]; rfl) fun K hK => ?_
        simp [F42r6, hlt, encP_eq]
        refine ⟨callOK rfl (by simpa [encPX, encP_eq] using hcall), hK _ ?_⟩
        refine AWp.reg [false, false, true] F42r5 [] (by kernel_rfl) (by rw [hC]; rfl) fun K hK => ?_
        simp [F42r5]
        first | refine hK _ ?_ | refine ⟨by omega, hK _ ?_⟩ | refine ⟨by omega, by omega, hK _ ?_⟩ | refine ⟨by omega, by omega, by omega, hK _ ?_⟩ | refine ⟨by omega, by omega, by omega, by omega, hK _ ?_⟩
        refine ⟨i + 1, by omega, by omega, ?_⟩
        rw [htk]
        simp [encP_eq, wrap_nat i (by omega)]
      have hge : ¬ i < p.ins.length := by simpa using hge
      rw [List.take_of_length_le (by omega)]
      refine AWp.exit ?_
      refine AWp.seq ?_
      refine AWp.reg [true, true] F42r7 [] (by kernel_rfl) (by rw [hC]; rfl) fun K hK => ?_
      simp [F42r7]
      first | refine hK _ ?_ | refine ⟨by omega, hK _ ?_⟩ | refine ⟨by omega, by omega, hK _ ?_⟩ | refine ⟨by omega, by omega, by omega, hK _ ?_⟩ | refine ⟨by omega, by omega, by omega, by omega, hK _ ?_⟩
      repeat refine AWp.seq ?_
      refine AWp.ret ⟨.inr rfl, _, by simp [Try.results42] <;> rfl, ?_⟩
      exact .closed rfl
    · skip
      by_cases hop : p.op = 2
      · have ho1 : own1 p = [p.rel] := by simp [own1, isUse, hop]
        refine AWp.seq ?_
        refine AWp.reg [] F42r1 [] (by kernel_rfl) (by rw [hC]; rfl) fun K hK => ?_
        simp [F42r1, encP_eq, hop]
        first | refine hK _ ?_ | refine ⟨by omega, hK _ ?_⟩ | refine ⟨by omega, by omega, hK _ ?_⟩ | refine ⟨by omega, by omega, by omega, hK _ ?_⟩ | refine ⟨by omega, by omega, by omega, by omega, hK _ ?_⟩
        refine AWp.cond true (by simp) (fun _ => ?_) (fun he => by cases he)
        refine AWp.reg [false, false, false, false, true] F42r2 [{ r := .rd 1 (texts (addS l p.rel)) }] (by kernel_rfl) (by rw [hC]; rfl) fun K hK => ?_
        simp [F42r2]
        refine ⟨callOK rfl hadd, hK _ ?_⟩
        refine hJ _ () trivial ?_
        rw [ho1]
        simp [encP_eq, hop]
      · have hop' : (p.op == 2) = false := by simpa using hop
        refine AWp.seq ?_
        refine AWp.reg [] F42r1 [] (by kernel_rfl) (by rw [hC]; rfl) fun K hK => ?_
        simp [F42r1, encP_eq, hop]
        first | refine hK _ ?_ | refine ⟨by omega, hK _ ?_⟩ | refine ⟨by omega, by omega, hK _ ?_⟩ | refine ⟨by omega, by omega, by omega, hK _ ?_⟩ | refine ⟨by omega, by omega, by omega, by omega, hK _ ?_⟩
        by_cases hop4 : p.op = 4
        · have ho1 : own1 p = [p.rel] := by simp [own1, isUse, hop4]
          refine AWp.cond true (by simp [hop4]) (fun _ => ?_) (fun he => by cases he)
          refine AWp.reg [false, false, false, false, true] F42r2 [{ r := .rd 1 (texts (addS l p.rel)) }] (by kernel_rfl) (by rw [hC]; rfl) fun K hK => ?_
          simp [F42r2]
          refine ⟨callOK rfl hadd, hK _ ?_⟩
          refine hJ _ () trivial ?_
          rw [ho1]
          simp [encP_eq]
        · have ho1 : own1 p = [] := by simp [own1, isUse, hop, hop4]
          refine AWp.cond false (by simp [hop4]) (fun he => by cases he) (fun _ => ?_)
          refine AWp.skip ?_
          refine hJ _ () trivial ?_
          rw [ho1]
          simp [encP_eq]
theorem Uses_ok (p : PlanD) (hp : psize p ≤ 4194304) : Con Try.prog 23 [encPX p] (.rd 1 (texts (usesP [] p))) := by
  have h := uses_ok _ p [] (Nat.lt_succ_self _) (by simpa using hp)
  refine Con.of_code Try.func23 (by kernel_rfl) rfl (by simp [Try.ntmps23]) fun C hC hM => ?_
  refine AWp.seq ?_
  refine AWp.reg [false, true] F23r0 [] (by kernel_rfl) (by rw [hC]; rfl) fun K hK => ?_
  simp [F23r0, encPX, encP_eq]
  first | refine hK _ ?_ | refine ⟨by omega, hK _ ?_⟩ | refine ⟨by omega, by omega, hK _ ?_⟩ | refine ⟨by omega, by omega, by omega, hK _ ?_⟩ | refine ⟨by omega, by omega, by omega, by omega, hK _ ?_⟩
  refine AWp.seq ?_
  refine AWp.reg [false, false, true] F23r1 [{ r := .rd 1 (texts (usesP [] p)) }] (by kernel_rfl) (by rw [hC]; rfl) fun K hK => ?_
  simp [F23r1]
  refine ⟨⟨[.rd 1 [], encPX p], .cons .nil (.cons (by simp only [encPX, encP_eq]; exact .closed rfl) .nil), h⟩, hK _ ?_⟩
  repeat refine AWp.seq ?_
  refine AWp.ret ⟨.inr rfl, _, by simp [Try.results23] <;> rfl, ?_⟩
  exact .closed rfl
end Go.Sl
