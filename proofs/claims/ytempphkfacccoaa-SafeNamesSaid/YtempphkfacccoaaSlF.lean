/- How much literals are; lists side by side. -/
import Derived.Test.YtempphkfacccoaaSlE
import Derived.Test.YtempphkfacccoaaSlSpF
set_option linter.unusedSimpArgs false
set_option linter.unusedVariables false
open Go Go.Aw Go.Proofs
namespace Go.Sl
-- function 28: corollary/corollarylaw14.exprs: 32 slots; results ['(Go.ResultVar.tmp 4)']
def F28r0 : List ROp := [{ dst := some 4, op := .copy true (.const (.int .i64 0)), after := [], guard := none }]
def F28r1 : List ROp := [{ dst := some 5, op := .copy true (.const (.int .i64 0)), after := [], guard := none }]
def F28r2 : List ROp := [{ dst := some 6, op := .copy true (.const (.int .i64 0)), after := [], guard := none }]
def F28r3 : List ROp := [{ dst := some 7, op := .copy false (.tmp 6), after := [], guard := none },
  { dst := some 8, op := .copy false (.tmp 0), after := [], guard := none },
  { dst := some 9, op := .len 0 (.tmp 8), after := [1], guard := none },
  { dst := some 10, op := .bin .lss (.tmp 7) (.tmp 9), after := [0, 2], guard := none },
  { dst := some 11, op := .copy false (.tmp 10), after := [3], guard := none },
  { dst := some 12, op := .copy false (.tmp 5), after := [4], guard := some (11, true) },
  { dst := some 13, op := .copy false (.tmp 1), after := [4], guard := some (11, true) },
  { dst := some 14, op := .bin .lss (.tmp 12) (.tmp 13), after := [5, 6, 4], guard := some (11, true) },
  { dst := some 15, op := .pick (.tmp 11) (.tmp 14) (.const (.bool false)), after := [4, 7], guard := none }]
def F28r4 : List ROp := [{ dst := some 16, op := .copy false (.tmp 6), after := [], guard := none },
  { dst := some 17, op := .bin .add (.tmp 16) (.const (.int .i64 1)), after := [0], guard := none },
  { dst := some 6, op := .copy true (.tmp 17), after := [1, 0, 1], guard := none }]
def F28r5 : List ROp := [{ dst := some 18, op := .copy false (.tmp 5), after := [], guard := none },
  { dst := some 19, op := .bin .add (.tmp 18) (.const (.int .i64 1)), after := [0], guard := none },
  { dst := some 5, op := .copy true (.tmp 19), after := [1, 0, 1], guard := none }]
def F28r6 : List ROp := [{ dst := some 20, op := .copy false (.tmp 5), after := [], guard := none },
  { dst := some 21, op := .copy false (.tmp 0), after := [], guard := none },
  { dst := some 22, op := .copy false (.tmp 6), after := [], guard := none },
  { dst := some 23, op := .iad 9 (.tmp 21) (.tmp 22), after := [1, 2], guard := none },
  { dst := some 24, op := .fad 8 (.tmp 23), after := [3], guard := none },
  { dst := some 25, op := .load 1 false false (.tmp 24), after := [4], guard := none },
  { dst := some 26, op := .copy false (.tmp 1), after := [], guard := none },
  { dst := some 27, op := .copy false (.tmp 5), after := [], guard := none },
  { dst := some 28, op := .bin .sub (.tmp 26) (.tmp 27), after := [6, 7], guard := none },
  { dst := some 29, op := .call (.func 28) [.tmp 25, .tmp 28], after := [5, 8], guard := none },
  { dst := some 30, op := .bin .add (.tmp 20) (.tmp 29), after := [0, 9], guard := none },
  { dst := some 5, op := .copy true (.tmp 30), after := [10, 9, 0, 1, 2, 3, 4, 5, 6, 7, 8, 9, 10], guard := none }]
def F28r7 : List ROp := [{ dst := some 31, op := .copy true (.tmp 5), after := [], guard := none },
  { dst := some 4, op := .copy true (.tmp 31), after := [0, 0], guard := none }]
-- function 8: corollary/corollarylaw14.heavy: 26 slots; results ['(Go.ResultVar.tmp 2)']
def F8r0 : List ROp := [{ dst := some 2, op := .copy true (.const (.bool false)), after := [], guard := none }]
def F8r1 : List ROp := [{ dst := some 3, op := .copy true (.const (.int .i64 0)), after := [], guard := none }]
def F8r2 : List ROp := [{ dst := some 4, op := .copy true (.const (.int .i64 0)), after := [], guard := none }]
def F8r3 : List ROp := [{ dst := some 5, op := .copy false (.tmp 4), after := [], guard := none },
  { dst := some 6, op := .copy false (.tmp 0), after := [], guard := none },
  { dst := some 7, op := .len 0 (.tmp 6), after := [1], guard := none },
  { dst := some 8, op := .bin .lss (.tmp 5) (.tmp 7), after := [0, 2], guard := none },
  { dst := some 9, op := .copy false (.tmp 8), after := [3], guard := none },
  { dst := some 10, op := .copy false (.tmp 3), after := [4], guard := some (9, true) },
  { dst := some 11, op := .bin .lss (.tmp 10) (.const (.int .i64 300)), after := [5, 4], guard := some (9, true) },
  { dst := some 12, op := .pick (.tmp 9) (.tmp 11) (.const (.bool false)), after := [4, 6], guard := none }]
def F8r4 : List ROp := [{ dst := some 13, op := .copy false (.tmp 4), after := [], guard := none },
  { dst := some 14, op := .bin .add (.tmp 13) (.const (.int .i64 1)), after := [0], guard := none },
  { dst := some 4, op := .copy true (.tmp 14), after := [1, 0, 1], guard := none }]
def F8r5 : List ROp := [{ dst := some 15, op := .copy false (.tmp 3), after := [], guard := none },
  { dst := some 16, op := .bin .add (.tmp 15) (.const (.int .i64 3)), after := [0], guard := none },
  { dst := some 17, op := .copy false (.tmp 0), after := [], guard := none },
  { dst := some 18, op := .copy false (.tmp 4), after := [], guard := none },
  { dst := some 19, op := .iad 5 (.tmp 17) (.tmp 18), after := [2, 3], guard := none },
  { dst := some 20, op := .fad 4 (.tmp 19), after := [4], guard := none },
  { dst := some 21, op := .load 1 false false (.tmp 20), after := [5], guard := none },
  { dst := some 22, op := .call (.func 28) [.tmp 21, .const (.int .i64 300)], after := [6], guard := none },
  { dst := some 23, op := .bin .add (.tmp 16) (.tmp 22), after := [1, 7], guard := none },
  { dst := some 3, op := .copy true (.tmp 23), after := [8, 7, 0, 1, 2, 3, 4, 5, 6, 7, 8], guard := none }]
def F8r6 : List ROp := [{ dst := some 24, op := .copy false (.tmp 3), after := [], guard := none },
  { dst := some 25, op := .bin .geq (.tmp 24) (.const (.int .i64 300)), after := [0], guard := none },
  { dst := some 2, op := .copy true (.tmp 25), after := [1, 0, 1], guard := none }]
-- function 30: corollary/corollarylaw14.ints: 26 slots; results ['(Go.ResultVar.tmp 4)']
def F30r0 : List ROp := [{ dst := some 4, op := .copy true (.const (.bool false)), after := [], guard := none }]
def F30r1 : List ROp := [{ dst := some 6, op := .copy false (.tmp 0), after := [], guard := none },
  { dst := some 7, op := .len 0 (.tmp 6), after := [0], guard := none },
  { dst := some 8, op := .copy false (.tmp 1), after := [], guard := none },
  { dst := some 9, op := .len 0 (.tmp 8), after := [2], guard := none },
  { dst := some 10, op := .bin .neq (.tmp 7) (.tmp 9), after := [1, 3], guard := none }]
def F30r2 : List ROp := [{ dst := some 4, op := .copy true (.const (.bool false)), after := [], guard := none }]
def F30r3 : List ROp := [{ dst := some 5, op := .copy true (.const (.int .i64 0)), after := [], guard := none }]
def F30r4 : List ROp := [{ dst := some 11, op := .copy false (.tmp 5), after := [], guard := none },
  { dst := some 12, op := .copy false (.tmp 0), after := [], guard := none },
  { dst := some 13, op := .len 0 (.tmp 12), after := [1], guard := none },
  { dst := some 14, op := .bin .lss (.tmp 11) (.tmp 13), after := [0, 2], guard := none }]
def F30r5 : List ROp := [{ dst := some 15, op := .copy false (.tmp 5), after := [], guard := none },
  { dst := some 16, op := .bin .add (.tmp 15) (.const (.int .i64 1)), after := [0], guard := none },
  { dst := some 5, op := .copy true (.tmp 16), after := [1, 0, 1], guard := none }]
def F30r6 : List ROp := [{ dst := some 17, op := .copy false (.tmp 0), after := [], guard := none },
  { dst := some 18, op := .copy false (.tmp 5), after := [], guard := none },
  { dst := some 19, op := .iad 1 (.tmp 17) (.tmp 18), after := [0, 1], guard := none },
  { dst := some 20, op := .load 1 false false (.tmp 19), after := [2], guard := none },
  { dst := some 21, op := .copy false (.tmp 1), after := [], guard := none },
  { dst := some 22, op := .copy false (.tmp 5), after := [], guard := none },
  { dst := some 23, op := .iad 1 (.tmp 21) (.tmp 22), after := [4, 5], guard := none },
  { dst := some 24, op := .load 1 false false (.tmp 23), after := [6], guard := none },
  { dst := some 25, op := .bin .neq (.tmp 20) (.tmp 24), after := [3, 7], guard := none }]
def F30r7 : List ROp := [{ dst := some 4, op := .copy true (.const (.bool false)), after := [], guard := none }]
def F30r8 : List ROp := [{ dst := some 4, op := .copy true (.const (.bool true)), after := [], guard := none }]
-- function 20: corollary/corollaryref06.SameTexts: 26 slots; results ['(Go.ResultVar.tmp 4)']
def F20r0 : List ROp := [{ dst := some 4, op := .copy true (.const (.bool false)), after := [], guard := none }]
def F20r1 : List ROp := [{ dst := some 6, op := .copy false (.tmp 0), after := [], guard := none },
  { dst := some 7, op := .len 0 (.tmp 6), after := [0], guard := none },
  { dst := some 8, op := .copy false (.tmp 1), after := [], guard := none },
  { dst := some 9, op := .len 0 (.tmp 8), after := [2], guard := none },
  { dst := some 10, op := .bin .neq (.tmp 7) (.tmp 9), after := [1, 3], guard := none }]
def F20r2 : List ROp := [{ dst := some 4, op := .copy true (.const (.bool false)), after := [], guard := none }]
def F20r3 : List ROp := [{ dst := some 5, op := .copy true (.const (.int .i64 0)), after := [], guard := none }]
def F20r4 : List ROp := [{ dst := some 11, op := .copy false (.tmp 5), after := [], guard := none },
  { dst := some 12, op := .copy false (.tmp 0), after := [], guard := none },
  { dst := some 13, op := .len 0 (.tmp 12), after := [1], guard := none },
  { dst := some 14, op := .bin .lss (.tmp 11) (.tmp 13), after := [0, 2], guard := none }]
def F20r5 : List ROp := [{ dst := some 15, op := .copy false (.tmp 5), after := [], guard := none },
  { dst := some 16, op := .bin .add (.tmp 15) (.const (.int .i64 1)), after := [0], guard := none },
  { dst := some 5, op := .copy true (.tmp 16), after := [1, 0, 1], guard := none }]
def F20r6 : List ROp := [{ dst := some 17, op := .copy false (.tmp 0), after := [], guard := none },
  { dst := some 18, op := .copy false (.tmp 5), after := [], guard := none },
  { dst := some 19, op := .iad 1 (.tmp 17) (.tmp 18), after := [0, 1], guard := none },
  { dst := some 20, op := .load 1 false false (.tmp 19), after := [2], guard := none },
  { dst := some 21, op := .copy false (.tmp 1), after := [], guard := none },
  { dst := some 22, op := .copy false (.tmp 5), after := [], guard := none },
  { dst := some 23, op := .iad 1 (.tmp 21) (.tmp 22), after := [4, 5], guard := none },
  { dst := some 24, op := .load 1 false false (.tmp 23), after := [6], guard := none },
  { dst := some 25, op := .bin .neq (.tmp 20) (.tmp 24), after := [3, 7], guard := none }]
def F20r7 : List ROp := [{ dst := some 4, op := .copy true (.const (.bool false)), after := [], guard := none }]
def F20r8 : List ROp := [{ dst := some 4, op := .copy true (.const (.bool true)), after := [], guard := none }]
theorem in_ok (l : List ByteArray) (s : ByteArray) (hl : l.length ≤ 4194304) : Con Try.prog 11 [.rd 1 (texts l), sval s] (bval (hasT l s)) := by
  refine Con.of_code Try.func11 (by kernel_rfl) rfl (by simp [Try.ntmps11]) fun C hC hM => ?_
  refine AWp.seq ?_
  refine AWp.reg [true] F11r0 [] (by kernel_rfl) (by rw [hC]; rfl) fun K hK => ?_
  simp [F11r0]
  first | refine hK _ ?_ | refine ⟨by omega, hK _ ?_⟩ | refine ⟨by omega, by omega, hK _ ?_⟩ | refine ⟨by omega, by omega, by omega, hK _ ?_⟩ | refine ⟨by omega, by omega, by omega, by omega, hK _ ?_⟩
  refine AWp.seq ?_
  refine AWp.seq ?_
  refine AWp.reg [true] F11r1 [] (by kernel_rfl) (by rw [hC]; rfl) fun K hK => ?_
  simp [F11r1]
  first | refine hK _ ?_ | refine ⟨by omega, hK _ ?_⟩ | refine ⟨by omega, by omega, hK _ ?_⟩ | refine ⟨by omega, by omega, by omega, hK _ ?_⟩ | refine ⟨by omega, by omega, by omega, by omega, hK _ ?_⟩
  refine AWp.block ?_
  refine AWp.loopG (fun k : Nat => { tm := [(0, .rd 1 (texts l)), (1, sval s), (5, ival k)], hp := [] }) (fun k => k ≤ l.length ∧ hasT l s = hasT (l.drop k) s) (fun k => l.length - k) 0 (by simp) (by simp) (fun k hk => ?_)
  obtain ⟨hk1, hk2⟩ := hk
  refine AWp.seq ?_
  refine AWp.seq ?_
  refine AWp.reg [] F11r2 [] (by kernel_rfl) (by rw [hC]; rfl) fun K hK => ?_
  simp [F11r2]
  first | refine hK _ ?_ | refine ⟨by omega, hK _ ?_⟩ | refine ⟨by omega, by omega, hK _ ?_⟩ | refine ⟨by omega, by omega, by omega, hK _ ?_⟩ | refine ⟨by omega, by omega, by omega, by omega, hK _ ?_⟩
  refine AWp.cond (decide (k < l.length)) (by simp) (fun hlt => ?_) (fun hge => ?_)
  · skip
    have hlt : k < l.length := by simpa using hlt
    have hd := hasT_drop l s k hlt
    refine AWp.skip ?_
    refine AWp.seq ?_
    refine AWp.block ?_
    refine AWp.seq ?_
    refine AWp.reg [] F11r4 [] (by kernel_rfl) (by rw [hC]; rfl) fun K hK => ?_
    simp [F11r4, hlt]
    first | refine hK _ ?_ | refine ⟨by omega, hK _ ?_⟩ | refine ⟨by omega, by omega, hK _ ?_⟩ | refine ⟨by omega, by omega, by omega, hK _ ?_⟩ | refine ⟨by omega, by omega, by omega, by omega, hK _ ?_⟩
    refine AWp.cond (decide (l[k] = s)) (by simp) (fun heq => ?_) (fun hne => ?_)
    · skip
      have heq : l[k] = s := by simpa using heq
      refine AWp.seq ?_
      refine AWp.reg [true] F11r5 [] (by kernel_rfl) (by rw [hC]; rfl) fun K hK => ?_
      simp [F11r5]
      first | refine hK _ ?_ | refine ⟨by omega, hK _ ?_⟩ | refine ⟨by omega, by omega, hK _ ?_⟩ | refine ⟨by omega, by omega, by omega, hK _ ?_⟩ | refine ⟨by omega, by omega, by omega, by omega, hK _ ?_⟩
      repeat refine AWp.seq ?_
      refine AWp.ret ⟨.inr rfl, _, by simp [Try.results11] <;> rfl, ?_⟩
      rw [hk2, hd]
      simp [heq]
      exact .closed rfl
    have hne : ¬ s = l[k] := fun e => by simp [e] at hne
    refine AWp.skip ?_
    refine AWp.reg [false, false, true] F11r3 [] (by kernel_rfl) (by rw [hC]; rfl) fun K hK => ?_
    simp [F11r3]
    first | refine hK _ ?_ | refine ⟨by omega, hK _ ?_⟩ | refine ⟨by omega, by omega, hK _ ?_⟩ | refine ⟨by omega, by omega, by omega, hK _ ?_⟩ | refine ⟨by omega, by omega, by omega, by omega, hK _ ?_⟩
    refine ⟨k + 1, ⟨by omega, by rw [hk2, hd]; simp [hne]⟩, by omega, ?_⟩
    simp [wrap_nat k (by omega)]
  have hge : ¬ k < l.length := by simpa using hge
  refine AWp.exit ?_
  refine AWp.seq ?_
  refine AWp.reg [true] F11r6 [] (by kernel_rfl) (by rw [hC]; rfl) fun K hK => ?_
  simp [F11r6]
  first | refine hK _ ?_ | refine ⟨by omega, hK _ ?_⟩ | refine ⟨by omega, by omega, hK _ ?_⟩ | refine ⟨by omega, by omega, by omega, hK _ ?_⟩ | refine ⟨by omega, by omega, by omega, by omega, hK _ ?_⟩
  repeat refine AWp.seq ?_
  refine AWp.ret ⟨.inr rfl, _, by simp [Try.results11] <;> rfl, ?_⟩
  rw [hk2, List.drop_eq_nil_of_le (by omega)]
  exact .closed rfl
theorem exprs_ok : ∀ (n : Nat) (l : List ExprD) (most : Nat), sizes l < n → most ≤ 4194304 → Con Try.prog 28 [.rd 9 (l.map encE), ival most] (ival (exN l most)) := by
  intro n
  induction n with
  | zero => intro l most hn; omega
  | succ n ih =>
    intro l most hn hmost
    refine Con.of_code Try.func28 (by kernel_rfl) rfl (by simp [Try.ntmps28]) fun C hC hM => ?_
    refine AWp.seq ?_
    refine AWp.reg [true] F28r0 [] (by kernel_rfl) (by rw [hC]; rfl) fun K hK => ?_
    simp [F28r0]
    first | refine hK _ ?_ | refine ⟨by omega, hK _ ?_⟩ | refine ⟨by omega, by omega, hK _ ?_⟩ | refine ⟨by omega, by omega, by omega, hK _ ?_⟩ | refine ⟨by omega, by omega, by omega, by omega, hK _ ?_⟩
    refine AWp.seq ?_
    refine AWp.reg [true] F28r1 [] (by kernel_rfl) (by rw [hC]; rfl) fun K hK => ?_
    simp [F28r1]
    first | refine hK _ ?_ | refine ⟨by omega, hK _ ?_⟩ | refine ⟨by omega, by omega, hK _ ?_⟩ | refine ⟨by omega, by omega, by omega, hK _ ?_⟩ | refine ⟨by omega, by omega, by omega, by omega, hK _ ?_⟩
    refine AWp.seq ?_
    refine AWp.seq ?_
    refine AWp.reg [true] F28r2 [] (by kernel_rfl) (by rw [hC]; rfl) fun K hK => ?_
    simp [F28r2]
    first | refine hK _ ?_ | refine ⟨by omega, hK _ ?_⟩ | refine ⟨by omega, by omega, hK _ ?_⟩ | refine ⟨by omega, by omega, by omega, hK _ ?_⟩ | refine ⟨by omega, by omega, by omega, by omega, hK _ ?_⟩
    refine AWp.block ?_
    refine AWp.loopG (fun i : Nat => { tm := [(0, .rd 9 (l.map encE)), (1, ival most), (5, ival (exN (l.take i) most)), (6, ival i)], hp := [] }) (fun i => i ≤ l.length) (fun i => l.length - i) 0 (by simp) (by simp) (fun i hi => ?_)
    have hle := exN_le (l.take i) most
    by_cases hlt : i < l.length
    · by_cases hm : exN (l.take i) most < most
      · have hst := exN_step l i most hlt hm
        have hix := exN_idx l i most hi hm
        have hsz : sizes l[i].args < n := by
          have h1 := sizes_snoc l i hlt
          have h2 := size_eq l[i]
          have h3 := sizes_take_le l (i + 1)
          omega
        have hle2 := exN_le l[i].args (most - (exN (l.take i) most + 1))
        have hcall := ih l[i].args (most - (exN (l.take i) most + 1)) hsz (by omega)
        generalize exN (l.take i) most = c at *
        have hw1 : IntKind.i64.wrap ((c : Int) + 1) = ((c + 1 : Nat) : Int) := wrap_nat c (by omega)
        have hw2 : IntKind.i64.wrap ((most : Int) - ((c : Int) + 1)) = ((most - (c + 1) : Nat) : Int) := by rw [wrap_in (by omega) (by omega)]; omega
        refine AWp.seq ?_
        refine AWp.seq ?_
        refine AWp.reg [] F28r3 [] (by kernel_rfl) (by rw [hC]; rfl) fun K hK => ?_
        simp [F28r3, hlt, hm]
        first | refine hK _ ?_ | refine ⟨by omega, hK _ ?_⟩ | refine ⟨by omega, by omega, hK _ ?_⟩ | refine ⟨by omega, by omega, by omega, hK _ ?_⟩ | refine ⟨by omega, by omega, by omega, by omega, hK _ ?_⟩
        refine AWp.cond true (by simp) (fun _ => ?_) (fun he => by cases he)
        refine AWp.skip ?_
        refine AWp.seq ?_
        refine AWp.block ?_
        refine AWp.seq ?_
        refine AWp.reg [false, false, true] F28r5 [] (by kernel_rfl) (by rw [hC]; rfl) fun K hK => ?_
        simp [F28r5, hlt]
        first | refine hK _ ?_ | refine ⟨by omega, hK _ ?_⟩ | refine ⟨by omega, by omega, hK _ ?_⟩ | refine ⟨by omega, by omega, by omega, hK _ ?_⟩ | refine ⟨by omega, by omega, by omega, by omega, hK _ ?_⟩
        refine AWp.reg [false, false, false, false, false, false, false, false, false, false, false, true] F28r6 [{ r := ival (exN l[i].args (most - (c + 1))) }] (by kernel_rfl) (by rw [hC]; rfl) fun K hK => ?_
        simp [F28r6, hlt, encE_eq, hw1, hw2]
        refine ⟨callOK rfl hcall, hK _ ?_⟩
        refine AWp.reg [false, false, true] F28r4 [] (by kernel_rfl) (by rw [hC]; rfl) fun K hK => ?_
        simp [F28r4]
        first | refine hK _ ?_ | refine ⟨by omega, hK _ ?_⟩ | refine ⟨by omega, by omega, hK _ ?_⟩ | refine ⟨by omega, by omega, by omega, hK _ ?_⟩ | refine ⟨by omega, by omega, by omega, by omega, hK _ ?_⟩
        refine ⟨i + 1, by omega, by omega, ?_⟩
        have hw3 : IntKind.i64.wrap ((c : Int) + 1 + (exN l[i].args (most - (c + 1)) : Int)) = ((exN (l.take (i + 1)) most : Nat) : Int) := by rw [wrap_in (by omega) (by omega)]; omega
        simp [hw3, wrap_nat i (by omega)]
      · skip
        refine AWp.seq ?_
        refine AWp.seq ?_
        refine AWp.reg [] F28r3 [] (by kernel_rfl) (by rw [hC]; rfl) fun K hK => ?_
        simp [F28r3, hlt, hm]
        first | refine hK _ ?_ | refine ⟨by omega, hK _ ?_⟩ | refine ⟨by omega, by omega, hK _ ?_⟩ | refine ⟨by omega, by omega, by omega, hK _ ?_⟩ | refine ⟨by omega, by omega, by omega, by omega, hK _ ?_⟩
        refine AWp.cond false (by simp) (fun he => by cases he) (fun _ => ?_)
        refine AWp.exit ?_
        refine AWp.seq ?_
        refine AWp.reg [true, true] F28r7 [] (by kernel_rfl) (by rw [hC]; rfl) fun K hK => ?_
        simp [F28r7]
        first | refine hK _ ?_ | refine ⟨by omega, hK _ ?_⟩ | refine ⟨by omega, by omega, hK _ ?_⟩ | refine ⟨by omega, by omega, by omega, hK _ ?_⟩ | refine ⟨by omega, by omega, by omega, by omega, hK _ ?_⟩
        repeat refine AWp.seq ?_
        refine AWp.ret ⟨.inr rfl, _, by simp [Try.results28] <;> rfl, ?_⟩
        rw [exN_done l i most (.inr (by omega))]
        exact .closed rfl
    · skip
      refine AWp.seq ?_
      refine AWp.seq ?_
      refine AWp.reg [] F28r3 [] (by kernel_rfl) (by rw [hC]; rfl) fun K hK => ?_
      simp [F28r3, hlt]
      first | refine hK _ ?_ | refine ⟨by omega, hK _ ?_⟩ | refine ⟨by omega, by omega, hK _ ?_⟩ | refine ⟨by omega, by omega, by omega, hK _ ?_⟩ | refine ⟨by omega, by omega, by omega, by omega, hK _ ?_⟩
      refine AWp.cond false (by simp) (fun he => by cases he) (fun _ => ?_)
      refine AWp.exit ?_
      refine AWp.seq ?_
      refine AWp.reg [true, true] F28r7 [] (by kernel_rfl) (by rw [hC]; rfl) fun K hK => ?_
      simp [F28r7]
      first | refine hK _ ?_ | refine ⟨by omega, hK _ ?_⟩ | refine ⟨by omega, by omega, hK _ ?_⟩ | refine ⟨by omega, by omega, by omega, hK _ ?_⟩ | refine ⟨by omega, by omega, by omega, by omega, hK _ ?_⟩
      repeat refine AWp.seq ?_
      refine AWp.ret ⟨.inr rfl, _, by simp [Try.results28] <;> rfl, ?_⟩
      rw [exN_done l i most (.inl (by omega))]
      exact .closed rfl
theorem heavy_ok (l : List LitD) (hl : l.length ≤ 4194304) (hs : ∀ x ∈ l, sizes x.args ≤ 4194304) : Con Try.prog 8 [.rd 5 (l.map encL)] (bval (heavyE l)) := by
  refine Con.of_code Try.func8 (by kernel_rfl) rfl (by simp [Try.ntmps8]) fun C hC hM => ?_
  refine AWp.seq ?_
  refine AWp.reg [true] F8r0 [] (by kernel_rfl) (by rw [hC]; rfl) fun K hK => ?_
  simp [F8r0]
  first | refine hK _ ?_ | refine ⟨by omega, hK _ ?_⟩ | refine ⟨by omega, by omega, hK _ ?_⟩ | refine ⟨by omega, by omega, by omega, hK _ ?_⟩ | refine ⟨by omega, by omega, by omega, by omega, hK _ ?_⟩
  refine AWp.seq ?_
  refine AWp.reg [true] F8r1 [] (by kernel_rfl) (by rw [hC]; rfl) fun K hK => ?_
  simp [F8r1]
  first | refine hK _ ?_ | refine ⟨by omega, hK _ ?_⟩ | refine ⟨by omega, by omega, hK _ ?_⟩ | refine ⟨by omega, by omega, by omega, hK _ ?_⟩ | refine ⟨by omega, by omega, by omega, by omega, hK _ ?_⟩
  refine AWp.seq ?_
  refine AWp.seq ?_
  refine AWp.reg [true] F8r2 [] (by kernel_rfl) (by rw [hC]; rfl) fun K hK => ?_
  simp [F8r2]
  first | refine hK _ ?_ | refine ⟨by omega, hK _ ?_⟩ | refine ⟨by omega, by omega, hK _ ?_⟩ | refine ⟨by omega, by omega, by omega, hK _ ?_⟩ | refine ⟨by omega, by omega, by omega, by omega, hK _ ?_⟩
  refine AWp.block ?_
  refine AWp.loopG (fun p : Nat × Nat => { tm := [(0, .rd 5 (l.map encL)), (3, ival p.2), (4, ival p.1)], hp := [] }) (fun p => p.1 ≤ l.length ∧ p.2 ≤ 1000 ∧ hv l 0 = hv (l.drop p.1) p.2) (fun p => l.length - p.1) (0, 0) (by simp) (by simp) (fun p hp => ?_)
  obtain ⟨i, c⟩ := p
  obtain ⟨h1, h2, h3⟩ := hp
  simp only at h1 h2 h3
  by_cases hlt : i < l.length
  · by_cases hm : c < 300
    · have hd := hv_drop l i c hlt
      rw [if_pos hm] at hd
      have hmI : (c : Int) < 300 := by omega
      have hget : l[i] ∈ l := List.getElem_mem hlt
      obtain ⟨x, hx⟩ : ∃ x, l[i] = x := ⟨_, rfl⟩
      rw [hx] at hd hget
      have hcall := exprs_ok _ x.args 300 (Nat.lt_succ_self _) (by omega)
      have hle := exN_le x.args 300
      have hw1 : IntKind.i64.wrap ((c : Int) + 3) = ((c + 3 : Nat) : Int) := by rw [wrap_in (by omega) (by omega)]; omega
      refine AWp.seq ?_
      refine AWp.seq ?_
      refine AWp.reg [] F8r3 [] (by kernel_rfl) (by rw [hC]; rfl) fun K hK => ?_
      simp [F8r3, hlt, hmI]
      first | refine hK _ ?_ | refine ⟨by omega, hK _ ?_⟩ | refine ⟨by omega, by omega, hK _ ?_⟩ | refine ⟨by omega, by omega, by omega, hK _ ?_⟩ | refine ⟨by omega, by omega, by omega, by omega, hK _ ?_⟩
      refine AWp.cond true (by simp) (fun _ => ?_) (fun he => by cases he)
      refine AWp.skip ?_
      refine AWp.seq ?_
      refine AWp.block ?_
      refine AWp.reg [false, false, false, false, false, false, false, false, false, true] F8r5 [{ r := ival (exN x.args 300) }] (by kernel_rfl) (by rw [hC]; rfl) fun K hK => ?_
      simp [F8r5, hlt, hx, encL, hw1]
      refine ⟨callOK rfl hcall, hK _ ?_⟩
      refine AWp.reg [false, false, true] F8r4 [] (by kernel_rfl) (by rw [hC]; rfl) fun K hK => ?_
      simp [F8r4]
      first | refine hK _ ?_ | refine ⟨by omega, hK _ ?_⟩ | refine ⟨by omega, by omega, hK _ ?_⟩ | refine ⟨by omega, by omega, by omega, hK _ ?_⟩ | refine ⟨by omega, by omega, by omega, by omega, hK _ ?_⟩
      refine ⟨(i + 1, c + 3 + exN x.args 300), ⟨by simp only; omega, by simp only; omega, by simp only; rw [h3, hd]⟩, by simp only; omega, ?_⟩
      have hw3 : IntKind.i64.wrap ((c : Int) + 3 + (exN x.args 300 : Int)) = (c : Int) + 3 + (exN x.args 300 : Int) := by rw [wrap_in (by omega) (by omega)]
      simp [hw3, wrap_nat i (by omega)]
    · have hmI : ¬ (c : Int) < 300 := by omega
      refine AWp.seq ?_
      refine AWp.seq ?_
      refine AWp.reg [] F8r3 [] (by kernel_rfl) (by rw [hC]; rfl) fun K hK => ?_
      simp [F8r3, hlt, hmI]
      first | refine hK _ ?_ | refine ⟨by omega, hK _ ?_⟩ | refine ⟨by omega, by omega, hK _ ?_⟩ | refine ⟨by omega, by omega, by omega, hK _ ?_⟩ | refine ⟨by omega, by omega, by omega, by omega, hK _ ?_⟩
      refine AWp.cond false (by simp) (fun he => by cases he) (fun _ => ?_)
      refine AWp.exit ?_
      refine AWp.seq ?_
      refine AWp.reg [false, false, true] F8r6 [] (by kernel_rfl) (by rw [hC]; rfl) fun K hK => ?_
      simp [F8r6]
      first | refine hK _ ?_ | refine ⟨by omega, hK _ ?_⟩ | refine ⟨by omega, by omega, hK _ ?_⟩ | refine ⟨by omega, by omega, by omega, hK _ ?_⟩ | refine ⟨by omega, by omega, by omega, by omega, hK _ ?_⟩
      repeat refine AWp.seq ?_
      refine AWp.ret ⟨.inr rfl, _, by simp [Try.results8] <;> rfl, ?_⟩
      have : hv (l.drop i) c = c := by rw [hv_drop l i c hlt, if_neg hm]
      rw [show heavyE l = decide ((c : Int) ≥ 300) by rw [heavyE, h3, this]; exact decide_eq_decide.2 (by omega)]
      exact .closed rfl
  · skip
    refine AWp.seq ?_
    refine AWp.seq ?_
    refine AWp.reg [] F8r3 [] (by kernel_rfl) (by rw [hC]; rfl) fun K hK => ?_
    simp [F8r3, hlt]
    first | refine hK _ ?_ | refine ⟨by omega, hK _ ?_⟩ | refine ⟨by omega, by omega, hK _ ?_⟩ | refine ⟨by omega, by omega, by omega, hK _ ?_⟩ | refine ⟨by omega, by omega, by omega, by omega, hK _ ?_⟩
    refine AWp.cond false (by simp) (fun he => by cases he) (fun _ => ?_)
    refine AWp.exit ?_
    refine AWp.seq ?_
    refine AWp.reg [false, false, true] F8r6 [] (by kernel_rfl) (by rw [hC]; rfl) fun K hK => ?_
    simp [F8r6]
    first | refine hK _ ?_ | refine ⟨by omega, hK _ ?_⟩ | refine ⟨by omega, by omega, hK _ ?_⟩ | refine ⟨by omega, by omega, by omega, hK _ ?_⟩ | refine ⟨by omega, by omega, by omega, by omega, hK _ ?_⟩
    repeat refine AWp.seq ?_
    refine AWp.ret ⟨.inr rfl, _, by simp [Try.results8] <;> rfl, ?_⟩
    have : hv (l.drop i) c = c := by rw [List.drop_eq_nil_of_le (by omega)]; rfl
    rw [show heavyE l = decide ((c : Int) ≥ 300) by rw [heavyE, h3, this]; exact decide_eq_decide.2 (by omega)]
    exact .closed rfl
@[simp] theorem ints_at (l : List Nat) (k : Nat) : (ints l)[k]? = (l[k]?).map encI := by simp [ints]
@[simp] theorem ints_get (l : List Nat) (k : Nat) (h : k < (ints l).length) : (ints l)[k] = [ival ((l[k]'(by simpa using h) : Nat) : Int)] := by simp [ints]
theorem ints_ok (a b : List Nat) (ha : a.length ≤ 4194304) (hb : b.length ≤ 4194304) : Con Try.prog 30 [.rd 1 (ints a), .rd 1 (ints b)] (bval (sameL a b)) := by
  refine Con.of_code Try.func30 (by kernel_rfl) rfl (by simp [Try.ntmps30]) fun C hC hM => ?_
  refine AWp.seq ?_
  refine AWp.reg [true] F30r0 [] (by kernel_rfl) (by rw [hC]; rfl) fun K hK => ?_
  simp [F30r0]
  first | refine hK _ ?_ | refine ⟨by omega, hK _ ?_⟩ | refine ⟨by omega, by omega, hK _ ?_⟩ | refine ⟨by omega, by omega, by omega, hK _ ?_⟩ | refine ⟨by omega, by omega, by omega, by omega, hK _ ?_⟩
  refine AWp.seq ?_
  refine AWp.seq ?_
  refine AWp.reg [] F30r1 [] (by kernel_rfl) (by rw [hC]; rfl) fun K hK => ?_
  simp [F30r1]
  first | refine hK _ ?_ | refine ⟨by omega, hK _ ?_⟩ | refine ⟨by omega, by omega, hK _ ?_⟩ | refine ⟨by omega, by omega, by omega, hK _ ?_⟩ | refine ⟨by omega, by omega, by omega, by omega, hK _ ?_⟩
  refine AWp.cond ((a.length : Int) != (b.length : Int)) (by simp) (fun hne => ?_) (fun heq => ?_)
  · skip
    refine AWp.seq ?_
    refine AWp.reg [true] F30r2 [] (by kernel_rfl) (by rw [hC]; rfl) fun K hK => ?_
    simp [F30r2]
    first | refine hK _ ?_ | refine ⟨by omega, hK _ ?_⟩ | refine ⟨by omega, by omega, hK _ ?_⟩ | refine ⟨by omega, by omega, by omega, hK _ ?_⟩ | refine ⟨by omega, by omega, by omega, by omega, hK _ ?_⟩
    repeat refine AWp.seq ?_
    refine AWp.ret ⟨.inr rfl, _, by simp [Try.results30] <;> rfl, ?_⟩
    rw [sameL_len (by simp at hne; omega)]
    exact .closed rfl
  have heq : a.length = b.length := by simp at heq; omega
  refine AWp.skip ?_
  refine AWp.seq ?_
  refine AWp.seq ?_
  refine AWp.reg [true] F30r3 [] (by kernel_rfl) (by rw [hC]; rfl) fun K hK => ?_
  simp [F30r3]
  first | refine hK _ ?_ | refine ⟨by omega, hK _ ?_⟩ | refine ⟨by omega, by omega, hK _ ?_⟩ | refine ⟨by omega, by omega, by omega, hK _ ?_⟩ | refine ⟨by omega, by omega, by omega, by omega, hK _ ?_⟩
  refine AWp.block ?_
  refine AWp.loopG (fun k : Nat => { tm := [(0, .rd 1 (ints a)), (1, .rd 1 (ints b)), (5, ival k)], hp := [] }) (fun k => k ≤ a.length ∧ sameL a b = sameL (a.drop k) (b.drop k)) (fun k => a.length - k) 0 (by simp) (by simp) (fun k hk => ?_)
  obtain ⟨hk1, hk2⟩ := hk
  refine AWp.seq ?_
  refine AWp.seq ?_
  refine AWp.reg [] F30r4 [] (by kernel_rfl) (by rw [hC]; rfl) fun K hK => ?_
  simp [F30r4]
  first | refine hK _ ?_ | refine ⟨by omega, hK _ ?_⟩ | refine ⟨by omega, by omega, hK _ ?_⟩ | refine ⟨by omega, by omega, by omega, hK _ ?_⟩ | refine ⟨by omega, by omega, by omega, by omega, hK _ ?_⟩
  refine AWp.cond (decide (k < a.length)) (by simp) (fun hlt => ?_) (fun hge => ?_)
  · skip
    have hlt : k < a.length := by simpa using hlt
    have hlt2 : k < b.length := by omega
    have hd := sameL_drop a b k hlt hlt2
    refine AWp.skip ?_
    refine AWp.seq ?_
    refine AWp.block ?_
    refine AWp.seq ?_
    refine AWp.regD ops_mixed [] F30r6 [] (by kernel_rfl) (by rw [hC]; rfl) rfl (fun K hK => ?_) (by simp [F30r6, hlt, hlt2] <;> rfl)
    simp [F30r6, hlt, hlt2]
    first | refine hK _ ?_ | refine ⟨by omega, hK _ ?_⟩ | refine ⟨by omega, by omega, hK _ ?_⟩ | refine ⟨by omega, by omega, by omega, hK _ ?_⟩ | refine ⟨by omega, by omega, by omega, by omega, hK _ ?_⟩
    refine AWp.cond ((a[k] : Int) != (b[k] : Int)) (by simp) (fun h1 => ?_) (fun h1 => ?_)
    · skip
      have h1 : ¬ a[k] = b[k] := by simp at h1; omega
      refine AWp.seq ?_
      refine AWp.reg [true] F30r7 [] (by kernel_rfl) (by rw [hC]; rfl) fun K hK => ?_
      simp [F30r7]
      first | refine hK _ ?_ | refine ⟨by omega, hK _ ?_⟩ | refine ⟨by omega, by omega, hK _ ?_⟩ | refine ⟨by omega, by omega, by omega, hK _ ?_⟩ | refine ⟨by omega, by omega, by omega, by omega, hK _ ?_⟩
      repeat refine AWp.seq ?_
      refine AWp.ret ⟨.inr rfl, _, by simp [Try.results30] <;> rfl, ?_⟩
      rw [hk2, hd, decide_eq_false h1]
      exact .closed rfl
    have h1 : a[k] = b[k] := by simp at h1; omega
    refine AWp.skip ?_
    refine AWp.reg [false, false, true] F30r5 [] (by kernel_rfl) (by rw [hC]; rfl) fun K hK => ?_
    simp [F30r5]
    first | refine hK _ ?_ | refine ⟨by omega, hK _ ?_⟩ | refine ⟨by omega, by omega, hK _ ?_⟩ | refine ⟨by omega, by omega, by omega, hK _ ?_⟩ | refine ⟨by omega, by omega, by omega, by omega, hK _ ?_⟩
    refine ⟨k + 1, ⟨by omega, by rw [hk2, hd, decide_eq_true h1]; rfl⟩, by omega, ?_⟩
    simp [wrap_nat k (by omega)]
  have hge : ¬ k < a.length := by simpa using hge
  refine AWp.exit ?_
  refine AWp.seq ?_
  refine AWp.reg [true] F30r8 [] (by kernel_rfl) (by rw [hC]; rfl) fun K hK => ?_
  simp [F30r8]
  first | refine hK _ ?_ | refine ⟨by omega, hK _ ?_⟩ | refine ⟨by omega, by omega, hK _ ?_⟩ | refine ⟨by omega, by omega, by omega, hK _ ?_⟩ | refine ⟨by omega, by omega, by omega, by omega, hK _ ?_⟩
  repeat refine AWp.seq ?_
  refine AWp.ret ⟨.inr rfl, _, by simp [Try.results30] <;> rfl, ?_⟩
  rw [hk2, List.drop_eq_nil_of_le (show a.length ≤ k by omega), List.drop_eq_nil_of_le (show b.length ≤ k by omega)]
  exact .closed rfl
theorem SameTexts_ok (a b : List ByteArray) (ha : a.length ≤ 4194304) (hb : b.length ≤ 4194304) : Con Try.prog 20 [.rd 1 (texts a), .rd 1 (texts b)] (bval (sameL a b)) := by
  refine Con.of_code Try.func20 (by kernel_rfl) rfl (by simp [Try.ntmps20]) fun C hC hM => ?_
  refine AWp.seq ?_
  refine AWp.reg [true] F20r0 [] (by kernel_rfl) (by rw [hC]; rfl) fun K hK => ?_
  simp [F20r0]
  first | refine hK _ ?_ | refine ⟨by omega, hK _ ?_⟩ | refine ⟨by omega, by omega, hK _ ?_⟩ | refine ⟨by omega, by omega, by omega, hK _ ?_⟩ | refine ⟨by omega, by omega, by omega, by omega, hK _ ?_⟩
  refine AWp.seq ?_
  refine AWp.seq ?_
  refine AWp.reg [] F20r1 [] (by kernel_rfl) (by rw [hC]; rfl) fun K hK => ?_
  simp [F20r1]
  first | refine hK _ ?_ | refine ⟨by omega, hK _ ?_⟩ | refine ⟨by omega, by omega, hK _ ?_⟩ | refine ⟨by omega, by omega, by omega, hK _ ?_⟩ | refine ⟨by omega, by omega, by omega, by omega, hK _ ?_⟩
  refine AWp.cond ((a.length : Int) != (b.length : Int)) (by simp) (fun hne => ?_) (fun heq => ?_)
  · skip
    refine AWp.seq ?_
    refine AWp.reg [true] F20r2 [] (by kernel_rfl) (by rw [hC]; rfl) fun K hK => ?_
    simp [F20r2]
    first | refine hK _ ?_ | refine ⟨by omega, hK _ ?_⟩ | refine ⟨by omega, by omega, hK _ ?_⟩ | refine ⟨by omega, by omega, by omega, hK _ ?_⟩ | refine ⟨by omega, by omega, by omega, by omega, hK _ ?_⟩
    repeat refine AWp.seq ?_
    refine AWp.ret ⟨.inr rfl, _, by simp [Try.results20] <;> rfl, ?_⟩
    rw [sameL_len (by simp at hne; omega)]
    exact .closed rfl
  have heq : a.length = b.length := by simp at heq; omega
  refine AWp.skip ?_
  refine AWp.seq ?_
  refine AWp.seq ?_
  refine AWp.reg [true] F20r3 [] (by kernel_rfl) (by rw [hC]; rfl) fun K hK => ?_
  simp [F20r3]
  first | refine hK _ ?_ | refine ⟨by omega, hK _ ?_⟩ | refine ⟨by omega, by omega, hK _ ?_⟩ | refine ⟨by omega, by omega, by omega, hK _ ?_⟩ | refine ⟨by omega, by omega, by omega, by omega, hK _ ?_⟩
  refine AWp.block ?_
  refine AWp.loopG (fun k : Nat => { tm := [(0, .rd 1 (texts a)), (1, .rd 1 (texts b)), (5, ival k)], hp := [] }) (fun k => k ≤ a.length ∧ sameL a b = sameL (a.drop k) (b.drop k)) (fun k => a.length - k) 0 (by simp) (by simp) (fun k hk => ?_)
  obtain ⟨hk1, hk2⟩ := hk
  refine AWp.seq ?_
  refine AWp.seq ?_
  refine AWp.reg [] F20r4 [] (by kernel_rfl) (by rw [hC]; rfl) fun K hK => ?_
  simp [F20r4]
  first | refine hK _ ?_ | refine ⟨by omega, hK _ ?_⟩ | refine ⟨by omega, by omega, hK _ ?_⟩ | refine ⟨by omega, by omega, by omega, hK _ ?_⟩ | refine ⟨by omega, by omega, by omega, by omega, hK _ ?_⟩
  refine AWp.cond (decide (k < a.length)) (by simp) (fun hlt => ?_) (fun hge => ?_)
  · skip
    have hlt : k < a.length := by simpa using hlt
    have hlt2 : k < b.length := by omega
    have hd := sameL_drop a b k hlt hlt2
    refine AWp.skip ?_
    refine AWp.seq ?_
    refine AWp.block ?_
    refine AWp.seq ?_
    refine AWp.regD ops_mixed [] F20r6 [] (by kernel_rfl) (by rw [hC]; rfl) rfl (fun K hK => ?_) (by simp [F20r6, hlt, hlt2] <;> rfl)
    simp [F20r6, hlt, hlt2]
    first | refine hK _ ?_ | refine ⟨by omega, hK _ ?_⟩ | refine ⟨by omega, by omega, hK _ ?_⟩ | refine ⟨by omega, by omega, by omega, hK _ ?_⟩ | refine ⟨by omega, by omega, by omega, by omega, hK _ ?_⟩
    refine AWp.cond (decide (a[k] ≠ b[k])) (by simp) (fun h1 => ?_) (fun h1 => ?_)
    · skip
      have h1 : ¬ a[k] = b[k] := by simpa using h1
      refine AWp.seq ?_
      refine AWp.reg [true] F20r7 [] (by kernel_rfl) (by rw [hC]; rfl) fun K hK => ?_
      simp [F20r7]
      first | refine hK _ ?_ | refine ⟨by omega, hK _ ?_⟩ | refine ⟨by omega, by omega, hK _ ?_⟩ | refine ⟨by omega, by omega, by omega, hK _ ?_⟩ | refine ⟨by omega, by omega, by omega, by omega, hK _ ?_⟩
      repeat refine AWp.seq ?_
      refine AWp.ret ⟨.inr rfl, _, by simp [Try.results20] <;> rfl, ?_⟩
      rw [hk2, hd, decide_eq_false h1]
      exact .closed rfl
    have h1 : a[k] = b[k] := by simpa using h1
    refine AWp.skip ?_
    refine AWp.reg [false, false, true] F20r5 [] (by kernel_rfl) (by rw [hC]; rfl) fun K hK => ?_
    simp [F20r5]
    first | refine hK _ ?_ | refine ⟨by omega, hK _ ?_⟩ | refine ⟨by omega, by omega, hK _ ?_⟩ | refine ⟨by omega, by omega, by omega, hK _ ?_⟩ | refine ⟨by omega, by omega, by omega, by omega, hK _ ?_⟩
    refine ⟨k + 1, ⟨by omega, by rw [hk2, hd, decide_eq_true h1]; rfl⟩, by omega, ?_⟩
    simp [wrap_nat k (by omega)]
  have hge : ¬ k < a.length := by simpa using hge
  refine AWp.exit ?_
  refine AWp.seq ?_
  refine AWp.reg [true] F20r8 [] (by kernel_rfl) (by rw [hC]; rfl) fun K hK => ?_
  simp [F20r8]
  first | refine hK _ ?_ | refine ⟨by omega, hK _ ?_⟩ | refine ⟨by omega, by omega, hK _ ?_⟩ | refine ⟨by omega, by omega, by omega, hK _ ?_⟩ | refine ⟨by omega, by omega, by omega, by omega, hK _ ?_⟩
  repeat refine AWp.seq ?_
  refine AWp.ret ⟨.inr rfl, _, by simp [Try.results20] <;> rfl, ?_⟩
  rw [hk2, List.drop_eq_nil_of_le (show a.length ≤ k by omega), List.drop_eq_nil_of_le (show b.length ≤ k by omega)]
  exact .closed rfl
end Go.Sl
