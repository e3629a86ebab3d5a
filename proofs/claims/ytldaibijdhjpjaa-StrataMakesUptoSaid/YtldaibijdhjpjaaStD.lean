/- corollaryref15: Ints, Rows, Rests. -/
import Derived.Test.YtldaibijdhjpjaaStC
import Derived.Test.YtldaibijdhjpjaaStSpD
set_option linter.unusedSimpArgs false
set_option linter.unusedVariables false
open Go Go.Aw Go.Proofs
namespace Go.St
attribute [simp] encInts encRows ints
-- function 15: corollary/corollaryref15.Ints: 26 slots; results ['(Go.ResultVar.tmp 4)']
def F15r0 : List ROp := [{ dst := some 4, op := .copy true (.const (.bool false)), after := [], guard := none }]
def F15r1 : List ROp := [{ dst := some 6, op := .copy false (.tmp 0), after := [], guard := none },
  { dst := some 7, op := .len 0 (.tmp 6), after := [0], guard := none },
  { dst := some 8, op := .copy false (.tmp 1), after := [], guard := none },
  { dst := some 9, op := .len 0 (.tmp 8), after := [2], guard := none },
  { dst := some 10, op := .bin .neq (.tmp 7) (.tmp 9), after := [1, 3], guard := none }]
def F15r2 : List ROp := [{ dst := some 4, op := .copy true (.const (.bool false)), after := [], guard := none }]
def F15r3 : List ROp := [{ dst := some 5, op := .copy true (.const (.int .i64 0)), after := [], guard := none }]
def F15r4 : List ROp := [{ dst := some 11, op := .copy false (.tmp 5), after := [], guard := none },
  { dst := some 12, op := .copy false (.tmp 0), after := [], guard := none },
  { dst := some 13, op := .len 0 (.tmp 12), after := [1], guard := none },
  { dst := some 14, op := .bin .lss (.tmp 11) (.tmp 13), after := [0, 2], guard := none }]
def F15r5 : List ROp := [{ dst := some 15, op := .copy false (.tmp 5), after := [], guard := none },
  { dst := some 16, op := .bin .add (.tmp 15) (.const (.int .i64 1)), after := [0], guard := none },
  { dst := some 5, op := .copy true (.tmp 16), after := [1, 0, 1], guard := none }]
def F15r6 : List ROp := [{ dst := some 17, op := .copy false (.tmp 0), after := [], guard := none },
  { dst := some 18, op := .copy false (.tmp 5), after := [], guard := none },
  { dst := some 19, op := .iad 1 (.tmp 17) (.tmp 18), after := [0, 1], guard := none },
  { dst := some 20, op := .load 1 false false (.tmp 19), after := [2], guard := none },
  { dst := some 21, op := .copy false (.tmp 1), after := [], guard := none },
  { dst := some 22, op := .copy false (.tmp 5), after := [], guard := none },
  { dst := some 23, op := .iad 1 (.tmp 21) (.tmp 22), after := [4, 5], guard := none },
  { dst := some 24, op := .load 1 false false (.tmp 23), after := [6], guard := none },
  { dst := some 25, op := .bin .neq (.tmp 20) (.tmp 24), after := [3, 7], guard := none }]
def F15r7 : List ROp := [{ dst := some 4, op := .copy true (.const (.bool false)), after := [], guard := none }]
def F15r8 : List ROp := [{ dst := some 4, op := .copy true (.const (.bool true)), after := [], guard := none }]
-- function 12: corollary/corollaryref15.Rows: 27 slots; results ['(Go.ResultVar.tmp 4)']
def F12r0 : List ROp := [{ dst := some 4, op := .copy true (.const (.bool false)), after := [], guard := none }]
def F12r1 : List ROp := [{ dst := some 6, op := .copy false (.tmp 0), after := [], guard := none },
  { dst := some 7, op := .len 0 (.tmp 6), after := [0], guard := none },
  { dst := some 8, op := .copy false (.tmp 1), after := [], guard := none },
  { dst := some 9, op := .len 0 (.tmp 8), after := [2], guard := none },
  { dst := some 10, op := .bin .neq (.tmp 7) (.tmp 9), after := [1, 3], guard := none }]
def F12r2 : List ROp := [{ dst := some 4, op := .copy true (.const (.bool false)), after := [], guard := none }]
def F12r3 : List ROp := [{ dst := some 5, op := .copy true (.const (.int .i64 0)), after := [], guard := none }]
def F12r4 : List ROp := [{ dst := some 11, op := .copy false (.tmp 5), after := [], guard := none },
  { dst := some 12, op := .copy false (.tmp 0), after := [], guard := none },
  { dst := some 13, op := .len 0 (.tmp 12), after := [1], guard := none },
  { dst := some 14, op := .bin .lss (.tmp 11) (.tmp 13), after := [0, 2], guard := none }]
def F12r5 : List ROp := [{ dst := some 15, op := .copy false (.tmp 5), after := [], guard := none },
  { dst := some 16, op := .bin .add (.tmp 15) (.const (.int .i64 1)), after := [0], guard := none },
  { dst := some 5, op := .copy true (.tmp 16), after := [1, 0, 1], guard := none }]
def F12r6 : List ROp := [{ dst := some 17, op := .copy false (.tmp 0), after := [], guard := none },
  { dst := some 18, op := .copy false (.tmp 5), after := [], guard := none },
  { dst := some 19, op := .iad 1 (.tmp 17) (.tmp 18), after := [0, 1], guard := none },
  { dst := some 20, op := .load 1 false false (.tmp 19), after := [2], guard := none },
  { dst := some 21, op := .copy false (.tmp 1), after := [], guard := none },
  { dst := some 22, op := .copy false (.tmp 5), after := [], guard := none },
  { dst := some 23, op := .iad 1 (.tmp 21) (.tmp 22), after := [4, 5], guard := none },
  { dst := some 24, op := .load 1 false false (.tmp 23), after := [6], guard := none },
  { dst := some 25, op := .call (.func 15) [.tmp 20, .tmp 24], after := [3, 7], guard := none },
  { dst := some 26, op := .un .not (.tmp 25), after := [8], guard := none }]
def F12r7 : List ROp := [{ dst := some 4, op := .copy true (.const (.bool false)), after := [], guard := none }]
def F12r8 : List ROp := [{ dst := some 4, op := .copy true (.const (.bool true)), after := [], guard := none }]
-- function 10: corollary/corollaryref15.Rests: 58 slots; results ['(Go.ResultVar.tmp 2)', '(Go.ResultVar.cell 3 32)', '(Go.ResultVar.tmp 4)']
def F10r0 : List ROp := [{ dst := some 1, op := .box 28 (.tmp 0), after := [], guard := none },
  { dst := some 2, op := .copy true (.const (.slice none 0 0)), after := [], guard := none },
  { dst := some 3, op := .alloc 32 [Value.int .i64 0, Value.int .i64 0], after := [], guard := none },
  { dst := some 4, op := .copy true (.const (.int .i64 0)), after := [1], guard := none }]
def F10r1 : List ROp := [{ dst := some 13, op := .load 6 true false (.tmp 1), after := [], guard := none },
  { dst := some 14, op := .call (.func 22) [.tmp 13], after := [0], guard := none },
  { dst := some 12, op := .copy false (.tmp 14), after := [1], guard := none },
  { dst := some 15, op := .ext (.tmp 12) 0, after := [2], guard := none },
  { dst := some 16, op := .ext (.tmp 12) 1, after := [2], guard := none },
  { dst := some 5, op := .alloc 32 [Value.int .i64 0, Value.int .i64 0], after := [], guard := none },
  { dst := none, op := .store 2 true (.tmp 5) (.tmp 15), after := [5, 3, 1, 0, 1, 2, 3, 5], guard := none },
  { dst := some 6, op := .copy true (.tmp 16), after := [4, 6, 0, 1, 2, 3, 4, 5, 6], guard := none }]
def F10r2 : List ROp := [{ dst := some 17, op := .copy false (.tmp 6), after := [], guard := none },
  { dst := some 18, op := .bin .neq (.tmp 17) (.const (.int .i64 0)), after := [0], guard := none }]
def F10r3 : List ROp := [{ dst := some 19, op := .load 2 true false (.tmp 5), after := [], guard := none },
  { dst := some 20, op := .copy true (.tmp 6), after := [], guard := none },
  { dst := some 2, op := .copy true (.const (.slice none 0 0)), after := [], guard := none },
  { dst := none, op := .store 2 true (.tmp 3) (.tmp 19), after := [0, 2, 0, 2], guard := none },
  { dst := some 4, op := .copy true (.tmp 20), after := [1, 3, 0, 1, 2, 3], guard := none }]
def F10r4 : List ROp := [{ dst := some 21, op := .fad 3 (.tmp 1), after := [], guard := none },
  { dst := some 22, op := .load 1 false false (.tmp 21), after := [0], guard := none },
  { dst := some 23, op := .len 0 (.tmp 22), after := [1], guard := none },
  { dst := some 7, op := .copy true (.tmp 23), after := [2, 0, 1, 2], guard := none }]
def F10r5 : List ROp := [{ dst := some 24, op := .load 6 true false (.tmp 1), after := [], guard := none },
  { dst := some 25, op := .call (.func 23) [.tmp 24], after := [0], guard := none },
  { dst := some 8, op := .copy true (.tmp 25), after := [1, 1, 0, 1], guard := none }]
def F10r6 : List ROp := [{ dst := some 26, op := .copy false (.tmp 7), after := [], guard := none },
  { dst := some 27, op := .mksl 37 1 24 [Value.slice none 0 0] (.tmp 26) (.tmp 26), after := [0, 0], guard := none },
  { dst := some 9, op := .copy true (.tmp 27), after := [1, 0, 1], guard := none }]
def F10r7 : List ROp := [{ dst := some 10, op := .copy true (.const (.int .i64 0)), after := [], guard := none }]
def F10r8 : List ROp := [{ dst := some 28, op := .copy false (.tmp 10), after := [], guard := none },
  { dst := some 29, op := .copy false (.tmp 7), after := [], guard := none },
  { dst := some 30, op := .bin .lss (.tmp 28) (.tmp 29), after := [0, 1], guard := none }]
def F10r9 : List ROp := [{ dst := some 31, op := .copy false (.tmp 10), after := [], guard := none },
  { dst := some 32, op := .bin .add (.tmp 31) (.const (.int .i64 1)), after := [0], guard := none },
  { dst := some 10, op := .copy true (.tmp 32), after := [1, 0, 1], guard := none }]
def F10r10 : List ROp := [{ dst := some 11, op := .copy true (.const (.int .i64 0)), after := [], guard := none }]
def F10r11 : List ROp := [{ dst := some 33, op := .copy false (.tmp 11), after := [], guard := none },
  { dst := some 34, op := .copy false (.tmp 7), after := [], guard := none },
  { dst := some 35, op := .bin .lss (.tmp 33) (.tmp 34), after := [0, 1], guard := none }]
def F10r12 : List ROp := [{ dst := some 36, op := .copy false (.tmp 11), after := [], guard := none },
  { dst := some 37, op := .bin .add (.tmp 36) (.const (.int .i64 1)), after := [0], guard := none },
  { dst := some 11, op := .copy true (.tmp 37), after := [1, 0, 1], guard := none }]
def F10r13 : List ROp := [{ dst := some 38, op := .copy false (.tmp 8), after := [], guard := none },
  { dst := some 39, op := .copy false (.tmp 10), after := [], guard := none },
  { dst := some 40, op := .copy false (.tmp 7), after := [], guard := none },
  { dst := some 41, op := .bin .mul (.tmp 39) (.tmp 40), after := [1, 2], guard := none },
  { dst := some 42, op := .copy false (.tmp 11), after := [], guard := none },
  { dst := some 43, op := .bin .add (.tmp 41) (.tmp 42), after := [3, 4], guard := none },
  { dst := some 44, op := .iad 1 (.tmp 38) (.tmp 43), after := [0, 5], guard := none },
  { dst := some 45, op := .load 1 false false (.tmp 44), after := [6], guard := none }]
def F10r14 : List ROp := [{ dst := some 46, op := .copy false (.tmp 9), after := [], guard := none },
  { dst := some 47, op := .copy false (.tmp 10), after := [], guard := none },
  { dst := some 48, op := .copy false (.tmp 9), after := [], guard := none },
  { dst := some 49, op := .copy false (.tmp 10), after := [], guard := none },
  { dst := some 50, op := .iad 1 (.tmp 48) (.tmp 49), after := [2, 3], guard := none },
  { dst := some 51, op := .load 1 false true (.tmp 50), after := [4], guard := none },
  { dst := some 52, op := .copy false (.tmp 11), after := [], guard := none },
  { dst := some 53, op := .bslice 3 1 [Value.int .i64 0] 1 [(0, .tmp 52)], after := [6], guard := none },
  { dst := some 54, op := .app 3 1 8 (.tmp 51) (.tmp 53), after := [5, 7], guard := none },
  { dst := some 55, op := .iad 1 (.tmp 46) (.tmp 47), after := [0, 1, 0, 1, 2, 3, 4, 5, 6, 7, 8], guard := none },
  { dst := none, op := .store 1 true (.tmp 55) (.tmp 54), after := [9, 8, 8, 0, 1, 2, 3, 4, 5, 6, 7, 8], guard := none }]
def F10r15 : List ROp := [{ dst := some 56, op := .copy true (.tmp 9), after := [], guard := none },
  { dst := some 57, op := .build [Value.int .i64 0, Value.int .i64 0] [], after := [], guard := none },
  { dst := some 2, op := .copy true (.tmp 56), after := [0, 0], guard := none },
  { dst := none, op := .store 2 true (.tmp 3) (.tmp 57), after := [1, 2, 0, 1, 2], guard := none },
  { dst := some 4, op := .copy true (.const (.int .i64 0)), after := [3, 0, 1, 2, 3], guard := none }]
theorem drop_eq {α : Type} [DecidableEq α] (a b : List α) (k : Nat) (h1 : k < a.length) (h2 : k < b.length) : decide (a.drop k = b.drop k) = (decide (a[k] = b[k]) && decide (a.drop (k + 1) = b.drop (k + 1))) := by
  rw [List.drop_eq_getElem_cons h1, List.drop_eq_getElem_cons h2]; simp only [List.cons.injEq, Bool.decide_and]
def st15 (a b : List Nat) (k : Nat) : AS := { tm := [(0, encInts a), (1, encInts b), (5, ival k)], hp := [] }
theorem Ints_ok (a b : List Nat) (ha : a.length ≤ 1048576) (hb : b.length ≤ 1048576) : Con Try.prog 15 [encInts a, encInts b] (bval (decide (a = b))) := by
  refine Con.of_code Try.func15 (by kernel_rfl) rfl (by simp [Try.ntmps15]) fun C hC hM => ?_
  repeat refine AWp.seq ?_
  refine AWp.reg [true] F15r0 [] (by kernel_rfl) (by rw [hC]; rfl) fun K hK => ?_
  simp [F15r0]
  refine hK _ ?_
  repeat refine AWp.seq ?_
  refine AWp.reg [] F15r1 [] (by kernel_rfl) (by rw [hC]; rfl) fun K hK => ?_
  simp [F15r1]
  refine hK _ ?_
  by_cases hlen : a.length = b.length
  · refine AWp.cond false (by simp [hlen]) (fun he => by cases he) (fun _ => ?_)
    refine AWp.skip ?_
    repeat refine AWp.seq ?_
    refine AWp.reg [true] F15r3 [] (by kernel_rfl) (by rw [hC]; rfl) fun K hK => ?_
    simp [F15r3]
    refine hK _ ?_
    refine AWp.block ?_
    refine AWp.loopG (st15 a b) (fun k => k ≤ a.length ∧ decide (a = b) = decide (a.drop k = b.drop k)) (fun k => a.length - k) 0 (by simp) (by simp [st15]) (fun k hk => ?_)
    obtain ⟨hk1, hk2⟩ := hk
    repeat refine AWp.seq ?_
    refine AWp.reg [] F15r4 [] (by kernel_rfl) (by rw [hC]; rfl) fun K hK => ?_
    simp [F15r4, st15]
    refine hK _ ?_
    refine AWp.cond (decide (k < a.length)) (by simp) (fun hlt => ?_) (fun hge => ?_)
    · have hlt : k < a.length := by simpa using hlt
      have hlt2 : k < b.length := by omega
      have hd := drop_eq a b k hlt hlt2
      refine AWp.skip ?_
      repeat refine AWp.seq ?_
      refine AWp.block ?_
      repeat refine AWp.seq ?_
      refine AWp.regD ops_mixed [] F15r6 [] (by kernel_rfl) (by rw [hC]; rfl) rfl (fun K hK => ?_) (by simp [F15r6, hlt, hlt2] <;> rfl)
      simp [F15r6, hlt, hlt2]
      refine hK _ ?_
      by_cases hq : a[k] = b[k]
      · refine AWp.cond false (by simp [hq]) (fun he => by cases he) (fun _ => ?_)
        refine AWp.skip ?_
        repeat refine AWp.seq ?_
        refine AWp.reg [false, false, true] F15r5 [] (by kernel_rfl) (by rw [hC]; rfl) fun K hK => ?_
        simp [F15r5]
        refine hK _ ⟨k + 1, ⟨by omega, by rw [hk2, hd]; simp [hq]⟩, by omega, ?_⟩
        simp [st15, wrap_nat k (by omega)]
      · refine AWp.cond true (by simp; omega) (fun _ => ?_) (fun he => by cases he)
        repeat refine AWp.seq ?_
        refine AWp.reg [true] F15r7 [] (by kernel_rfl) (by rw [hC]; rfl) fun K hK => ?_
        simp [F15r7]
        refine hK _ ?_
        repeat refine AWp.seq ?_
        refine AWp.ret ⟨.inr rfl, _, by simp [Try.results15] <;> rfl, ?_⟩
        rw [hk2, hd, show decide (a[k] = b[k]) = false by simp [hq]]
        exact .closed rfl
    have hge : ¬ k < a.length := by simpa using hge
    refine AWp.exit ?_
    repeat refine AWp.seq ?_
    refine AWp.reg [true] F15r8 [] (by kernel_rfl) (by rw [hC]; rfl) fun K hK => ?_
    simp [F15r8]
    refine hK _ ?_
    repeat refine AWp.seq ?_
    refine AWp.ret ⟨.inr rfl, _, by simp [Try.results15] <;> rfl, ?_⟩
    rw [hk2, List.drop_eq_nil_of_le (by omega), List.drop_eq_nil_of_le (by omega)]
    exact .closed rfl
  · refine AWp.cond true (by simp; omega) (fun _ => ?_) (fun he => by cases he)
    repeat refine AWp.seq ?_
    refine AWp.reg [true] F15r2 [] (by kernel_rfl) (by rw [hC]; rfl) fun K hK => ?_
    simp [F15r2]
    refine hK _ ?_
    repeat refine AWp.seq ?_
    refine AWp.ret ⟨.inr rfl, _, by simp [Try.results15] <;> rfl, ?_⟩
    rw [show decide (a = b) = false by simp; intro e; exact hlen (by rw [e])]
    exact .closed rfl
def st12 (a b : List (List Nat)) (k : Nat) : AS := { tm := [(0, encRows a), (1, encRows b), (5, ival k)], hp := [] }
def rowsOK (l : List (List Nat)) : Prop := l.length ≤ 1048576 ∧ ∀ r ∈ l, r.length ≤ 1048576
theorem Rows_ok (a b : List (List Nat)) (ha : rowsOK a) (hb : rowsOK b) : Con Try.prog 12 [encRows a, encRows b] (bval (decide (a = b))) := by
  have ha1 := ha.1
  have hb1 := hb.1
  refine Con.of_code Try.func12 (by kernel_rfl) rfl (by simp [Try.ntmps12]) fun C hC hM => ?_
  repeat refine AWp.seq ?_
  refine AWp.reg [true] F12r0 [] (by kernel_rfl) (by rw [hC]; rfl) fun K hK => ?_
  simp [F12r0]
  refine hK _ ?_
  repeat refine AWp.seq ?_
  refine AWp.reg [] F12r1 [] (by kernel_rfl) (by rw [hC]; rfl) fun K hK => ?_
  simp [F12r1]
  refine hK _ ?_
  by_cases hlen : a.length = b.length
  · refine AWp.cond false (by simp [hlen]) (fun he => by cases he) (fun _ => ?_)
    refine AWp.skip ?_
    repeat refine AWp.seq ?_
    refine AWp.reg [true] F12r3 [] (by kernel_rfl) (by rw [hC]; rfl) fun K hK => ?_
    simp [F12r3]
    refine hK _ ?_
    refine AWp.block ?_
    refine AWp.loopG (st12 a b) (fun k => k ≤ a.length ∧ decide (a = b) = decide (a.drop k = b.drop k)) (fun k => a.length - k) 0 (by simp) (by simp [st12]) (fun k hk => ?_)
    obtain ⟨hk1, hk2⟩ := hk
    repeat refine AWp.seq ?_
    refine AWp.reg [] F12r4 [] (by kernel_rfl) (by rw [hC]; rfl) fun K hK => ?_
    simp [F12r4, st12]
    refine hK _ ?_
    refine AWp.cond (decide (k < a.length)) (by simp) (fun hlt => ?_) (fun hge => ?_)
    · have hlt : k < a.length := by simpa using hlt
      have hlt2 : k < b.length := by omega
      have hd := drop_eq a b k hlt hlt2
      have hc := Ints_ok a[k] b[k] (ha.2 _ (List.getElem_mem hlt)) (hb.2 _ (List.getElem_mem hlt2))
      refine AWp.skip ?_
      repeat refine AWp.seq ?_
      refine AWp.block ?_
      repeat refine AWp.seq ?_
      refine AWp.regD ops_mixed [] F12r6 [{ r := bval (decide (a[k] = b[k])) }] (by kernel_rfl) (by rw [hC]; rfl) rfl (fun K hK => ?_) (by simp [F12r6, hlt, hlt2] <;> rfl)
      simp [F12r6, hlt, hlt2]
      refine ⟨callOK rfl hc, hK _ ?_⟩
      by_cases hq : a[k] = b[k]
      · refine AWp.cond false (by simp [hq]) (fun he => by cases he) (fun _ => ?_)
        refine AWp.skip ?_
        repeat refine AWp.seq ?_
        refine AWp.reg [false, false, true] F12r5 [] (by kernel_rfl) (by rw [hC]; rfl) fun K hK => ?_
        simp [F12r5]
        refine hK _ ⟨k + 1, ⟨by omega, by rw [hk2, hd]; simp [hq]⟩, by omega, ?_⟩
        simp [st12, wrap_nat k (by omega)]
      · refine AWp.cond true (by simp [hq]) (fun _ => ?_) (fun he => by cases he)
        repeat refine AWp.seq ?_
        refine AWp.reg [true] F12r7 [] (by kernel_rfl) (by rw [hC]; rfl) fun K hK => ?_
        simp [F12r7]
        refine hK _ ?_
        repeat refine AWp.seq ?_
        refine AWp.ret ⟨.inr rfl, _, by simp [Try.results12] <;> rfl, ?_⟩
        rw [hk2, hd, show decide (a[k] = b[k]) = false by simp [hq]]
        exact .closed rfl
    have hge : ¬ k < a.length := by simpa using hge
    refine AWp.exit ?_
    repeat refine AWp.seq ?_
    refine AWp.reg [true] F12r8 [] (by kernel_rfl) (by rw [hC]; rfl) fun K hK => ?_
    simp [F12r8]
    refine hK _ ?_
    repeat refine AWp.seq ?_
    refine AWp.ret ⟨.inr rfl, _, by simp [Try.results12] <;> rfl, ?_⟩
    rw [hk2, List.drop_eq_nil_of_le (by omega), List.drop_eq_nil_of_le (by omega)]
    exact .closed rfl
  · refine AWp.cond true (by simp; omega) (fun _ => ?_) (fun he => by cases he)
    repeat refine AWp.seq ?_
    refine AWp.reg [true] F12r2 [] (by kernel_rfl) (by rw [hC]; rfl) fun K hK => ?_
    simp [F12r2]
    refine hK _ ?_
    repeat refine AWp.seq ?_
    refine AWp.ret ⟨.inr rfl, _, by simp [Try.results12] <;> rfl, ?_⟩
    rw [show decide (a = b) = false by simp; intro e; exact hlen (by rw [e])]
    exact .closed rfl

def st10 (m : MMod) (n : Nat) (on : List Bool) (out : List (List Nat)) (ts : List (Nat × AV)) : AS := { tm := [(1, .ptr 1 0), (3, .ptr 3 0), (7, ival n), (8, .rd 1 (on.map fun b => [.val (.bool b)])), (9, .vec 27 1 0 n n)] ++ ts, hp := [(1, .cells 28 (modCells m)), (3, .cells 32 [ival 0, ival 0]), (27, .cells 37 (out.map encRow))] }
theorem RefRests_ok (m : MMod) (hm : m.ok) (hs : m.rels.length ≤ 30) : Con Try.prog 10 [encMod m] (encRests (restsE m)) := by
  refine Con.res (r := .tup [if (checkE m).2 = 0 then .rd 1 ((restsL (closed m) m.rels.length).map fun r => [encRow r]) else .val (.slice none 0 0), encPos (restsE m).2.1, ival (restsE m).2.2]) ?_ ?_ rfl
  rotate_left
  · refine .tup (.cons ?_ (.refl _))
    by_cases he : (checkE m).2 = 0
    · simp only [restsE, he, if_true]
      exact .rd (WkR.map fun r _ => .cons (encRow_wk r) .nil)
    · simp only [restsE, he, if_false]
      exact .nil 1
  have hnn : m.rels.length * m.rels.length ≤ 900 := Nat.mul_le_mul hs hs
  have hc := Check_ok m hm
  refine Con.of_code Try.func10 (by kernel_rfl) rfl (by simp [Try.ntmps10]) fun C hC hM => ?_
  repeat refine AWp.seq ?_
  refine AWp.reg [false, true, false, true] F10r0 [] (by kernel_rfl) (by rw [hC]; rfl) fun K hK => ?_
  simp [F10r0]
  refine hK _ ?_
  by_cases he : (checkE m).2 = 0
  · have hok := checkE_ok he
    have hg := Check_good hs he
    rw [hok] at hc
    repeat refine AWp.seq ?_
    refine AWp.reg [false, false, false, false, false, false, true, true] F10r1 [{ r := encE okE }] (by kernel_rfl) (by rw [hC]; rfl) fun K hK => ?_
    simp [F10r1, okE]
    refine ⟨callOK rfl hc, hK _ ?_⟩
    repeat refine AWp.seq ?_
    refine AWp.reg [] F10r2 [] (by kernel_rfl) (by rw [hC]; rfl) fun K hK => ?_
    simp [F10r2]
    refine hK _ ?_
    refine AWp.cond false (by simp) (fun he => by cases he) (fun _ => ?_)
    refine AWp.skip ?_
    repeat refine AWp.seq ?_
    refine AWp.reg [false, false, false, true] F10r4 [] (by kernel_rfl) (by rw [hC]; rfl) fun K hK => ?_
    simp [F10r4]
    refine hK _ ?_
    have hcl := Closed_ok m hm hg
    repeat refine AWp.seq ?_
    refine AWp.reg [false, false, true] F10r5 [{ r := .rd 1 ((closed m).map fun b => [.val (.bool b)]) }] (by kernel_rfl) (by rw [hC]; rfl) fun K hK => ?_
    simp [F10r5]
    refine ⟨callOK rfl hcl, hK _ ?_⟩
    repeat refine AWp.seq ?_
    refine AWp.reg [false, false, true] F10r6 [] (by kernel_rfl) (by rw [hC]; rfl) fun K hK => ?_
    simp [F10r6]
    refine ⟨by omega, hK _ ?_⟩
    repeat refine AWp.seq ?_
    refine AWp.reg [true] F10r7 [] (by kernel_rfl) (by rw [hC]; rfl) fun K hK => ?_
    simp [F10r7]
    refine hK _ ?_
    refine AWp.block ?_
    refine AWp.loopG (fun a => st10 m m.rels.length (closed m) (itr (rRow (closed m) m.rels.length) a (List.replicate m.rels.length [])) [(10, ival a)]) (fun a => a ≤ m.rels.length) (fun a => m.rels.length - a) 0 (by simp) (by simp [st10, itr, encRow]) (fun a ha1 => ?_)
    have hon : (closed m).length = m.rels.length * m.rels.length := wW_len _ _ _ _ (base_len m)
    have hL := rRows_len (closed m) m.rels.length m.rels.length a (List.replicate m.rels.length []) (by simp)
    have hsh := itr_inv (f := rRow (closed m) m.rels.length) (p := fun x => shortRows m.rels.length x) 0 (fun _ h => by omega) 0 (Nat.le_refl _) (List.replicate m.rels.length []) (by intro r hr; rw [List.eq_of_mem_replicate hr]; simp)
    have hsucc : itr (rRow (closed m) m.rels.length) (a + 1) (List.replicate m.rels.length []) = rRow (closed m) m.rels.length a (itr (rRow (closed m) m.rels.length) a (List.replicate m.rels.length [])) := rfl
    have hall : a = m.rels.length → itr (rRow (closed m) m.rels.length) a (List.replicate m.rels.length []) = restsL (closed m) m.rels.length := by intro e; rw [e]; rfl
    have hbig : shortRows (30 * a) (itr (rRow (closed m) m.rels.length) a (List.replicate m.rels.length [])) := restsL_short _ _ _ hs
    revert hL hsucc hall hbig
    generalize itr (rRow (closed m) m.rels.length) a (List.replicate m.rels.length []) = out1
    intro hL hsucc hall hbig
    repeat refine AWp.seq ?_
    refine AWp.reg [] F10r8 [] (by kernel_rfl) (by rw [hC]; rfl) fun K hK => ?_
    simp [F10r8, st10]
    refine hK _ ?_
    refine AWp.cond (decide (a < m.rels.length)) (by simp) (fun hlt => ?_) (fun hge => ?_)
    · have hlt : a < m.rels.length := by simpa using hlt
      refine AWp.skip ?_
      repeat refine AWp.seq ?_
      refine AWp.block ?_
      repeat refine AWp.seq ?_
      refine AWp.reg [true] F10r10 [] (by kernel_rfl) (by rw [hC]; rfl) fun K hK => ?_
      simp [F10r10]
      refine hK _ ?_
      refine AWp.block ?_
      refine AWp.loopG (fun b => st10 m m.rels.length (closed m) (itr (rStep (closed m) m.rels.length a) b out1) [(10, ival a), (11, ival b)]) (fun b => b ≤ m.rels.length) (fun b => m.rels.length - b) 0 (by simp) (by simp [st10, itr]) (fun b hb1 => ?_)
      have hL2 := rRow_len (closed m) m.rels.length a m.rels.length b out1 hL
      have hsucc2 : itr (rStep (closed m) m.rels.length a) (b + 1) out1 = rStep (closed m) m.rels.length a b (itr (rStep (closed m) m.rels.length a) b out1) := rfl
      have hall2 : b = m.rels.length → itr (rStep (closed m) m.rels.length a) b out1 = rRow (closed m) m.rels.length a out1 := by intro e; rw [e]; rfl
      have hbig2 : shortRows (30 * a + b) (itr (rStep (closed m) m.rels.length a) b out1) := rRow_short _ _ _ _ _ _ hbig
      revert hL2 hsucc2 hall2 hbig2
      generalize itr (rStep (closed m) m.rels.length a) b out1 = out
      intro hL2 hsucc2 hall2 hbig2
      repeat refine AWp.seq ?_
      refine AWp.reg [] F10r11 [] (by kernel_rfl) (by rw [hC]; rfl) fun K hK => ?_
      simp [F10r11, st10]
      refine hK _ ?_
      refine AWp.cond (decide (b < m.rels.length)) (by simp) (fun hlt2 => ?_) (fun hge2 => ?_)
      · have hlt2 : b < m.rels.length := by simpa using hlt2
        refine AWp.skip ?_
        repeat refine AWp.seq ?_
        refine AWp.block ?_
        have e1 := sq_lt hlt hlt2
        have hw : rStep (closed m) m.rels.length a b out = if (closed m).getD (a * m.rels.length + b) false then out.set a (out.getD a [] ++ [b]) else out := rfl
        obtain ⟨p1, hp1⟩ : ∃ p, p = a * m.rels.length := ⟨_, rfl⟩
        rw [← hp1] at e1 hw
        obtain ⟨q1, hq1⟩ : ∃ p, p = p1 + b := ⟨_, rfl⟩
        rw [← hq1] at e1 hw
        obtain ⟨b1, hb1⟩ : ∃ c, (closed m)[q1]? = some c := ⟨_, List.getElem?_eq_getElem (by omega)⟩
        have hal : a < out.length := by omega
        obtain ⟨row, hrow⟩ : ∃ c, out[a] = c := ⟨_, rfl⟩
        have hrl : row.length ≤ 930 := by have := hbig2 _ (List.getElem_mem hal); rw [hrow] at this; omega
        rw [List.getD_eq_getElem?_getD, hb1, List.getD_eq_getElem?_getD, List.getElem?_eq_getElem hal, hrow] at hw
        simp only [Option.getD_some] at hw
        repeat refine AWp.seq ?_
        refine AWp.reg [] F10r13 [] (by kernel_rfl) (by rw [hC]; rfl) fun K hK => ?_
        simp [F10r13, wrap_mulE hp1 (by omega), wrap_addE hq1 (by omega), hb1]
        refine ⟨by omega, hK _ ?_⟩
        cases b1 with
        | true =>
          refine AWp.cond true (by simp) (fun _ => ?_) (fun he => by cases he)
          cases row with
          | nil =>
            repeat refine AWp.seq ?_
            refine AWp.reg [false, false, false, false, false, true, false, false, false, false, true] F10r14 [] (by kernel_rfl) (by rw [hC]; rfl) fun K hK => ?_
            simp [F10r14, hrow, encRow, hL2, hlt]
            refine hK _ ?_
            repeat refine AWp.seq ?_
            refine AWp.reg [false, false, true] F10r12 [] (by kernel_rfl) (by rw [hC]; rfl) fun K hK => ?_
            simp [F10r12]
            refine hK _ ⟨b + 1, by omega, by omega, ?_⟩
            rw [hsucc2, hw]
            simp [st10, wrap_nat b (by omega), encRow_cons]
          | cons x row =>
            repeat refine AWp.seq ?_
            refine AWp.reg [false, false, false, false, false, true, false, false, false, false, true] F10r14 [] (by kernel_rfl) (by rw [hC]; rfl) fun K hK => ?_
            simp [F10r14, hrow, encRow, hL2, hlt]
            simp only [List.length_cons] at hrl
            refine ⟨by omega, hK _ ?_⟩
            repeat refine AWp.seq ?_
            refine AWp.reg [false, false, true] F10r12 [] (by kernel_rfl) (by rw [hC]; rfl) fun K hK => ?_
            simp [F10r12]
            refine hK _ ⟨b + 1, by omega, by omega, ?_⟩
            rw [hsucc2, hw]
            simp [st10, wrap_nat b (by omega), encRow_cons]
        | false =>
          refine AWp.cond false (by simp) (fun he => by cases he) (fun _ => ?_)
          refine AWp.skip ?_
          repeat refine AWp.seq ?_
          refine AWp.reg [false, false, true] F10r12 [] (by kernel_rfl) (by rw [hC]; rfl) fun K hK => ?_
          simp [F10r12]
          refine hK _ ⟨b + 1, by omega, by omega, ?_⟩
          rw [hsucc2, hw]
          simp [st10, wrap_nat b (by omega)]
      have hge2 : ¬ b < m.rels.length := by simpa using hge2
      refine AWp.exit ?_
      repeat refine AWp.seq ?_
      refine AWp.reg [false, false, true] F10r9 [] (by kernel_rfl) (by rw [hC]; rfl) fun K hK => ?_
      simp [F10r9]
      refine hK _ ⟨a + 1, by omega, by omega, ?_⟩
      rw [hsucc, ← hall2 (by omega)]
      simp [st10, wrap_nat a (by omega)]
    have hge : ¬ a < m.rels.length := by simpa using hge
    refine AWp.exit ?_
    repeat refine AWp.seq ?_
    refine AWp.reg [true, false, true, true, true] F10r15 [] (by kernel_rfl) (by rw [hC]; rfl) fun K hK => ?_
    simp [F10r15]
    refine hK _ ?_
    repeat refine AWp.seq ?_
    refine AWp.ret ⟨.inr rfl, _, by simp [Try.results10] <;> rfl, ?_⟩
    have hr2 : restsE m = (restsL (closed m) m.rels.length, okE) := by simp [restsE, he]
    rw [hr2, if_pos he, ← hall (by omega)]
    have hr := Rsv.vec1 (g := lk (st10 m m.rels.length (closed m) out1 []).hp) (b := 27) (n := m.rels.length) (e := 37) (cs := out1.map encRow) rfl (by simp) (by simp [hL])
    simp only [List.map_map, Function.comp_def] at hr
    exact .tup (.cons hr (.closed rfl))
  · repeat refine AWp.seq ?_
    refine AWp.reg [false, false, false, false, false, false, true, true] F10r1 [{ r := encE (checkE m) }] (by kernel_rfl) (by rw [hC]; rfl) fun K hK => ?_
    simp [F10r1]
    refine ⟨callOK rfl hc, hK _ ?_⟩
    repeat refine AWp.seq ?_
    refine AWp.reg [] F10r2 [] (by kernel_rfl) (by rw [hC]; rfl) fun K hK => ?_
    simp [F10r2]
    refine hK _ ?_
    refine AWp.cond true (by simp [he]) (fun _ => ?_) (fun he => by cases he)
    repeat refine AWp.seq ?_
    refine AWp.regD ops_mixed [false, true, true, true, true] F10r3 [] (by kernel_rfl) (by rw [hC]; rfl) rfl (fun K hK => ?_) (by simp [F10r3] <;> rfl)
    simp [F10r3]
    refine hK _ ?_
    repeat refine AWp.seq ?_
    refine AWp.ret ⟨.inr rfl, _, by simp [Try.results10] <;> rfl, ?_⟩
    have hr2 : restsE m = ([], checkE m) := by simp [restsE, he]
    rw [hr2, if_neg he]
    exact .closed rfl
end Go.St
