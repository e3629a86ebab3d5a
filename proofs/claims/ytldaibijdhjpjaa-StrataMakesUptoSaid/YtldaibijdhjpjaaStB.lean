/- corollaryref15: Check. -/
import Derived.Test.YtldaibijdhjpjaaStA
set_option linter.unusedSimpArgs false
set_option linter.unusedVariables false
open Go Go.Aw Go.Proofs
namespace Go.St
-- function 22: corollary/corollaryref15.Check: 94 slots; results ['(Go.ResultVar.cell 2 32)', '(Go.ResultVar.tmp 3)']
def F22r0 : List ROp := [{ dst := some 1, op := .box 28 (.tmp 0), after := [], guard := none },
  { dst := some 2, op := .alloc 32 [Value.int .i64 0, Value.int .i64 0], after := [], guard := none },
  { dst := some 3, op := .copy true (.const (.int .i64 0)), after := [], guard := none }]
def F22r1 : List ROp := [{ dst := some 4, op := .copy true (.const (.int .i64 0)), after := [], guard := none }]
def F22r2 : List ROp := [{ dst := some 11, op := .copy false (.tmp 4), after := [], guard := none },
  { dst := some 12, op := .fad 3 (.tmp 1), after := [], guard := none },
  { dst := some 13, op := .load 1 false false (.tmp 12), after := [1], guard := none },
  { dst := some 14, op := .len 0 (.tmp 13), after := [2], guard := none },
  { dst := some 15, op := .bin .lss (.tmp 11) (.tmp 14), after := [0, 3], guard := none }]
def F22r3 : List ROp := [{ dst := some 16, op := .copy false (.tmp 4), after := [], guard := none },
  { dst := some 17, op := .bin .add (.tmp 16) (.const (.int .i64 1)), after := [0], guard := none },
  { dst := some 4, op := .copy true (.tmp 17), after := [1, 0, 1], guard := none }]
def F22r4 : List ROp := [{ dst := some 18, op := .load 6 true false (.tmp 1), after := [], guard := none },
  { dst := some 19, op := .fad 3 (.tmp 1), after := [], guard := none },
  { dst := some 20, op := .load 1 false false (.tmp 19), after := [1], guard := none },
  { dst := some 21, op := .copy false (.tmp 4), after := [], guard := none },
  { dst := some 22, op := .iad 6 (.tmp 20) (.tmp 21), after := [2, 3], guard := none },
  { dst := some 23, op := .fad 4 (.tmp 22), after := [4], guard := none },
  { dst := some 24, op := .load 1 false false (.tmp 23), after := [5], guard := none },
  { dst := some 25, op := .call (.func 17) [.tmp 18, .tmp 24], after := [0, 6], guard := none },
  { dst := some 26, op := .copy false (.tmp 4), after := [], guard := none },
  { dst := some 27, op := .bin .lss (.tmp 25) (.tmp 26), after := [7, 8], guard := none }]
def F22r5 : List ROp := [{ dst := some 28, op := .fad 3 (.tmp 1), after := [], guard := none },
  { dst := some 29, op := .load 1 false false (.tmp 28), after := [0], guard := none },
  { dst := some 30, op := .copy false (.tmp 4), after := [], guard := none },
  { dst := some 31, op := .iad 6 (.tmp 29) (.tmp 30), after := [1, 2], guard := none },
  { dst := some 32, op := .fad 0 (.tmp 31), after := [3], guard := none },
  { dst := some 33, op := .load 2 true false (.tmp 32), after := [4], guard := none },
  { dst := none, op := .store 2 true (.tmp 2) (.tmp 33), after := [5, 0, 1, 2, 3, 4, 5], guard := none },
  { dst := some 3, op := .copy true (.const (.int .i64 6)), after := [6, 0, 1, 2, 3, 4, 5, 6], guard := none }]
def F22r6 : List ROp := [{ dst := some 5, op := .copy true (.const (.int .i64 0)), after := [], guard := none }]
def F22r7 : List ROp := [{ dst := some 34, op := .copy false (.tmp 5), after := [], guard := none },
  { dst := some 35, op := .fad 4 (.tmp 1), after := [], guard := none },
  { dst := some 36, op := .load 1 false false (.tmp 35), after := [1], guard := none },
  { dst := some 37, op := .len 0 (.tmp 36), after := [2], guard := none },
  { dst := some 38, op := .bin .lss (.tmp 34) (.tmp 37), after := [0, 3], guard := none }]
def F22r8 : List ROp := [{ dst := some 39, op := .copy false (.tmp 5), after := [], guard := none },
  { dst := some 40, op := .bin .add (.tmp 39) (.const (.int .i64 1)), after := [0], guard := none },
  { dst := some 5, op := .copy true (.tmp 40), after := [1, 0, 1], guard := none }]
def F22r9 : List ROp := [{ dst := some 41, op := .load 6 true false (.tmp 1), after := [], guard := none },
  { dst := some 42, op := .fad 4 (.tmp 1), after := [], guard := none },
  { dst := some 43, op := .load 1 false false (.tmp 42), after := [1], guard := none },
  { dst := some 44, op := .copy false (.tmp 5), after := [], guard := none },
  { dst := some 45, op := .iad 6 (.tmp 43) (.tmp 44), after := [2, 3], guard := none },
  { dst := some 46, op := .fad 2 (.tmp 45), after := [4], guard := none },
  { dst := some 47, op := .load 1 false false (.tmp 46), after := [5], guard := none },
  { dst := some 48, op := .call (.func 17) [.tmp 41, .tmp 47], after := [0, 6], guard := none },
  { dst := some 49, op := .bin .lss (.tmp 48) (.const (.int .i64 0)), after := [7], guard := none }]
def F22r10 : List ROp := [{ dst := some 50, op := .fad 4 (.tmp 1), after := [], guard := none },
  { dst := some 51, op := .load 1 false false (.tmp 50), after := [0], guard := none },
  { dst := some 52, op := .copy false (.tmp 5), after := [], guard := none },
  { dst := some 53, op := .iad 6 (.tmp 51) (.tmp 52), after := [1, 2], guard := none },
  { dst := some 54, op := .fad 0 (.tmp 53), after := [3], guard := none },
  { dst := some 55, op := .load 2 true false (.tmp 54), after := [4], guard := none },
  { dst := none, op := .store 2 true (.tmp 2) (.tmp 55), after := [5, 0, 1, 2, 3, 4, 5], guard := none },
  { dst := some 3, op := .copy true (.const (.int .i64 63)), after := [6, 0, 1, 2, 3, 4, 5, 6], guard := none }]
def F22r11 : List ROp := [{ dst := some 57, op := .load 6 true false (.tmp 1), after := [], guard := none },
  { dst := some 58, op := .fad 4 (.tmp 1), after := [], guard := none },
  { dst := some 59, op := .load 1 false false (.tmp 58), after := [1], guard := none },
  { dst := some 60, op := .copy false (.tmp 5), after := [], guard := none },
  { dst := some 61, op := .iad 6 (.tmp 59) (.tmp 60), after := [2, 3], guard := none },
  { dst := some 62, op := .fad 5 (.tmp 61), after := [4], guard := none },
  { dst := some 63, op := .load 1 false false (.tmp 62), after := [5], guard := none },
  { dst := some 64, op := .call (.func 28) [.tmp 57, .tmp 63], after := [0, 6], guard := none },
  { dst := some 56, op := .copy false (.tmp 64), after := [7], guard := none },
  { dst := some 65, op := .ext (.tmp 56) 0, after := [8], guard := none },
  { dst := some 66, op := .ext (.tmp 56) 1, after := [8], guard := none },
  { dst := some 6, op := .alloc 32 [Value.int .i64 0, Value.int .i64 0], after := [], guard := none },
  { dst := none, op := .store 2 true (.tmp 6) (.tmp 65), after := [11, 9, 7, 0, 1, 2, 3, 4, 5, 6, 7, 8, 9, 11], guard := none },
  { dst := some 7, op := .copy true (.tmp 66), after := [10, 12, 0, 1, 2, 3, 4, 5, 6, 7, 8, 9, 10, 11, 12], guard := none }]
def F22r12 : List ROp := [{ dst := some 67, op := .copy false (.tmp 7), after := [], guard := none },
  { dst := some 68, op := .bin .neq (.tmp 67) (.const (.int .i64 0)), after := [0], guard := none }]
def F22r13 : List ROp := [{ dst := some 69, op := .load 2 true false (.tmp 6), after := [], guard := none },
  { dst := some 70, op := .copy true (.tmp 7), after := [], guard := none },
  { dst := none, op := .store 2 true (.tmp 2) (.tmp 69), after := [0, 0], guard := none },
  { dst := some 3, op := .copy true (.tmp 70), after := [1, 2, 0, 1, 2], guard := none }]
def F22r14 : List ROp := [{ dst := some 8, op := .copy true (.const (.int .i64 0)), after := [], guard := none }]
def F22r15 : List ROp := [{ dst := some 71, op := .copy false (.tmp 8), after := [], guard := none },
  { dst := some 72, op := .fad 5 (.tmp 1), after := [], guard := none },
  { dst := some 73, op := .load 1 false false (.tmp 72), after := [1], guard := none },
  { dst := some 74, op := .len 0 (.tmp 73), after := [2], guard := none },
  { dst := some 75, op := .bin .lss (.tmp 71) (.tmp 74), after := [0, 3], guard := none }]
def F22r16 : List ROp := [{ dst := some 76, op := .copy false (.tmp 8), after := [], guard := none },
  { dst := some 77, op := .bin .add (.tmp 76) (.const (.int .i64 1)), after := [0], guard := none },
  { dst := some 8, op := .copy true (.tmp 77), after := [1, 0, 1], guard := none }]
def F22r17 : List ROp := [{ dst := some 79, op := .load 6 true false (.tmp 1), after := [], guard := none },
  { dst := some 80, op := .fad 5 (.tmp 1), after := [], guard := none },
  { dst := some 81, op := .load 1 false false (.tmp 80), after := [1], guard := none },
  { dst := some 82, op := .copy false (.tmp 8), after := [], guard := none },
  { dst := some 83, op := .iad 4 (.tmp 81) (.tmp 82), after := [2, 3], guard := none },
  { dst := some 84, op := .fad 3 (.tmp 83), after := [4], guard := none },
  { dst := some 85, op := .load 1 false false (.tmp 84), after := [5], guard := none },
  { dst := some 86, op := .call (.func 28) [.tmp 79, .tmp 85], after := [0, 6], guard := none },
  { dst := some 78, op := .copy false (.tmp 86), after := [7], guard := none },
  { dst := some 87, op := .ext (.tmp 78) 0, after := [8], guard := none },
  { dst := some 88, op := .ext (.tmp 78) 1, after := [8], guard := none },
  { dst := some 9, op := .alloc 32 [Value.int .i64 0, Value.int .i64 0], after := [], guard := none },
  { dst := none, op := .store 2 true (.tmp 9) (.tmp 87), after := [11, 9, 7, 0, 1, 2, 3, 4, 5, 6, 7, 8, 9, 11], guard := none },
  { dst := some 10, op := .copy true (.tmp 88), after := [10, 12, 0, 1, 2, 3, 4, 5, 6, 7, 8, 9, 10, 11, 12], guard := none }]
def F22r18 : List ROp := [{ dst := some 89, op := .copy false (.tmp 10), after := [], guard := none },
  { dst := some 90, op := .bin .neq (.tmp 89) (.const (.int .i64 0)), after := [0], guard := none }]
def F22r19 : List ROp := [{ dst := some 91, op := .load 2 true false (.tmp 9), after := [], guard := none },
  { dst := some 92, op := .copy true (.tmp 10), after := [], guard := none },
  { dst := none, op := .store 2 true (.tmp 2) (.tmp 91), after := [0, 0], guard := none },
  { dst := some 3, op := .copy true (.tmp 92), after := [1, 2, 0, 1, 2], guard := none }]
def F22r20 : List ROp := [{ dst := some 93, op := .build [Value.int .i64 0, Value.int .i64 0] [], after := [], guard := none },
  { dst := none, op := .store 2 true (.tmp 2) (.tmp 93), after := [0, 0], guard := none },
  { dst := some 3, op := .copy true (.const (.int .i64 0)), after := [1, 0, 1], guard := none }]
def st22 (m : MMod) (t k : Nat) : AS := { tm := [(1, .ptr 1 0), (2, .ptr 2 0), (t, ival k)], hp := [(1, .cells 28 (modCells m)), (2, .cells 32 [ival 0, ival 0])] }
theorem Check_ok (m : MMod) (hm : m.ok) : Con Try.prog 22 [encMod m] (encE (checkE m)) := by
  have h1 := hm.rels
  have h2 := hm.rules
  have h3 := hm.nevers
  refine Con.of_code Try.func22 (by kernel_rfl) rfl (by simp [Try.ntmps22]) fun C hC hM => ?_
  repeat refine AWp.seq ?_
  refine AWp.reg [false, false, true] F22r0 [] (by kernel_rfl) (by rw [hC]; rfl) fun K hK => ?_
  simp [F22r0]
  refine hK _ ?_
  repeat refine AWp.seq ?_
  refine AWp.reg [true] F22r1 [] (by kernel_rfl) (by rw [hC]; rfl) fun K hK => ?_
  simp [F22r1]
  refine hK _ ?_
  refine AWp.block ?_
  refine AWp.loopG (st22 m 4) (fun k => k ≤ m.rels.length ∧ relsE m m.rels 0 = relsE m (m.rels.drop k) k) (fun k => m.rels.length - k) 0 (by simp) (by simp [st22]) (fun k hk => ?_)
  obtain ⟨hk1, hk2⟩ := hk
  repeat refine AWp.seq ?_
  refine AWp.reg [] F22r2 [] (by kernel_rfl) (by rw [hC]; rfl) fun K hK => ?_
  simp [F22r2, st22]
  refine hK _ ?_
  refine AWp.cond (decide (k < m.rels.length)) (by simp) (fun hlt => ?_) (fun hge => ?_)
  · have hlt : k < m.rels.length := by simpa using hlt
    have hd := relsE_drop m m.rels k hlt
    refine AWp.skip ?_
    repeat refine AWp.seq ?_
    refine AWp.block ?_
    repeat refine AWp.seq ?_
    refine AWp.regD ops_mixed [] F22r4 [{ r := ival (At m m.rels[k].name) }] (by kernel_rfl) (by rw [hC]; rfl) rfl (fun K hK => ?_) (by simp [F22r4, hlt] <;> rfl)
    simp [F22r4, hlt]
    refine ⟨callOK rfl (At_ok m _ hm), hK _ ?_⟩
    refine AWp.cond (decide (At m m.rels[k].name < k)) (by simp) (fun he => ?_) (fun he => ?_)
    · refine AWp.seq ?_
      repeat refine AWp.seq ?_
      refine AWp.reg [false, false, false, false, false, false, true, true] F22r5 [] (by kernel_rfl) (by rw [hC]; rfl) fun K hK => ?_
      simp [F22r5, hlt]
      refine hK _ ?_
      repeat refine AWp.seq ?_
      refine AWp.ret ⟨.inr rfl, _, by simp [Try.results22] <;> rfl, ?_⟩
      have he : At m m.rels[k].name < k := by simpa using he
      have h2 : checkE m = ((m.rels[k].line, m.rels[k].col), 6) := by simp [checkE, hk2, hd, he]
      rw [h2]
      exact .closed rfl
    · have he : ¬ At m m.rels[k].name < k := by simpa using he
      refine AWp.skip ?_
      repeat refine AWp.seq ?_
      refine AWp.reg [false, false, true] F22r3 [] (by kernel_rfl) (by rw [hC]; rfl) fun K hK => ?_
      simp [F22r3]
      refine hK _ ⟨k + 1, ⟨by omega, by rw [hk2, hd, if_neg he]⟩, by omega, ?_⟩
      simp [st22, wrap_nat k (by omega)]
  have hge : ¬ k < m.rels.length := by simpa using hge
  have hr0 : relsE m m.rels 0 = none := by rw [hk2, List.drop_eq_nil_of_le (by omega)]; rfl
  clear hk1 hk2 hge
  refine AWp.exit ?_
  repeat refine AWp.seq ?_
  refine AWp.reg [true] F22r6 [] (by kernel_rfl) (by rw [hC]; rfl) fun K hK => ?_
  simp [F22r6]
  refine hK _ ?_
  refine AWp.block ?_
  refine AWp.loopG (st22 m 5) (fun k => k ≤ m.rules.length ∧ rulesE m m.rules = rulesE m (m.rules.drop k)) (fun k => m.rules.length - k) 0 (by simp) (by simp [st22]) (fun k hk => ?_)
  obtain ⟨hk1, hk2⟩ := hk
  repeat refine AWp.seq ?_
  refine AWp.reg [] F22r7 [] (by kernel_rfl) (by rw [hC]; rfl) fun K hK => ?_
  simp [F22r7, st22]
  refine hK _ ?_
  refine AWp.cond (decide (k < m.rules.length)) (by simp) (fun hlt => ?_) (fun hge => ?_)
  · have hlt : k < m.rules.length := by simpa using hlt
    have hd := rulesE_drop m m.rules k hlt
    refine AWp.skip ?_
    repeat refine AWp.seq ?_
    refine AWp.block ?_
    repeat refine AWp.seq ?_
    refine AWp.regD ops_mixed [] F22r9 [{ r := ival (At m m.rules[k].rel) }] (by kernel_rfl) (by rw [hC]; rfl) rfl (fun K hK => ?_) (by simp [F22r9, hlt] <;> rfl)
    simp [F22r9, hlt]
    refine ⟨callOK rfl (At_ok m _ hm), hK _ ?_⟩
    refine AWp.cond (decide (At m m.rules[k].rel < 0)) (by simp) (fun he => ?_) (fun he => ?_)
    · refine AWp.seq ?_
      repeat refine AWp.seq ?_
      refine AWp.reg [false, false, false, false, false, false, true, true] F22r10 [] (by kernel_rfl) (by rw [hC]; rfl) fun K hK => ?_
      simp [F22r10, hlt]
      refine hK _ ?_
      repeat refine AWp.seq ?_
      refine AWp.ret ⟨.inr rfl, _, by simp [Try.results22] <;> rfl, ?_⟩
      have he : At m m.rules[k].rel < 0 := by simpa using he
      have h2 : checkE m = ((m.rules[k].line, m.rules[k].col), 63) := by simp [checkE, hr0, hk2, hd, he]
      rw [h2]
      exact .closed rfl
    · have he : ¬ At m m.rules[k].rel < 0 := by simpa using he
      refine AWp.skip ?_
      cases hb : badLit m m.rules[k].body with
      | none =>
        have hbe : bodyE m m.rules[k].body = okE := by simp [bodyE, hb]
        repeat refine AWp.seq ?_
        refine AWp.regD ops_mixed [false, false, false, false, false, false, false, false, false, false, false, false, true, true] F22r11 [{ r := encE okE }] (by kernel_rfl) (by rw [hC]; rfl) rfl (fun K hK => ?_) (by simp [F22r11, hlt, okE] <;> rfl)
        simp [F22r11, hlt, okE]
        refine ⟨callOK rfl (by rw [← encE_ok, ← hbe]; exact body_ok m _ hm (hm.bodies _ (List.getElem_mem hlt))), hK _ ?_⟩
        repeat refine AWp.seq ?_
        refine AWp.reg [] F22r12 [] (by kernel_rfl) (by rw [hC]; rfl) fun K hK => ?_
        simp [F22r12]
        refine hK _ ?_
        refine AWp.cond false (by simp) (fun he => by cases he) (fun _ => ?_)
        refine AWp.skip ?_
        repeat refine AWp.seq ?_
        refine AWp.reg [false, false, true] F22r8 [] (by kernel_rfl) (by rw [hC]; rfl) fun K hK => ?_
        simp [F22r8]
        refine hK _ ⟨k + 1, ⟨by omega, by rw [hk2, hd, if_neg he, hb]⟩, by omega, ?_⟩
        simp [st22, wrap_nat k (by omega)]
      | some p =>
        have hbe : bodyE m m.rules[k].body = (p, 63) := by simp [bodyE, hb]
        repeat refine AWp.seq ?_
        refine AWp.regD ops_mixed [false, false, false, false, false, false, false, false, false, false, false, false, true, true] F22r11 [{ r := encE (p, 63) }] (by kernel_rfl) (by rw [hC]; rfl) rfl (fun K hK => ?_) (by simp [F22r11, hlt] <;> rfl)
        simp [F22r11, hlt]
        refine ⟨callOK rfl (by have := body_ok m _ hm (hm.bodies _ (List.getElem_mem hlt)); rw [hbe] at this; exact this), hK _ ?_⟩
        repeat refine AWp.seq ?_
        refine AWp.reg [] F22r12 [] (by kernel_rfl) (by rw [hC]; rfl) fun K hK => ?_
        simp [F22r12]
        refine hK _ ?_
        refine AWp.cond true (by simp) (fun _ => ?_) (fun he => by cases he)
        repeat refine AWp.seq ?_
        refine AWp.reg [false, true, true, true] F22r13 [] (by kernel_rfl) (by rw [hC]; rfl) fun K hK => ?_
        simp [F22r13]
        refine hK _ ?_
        repeat refine AWp.seq ?_
        refine AWp.ret ⟨.inr rfl, _, by simp [Try.results22] <;> rfl, ?_⟩
        have h2 : checkE m = (p, 63) := by simp [checkE, hr0, hk2, hd, he, hb]
        rw [h2]
        exact .closed rfl
  have hge : ¬ k < m.rules.length := by simpa using hge
  have hr1 : rulesE m m.rules = none := by rw [hk2, List.drop_eq_nil_of_le (by omega)]; rfl
  clear hk1 hk2 hge
  refine AWp.exit ?_
  repeat refine AWp.seq ?_
  refine AWp.reg [true] F22r14 [] (by kernel_rfl) (by rw [hC]; rfl) fun K hK => ?_
  simp [F22r14]
  refine hK _ ?_
  refine AWp.block ?_
  refine AWp.loopG (st22 m 8) (fun k => k ≤ m.nevers.length ∧ neversE m m.nevers = neversE m (m.nevers.drop k)) (fun k => m.nevers.length - k) 0 (by simp) (by simp [st22]) (fun k hk => ?_)
  obtain ⟨hk1, hk2⟩ := hk
  repeat refine AWp.seq ?_
  refine AWp.reg [] F22r15 [] (by kernel_rfl) (by rw [hC]; rfl) fun K hK => ?_
  simp [F22r15, st22]
  refine hK _ ?_
  refine AWp.cond (decide (k < m.nevers.length)) (by simp) (fun hlt => ?_) (fun hge => ?_)
  · have hlt : k < m.nevers.length := by simpa using hlt
    have hd := neversE_drop m m.nevers k hlt
    refine AWp.skip ?_
    repeat refine AWp.seq ?_
    refine AWp.block ?_
    cases hb : badLit m m.nevers[k].body with
    | none =>
      have hbe : bodyE m m.nevers[k].body = okE := by simp [bodyE, hb]
      repeat refine AWp.seq ?_
      refine AWp.regD ops_mixed [false, false, false, false, false, false, false, false, false, false, false, false, true, true] F22r17 [{ r := encE okE }] (by kernel_rfl) (by rw [hC]; rfl) rfl (fun K hK => ?_) (by simp [F22r17, hlt, okE] <;> rfl)
      simp [F22r17, hlt, okE]
      refine ⟨callOK rfl (by rw [← encE_ok, ← hbe]; exact body_ok m _ hm (hm.nbodies _ (List.getElem_mem hlt))), hK _ ?_⟩
      repeat refine AWp.seq ?_
      refine AWp.reg [] F22r18 [] (by kernel_rfl) (by rw [hC]; rfl) fun K hK => ?_
      simp [F22r18]
      refine hK _ ?_
      refine AWp.cond false (by simp) (fun he => by cases he) (fun _ => ?_)
      refine AWp.skip ?_
      repeat refine AWp.seq ?_
      refine AWp.reg [false, false, true] F22r16 [] (by kernel_rfl) (by rw [hC]; rfl) fun K hK => ?_
      simp [F22r16]
      refine hK _ ⟨k + 1, ⟨by omega, by rw [hk2, hd, hb]⟩, by omega, ?_⟩
      simp [st22, wrap_nat k (by omega)]
    | some p =>
      have hbe : bodyE m m.nevers[k].body = (p, 63) := by simp [bodyE, hb]
      repeat refine AWp.seq ?_
      refine AWp.regD ops_mixed [false, false, false, false, false, false, false, false, false, false, false, false, true, true] F22r17 [{ r := encE (p, 63) }] (by kernel_rfl) (by rw [hC]; rfl) rfl (fun K hK => ?_) (by simp [F22r17, hlt] <;> rfl)
      simp [F22r17, hlt]
      refine ⟨callOK rfl (by have := body_ok m _ hm (hm.nbodies _ (List.getElem_mem hlt)); rw [hbe] at this; exact this), hK _ ?_⟩
      repeat refine AWp.seq ?_
      refine AWp.reg [] F22r18 [] (by kernel_rfl) (by rw [hC]; rfl) fun K hK => ?_
      simp [F22r18]
      refine hK _ ?_
      refine AWp.cond true (by simp) (fun _ => ?_) (fun he => by cases he)
      repeat refine AWp.seq ?_
      refine AWp.reg [false, true, true, true] F22r19 [] (by kernel_rfl) (by rw [hC]; rfl) fun K hK => ?_
      simp [F22r19]
      refine hK _ ?_
      repeat refine AWp.seq ?_
      refine AWp.ret ⟨.inr rfl, _, by simp [Try.results22] <;> rfl, ?_⟩
      have h2 : checkE m = (p, 63) := by simp [checkE, hr0, hr1, hk2, hd, hb]
      rw [h2]
      exact .closed rfl
  have hge : ¬ k < m.nevers.length := by simpa using hge
  have hr2 : neversE m m.nevers = none := by rw [hk2, List.drop_eq_nil_of_le (by omega)]; rfl
  refine AWp.exit ?_
  repeat refine AWp.seq ?_
  refine AWp.reg [false, true, true] F22r20 [] (by kernel_rfl) (by rw [hC]; rfl) fun K hK => ?_
  simp [F22r20]
  refine hK _ ?_
  repeat refine AWp.seq ?_
  refine AWp.ret ⟨.inr rfl, _, by simp [Try.results22] <;> rfl, ?_⟩
  have h2 : checkE m = okE := by simp [checkE, hr0, hr1, hr2]
  rw [h2]
  exact .closed rfl
end Go.St
