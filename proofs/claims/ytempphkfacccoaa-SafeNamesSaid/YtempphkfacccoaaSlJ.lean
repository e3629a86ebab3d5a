/- Whether a program is taken. -/
import Derived.Test.YtempphkfacccoaaSlI
set_option linter.unusedSimpArgs false
set_option linter.unusedVariables false
open Go Go.Aw Go.Proofs
namespace Go.Sl
-- function 16: corollary/safe.Check: 110 slots; results ['(Go.ResultVar.cell 2 28)', '(Go.ResultVar.tmp 3)']
def F16r0 : List ROp := [{ dst := some 1, op := .box 52 (.tmp 0), after := [], guard := none },
  { dst := some 2, op := .alloc 28 [Value.int .i64 0, Value.int .i64 0], after := [], guard := none },
  { dst := some 3, op := .copy true (.const (.int .i64 0)), after := [], guard := none }]
def F16r1 : List ROp := [{ dst := some 19, op := .fad 4 (.tmp 1), after := [], guard := none },
  { dst := some 20, op := .load 1 false false (.tmp 19), after := [0], guard := none },
  { dst := some 21, op := .len 0 (.tmp 20), after := [1], guard := none },
  { dst := some 22, op := .copy false (.const (.int .i64 0)), after := [], guard := none }]
def F16r2 : List ROp := [{ dst := some 23, op := .bin .lss (.tmp 22) (.tmp 21), after := [], guard := none }]
def F16r3 : List ROp := [{ dst := some 24, op := .iad 6 (.tmp 20) (.tmp 22), after := [], guard := none },
  { dst := some 25, op := .load 6 true false (.tmp 24), after := [0], guard := none },
  { dst := some 5, op := .alloc 54 [Value.int .i64 0, Value.int .i64 0, Value.string ByteArray.empty, Value.slice none 0 0, Value.slice none 0 0, Value.slice none 0 0], after := [], guard := none },
  { dst := none, op := .store 6 true (.tmp 5) (.tmp 25), after := [2, 1, 0, 1, 2], guard := none }]
def F16r4 : List ROp := [{ dst := some 27, op := .fad 5 (.tmp 5), after := [], guard := none },
  { dst := some 28, op := .load 1 false false (.tmp 27), after := [0], guard := none },
  { dst := some 29, op := .call (.func 10) [.tmp 28], after := [1], guard := none },
  { dst := some 26, op := .copy false (.tmp 29), after := [2], guard := none },
  { dst := some 30, op := .ext (.tmp 26) 0, after := [3], guard := none },
  { dst := some 31, op := .ext (.tmp 26) 1, after := [3], guard := none },
  { dst := some 32, op := .ext (.tmp 26) 2, after := [3], guard := none },
  { dst := some 33, op := .ext (.tmp 26) 3, after := [3], guard := none },
  { dst := some 7, op := .alloc 32 [Value.slice none 0 0], after := [], guard := none },
  { dst := some 8, op := .alloc 28 [Value.int .i64 0, Value.int .i64 0], after := [], guard := none },
  { dst := some 6, op := .copy true (.tmp 30), after := [4, 2, 0, 1, 2, 3, 4, 8, 9], guard := none },
  { dst := none, op := .store 1 true (.tmp 7) (.tmp 31), after := [8, 5, 10, 0, 1, 2, 3, 4, 5, 8, 9, 10], guard := none },
  { dst := none, op := .store 2 true (.tmp 8) (.tmp 32), after := [9, 6, 11, 0, 1, 2, 3, 4, 5, 6, 8, 9, 10, 11], guard := none },
  { dst := some 9, op := .copy true (.tmp 33), after := [7, 12, 0, 1, 2, 3, 4, 5, 6, 7, 8, 9, 10, 11, 12], guard := none }]
def F16r5 : List ROp := [{ dst := some 35, op := .copy false (.tmp 9), after := [], guard := none },
  { dst := some 36, op := .bin .neq (.tmp 35) (.const (.int .i64 0)), after := [0], guard := none },
  { dst := some 34, op := .copy true (.tmp 36), after := [1], guard := none }]
def F16r6 : List ROp := [{ dst := some 37, op := .load 2 true false (.tmp 8), after := [], guard := none },
  { dst := some 38, op := .copy true (.tmp 9), after := [], guard := none },
  { dst := none, op := .store 2 true (.tmp 2) (.tmp 37), after := [0, 0], guard := none },
  { dst := some 3, op := .copy true (.tmp 38), after := [1, 2, 0, 1, 2], guard := none }]
def F16r7 : List ROp := [{ dst := some 40, op := .fad 3 (.tmp 5), after := [], guard := none },
  { dst := some 41, op := .load 1 false false (.tmp 40), after := [0], guard := none },
  { dst := some 42, op := .call (.func 33) [.tmp 41], after := [1], guard := none },
  { dst := some 43, op := .mkf (Go.Fn.func 35) [.tmp 7], after := [], guard := none },
  { dst := some 44, op := .call (.func 34) [.tmp 42, .tmp 43], after := [2, 3, 2], guard := none },
  { dst := some 39, op := .copy true (.tmp 44), after := [4, 4], guard := none }]
def F16r8 : List ROp := [{ dst := some 45, op := .fad 0 (.tmp 5), after := [], guard := none },
  { dst := some 46, op := .load 2 true false (.tmp 45), after := [0], guard := none },
  { dst := none, op := .store 2 true (.tmp 2) (.tmp 46), after := [1, 0, 1], guard := none },
  { dst := some 3, op := .copy true (.const (.int .i64 71)), after := [2, 0, 1, 2], guard := none }]
def F16r9 : List ROp := [{ dst := some 47, op := .bin .add (.tmp 22) (.const (.int .i64 1)), after := [], guard := none },
  { dst := some 22, op := .copy false (.tmp 47), after := [0], guard := none }]
def F16r10 : List ROp := [{ dst := some 48, op := .fad 5 (.tmp 1), after := [], guard := none },
  { dst := some 49, op := .load 1 false false (.tmp 48), after := [0], guard := none },
  { dst := some 50, op := .len 0 (.tmp 49), after := [1], guard := none },
  { dst := some 51, op := .copy false (.const (.int .i64 0)), after := [], guard := none }]
def F16r11 : List ROp := [{ dst := some 52, op := .bin .lss (.tmp 51) (.tmp 50), after := [], guard := none }]
def F16r12 : List ROp := [{ dst := some 53, op := .iad 4 (.tmp 49) (.tmp 51), after := [], guard := none },
  { dst := some 54, op := .load 4 true false (.tmp 53), after := [0], guard := none },
  { dst := some 11, op := .alloc 58 [Value.int .i64 0, Value.int .i64 0, Value.string ByteArray.empty, Value.slice none 0 0], after := [], guard := none },
  { dst := none, op := .store 4 true (.tmp 11) (.tmp 54), after := [2, 1, 0, 1, 2], guard := none }]
def F16r13 : List ROp := [{ dst := some 56, op := .fad 3 (.tmp 11), after := [], guard := none },
  { dst := some 57, op := .load 1 false false (.tmp 56), after := [0], guard := none },
  { dst := some 58, op := .call (.func 10) [.tmp 57], after := [1], guard := none },
  { dst := some 55, op := .copy false (.tmp 58), after := [2], guard := none },
  { dst := some 59, op := .ext (.tmp 55) 0, after := [3], guard := none },
  { dst := some 60, op := .ext (.tmp 55) 1, after := [3], guard := none },
  { dst := some 61, op := .ext (.tmp 55) 2, after := [3], guard := none },
  { dst := some 62, op := .ext (.tmp 55) 3, after := [3], guard := none },
  { dst := some 14, op := .alloc 28 [Value.int .i64 0, Value.int .i64 0], after := [], guard := none },
  { dst := some 12, op := .copy true (.tmp 59), after := [4, 2, 0, 1, 2, 3, 4, 8], guard := none },
  { dst := some 13, op := .copy true (.tmp 60), after := [5, 9, 0, 1, 2, 3, 4, 5, 8, 9], guard := none },
  { dst := none, op := .store 2 true (.tmp 14) (.tmp 61), after := [8, 6, 10, 0, 1, 2, 3, 4, 5, 6, 8, 9, 10], guard := none },
  { dst := some 15, op := .copy true (.tmp 62), after := [7, 11, 0, 1, 2, 3, 4, 5, 6, 7, 8, 9, 10, 11], guard := none }]
def F16r14 : List ROp := [{ dst := some 63, op := .copy false (.tmp 15), after := [], guard := none },
  { dst := some 64, op := .bin .neq (.tmp 63) (.const (.int .i64 0)), after := [0], guard := none }]
def F16r15 : List ROp := [{ dst := some 65, op := .load 2 true false (.tmp 14), after := [], guard := none },
  { dst := some 66, op := .copy true (.tmp 15), after := [], guard := none },
  { dst := none, op := .store 2 true (.tmp 2) (.tmp 65), after := [0, 0], guard := none },
  { dst := some 3, op := .copy true (.tmp 66), after := [1, 2, 0, 1, 2], guard := none }]
def F16r16 : List ROp := [{ dst := some 67, op := .bin .add (.tmp 51) (.const (.int .i64 1)), after := [], guard := none },
  { dst := some 51, op := .copy false (.tmp 67), after := [0], guard := none }]
def F16r17 : List ROp := [{ dst := some 68, op := .load 6 true false (.tmp 1), after := [], guard := none },
  { dst := some 69, op := .call (.func 29) [.tmp 68], after := [0], guard := none },
  { dst := some 70, op := .len 0 (.tmp 69), after := [1], guard := none },
  { dst := some 71, op := .copy false (.const (.int .i64 0)), after := [], guard := none }]
def F16r18 : List ROp := [{ dst := some 72, op := .bin .lss (.tmp 71) (.tmp 70), after := [], guard := none }]
def F16r19 : List ROp := [{ dst := some 73, op := .copy true (.tmp 71), after := [], guard := none },
  { dst := some 74, op := .iad 1 (.tmp 69) (.tmp 71), after := [], guard := none },
  { dst := some 75, op := .load 1 false false (.tmp 74), after := [1], guard := none },
  { dst := some 16, op := .copy true (.tmp 73), after := [0, 0, 1, 2], guard := none },
  { dst := some 17, op := .copy true (.tmp 75), after := [2, 3, 0, 1, 2, 3], guard := none }]
def F16r20 : List ROp := [{ dst := some 76, op := .fad 4 (.tmp 1), after := [], guard := none },
  { dst := some 77, op := .load 1 false false (.tmp 76), after := [0], guard := none },
  { dst := some 78, op := .copy false (.tmp 16), after := [], guard := none },
  { dst := some 79, op := .iad 6 (.tmp 77) (.tmp 78), after := [1, 2], guard := none },
  { dst := some 80, op := .fad 3 (.tmp 79), after := [3], guard := none },
  { dst := some 81, op := .load 1 false false (.tmp 80), after := [4], guard := none },
  { dst := some 82, op := .len 0 (.tmp 81), after := [5], guard := none },
  { dst := some 83, op := .copy false (.const (.int .i64 0)), after := [], guard := none }]
def F16r21 : List ROp := [{ dst := some 84, op := .bin .lss (.tmp 83) (.tmp 82), after := [], guard := none }]
def F16r22 : List ROp := [{ dst := some 85, op := .copy true (.tmp 83), after := [], guard := none },
  { dst := some 18, op := .copy true (.tmp 85), after := [0, 0], guard := none }]
def F16r23 : List ROp := [{ dst := some 86, op := .copy false (.tmp 17), after := [], guard := none },
  { dst := some 87, op := .copy false (.tmp 86), after := [0], guard := none },
  { dst := some 88, op := .fad 4 (.tmp 1), after := [1], guard := some (87, true) },
  { dst := some 89, op := .load 1 false false (.tmp 88), after := [2, 1], guard := some (87, true) },
  { dst := some 90, op := .copy false (.tmp 16), after := [1], guard := some (87, true) },
  { dst := some 91, op := .iad 6 (.tmp 89) (.tmp 90), after := [3, 4, 1], guard := some (87, true) },
  { dst := some 92, op := .load 6 true false (.tmp 91), after := [5, 1], guard := some (87, true) },
  { dst := some 93, op := .copy false (.tmp 18), after := [1], guard := some (87, true) },
  { dst := some 94, op := .call (.func 37) [.tmp 92, .tmp 93], after := [6, 7, 1, 1], guard := some (87, true) },
  { dst := some 95, op := .un .not (.tmp 94), after := [8, 1], guard := some (87, true) },
  { dst := some 96, op := .pick (.tmp 87) (.tmp 95) (.const (.bool false)), after := [1, 9], guard := none }]
def F16r24 : List ROp := [{ dst := some 97, op := .fad 4 (.tmp 1), after := [], guard := none },
  { dst := some 98, op := .load 1 false false (.tmp 97), after := [0], guard := none },
  { dst := some 99, op := .copy false (.tmp 16), after := [], guard := none },
  { dst := some 100, op := .iad 6 (.tmp 98) (.tmp 99), after := [1, 2], guard := none },
  { dst := some 101, op := .fad 3 (.tmp 100), after := [3], guard := none },
  { dst := some 102, op := .load 1 false false (.tmp 101), after := [4], guard := none },
  { dst := some 103, op := .copy false (.tmp 18), after := [], guard := none },
  { dst := some 104, op := .iad 9 (.tmp 102) (.tmp 103), after := [5, 6], guard := none },
  { dst := some 105, op := .fad 1 (.tmp 104), after := [7], guard := none },
  { dst := some 106, op := .load 2 true false (.tmp 105), after := [8], guard := none },
  { dst := none, op := .store 2 true (.tmp 2) (.tmp 106), after := [9, 0, 1, 2, 3, 4, 5, 6, 7, 8, 9], guard := none },
  { dst := some 3, op := .copy true (.const (.int .i64 72)), after := [10, 0, 1, 2, 3, 4, 5, 6, 7, 8, 9, 10], guard := none }]
def F16r25 : List ROp := [{ dst := some 107, op := .bin .add (.tmp 83) (.const (.int .i64 1)), after := [], guard := none },
  { dst := some 83, op := .copy false (.tmp 107), after := [0], guard := none }]
def F16r26 : List ROp := [{ dst := some 108, op := .bin .add (.tmp 71) (.const (.int .i64 1)), after := [], guard := none },
  { dst := some 71, op := .copy false (.tmp 108), after := [0], guard := none }]
def F16r27 : List ROp := [{ dst := some 109, op := .build [Value.int .i64 0, Value.int .i64 0] [], after := [], guard := none },
  { dst := none, op := .store 2 true (.tmp 2) (.tmp 109), after := [0, 0], guard := none },
  { dst := some 3, op := .copy true (.const (.int .i64 0)), after := [1, 0, 1], guard := none }]
def stC1 (m : ModD) (i : Nat) : AS :=
  { tm := [(1, .ptr 1 0), (2, .ptr 2 0), (20, .rd 6 (m.rules.map encR)), (21, ival m.rules.length), (22, ival i)], hp := [(1, .cells 52 (modC m)), (2, .cells 28 [ival 0, ival 0])] }
def stC2 (m : ModD) (i : Nat) : AS :=
  { tm := [(1, .ptr 1 0), (2, .ptr 2 0), (49, .rd 4 (m.nevers.map encN)), (50, ival m.nevers.length), (51, ival i)], hp := [(1, .cells 52 (modC m)), (2, .cells 28 [ival 0, ival 0])] }
noncomputable def stC3 (m : ModD) (i : Nat) : AS :=
  { tm := [(1, .ptr 1 0), (2, .ptr 2 0), (69, .rd 1 (bools (roundsE m.rules))), (70, ival m.rules.length), (71, ival i)], hp := [(1, .cells 52 (modC m)), (2, .cells 28 [ival 0, ival 0])] }
noncomputable def stC4 (m : ModD) (i : Nat) (b : Bool) (r : RuleD) (k : Nat) : AS := { stC3 m i with tm := (stC3 m i).tm ++ [(16, ival i), (17, bval b), (82, ival r.args.length), (83, ival k)] }
set_option maxHeartbeats 4000000 in
theorem Check_ok (m : ModD) (hm : ModOK m) : Con Try.prog 16 [encM m] (encC (checkE m)) := by
  have hml := hm.rules
  have hnl := hm.nevers
  refine Con.of_code Try.func16 (by kernel_rfl) rfl (by simp [Try.ntmps16]) fun C hC hM => ?_
  refine AWp.seq ?_
  refine AWp.reg [false, false, true] F16r0 [] (by kernel_rfl) (by rw [hC]; rfl) fun K hK => ?_
  simp [F16r0, encM, modC]
  first | refine hK _ ?_ | refine ⟨by omega, hK _ ?_⟩ | refine ⟨by omega, by omega, hK _ ?_⟩ | refine ⟨by omega, by omega, by omega, hK _ ?_⟩ | refine ⟨by omega, by omega, by omega, by omega, hK _ ?_⟩
  refine AWp.seq ?_
  refine AWp.seq ?_
  refine AWp.reg [] F16r1 [] (by kernel_rfl) (by rw [hC]; rfl) fun K hK => ?_
  simp [F16r1, encM, modC]
  first | refine hK _ ?_ | refine ⟨by omega, hK _ ?_⟩ | refine ⟨by omega, by omega, hK _ ?_⟩ | refine ⟨by omega, by omega, by omega, hK _ ?_⟩ | refine ⟨by omega, by omega, by omega, by omega, hK _ ?_⟩
  refine AWp.block ?_
  refine AWp.loopG (stC1 m) (fun i => i ≤ m.rules.length ∧ m.rules.findSome? chkRule = (m.rules.drop i).findSome? chkRule) (fun i => m.rules.length - i) 0 (by simp) (by simp [stC1, modC]) (fun i hi => ?_)
  obtain ⟨hi1, hi2⟩ := hi
  refine AWp.seq ?_
  refine AWp.reg [] F16r2 [] (by kernel_rfl) (by rw [hC]; rfl) fun K hK => ?_
  simp [F16r2, stC1]
  first | refine hK _ ?_ | refine ⟨by omega, hK _ ?_⟩ | refine ⟨by omega, by omega, hK _ ?_⟩ | refine ⟨by omega, by omega, by omega, hK _ ?_⟩ | refine ⟨by omega, by omega, by omega, by omega, hK _ ?_⟩
  refine AWp.seq ?_
  refine AWp.cond (decide (i < m.rules.length)) (by simp) (fun hlt => ?_) (fun hge => ?_)
  · skip
    have hlt : i < m.rules.length := by simpa using hlt
    have hd := find_drop chkRule m.rules i hlt
    have hget := List.getElem_mem hlt
    obtain ⟨r, hr⟩ : ∃ r, m.rules[i] = r := ⟨_, rfl⟩
    rw [hr] at hd hget
    have hwt := hm.wt r hget
    have hsz := hm.args r hget
    have ho := Order_ok r.body hwt
    have hol := order_len r.body
    have hch : chkRule r = if (orderE r.body).2.2.2.2 ≠ 0 then some (orderE r.body).2.2 else if (varsOf r.args).any (fun s => !hasT (orderE r.body).2.1 s) then some (r.line, r.col, 71) else none := rfl
    obtain ⟨⟨row, names, pl, pc, e⟩, hoe⟩ : ∃ p, orderE r.body = p := ⟨_, rfl⟩
    rw [hoe] at ho hol hch
    simp only at hol hch
    have hv := vars_ok r.args hsz
    have hvl := varsOf_len r.args
    refine AWp.skip ?_
    refine AWp.seq ?_
    refine AWp.block ?_
    refine AWp.seq ?_
    refine AWp.reg [false, false, false, true] F16r3 [] (by kernel_rfl) (by rw [hC]; rfl) fun K hK => ?_
    simp [F16r3, hlt, hr, encR]
    first | refine hK _ ?_ | refine ⟨by omega, hK _ ?_⟩ | refine ⟨by omega, by omega, hK _ ?_⟩ | refine ⟨by omega, by omega, by omega, hK _ ?_⟩ | refine ⟨by omega, by omega, by omega, by omega, hK _ ?_⟩
    refine AWp.seq ?_
    refine AWp.reg [false, false, false, false, false, false, false, false, false, false, true, true, true, true] F16r4 [{ r := encO (row, names, pl, pc, e) }] (by kernel_rfl) (by rw [hC]; rfl) fun K hK => ?_
    simp [F16r4, encO, encR]
    refine ⟨callOK rfl ho, hK _ ?_⟩
    by_cases he : e = 0
    · subst he
      rw [if_neg (by simp)] at hch
      have hun := fun g h => unbIn (g := g) (names := names) (v := varsOf r.args) (by omega) (by omega) h
      refine AWp.block ?_
      refine AWp.seq ?_
      refine AWp.reg [false, false, true] F16r5 [] (by kernel_rfl) (by rw [hC]; rfl) fun K hK => ?_
      simp [F16r5]
      first | refine hK _ ?_ | refine ⟨by omega, hK _ ?_⟩ | refine ⟨by omega, by omega, hK _ ?_⟩ | refine ⟨by omega, by omega, by omega, hK _ ?_⟩ | refine ⟨by omega, by omega, by omega, by omega, hK _ ?_⟩
      refine AWp.cond false (by simp) (fun he => by cases he) (fun _ => ?_)
      cases ha : (varsOf r.args).any fun s => !hasT names s with
      | true =>
        rw [ha] at hch
        refine AWp.seq ?_
        refine AWp.reg [false, false, false, false, false, true] F16r7 [{ r := .rd 1 (texts (varsOf r.args)) }, { r := bval true, us := [7] }] (by kernel_rfl) (by rw [hC]; rfl) fun K hK => ?_
        simp [F16r7, encR]
        refine ⟨callOK rfl hv, ha ▸ unbIn (by omega) (by omega) rfl, hK _ ?_⟩
        refine AWp.cond true (by simp) (fun _ => ?_) (fun he => by cases he)
        refine AWp.seq ?_
        refine AWp.reg [false, false, true, true] F16r8 [] (by kernel_rfl) (by rw [hC]; rfl) fun K hK => ?_
        simp [F16r8, encR]
        first | refine hK _ ?_ | refine ⟨by omega, hK _ ?_⟩ | refine ⟨by omega, by omega, hK _ ?_⟩ | refine ⟨by omega, by omega, by omega, hK _ ?_⟩ | refine ⟨by omega, by omega, by omega, by omega, hK _ ?_⟩
        repeat refine AWp.seq ?_
        refine AWp.ret ⟨.inr rfl, _, by simp [Try.results16] <;> rfl, ?_⟩
        have : checkE m = (r.line, r.col, 71) := by unfold checkE; rw [hi2, hd, hch]; rfl
        rw [this]
        exact .closed rfl
      | false =>
        rw [ha] at hch
        refine AWp.seq ?_
        refine AWp.reg [false, false, false, false, false, true] F16r7 [{ r := .rd 1 (texts (varsOf r.args)) }, { r := bval false, us := [7] }] (by kernel_rfl) (by rw [hC]; rfl) fun K hK => ?_
        simp [F16r7, encR]
        refine ⟨callOK rfl hv, ha ▸ unbIn (by omega) (by omega) rfl, hK _ ?_⟩
        refine AWp.cond false (by simp) (fun he => by cases he) (fun _ => ?_)
        refine AWp.skip ?_
        refine AWp.reg [] F16r9 [] (by kernel_rfl) (by rw [hC]; rfl) fun K hK => ?_
        simp [F16r9]
        first | refine hK _ ?_ | refine ⟨by omega, hK _ ?_⟩ | refine ⟨by omega, by omega, hK _ ?_⟩ | refine ⟨by omega, by omega, by omega, hK _ ?_⟩ | refine ⟨by omega, by omega, by omega, by omega, hK _ ?_⟩
        refine ⟨i + 1, ⟨by omega, by rw [hi2, hd, hch]; rfl⟩, by omega, ?_⟩
        simp [stC1, modC, wrap_nat i (by omega)]
    · have hcr : chkRule r = some (pl, pc, e) := by rw [hch, if_pos he]
      refine AWp.block ?_
      refine AWp.seq ?_
      refine AWp.reg [false, false, true] F16r5 [] (by kernel_rfl) (by rw [hC]; rfl) fun K hK => ?_
      simp [F16r5, he]
      first | refine hK _ ?_ | refine ⟨by omega, hK _ ?_⟩ | refine ⟨by omega, by omega, hK _ ?_⟩ | refine ⟨by omega, by omega, by omega, hK _ ?_⟩ | refine ⟨by omega, by omega, by omega, by omega, hK _ ?_⟩
      refine AWp.cond true (by simp [he]) (fun _ => ?_) (fun he => by cases he)
      refine AWp.seq ?_
      refine AWp.reg [false, true, true, true] F16r6 [] (by kernel_rfl) (by rw [hC]; rfl) fun K hK => ?_
      simp [F16r6]
      first | refine hK _ ?_ | refine ⟨by omega, hK _ ?_⟩ | refine ⟨by omega, by omega, hK _ ?_⟩ | refine ⟨by omega, by omega, by omega, hK _ ?_⟩ | refine ⟨by omega, by omega, by omega, by omega, hK _ ?_⟩
      repeat refine AWp.seq ?_
      refine AWp.ret ⟨.inr rfl, _, by simp [Try.results16] <;> rfl, ?_⟩
      have : checkE m = (pl, pc, e) := by unfold checkE; rw [hi2, hd, hcr]
      rw [this]
      exact .closed rfl
  have hge : ¬ i < m.rules.length := by simpa using hge
  have hR : m.rules.findSome? chkRule = none := by rw [hi2, List.drop_eq_nil_of_le (by omega)]; rfl
  clear hi2
  refine AWp.exit ?_
  refine AWp.seq ?_
  refine AWp.seq ?_
  refine AWp.reg [] F16r10 [] (by kernel_rfl) (by rw [hC]; rfl) fun K hK => ?_
  simp [F16r10, stC1, modC]
  first | refine hK _ ?_ | refine ⟨by omega, hK _ ?_⟩ | refine ⟨by omega, by omega, hK _ ?_⟩ | refine ⟨by omega, by omega, by omega, hK _ ?_⟩ | refine ⟨by omega, by omega, by omega, by omega, hK _ ?_⟩
  refine AWp.block ?_
  refine AWp.loopG (stC2 m) (fun i => i ≤ m.nevers.length ∧ m.nevers.findSome? chkNev = (m.nevers.drop i).findSome? chkNev) (fun i => m.nevers.length - i) 0 (by simp) (by simp [stC2, modC]) (fun i hi => ?_)
  obtain ⟨hi1, hi2⟩ := hi
  refine AWp.seq ?_
  refine AWp.reg [] F16r11 [] (by kernel_rfl) (by rw [hC]; rfl) fun K hK => ?_
  simp [F16r11, stC2]
  first | refine hK _ ?_ | refine ⟨by omega, hK _ ?_⟩ | refine ⟨by omega, by omega, hK _ ?_⟩ | refine ⟨by omega, by omega, by omega, hK _ ?_⟩ | refine ⟨by omega, by omega, by omega, by omega, hK _ ?_⟩
  refine AWp.seq ?_
  refine AWp.cond (decide (i < m.nevers.length)) (by simp) (fun hlt => ?_) (fun hge2 => ?_)
  · skip
    have hlt : i < m.nevers.length := by simpa using hlt
    have hd := find_drop chkNev m.nevers i hlt
    have hget := List.getElem_mem hlt
    obtain ⟨r, hr⟩ : ∃ r, m.nevers[i] = r := ⟨_, rfl⟩
    rw [hr] at hd hget
    have ho := Order_ok r.body (hm.nwt r hget)
    have hch : chkNev r = if (orderE r.body).2.2.2.2 ≠ 0 then some (orderE r.body).2.2 else none := rfl
    obtain ⟨⟨row, names, pl, pc, e⟩, hoe⟩ : ∃ p, orderE r.body = p := ⟨_, rfl⟩
    rw [hoe] at ho hch
    simp only at hch
    refine AWp.skip ?_
    refine AWp.seq ?_
    refine AWp.block ?_
    refine AWp.seq ?_
    refine AWp.reg [false, false, false, true] F16r12 [] (by kernel_rfl) (by rw [hC]; rfl) fun K hK => ?_
    simp [F16r12, hlt, hr, encN]
    first | refine hK _ ?_ | refine ⟨by omega, hK _ ?_⟩ | refine ⟨by omega, by omega, hK _ ?_⟩ | refine ⟨by omega, by omega, by omega, hK _ ?_⟩ | refine ⟨by omega, by omega, by omega, by omega, hK _ ?_⟩
    refine AWp.seq ?_
    refine AWp.reg [false, false, false, false, false, false, false, false, false, true, true, true, true] F16r13 [{ r := encO (row, names, pl, pc, e) }] (by kernel_rfl) (by rw [hC]; rfl) fun K hK => ?_
    simp [F16r13, encO, encN]
    refine ⟨callOK rfl ho, hK _ ?_⟩
    by_cases he : e = 0
    · subst he
      rw [if_neg (by simp)] at hch
      refine AWp.seq ?_
      refine AWp.reg [] F16r14 [] (by kernel_rfl) (by rw [hC]; rfl) fun K hK => ?_
      simp [F16r14]
      first | refine hK _ ?_ | refine ⟨by omega, hK _ ?_⟩ | refine ⟨by omega, by omega, hK _ ?_⟩ | refine ⟨by omega, by omega, by omega, hK _ ?_⟩ | refine ⟨by omega, by omega, by omega, by omega, hK _ ?_⟩
      refine AWp.cond false (by simp) (fun he => by cases he) (fun _ => ?_)
      refine AWp.skip ?_
      refine AWp.reg [] F16r16 [] (by kernel_rfl) (by rw [hC]; rfl) fun K hK => ?_
      simp [F16r16]
      first | refine hK _ ?_ | refine ⟨by omega, hK _ ?_⟩ | refine ⟨by omega, by omega, hK _ ?_⟩ | refine ⟨by omega, by omega, by omega, hK _ ?_⟩ | refine ⟨by omega, by omega, by omega, by omega, hK _ ?_⟩
      refine ⟨i + 1, ⟨by omega, by rw [hi2, hd, hch]⟩, by omega, ?_⟩
      simp [stC2, modC, wrap_nat i (by omega)]
    · have hcr : chkNev r = some (pl, pc, e) := by rw [hch, if_pos he]
      refine AWp.seq ?_
      refine AWp.reg [] F16r14 [] (by kernel_rfl) (by rw [hC]; rfl) fun K hK => ?_
      simp [F16r14, he]
      first | refine hK _ ?_ | refine ⟨by omega, hK _ ?_⟩ | refine ⟨by omega, by omega, hK _ ?_⟩ | refine ⟨by omega, by omega, by omega, hK _ ?_⟩ | refine ⟨by omega, by omega, by omega, by omega, hK _ ?_⟩
      refine AWp.cond true (by simp [he]) (fun _ => ?_) (fun he => by cases he)
      refine AWp.seq ?_
      refine AWp.reg [false, true, true, true] F16r15 [] (by kernel_rfl) (by rw [hC]; rfl) fun K hK => ?_
      simp [F16r15]
      first | refine hK _ ?_ | refine ⟨by omega, hK _ ?_⟩ | refine ⟨by omega, by omega, hK _ ?_⟩ | refine ⟨by omega, by omega, by omega, hK _ ?_⟩ | refine ⟨by omega, by omega, by omega, by omega, hK _ ?_⟩
      repeat refine AWp.seq ?_
      refine AWp.ret ⟨.inr rfl, _, by simp [Try.results16] <;> rfl, ?_⟩
      have : checkE m = (pl, pc, e) := by unfold checkE; rw [hR, hi2, hd, hcr]
      rw [this]
      exact .closed rfl
  have hge2 : ¬ i < m.nevers.length := by simpa using hge2
  have hN : m.nevers.findSome? chkNev = none := by rw [hi2, List.drop_eq_nil_of_le (by omega)]; rfl
  clear hi2
  refine AWp.exit ?_
  have hro := Rounds_ok m hml hm.body
  refine AWp.seq ?_
  refine AWp.seq ?_
  refine AWp.reg [] F16r17 [{ r := .rd 1 (bools (roundsE m.rules)) }] (by kernel_rfl) (by rw [hC]; rfl) fun K hK => ?_
  simp [F16r17, stC2, modC]
  refine ⟨callOK rfl hro, hK _ ?_⟩
  refine AWp.block ?_
  refine AWp.loopG (stC3 m) (fun i => i ≤ m.rules.length ∧ m.rules.findSome? (chkGrow m.rules) = (m.rules.drop i).findSome? (chkGrow m.rules)) (fun i => m.rules.length - i) 0 (by simp) (by simp [stC3, modC]) (fun i hi => ?_)
  obtain ⟨hi1, hi2⟩ := hi
  refine AWp.seq ?_
  refine AWp.reg [] F16r18 [] (by kernel_rfl) (by rw [hC]; rfl) fun K hK => ?_
  simp [F16r18, stC3]
  first | refine hK _ ?_ | refine ⟨by omega, hK _ ?_⟩ | refine ⟨by omega, by omega, hK _ ?_⟩ | refine ⟨by omega, by omega, by omega, hK _ ?_⟩ | refine ⟨by omega, by omega, by omega, by omega, hK _ ?_⟩
  refine AWp.seq ?_
  refine AWp.cond (decide (i < m.rules.length)) (by simp) (fun hlt => ?_) (fun hge3 => ?_)
  · skip
    have hlt : i < m.rules.length := by simpa using hlt
    have hd := find_drop (chkGrow m.rules) m.rules i hlt
    have hre : (roundsE m.rules)[i]'(by simpa using hlt) = m.rules[i].body.any (backL m.rules m.rules[i]) := by simp [roundsE]
    have hget := List.getElem_mem hlt
    obtain ⟨r, hr⟩ : ∃ r, m.rules[i] = r := ⟨_, rfl⟩
    rw [hr] at hd hget hre
    have hch : chkGrow m.rules r = if r.body.any (backL m.rules r) then growFrom r r.args 0 else none := rfl
    have hargs := hm.args r hget
    have hal := length_le_sizes r.args
    have hwt := hm.wt r hget
    have hbl := hm.body r hget
    generalize r.body.any (backL m.rules r) = b at *
    refine AWp.skip ?_
    refine AWp.seq ?_
    refine AWp.block ?_
    refine AWp.seq ?_
    refine AWp.reg [true, false, false, true, true] F16r19 [] (by kernel_rfl) (by rw [hC]; rfl) fun K hK => ?_
    simp [F16r19, hlt, hr, encR, modC, hre]
    first | refine hK _ ?_ | refine ⟨by omega, hK _ ?_⟩ | refine ⟨by omega, by omega, hK _ ?_⟩ | refine ⟨by omega, by omega, by omega, hK _ ?_⟩ | refine ⟨by omega, by omega, by omega, by omega, hK _ ?_⟩
    refine AWp.seq ?_
    refine AWp.reg [] F16r20 [] (by kernel_rfl) (by rw [hC]; rfl) fun K hK => ?_
    simp [F16r20, hlt, hr, encR, modC, hre]
    first | refine hK _ ?_ | refine ⟨by omega, hK _ ?_⟩ | refine ⟨by omega, by omega, hK _ ?_⟩ | refine ⟨by omega, by omega, by omega, hK _ ?_⟩ | refine ⟨by omega, by omega, by omega, by omega, hK _ ?_⟩
    refine AWp.block ?_
    refine AWp.loopG (stC4 m i b r) (fun k => k ≤ r.args.length ∧ (b = true → growFrom r r.args 0 = growFrom r (r.args.drop k) k)) (fun k => r.args.length - k) 0 (by simp) (by simp [stC4, stC3, modC]) (fun k hk => ?_)
    obtain ⟨hk1, hk2⟩ := hk
    refine AWp.seq ?_
    refine AWp.reg [] F16r21 [] (by kernel_rfl) (by rw [hC]; rfl) fun K hK => ?_
    simp [F16r21, stC4, stC3]
    first | refine hK _ ?_ | refine ⟨by omega, hK _ ?_⟩ | refine ⟨by omega, by omega, hK _ ?_⟩ | refine ⟨by omega, by omega, by omega, hK _ ?_⟩ | refine ⟨by omega, by omega, by omega, by omega, hK _ ?_⟩
    refine AWp.seq ?_
    refine AWp.cond (decide (k < r.args.length)) (by simp) (fun hltk => ?_) (fun hgek => ?_)
    · skip
      have hltk : k < r.args.length := by simpa using hltk
      refine AWp.skip ?_
      refine AWp.seq ?_
      refine AWp.block ?_
      refine AWp.seq ?_
      refine AWp.reg [true, true] F16r22 [] (by kernel_rfl) (by rw [hC]; rfl) fun K hK => ?_
      simp [F16r22]
      first | refine hK _ ?_ | refine ⟨by omega, hK _ ?_⟩ | refine ⟨by omega, by omega, hK _ ?_⟩ | refine ⟨by omega, by omega, by omega, hK _ ?_⟩ | refine ⟨by omega, by omega, by omega, by omega, hK _ ?_⟩
      refine AWp.seq ?_
      cases b with
      | false =>
        refine AWp.reg [] F16r23 [{}] (by kernel_rfl) (by rw [hC]; rfl) fun K hK => ?_
        simp [F16r23]
        refine hK _ ?_
        refine AWp.cond false (by simp) (fun he => by cases he) (fun _ => ?_)
        refine AWp.skip ?_
        refine AWp.reg [] F16r25 [] (by kernel_rfl) (by rw [hC]; rfl) fun K hK => ?_
        simp [F16r25]
        first | refine hK _ ?_ | refine ⟨by omega, hK _ ?_⟩ | refine ⟨by omega, by omega, hK _ ?_⟩ | refine ⟨by omega, by omega, by omega, hK _ ?_⟩ | refine ⟨by omega, by omega, by omega, by omega, hK _ ?_⟩
        refine ⟨k + 1, ⟨by omega, by simp⟩, by omega, ?_⟩
        simp [stC4, stC3, modC, wrap_nat k (by omega)]
      | true =>
        have hgd := grow_drop r r.args k hltk
        obtain ⟨a, ha⟩ : ∃ a, r.args[k] = a := ⟨_, rfl⟩
        rw [ha] at hgd
        have hold := old_ok r k a (by rw [List.getElem?_eq_getElem hltk, ha]) hwt (by omega)
        cases ho : oldE r k a with
        | true =>
          rw [ho] at hold hgd
          refine AWp.reg [] F16r23 [{ r := bval true }] (by kernel_rfl) (by rw [hC]; rfl) fun K hK => ?_
          simp [F16r23, hlt, hr, encR, modC]
          refine ⟨callOK rfl hold, hK _ ?_⟩
          refine AWp.cond false (by simp) (fun he => by cases he) (fun _ => ?_)
          refine AWp.skip ?_
          refine AWp.reg [] F16r25 [] (by kernel_rfl) (by rw [hC]; rfl) fun K hK => ?_
          simp [F16r25]
          first | refine hK _ ?_ | refine ⟨by omega, hK _ ?_⟩ | refine ⟨by omega, by omega, hK _ ?_⟩ | refine ⟨by omega, by omega, by omega, hK _ ?_⟩ | refine ⟨by omega, by omega, by omega, by omega, hK _ ?_⟩
          refine ⟨k + 1, ⟨by omega, fun _ => by rw [hk2 rfl, hgd]; rfl⟩, by omega, ?_⟩
          simp [stC4, stC3, modC, wrap_nat k (by omega)]
        | false =>
          rw [ho] at hold hgd
          refine AWp.reg [] F16r23 [{ r := bval false }] (by kernel_rfl) (by rw [hC]; rfl) fun K hK => ?_
          simp [F16r23, hlt, hr, encR, modC]
          refine ⟨callOK rfl hold, hK _ ?_⟩
          refine AWp.cond true (by simp) (fun _ => ?_) (fun he => by cases he)
          refine AWp.seq ?_
          refine AWp.reg [false, false, false, false, false, false, false, false, false, false, true, true] F16r24 [] (by kernel_rfl) (by rw [hC]; rfl) fun K hK => ?_
          simp [F16r24, hlt, hr, encR, modC, hltk, ha, encE_eq]
          first | refine hK _ ?_ | refine ⟨by omega, hK _ ?_⟩ | refine ⟨by omega, by omega, hK _ ?_⟩ | refine ⟨by omega, by omega, by omega, hK _ ?_⟩ | refine ⟨by omega, by omega, by omega, by omega, hK _ ?_⟩
          repeat refine AWp.seq ?_
          refine AWp.ret ⟨.inr rfl, _, by simp [Try.results16] <;> rfl, ?_⟩
          have : checkE m = (a.line, a.col, 72) := by unfold checkE; rw [hR, hN, hi2, hd, hch, if_pos rfl, hk2 rfl, hgd]; rfl
          rw [this]
          exact .closed rfl
    have hgek : ¬ k < r.args.length := by simpa using hgek
    refine AWp.exit ?_
    refine AWp.reg [] F16r26 [] (by kernel_rfl) (by rw [hC]; rfl) fun K hK => ?_
    simp [F16r26]
    first | refine hK _ ?_ | refine ⟨by omega, hK _ ?_⟩ | refine ⟨by omega, by omega, hK _ ?_⟩ | refine ⟨by omega, by omega, by omega, hK _ ?_⟩ | refine ⟨by omega, by omega, by omega, by omega, hK _ ?_⟩
    refine ⟨i + 1, ⟨by omega, ?_⟩, by omega, ?_⟩
    · rw [hi2, hd, hch]
      cases b with
      | false => rfl
      | true => rw [if_pos rfl, hk2 rfl, List.drop_eq_nil_of_le (by omega)]; rfl
    · simp [stC3, modC, wrap_nat i (by omega)]
  have hge3 : ¬ i < m.rules.length := by simpa using hge3
  have hG : m.rules.findSome? (chkGrow m.rules) = none := by rw [hi2, List.drop_eq_nil_of_le (by omega)]; rfl
  refine AWp.exit ?_
  refine AWp.seq ?_
  refine AWp.reg [false, true, true] F16r27 [] (by kernel_rfl) (by rw [hC]; rfl) fun K hK => ?_
  simp [F16r27]
  first | refine hK _ ?_ | refine ⟨by omega, hK _ ?_⟩ | refine ⟨by omega, by omega, hK _ ?_⟩ | refine ⟨by omega, by omega, by omega, hK _ ?_⟩ | refine ⟨by omega, by omega, by omega, by omega, hK _ ?_⟩
  repeat refine AWp.seq ?_
  refine AWp.ret ⟨.inr rfl, _, by simp [Try.results16] <;> rfl, ?_⟩
  have : checkE m = (0, 0, 0) := by unfold checkE; rw [hR, hN, hG]
  rw [this]
  exact .closed rfl
end Go.Sl
