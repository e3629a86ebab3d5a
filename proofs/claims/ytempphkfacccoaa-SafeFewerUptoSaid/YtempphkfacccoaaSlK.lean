/- SafeFewer: a program that is taken is taken without any of its rules, and of its nevers. -/
import Derived.Test.YtempphkfacccoaaSlJ
set_option linter.unusedSimpArgs false
set_option linter.unusedVariables false
open Go Go.Aw Go.Proofs
namespace Go.Sl
-- function 17: corollary/corollarylaw14.large: 58 slots; results ['(Go.ResultVar.tmp 2)']
def F17r0 : List ROp := [{ dst := some 1, op := .box 52 (.tmp 0), after := [], guard := none },
  { dst := some 2, op := .copy true (.const (.bool false)), after := [], guard := none }]
def F17r1 : List ROp := [{ dst := some 3, op := .copy true (.const (.int .i64 0)), after := [], guard := none }]
def F17r2 : List ROp := [{ dst := some 4, op := .copy true (.const (.int .i64 0)), after := [], guard := none }]
def F17r3 : List ROp := [{ dst := some 6, op := .copy false (.tmp 4), after := [], guard := none },
  { dst := some 7, op := .fad 4 (.tmp 1), after := [], guard := none },
  { dst := some 8, op := .load 1 false false (.tmp 7), after := [1], guard := none },
  { dst := some 9, op := .len 0 (.tmp 8), after := [2], guard := none },
  { dst := some 10, op := .bin .lss (.tmp 6) (.tmp 9), after := [0, 3], guard := none },
  { dst := some 11, op := .copy false (.tmp 10), after := [4], guard := none },
  { dst := some 12, op := .copy false (.tmp 3), after := [5], guard := some (11, true) },
  { dst := some 13, op := .bin .lss (.tmp 12) (.const (.int .i64 60)), after := [6, 5], guard := some (11, true) },
  { dst := some 14, op := .pick (.tmp 11) (.tmp 13) (.const (.bool false)), after := [5, 7], guard := none }]
def F17r4 : List ROp := [{ dst := some 15, op := .copy false (.tmp 4), after := [], guard := none },
  { dst := some 16, op := .bin .add (.tmp 15) (.const (.int .i64 1)), after := [0], guard := none },
  { dst := some 4, op := .copy true (.tmp 16), after := [1, 0, 1], guard := none }]
def F17r5 : List ROp := [{ dst := some 17, op := .copy false (.tmp 3), after := [], guard := none },
  { dst := some 18, op := .bin .add (.tmp 17) (.const (.int .i64 1)), after := [0], guard := none },
  { dst := some 3, op := .copy true (.tmp 18), after := [1, 0, 1], guard := none }]
def F17r6 : List ROp := [{ dst := some 19, op := .fad 4 (.tmp 1), after := [], guard := none },
  { dst := some 20, op := .load 1 false false (.tmp 19), after := [0], guard := none },
  { dst := some 21, op := .copy false (.tmp 4), after := [], guard := none },
  { dst := some 22, op := .iad 6 (.tmp 20) (.tmp 21), after := [1, 2], guard := none },
  { dst := some 23, op := .fad 5 (.tmp 22), after := [3], guard := none },
  { dst := some 24, op := .load 1 false false (.tmp 23), after := [4], guard := none },
  { dst := some 25, op := .call (.func 8) [.tmp 24], after := [5], guard := none },
  { dst := some 26, op := .copy false (.tmp 25), after := [6, 6], guard := none },
  { dst := some 27, op := .fad 4 (.tmp 1), after := [7], guard := some (26, false) },
  { dst := some 28, op := .load 1 false false (.tmp 27), after := [8, 7], guard := some (26, false) },
  { dst := some 29, op := .copy false (.tmp 4), after := [7], guard := some (26, false) },
  { dst := some 30, op := .iad 6 (.tmp 28) (.tmp 29), after := [9, 10, 7], guard := some (26, false) },
  { dst := some 31, op := .fad 3 (.tmp 30), after := [11, 7], guard := some (26, false) },
  { dst := some 32, op := .load 1 false false (.tmp 31), after := [12, 7], guard := some (26, false) },
  { dst := some 33, op := .call (.func 28) [.tmp 32, .const (.int .i64 100)], after := [13, 7, 7], guard := some (26, false) },
  { dst := some 34, op := .bin .geq (.tmp 33) (.const (.int .i64 100)), after := [14, 7], guard := some (26, false) },
  { dst := some 35, op := .pick (.tmp 26) (.const (.bool true)) (.tmp 34), after := [7, 15], guard := none }]
def F17r7 : List ROp := [{ dst := some 2, op := .copy true (.const (.bool true)), after := [], guard := none }]
def F17r8 : List ROp := [{ dst := some 5, op := .copy true (.const (.int .i64 0)), after := [], guard := none }]
def F17r9 : List ROp := [{ dst := some 36, op := .copy false (.tmp 5), after := [], guard := none },
  { dst := some 37, op := .fad 5 (.tmp 1), after := [], guard := none },
  { dst := some 38, op := .load 1 false false (.tmp 37), after := [1], guard := none },
  { dst := some 39, op := .len 0 (.tmp 38), after := [2], guard := none },
  { dst := some 40, op := .bin .lss (.tmp 36) (.tmp 39), after := [0, 3], guard := none },
  { dst := some 41, op := .copy false (.tmp 40), after := [4], guard := none },
  { dst := some 42, op := .copy false (.tmp 3), after := [5], guard := some (41, true) },
  { dst := some 43, op := .bin .lss (.tmp 42) (.const (.int .i64 60)), after := [6, 5], guard := some (41, true) },
  { dst := some 44, op := .pick (.tmp 41) (.tmp 43) (.const (.bool false)), after := [5, 7], guard := none }]
def F17r10 : List ROp := [{ dst := some 45, op := .copy false (.tmp 5), after := [], guard := none },
  { dst := some 46, op := .bin .add (.tmp 45) (.const (.int .i64 1)), after := [0], guard := none },
  { dst := some 5, op := .copy true (.tmp 46), after := [1, 0, 1], guard := none }]
def F17r11 : List ROp := [{ dst := some 47, op := .copy false (.tmp 3), after := [], guard := none },
  { dst := some 48, op := .bin .add (.tmp 47) (.const (.int .i64 1)), after := [0], guard := none },
  { dst := some 3, op := .copy true (.tmp 48), after := [1, 0, 1], guard := none }]
def F17r12 : List ROp := [{ dst := some 49, op := .fad 5 (.tmp 1), after := [], guard := none },
  { dst := some 50, op := .load 1 false false (.tmp 49), after := [0], guard := none },
  { dst := some 51, op := .copy false (.tmp 5), after := [], guard := none },
  { dst := some 52, op := .iad 4 (.tmp 50) (.tmp 51), after := [1, 2], guard := none },
  { dst := some 53, op := .fad 3 (.tmp 52), after := [3], guard := none },
  { dst := some 54, op := .load 1 false false (.tmp 53), after := [4], guard := none },
  { dst := some 55, op := .call (.func 8) [.tmp 54], after := [5], guard := none }]
def F17r13 : List ROp := [{ dst := some 2, op := .copy true (.const (.bool true)), after := [], guard := none }]
def F17r14 : List ROp := [{ dst := some 56, op := .copy false (.tmp 3), after := [], guard := none },
  { dst := some 57, op := .bin .geq (.tmp 56) (.const (.int .i64 60)), after := [0], guard := none },
  { dst := some 2, op := .copy true (.tmp 57), after := [1, 0, 1], guard := none }]
-- function 5: corollary/corollarylaw14.SafeFewer: 83 slots; results ['(Go.ResultVar.tmp 4)']
def F5r0 : List ROp := [{ dst := some 2, op := .box 52 (.tmp 0), after := [], guard := none },
  { dst := some 4, op := .copy true (.const (.bool false)), after := [], guard := none }]
def F5r1 : List ROp := [{ dst := some 9, op := .load 6 true false (.tmp 2), after := [], guard := none },
  { dst := some 10, op := .call (.func 17) [.tmp 9], after := [0], guard := none },
  { dst := some 11, op := .copy false (.tmp 10), after := [1, 1], guard := none },
  { dst := some 12, op := .call (.func 9) [], after := [2, 2], guard := some (11, false) },
  { dst := some 13, op := .un .not (.tmp 12), after := [3, 2], guard := some (11, false) },
  { dst := some 14, op := .pick (.tmp 11) (.const (.bool true)) (.tmp 13), after := [2, 4], guard := none }]
def F5r2 : List ROp := [{ dst := some 15, op := .call (.func 9) [], after := [], guard := none },
  { dst := some 4, op := .copy true (.tmp 15), after := [0, 0, 0], guard := none }]
def F5r3 : List ROp := [{ dst := some 17, op := .load 6 true false (.tmp 2), after := [], guard := none },
  { dst := some 18, op := .call (.func 16) [.tmp 17], after := [0], guard := none },
  { dst := some 16, op := .copy false (.tmp 18), after := [1], guard := none },
  { dst := some 19, op := .ext (.tmp 16) 0, after := [2], guard := none },
  { dst := some 20, op := .ext (.tmp 16) 1, after := [2], guard := none },
  { dst := some 5, op := .alloc 28 [Value.int .i64 0, Value.int .i64 0], after := [], guard := none },
  { dst := none, op := .store 2 true (.tmp 5) (.tmp 19), after := [5, 3, 1, 0, 1, 2, 3, 5], guard := none },
  { dst := some 6, op := .copy true (.tmp 20), after := [4, 6, 0, 1, 2, 3, 4, 5, 6], guard := none }]
def F5r4 : List ROp := [{ dst := some 21, op := .fad 4 (.tmp 2), after := [], guard := none },
  { dst := some 22, op := .load 1 false false (.tmp 21), after := [0], guard := none },
  { dst := some 23, op := .len 0 (.tmp 22), after := [1], guard := none },
  { dst := some 24, op := .fad 5 (.tmp 2), after := [], guard := none },
  { dst := some 25, op := .load 1 false false (.tmp 24), after := [3], guard := none },
  { dst := some 26, op := .len 0 (.tmp 25), after := [4], guard := none },
  { dst := some 27, op := .bin .add (.tmp 23) (.tmp 26), after := [2, 5], guard := none },
  { dst := some 7, op := .copy true (.tmp 27), after := [6, 0, 1, 2, 3, 4, 5, 6], guard := none }]
def F5r5 : List ROp := [{ dst := some 28, op := .copy false (.tmp 6), after := [], guard := none },
  { dst := some 29, op := .bin .neq (.tmp 28) (.const (.int .i64 0)), after := [0], guard := none },
  { dst := some 30, op := .copy false (.tmp 29), after := [1], guard := none },
  { dst := some 31, op := .copy false (.tmp 7), after := [2], guard := some (30, false) },
  { dst := some 32, op := .bin .eql (.tmp 31) (.const (.int .i64 0)), after := [3, 2], guard := some (30, false) },
  { dst := some 33, op := .pick (.tmp 30) (.const (.bool true)) (.tmp 32), after := [2, 4], guard := none }]
def F5r6 : List ROp := [{ dst := some 4, op := .copy true (.const (.bool true)), after := [], guard := none }]
def F5r7 : List ROp := [{ dst := some 34, op := .copy false (.tmp 1), after := [], guard := none },
  { dst := some 35, op := .conv .u64 (.tmp 34), after := [0], guard := none },
  { dst := some 36, op := .copy false (.tmp 7), after := [], guard := none },
  { dst := some 37, op := .conv .u64 (.tmp 36), after := [2], guard := none },
  { dst := some 38, op := .bin .rem (.tmp 35) (.tmp 37), after := [1, 3], guard := none },
  { dst := some 39, op := .conv .i64 (.tmp 38), after := [4], guard := none },
  { dst := some 8, op := .copy true (.tmp 39), after := [5, 0, 1, 2, 3, 4, 5], guard := none }]
def F5r8 : List ROp := [{ dst := some 40, op := .copy false (.tmp 8), after := [], guard := none },
  { dst := some 41, op := .fad 4 (.tmp 2), after := [], guard := none },
  { dst := some 42, op := .load 1 false false (.tmp 41), after := [1], guard := none },
  { dst := some 43, op := .len 0 (.tmp 42), after := [2], guard := none },
  { dst := some 44, op := .bin .lss (.tmp 40) (.tmp 43), after := [0, 3], guard := none }]
def F5r9 : List ROp := [{ dst := some 45, op := .bslice 54 6 [Value.int .i64 0, Value.int .i64 0, Value.string ByteArray.empty, Value.slice none 0 0, Value.slice none 0 0, Value.slice none 0 0] 0 [], after := [], guard := none },
  { dst := some 46, op := .fad 4 (.tmp 2), after := [], guard := none },
  { dst := some 47, op := .load 1 false false (.tmp 46), after := [1], guard := none },
  { dst := some 48, op := .copy false (.tmp 8), after := [], guard := none },
  { dst := some 49, op := .sub 6 (.tmp 47) none (some (.tmp 48)) none, after := [2, 3], guard := none },
  { dst := some 50, op := .app 54 6 104 (.tmp 45) (.tmp 49), after := [0, 4], guard := none },
  { dst := some 51, op := .fad 4 (.tmp 2), after := [], guard := none },
  { dst := some 52, op := .load 1 false false (.tmp 51), after := [6], guard := none },
  { dst := some 53, op := .copy false (.tmp 8), after := [], guard := none },
  { dst := some 54, op := .bin .add (.tmp 53) (.const (.int .i64 1)), after := [8], guard := none },
  { dst := some 55, op := .sub 6 (.tmp 52) (some (.tmp 54)) none none, after := [7, 9], guard := none },
  { dst := some 56, op := .app 54 6 104 (.tmp 50) (.tmp 55), after := [5, 10, 5], guard := none },
  { dst := some 57, op := .fad 4 (.tmp 2), after := [0, 1, 2, 3, 4, 5, 6, 7, 8, 9, 10, 11], guard := none },
  { dst := none, op := .store 1 true (.tmp 57) (.tmp 56), after := [12, 11, 11, 0, 1, 2, 3, 4, 5, 6, 7, 8, 9, 10, 11], guard := none }]
def F5r10 : List ROp := [{ dst := some 58, op := .copy false (.tmp 8), after := [], guard := none },
  { dst := some 59, op := .fad 4 (.tmp 2), after := [], guard := none },
  { dst := some 60, op := .load 1 false false (.tmp 59), after := [1], guard := none },
  { dst := some 61, op := .len 0 (.tmp 60), after := [2], guard := none },
  { dst := some 62, op := .bin .sub (.tmp 58) (.tmp 61), after := [0, 3], guard := none },
  { dst := some 8, op := .copy true (.tmp 62), after := [4, 0, 1, 2, 3, 4], guard := none }]
def F5r11 : List ROp := [{ dst := some 63, op := .bslice 58 4 [Value.int .i64 0, Value.int .i64 0, Value.string ByteArray.empty, Value.slice none 0 0] 0 [], after := [], guard := none },
  { dst := some 64, op := .fad 5 (.tmp 2), after := [], guard := none },
  { dst := some 65, op := .load 1 false false (.tmp 64), after := [1], guard := none },
  { dst := some 66, op := .copy false (.tmp 8), after := [], guard := none },
  { dst := some 67, op := .sub 4 (.tmp 65) none (some (.tmp 66)) none, after := [2, 3], guard := none },
  { dst := some 68, op := .app 58 4 56 (.tmp 63) (.tmp 67), after := [0, 4], guard := none },
  { dst := some 69, op := .fad 5 (.tmp 2), after := [], guard := none },
  { dst := some 70, op := .load 1 false false (.tmp 69), after := [6], guard := none },
  { dst := some 71, op := .copy false (.tmp 8), after := [], guard := none },
  { dst := some 72, op := .bin .add (.tmp 71) (.const (.int .i64 1)), after := [8], guard := none },
  { dst := some 73, op := .sub 4 (.tmp 70) (some (.tmp 72)) none none, after := [7, 9], guard := none },
  { dst := some 74, op := .app 58 4 56 (.tmp 68) (.tmp 73), after := [5, 10, 5], guard := none },
  { dst := some 75, op := .fad 5 (.tmp 2), after := [0, 1, 2, 3, 4, 5, 6, 7, 8, 9, 10, 11], guard := none },
  { dst := none, op := .store 1 true (.tmp 75) (.tmp 74), after := [12, 11, 11, 0, 1, 2, 3, 4, 5, 6, 7, 8, 9, 10, 11], guard := none }]
def F5r12 : List ROp := [{ dst := some 77, op := .load 6 true false (.tmp 2), after := [], guard := none },
  { dst := some 78, op := .call (.func 16) [.tmp 77], after := [0], guard := none },
  { dst := some 76, op := .copy false (.tmp 78), after := [1], guard := none },
  { dst := some 79, op := .ext (.tmp 76) 0, after := [2], guard := none },
  { dst := some 80, op := .ext (.tmp 76) 1, after := [2], guard := none },
  { dst := some 6, op := .copy true (.tmp 80), after := [4, 1, 0, 1, 2, 3, 4], guard := none }]
def F5r13 : List ROp := [{ dst := some 81, op := .copy false (.tmp 6), after := [], guard := none },
  { dst := some 82, op := .bin .eql (.tmp 81) (.const (.int .i64 0)), after := [0], guard := none },
  { dst := some 4, op := .copy true (.tmp 82), after := [1, 0, 1], guard := none }]
structure ModLit (m : ModD) : Prop where
  rules : m.rules.length ≤ 4194304
  nevers : m.nevers.length ≤ 4194304
  body : ∀ r ∈ m.rules, r.body.length ≤ 4194304 ∧ (∀ x ∈ r.body, sizes x.args ≤ 4194304) ∧ sizes r.args ≤ 4194304
  nbody : ∀ n ∈ m.nevers, n.body.length ≤ 4194304 ∧ ∀ x ∈ n.body, sizes x.args ≤ 4194304
def stL1 (m : ModD) (p : Nat × Nat) : AS := { tm := [(1, .ptr 1 0), (3, ival p.2), (4, ival p.1)], hp := [(1, .cells 52 (modC m))] }
def stL2 (m : ModD) (p : Nat × Nat) : AS := { tm := [(1, .ptr 1 0), (3, ival p.2), (5, ival p.1)], hp := [(1, .cells 52 (modC m))] }
theorem large_ok (m : ModD) (hm : ModLit m) : Con Try.prog 17 [encM m] (bval (largeE m)) := by
  have hml := hm.rules
  have hnl := hm.nevers
  refine Con.of_code Try.func17 (by kernel_rfl) rfl (by simp [Try.ntmps17]) fun C hC hM => ?_
  refine AWp.seq ?_
  refine AWp.reg [false, true] F17r0 [] (by kernel_rfl) (by rw [hC]; rfl) fun K hK => ?_
  simp [F17r0, encM, modC]
  first | refine hK _ ?_ | refine ⟨by omega, hK _ ?_⟩ | refine ⟨by omega, by omega, hK _ ?_⟩ | refine ⟨by omega, by omega, by omega, hK _ ?_⟩ | refine ⟨by omega, by omega, by omega, by omega, hK _ ?_⟩
  refine AWp.seq ?_
  refine AWp.reg [true] F17r1 [] (by kernel_rfl) (by rw [hC]; rfl) fun K hK => ?_
  simp [F17r1, encM, modC]
  first | refine hK _ ?_ | refine ⟨by omega, hK _ ?_⟩ | refine ⟨by omega, by omega, hK _ ?_⟩ | refine ⟨by omega, by omega, by omega, hK _ ?_⟩ | refine ⟨by omega, by omega, by omega, by omega, hK _ ?_⟩
  refine AWp.seq ?_
  refine AWp.seq ?_
  refine AWp.reg [true] F17r2 [] (by kernel_rfl) (by rw [hC]; rfl) fun K hK => ?_
  simp [F17r2, encM, modC]
  first | refine hK _ ?_ | refine ⟨by omega, hK _ ?_⟩ | refine ⟨by omega, by omega, hK _ ?_⟩ | refine ⟨by omega, by omega, by omega, hK _ ?_⟩ | refine ⟨by omega, by omega, by omega, by omega, hK _ ?_⟩
  refine AWp.block ?_
  refine AWp.loopG (stL1 m) (fun p => p.1 ≤ m.rules.length ∧ p.2 ≤ 60 ∧ lgR m.rules 0 = lgR (m.rules.drop p.1) p.2) (fun p => m.rules.length - p.1) (0, 0) (by simp) (by simp [stL1, modC]) (fun p hp => ?_)
  obtain ⟨i, n⟩ := p
  obtain ⟨hi, hn, hp⟩ := hp
  simp only at hi hn hp
  refine AWp.seq ?_
  refine AWp.seqJ (fun b : Bool => { stL1 m (i, n) with tm := (14, bval b) :: (stL1 m (i, n)).tm }) (fun b => (b = true → i < m.rules.length ∧ n < 60) ∧ (b = false → lgR m.rules 0 = some n)) ?_ (fun hJ => ?_)
  · skip
    rintro b ⟨hb1, hb2⟩
    cases b with
    | true =>
      obtain ⟨hlt, hn6⟩ := hb1 rfl
      have hd := lgR_drop m.rules i n hlt
      rw [if_pos hn6] at hd
      have hget := List.getElem_mem hlt
      obtain ⟨r, hr⟩ : ∃ r, m.rules[i] = r := ⟨_, rfl⟩
      rw [hr] at hd hget
      obtain ⟨hb1, hb2, hb3⟩ := hm.body r hget
      have hhv := heavy_ok r.body hb1 hb2
      have hex := exprs_ok _ r.args 100 (Nat.lt_succ_self _) (by omega)
      have hw := wrap_nat n (by omega)
      refine AWp.cond true (by simp [stL1]) (fun _ => ?_) (fun he => by cases he)
      refine AWp.skip ?_
      refine AWp.seq ?_
      refine AWp.block ?_
      refine AWp.seq ?_
      refine AWp.reg [false, false, true] F17r5 [] (by kernel_rfl) (by rw [hC]; rfl) fun K hK => ?_
      simp [F17r5, stL1]
      first | refine hK _ ?_ | refine ⟨by omega, hK _ ?_⟩ | refine ⟨by omega, by omega, hK _ ?_⟩ | refine ⟨by omega, by omega, by omega, hK _ ?_⟩ | refine ⟨by omega, by omega, by omega, by omega, hK _ ?_⟩
      refine AWp.seq ?_
      cases hh : heavyE r.body with
      | true =>
        rw [hh] at hhv hd
        refine AWp.reg [] F17r6 [{ r := bval true }] (by kernel_rfl) (by rw [hC]; rfl) fun K hK => ?_
        simp [F17r6, hlt, hr, encR, modC]
        refine ⟨callOK rfl hhv, hK _ ?_⟩
        refine AWp.cond true (by simp) (fun _ => ?_) (fun he => by cases he)
        refine AWp.seq ?_
        refine AWp.reg [true] F17r7 [] (by kernel_rfl) (by rw [hC]; rfl) fun K hK => ?_
        simp [F17r7]
        first | refine hK _ ?_ | refine ⟨by omega, hK _ ?_⟩ | refine ⟨by omega, by omega, hK _ ?_⟩ | refine ⟨by omega, by omega, by omega, hK _ ?_⟩ | refine ⟨by omega, by omega, by omega, by omega, hK _ ?_⟩
        repeat refine AWp.seq ?_
        refine AWp.ret ⟨.inr rfl, _, by simp [Try.results17] <;> rfl, ?_⟩
        have : largeE m = true := by unfold largeE; rw [hp, hd]; rfl
        rw [this]
        exact .closed rfl
      | false =>
        rw [hh] at hhv hd
        refine AWp.reg [] F17r6 [{ r := bval false }, { r := ival (exN r.args 100) }] (by kernel_rfl) (by rw [hC]; rfl) fun K hK => ?_
        simp [F17r6, hlt, hr, encR, modC]
        refine ⟨callOK rfl hhv, callOK rfl hex, hK _ ?_⟩
        by_cases h100 : 100 ≤ exN r.args 100
        · have h100' : (100 : Int) ≤ (exN r.args 100 : Int) := by omega
          refine AWp.cond true (by simp [h100']) (fun _ => ?_) (fun he => by cases he)
          refine AWp.seq ?_
          refine AWp.reg [true] F17r7 [] (by kernel_rfl) (by rw [hC]; rfl) fun K hK => ?_
          simp [F17r7]
          first | refine hK _ ?_ | refine ⟨by omega, hK _ ?_⟩ | refine ⟨by omega, by omega, hK _ ?_⟩ | refine ⟨by omega, by omega, by omega, hK _ ?_⟩ | refine ⟨by omega, by omega, by omega, by omega, hK _ ?_⟩
          repeat refine AWp.seq ?_
          refine AWp.ret ⟨.inr rfl, _, by simp [Try.results17] <;> rfl, ?_⟩
          have : largeE m = true := by unfold largeE; rw [hp, hd, decide_eq_true h100]; rfl
          rw [this]
          exact .closed rfl
        · have h100' : (exN r.args 100 : Int) < 100 := by omega
          refine AWp.cond false (by simp [h100']) (fun he => by cases he) (fun _ => ?_)
          refine AWp.skip ?_
          refine AWp.reg [false, false, true] F17r4 [] (by kernel_rfl) (by rw [hC]; rfl) fun K hK => ?_
          simp [F17r4]
          first | refine hK _ ?_ | refine ⟨by omega, hK _ ?_⟩ | refine ⟨by omega, by omega, hK _ ?_⟩ | refine ⟨by omega, by omega, by omega, hK _ ?_⟩ | refine ⟨by omega, by omega, by omega, by omega, hK _ ?_⟩
          refine ⟨(i + 1, n + 1), ⟨by simp only; omega, by simp only; omega, by simp only; rw [hp, hd, decide_eq_false h100]; rfl⟩, by simp only; omega, ?_⟩
          simp [stL1, modC, wrap_nat i (by omega), hw]
    | false =>
      have hR := hb2 rfl
      refine AWp.cond false (by simp [stL1]) (fun he => by cases he) (fun _ => ?_)
      refine AWp.exit ?_
      clear hb1 hb2 hp
      refine AWp.seq ?_
      refine AWp.seq ?_
      refine AWp.reg [true] F17r8 [] (by kernel_rfl) (by rw [hC]; rfl) fun K hK => ?_
      simp [F17r8, stL1]
      first | refine hK _ ?_ | refine ⟨by omega, hK _ ?_⟩ | refine ⟨by omega, by omega, hK _ ?_⟩ | refine ⟨by omega, by omega, by omega, hK _ ?_⟩ | refine ⟨by omega, by omega, by omega, by omega, hK _ ?_⟩
      refine AWp.block ?_
      refine AWp.loopG (stL2 m) (fun p => p.1 ≤ m.nevers.length ∧ p.2 ≤ 60 ∧ lgN m.nevers n = lgN (m.nevers.drop p.1) p.2) (fun p => m.nevers.length - p.1) (0, n) (by simp; omega) (by simp [stL2, modC]) (fun p hp => ?_)
      obtain ⟨j, k⟩ := p
      obtain ⟨hj, hk, hp⟩ := hp
      simp only at hj hk hp
      refine AWp.seq ?_
      refine AWp.seqJ (fun b : Bool => { stL2 m (j, k) with tm := (44, bval b) :: (stL2 m (j, k)).tm }) (fun b => (b = true → j < m.nevers.length ∧ k < 60) ∧ (b = false → lgN m.nevers n = some k)) ?_ (fun hJ => ?_)
      · skip
        rintro b ⟨hb1, hb2⟩
        cases b with
        | true =>
          obtain ⟨hlt, hn6⟩ := hb1 rfl
          have hd := lgN_drop m.nevers j k hlt
          rw [if_pos hn6] at hd
          have hget := List.getElem_mem hlt
          obtain ⟨r, hr⟩ : ∃ r, m.nevers[j] = r := ⟨_, rfl⟩
          rw [hr] at hd hget
          obtain ⟨hb1, hb2⟩ := hm.nbody r hget
          have hhv := heavy_ok r.body hb1 hb2
          have hw := wrap_nat k (by omega)
          refine AWp.cond true (by simp [stL2]) (fun _ => ?_) (fun he => by cases he)
          refine AWp.skip ?_
          refine AWp.seq ?_
          refine AWp.block ?_
          refine AWp.seq ?_
          refine AWp.reg [false, false, true] F17r11 [] (by kernel_rfl) (by rw [hC]; rfl) fun K hK => ?_
          simp [F17r11, stL2]
          first | refine hK _ ?_ | refine ⟨by omega, hK _ ?_⟩ | refine ⟨by omega, by omega, hK _ ?_⟩ | refine ⟨by omega, by omega, by omega, hK _ ?_⟩ | refine ⟨by omega, by omega, by omega, by omega, hK _ ?_⟩
          refine AWp.seq ?_
          cases hh : heavyE r.body with
          | true =>
            rw [hh] at hhv hd
            refine AWp.reg [] F17r12 [{ r := bval true }] (by kernel_rfl) (by rw [hC]; rfl) fun K hK => ?_
            simp [F17r12, hlt, hr, encN, modC]
            refine ⟨callOK rfl hhv, hK _ ?_⟩
            refine AWp.cond true (by simp) (fun _ => ?_) (fun he => by cases he)
            refine AWp.seq ?_
            refine AWp.reg [true] F17r13 [] (by kernel_rfl) (by rw [hC]; rfl) fun K hK => ?_
            simp [F17r13]
            first | refine hK _ ?_ | refine ⟨by omega, hK _ ?_⟩ | refine ⟨by omega, by omega, hK _ ?_⟩ | refine ⟨by omega, by omega, by omega, hK _ ?_⟩ | refine ⟨by omega, by omega, by omega, by omega, hK _ ?_⟩
            repeat refine AWp.seq ?_
            refine AWp.ret ⟨.inr rfl, _, by simp [Try.results17] <;> rfl, ?_⟩
            have : largeE m = true := by unfold largeE; rw [hR]; simp only; rw [hp, hd]; rfl
            rw [this]
            exact .closed rfl
          | false =>
            rw [hh] at hhv hd
            refine AWp.reg [] F17r12 [{ r := bval false }] (by kernel_rfl) (by rw [hC]; rfl) fun K hK => ?_
            simp [F17r12, hlt, hr, encN, modC]
            refine ⟨callOK rfl hhv, hK _ ?_⟩
            refine AWp.cond false (by simp) (fun he => by cases he) (fun _ => ?_)
            refine AWp.skip ?_
            refine AWp.reg [false, false, true] F17r10 [] (by kernel_rfl) (by rw [hC]; rfl) fun K hK => ?_
            simp [F17r10]
            first | refine hK _ ?_ | refine ⟨by omega, hK _ ?_⟩ | refine ⟨by omega, by omega, hK _ ?_⟩ | refine ⟨by omega, by omega, by omega, hK _ ?_⟩ | refine ⟨by omega, by omega, by omega, by omega, hK _ ?_⟩
            refine ⟨(j + 1, k + 1), ⟨by simp only; omega, by simp only; omega, by simp only; rw [hp, hd]; rfl⟩, by simp only; omega, ?_⟩
            simp [stL2, modC, wrap_nat j (by omega), hw]
        | false =>
          have hN := hb2 rfl
          refine AWp.cond false (by simp [stL2]) (fun he => by cases he) (fun _ => ?_)
          refine AWp.exit ?_
          refine AWp.seq ?_
          refine AWp.reg [false, false, true] F17r14 [] (by kernel_rfl) (by rw [hC]; rfl) fun K hK => ?_
          simp [F17r14, stL2]
          first | refine hK _ ?_ | refine ⟨by omega, hK _ ?_⟩ | refine ⟨by omega, by omega, hK _ ?_⟩ | refine ⟨by omega, by omega, by omega, hK _ ?_⟩ | refine ⟨by omega, by omega, by omega, by omega, hK _ ?_⟩
          repeat refine AWp.seq ?_
          refine AWp.ret ⟨.inr rfl, _, by simp [Try.results17] <;> rfl, ?_⟩
          have : largeE m = decide ((k : Int) ≥ 60) := by unfold largeE; rw [hR]; simp only; rw [hN]; exact decide_eq_decide.2 (by omega)
          rw [this]
          exact .closed rfl
      by_cases hlt : j < m.nevers.length
      · by_cases hn6 : k < 60
        · have hn6' : (k : Int) < 60 := by omega
          refine AWp.reg [] F17r9 [] (by kernel_rfl) (by rw [hC]; rfl) fun K hK => ?_
          simp [F17r9, stL2, modC, hlt, hn6']
          first | refine hK _ ?_ | refine ⟨by omega, hK _ ?_⟩ | refine ⟨by omega, by omega, hK _ ?_⟩ | refine ⟨by omega, by omega, by omega, hK _ ?_⟩ | refine ⟨by omega, by omega, by omega, by omega, hK _ ?_⟩
          refine hJ _ true ⟨fun _ => ⟨hlt, hn6⟩, fun h => (by cases h)⟩ ?_
          simp [stL2, modC, hn6']
        · have hn6' : ¬ (k : Int) < 60 := by omega
          have hd := lgN_drop m.nevers j k hlt
          rw [if_neg hn6] at hd
          refine AWp.reg [] F17r9 [] (by kernel_rfl) (by rw [hC]; rfl) fun K hK => ?_
          simp [F17r9, stL2, modC, hlt, hn6']
          first | refine hK _ ?_ | refine ⟨by omega, hK _ ?_⟩ | refine ⟨by omega, by omega, hK _ ?_⟩ | refine ⟨by omega, by omega, by omega, hK _ ?_⟩ | refine ⟨by omega, by omega, by omega, by omega, hK _ ?_⟩
          refine hJ _ false ⟨fun h => (by cases h), fun _ => (by rw [hp, hd])⟩ ?_
          simp [stL2, modC, hn6']
      · skip
        refine AWp.reg [] F17r9 [] (by kernel_rfl) (by rw [hC]; rfl) fun K hK => ?_
        simp [F17r9, stL2, modC, hlt]
        first | refine hK _ ?_ | refine ⟨by omega, hK _ ?_⟩ | refine ⟨by omega, by omega, hK _ ?_⟩ | refine ⟨by omega, by omega, by omega, hK _ ?_⟩ | refine ⟨by omega, by omega, by omega, by omega, hK _ ?_⟩
        refine hJ _ false ⟨fun h => (by cases h), fun _ => (by rw [hp, List.drop_eq_nil_of_le (by omega)]; rfl)⟩ ?_
        simp [stL2, modC]
  by_cases hlt : i < m.rules.length
  · by_cases hn6 : n < 60
    · have hn6' : (n : Int) < 60 := by omega
      refine AWp.reg [] F17r3 [] (by kernel_rfl) (by rw [hC]; rfl) fun K hK => ?_
      simp [F17r3, stL1, modC, hlt, hn6']
      first | refine hK _ ?_ | refine ⟨by omega, hK _ ?_⟩ | refine ⟨by omega, by omega, hK _ ?_⟩ | refine ⟨by omega, by omega, by omega, hK _ ?_⟩ | refine ⟨by omega, by omega, by omega, by omega, hK _ ?_⟩
      refine hJ _ true ⟨fun _ => ⟨hlt, hn6⟩, fun h => (by cases h)⟩ ?_
      simp [stL1, modC, hn6']
    · have hn6' : ¬ (n : Int) < 60 := by omega
      have hd := lgR_drop m.rules i n hlt
      rw [if_neg hn6] at hd
      refine AWp.reg [] F17r3 [] (by kernel_rfl) (by rw [hC]; rfl) fun K hK => ?_
      simp [F17r3, stL1, modC, hlt, hn6']
      first | refine hK _ ?_ | refine ⟨by omega, hK _ ?_⟩ | refine ⟨by omega, by omega, hK _ ?_⟩ | refine ⟨by omega, by omega, by omega, hK _ ?_⟩ | refine ⟨by omega, by omega, by omega, by omega, hK _ ?_⟩
      refine hJ _ false ⟨fun h => (by cases h), fun _ => (by rw [hp, hd])⟩ ?_
      simp [stL1, modC, hn6']
  · skip
    refine AWp.reg [] F17r3 [] (by kernel_rfl) (by rw [hC]; rfl) fun K hK => ?_
    simp [F17r3, stL1, modC, hlt]
    first | refine hK _ ?_ | refine ⟨by omega, hK _ ?_⟩ | refine ⟨by omega, by omega, hK _ ?_⟩ | refine ⟨by omega, by omega, by omega, hK _ ?_⟩ | refine ⟨by omega, by omega, by omega, by omega, hK _ ?_⟩
    refine hJ _ false ⟨fun h => (by cases h), fun _ => (by rw [hp, List.drop_eq_nil_of_le (by omega)]; rfl)⟩ ?_
    simp [stL1, modC]
end Go.Sl
