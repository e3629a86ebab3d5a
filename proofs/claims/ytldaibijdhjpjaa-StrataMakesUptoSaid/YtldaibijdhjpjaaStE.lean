/- strata: leads, the test for an aggregate, ContainsFunc, the body of read. -/
import Derived.Test.YtldaibijdhjpjaaStA
import Derived.Test.YtldaibijdhjpjaaStSpE
set_option linter.unusedSimpArgs false
set_option linter.unusedVariables false
open Go Go.Aw Go.Proofs
namespace Go.St
-- function 30: corollary/strata.leads: 11 slots; results ['(Go.ResultVar.tmp 2)']
def F30r0 : List ROp := [{ dst := some 1, op := .box 56 (.tmp 0), after := [], guard := none },
  { dst := some 2, op := .copy true (.const (.bool false)), after := [], guard := none }]
def F30r1 : List ROp := [{ dst := some 3, op := .fad 0 (.tmp 1), after := [], guard := none },
  { dst := some 4, op := .load 1 false false (.tmp 3), after := [0], guard := none },
  { dst := some 5, op := .bin .eql (.tmp 4) (.const (.int .u8 1)), after := [1], guard := none },
  { dst := some 6, op := .copy false (.tmp 5), after := [2], guard := none },
  { dst := some 7, op := .fad 0 (.tmp 1), after := [3], guard := some (6, false) },
  { dst := some 8, op := .load 1 false false (.tmp 7), after := [4, 3], guard := some (6, false) },
  { dst := some 9, op := .bin .eql (.tmp 8) (.const (.int .u8 2)), after := [5, 3], guard := some (6, false) },
  { dst := some 10, op := .pick (.tmp 6) (.const (.bool true)) (.tmp 9), after := [3, 6], guard := none },
  { dst := some 2, op := .copy true (.tmp 10), after := [7, 3, 0, 1, 2, 3, 4, 5, 6, 7], guard := none }]
-- function 32: corollary/strata.read$2: 5 slots; results ['(Go.ResultVar.tmp 2)']
def F32r0 : List ROp := [{ dst := some 2, op := .copy true (.const (.bool false)), after := [], guard := none }]
def F32r1 : List ROp := [{ dst := some 3, op := .copy false (.tmp 0), after := [], guard := none },
  { dst := some 4, op := .bin .neq (.tmp 3) (.const (.string { data := #[] })), after := [0], guard := none },
  { dst := some 2, op := .copy true (.tmp 4), after := [1, 0, 1], guard := none }]
-- function 33: slices.IndexFunc[[]string,string]: 19 slots; results ['(Go.ResultVar.tmp 4)']
def F33r0 : List ROp := [{ dst := some 4, op := .copy true (.const (.int .i64 0)), after := [], guard := none }]
def F33r1 : List ROp := [{ dst := some 6, op := .copy false (.tmp 0), after := [], guard := none },
  { dst := some 7, op := .len 0 (.tmp 6), after := [0], guard := none },
  { dst := some 8, op := .copy false (.const (.int .i64 0)), after := [], guard := none }]
def F33r2 : List ROp := [{ dst := some 9, op := .bin .lss (.tmp 8) (.tmp 7), after := [], guard := none }]
def F33r3 : List ROp := [{ dst := some 10, op := .copy true (.tmp 8), after := [], guard := none },
  { dst := some 5, op := .copy true (.tmp 10), after := [0, 0], guard := none }]
def F33r4 : List ROp := [{ dst := some 11, op := .copy false (.tmp 1), after := [], guard := none },
  { dst := some 12, op := .copy false (.tmp 0), after := [], guard := none },
  { dst := some 13, op := .copy false (.tmp 5), after := [], guard := none },
  { dst := some 14, op := .iad 1 (.tmp 12) (.tmp 13), after := [1, 2], guard := none },
  { dst := some 15, op := .load 1 false false (.tmp 14), after := [3], guard := none },
  { dst := some 16, op := .call (.tmp 11) [.tmp 15], after := [0, 4], guard := none }]
def F33r5 : List ROp := [{ dst := some 17, op := .copy true (.tmp 5), after := [], guard := none },
  { dst := some 4, op := .copy true (.tmp 17), after := [0, 0], guard := none }]
def F33r6 : List ROp := [{ dst := some 18, op := .bin .add (.tmp 8) (.const (.int .i64 1)), after := [], guard := none },
  { dst := some 8, op := .copy false (.tmp 18), after := [0], guard := none }]
def F33r7 : List ROp := [{ dst := some 4, op := .copy true (.const (.int .i64 (-1))), after := [], guard := none }]
-- function 31: slices.ContainsFunc[[]string,string]: 9 slots; results ['(Go.ResultVar.tmp 4)']
def F31r0 : List ROp := [{ dst := some 4, op := .copy true (.const (.bool false)), after := [], guard := none }]
def F31r1 : List ROp := [{ dst := some 5, op := .copy false (.tmp 0), after := [], guard := none },
  { dst := some 6, op := .copy false (.tmp 1), after := [], guard := none },
  { dst := some 7, op := .call (.func 33) [.tmp 5, .tmp 6], after := [0, 1], guard := none },
  { dst := some 8, op := .bin .geq (.tmp 7) (.const (.int .i64 0)), after := [2], guard := none },
  { dst := some 4, op := .copy true (.tmp 8), after := [3, 2, 0, 1, 2, 3], guard := none }]
-- function 29: corollary/strata.read$1: 49 slots; results ['(Go.ResultVar.tmp 5)', '(Go.ResultVar.cell 6 32)', '(Go.ResultVar.tmp 7)']
def F29r0 : List ROp := [{ dst := some 5, op := .copy true (.const (.slice none 0 0)), after := [], guard := none },
  { dst := some 6, op := .alloc 32 [Value.int .i64 0, Value.int .i64 0], after := [], guard := none },
  { dst := some 7, op := .copy true (.const (.int .i64 0)), after := [0], guard := none }]
def F29r1 : List ROp := [{ dst := some 8, op := .copy true (.const (.slice none 0 0)), after := [], guard := none }]
def F29r2 : List ROp := [{ dst := some 13, op := .copy false (.tmp 0), after := [], guard := none },
  { dst := some 14, op := .len 0 (.tmp 13), after := [0], guard := none },
  { dst := some 15, op := .copy false (.const (.int .i64 0)), after := [], guard := none }]
def F29r3 : List ROp := [{ dst := some 16, op := .bin .lss (.tmp 15) (.tmp 14), after := [], guard := none }]
def F29r4 : List ROp := [{ dst := some 17, op := .iad 5 (.tmp 13) (.tmp 15), after := [], guard := none },
  { dst := some 18, op := .load 5 true false (.tmp 17), after := [0], guard := none },
  { dst := some 10, op := .alloc 56 [Value.int .u8 0, Value.int .i64 0, Value.int .i64 0, Value.string ByteArray.empty, Value.slice none 0 0], after := [], guard := none },
  { dst := none, op := .store 5 true (.tmp 10) (.tmp 18), after := [2, 1, 0, 1, 2], guard := none }]
def F29r5 : List ROp := [{ dst := some 19, op := .load 5 true false (.tmp 10), after := [], guard := none },
  { dst := some 20, op := .call (.func 30) [.tmp 19], after := [0], guard := none },
  { dst := some 21, op := .un .not (.tmp 20), after := [1], guard := none }]
def F29r6 : List ROp := [{ dst := some 23, op := .load 1 false false (.tmp 2), after := [], guard := none },
  { dst := some 24, op := .fad 3 (.tmp 10), after := [], guard := none },
  { dst := some 25, op := .load 1 false false (.tmp 24), after := [1], guard := none },
  { dst := some 26, op := .lkp 1 (Value.int .i64 0) true (.tmp 23) (.tmp 25), after := [0, 2], guard := none },
  { dst := some 22, op := .copy false (.tmp 26), after := [3], guard := none },
  { dst := some 27, op := .ext (.tmp 22) 0, after := [4], guard := none },
  { dst := some 28, op := .ext (.tmp 22) 1, after := [4], guard := none },
  { dst := some 11, op := .copy true (.tmp 27), after := [5, 0, 1, 2, 3, 4, 5], guard := none },
  { dst := some 12, op := .copy true (.tmp 28), after := [6, 7, 0, 1, 2, 3, 4, 5, 6, 7], guard := none }]
def F29r7 : List ROp := [{ dst := some 29, op := .copy false (.tmp 12), after := [], guard := none },
  { dst := some 30, op := .un .not (.tmp 29), after := [0], guard := none }]
def F29r8 : List ROp := [{ dst := some 31, op := .fad 1 (.tmp 10), after := [], guard := none },
  { dst := some 32, op := .load 2 true false (.tmp 31), after := [0], guard := none },
  { dst := some 5, op := .copy true (.const (.slice none 0 0)), after := [], guard := none },
  { dst := none, op := .store 2 true (.tmp 6) (.tmp 32), after := [1, 2, 0, 1, 2], guard := none },
  { dst := some 7, op := .copy true (.const (.int .i64 63)), after := [3, 0, 1, 2, 3], guard := none }]
def F29r9 : List ROp := [{ dst := some 33, op := .copy true (.tmp 8), after := [], guard := none },
  { dst := some 34, op := .copy false (.tmp 11), after := [], guard := none },
  { dst := some 35, op := .copy false (.tmp 1), after := [], guard := none },
  { dst := some 36, op := .copy false (.tmp 35), after := [2], guard := none },
  { dst := some 37, op := .fad 0 (.tmp 10), after := [3], guard := some (36, false) },
  { dst := some 38, op := .load 1 false false (.tmp 37), after := [4, 3], guard := some (36, false) },
  { dst := some 39, op := .bin .eql (.tmp 38) (.const (.int .u8 2)), after := [5, 3], guard := some (36, false) },
  { dst := some 40, op := .pick (.tmp 36) (.const (.bool true)) (.tmp 39), after := [3, 6], guard := none },
  { dst := some 41, op := .fad 1 (.tmp 10), after := [], guard := none },
  { dst := some 42, op := .load 2 true false (.tmp 41), after := [8], guard := none },
  { dst := some 43, op := .build [Value.int .i64 0, Value.bool false, Value.int .i64 0, Value.int .i64 0] [(0, 1, .tmp 34), (1, 1, .tmp 40), (2, 2, .tmp 42)], after := [1, 7, 9], guard := none },
  { dst := some 44, op := .bslice 80 4 [Value.int .i64 0, Value.bool false, Value.int .i64 0, Value.int .i64 0] 1 [(0, .tmp 43)], after := [10], guard := none },
  { dst := some 45, op := .app 80 4 32 (.tmp 33) (.tmp 44), after := [0, 11, 3], guard := none },
  { dst := some 8, op := .copy true (.tmp 45), after := [12, 12, 0, 1, 2, 3, 4, 5, 6, 7, 8, 9, 10, 11, 12], guard := none }]
def F29r10 : List ROp := [{ dst := some 46, op := .bin .add (.tmp 15) (.const (.int .i64 1)), after := [], guard := none },
  { dst := some 15, op := .copy false (.tmp 46), after := [0], guard := none }]
def F29r11 : List ROp := [{ dst := some 47, op := .copy true (.tmp 8), after := [], guard := none },
  { dst := some 48, op := .build [Value.int .i64 0, Value.int .i64 0] [], after := [], guard := none },
  { dst := some 5, op := .copy true (.tmp 47), after := [0, 0], guard := none },
  { dst := none, op := .store 2 true (.tmp 6) (.tmp 48), after := [1, 2, 0, 1, 2], guard := none },
  { dst := some 7, op := .copy true (.const (.int .i64 0)), after := [3, 0, 1, 2, 3], guard := none }]
theorem leads_ok (l : LitD) : Con Try.prog 30 [.agg (encLit l)] (bval (leads l)) := by
  refine Con.of_code Try.func30 (by kernel_rfl) rfl (by simp [Try.ntmps30]) fun C hC hM => ?_
  repeat refine AWp.seq ?_
  refine AWp.reg [false, true] F30r0 [] (by kernel_rfl) (by rw [hC]; rfl) fun K hK => ?_
  simp [F30r0]
  refine hK _ ?_
  by_cases h1 : l.kind = 1
  · repeat refine AWp.seq ?_
    refine AWp.reg [false, false, false, false, false, false, false, false, true] F30r1 [] (by kernel_rfl) (by rw [hC]; rfl) fun K hK => ?_
    simp [F30r1, h1]
    refine hK _ ?_
    repeat refine AWp.seq ?_
    refine AWp.ret ⟨.inr rfl, _, by simp [Try.results30] <;> rfl, ?_⟩
    simp [leads, h1]
    exact .closed rfl
  · have h1' : (l.kind == 1) = false := by simpa using h1
    repeat refine AWp.seq ?_
    refine AWp.reg [false, false, false, false, false, false, false, false, true] F30r1 [] (by kernel_rfl) (by rw [hC]; rfl) fun K hK => ?_
    simp [F30r1, h1']
    refine hK _ ?_
    repeat refine AWp.seq ?_
    refine AWp.ret ⟨.inr rfl, _, by simp [Try.results30] <;> rfl, ?_⟩
    simp [leads, h1']
    exact .closed rfl
theorem isAgg_ok (s : ByteArray) : Con Try.prog 32 [sval s] (bval (!decide (s = ByteArray.empty))) := by
  refine Con.of_code Try.func32 (by kernel_rfl) rfl (by simp [Try.ntmps32]) fun C hC hM => ?_
  repeat refine AWp.seq ?_
  refine AWp.reg [true] F32r0 [] (by kernel_rfl) (by rw [hC]; rfl) fun K hK => ?_
  simp [F32r0]
  refine hK _ ?_
  repeat refine AWp.seq ?_
  refine AWp.reg [false, false, true] F32r1 [] (by kernel_rfl) (by rw [hC]; rfl) fun K hK => ?_
  simp [F32r1]
  refine hK _ ?_
  repeat refine AWp.seq ?_
  refine AWp.ret ⟨.inr rfl, _, by simp [Try.results32] <;> rfl, ?_⟩
  exact .closed rfl
def fn32 : AV := .val (.func (.func 32) #[] #[])
def st33 (l : List ByteArray) (k : Nat) : AS := { tm := [(0, .rd 1 (l.map encText)), (1, fn32), (7, ival l.length), (8, ival k)], hp := [] }
attribute [simp] fn32
theorem IndexFunc_ok (l : List ByteArray) (hl : l.length ≤ 1048576) : Con Try.prog 33 [.rd 1 (l.map encText), fn32] (ival (aggN l 0)) := by
  refine Con.of_code Try.func33 (by kernel_rfl) rfl (by simp [Try.ntmps33]) fun C hC hM => ?_
  repeat refine AWp.seq ?_
  refine AWp.reg [true] F33r0 [] (by kernel_rfl) (by rw [hC]; rfl) fun K hK => ?_
  simp [F33r0]
  refine hK _ ?_
  repeat refine AWp.seq ?_
  refine AWp.reg [] F33r1 [] (by kernel_rfl) (by rw [hC]; rfl) fun K hK => ?_
  simp [F33r1]
  refine hK _ ?_
  refine AWp.block ?_
  refine AWp.loopG (st33 l) (fun k => k ≤ l.length ∧ aggN l 0 = aggN (l.drop k) k) (fun k => l.length - k) 0 (by simp) (by simp [st33]) (fun k hk => ?_)
  obtain ⟨hk1, hk2⟩ := hk
  repeat refine AWp.seq ?_
  refine AWp.reg [] F33r2 [] (by kernel_rfl) (by rw [hC]; rfl) fun K hK => ?_
  simp [F33r2, st33]
  refine hK _ ?_
  repeat refine AWp.seq ?_
  refine AWp.cond (decide (k < l.length)) (by simp) (fun hlt => ?_) (fun hge => ?_)
  · have hlt : k < l.length := by simpa using hlt
    have hd := aggN_drop l k hlt
    refine AWp.skip ?_
    repeat refine AWp.seq ?_
    refine AWp.block ?_
    repeat refine AWp.seq ?_
    refine AWp.reg [true, true] F33r3 [] (by kernel_rfl) (by rw [hC]; rfl) fun K hK => ?_
    simp [F33r3]
    refine hK _ ?_
    repeat refine AWp.seq ?_
    refine AWp.reg [] F33r4 [{ r := bval (!decide (l[k] = ByteArray.empty)) }] (by kernel_rfl) (by rw [hC]; rfl) fun K hK => ?_
    simp [F33r4, hlt]
    refine ⟨callOK rfl (isAgg_ok l[k]), hK _ ?_⟩
    by_cases hq : l[k] = ByteArray.empty
    · repeat refine AWp.seq ?_
      refine AWp.cond false (by simp [hq]) (fun he => by cases he) (fun _ => ?_)
      refine AWp.skip ?_
      repeat refine AWp.seq ?_
      refine AWp.reg [] F33r6 [] (by kernel_rfl) (by rw [hC]; rfl) fun K hK => ?_
      simp [F33r6]
      refine hK _ ⟨k + 1, ⟨by omega, by rw [hk2, hd, if_pos hq]⟩, by omega, ?_⟩
      simp [st33, wrap_nat k (by omega)]
    · repeat refine AWp.seq ?_
      refine AWp.cond true (by simp [hq]) (fun _ => ?_) (fun he => by cases he)
      repeat refine AWp.seq ?_
      refine AWp.reg [true, true] F33r5 [] (by kernel_rfl) (by rw [hC]; rfl) fun K hK => ?_
      simp [F33r5]
      refine hK _ ?_
      repeat refine AWp.seq ?_
      refine AWp.ret ⟨.inr rfl, _, by simp [Try.results33] <;> rfl, ?_⟩
      rw [hk2, hd, if_neg hq]
      exact .closed rfl
  have hge : ¬ k < l.length := by simpa using hge
  refine AWp.exit ?_
  repeat refine AWp.seq ?_
  refine AWp.reg [true] F33r7 [] (by kernel_rfl) (by rw [hC]; rfl) fun K hK => ?_
  simp [F33r7]
  refine hK _ ?_
  repeat refine AWp.seq ?_
  refine AWp.ret ⟨.inr rfl, _, by simp [Try.results33] <;> rfl, ?_⟩
  rw [hk2, List.drop_eq_nil_of_le (by omega)]
  exact .closed rfl
theorem ContainsFunc_ok (l : List ByteArray) (hl : l.length ≤ 1048576) : Con Try.prog 31 [.rd 1 (l.map encText), fn32] (bval (l.any fun s => !decide (s = ByteArray.empty))) := by
  refine Con.of_code Try.func31 (by kernel_rfl) rfl (by simp [Try.ntmps31]) fun C hC hM => ?_
  repeat refine AWp.seq ?_
  refine AWp.reg [true] F31r0 [] (by kernel_rfl) (by rw [hC]; rfl) fun K hK => ?_
  simp [F31r0]
  refine hK _ ?_
  repeat refine AWp.seq ?_
  refine AWp.reg [false, false, false, false, true] F31r1 [{ r := ival (aggN l 0) }] (by kernel_rfl) (by rw [hC]; rfl) fun K hK => ?_
  simp [F31r1]
  refine ⟨callOK rfl (IndexFunc_ok l hl), hK _ ?_⟩
  repeat refine AWp.seq ?_
  refine AWp.ret ⟨.inr rfl, _, by simp [Try.results31] <;> rfl, ?_⟩
  rw [← aggN_any l 0]
  exact .closed rfl
def st29 (m : MMod) (strict : Bool) (l : List LitD) (k : Nat) : AS := { tm := [(1, bval strict), (2, .elt 1 [[atMap m]] 0 0), (6, .ptr 6 0), (8, encEdgesO (edgesOf m strict (l.take k))), (13, encBody l), (14, ival l.length), (15, ival k)], hp := [(6, .cells 32 [ival 0, ival 0])] }
attribute [simp] atMap
theorem edgesOf_len (m : MMod) (s : Bool) (l : List LitD) (k : Nat) : (edgesOf m s (l.take k)).length ≤ k := by
  unfold edgesOf
  rw [List.length_map]
  exact Nat.le_trans (List.length_filter_le _ _) (by simp; omega)
theorem readBody_ok (m : MMod) (strict : Bool) (l : List LitD) (hl : l.length ≤ 1048576) : Con Try.prog 29 [encBody l, bval strict, .elt 1 [[atMap m]] 0 0] (encBodyR (readBody m strict l)) := by
  refine Con.res (r := .tup [encEdgesO (readBody m strict l).1, encPos (readBody m strict l).2.1, ival (readBody m strict l).2.2]) ?_ (.tup (.cons (encEdges_wk _) (.refl _))) rfl
  refine Con.of_code Try.func29 (by kernel_rfl) rfl (by simp [Try.ntmps29]) fun C hC hM => ?_
  repeat refine AWp.seq ?_
  refine AWp.reg [true, false, true] F29r0 [] (by kernel_rfl) (by rw [hC]; rfl) fun K hK => ?_
  simp [F29r0]
  refine hK _ ?_
  repeat refine AWp.seq ?_
  refine AWp.reg [true] F29r1 [] (by kernel_rfl) (by rw [hC]; rfl) fun K hK => ?_
  simp [F29r1]
  refine hK _ ?_
  repeat refine AWp.seq ?_
  refine AWp.reg [] F29r2 [] (by kernel_rfl) (by rw [hC]; rfl) fun K hK => ?_
  simp [F29r2]
  refine hK _ ?_
  refine AWp.block ?_
  refine AWp.loopG (st29 m strict l) (fun k => k ≤ l.length ∧ badLit m l = badLit m (l.drop k)) (fun k => l.length - k) 0 (by simp) (by simp [st29, edgesOf, encEdgesO]) (fun k hk => ?_)
  obtain ⟨hk1, hk2⟩ := hk
  repeat refine AWp.seq ?_
  refine AWp.reg [] F29r3 [] (by kernel_rfl) (by rw [hC]; rfl) fun K hK => ?_
  simp [F29r3, st29]
  refine hK _ ?_
  repeat refine AWp.seq ?_
  refine AWp.cond (decide (k < l.length)) (by simp) (fun hlt => ?_) (fun hge => ?_)
  · have hlt : k < l.length := by simpa using hlt
    have hd := badLit_drop m l k hlt
    have hes := edgesOf_succ m strict l k hlt
    have hel := edgesOf_len m strict l k
    refine AWp.skip ?_
    repeat refine AWp.seq ?_
    refine AWp.block ?_
    repeat refine AWp.seq ?_
    refine AWp.reg [false, false, false, true] F29r4 [] (by kernel_rfl) (by rw [hC]; rfl) fun K hK => ?_
    simp [F29r4, hlt]
    refine hK _ ?_
    cases hq : leads l[k] with
    | false =>
      repeat refine AWp.seq ?_
      refine AWp.reg [] F29r5 [{ r := bval false }] (by kernel_rfl) (by rw [hC]; rfl) fun K hK => ?_
      simp [F29r5, hlt]
      refine ⟨callOK rfl (hq ▸ leads_ok l[k]), hK _ ?_⟩
      repeat refine AWp.seq ?_
      refine AWp.cond true (by simp) (fun _ => ?_) (fun he => by cases he)
      refine AWp.exit ?_
      repeat refine AWp.seq ?_
      refine AWp.reg [] F29r10 [] (by kernel_rfl) (by rw [hC]; rfl) fun K hK => ?_
      simp [F29r10]
      refine hK _ ⟨k + 1, ⟨by omega, by rw [hk2, hd, if_neg (by simp [hq])]⟩, by omega, ?_⟩
      have hes' : edgesOf m strict (l.take (k + 1)) = edgesOf m strict (l.take k) := by rw [hes]; simp [hq]
      simp [st29, wrap_nat k (by omega), hes']
    | true =>
      repeat refine AWp.seq ?_
      refine AWp.reg [] F29r5 [{ r := bval true }] (by kernel_rfl) (by rw [hC]; rfl) fun K hK => ?_
      simp [F29r5, hlt]
      refine ⟨callOK rfl (hq ▸ leads_ok l[k]), hK _ ?_⟩
      repeat refine AWp.seq ?_
      refine AWp.cond false (by simp) (fun he => by cases he) (fun _ => ?_)
      refine AWp.skip ?_
      have hkv : kvGet (.string l[k].rel) (keysOf m.rels) (valsFrom 0 m.rels) = if At m l[k].rel < 0 then none else some (.val (.int .i64 (At m l[k].rel))) := kvGet_at l[k].rel m.rels 0
      have hkd := keysOf_kinds l[k].rel m.rels
      by_cases hn : At m l[k].rel < 0
      · rw [if_pos hn] at hkv
        repeat refine AWp.seq ?_
        refine AWp.reg [false, false, false, false, false, false, false, true, true] F29r6 [] (by kernel_rfl) (by rw [hC]; rfl) fun K hK => ?_
        simp [F29r6, hkv]
        refine ⟨hkd, hK _ ?_⟩
        repeat refine AWp.seq ?_
        refine AWp.reg [] F29r7 [] (by kernel_rfl) (by rw [hC]; rfl) fun K hK => ?_
        simp [F29r7]
        refine hK _ ?_
        repeat refine AWp.seq ?_
        refine AWp.cond true (by simp) (fun _ => ?_) (fun he => by cases he)
        repeat refine AWp.seq ?_
        refine AWp.regD ops_mixed [false, false, true, true, true] F29r8 [] (by kernel_rfl) (by rw [hC]; rfl) rfl (fun K hK => ?_) (by simp [F29r8] <;> rfl)
        simp [F29r8]
        refine hK _ ?_
        repeat refine AWp.seq ?_
        refine AWp.ret ⟨.inr rfl, _, by simp [Try.results29] <;> rfl, ?_⟩
        have h2 : readBody m strict l = ([], ((l[k].line, l[k].col), 63)) := by simp [readBody, hk2, hd, hq, hn]
        rw [h2]
        exact .closed rfl
      · have hkv' : kvGet (.string l[k].rel) (keysOf m.rels) (valsFrom 0 m.rels) = some (.val (.int .i64 (idx m l[k].rel))) := by
          rw [hkv, if_neg hn, ← At_idx (by omega)]
        repeat refine AWp.seq ?_
        refine AWp.reg [false, false, false, false, false, false, false, true, true] F29r6 [] (by kernel_rfl) (by rw [hC]; rfl) fun K hK => ?_
        simp [F29r6, hkv']
        refine ⟨hkd, hK _ ?_⟩
        repeat refine AWp.seq ?_
        refine AWp.reg [] F29r7 [] (by kernel_rfl) (by rw [hC]; rfl) fun K hK => ?_
        simp [F29r7]
        refine hK _ ?_
        repeat refine AWp.seq ?_
        refine AWp.cond false (by simp) (fun he => by cases he) (fun _ => ?_)
        refine AWp.skip ?_
        have hes' : edgesOf m strict (l.take (k + 1)) = edgesOf m strict (l.take k) ++ [mkEdge m strict l[k]] := by rw [hes]; simp [hq]
        have hdd : badLit m (l.drop k) = badLit m (l.drop (k + 1)) := by rw [hd, if_neg (by simp [hn])]
        have hme : mkEdge m strict l[k] = ⟨idx m l[k].rel, strict || (l[k].kind == 2), l[k].line, l[k].col⟩ := rfl
        rw [hme] at hes'
        cases hes2 : edgesOf m strict (l.take k) with
        | nil =>
          rw [hes2] at hes'
          cases strict with
          | true =>
            repeat refine AWp.seq ?_
            refine AWp.reg [true, false, false, false, false, false, false, false, false, false, false, false, false, true] F29r9 [] (by kernel_rfl) (by rw [hC]; rfl) fun K hK => ?_
            simp [F29r9, encEdgesO]
            refine hK _ ?_
            repeat refine AWp.seq ?_
            refine AWp.reg [] F29r10 [] (by kernel_rfl) (by rw [hC]; rfl) fun K hK => ?_
            simp [F29r10]
            refine hK _ ⟨k + 1, ⟨by omega, by rw [hk2, hdd]⟩, by omega, ?_⟩
            simp [st29, wrap_nat k (by omega), hes', encEdgesO_cons, encEdge]
          | false =>
            repeat refine AWp.seq ?_
            refine AWp.reg [true, false, false, false, false, false, false, false, false, false, false, false, false, true] F29r9 [] (by kernel_rfl) (by rw [hC]; rfl) fun K hK => ?_
            simp [F29r9, encEdgesO]
            refine hK _ ?_
            repeat refine AWp.seq ?_
            refine AWp.reg [] F29r10 [] (by kernel_rfl) (by rw [hC]; rfl) fun K hK => ?_
            simp [F29r10]
            refine hK _ ⟨k + 1, ⟨by omega, by rw [hk2, hdd]⟩, by omega, ?_⟩
            simp [st29, wrap_nat k (by omega), hes', encEdgesO_cons, encEdge]
        | cons e es =>
          rw [hes2] at hes'
          cases strict with
          | true =>
            repeat refine AWp.seq ?_
            refine AWp.reg [true, false, false, false, false, false, false, false, false, false, false, false, false, true] F29r9 [] (by kernel_rfl) (by rw [hC]; rfl) fun K hK => ?_
            simp [F29r9, encEdgesO]
            rw [hes2] at hel
            simp only [List.length_cons] at hel
            refine ⟨by omega, hK _ ?_⟩
            repeat refine AWp.seq ?_
            refine AWp.reg [] F29r10 [] (by kernel_rfl) (by rw [hC]; rfl) fun K hK => ?_
            simp [F29r10]
            refine hK _ ⟨k + 1, ⟨by omega, by rw [hk2, hdd]⟩, by omega, ?_⟩
            simp [st29, wrap_nat k (by omega), hes', encEdgesO_cons, encEdge]
          | false =>
            repeat refine AWp.seq ?_
            refine AWp.reg [true, false, false, false, false, false, false, false, false, false, false, false, false, true] F29r9 [] (by kernel_rfl) (by rw [hC]; rfl) fun K hK => ?_
            simp [F29r9, encEdgesO]
            rw [hes2] at hel
            simp only [List.length_cons] at hel
            refine ⟨by omega, hK _ ?_⟩
            repeat refine AWp.seq ?_
            refine AWp.reg [] F29r10 [] (by kernel_rfl) (by rw [hC]; rfl) fun K hK => ?_
            simp [F29r10]
            refine hK _ ⟨k + 1, ⟨by omega, by rw [hk2, hdd]⟩, by omega, ?_⟩
            simp [st29, wrap_nat k (by omega), hes', encEdgesO_cons, encEdge]
  have hge : ¬ k < l.length := by simpa using hge
  refine AWp.exit ?_
  repeat refine AWp.seq ?_
  refine AWp.reg [true, false, true, true, true] F29r11 [] (by kernel_rfl) (by rw [hC]; rfl) fun K hK => ?_
  simp [F29r11]
  refine hK _ ?_
  repeat refine AWp.seq ?_
  refine AWp.ret ⟨.inr rfl, _, by simp [Try.results29] <;> rfl, ?_⟩
  have h2 : readBody m strict l = (edgesOf m strict l, okE) := by simp [readBody, hk2, List.drop_eq_nil_of_le (by omega : l.length ≤ k), badLit]
  rw [h2, List.take_of_length_le (by omega)]
  exact .closed (by simp)
end Go.St
