/- corollaryref15: At, Leads, Grouped, body. -/
import Derived.Test.YtldaibijdhjpjaaProg
import Derived.KernelRfl
import Derived.Test.YtldaibijdhjpjaaStSpec
set_option linter.unusedSimpArgs false
set_option linter.unusedVariables false
open Go Go.Aw Go.Proofs
namespace Go.St
theorem ops_mixed : Try.prog.follows .mixedOrders = true := by kernel_rfl
@[simp] theorem ag32 : isAggT Try.prog 32 = some true := by kernel_rfl
@[simp] theorem sz32 : szOf Try.prog 32 = some 2 := by kernel_rfl
-- function 17: corollary/corollaryref15.At: 22 slots; results ['(Go.ResultVar.tmp 4)']
def F17r0 : List ROp := [{ dst := some 2, op := .box 28 (.tmp 0), after := [], guard := none },
  { dst := some 4, op := .copy true (.const (.int .i64 0)), after := [], guard := none }]
def F17r1 : List ROp := [{ dst := some 5, op := .copy true (.const (.int .i64 0)), after := [], guard := none }]
def F17r2 : List ROp := [{ dst := some 6, op := .copy false (.tmp 5), after := [], guard := none },
  { dst := some 7, op := .fad 3 (.tmp 2), after := [], guard := none },
  { dst := some 8, op := .load 1 false false (.tmp 7), after := [1], guard := none },
  { dst := some 9, op := .len 0 (.tmp 8), after := [2], guard := none },
  { dst := some 10, op := .bin .lss (.tmp 6) (.tmp 9), after := [0, 3], guard := none }]
def F17r3 : List ROp := [{ dst := some 11, op := .copy false (.tmp 5), after := [], guard := none },
  { dst := some 12, op := .bin .add (.tmp 11) (.const (.int .i64 1)), after := [0], guard := none },
  { dst := some 5, op := .copy true (.tmp 12), after := [1, 0, 1], guard := none }]
def F17r4 : List ROp := [{ dst := some 13, op := .fad 3 (.tmp 2), after := [], guard := none },
  { dst := some 14, op := .load 1 false false (.tmp 13), after := [0], guard := none },
  { dst := some 15, op := .copy false (.tmp 5), after := [], guard := none },
  { dst := some 16, op := .iad 6 (.tmp 14) (.tmp 15), after := [1, 2], guard := none },
  { dst := some 17, op := .fad 4 (.tmp 16), after := [3], guard := none },
  { dst := some 18, op := .load 1 false false (.tmp 17), after := [4], guard := none },
  { dst := some 19, op := .copy false (.tmp 1), after := [], guard := none },
  { dst := some 20, op := .bin .eql (.tmp 18) (.tmp 19), after := [5, 6], guard := none }]
def F17r5 : List ROp := [{ dst := some 21, op := .copy true (.tmp 5), after := [], guard := none },
  { dst := some 4, op := .copy true (.tmp 21), after := [0, 0], guard := none }]
def F17r6 : List ROp := [{ dst := some 4, op := .copy true (.const (.int .i64 (-1))), after := [], guard := none }]
-- function 18: corollary/corollaryref15.Leads: 11 slots; results ['(Go.ResultVar.tmp 2)']
def F18r0 : List ROp := [{ dst := some 1, op := .box 56 (.tmp 0), after := [], guard := none },
  { dst := some 2, op := .copy true (.const (.bool false)), after := [], guard := none }]
def F18r1 : List ROp := [{ dst := some 3, op := .fad 0 (.tmp 1), after := [], guard := none },
  { dst := some 4, op := .load 1 false false (.tmp 3), after := [0], guard := none },
  { dst := some 5, op := .bin .eql (.tmp 4) (.const (.int .u8 1)), after := [1], guard := none },
  { dst := some 6, op := .copy false (.tmp 5), after := [2], guard := none },
  { dst := some 7, op := .fad 0 (.tmp 1), after := [3], guard := some (6, false) },
  { dst := some 8, op := .load 1 false false (.tmp 7), after := [4, 3], guard := some (6, false) },
  { dst := some 9, op := .bin .eql (.tmp 8) (.const (.int .u8 2)), after := [5, 3], guard := some (6, false) },
  { dst := some 10, op := .pick (.tmp 6) (.const (.bool true)) (.tmp 9), after := [3, 6], guard := none },
  { dst := some 2, op := .copy true (.tmp 10), after := [7, 3, 0, 1, 2, 3, 4, 5, 6, 7], guard := none }]
-- function 26: corollary/corollaryref15.Grouped: 17 slots; results ['(Go.ResultVar.tmp 2)']
def F26r0 : List ROp := [{ dst := some 1, op := .box 52 (.tmp 0), after := [], guard := none },
  { dst := some 2, op := .copy true (.const (.bool false)), after := [], guard := none }]
def F26r1 : List ROp := [{ dst := some 3, op := .copy true (.const (.int .i64 0)), after := [], guard := none }]
def F26r2 : List ROp := [{ dst := some 4, op := .copy false (.tmp 3), after := [], guard := none },
  { dst := some 5, op := .fad 4 (.tmp 1), after := [], guard := none },
  { dst := some 6, op := .load 1 false false (.tmp 5), after := [1], guard := none },
  { dst := some 7, op := .len 0 (.tmp 6), after := [2], guard := none },
  { dst := some 8, op := .bin .lss (.tmp 4) (.tmp 7), after := [0, 3], guard := none }]
def F26r3 : List ROp := [{ dst := some 9, op := .copy false (.tmp 3), after := [], guard := none },
  { dst := some 10, op := .bin .add (.tmp 9) (.const (.int .i64 1)), after := [0], guard := none },
  { dst := some 3, op := .copy true (.tmp 10), after := [1, 0, 1], guard := none }]
def F26r4 : List ROp := [{ dst := some 11, op := .fad 4 (.tmp 1), after := [], guard := none },
  { dst := some 12, op := .load 1 false false (.tmp 11), after := [0], guard := none },
  { dst := some 13, op := .copy false (.tmp 3), after := [], guard := none },
  { dst := some 14, op := .iad 1 (.tmp 12) (.tmp 13), after := [1, 2], guard := none },
  { dst := some 15, op := .load 1 false false (.tmp 14), after := [3], guard := none },
  { dst := some 16, op := .bin .neq (.tmp 15) (.const (.string { data := #[] })), after := [4], guard := none }]
def F26r5 : List ROp := [{ dst := some 2, op := .copy true (.const (.bool true)), after := [], guard := none }]
def F26r6 : List ROp := [{ dst := some 2, op := .copy true (.const (.bool false)), after := [], guard := none }]
-- function 28: corollary/corollaryref15.body: 34 slots; results ['(Go.ResultVar.cell 4 32)', '(Go.ResultVar.tmp 5)']
def F28r0 : List ROp := [{ dst := some 2, op := .box 28 (.tmp 0), after := [], guard := none },
  { dst := some 4, op := .alloc 32 [Value.int .i64 0, Value.int .i64 0], after := [], guard := none },
  { dst := some 5, op := .copy true (.const (.int .i64 0)), after := [], guard := none }]
def F28r1 : List ROp := [{ dst := some 6, op := .copy true (.const (.int .i64 0)), after := [], guard := none }]
def F28r2 : List ROp := [{ dst := some 7, op := .copy false (.tmp 6), after := [], guard := none },
  { dst := some 8, op := .copy false (.tmp 1), after := [], guard := none },
  { dst := some 9, op := .len 0 (.tmp 8), after := [1], guard := none },
  { dst := some 10, op := .bin .lss (.tmp 7) (.tmp 9), after := [0, 2], guard := none }]
def F28r3 : List ROp := [{ dst := some 11, op := .copy false (.tmp 6), after := [], guard := none },
  { dst := some 12, op := .bin .add (.tmp 11) (.const (.int .i64 1)), after := [0], guard := none },
  { dst := some 6, op := .copy true (.tmp 12), after := [1, 0, 1], guard := none }]
def F28r4 : List ROp := [{ dst := some 13, op := .copy false (.tmp 1), after := [], guard := none },
  { dst := some 14, op := .copy false (.tmp 6), after := [], guard := none },
  { dst := some 15, op := .iad 5 (.tmp 13) (.tmp 14), after := [0, 1], guard := none },
  { dst := some 16, op := .load 5 true false (.tmp 15), after := [2], guard := none },
  { dst := some 17, op := .call (.func 18) [.tmp 16], after := [3], guard := none },
  { dst := some 18, op := .copy false (.tmp 17), after := [4, 4], guard := none },
  { dst := some 19, op := .load 6 true false (.tmp 2), after := [5], guard := some (18, true) },
  { dst := some 20, op := .copy false (.tmp 1), after := [5], guard := some (18, true) },
  { dst := some 21, op := .copy false (.tmp 6), after := [5], guard := some (18, true) },
  { dst := some 22, op := .iad 5 (.tmp 20) (.tmp 21), after := [7, 8, 5], guard := some (18, true) },
  { dst := some 23, op := .fad 3 (.tmp 22), after := [9, 5], guard := some (18, true) },
  { dst := some 24, op := .load 1 false false (.tmp 23), after := [10, 5], guard := some (18, true) },
  { dst := some 25, op := .call (.func 17) [.tmp 19, .tmp 24], after := [6, 11, 5, 5], guard := some (18, true) },
  { dst := some 26, op := .bin .lss (.tmp 25) (.const (.int .i64 0)), after := [12, 5], guard := some (18, true) },
  { dst := some 27, op := .pick (.tmp 18) (.tmp 26) (.const (.bool false)), after := [5, 13], guard := none }]
def F28r5 : List ROp := [{ dst := some 28, op := .copy false (.tmp 1), after := [], guard := none },
  { dst := some 29, op := .copy false (.tmp 6), after := [], guard := none },
  { dst := some 30, op := .iad 5 (.tmp 28) (.tmp 29), after := [0, 1], guard := none },
  { dst := some 31, op := .fad 1 (.tmp 30), after := [2], guard := none },
  { dst := some 32, op := .load 2 true false (.tmp 31), after := [3], guard := none },
  { dst := none, op := .store 2 true (.tmp 4) (.tmp 32), after := [4, 0, 1, 2, 3, 4], guard := none },
  { dst := some 5, op := .copy true (.const (.int .i64 63)), after := [5, 0, 1, 2, 3, 4, 5], guard := none }]
def F28r6 : List ROp := [{ dst := some 33, op := .build [Value.int .i64 0, Value.int .i64 0] [], after := [], guard := none },
  { dst := none, op := .store 2 true (.tmp 4) (.tmp 33), after := [0, 0], guard := none },
  { dst := some 5, op := .copy true (.const (.int .i64 0)), after := [1, 0, 1], guard := none }]
def st17 (m : MMod) (nm : ByteArray) (k : Nat) : AS := { tm := [(1, sval nm), (2, .ptr 2 0), (5, ival k)], hp := [(2, .cells 28 (modCells m))] }
theorem At_ok (m : MMod) (nm : ByteArray) (hm : m.ok) : Con Try.prog 17 [encMod m, sval nm] (ival (At m nm)) := by
  have hl := hm.rels
  refine Con.of_code Try.func17 (by kernel_rfl) rfl (by simp [Try.ntmps17]) fun C hC hM => ?_
  refine AWp.seq ?_
  repeat refine AWp.seq ?_
  refine AWp.reg [false, true] F17r0 [] (by kernel_rfl) (by rw [hC]; rfl) fun K hK => ?_
  simp [F17r0]
  refine hK _ ?_
  refine AWp.seq (AWp.seq ?_)
  repeat refine AWp.seq ?_
  refine AWp.reg [true] F17r1 [] (by kernel_rfl) (by rw [hC]; rfl) fun K hK => ?_
  simp [F17r1]
  refine hK _ ?_
  refine AWp.block ?_
  refine AWp.loopG (st17 m nm) (fun k => k ≤ m.rels.length ∧ At m nm = atN (m.rels.drop k) nm k) (fun k => m.rels.length - k) 0 (by simp [At]) (by simp [st17]) (fun k hk => ?_)
  obtain ⟨hk1, hk2⟩ := hk
  refine AWp.seq (AWp.seq ?_)
  repeat refine AWp.seq ?_
  refine AWp.reg [] F17r2 [] (by kernel_rfl) (by rw [hC]; rfl) fun K hK => ?_
  simp [F17r2, st17]
  refine hK _ ?_
  refine AWp.cond (decide (k < m.rels.length)) (by simp) (fun hlt => ?_) (fun hge => ?_)
  · have hlt : k < m.rels.length := by simpa using hlt
    refine AWp.skip ?_
    refine AWp.seq (AWp.block (AWp.seq ?_))
    repeat refine AWp.seq ?_
    refine AWp.reg [] F17r4 [] (by kernel_rfl) (by rw [hC]; rfl) fun K hK => ?_
    simp [F17r4, hlt]
    refine hK _ ?_
    have hd := atN_drop m.rels nm k hlt
    refine AWp.cond (decide (m.rels[k].name = nm)) (by simp) (fun he => ?_) (fun he => ?_)
    · have he : m.rels[k].name = nm := by simpa using he
      refine AWp.seq ?_
      repeat refine AWp.seq ?_
      refine AWp.reg [true, true] F17r5 [] (by kernel_rfl) (by rw [hC]; rfl) fun K hK => ?_
      simp [F17r5]
      refine hK _ ?_
      repeat refine AWp.seq ?_
      refine AWp.ret ⟨.inr rfl, _, by simp [Try.results17] <;> rfl, ?_⟩
      rw [hk2, hd, if_pos he]
      exact .closed rfl
    · have he : ¬ m.rels[k].name = nm := by simpa using he
      refine AWp.skip ?_
      repeat refine AWp.seq ?_
      refine AWp.reg [false, false, true] F17r3 [] (by kernel_rfl) (by rw [hC]; rfl) fun K hK => ?_
      simp [F17r3]
      refine hK _ ⟨k + 1, ⟨by omega, by rw [hk2, hd, if_neg he]⟩, by omega, ?_⟩
      simp [st17, wrap_nat k (by omega)]
  · have hge : ¬ k < m.rels.length := by simpa using hge
    refine AWp.exit (AWp.seq ?_)
    repeat refine AWp.seq ?_
    refine AWp.reg [true] F17r6 [] (by kernel_rfl) (by rw [hC]; rfl) fun K hK => ?_
    simp [F17r6]
    refine hK _ ?_
    repeat refine AWp.seq ?_
    refine AWp.ret ⟨.inr rfl, _, by simp [Try.results17] <;> rfl, ?_⟩
    rw [hk2, List.drop_eq_nil_of_le (by omega)]
    exact .closed rfl

theorem Leads_ok (l : LitD) : Con Try.prog 18 [.agg (encLit l)] (bval (leads l)) := by
  refine Con.of_code Try.func18 (by kernel_rfl) rfl (by simp [Try.ntmps18]) fun C hC hM => ?_
  refine AWp.seq ?_
  repeat refine AWp.seq ?_
  refine AWp.reg [false, true] F18r0 [] (by kernel_rfl) (by rw [hC]; rfl) fun K hK => ?_
  simp [F18r0]
  refine hK _ ?_
  refine AWp.seq ?_
  by_cases h1 : l.kind = 1
  · repeat refine AWp.seq ?_
    refine AWp.reg [false, false, false, false, false, false, false, false, true] F18r1 [] (by kernel_rfl) (by rw [hC]; rfl) fun K hK => ?_
    simp [F18r1, h1]
    refine hK _ ?_
    repeat refine AWp.seq ?_
    refine AWp.ret ⟨.inr rfl, _, by simp [Try.results18] <;> rfl, ?_⟩
    simp [leads, h1]
    exact .closed rfl
  · have h1' : (l.kind == 1) = false := by simpa using h1
    repeat refine AWp.seq ?_
    refine AWp.reg [false, false, false, false, false, false, false, false, true] F18r1 [] (by kernel_rfl) (by rw [hC]; rfl) fun K hK => ?_
    simp [F18r1, h1']
    refine hK _ ?_
    repeat refine AWp.seq ?_
    refine AWp.ret ⟨.inr rfl, _, by simp [Try.results18] <;> rfl, ?_⟩
    simp [leads, h1']
    exact .closed rfl

def st26 (r : RuleD) (k : Nat) : AS := { tm := [(1, .ptr 1 0), (3, ival k)], hp := [(1, .cells 52 (encRule r))] }
theorem Grouped_ok (r : RuleD) (hr : r.aggs.length ≤ 1048576) : Con Try.prog 26 [.agg (encRule r)] (bval (grouped r)) := by
  refine Con.of_code Try.func26 (by kernel_rfl) rfl (by simp [Try.ntmps26]) fun C hC hM => ?_
  refine AWp.seq ?_
  repeat refine AWp.seq ?_
  refine AWp.reg [false, true] F26r0 [] (by kernel_rfl) (by rw [hC]; rfl) fun K hK => ?_
  simp [F26r0]
  refine hK _ ?_
  refine AWp.seq (AWp.seq ?_)
  repeat refine AWp.seq ?_
  refine AWp.reg [true] F26r1 [] (by kernel_rfl) (by rw [hC]; rfl) fun K hK => ?_
  simp [F26r1]
  refine hK _ ?_
  refine AWp.block ?_
  refine AWp.loopG (st26 r) (fun k => k ≤ r.aggs.length ∧ grouped r = (r.aggs.drop k).any fun s => !decide (s = ByteArray.empty)) (fun k => r.aggs.length - k) 0 (by simp [grouped]) (by simp [st26]) (fun k hk => ?_)
  obtain ⟨hk1, hk2⟩ := hk
  refine AWp.seq (AWp.seq ?_)
  repeat refine AWp.seq ?_
  refine AWp.reg [] F26r2 [] (by kernel_rfl) (by rw [hC]; rfl) fun K hK => ?_
  simp [F26r2, st26]
  refine hK _ ?_
  refine AWp.cond (decide (k < r.aggs.length)) (by simp) (fun hlt => ?_) (fun hge => ?_)
  · have hlt : k < r.aggs.length := by simpa using hlt
    refine AWp.skip ?_
    refine AWp.seq (AWp.block (AWp.seq ?_))
    repeat refine AWp.seq ?_
    refine AWp.reg [] F26r4 [] (by kernel_rfl) (by rw [hC]; rfl) fun K hK => ?_
    simp [F26r4, hlt]
    refine hK _ ?_
    have hd := any_drop (fun s => !decide (s = ByteArray.empty)) r.aggs k hlt
    refine AWp.cond (!decide (r.aggs[k] = ByteArray.empty)) (by simp; rfl) (fun he => ?_) (fun he => ?_)
    · refine AWp.seq ?_
      repeat refine AWp.seq ?_
      refine AWp.reg [true] F26r5 [] (by kernel_rfl) (by rw [hC]; rfl) fun K hK => ?_
      simp [F26r5]
      refine hK _ ?_
      repeat refine AWp.seq ?_
      refine AWp.ret ⟨.inr rfl, _, by simp [Try.results26] <;> rfl, ?_⟩
      rw [hk2, hd, he]
      exact .closed rfl
    · refine AWp.skip ?_
      repeat refine AWp.seq ?_
      refine AWp.reg [false, false, true] F26r3 [] (by kernel_rfl) (by rw [hC]; rfl) fun K hK => ?_
      simp [F26r3]
      refine hK _ ⟨k + 1, ⟨by omega, by rw [hk2, hd, he]; rfl⟩, by omega, ?_⟩
      simp [st26, wrap_nat k (by omega)]
  · have hge : ¬ k < r.aggs.length := by simpa using hge
    refine AWp.exit (AWp.seq ?_)
    repeat refine AWp.seq ?_
    refine AWp.reg [true] F26r6 [] (by kernel_rfl) (by rw [hC]; rfl) fun K hK => ?_
    simp [F26r6]
    refine hK _ ?_
    repeat refine AWp.seq ?_
    refine AWp.ret ⟨.inr rfl, _, by simp [Try.results26] <;> rfl, ?_⟩
    rw [hk2, List.drop_eq_nil_of_le (by omega)]
    exact .closed rfl

def st28 (m : MMod) (l : List LitD) (k : Nat) : AS := { tm := [(2, .ptr 2 0), (1, encBody l), (4, .ptr 4 0), (6, ival k)], hp := [(2, .cells 28 (modCells m)), (4, .cells 32 [ival 0, ival 0])] }
theorem body_ok (m : MMod) (l : List LitD) (hm : m.ok) (hl : l.length ≤ 1048576) : Con Try.prog 28 [encMod m, encBody l] (encE (bodyE m l)) := by
  refine Con.of_code Try.func28 (by kernel_rfl) rfl (by simp [Try.ntmps28]) fun C hC hM => ?_
  refine AWp.seq ?_
  repeat refine AWp.seq ?_
  refine AWp.reg [false, false, true] F28r0 [] (by kernel_rfl) (by rw [hC]; rfl) fun K hK => ?_
  simp [F28r0]
  refine hK _ ?_
  refine AWp.seq (AWp.seq ?_)
  repeat refine AWp.seq ?_
  refine AWp.reg [true] F28r1 [] (by kernel_rfl) (by rw [hC]; rfl) fun K hK => ?_
  simp [F28r1]
  refine hK _ ?_
  refine AWp.block ?_
  refine AWp.loopG (st28 m l) (fun k => k ≤ l.length ∧ badLit m l = badLit m (l.drop k)) (fun k => l.length - k) 0 (by simp) (by simp [st28]) (fun k hk => ?_)
  obtain ⟨hk1, hk2⟩ := hk
  refine AWp.seq (AWp.seq ?_)
  repeat refine AWp.seq ?_
  refine AWp.reg [] F28r2 [] (by kernel_rfl) (by rw [hC]; rfl) fun K hK => ?_
  simp [F28r2, st28]
  refine hK _ ?_
  refine AWp.cond (decide (k < l.length)) (by simp) (fun hlt => ?_) (fun hge => ?_)
  · have hlt : k < l.length := by simpa using hlt
    have hd := badLit_drop m l k hlt
    refine AWp.skip ?_
    refine AWp.seq (AWp.block (AWp.seq ?_))
    cases hq : leads l[k] with
    | true =>
      repeat refine AWp.seq ?_
      refine AWp.regD ops_mixed [] F28r4 [{ r := bval true }, { r := ival (At m l[k].rel) }] (by kernel_rfl) (by rw [hC]; rfl) rfl (fun K hK => ?_) (by simp [F28r4, hlt] <;> rfl)
      simp [F28r4, hlt]
      refine ⟨callOK rfl (hq ▸ Leads_ok l[k]), callOK rfl (At_ok m _ hm), hK _ ?_⟩
      refine AWp.cond (decide (At m l[k].rel < 0)) (by simp) (fun he => ?_) (fun he => ?_)
      · refine AWp.seq ?_
        repeat refine AWp.seq ?_
        refine AWp.reg [false, false, false, false, false, true, true] F28r5 [] (by kernel_rfl) (by rw [hC]; rfl) fun K hK => ?_
        simp [F28r5, hlt]
        refine hK _ ?_
        repeat refine AWp.seq ?_
        refine AWp.ret ⟨.inr rfl, _, by simp [Try.results28] <;> rfl, ?_⟩
        have he : At m l[k].rel < 0 := by simpa using he
        have h2 : bodyE m l = ((l[k].line, l[k].col), 63) := by simp [bodyE, hk2, hd, hq, he]
        rw [h2]
        exact .closed rfl
      · have he : ¬ At m l[k].rel < 0 := by simpa using he
        refine AWp.skip ?_
        repeat refine AWp.seq ?_
        refine AWp.reg [false, false, true] F28r3 [] (by kernel_rfl) (by rw [hC]; rfl) fun K hK => ?_
        simp [F28r3]
        refine hK _ ⟨k + 1, ⟨by omega, by rw [hk2, hd, if_neg (by simp [he])]⟩, by omega, ?_⟩
        simp [st28, wrap_nat k (by omega)]
    | false =>
      repeat refine AWp.seq ?_
      refine AWp.regD ops_mixed [] F28r4 [{ r := bval false }, {}] (by kernel_rfl) (by rw [hC]; rfl) rfl (fun K hK => ?_) (by simp [F28r4, hlt] <;> rfl)
      simp [F28r4, hlt]
      refine ⟨callOK rfl (hq ▸ Leads_ok l[k]), hK _ ?_⟩
      refine AWp.cond false (by simp) (fun he => by cases he) (fun he => ?_)
      refine AWp.skip ?_
      repeat refine AWp.seq ?_
      refine AWp.reg [false, false, true] F28r3 [] (by kernel_rfl) (by rw [hC]; rfl) fun K hK => ?_
      simp [F28r3]
      refine hK _ ⟨k + 1, ⟨by omega, by rw [hk2, hd, if_neg (by simp [hq])]⟩, by omega, ?_⟩
      simp [st28, wrap_nat k (by omega)]
  · have hge : ¬ k < l.length := by simpa using hge
    refine AWp.exit (AWp.seq ?_)
    repeat refine AWp.seq ?_
    refine AWp.reg [false, true, true] F28r6 [] (by kernel_rfl) (by rw [hC]; rfl) fun K hK => ?_
    simp [F28r6]
    refine hK _ ?_
    repeat refine AWp.seq ?_
    refine AWp.ret ⟨.inr rfl, _, by simp [Try.results28] <;> rfl, ?_⟩
    have h2 : bodyE m l = okE := by simp [bodyE, hk2, List.drop_eq_nil_of_le (by omega : l.length ≤ k), badLit]
    rw [h2]
    exact .closed rfl
