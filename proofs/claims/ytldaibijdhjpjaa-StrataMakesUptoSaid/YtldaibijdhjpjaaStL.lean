/- The law StrataOrder. -/
import Derived.Test.YtldaibijdhjpjaaStJ
import Derived.Test.YtldaibijdhjpjaaStH
import Derived.Test.YtldaibijdhjpjaaStSpL
set_option linter.unusedSimpArgs false
set_option linter.unusedVariables false
open Go Go.Aw Go.Proofs
namespace Go.St
attribute [local simp] ints encE
-- function 6: corollary/corollarylaw15.StrataOrder: 116 slots; results ['(Go.ResultVar.tmp 4)']
def F6r0 : List ROp := [{ dst := some 2, op := .box 28 (.tmp 0), after := [], guard := none },
  { dst := some 4, op := .copy true (.const (.bool false)), after := [], guard := none }]
def F6r1 : List ROp := [{ dst := some 17, op := .call (.func 16) [], after := [], guard := none },
  { dst := some 18, op := .un .not (.tmp 17), after := [0], guard := none },
  { dst := some 19, op := .copy false (.tmp 18), after := [1, 0], guard := none },
  { dst := some 20, op := .load 6 true false (.tmp 2), after := [2], guard := some (19, false) },
  { dst := some 21, op := .call (.func 9) [.tmp 20], after := [3, 2, 2], guard := some (19, false) },
  { dst := some 22, op := .pick (.tmp 19) (.const (.bool true)) (.tmp 21), after := [2, 4], guard := none }]
def F6r2 : List ROp := [{ dst := some 23, op := .call (.func 16) [], after := [], guard := none },
  { dst := some 4, op := .copy true (.tmp 23), after := [0, 0, 0], guard := none }]
def F6r3 : List ROp := [{ dst := some 24, op := .load 6 true false (.tmp 2), after := [], guard := none },
  { dst := some 5, op := .alloc 28 [Value.string ByteArray.empty, Value.slice none 0 0, Value.slice none 0 0, Value.slice none 0 0, Value.slice none 0 0, Value.slice none 0 0], after := [], guard := none },
  { dst := none, op := .store 6 true (.tmp 5) (.tmp 24), after := [1, 0, 0, 1], guard := none }]
def F6r4 : List ROp := [{ dst := some 25, op := .fad 4 (.tmp 5), after := [], guard := none },
  { dst := none, op := .store 1 true (.tmp 25) (.const (.slice none 0 0)), after := [0], guard := none }]
def F6r5 : List ROp := [{ dst := some 26, op := .bslice 52 6 [Value.int .i64 0, Value.int .i64 0, Value.string ByteArray.empty, Value.slice none 0 0, Value.slice none 0 0, Value.slice none 0 0] 0 [], after := [], guard := none },
  { dst := some 27, op := .fad 4 (.tmp 2), after := [], guard := none },
  { dst := some 28, op := .load 1 false false (.tmp 27), after := [1], guard := none },
  { dst := some 29, op := .app 52 6 104 (.tmp 26) (.tmp 28), after := [0, 2], guard := none },
  { dst := some 6, op := .copy true (.tmp 29), after := [3, 3, 0, 1, 2, 3], guard := none }]
def F6r6 : List ROp := [{ dst := some 7, op := .copy true (.const (.int .i64 0)), after := [], guard := none }]
def F6r7 : List ROp := [{ dst := some 30, op := .copy false (.tmp 6), after := [], guard := none },
  { dst := some 31, op := .len 0 (.tmp 30), after := [0], guard := none },
  { dst := some 32, op := .bin .gtr (.tmp 31) (.const (.int .i64 0)), after := [1], guard := none }]
def F6r8 : List ROp := [{ dst := some 33, op := .copy false (.tmp 7), after := [], guard := none },
  { dst := some 34, op := .bin .add (.tmp 33) (.const (.int .i64 1)), after := [0], guard := none },
  { dst := some 7, op := .copy true (.tmp 34), after := [1, 0, 1], guard := none }]
def F6r9 : List ROp := [{ dst := some 8, op := .copy true (.const (.int .i64 0)), after := [], guard := none }]
def F6r10 : List ROp := [{ dst := some 35, op := .copy false (.tmp 7), after := [], guard := none },
  { dst := some 36, op := .copy false (.tmp 1), after := [], guard := none },
  { dst := some 37, op := .len 0 (.tmp 36), after := [1], guard := none },
  { dst := some 38, op := .bin .lss (.tmp 35) (.tmp 37), after := [0, 2], guard := none }]
def F6r11 : List ROp := [{ dst := some 39, op := .copy false (.tmp 1), after := [], guard := none },
  { dst := some 40, op := .copy false (.tmp 7), after := [], guard := none },
  { dst := some 41, op := .iad 1 (.tmp 39) (.tmp 40), after := [0, 1], guard := none },
  { dst := some 42, op := .load 1 false false (.tmp 41), after := [2], guard := none },
  { dst := some 43, op := .conv .u64 (.tmp 42), after := [3], guard := none },
  { dst := some 44, op := .copy false (.tmp 6), after := [], guard := none },
  { dst := some 45, op := .len 0 (.tmp 44), after := [5], guard := none },
  { dst := some 46, op := .conv .u64 (.tmp 45), after := [6], guard := none },
  { dst := some 47, op := .bin .rem (.tmp 43) (.tmp 46), after := [4, 7], guard := none },
  { dst := some 48, op := .conv .i64 (.tmp 47), after := [8], guard := none },
  { dst := some 8, op := .copy true (.tmp 48), after := [9, 0, 1, 2, 3, 4, 5, 6, 7, 8, 9], guard := none }]
def F6r12 : List ROp := [{ dst := some 49, op := .copy false (.tmp 6), after := [], guard := none },
  { dst := some 50, op := .copy false (.tmp 8), after := [], guard := none },
  { dst := some 51, op := .iad 6 (.tmp 49) (.tmp 50), after := [0, 1], guard := none },
  { dst := some 52, op := .load 6 true false (.tmp 51), after := [2], guard := none },
  { dst := some 9, op := .alloc 52 [Value.int .i64 0, Value.int .i64 0, Value.string ByteArray.empty, Value.slice none 0 0, Value.slice none 0 0, Value.slice none 0 0], after := [], guard := none },
  { dst := none, op := .store 6 true (.tmp 9) (.tmp 52), after := [4, 3, 0, 1, 2, 3, 4], guard := none }]
def F6r13 : List ROp := [{ dst := some 53, op := .fad 5 (.tmp 9), after := [], guard := none },
  { dst := none, op := .store 1 true (.tmp 53) (.const (.slice none 0 0)), after := [0], guard := none }]
def F6r14 : List ROp := [{ dst := some 54, op := .copy false (.tmp 6), after := [], guard := none },
  { dst := some 55, op := .copy false (.tmp 8), after := [], guard := none },
  { dst := some 56, op := .iad 6 (.tmp 54) (.tmp 55), after := [0, 1], guard := none },
  { dst := some 57, op := .fad 5 (.tmp 56), after := [2], guard := none },
  { dst := some 58, op := .load 1 false false (.tmp 57), after := [3], guard := none },
  { dst := some 59, op := .len 0 (.tmp 58), after := [4], guard := none },
  { dst := some 60, op := .bin .sub (.tmp 59) (.const (.int .i64 1)), after := [5], guard := none },
  { dst := some 10, op := .copy true (.tmp 60), after := [6, 0, 1, 2, 3, 4, 5, 6], guard := none }]
def F6r15 : List ROp := [{ dst := some 61, op := .copy false (.tmp 10), after := [], guard := none },
  { dst := some 62, op := .bin .geq (.tmp 61) (.const (.int .i64 0)), after := [0], guard := none }]
def F6r16 : List ROp := [{ dst := some 63, op := .copy false (.tmp 10), after := [], guard := none },
  { dst := some 64, op := .bin .sub (.tmp 63) (.const (.int .i64 1)), after := [0], guard := none },
  { dst := some 10, op := .copy true (.tmp 64), after := [1, 0, 1], guard := none }]
def F6r17 : List ROp := [{ dst := some 65, op := .fad 5 (.tmp 9), after := [], guard := none },
  { dst := some 66, op := .load 1 false true (.tmp 65), after := [0], guard := none },
  { dst := some 67, op := .copy false (.tmp 6), after := [], guard := none },
  { dst := some 68, op := .copy false (.tmp 8), after := [], guard := none },
  { dst := some 69, op := .iad 6 (.tmp 67) (.tmp 68), after := [2, 3], guard := none },
  { dst := some 70, op := .fad 5 (.tmp 69), after := [4], guard := none },
  { dst := some 71, op := .load 1 false false (.tmp 70), after := [5], guard := none },
  { dst := some 72, op := .copy false (.tmp 10), after := [], guard := none },
  { dst := some 73, op := .iad 5 (.tmp 71) (.tmp 72), after := [6, 7], guard := none },
  { dst := some 74, op := .load 5 true false (.tmp 73), after := [8], guard := none },
  { dst := some 75, op := .bslice 56 5 [Value.int .u8 0, Value.int .i64 0, Value.int .i64 0, Value.string ByteArray.empty, Value.slice none 0 0] 1 [(0, .tmp 74)], after := [9], guard := none },
  { dst := some 76, op := .app 56 5 64 (.tmp 66) (.tmp 75), after := [1, 10], guard := none },
  { dst := some 77, op := .fad 5 (.tmp 9), after := [0, 1, 2, 3, 4, 5, 6, 7, 8, 9, 10, 11], guard := none },
  { dst := none, op := .store 1 true (.tmp 77) (.tmp 76), after := [12, 11, 11, 0, 1, 2, 3, 4, 5, 6, 7, 8, 9, 10, 11], guard := none }]
def F6r18 : List ROp := [{ dst := some 78, op := .fad 4 (.tmp 5), after := [], guard := none },
  { dst := some 79, op := .load 1 false true (.tmp 78), after := [0], guard := none },
  { dst := some 80, op := .load 6 true false (.tmp 9), after := [], guard := none },
  { dst := some 81, op := .bslice 52 6 [Value.int .i64 0, Value.int .i64 0, Value.string ByteArray.empty, Value.slice none 0 0, Value.slice none 0 0, Value.slice none 0 0] 1 [(0, .tmp 80)], after := [2], guard := none },
  { dst := some 82, op := .app 52 6 104 (.tmp 79) (.tmp 81), after := [1, 3], guard := none },
  { dst := some 83, op := .fad 4 (.tmp 5), after := [0, 1, 2, 3, 4], guard := none },
  { dst := none, op := .store 1 true (.tmp 83) (.tmp 82), after := [5, 4, 4, 0, 1, 2, 3, 4], guard := none }]
def F6r19 : List ROp := [{ dst := some 84, op := .bslice 52 6 [Value.int .i64 0, Value.int .i64 0, Value.string ByteArray.empty, Value.slice none 0 0, Value.slice none 0 0, Value.slice none 0 0] 0 [], after := [], guard := none },
  { dst := some 85, op := .copy false (.tmp 6), after := [], guard := none },
  { dst := some 86, op := .copy false (.tmp 8), after := [], guard := none },
  { dst := some 87, op := .sub 6 (.tmp 85) none (some (.tmp 86)) none, after := [1, 2], guard := none },
  { dst := some 88, op := .app 52 6 104 (.tmp 84) (.tmp 87), after := [0, 3], guard := none },
  { dst := some 89, op := .copy false (.tmp 6), after := [], guard := none },
  { dst := some 90, op := .copy false (.tmp 8), after := [], guard := none },
  { dst := some 91, op := .bin .add (.tmp 90) (.const (.int .i64 1)), after := [6], guard := none },
  { dst := some 92, op := .sub 6 (.tmp 89) (some (.tmp 91)) none none, after := [5, 7], guard := none },
  { dst := some 93, op := .app 52 6 104 (.tmp 88) (.tmp 92), after := [4, 8, 4], guard := none },
  { dst := some 6, op := .copy true (.tmp 93), after := [9, 9, 0, 1, 2, 3, 4, 5, 6, 7, 8, 9], guard := none }]
def F6r20 : List ROp := [{ dst := some 95, op := .load 6 true false (.tmp 2), after := [], guard := none },
  { dst := some 96, op := .call (.func 14) [.tmp 95], after := [0], guard := none },
  { dst := some 94, op := .copy false (.tmp 96), after := [1], guard := none },
  { dst := some 97, op := .ext (.tmp 94) 0, after := [2], guard := none },
  { dst := some 98, op := .ext (.tmp 94) 1, after := [2], guard := none },
  { dst := some 99, op := .ext (.tmp 94) 2, after := [2], guard := none },
  { dst := some 11, op := .alloc 42 [Value.slice none 0 0, Value.slice none 0 0, Value.slice none 0 0], after := [], guard := none },
  { dst := some 12, op := .alloc 32 [Value.int .i64 0, Value.int .i64 0], after := [], guard := none },
  { dst := none, op := .store 3 true (.tmp 11) (.tmp 97), after := [6, 3, 1, 0, 1, 2, 3, 6, 7], guard := none },
  { dst := none, op := .store 2 true (.tmp 12) (.tmp 98), after := [7, 4, 8, 0, 1, 2, 3, 4, 6, 7, 8], guard := none },
  { dst := some 13, op := .copy true (.tmp 99), after := [5, 9, 0, 1, 2, 3, 4, 5, 6, 7, 8, 9], guard := none }]
def F6r21 : List ROp := [{ dst := some 101, op := .load 6 true false (.tmp 5), after := [], guard := none },
  { dst := some 102, op := .call (.func 14) [.tmp 101], after := [0], guard := none },
  { dst := some 100, op := .copy false (.tmp 102), after := [1], guard := none },
  { dst := some 103, op := .ext (.tmp 100) 0, after := [2], guard := none },
  { dst := some 104, op := .ext (.tmp 100) 1, after := [2], guard := none },
  { dst := some 105, op := .ext (.tmp 100) 2, after := [2], guard := none },
  { dst := some 14, op := .alloc 42 [Value.slice none 0 0, Value.slice none 0 0, Value.slice none 0 0], after := [], guard := none },
  { dst := some 15, op := .alloc 32 [Value.int .i64 0, Value.int .i64 0], after := [], guard := none },
  { dst := none, op := .store 3 true (.tmp 14) (.tmp 103), after := [6, 3, 1, 0, 1, 2, 3, 6, 7], guard := none },
  { dst := none, op := .store 2 true (.tmp 15) (.tmp 104), after := [7, 4, 8, 0, 1, 2, 3, 4, 6, 7, 8], guard := none },
  { dst := some 16, op := .copy true (.tmp 105), after := [5, 9, 0, 1, 2, 3, 4, 5, 6, 7, 8, 9], guard := none }]
def F6r22 : List ROp := [{ dst := some 106, op := .copy false (.tmp 13), after := [], guard := none },
  { dst := some 107, op := .copy false (.tmp 16), after := [], guard := none },
  { dst := some 108, op := .bin .eql (.tmp 106) (.tmp 107), after := [0, 1], guard := none },
  { dst := some 109, op := .copy false (.tmp 108), after := [2], guard := none },
  { dst := some 110, op := .fad 0 (.tmp 11), after := [3], guard := some (109, true) },
  { dst := some 111, op := .load 1 false false (.tmp 110), after := [4, 3], guard := some (109, true) },
  { dst := some 112, op := .fad 0 (.tmp 14), after := [3], guard := some (109, true) },
  { dst := some 113, op := .load 1 false false (.tmp 112), after := [6, 3], guard := some (109, true) },
  { dst := some 114, op := .call (.func 15) [.tmp 111, .tmp 113], after := [5, 7, 3, 3], guard := some (109, true) },
  { dst := some 115, op := .pick (.tmp 109) (.tmp 114) (.const (.bool false)), after := [3, 8], guard := none },
  { dst := some 4, op := .copy true (.tmp 115), after := [9, 8, 0, 1, 2, 3, 4, 5, 6, 7, 8, 9], guard := none }]
def ordRules (out : List RuleD) : AV := .own 52 6 (out.map encRule)
def st6 (m : MMod) (picks : List Int) (i : Nat) (left out : List RuleD) (ts : List (Nat × AV)) : AS := { tm := [(1, .rd 1 (picks.map fun n => [ival n])), (2, .ptr 2 0), (5, .ptr 5 0), (6, .own 52 6 (left.map encRule)), (7, ival i)] ++ ts, hp := [(2, .cells 28 (modCells m)), (5, .cells 28 [sval m.name, .val m.imports.v, .val m.types.v, .rd 6 (m.rels.map encRel), ordRules out, .rd 4 (m.nevers.map encNev)])] }
def st6b (m : MMod) (picks : List Int) (i : Nat) (left out : List RuleD) (k : Nat) (r : RuleD) (body : List LitD) (ts : List (Nat × AV)) : AS := { tm := [(1, .rd 1 (picks.map fun n => [ival n])), (2, .ptr 2 0), (5, .ptr 5 0), (6, .own 52 6 (left.map encRule)), (7, ival i), (8, ival k), (9, .ptr 9 0)] ++ ts, hp := [(2, .cells 28 (modCells m)), (5, .cells 28 [sval m.name, .val m.imports.v, .val m.types.v, .rd 6 (m.rels.map encRel), ordRules out, .rd 4 (m.nevers.map encNev)]), (9, .cells 52 [ival r.line, ival r.col, sval r.rel, .val r.args.v, .rd 1 (r.aggs.map encText), .own 56 5 (body.map encLit)])] }
/-- the rules, under way -/
structure Ordr (m : MMod) (left out : List RuleD) : Prop where
  len : left.length + out.length = m.rules.length
  inl : ∀ r ∈ left, r ∈ m.rules
  ino : ∀ r' ∈ out, ∃ r ∈ m.rules, r' = revR r
  all : ∀ r ∈ m.rules, r ∈ left ∨ revR r ∈ out
theorem Ordr.step {m : MMod} {left out : List RuleD} (h : Ordr m left out) {k : Nat} (hk : k < left.length) : Ordr m (left.take k ++ left.drop (k + 1)) (out ++ [revR left[k]]) := by
  refine ⟨?_, fun r hr => ?_, fun r' hr' => ?_, fun r hr => ?_⟩
  · have := h.len; simp; omega
  · refine h.inl r ?_
    rcases List.mem_append.1 hr with hr | hr
    · exact List.mem_of_mem_take hr
    · exact List.mem_of_mem_drop hr
  · rcases List.mem_append.1 hr' with hr' | hr'
    · exact h.ino r' hr'
    · simp at hr'; subst hr'; exact ⟨left[k], h.inl _ (List.getElem_mem hk), rfl⟩
  · rcases h.all r hr with h1 | h1
    · obtain ⟨i, hi, e⟩ := List.mem_iff_getElem.1 h1
      by_cases hik : i = k
      · subst hik; subst e; exact .inr (by simp)
      · left
        by_cases hlt : i < k
        · refine List.mem_append_left _ (List.mem_iff_getElem.2 ⟨i, by simp; omega, ?_⟩)
          simp [e]
        · refine List.mem_append_right _ (List.mem_iff_getElem.2 ⟨i - (k + 1), by simp; omega, ?_⟩)
          have : k + 1 + (i - (k + 1)) = i := by omega
          simp [this, e]
    · exact .inr (by simp [h1])
theorem leastOf_len (g : Graph) : (leastOf g).length ≤ g.n := by
  unfold leastOf
  by_cases h : ∃ of, IsLeast g of
  · rw [dif_pos h, h.choose_spec.len]
    exact Nat.le_refl _
  · rw [dif_neg h]; simp
theorem progMake_len (m : MMod) : (progMake m).1.of.length ≤ m.rels.length := by
  unfold progMake
  split
  · cases hr : refuse1 (graphOf m) (graphOf m).pairs with
    | some p => rw [makeOf_some hr]; simp
    | none =>
      rw [makeOf_none hr]
      have := leastOf_len (graphOf m)
      have e : (strataOf (graphOf m) (leastOf (graphOf m))).of = leastOf (graphOf m) := by unfold strataOf; split <;> rfl
      simp only [e]
      exact this
  · simp
theorem StrataOrder_con (m : MMod) (picks : List Int) (hm : m.ok) (hp : picks.length ≤ 1048576) : Con Try.prog 6 [encMod m, .rd 1 (picks.map fun n => [ival n])] (bval true) := by
  have hla := large_ok m hm
  have hwk := works_ok
  refine Con.of_code Try.func6 (by kernel_rfl) rfl (by simp [Try.ntmps6]) fun C hC hM => ?_
  refine AWp.seq ?_
  refine AWp.reg [false, true] F6r0 [] (by kernel_rfl) (by rw [hC]; rfl) fun K hK => ?_
  simp [F6r0]
  first | refine hK _ ?_ | refine ⟨by omega, hK _ ?_⟩ | refine ⟨by omega, by omega, hK _ ?_⟩ | refine ⟨by omega, by omega, by omega, hK _ ?_⟩ | refine ⟨by omega, by omega, by omega, by omega, hK _ ?_⟩
  refine AWp.seq ?_
  refine AWp.seq ?_
  refine AWp.reg [] F6r1 [{ r := bval true }, { r := bval (largeB m) }] (by kernel_rfl) (by rw [hC]; rfl) fun K hK => ?_
  simp [F6r1]
  refine ⟨callOK rfl hwk, callOK rfl hla, hK _ ?_⟩
  cases hl : largeB m with
  | true =>
    refine AWp.cond true (by simp) (fun _ => ?_) (fun he => by cases he)
    refine AWp.seq ?_
    refine AWp.reg [false, true] F6r2 [{ r := bval true }] (by kernel_rfl) (by rw [hC]; rfl) fun K hK => ?_
    simp [F6r2]
    refine ⟨callOK rfl hwk, hK _ ?_⟩
    repeat refine AWp.seq ?_
    refine AWp.ret ⟨.inr rfl, _, by simp [Try.results6] <;> rfl, ?_⟩
    exact .closed rfl
  | false =>
    have hs := Small.of hl
    have hmr := hs.rules
    have hmk := Make_ok m hm hs
    refine AWp.cond false (by simp) (fun he => by cases he) (fun _ => ?_)
    refine AWp.skip ?_
    refine AWp.seq ?_
    refine AWp.reg [false, false, true] F6r3 [] (by kernel_rfl) (by rw [hC]; rfl) fun K hK => ?_
    simp [F6r3]
    first | refine hK _ ?_ | refine ⟨by omega, hK _ ?_⟩ | refine ⟨by omega, by omega, hK _ ?_⟩ | refine ⟨by omega, by omega, by omega, hK _ ?_⟩ | refine ⟨by omega, by omega, by omega, by omega, hK _ ?_⟩
    refine AWp.seq ?_
    refine AWp.reg [false, true] F6r4 [] (by kernel_rfl) (by rw [hC]; rfl) fun K hK => ?_
    simp [F6r4]
    first | refine hK _ ?_ | refine ⟨by omega, hK _ ?_⟩ | refine ⟨by omega, by omega, hK _ ?_⟩ | refine ⟨by omega, by omega, by omega, hK _ ?_⟩ | refine ⟨by omega, by omega, by omega, by omega, hK _ ?_⟩
    refine AWp.seq ?_
    refine AWp.reg [false, false, false, false, true] F6r5 [] (by kernel_rfl) (by rw [hC]; rfl) fun K hK => ?_
    simp [F6r5]
    first | refine hK _ ?_ | refine ⟨by omega, hK _ ?_⟩ | refine ⟨by omega, by omega, hK _ ?_⟩ | refine ⟨by omega, by omega, by omega, hK _ ?_⟩ | refine ⟨by omega, by omega, by omega, by omega, hK _ ?_⟩
    refine AWp.seq ?_
    refine AWp.seq ?_
    refine AWp.reg [true] F6r6 [] (by kernel_rfl) (by rw [hC]; rfl) fun K hK => ?_
    simp [F6r6]
    first | refine hK _ ?_ | refine ⟨by omega, hK _ ?_⟩ | refine ⟨by omega, by omega, hK _ ?_⟩ | refine ⟨by omega, by omega, by omega, hK _ ?_⟩ | refine ⟨by omega, by omega, by omega, by omega, hK _ ?_⟩
    refine AWp.block ?_
    refine AWp.loopG (fun q : Nat × List RuleD × List RuleD => st6 m picks q.1 q.2.1 q.2.2 []) (fun q => q.1 = q.2.2.length ∧ Ordr m q.2.1 q.2.2) (fun q => q.2.1.length) (0, m.rules, []) ⟨rfl, by simp, fun _ h => h, by simp, fun r hr => .inl hr⟩ (by simp [st6, ordRules]) (fun q hq => ?_)
    obtain ⟨i, left, out⟩ := q
    obtain ⟨hi, ho⟩ := hq
    simp only at hi ho
    have hlen := ho.len
    refine AWp.seq ?_
    refine AWp.seq ?_
    refine AWp.reg [] F6r7 [] (by kernel_rfl) (by rw [hC]; rfl) fun K hK => ?_
    simp [F6r7, st6, ordRules]
    first | refine hK _ ?_ | refine ⟨by omega, hK _ ?_⟩ | refine ⟨by omega, by omega, hK _ ?_⟩ | refine ⟨by omega, by omega, by omega, hK _ ?_⟩ | refine ⟨by omega, by omega, by omega, by omega, hK _ ?_⟩
    refine AWp.cond (decide (0 < left.length)) (by simp) (fun hne => ?_) (fun hem => ?_)
    · skip
      have hne : 0 < left.length := by simpa using hne
      refine AWp.skip ?_
      refine AWp.seq ?_
      refine AWp.block ?_
      refine AWp.seq ?_
      refine AWp.reg [true] F6r9 [] (by kernel_rfl) (by rw [hC]; rfl) fun K hK => ?_
      simp [F6r9]
      first | refine hK _ ?_ | refine ⟨by omega, hK _ ?_⟩ | refine ⟨by omega, by omega, hK _ ?_⟩ | refine ⟨by omega, by omega, by omega, hK _ ?_⟩ | refine ⟨by omega, by omega, by omega, by omega, hK _ ?_⟩
      refine AWp.seqJ (fun k : Nat => st6 m picks i left out [(8, ival k)]) (fun k => k < left.length) ?_ (fun hJ => ?_)
      · skip
        intro k hk
        have hstep := ho.step hk
        have hrm := ho.inl _ (List.getElem_mem hk)
        obtain ⟨r, hr⟩ : ∃ r, left[k] = r := ⟨_, rfl⟩
        rw [hr] at hstep hrm
        have hrb := hs.bodies r hrm
        have hwk1 : IntKind.i64.wrap ((k : Int) + 1) = ((k + 1 : Nat) : Int) := wrap_nat k (by omega)
        have hmn : min (k + 1) left.length = k + 1 := by omega
        have hwb : IntKind.i64.wrap ((r.body.length : Int) - 1) = (r.body.length : Int) - 1 := wrap_in (by omega) (by omega)
        refine AWp.seq ?_
        refine AWp.reg [false, false, false, false, false, true] F6r12 [] (by kernel_rfl) (by rw [hC]; rfl) fun K hK => ?_
        simp [F6r12, st6, ordRules, hk, hr, hwb]
        first | refine hK _ ?_ | refine ⟨by omega, hK _ ?_⟩ | refine ⟨by omega, by omega, hK _ ?_⟩ | refine ⟨by omega, by omega, by omega, hK _ ?_⟩ | refine ⟨by omega, by omega, by omega, by omega, hK _ ?_⟩
        refine AWp.seq ?_
        refine AWp.reg [false, true] F6r13 [] (by kernel_rfl) (by rw [hC]; rfl) fun K hK => ?_
        simp [F6r13, st6, ordRules, hk, hr, hwb]
        first | refine hK _ ?_ | refine ⟨by omega, hK _ ?_⟩ | refine ⟨by omega, by omega, hK _ ?_⟩ | refine ⟨by omega, by omega, by omega, hK _ ?_⟩ | refine ⟨by omega, by omega, by omega, by omega, hK _ ?_⟩
        refine AWp.seq ?_
        refine AWp.seq ?_
        refine AWp.reg [false, false, false, false, false, false, false, true] F6r14 [] (by kernel_rfl) (by rw [hC]; rfl) fun K hK => ?_
        simp [F6r14, st6, ordRules, hk, hr, hwb]
        first | refine hK _ ?_ | refine ⟨by omega, hK _ ?_⟩ | refine ⟨by omega, by omega, hK _ ?_⟩ | refine ⟨by omega, by omega, by omega, hK _ ?_⟩ | refine ⟨by omega, by omega, by omega, by omega, hK _ ?_⟩
        refine AWp.block ?_
        refine AWp.loopG (fun c : Nat => st6b m picks i left out k r (r.body.reverse.take c) [(10, ival ((r.body.length : Int) - 1 - c))]) (fun c => c ≤ r.body.length) (fun c => r.body.length - c) 0 (by simp) (by simp [st6b, ordRules]) (fun c hc => ?_)
        have htk : ∀ hlt : c < r.body.length, r.body.reverse.take (c + 1) = r.body.reverse.take c ++ [r.body[r.body.length - 1 - c]] := by
          intro hlt
          rw [List.take_succ_eq_append_getElem (by simpa using hlt)]
          simp
        have hend : r.body.length ≤ c → r.body.reverse.take c = r.body.reverse := fun h => List.take_of_length_le (by simpa using h)
        have hbl : (r.body.reverse.take c).length = c := by simp; omega
        generalize r.body.reverse.take c = body at *
        refine AWp.seq ?_
        refine AWp.seq ?_
        refine AWp.reg [] F6r15 [] (by kernel_rfl) (by rw [hC]; rfl) fun K hK => ?_
        simp [F6r15, st6b, ordRules]
        first | refine hK _ ?_ | refine ⟨by omega, hK _ ?_⟩ | refine ⟨by omega, by omega, hK _ ?_⟩ | refine ⟨by omega, by omega, by omega, hK _ ?_⟩ | refine ⟨by omega, by omega, by omega, by omega, hK _ ?_⟩
        refine AWp.cond (decide ((c : Int) ≤ (r.body.length : Int) - 1)) (by simp) (fun hlt => ?_) (fun hge => ?_)
        · skip
          have hlt : c < r.body.length := by simp at hlt; omega
          obtain ⟨j, hj⟩ : ∃ j, r.body.length - 1 - c = j := ⟨_, rfl⟩
          have hjl : j < r.body.length := by omega
          have hji : (r.body.length : Int) - 1 - c = (j : Int) := by omega
          have hwj : IntKind.i64.wrap ((j : Int) - 1) = (j : Int) - 1 := wrap_in (by omega) (by omega)
          have htk := htk hlt
          simp only [hj] at htk
          rw [hji]
          refine AWp.skip ?_
          refine AWp.seq ?_
          refine AWp.block ?_
          refine AWp.regD ops_mixed [false, true, false, false, false, false, false, false, false, false, false, false, false, true] F6r17 [] (by kernel_rfl) (by rw [hC]; rfl) rfl (fun K hK => ?_) (by simp [F6r17, hk, hr, hjl, hwj] <;> rfl)
          simp [F6r17, hk, hr, hjl, hwj]
          first | refine hK _ ?_ | refine ⟨by omega, hK _ ?_⟩ | refine ⟨by omega, by omega, hK _ ?_⟩ | refine ⟨by omega, by omega, by omega, hK _ ?_⟩ | refine ⟨by omega, by omega, by omega, by omega, hK _ ?_⟩
          refine AWp.reg [false, false, true] F6r16 [] (by kernel_rfl) (by rw [hC]; rfl) fun K hK => ?_
          simp [F6r16, hk, hr, hjl, hwj]
          first | refine hK _ ?_ | refine ⟨by omega, hK _ ?_⟩ | refine ⟨by omega, by omega, hK _ ?_⟩ | refine ⟨by omega, by omega, by omega, hK _ ?_⟩ | refine ⟨by omega, by omega, by omega, by omega, hK _ ?_⟩
          refine ⟨c + 1, by omega, by omega, ?_⟩
          rw [htk]
          have : (r.body.length : Int) - 1 - ((c : Int) + 1) = (j : Int) - 1 := by omega
          simp [st6b, ordRules, this]
        have hge : ¬ c < r.body.length := by simp at hge; omega
        have hend := hend (by omega)
        subst hend
        refine AWp.exit ?_
        refine AWp.seq ?_
        refine AWp.reg [false, true, false, false, false, false, true] F6r18 [] (by kernel_rfl) (by rw [hC]; rfl) fun K hK => ?_
        simp [F6r18, hk, hr, hwk1]
        first | refine hK _ ?_ | refine ⟨by omega, hK _ ?_⟩ | refine ⟨by omega, by omega, hK _ ?_⟩ | refine ⟨by omega, by omega, by omega, hK _ ?_⟩ | refine ⟨by omega, by omega, by omega, by omega, hK _ ?_⟩
        refine AWp.regD ops_mixed [false, false, false, false, false, false, false, false, false, false, true] F6r19 [] (by kernel_rfl) (by rw [hC]; rfl) rfl (fun K hK => ?_) (by simp [F6r19, hk, hr, hwk1] <;> rfl)
        simp [F6r19, hk, hr, hwk1]
        first | refine hK _ ?_ | refine ⟨by omega, hK _ ?_⟩ | refine ⟨by omega, by omega, hK _ ?_⟩ | refine ⟨by omega, by omega, by omega, hK _ ?_⟩ | refine ⟨by omega, by omega, by omega, by omega, hK _ ?_⟩
        refine AWp.reg [false, false, true] F6r8 [] (by kernel_rfl) (by rw [hC]; rfl) fun K hK => ?_
        simp [F6r8, hk, hr, hwk1]
        first | refine hK _ ?_ | refine ⟨by omega, hK _ ?_⟩ | refine ⟨by omega, by omega, hK _ ?_⟩ | refine ⟨by omega, by omega, by omega, hK _ ?_⟩ | refine ⟨by omega, by omega, by omega, by omega, hK _ ?_⟩
        refine ⟨(i + 1, left.take k ++ left.drop (k + 1), out ++ [revR r]), ⟨by simp; omega, hstep⟩, by simp; omega, ?_⟩
        simp [st6, ordRules, revR, wrap_nat i (by omega)]
      · skip
        refine AWp.seq ?_
        refine AWp.reg [] F6r10 [] (by kernel_rfl) (by rw [hC]; rfl) fun K hK => ?_
        simp [F6r10]
        first | refine hK _ ?_ | refine ⟨by omega, hK _ ?_⟩ | refine ⟨by omega, by omega, hK _ ?_⟩ | refine ⟨by omega, by omega, by omega, hK _ ?_⟩ | refine ⟨by omega, by omega, by omega, by omega, hK _ ?_⟩
        by_cases hip : i < picks.length
        · have hip' : decide (i < picks.length) = true := by simpa using hip
          refine AWp.cond true (by simp [hip']) (fun _ => ?_) (fun he => by cases he)
          have hu : IntKind.u64.wrap ((left.length : Nat) : Int) = (left.length : Int) := by unfold IntKind.wrap; simp [IntKind.signed, IntKind.bits]; omega
          have hu0 : 0 ≤ IntKind.u64.wrap picks[i] := by unfold IntKind.wrap; simp [IntKind.signed, IntKind.bits]; omega
          have hlp : (0 : Int) < (left.length : Int) := by omega
          obtain ⟨k, hk⟩ : ∃ k : Nat, IntKind.u64.wrap picks[i] % (left.length : Int) = (k : Int) := ⟨_, (Int.toNat_of_nonneg (Int.emod_nonneg _ (Int.ne_of_gt hlp))).symm⟩
          have hkl : k < left.length := by have := Int.emod_lt_of_pos (IntKind.u64.wrap picks[i]) hlp; rw [hk] at this; omega
          have hkt : (IntKind.u64.wrap picks[i]).tmod (left.length : Int) = (k : Int) := by rw [Int.tmod_eq_emod_of_nonneg hu0, hk]
          have hkw : IntKind.i64.wrap (k : Int) = (k : Int) := wrap_in (by omega) (by omega)
          have hn0 : ¬ left = [] := by rintro rfl; simp at hne
          refine AWp.reg [false, false, false, false, false, false, false, false, false, false, true] F6r11 [] (by kernel_rfl) (by rw [hC]; rfl) fun K hK => ?_
          simp [F6r11, hip, hu, hkt, hkw, hn0]
          first | refine hK _ ?_ | refine ⟨by omega, hK _ ?_⟩ | refine ⟨by omega, by omega, hK _ ?_⟩ | refine ⟨by omega, by omega, by omega, hK _ ?_⟩ | refine ⟨by omega, by omega, by omega, by omega, hK _ ?_⟩
          refine hJ _ k hkl ?_
          simp [st6, ordRules]
        · have hip' : decide (i < picks.length) = false := by simpa using hip
          refine AWp.cond false (by simp [hip']) (fun he => by cases he) (fun _ => ?_)
          refine AWp.skip ?_
          refine hJ _ 0 hne ?_
          simp [st6, ordRules]
    have hne : left = [] := by simpa using hem
    subst hne
    refine AWp.exit ?_
    have ht : Turned m { m with rules := out } := ⟨rfl, rfl, fun r hr => by simpa using ho.all r hr, fun r hr => ho.ino r hr, by simpa using hlen⟩
    have hmk2 := Make_ok _ (ht.ok hm) (ht.small hs)
    have heq := ht.make hs
    have hml := progMake_len m
    generalize hpm : progMake m = a at *
    generalize hpn : progMake { m with rules := out } = b at *
    obtain ⟨sa, pa, ea⟩ := a
    obtain ⟨sb, pb, eb⟩ := b
    simp only at heq hml
    obtain ⟨he, hof⟩ := heq
    subst he
    have hrl := hs.rels
    have hin := Ints_ok sa.of sb.of (by omega) (by rw [hof]; omega)
    rw [show decide (sa.of = sb.of) = true by simp [hof]] at hin
    refine AWp.seq ?_
    refine AWp.reg [false, false, false, false, false, false, false, false, true, true, true] F6r20 [{ r := encMakeR (sa, pa, eb) }] (by kernel_rfl) (by rw [hC]; rfl) fun K hK => ?_
    simp [F6r20, encMakeR, encStrata]
    refine ⟨callOK rfl hmk, hK _ ?_⟩
    refine AWp.seq ?_
    refine AWp.reg [false, false, false, false, false, false, false, false, true, true, true] F6r21 [{ r := encMakeR (sb, pb, eb) }] (by kernel_rfl) (by rw [hC]; rfl) fun K hK => ?_
    simp [F6r21, encMakeR, encStrata]
    refine ⟨callOK rfl hmk2, hK _ ?_⟩
    refine AWp.seq ?_
    refine AWp.reg [false, false, false, false, false, false, false, false, false, false, true] F6r22 [{ r := bval true }] (by kernel_rfl) (by rw [hC]; rfl) fun K hK => ?_
    simp [F6r22]
    refine ⟨callOK rfl hin, hK _ ?_⟩
    repeat refine AWp.seq ?_
    refine AWp.ret ⟨.inr rfl, _, by simp [Try.results6] <;> rfl, ?_⟩
    exact .closed rfl
end Go.St
