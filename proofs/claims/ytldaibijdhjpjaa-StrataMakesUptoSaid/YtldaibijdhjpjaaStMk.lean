/- The law StrataMakes. -/
import Derived.Test.YtldaibijdhjpjaaStN
import Derived.Test.YtldaibijdhjpjaaStL
set_option linter.unusedSimpArgs false
set_option linter.unusedVariables false
open Go Go.Aw Go.Proofs
namespace Go.St
attribute [local simp] ints encE
-- function 4: corollary/corollarylaw15.StrataMakes: 52 slots; results ['(Go.ResultVar.tmp 2)']
def F4r0 : List ROp := [{ dst := some 1, op := .box 28 (.tmp 0), after := [], guard := none },
  { dst := some 2, op := .copy true (.const (.bool false)), after := [], guard := none }]
def F4r1 : List ROp := [{ dst := some 9, op := .load 6 true false (.tmp 1), after := [], guard := none },
  { dst := some 10, op := .call (.func 9) [.tmp 9], after := [0], guard := none }]
def F4r2 : List ROp := [{ dst := some 2, op := .copy true (.const (.bool true)), after := [], guard := none }]
def F4r3 : List ROp := [{ dst := some 12, op := .load 6 true false (.tmp 1), after := [], guard := none },
  { dst := some 13, op := .call (.func 13) [.tmp 12], after := [0], guard := none },
  { dst := some 11, op := .copy false (.tmp 13), after := [1], guard := none },
  { dst := some 14, op := .ext (.tmp 11) 0, after := [2], guard := none },
  { dst := some 15, op := .ext (.tmp 11) 1, after := [2], guard := none },
  { dst := some 16, op := .ext (.tmp 11) 2, after := [2], guard := none },
  { dst := some 3, op := .alloc 39 [Value.slice none 0 0, Value.slice none 0 0, Value.slice none 0 0], after := [], guard := none },
  { dst := some 4, op := .alloc 32 [Value.int .i64 0, Value.int .i64 0], after := [], guard := none },
  { dst := none, op := .store 3 true (.tmp 3) (.tmp 14), after := [6, 3, 1, 0, 1, 2, 3, 6, 7], guard := none },
  { dst := none, op := .store 2 true (.tmp 4) (.tmp 15), after := [7, 4, 8, 0, 1, 2, 3, 4, 6, 7, 8], guard := none },
  { dst := some 5, op := .copy true (.tmp 16), after := [5, 9, 0, 1, 2, 3, 4, 5, 6, 7, 8, 9], guard := none }]
def F4r4 : List ROp := [{ dst := some 18, op := .load 6 true false (.tmp 1), after := [], guard := none },
  { dst := some 19, op := .call (.func 14) [.tmp 18], after := [0], guard := none },
  { dst := some 17, op := .copy false (.tmp 19), after := [1], guard := none },
  { dst := some 20, op := .ext (.tmp 17) 0, after := [2], guard := none },
  { dst := some 21, op := .ext (.tmp 17) 1, after := [2], guard := none },
  { dst := some 22, op := .ext (.tmp 17) 2, after := [2], guard := none },
  { dst := some 6, op := .alloc 42 [Value.slice none 0 0, Value.slice none 0 0, Value.slice none 0 0], after := [], guard := none },
  { dst := some 7, op := .alloc 32 [Value.int .i64 0, Value.int .i64 0], after := [], guard := none },
  { dst := none, op := .store 3 true (.tmp 6) (.tmp 20), after := [6, 3, 1, 0, 1, 2, 3, 6, 7], guard := none },
  { dst := none, op := .store 2 true (.tmp 7) (.tmp 21), after := [7, 4, 8, 0, 1, 2, 3, 4, 6, 7, 8], guard := none },
  { dst := some 8, op := .copy true (.tmp 22), after := [5, 9, 0, 1, 2, 3, 4, 5, 6, 7, 8, 9], guard := none }]
def F4r5 : List ROp := [{ dst := some 23, op := .copy false (.tmp 5), after := [], guard := none },
  { dst := some 24, op := .copy false (.tmp 8), after := [], guard := none },
  { dst := some 25, op := .bin .eql (.tmp 23) (.tmp 24), after := [0, 1], guard := none },
  { dst := some 26, op := .copy false (.tmp 25), after := [2], guard := none },
  { dst := some 27, op := .load 2 true false (.tmp 4), after := [3], guard := some (26, true) },
  { dst := some 28, op := .load 2 true false (.tmp 7), after := [3], guard := some (26, true) },
  { dst := some 29, op := .eqg false [0, 0] (.tmp 27) (.tmp 28), after := [4, 5, 3], guard := some (26, true) },
  { dst := some 30, op := .pick (.tmp 26) (.tmp 29) (.const (.bool false)), after := [3, 6], guard := none },
  { dst := some 31, op := .copy false (.tmp 30), after := [7, 3], guard := none },
  { dst := some 32, op := .fad 0 (.tmp 6), after := [8], guard := some (31, true) },
  { dst := some 33, op := .load 1 false false (.tmp 32), after := [9, 8], guard := some (31, true) },
  { dst := some 34, op := .fad 0 (.tmp 3), after := [8], guard := some (31, true) },
  { dst := some 35, op := .load 1 false false (.tmp 34), after := [11, 8], guard := some (31, true) },
  { dst := some 36, op := .call (.func 15) [.tmp 33, .tmp 35], after := [10, 12, 8, 8], guard := some (31, true) },
  { dst := some 37, op := .pick (.tmp 31) (.tmp 36) (.const (.bool false)), after := [8, 13], guard := none },
  { dst := some 38, op := .copy false (.tmp 37), after := [14, 13], guard := none },
  { dst := some 39, op := .fad 1 (.tmp 6), after := [15], guard := some (38, true) },
  { dst := some 40, op := .load 1 false false (.tmp 39), after := [16, 15], guard := some (38, true) },
  { dst := some 41, op := .fad 1 (.tmp 3), after := [15], guard := some (38, true) },
  { dst := some 42, op := .load 1 false false (.tmp 41), after := [18, 15], guard := some (38, true) },
  { dst := some 43, op := .call (.func 12) [.tmp 40, .tmp 42], after := [17, 19, 15, 15], guard := some (38, true) },
  { dst := some 44, op := .pick (.tmp 38) (.tmp 43) (.const (.bool false)), after := [15, 20], guard := none },
  { dst := some 45, op := .copy false (.tmp 44), after := [21, 20], guard := none },
  { dst := some 46, op := .fad 2 (.tmp 6), after := [22], guard := some (45, true) },
  { dst := some 47, op := .load 1 false false (.tmp 46), after := [23, 22], guard := some (45, true) },
  { dst := some 48, op := .fad 2 (.tmp 3), after := [22], guard := some (45, true) },
  { dst := some 49, op := .load 1 false false (.tmp 48), after := [25, 22], guard := some (45, true) },
  { dst := some 50, op := .call (.func 12) [.tmp 47, .tmp 49], after := [24, 26, 22, 22], guard := some (45, true) },
  { dst := some 51, op := .pick (.tmp 45) (.tmp 50) (.const (.bool false)), after := [22, 27], guard := none },
  { dst := some 2, op := .copy true (.tmp 51), after := [28, 27, 0, 1, 2, 3, 4, 5, 6, 7, 8, 9, 10, 11, 12, 13, 14, 15, 16, 17, 18, 19, 20, 21, 22, 23, 24, 25, 26, 27, 28], guard := none }]
theorem makeRows_ok {m : MMod} (hm : m.ok) (hs : Small m) : rowsOK (progMake m).1.rels ∧ rowsOK (progMake m).1.rules := by
  have hnil : rowsOK ([] : List (List Nat)) := rowsOK_of (by simp) (by simp [shortRows])
  have h300 := hs.rules
  have h30 := hs.rels
  have key : ∀ (l : List Nat) (t : Nat), l.length ≤ 300 → t ≤ 31 → rowsOK (pile l t) := by
    intro l t hl ht
    refine ⟨by rw [pile, pile_len]; omega, fun r hr => ?_⟩
    have := pile_short l t l.length r hr
    omega
  unfold progMake
  split
  · rename_i he
    have hgd := Check_good hs.rels he
    have hg := graph_ok hgd hs
    cases hr : refuse1 (graphOf m) (graphOf m).pairs with
    | some p => rw [makeOf_some hr]; exact ⟨hnil, hnil⟩
    | none =>
      rw [makeOf_none hr]
      obtain ⟨L, hL⟩ := exists_least hg hr
      rw [leastOf_eq hL]
      unfold strataOf
      split
      · exact ⟨hnil, hnil⟩
      · rename_i hn
        have hlen := hL.len
        have hne : L ≠ [] := by intro e; rw [e] at hlen; simp at hlen; omega
        have hmx : maxN L ≤ 30 := by
          have := maxN_mem L hne
          obtain ⟨i, hi, e⟩ := List.mem_iff_getElem.1 this
          have h2 : fn L i ≤ m.rels.length := below_le hg hr hL.low i
          simp only [fn, List.getD_eq_getElem?_getD, List.getElem?_eq_getElem hi, Option.getD_some] at h2
          omega
        have hgn : (graphOf m).n = m.rels.length := rfl
        refine ⟨key _ _ (by omega) (by omega), key _ _ ?_ (by omega)⟩
        simp only [rulesOf, List.length_map]; exact hg.rules
  · exact ⟨hnil, hnil⟩
theorem StrataMakes_con (m : MMod) (hm : m.ok) : Con Try.prog 4 [encMod m] (bval true) := by
  have hla := large_ok m hm
  refine Con.of_code Try.func4 (by kernel_rfl) rfl (by simp [Try.ntmps4]) fun C hC hM => ?_
  refine AWp.seq ?_
  refine AWp.reg [false, true] F4r0 [] (by kernel_rfl) (by rw [hC]; rfl) fun K hK => ?_
  simp [F4r0]
  first | refine hK _ ?_ | refine ⟨by omega, hK _ ?_⟩ | refine ⟨by omega, by omega, hK _ ?_⟩ | refine ⟨by omega, by omega, by omega, hK _ ?_⟩ | refine ⟨by omega, by omega, by omega, by omega, hK _ ?_⟩
  refine AWp.seq ?_
  refine AWp.seq ?_
  refine AWp.reg [] F4r1 [{ r := bval (largeB m) }] (by kernel_rfl) (by rw [hC]; rfl) fun K hK => ?_
  simp [F4r1]
  refine ⟨callOK rfl hla, hK _ ?_⟩
  cases hl : largeB m with
  | true =>
    refine AWp.cond true (by simp) (fun _ => ?_) (fun he => by cases he)
    refine AWp.seq ?_
    refine AWp.reg [true] F4r2 [] (by kernel_rfl) (by rw [hC]; rfl) fun K hK => ?_
    simp [F4r2]
    first | refine hK _ ?_ | refine ⟨by omega, hK _ ?_⟩ | refine ⟨by omega, by omega, hK _ ?_⟩ | refine ⟨by omega, by omega, by omega, hK _ ?_⟩ | refine ⟨by omega, by omega, by omega, by omega, hK _ ?_⟩
    repeat refine AWp.seq ?_
    refine AWp.ret ⟨.inr rfl, _, by simp [Try.results4] <;> rfl, ?_⟩
    exact .closed rfl
  | false =>
    have hs := Small.of hl
    have h30 := hs.rels
    have hof := progMake_len m
    obtain ⟨hr1, hr2⟩ := makeRows_ok hm hs
    have h1 := RefMake_ok m hm hs
    have h2 := Make_ok m hm hs
    obtain ⟨r, hr⟩ : ∃ r, progMake m = r := ⟨_, rfl⟩
    rw [hr] at hof hr1 hr2 h1 h2
    have c1 := Ints_ok r.1.of r.1.of (by omega) (by omega)
    have c2 := Rows_ok r.1.rels r.1.rels hr1 hr1
    have c3 := Rows_ok r.1.rules r.1.rules hr2 hr2
    rw [decide_eq_true rfl] at c1 c2 c3
    refine AWp.cond false (by simp) (fun he => by cases he) (fun _ => ?_)
    refine AWp.skip ?_
    refine AWp.seq ?_
    refine AWp.reg [false, false, false, false, false, false, false, false, true, true, true] F4r3 [{ r := encMakeR r }] (by kernel_rfl) (by rw [hC]; rfl) fun K hK => ?_
    simp [F4r3, encMakeR, encStrata]
    refine ⟨callOK rfl h1, hK _ ?_⟩
    refine AWp.seq ?_
    refine AWp.reg [false, false, false, false, false, false, false, false, true, true, true] F4r4 [{ r := encMakeR r }] (by kernel_rfl) (by rw [hC]; rfl) fun K hK => ?_
    simp [F4r4, encMakeR, encStrata]
    refine ⟨callOK rfl h2, hK _ ?_⟩
    refine AWp.seq ?_
    refine AWp.reg [false, false, false, false, false, false, false, false, false, false, false, false, false, false, false, false, false, false, false, false, false, false, false, false, false, false, false, false, false, true] F4r5 [{ r := bval true }, { r := bval true }, { r := bval true }] (by kernel_rfl) (by rw [hC]; rfl) fun K hK => ?_
    simp [F4r5]
    refine ⟨callOK rfl c1, callOK rfl c2, callOK rfl c3, hK _ ?_⟩
    repeat refine AWp.seq ?_
    refine AWp.ret ⟨.inr rfl, _, by simp [Try.results4] <;> rfl, ?_⟩
    exact .closed rfl
end Go.St
