/- The law StrataRefused. -/
import Derived.Test.YtldaibijdhjpjaaStJ
import Derived.Test.YtldaibijdhjpjaaStH
import Derived.Test.YtldaibijdhjpjaaStSpK
set_option linter.unusedSimpArgs false
set_option linter.unusedVariables false
open Go Go.Aw Go.Proofs
namespace Go.St
attribute [local simp] ints encE
-- function 8: corollary/corollarylaw15.StrataRefused: 131 slots; results ['(Go.ResultVar.tmp 2)']
def F8r0 : List ROp := [{ dst := some 1, op := .box 28 (.tmp 0), after := [], guard := none },
  { dst := some 2, op := .copy true (.const (.bool false)), after := [], guard := none }]
def F8r1 : List ROp := [{ dst := some 16, op := .call (.func 16) [], after := [], guard := none },
  { dst := some 17, op := .un .not (.tmp 16), after := [0], guard := none },
  { dst := some 18, op := .copy false (.tmp 17), after := [1, 0], guard := none },
  { dst := some 19, op := .load 6 true false (.tmp 1), after := [2], guard := some (18, false) },
  { dst := some 20, op := .call (.func 9) [.tmp 19], after := [3, 2, 2], guard := some (18, false) },
  { dst := some 21, op := .pick (.tmp 18) (.const (.bool true)) (.tmp 20), after := [2, 4], guard := none }]
def F8r2 : List ROp := [{ dst := some 22, op := .call (.func 16) [], after := [], guard := none },
  { dst := some 2, op := .copy true (.tmp 22), after := [0, 0, 0], guard := none }]
def F8r3 : List ROp := [{ dst := some 24, op := .load 6 true false (.tmp 1), after := [], guard := none },
  { dst := some 25, op := .call (.func 11) [.tmp 24], after := [0], guard := none },
  { dst := some 23, op := .copy false (.tmp 25), after := [1], guard := none },
  { dst := some 26, op := .ext (.tmp 23) 0, after := [2], guard := none },
  { dst := some 27, op := .ext (.tmp 23) 1, after := [2], guard := none },
  { dst := some 28, op := .ext (.tmp 23) 2, after := [2], guard := none },
  { dst := some 4, op := .alloc 32 [Value.int .i64 0, Value.int .i64 0], after := [], guard := none },
  { dst := some 3, op := .copy true (.tmp 26), after := [3, 1, 0, 1, 2, 3, 6], guard := none },
  { dst := none, op := .store 2 true (.tmp 4) (.tmp 27), after := [6, 4, 7, 0, 1, 2, 3, 4, 6, 7], guard := none },
  { dst := some 5, op := .copy true (.tmp 28), after := [5, 8, 0, 1, 2, 3, 4, 5, 6, 7, 8], guard := none }]
def F8r4 : List ROp := [{ dst := some 30, op := .load 6 true false (.tmp 1), after := [], guard := none },
  { dst := some 31, op := .call (.func 14) [.tmp 30], after := [0], guard := none },
  { dst := some 29, op := .copy false (.tmp 31), after := [1], guard := none },
  { dst := some 32, op := .ext (.tmp 29) 0, after := [2], guard := none },
  { dst := some 33, op := .ext (.tmp 29) 1, after := [2], guard := none },
  { dst := some 34, op := .ext (.tmp 29) 2, after := [2], guard := none },
  { dst := some 6, op := .alloc 42 [Value.slice none 0 0, Value.slice none 0 0, Value.slice none 0 0], after := [], guard := none },
  { dst := some 7, op := .alloc 32 [Value.int .i64 0, Value.int .i64 0], after := [], guard := none },
  { dst := none, op := .store 3 true (.tmp 6) (.tmp 32), after := [6, 3, 1, 0, 1, 2, 3, 6, 7], guard := none },
  { dst := none, op := .store 2 true (.tmp 7) (.tmp 33), after := [7, 4, 8, 0, 1, 2, 3, 4, 6, 7, 8], guard := none },
  { dst := some 8, op := .copy true (.tmp 34), after := [5, 9, 0, 1, 2, 3, 4, 5, 6, 7, 8, 9], guard := none }]
def F8r5 : List ROp := [{ dst := some 35, op := .copy false (.tmp 5), after := [], guard := none },
  { dst := some 36, op := .bin .neq (.tmp 35) (.const (.int .i64 0)), after := [0], guard := none }]
def F8r6 : List ROp := [{ dst := some 37, op := .copy false (.tmp 8), after := [], guard := none },
  { dst := some 38, op := .copy false (.tmp 5), after := [], guard := none },
  { dst := some 39, op := .bin .eql (.tmp 37) (.tmp 38), after := [0, 1], guard := none },
  { dst := some 40, op := .copy false (.tmp 39), after := [2], guard := none },
  { dst := some 41, op := .load 2 true false (.tmp 4), after := [3], guard := some (40, true) },
  { dst := some 42, op := .load 2 true false (.tmp 7), after := [3], guard := some (40, true) },
  { dst := some 43, op := .eqg false [0, 0] (.tmp 41) (.tmp 42), after := [4, 5, 3], guard := some (40, true) },
  { dst := some 44, op := .pick (.tmp 40) (.tmp 43) (.const (.bool false)), after := [3, 6], guard := none },
  { dst := some 2, op := .copy true (.tmp 44), after := [7, 3, 0, 1, 2, 3, 4, 5, 6, 7], guard := none }]
def F8r7 : List ROp := [{ dst := some 9, op := .copy true (.const (.bool false)), after := [], guard := none }]
def F8r8 : List ROp := [{ dst := some 10, op := .copy true (.const (.int .i64 0)), after := [], guard := none }]
def F8r9 : List ROp := [{ dst := some 45, op := .copy false (.tmp 10), after := [], guard := none },
  { dst := some 46, op := .fad 4 (.tmp 1), after := [], guard := none },
  { dst := some 47, op := .load 1 false false (.tmp 46), after := [1], guard := none },
  { dst := some 48, op := .len 0 (.tmp 47), after := [2], guard := none },
  { dst := some 49, op := .bin .lss (.tmp 45) (.tmp 48), after := [0, 3], guard := none }]
def F8r10 : List ROp := [{ dst := some 50, op := .copy false (.tmp 10), after := [], guard := none },
  { dst := some 51, op := .bin .add (.tmp 50) (.const (.int .i64 1)), after := [0], guard := none },
  { dst := some 10, op := .copy true (.tmp 51), after := [1, 0, 1], guard := none }]
def F8r11 : List ROp := [{ dst := some 52, op := .fad 4 (.tmp 1), after := [], guard := none },
  { dst := some 53, op := .load 1 false false (.tmp 52), after := [0], guard := none },
  { dst := some 54, op := .copy false (.tmp 10), after := [], guard := none },
  { dst := some 55, op := .iad 6 (.tmp 53) (.tmp 54), after := [1, 2], guard := none },
  { dst := some 56, op := .load 6 true false (.tmp 55), after := [3], guard := none },
  { dst := some 11, op := .alloc 52 [Value.int .i64 0, Value.int .i64 0, Value.string ByteArray.empty, Value.slice none 0 0, Value.slice none 0 0, Value.slice none 0 0], after := [], guard := none },
  { dst := none, op := .store 6 true (.tmp 11) (.tmp 56), after := [5, 4, 0, 1, 2, 3, 4, 5], guard := none }]
def F8r12 : List ROp := [{ dst := some 57, op := .load 6 true false (.tmp 1), after := [], guard := none },
  { dst := some 58, op := .fad 2 (.tmp 11), after := [], guard := none },
  { dst := some 59, op := .load 1 false false (.tmp 58), after := [1], guard := none },
  { dst := some 60, op := .call (.func 17) [.tmp 57, .tmp 59], after := [0, 2], guard := none },
  { dst := some 12, op := .copy true (.tmp 60), after := [3, 3, 0, 1, 2, 3], guard := none }]
def F8r13 : List ROp := [{ dst := some 13, op := .copy true (.const (.int .i64 0)), after := [], guard := none }]
def F8r14 : List ROp := [{ dst := some 61, op := .copy false (.tmp 13), after := [], guard := none },
  { dst := some 62, op := .fad 5 (.tmp 11), after := [], guard := none },
  { dst := some 63, op := .load 1 false false (.tmp 62), after := [1], guard := none },
  { dst := some 64, op := .len 0 (.tmp 63), after := [2], guard := none },
  { dst := some 65, op := .bin .lss (.tmp 61) (.tmp 64), after := [0, 3], guard := none }]
def F8r15 : List ROp := [{ dst := some 66, op := .copy false (.tmp 13), after := [], guard := none },
  { dst := some 67, op := .bin .add (.tmp 66) (.const (.int .i64 1)), after := [0], guard := none },
  { dst := some 13, op := .copy true (.tmp 67), after := [1, 0, 1], guard := none }]
def F8r16 : List ROp := [{ dst := some 68, op := .fad 5 (.tmp 11), after := [], guard := none },
  { dst := some 69, op := .load 1 false false (.tmp 68), after := [0], guard := none },
  { dst := some 70, op := .copy false (.tmp 13), after := [], guard := none },
  { dst := some 71, op := .iad 5 (.tmp 69) (.tmp 70), after := [1, 2], guard := none },
  { dst := some 72, op := .load 5 true false (.tmp 71), after := [3], guard := none },
  { dst := some 73, op := .call (.func 18) [.tmp 72], after := [4], guard := none },
  { dst := some 74, op := .un .not (.tmp 73), after := [5], guard := none },
  { dst := some 75, op := .copy false (.tmp 74), after := [6, 5], guard := none },
  { dst := some 76, op := .load 6 true false (.tmp 11), after := [7], guard := some (75, false) },
  { dst := some 77, op := .fad 5 (.tmp 11), after := [7], guard := some (75, false) },
  { dst := some 78, op := .load 1 false false (.tmp 77), after := [9, 7], guard := some (75, false) },
  { dst := some 79, op := .copy false (.tmp 13), after := [7], guard := some (75, false) },
  { dst := some 80, op := .iad 5 (.tmp 78) (.tmp 79), after := [10, 11, 7], guard := some (75, false) },
  { dst := some 81, op := .load 5 true false (.tmp 80), after := [12, 7], guard := some (75, false) },
  { dst := some 82, op := .call (.func 19) [.tmp 76, .tmp 81], after := [8, 13, 7, 7], guard := some (75, false) },
  { dst := some 83, op := .un .not (.tmp 82), after := [14, 7], guard := some (75, false) },
  { dst := some 84, op := .pick (.tmp 75) (.const (.bool true)) (.tmp 83), after := [7, 15], guard := none }]
def F8r17 : List ROp := [{ dst := some 85, op := .load 6 true false (.tmp 1), after := [], guard := none },
  { dst := some 86, op := .fad 5 (.tmp 11), after := [], guard := none },
  { dst := some 87, op := .load 1 false false (.tmp 86), after := [1], guard := none },
  { dst := some 88, op := .copy false (.tmp 13), after := [], guard := none },
  { dst := some 89, op := .iad 5 (.tmp 87) (.tmp 88), after := [2, 3], guard := none },
  { dst := some 90, op := .fad 3 (.tmp 89), after := [4], guard := none },
  { dst := some 91, op := .load 1 false false (.tmp 90), after := [5], guard := none },
  { dst := some 92, op := .call (.func 17) [.tmp 85, .tmp 91], after := [0, 6], guard := none },
  { dst := some 14, op := .copy true (.tmp 92), after := [7, 7, 0, 1, 2, 3, 4, 5, 6, 7], guard := none }]
def F8r18 : List ROp := [{ dst := some 93, op := .copy false (.tmp 9), after := [], guard := none },
  { dst := some 94, op := .copy false (.tmp 93), after := [0], guard := none },
  { dst := some 95, op := .copy false (.tmp 14), after := [1], guard := some (94, false) },
  { dst := some 96, op := .copy false (.tmp 12), after := [1], guard := some (94, false) },
  { dst := some 97, op := .bin .eql (.tmp 95) (.tmp 96), after := [2, 3, 1], guard := some (94, false) },
  { dst := some 98, op := .pick (.tmp 94) (.const (.bool true)) (.tmp 97), after := [1, 4], guard := none },
  { dst := some 9, op := .copy true (.tmp 98), after := [5, 1, 0, 1, 2, 3, 4, 5], guard := none }]
def F8r19 : List ROp := [{ dst := some 15, op := .copy true (.const (.int .i64 0)), after := [], guard := none }]
def F8r20 : List ROp := [{ dst := some 99, op := .copy false (.tmp 15), after := [], guard := none },
  { dst := some 100, op := .copy false (.tmp 3), after := [], guard := none },
  { dst := some 101, op := .copy false (.tmp 14), after := [], guard := none },
  { dst := some 102, op := .iad 1 (.tmp 100) (.tmp 101), after := [1, 2], guard := none },
  { dst := some 103, op := .load 1 false false (.tmp 102), after := [3], guard := none },
  { dst := some 104, op := .len 0 (.tmp 103), after := [4], guard := none },
  { dst := some 105, op := .bin .lss (.tmp 99) (.tmp 104), after := [0, 5], guard := none }]
def F8r21 : List ROp := [{ dst := some 106, op := .copy false (.tmp 15), after := [], guard := none },
  { dst := some 107, op := .bin .add (.tmp 106) (.const (.int .i64 1)), after := [0], guard := none },
  { dst := some 15, op := .copy true (.tmp 107), after := [1, 0, 1], guard := none }]
def F8r22 : List ROp := [{ dst := some 108, op := .copy false (.tmp 9), after := [], guard := none },
  { dst := some 109, op := .copy false (.tmp 108), after := [0], guard := none },
  { dst := some 110, op := .copy false (.tmp 3), after := [1], guard := some (109, false) },
  { dst := some 111, op := .copy false (.tmp 14), after := [1], guard := some (109, false) },
  { dst := some 112, op := .iad 1 (.tmp 110) (.tmp 111), after := [2, 3, 1], guard := some (109, false) },
  { dst := some 113, op := .load 1 false false (.tmp 112), after := [4, 1], guard := some (109, false) },
  { dst := some 114, op := .copy false (.tmp 15), after := [1], guard := some (109, false) },
  { dst := some 115, op := .iad 1 (.tmp 113) (.tmp 114), after := [5, 6, 1], guard := some (109, false) },
  { dst := some 116, op := .load 1 false false (.tmp 115), after := [7, 1], guard := some (109, false) },
  { dst := some 117, op := .copy false (.tmp 12), after := [1], guard := some (109, false) },
  { dst := some 118, op := .bin .eql (.tmp 116) (.tmp 117), after := [8, 9, 1], guard := some (109, false) },
  { dst := some 119, op := .pick (.tmp 109) (.const (.bool true)) (.tmp 118), after := [1, 10], guard := none },
  { dst := some 9, op := .copy true (.tmp 119), after := [11, 1, 0, 1, 2, 3, 4, 5, 6, 7, 8, 9, 10, 11], guard := none }]
def F8r23 : List ROp := [{ dst := some 120, op := .copy false (.tmp 9), after := [], guard := none },
  { dst := some 121, op := .copy false (.tmp 8), after := [], guard := none },
  { dst := some 122, op := .bin .eql (.tmp 121) (.const (.int .i64 73)), after := [1], guard := none },
  { dst := some 123, op := .eqb false (.tmp 120) (.tmp 122), after := [0, 2], guard := none },
  { dst := some 124, op := .copy false (.tmp 123), after := [3], guard := none },
  { dst := some 125, op := .copy false (.tmp 9), after := [4], guard := some (124, true) },
  { dst := some 126, op := .copy false (.tmp 125), after := [5, 4, 4], guard := some (124, true) },
  { dst := some 127, op := .copy false (.tmp 8), after := [6], guard := some (126, false) },
  { dst := some 128, op := .bin .eql (.tmp 127) (.const (.int .i64 0)), after := [7, 6], guard := some (126, false) },
  { dst := some 129, op := .pick (.tmp 126) (.const (.bool true)) (.tmp 128), after := [6, 8, 4], guard := some (124, true) },
  { dst := some 130, op := .pick (.tmp 124) (.tmp 129) (.const (.bool false)), after := [4, 9], guard := none },
  { dst := some 2, op := .copy true (.tmp 130), after := [10, 6, 0, 1, 2, 3, 4, 5, 6, 7, 8, 9, 10], guard := none }]
theorem encRule_noref (r : RuleD) : norefL (encRule r) = true := by simp
def st8 (m : MMod) (rows : List (List Nat)) (rb : Bool) (f : Int) (k : Nat) (ts : List (Nat × AV)) : AS := { tm := [(1, .ptr 1 0), (3, encRows rows), (8, ival f), (9, bval rb), (10, ival k)] ++ ts, hp := [(1, .cells 28 (modCells m))] }
def st8b (m : MMod) (rows : List (List Nat)) (rb : Bool) (f : Int) (k : Nat) (r : RuleD) (h j : Nat) (ts : List (Nat × AV)) : AS := { tm := [(1, .ptr 1 0), (3, encRows rows), (8, ival f), (9, bval rb), (10, ival k), (11, .ptr 11 0), (12, ival h), (13, ival j)] ++ ts, hp := [(1, .cells 28 (modCells m)), (11, .cells 52 (encRule r))] }
theorem progRests_ok (m : MMod) (h : (checkE m).2 = 0) : progRests m = (progRows (graphOf m) m.rels.length, okE) := by simp [progRests, h]
set_option maxHeartbeats 1000000 in
theorem StrataRefused_con (m : MMod) (hm : m.ok) : Con Try.prog 8 [encMod m] (bval true) := by
  have hla := large_ok m hm
  have hwk := works_ok
  refine Con.of_code Try.func8 (by kernel_rfl) rfl (by simp [Try.ntmps8]) fun C hC hM => ?_
  refine AWp.seq ?_
  refine AWp.reg [false, true] F8r0 [] (by kernel_rfl) (by rw [hC]; rfl) fun K hK => ?_
  simp [F8r0]
  first | refine hK _ ?_ | refine ⟨by omega, hK _ ?_⟩ | refine ⟨by omega, by omega, hK _ ?_⟩ | refine ⟨by omega, by omega, by omega, hK _ ?_⟩ | refine ⟨by omega, by omega, by omega, by omega, hK _ ?_⟩
  refine AWp.seq ?_
  refine AWp.seq ?_
  refine AWp.reg [] F8r1 [{ r := bval true }, { r := bval (largeB m) }] (by kernel_rfl) (by rw [hC]; rfl) fun K hK => ?_
  simp [F8r1]
  refine ⟨callOK rfl hwk, callOK rfl hla, hK _ ?_⟩
  cases hl : largeB m with
  | true =>
    refine AWp.cond true (by simp) (fun _ => ?_) (fun he => by cases he)
    refine AWp.seq ?_
    refine AWp.reg [false, true] F8r2 [{ r := bval true }] (by kernel_rfl) (by rw [hC]; rfl) fun K hK => ?_
    simp [F8r2]
    refine ⟨callOK rfl hwk, hK _ ?_⟩
    repeat refine AWp.seq ?_
    refine AWp.ret ⟨.inr rfl, _, by simp [Try.results8] <;> rfl, ?_⟩
    exact .closed rfl
  | false =>
    have hs := Small.of hl
    have hr2 := Rests_ok m hm hs
    have hmk := Make_ok m hm hs
    refine AWp.cond false (by simp) (fun he => by cases he) (fun _ => ?_)
    by_cases he : (checkE m).2 = 0
    · have hg := Check_good hs.rels he
      have hpr := progRests_ok m he
      have hrb := roundB_iff hg
      have hpm : progMake m = makeOf (graphOf m) := by simp only [progMake, he, if_true]
      have hrl : (progRows (graphOf m) m.rels.length).length = m.rels.length := by simp [progRows]
      have hrw : ∀ i (h : i < (progRows (graphOf m) m.rels.length).length), ((progRows (graphOf m) m.rels.length)[i]).length ≤ 30 := by
        intro i h
        have h1 := trues_len (reachRow (nextOf (graphOf m)) (graphOf m).n i) (graphOf m).n
        have h2 := hs.rels
        simp [progRows]
        exact Nat.le_trans h1 h2
      rw [hpr] at hr2
      rw [hpm] at hmk
      have hf : (makeOf (graphOf m)).2.2 = if roundB m then 73 else 0 := by
        rw [hrb]
        cases hq : refuse1 (graphOf m) (graphOf m).pairs with
        | none => rw [makeOf_none hq]; rfl
        | some p => rw [makeOf_some hq]; rfl
      have hany : roundB m = (m.rules.take m.rules.length).any fun r => r.body.any (litB m r) := by rw [List.take_length]; rfl
      have hlb : ∀ (r : RuleD) (x : LitD), litB m r x = (leads x && strictB r x && (decide (idx m x.rel = idx m r.rel) || ((progRows (graphOf m) m.rels.length).getD (idx m x.rel) []).contains (idx m r.rel))) := fun _ _ => rfl
      generalize makeOf (graphOf m) = mk at *
      obtain ⟨sd, ⟨p1, p2⟩, f⟩ := mk
      simp only at hf
      generalize progRows (graphOf m) m.rels.length = rows at *
      refine AWp.skip ?_
      refine AWp.seq ?_
      refine AWp.reg [false, false, false, false, false, false, false, true, true, true] F8r3 [{ r := encRests (rows, okE) }] (by kernel_rfl) (by rw [hC]; rfl) fun K hK => ?_
      simp [F8r3, encRests, okE]
      refine ⟨callOK rfl hr2, hK _ ?_⟩
      refine AWp.seq ?_
      refine AWp.reg [false, false, false, false, false, false, false, false, true, true, true] F8r4 [{ r := encMakeR (sd, (p1, p2), f) }] (by kernel_rfl) (by rw [hC]; rfl) fun K hK => ?_
      simp [F8r4, encMakeR, encStrata]
      refine ⟨callOK rfl hmk, hK _ ?_⟩
      refine AWp.seq ?_
      refine AWp.seq ?_
      refine AWp.reg [] F8r5 [] (by kernel_rfl) (by rw [hC]; rfl) fun K hK => ?_
      simp [F8r5]
      first | refine hK _ ?_ | refine ⟨by omega, hK _ ?_⟩ | refine ⟨by omega, by omega, hK _ ?_⟩ | refine ⟨by omega, by omega, by omega, hK _ ?_⟩ | refine ⟨by omega, by omega, by omega, by omega, hK _ ?_⟩
      refine AWp.cond false (by simp) (fun he => by cases he) (fun _ => ?_)
      refine AWp.skip ?_
      refine AWp.seq ?_
      refine AWp.reg [true] F8r7 [] (by kernel_rfl) (by rw [hC]; rfl) fun K hK => ?_
      simp [F8r7]
      first | refine hK _ ?_ | refine ⟨by omega, hK _ ?_⟩ | refine ⟨by omega, by omega, hK _ ?_⟩ | refine ⟨by omega, by omega, by omega, hK _ ?_⟩ | refine ⟨by omega, by omega, by omega, by omega, hK _ ?_⟩
      refine AWp.seq ?_
      refine AWp.seq ?_
      refine AWp.reg [true] F8r8 [] (by kernel_rfl) (by rw [hC]; rfl) fun K hK => ?_
      simp [F8r8]
      first | refine hK _ ?_ | refine ⟨by omega, hK _ ?_⟩ | refine ⟨by omega, by omega, hK _ ?_⟩ | refine ⟨by omega, by omega, by omega, hK _ ?_⟩ | refine ⟨by omega, by omega, by omega, by omega, hK _ ?_⟩
      refine AWp.block ?_
      refine AWp.loopG (fun k : Nat => st8 m rows ((m.rules.take k).any fun r => r.body.any (litB m r)) f k []) (fun k => k ≤ m.rules.length) (fun k => m.rules.length - k) 0 (by simp) (by simp [st8]) (fun k hk => ?_)
      have hmr := hm.rules
      have htake := fun h => any_take (fun r : RuleD => r.body.any (litB m r)) m.rules k h
      have hend : m.rules.length ≤ k → roundB m = (m.rules.take k).any fun r => r.body.any (litB m r) := fun h => by rw [hany, List.take_of_length_le h, List.take_length]
      revert htake hend
      generalize ((m.rules.take k).any fun r => r.body.any (litB m r)) = rb
      intro htake hend
      refine AWp.seq ?_
      refine AWp.seq ?_
      refine AWp.reg [] F8r9 [] (by kernel_rfl) (by rw [hC]; rfl) fun K hK => ?_
      simp [F8r9, st8]
      first | refine hK _ ?_ | refine ⟨by omega, hK _ ?_⟩ | refine ⟨by omega, by omega, hK _ ?_⟩ | refine ⟨by omega, by omega, by omega, hK _ ?_⟩ | refine ⟨by omega, by omega, by omega, by omega, hK _ ?_⟩
      refine AWp.cond (decide (k < m.rules.length)) (by simp) (fun hlt => ?_) (fun hge => ?_)
      · skip
        have hlt : k < m.rules.length := by simpa using hlt
        have hrm : m.rules[k] ∈ m.rules := List.getElem_mem hlt
        have hAt := At_ok m m.rules[k].rel hm
        have hge0 := hg.heads _ hrm
        rw [At_idx hge0] at hAt
        have hbl := hm.bodies _ hrm
        have hal := hm.aggs _ hrm
        have hlits := hg.lits _ hrm
        have ht := htake hlt
        clear htake hend
        obtain ⟨r, hr⟩ : ∃ r, m.rules[k] = r := ⟨_, rfl⟩
        rw [hr] at hAt hge0 hbl hal hlits ht hrm
        obtain ⟨h, hh⟩ : ∃ h, idx m r.rel = h := ⟨_, rfl⟩
        rw [hh] at hAt
        refine AWp.skip ?_
        refine AWp.seq ?_
        refine AWp.block ?_
        refine AWp.seq ?_
        refine AWp.reg [false, false, false, false, false, false, true] F8r11 [] (by kernel_rfl) (by rw [hC]; rfl) fun K hK => ?_
        simp [F8r11, hlt, hr]
        first | refine hK _ ?_ | refine ⟨by omega, hK _ ?_⟩ | refine ⟨by omega, by omega, hK _ ?_⟩ | refine ⟨by omega, by omega, by omega, hK _ ?_⟩ | refine ⟨by omega, by omega, by omega, by omega, hK _ ?_⟩
        refine AWp.seq ?_
        refine AWp.reg [false, false, false, false, true] F8r12 [{ r := ival h }] (by kernel_rfl) (by rw [hC]; rfl) fun K hK => ?_
        simp [F8r12, hlt]
        refine ⟨callOK rfl hAt, hK _ ?_⟩
        refine AWp.seq ?_
        refine AWp.reg [true] F8r13 [] (by kernel_rfl) (by rw [hC]; rfl) fun K hK => ?_
        simp [F8r13]
        first | refine hK _ ?_ | refine ⟨by omega, hK _ ?_⟩ | refine ⟨by omega, by omega, hK _ ?_⟩ | refine ⟨by omega, by omega, by omega, hK _ ?_⟩ | refine ⟨by omega, by omega, by omega, by omega, hK _ ?_⟩
        refine AWp.block ?_
        refine AWp.loopG (fun j : Nat => st8b m rows (rb || (r.body.take j).any (litB m r)) f k r h j []) (fun j => j ≤ r.body.length) (fun j => r.body.length - j) 0 (by simp) (by simp [st8b]) (fun j hj => ?_)
        have htake2 := fun h => any_take (litB m r) r.body j h
        have hend2 : r.body.length ≤ j → (rb || r.body.any (litB m r)) = (rb || (r.body.take j).any (litB m r)) := fun h => by rw [List.take_of_length_le h]
        refine AWp.seq ?_
        refine AWp.seq ?_
        refine AWp.reg [] F8r14 [] (by kernel_rfl) (by rw [hC]; rfl) fun K hK => ?_
        simp [F8r14, st8b]
        first | refine hK _ ?_ | refine ⟨by omega, hK _ ?_⟩ | refine ⟨by omega, by omega, hK _ ?_⟩ | refine ⟨by omega, by omega, by omega, hK _ ?_⟩ | refine ⟨by omega, by omega, by omega, by omega, hK _ ?_⟩
        refine AWp.cond (decide (j < r.body.length)) (by simp) (fun hltj => ?_) (fun hgej => ?_)
        · skip
          have hltj : j < r.body.length := by simpa using hltj
          have ht2 := htake2 hltj
          have hxm : r.body[j] ∈ r.body := List.getElem_mem hltj
          have hlx := hlits _ hxm
          have hlbx := hlb r r.body[j]
          have hld := Leads_ok r.body[j]
          have hst := strict_ok r r.body[j] hal
          obtain ⟨x, hx⟩ : ∃ x, r.body[j] = x := ⟨_, rfl⟩
          rw [hx] at ht2 hlx hlbx hld hst
          rw [hh] at hlbx
          obtain ⟨rj, hrj⟩ : ∃ q, (rb || (r.body.take j).any (litB m r)) = q := ⟨_, rfl⟩
          have ht3 : (rb || (r.body.take (j + 1)).any (litB m r)) = (rj || litB m r x) := by rw [ht2, ← hrj, Bool.or_assoc]
          rw [hrj]
          clear ht2 htake2 hend2
          refine AWp.skip ?_
          refine AWp.seqJ (fun q : Bool => st8b m rows q f k r h j []) (fun q => q = (rj || litB m r x)) ?_ (fun hJ => ?_)
          · skip
            rintro q rfl
            refine AWp.reg [false, false, true] F8r15 [] (by kernel_rfl) (by rw [hC]; rfl) fun K hK => ?_
            simp [F8r15, st8b]
            first | refine hK _ ?_ | refine ⟨by omega, hK _ ?_⟩ | refine ⟨by omega, by omega, hK _ ?_⟩ | refine ⟨by omega, by omega, by omega, hK _ ?_⟩ | refine ⟨by omega, by omega, by omega, by omega, hK _ ?_⟩
            refine ⟨j + 1, by omega, by omega, ?_⟩
            rw [ht3]
            simp [st8b, wrap_nat j (by omega)]
          · skip
            refine AWp.block ?_
            refine AWp.seq ?_
            refine AWp.seq ?_
            cases hlead : leads x with
            | false =>
              rw [hlead] at hld hlbx
              simp only [Bool.false_and] at hlbx
              refine AWp.regD ops_mixed [] F8r16 [{ r := bval false }, {}] (by kernel_rfl) (by rw [hC]; rfl) rfl (fun K hK => ?_) (by simp [F8r16, hltj, hx] <;> rfl)
              simp [F8r16, hltj, hx]
              refine ⟨callOK rfl hld, hK _ ?_⟩
              refine AWp.cond true (by simp) (fun _ => ?_) (fun he => by cases he)
              refine AWp.exit ?_
              refine hJ _ rj (by rw [hlbx, Bool.or_false]) ?_
              simp [st8b]
            | true =>
              rw [hlead] at hld hlbx
              have hto := hlx hlead
              have hAt2 := At_ok m x.rel hm
              rw [At_idx hto] at hAt2
              have hlt2 := idx_lt hto
              obtain ⟨t, ht⟩ : ∃ t, idx m x.rel = t := ⟨_, rfl⟩
              rw [ht] at hlbx hAt2 hlt2
              cases hstr : strictB r x with
              | false =>
                rw [hstr] at hst hlbx
                simp only [Bool.and_false, Bool.false_and] at hlbx
                refine AWp.regD ops_mixed [] F8r16 [{ r := bval true }, { r := bval false }] (by kernel_rfl) (by rw [hC]; rfl) rfl (fun K hK => ?_) (by simp [F8r16, hltj, hx] <;> rfl)
                simp [F8r16, hltj, hx]
                refine ⟨callOK rfl hld, callOK (by simp) hst, hK _ ?_⟩
                refine AWp.cond true (by simp) (fun _ => ?_) (fun he => by cases he)
                refine AWp.exit ?_
                refine hJ _ rj (by rw [hlbx, Bool.or_false]) ?_
                simp [st8b]
              | true =>
                rw [hstr] at hst hlbx
                simp only [Bool.and_true, Bool.true_and] at hlbx
                refine AWp.regD ops_mixed [] F8r16 [{ r := bval true }, { r := bval true }] (by kernel_rfl) (by rw [hC]; rfl) rfl (fun K hK => ?_) (by simp [F8r16, hltj, hx] <;> rfl)
                simp [F8r16, hltj, hx]
                refine ⟨callOK rfl hld, callOK (by simp) hst, hK _ ?_⟩
                refine AWp.cond false (by simp) (fun he => by cases he) (fun _ => ?_)
                refine AWp.skip ?_
                refine AWp.seq ?_
                refine AWp.regD ops_mixed [false, false, false, false, false, false, false, false, true] F8r17 [{ r := ival t }] (by kernel_rfl) (by rw [hC]; rfl) rfl (fun K hK => ?_) (by simp [F8r17, hltj, hx] <;> rfl)
                simp [F8r17, hltj, hx]
                refine ⟨callOK rfl hAt2, hK _ ?_⟩
                have hrwl := hrw t (by omega)
                have htl : t < rows.length := by omega
                rw [List.getD_eq_getElem?_getD, List.getElem?_eq_getElem htl] at hlbx
                simp only [Option.getD_some] at hlbx
                obtain ⟨row, hrow⟩ : ∃ l, rows[t] = l := ⟨_, rfl⟩
                rw [hrow] at hrwl hlbx
                refine AWp.seqJ (fun _ : Unit => st8b m rows (rj || decide (t = h)) f k r h j [(14, ival t)]) (fun _ => True) ?_ (fun hJ => ?_)
                · skip
                  rintro - -
                  refine AWp.seq ?_
                  refine AWp.reg [true] F8r19 [] (by kernel_rfl) (by rw [hC]; rfl) fun K hK => ?_
                  simp [F8r19]
                  first | refine hK _ ?_ | refine ⟨by omega, hK _ ?_⟩ | refine ⟨by omega, by omega, hK _ ?_⟩ | refine ⟨by omega, by omega, by omega, hK _ ?_⟩ | refine ⟨by omega, by omega, by omega, by omega, hK _ ?_⟩
                  refine AWp.block ?_
                  refine AWp.loopG (fun j2 : Nat => st8b m rows (rj || decide (t = h) || (row.take j2).contains h) f k r h j [(14, ival t), (15, ival j2)]) (fun j2 => j2 ≤ row.length) (fun j2 => row.length - j2) 0 (by simp) (by simp [st8b]) (fun j2 hj2 => ?_)
                  have hct := fun q => contains_take row j2 h q
                  have hcend : row.length ≤ j2 → (rj || litB m r x) = (rj || decide (t = h) || (row.take j2).contains h) := fun q => by rw [hlbx, List.take_of_length_le q, Bool.or_assoc]
                  obtain ⟨q, hq⟩ : ∃ q, (rj || decide (t = h) || (row.take j2).contains h) = q := ⟨_, rfl⟩
                  rw [hq] at hcend ⊢
                  refine AWp.seq ?_
                  refine AWp.seq ?_
                  refine AWp.reg [] F8r20 [] (by kernel_rfl) (by rw [hC]; rfl) fun K hK => ?_
                  simp [F8r20, st8b, hlt2, hrl, hrow]
                  first | refine hK _ ?_ | refine ⟨by omega, hK _ ?_⟩ | refine ⟨by omega, by omega, hK _ ?_⟩ | refine ⟨by omega, by omega, by omega, hK _ ?_⟩ | refine ⟨by omega, by omega, by omega, by omega, hK _ ?_⟩
                  refine AWp.cond (decide (j2 < row.length)) (by simp) (fun hlt3 => ?_) (fun hge3 => ?_)
                  · skip
                    have hlt3 : j2 < row.length := by simpa using hlt3
                    have hct2 := hct hlt3
                    have hq2 : (rj || decide (t = h) || (row.take (j2 + 1)).contains h) = (q || decide (row[j2] = h)) := by rw [hct2, ← hq]; simp only [Bool.or_assoc]
                    cases q with
                    | true =>
                      refine AWp.skip ?_
                      refine AWp.seq ?_
                      refine AWp.block ?_
                      refine AWp.reg [false, false, false, false, false, false, false, false, false, false, false, false, true] F8r22 [] (by kernel_rfl) (by rw [hC]; rfl) fun K hK => ?_
                      simp [F8r22]
                      first | refine hK _ ?_ | refine ⟨by omega, hK _ ?_⟩ | refine ⟨by omega, by omega, hK _ ?_⟩ | refine ⟨by omega, by omega, by omega, hK _ ?_⟩ | refine ⟨by omega, by omega, by omega, by omega, hK _ ?_⟩
                      refine AWp.reg [false, false, true] F8r21 [] (by kernel_rfl) (by rw [hC]; rfl) fun K hK => ?_
                      simp [F8r21]
                      first | refine hK _ ?_ | refine ⟨by omega, hK _ ?_⟩ | refine ⟨by omega, by omega, hK _ ?_⟩ | refine ⟨by omega, by omega, by omega, hK _ ?_⟩ | refine ⟨by omega, by omega, by omega, by omega, hK _ ?_⟩
                      refine ⟨j2 + 1, by omega, by omega, ?_⟩
                      rw [hq2]
                      simp [st8b, wrap_nat j2 (by omega)]
                    | false =>
                      obtain ⟨y, hy⟩ : ∃ y, row[j2] = y := ⟨_, rfl⟩
                      rw [hy] at hq2
                      by_cases hyh : y = h
                      · have hyh' : ((y : Int) == (h : Int)) = true := by simp [hyh]
                        refine AWp.skip ?_
                        refine AWp.seq ?_
                        refine AWp.block ?_
                        refine AWp.reg [false, false, false, false, false, false, false, false, false, false, false, false, true] F8r22 [] (by kernel_rfl) (by rw [hC]; rfl) fun K hK => ?_
                        simp [F8r22, hlt2, hrl, hrow, hlt3, hy, hyh']
                        first | refine hK _ ?_ | refine ⟨by omega, hK _ ?_⟩ | refine ⟨by omega, by omega, hK _ ?_⟩ | refine ⟨by omega, by omega, by omega, hK _ ?_⟩ | refine ⟨by omega, by omega, by omega, by omega, hK _ ?_⟩
                        refine AWp.reg [false, false, true] F8r21 [] (by kernel_rfl) (by rw [hC]; rfl) fun K hK => ?_
                        simp [F8r21, hlt2, hrl, hrow, hlt3, hy, hyh']
                        first | refine hK _ ?_ | refine ⟨by omega, hK _ ?_⟩ | refine ⟨by omega, by omega, hK _ ?_⟩ | refine ⟨by omega, by omega, by omega, hK _ ?_⟩ | refine ⟨by omega, by omega, by omega, by omega, hK _ ?_⟩
                        refine ⟨j2 + 1, by omega, by omega, ?_⟩
                        rw [hq2]
                        simp [st8b, wrap_nat j2 (by omega), hyh]
                      · have hyh' : ((y : Int) == (h : Int)) = false := by simp; omega
                        refine AWp.skip ?_
                        refine AWp.seq ?_
                        refine AWp.block ?_
                        refine AWp.reg [false, false, false, false, false, false, false, false, false, false, false, false, true] F8r22 [] (by kernel_rfl) (by rw [hC]; rfl) fun K hK => ?_
                        simp [F8r22, hlt2, hrl, hrow, hlt3, hy, hyh']
                        first | refine hK _ ?_ | refine ⟨by omega, hK _ ?_⟩ | refine ⟨by omega, by omega, hK _ ?_⟩ | refine ⟨by omega, by omega, by omega, hK _ ?_⟩ | refine ⟨by omega, by omega, by omega, by omega, hK _ ?_⟩
                        refine AWp.reg [false, false, true] F8r21 [] (by kernel_rfl) (by rw [hC]; rfl) fun K hK => ?_
                        simp [F8r21, hlt2, hrl, hrow, hlt3, hy, hyh']
                        first | refine hK _ ?_ | refine ⟨by omega, hK _ ?_⟩ | refine ⟨by omega, by omega, hK _ ?_⟩ | refine ⟨by omega, by omega, by omega, hK _ ?_⟩ | refine ⟨by omega, by omega, by omega, by omega, hK _ ?_⟩
                        refine ⟨j2 + 1, by omega, by omega, ?_⟩
                        rw [hq2]
                        simp [st8b, wrap_nat j2 (by omega), hyh]
                  have hge3 : ¬ j2 < row.length := by simpa using hge3
                  refine AWp.exit ?_
                  rw [← hcend (by omega)]
                  refine hJ _ _ rfl ?_
                  simp [st8b]
                · skip
                  cases rj with
                  | true =>
                    refine AWp.reg [false, false, false, false, false, false, true] F8r18 [] (by kernel_rfl) (by rw [hC]; rfl) fun K hK => ?_
                    simp [F8r18]
                    first | refine hK _ ?_ | refine ⟨by omega, hK _ ?_⟩ | refine ⟨by omega, by omega, hK _ ?_⟩ | refine ⟨by omega, by omega, by omega, hK _ ?_⟩ | refine ⟨by omega, by omega, by omega, by omega, hK _ ?_⟩
                    refine hJ _ () trivial ?_
                    simp [st8b]
                  | false =>
                    by_cases hth : t = h
                    · have hth' : ((t : Int) == (h : Int)) = true := by simp [hth]
                      refine AWp.reg [false, false, false, false, false, false, true] F8r18 [] (by kernel_rfl) (by rw [hC]; rfl) fun K hK => ?_
                      simp [F8r18, hth']
                      first | refine hK _ ?_ | refine ⟨by omega, hK _ ?_⟩ | refine ⟨by omega, by omega, hK _ ?_⟩ | refine ⟨by omega, by omega, by omega, hK _ ?_⟩ | refine ⟨by omega, by omega, by omega, by omega, hK _ ?_⟩
                      refine hJ _ () trivial ?_
                      simp [st8b, hth]
                    · have hth' : ((t : Int) == (h : Int)) = false := by simp; omega
                      refine AWp.reg [false, false, false, false, false, false, true] F8r18 [] (by kernel_rfl) (by rw [hC]; rfl) fun K hK => ?_
                      simp [F8r18, hth']
                      first | refine hK _ ?_ | refine ⟨by omega, hK _ ?_⟩ | refine ⟨by omega, by omega, hK _ ?_⟩ | refine ⟨by omega, by omega, by omega, hK _ ?_⟩ | refine ⟨by omega, by omega, by omega, by omega, hK _ ?_⟩
                      refine hJ _ () trivial ?_
                      simp [st8b, hth]
        have hgej : ¬ j < r.body.length := by simpa using hgej
        refine AWp.exit ?_
        refine AWp.reg [false, false, true] F8r10 [] (by kernel_rfl) (by rw [hC]; rfl) fun K hK => ?_
        simp [F8r10]
        first | refine hK _ ?_ | refine ⟨by omega, hK _ ?_⟩ | refine ⟨by omega, by omega, hK _ ?_⟩ | refine ⟨by omega, by omega, by omega, hK _ ?_⟩ | refine ⟨by omega, by omega, by omega, by omega, hK _ ?_⟩
        refine ⟨k + 1, by omega, by omega, ?_⟩
        rw [ht, hend2 (by omega)]
        simp [st8, wrap_nat k (by omega)]
      have hge : ¬ k < m.rules.length := by simpa using hge
      have hre := hend (by omega)
      rw [hre] at hf
      refine AWp.exit ?_
      cases rb with
      | true =>
        simp at hf
        subst hf
        refine AWp.seq ?_
        refine AWp.reg [false, false, false, false, false, false, false, false, false, false, false, true] F8r23 [] (by kernel_rfl) (by rw [hC]; rfl) fun K hK => ?_
        simp [F8r23]
        first | refine hK _ ?_ | refine ⟨by omega, hK _ ?_⟩ | refine ⟨by omega, by omega, hK _ ?_⟩ | refine ⟨by omega, by omega, by omega, hK _ ?_⟩ | refine ⟨by omega, by omega, by omega, by omega, hK _ ?_⟩
        repeat refine AWp.seq ?_
        refine AWp.ret ⟨.inr rfl, _, by simp [Try.results8] <;> rfl, ?_⟩
        exact .closed rfl
      | false =>
        simp at hf
        subst hf
        refine AWp.seq ?_
        refine AWp.reg [false, false, false, false, false, false, false, false, false, false, false, true] F8r23 [] (by kernel_rfl) (by rw [hC]; rfl) fun K hK => ?_
        simp [F8r23]
        first | refine hK _ ?_ | refine ⟨by omega, hK _ ?_⟩ | refine ⟨by omega, by omega, hK _ ?_⟩ | refine ⟨by omega, by omega, by omega, hK _ ?_⟩ | refine ⟨by omega, by omega, by omega, by omega, hK _ ?_⟩
        repeat refine AWp.seq ?_
        refine AWp.ret ⟨.inr rfl, _, by simp [Try.results8] <;> rfl, ?_⟩
        exact .closed rfl
    · have hpr : progRests m = ([], checkE m) := by simp [progRests, he]
      have hpm : progMake m = (⟨[], [], []⟩, checkE m) := by simp [progMake, he]
      rw [hpr] at hr2
      rw [hpm] at hmk
      refine AWp.skip ?_
      refine AWp.seq ?_
      refine AWp.reg [false, false, false, false, false, false, false, true, true, true] F8r3 [{ r := encRests ([], checkE m) }] (by kernel_rfl) (by rw [hC]; rfl) fun K hK => ?_
      simp [F8r3, encRests]
      refine ⟨callOK rfl hr2, hK _ ?_⟩
      refine AWp.seq ?_
      refine AWp.reg [false, false, false, false, false, false, false, false, true, true, true] F8r4 [{ r := encMakeR (⟨[], [], []⟩, checkE m) }] (by kernel_rfl) (by rw [hC]; rfl) fun K hK => ?_
      simp [F8r4, encMakeR, encStrata]
      refine ⟨callOK rfl hmk, hK _ ?_⟩
      refine AWp.seq ?_
      refine AWp.seq ?_
      refine AWp.reg [] F8r5 [] (by kernel_rfl) (by rw [hC]; rfl) fun K hK => ?_
      simp [F8r5]
      first | refine hK _ ?_ | refine ⟨by omega, hK _ ?_⟩ | refine ⟨by omega, by omega, hK _ ?_⟩ | refine ⟨by omega, by omega, by omega, hK _ ?_⟩ | refine ⟨by omega, by omega, by omega, by omega, hK _ ?_⟩
      refine AWp.cond true (by simp [he]) (fun _ => ?_) (fun he => by cases he)
      refine AWp.seq ?_
      refine AWp.reg [false, false, false, false, false, false, false, false, true] F8r6 [] (by kernel_rfl) (by rw [hC]; rfl) fun K hK => ?_
      simp [F8r6]
      first | refine hK _ ?_ | refine ⟨by omega, hK _ ?_⟩ | refine ⟨by omega, by omega, hK _ ?_⟩ | refine ⟨by omega, by omega, by omega, hK _ ?_⟩ | refine ⟨by omega, by omega, by omega, by omega, hK _ ?_⟩
      repeat refine AWp.seq ?_
      refine AWp.ret ⟨.inr rfl, _, by simp [Try.results8] <;> rfl, ?_⟩
      exact .closed rfl
end Go.St
