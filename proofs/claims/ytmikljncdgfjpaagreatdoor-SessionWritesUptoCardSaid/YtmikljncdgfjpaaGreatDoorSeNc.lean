/- The bytes of replies: the program's. -/
import Derived.Test.YtmikljncdgfjpaaGreatDoorSeN
set_option linter.unusedSimpArgs false
set_option linter.unusedVariables false
open Go Go.Aw Go.Proofs
namespace Go.Se
set_option maxRecDepth 20000
set_option maxHeartbeats 2000000
-- function 18: corollary/session.Tell
def F18r0 : List ROp := [⟨some 1, .box 36 (.tmp 0), [], none⟩,
  ⟨some 2, .copy true (.const (.string { data := #[] })), [], none⟩,
  ⟨some 3, .copy true (.const (.int .i64 0)), [], none⟩]
def F18r1 : List ROp := [⟨some 6, .fad 0 (.tmp 1), [], none⟩,
  ⟨some 7, .load 1 false false (.tmp 6), [], none⟩,
  ⟨some 8, .bin .gtr (.tmp 7) (.const (.int .u8 7)), [], none⟩,
  ⟨some 5, .copy true (.tmp 8), [], none⟩]
def F18r2 : List ROp := [⟨some 2, .copy true (.const (.string { data := #[] })), [], none⟩,
  ⟨some 3, .copy true (.const (.int .i64 1)), [], none⟩]
def F18r3 : List ROp := [⟨some 10, .load 11 true false (.tmp 1), [], none⟩,
  ⟨some 11, .call (.func 66) [.tmp 10], [], none⟩,
  ⟨some 12, .un .not (.tmp 11), [], none⟩,
  ⟨some 9, .copy true (.tmp 12), [], none⟩]
def F18r4 : List ROp := [⟨some 2, .copy true (.const (.string { data := #[] })), [], none⟩,
  ⟨some 3, .copy true (.const (.int .i64 4)), [], none⟩]
def F18r5 : List ROp := [⟨some 13, .fad 0 (.tmp 1), [], none⟩,
  ⟨some 14, .load 1 false false (.tmp 13), [], none⟩,
  ⟨some 15, .bslice 5 1 [Value.int .u8 0] 1 [(0, .tmp 14)], [], none⟩,
  ⟨some 4, .copy true (.tmp 15), [], none⟩]
def F18r6 : List ROp := [⟨some 16, .fad 0 (.tmp 1), [], none⟩,
  ⟨some 17, .load 1 false false (.tmp 16), [], none⟩]
def F18r7 : List ROp := [⟨some 18, .copy false (.tmp 4), [], none⟩,
  ⟨some 19, .fad 8 (.tmp 1), [], none⟩,
  ⟨some 20, .load 1 false false (.tmp 19), [], none⟩,
  ⟨some 21, .call (.func 55) [.tmp 18, .tmp 20, .func 56], [], none⟩,
  ⟨some 4, .copy true (.tmp 21), [], none⟩]
def F18r8 : List ROp := [⟨some 23, .bin .eql (.tmp 17) (.const (.int .u8 0)), [], none⟩,
  ⟨some 22, .copy true (.tmp 23), [], none⟩]
def F18r9 : List ROp := [⟨some 24, .copy false (.tmp 4), [], none⟩,
  ⟨some 25, .fad 1 (.tmp 1), [], none⟩,
  ⟨some 26, .load 1 false false (.tmp 25), [1], none⟩,
  ⟨some 27, .call (.func 53) [.tmp 24, .tmp 26], [0, 2], none⟩,
  ⟨some 28, .fad 2 (.tmp 1), [], none⟩,
  ⟨some 29, .load 1 false false (.tmp 28), [4], none⟩,
  ⟨some 30, .call (.func 57) [.tmp 27, .tmp 29], [3, 5, 3], none⟩,
  ⟨some 4, .copy true (.tmp 30), [6, 6, 0, 1, 2, 3, 4, 5, 6], none⟩]
def F18r10 : List ROp := [⟨some 31, .copy false (.tmp 4), [], none⟩,
  ⟨some 32, .fad 3 (.tmp 1), [], none⟩,
  ⟨some 33, .fad 0 (.tmp 32), [1], none⟩,
  ⟨some 34, .load 1 false false (.tmp 33), [2], none⟩,
  ⟨some 35, .call (.func 53) [.tmp 31, .tmp 34], [0, 3], none⟩,
  ⟨some 36, .fad 3 (.tmp 1), [], none⟩,
  ⟨some 37, .fad 1 (.tmp 36), [5], none⟩,
  ⟨some 38, .load 1 false false (.tmp 37), [6], none⟩,
  ⟨some 39, .call (.func 53) [.tmp 35, .tmp 38], [4, 7, 4], none⟩,
  ⟨some 4, .copy true (.tmp 39), [8, 8, 0, 1, 2, 3, 4, 5, 6, 7, 8], none⟩]
def F18r11 : List ROp := [⟨some 40, .copy false (.tmp 4), [], none⟩,
  ⟨some 41, .fad 5 (.tmp 1), [], none⟩,
  ⟨some 42, .load 1 false false (.tmp 41), [1], none⟩,
  ⟨some 43, .call (.func 67) [.tmp 40, .tmp 42], [0, 2], none⟩,
  ⟨some 44, .fad 6 (.tmp 1), [], none⟩,
  ⟨some 45, .load 1 false false (.tmp 44), [4], none⟩,
  ⟨some 46, .call (.func 67) [.tmp 43, .tmp 45], [3, 5, 3], none⟩,
  ⟨some 47, .fad 7 (.tmp 1), [], none⟩,
  ⟨some 48, .load 1 false false (.tmp 47), [7], none⟩,
  ⟨some 49, .call (.func 53) [.tmp 46, .tmp 48], [6, 8, 6], none⟩,
  ⟨some 4, .copy true (.tmp 49), [9, 9, 0, 1, 2, 3, 4, 5, 6, 7, 8, 9], none⟩]
def F18r12 : List ROp := [⟨some 51, .bin .eql (.tmp 17) (.const (.int .u8 3)), [], none⟩,
  ⟨some 50, .copy true (.tmp 51), [], none⟩]
def F18r13 : List ROp := [⟨some 52, .copy false (.tmp 4), [], none⟩,
  ⟨some 53, .fad 9 (.tmp 1), [], none⟩,
  ⟨some 54, .load 1 false false (.tmp 53), [], none⟩,
  ⟨some 55, .call (.func 68) [.tmp 52, .tmp 54, .func 69], [], none⟩,
  ⟨some 4, .copy true (.tmp 55), [], none⟩]
def F18r14 : List ROp := [⟨some 57, .bin .eql (.tmp 17) (.const (.int .u8 6)), [], none⟩,
  ⟨some 56, .copy true (.tmp 57), [], none⟩]
def F18r15 : List ROp := [⟨some 58, .bin .eql (.tmp 17) (.const (.int .u8 7)), [], none⟩,
  ⟨some 56, .copy true (.tmp 58), [], none⟩]
def F18r16 : List ROp := [⟨some 59, .copy false (.tmp 4), [], none⟩,
  ⟨some 60, .fad 10 (.tmp 1), [], none⟩,
  ⟨some 61, .load 1 false false (.tmp 60), [], none⟩,
  ⟨some 62, .call (.func 57) [.tmp 59, .tmp 61], [], none⟩,
  ⟨some 4, .copy true (.tmp 62), [], none⟩]
def F18r17 : List ROp := [⟨some 63, .copy false (.tmp 4), [], none⟩,
  ⟨some 64, .call (.func 59) [.tmp 63], [], none⟩,
  ⟨some 65, .ext (.tmp 64) 0, [], none⟩,
  ⟨some 66, .ext (.tmp 64) 1, [], none⟩,
  ⟨some 2, .copy true (.tmp 65), [], none⟩,
  ⟨some 3, .copy true (.tmp 66), [], none⟩]
theorem tell_P (r : RepD) (hc : repsize r ≤ 4194304) (hr : reprng r) : Con Tryz.prog 18 [repX r] (tellA r) := by
  have h0 : repsize r = r.module.size + csizes r.changes + rsizes r.rows + r.text.size := rfl
  obtain ⟨hk0, hru, hne, hre, hcr, hrr⟩ := hr
  have hcl := csizes_len r.changes
  have hrl := rsizes_len r.rows
  have hchl := chs_len r.changes hcr (by omega)
  have hrol := rows_len r.rows hrr (by omega)
  have hw1 : IntKind.i64.wrap r.rule = r.rule := wrap_in hru.1 hru.2
  have hw2 : IntKind.i64.wrap r.never = r.never := wrap_in hne.1 hne.2
  have hw3 : IntKind.i64.wrap r.e = r.e := wrap_in hre.1 hre.2
  unfold tellA
  by_cases hk : 7 < r.kind
  · rw [if_pos hk]
    refine Con.of_code Tryz.func18 (by kernel_rfl) rfl (by simp [Tryz.ntmps18]) fun C hC hM => ?_
    refine AWp.seq ?_
    refine AWp.regK [1] [false, true, true] F18r0 [] (by kernel_rfl) (by rw [hC]; rfl) fun K hK => ?_
    simp (maxSteps := 2000000) [F18r0]
    refine hK _ ?_
    refine AWp.seq ?_
    refine AWp.block ?_
    refine AWp.seq ?_
    refine AWp.regK [1, 5] [false, false, false, true] F18r1 [] (by kernel_rfl) (by rw [hC]; rfl) fun K hK => ?_
    simp (maxSteps := 2000000) [F18r1]
    refine hK _ ?_
    refine AWp.cond true (by simp; omega) (fun _ => ?_) (fun he => by cases he)
    refine AWp.seq ?_
    refine AWp.regK [2, 3] [true, true] F18r2 [] (by kernel_rfl) (by rw [hC]; rfl) fun K hK => ?_
    simp (maxSteps := 2000000) [F18r2]
    refine hK _ ?_
    repeat refine AWp.seq ?_
    refine AWp.ret ⟨.inr rfl, _, by simp [Tryz.results18] <;> rfl, ?_⟩
    exact .clos (by simp) rfl
  · rw [if_neg hk]
    have hf := fitsR_P r hc ⟨r.kind.toNat, by omega⟩ (by simp; omega)
    by_cases hff : fitsR r = false
    · rw [if_pos hff]
      rw [hff] at hf
      refine Con.of_code Tryz.func18 (by kernel_rfl) rfl (by simp [Tryz.ntmps18]) fun C hC hM => ?_
      refine AWp.seq ?_
      refine AWp.regK [1] [false, true, true] F18r0 [] (by kernel_rfl) (by rw [hC]; rfl) fun K hK => ?_
      simp (maxSteps := 2000000) [F18r0]
      refine hK _ ?_
      refine AWp.seq ?_
      refine AWp.block ?_
      refine AWp.seq ?_
      refine AWp.regK [1, 5] [false, false, false, true] F18r1 [] (by kernel_rfl) (by rw [hC]; rfl) fun K hK => ?_
      simp (maxSteps := 2000000) [F18r1]
      refine hK _ ?_
      refine AWp.cond false (by simp; omega) (fun he => by cases he) (fun _ => ?_)
      refine AWp.seq ?_
      refine AWp.regK [1, 9] [false, false, false, true] F18r3 [{ r := bval false }] (by kernel_rfl) (by rw [hC]; rfl) fun K hK => ?_
      simp (maxSteps := 2000000) [F18r3]
      (repeat first | refine ⟨by first | (show freeP _ _ _ = true; kernel_rfl) | omega | (intros; omega) | assumption, ?_⟩ | refine ⟨by intros; exact callOK rfl hf, ?_⟩); refine hK _ ?_
      refine AWp.cond true (by simp) (fun _ => ?_) (fun he => by cases he)
      refine AWp.seq ?_
      refine AWp.regK [2, 3] [true, true] F18r4 [] (by kernel_rfl) (by rw [hC]; rfl) fun K hK => ?_
      simp (maxSteps := 2000000) [F18r4]
      refine hK _ ?_
      repeat refine AWp.seq ?_
      refine AWp.ret ⟨.inr rfl, _, by simp [Tryz.results18] <;> rfl, ?_⟩
      exact .clos (by simp) rfl
    · rw [if_neg hff]
      have hft : fitsR r = true := by simpa using hff
      rw [hft] at hf
      obtain ⟨l0, hl0⟩ : ∃ l : List Int, l = [r.kind] := ⟨_, rfl⟩
      have hn0 : l0.length = 1 := by rw [hl0]; rfl
      have hbt : bt l0 = [[AV.val (Value.int .u8 r.kind)]] := by rw [hl0]; rfl
      have h17 : r.kind = 0 ∨ r.kind = 1 ∨ r.kind = 2 ∨ r.kind = 3 ∨ r.kind = 4 ∨ r.kind = 5 ∨ r.kind = 6 ∨ r.kind = 7 := by omega
      rcases h17 with h | h | h | h | h | h | h | h
      · have hb1 : (cntE r.e).length ≤ 9 := cntE_len _
        have hc1 := Count_ok (IsB.of (l := l0) (by omega)) r.e (by omega)
        obtain ⟨l1, hl1⟩ : ∃ l, l = l0 ++ cntE r.e := ⟨_, rfl⟩
        rw [← hl1] at hc1
        have hn1 : l1.length ≤ l0.length + 9 ∧ 0 < l1.length := by rw [hl1, List.length_append]; omega
        have hb2 : (txtE r.module).length ≤ 2 * r.module.size + 2 := txtE_len _
        have hc2 := Str_ok (IsB.of (l := l1) (by omega)) r.module (by omega) (by omega)
        obtain ⟨l2, hl2⟩ : ∃ l, l = l1 ++ txtE r.module := ⟨_, rfl⟩
        rw [← hl2] at hc2
        have hn2 : l2.length ≤ l1.length + 2 * r.module.size + 2 ∧ 0 < l2.length := by rw [hl2, List.length_append]; omega
        have hb3 : (cntE r.line).length ≤ 9 := cntE_len _
        have hc3 := Count_ok (IsB.of (l := l2) (by omega)) r.line (by omega)
        obtain ⟨l3, hl3⟩ : ∃ l, l = l2 ++ cntE r.line := ⟨_, rfl⟩
        rw [← hl3] at hc3
        have hn3 : l3.length ≤ l2.length + 9 ∧ 0 < l3.length := by rw [hl3, List.length_append]; omega
        have hb4 : (cntE r.col).length ≤ 9 := cntE_len _
        have hc4 := Count_ok (IsB.of (l := l3) (by omega)) r.col (by omega)
        obtain ⟨l4, hl4⟩ : ∃ l, l = l3 ++ cntE r.col := ⟨_, rfl⟩
        rw [← hl4] at hc4
        have hn4 : l4.length ≤ l3.length + 9 ∧ 0 < l4.length := by rw [hl4, List.length_append]; omega
        have hb5 : (numI r.rule).length ≤ 9 := numI_len _ hru.1 hru.2
        have hc5 := Num_ok (IsB.of (l := l4) (by omega)) r.rule hru.1 hru.2 (by omega)
        obtain ⟨l5, hl5⟩ : ∃ l, l = l4 ++ numI r.rule := ⟨_, rfl⟩
        rw [← hl5] at hc5
        have hn5 : l5.length ≤ l4.length + 9 ∧ 0 < l5.length := by rw [hl5, List.length_append]; omega
        have hb6 : (numI r.never).length ≤ 9 := numI_len _ hne.1 hne.2
        have hc6 := Num_ok (IsB.of (l := l5) (by omega)) r.never hne.1 hne.2 (by omega)
        obtain ⟨l6, hl6⟩ : ∃ l, l = l5 ++ numI r.never := ⟨_, rfl⟩
        rw [← hl6] at hc6
        have hn6 : l6.length ≤ l5.length + 9 ∧ 0 < l6.length := by rw [hl6, List.length_append]; omega
        have hb7 : (cntE r.row).length ≤ 9 := cntE_len _
        have hc7 := Count_ok (IsB.of (l := l6) (by omega)) r.row (by omega)
        obtain ⟨l7, hl7⟩ : ∃ l, l = l6 ++ cntE r.row := ⟨_, rfl⟩
        rw [← hl7] at hc7
        have hn7 : l7.length ≤ l6.length + 9 ∧ 0 < l7.length := by rw [hl7, List.length_append]; omega
        have hbl : l7 = bytesR r := by
          rw [hl7, hl6, hl5, hl4, hl3, hl2, hl1, hl0]; unfold bytesR; rw [if_pos h]; simp
        rw [← hbl]
        have hw := wholeP_ok l7 (by omega)
        obtain ⟨ws, we, hwe⟩ := wholeA_tup l7
        rw [hwe] at hw ⊢
        refine Con.of_code Tryz.func18 (by kernel_rfl) rfl (by simp [Tryz.ntmps18]) fun C hC hM => ?_
        refine AWp.seq ?_
        refine AWp.regK [1] [false, true, true] F18r0 [] (by kernel_rfl) (by rw [hC]; rfl) fun K hK => ?_
        simp (maxSteps := 2000000) [F18r0]
        refine hK _ ?_
        refine AWp.seq ?_
        refine AWp.block ?_
        refine AWp.seq ?_
        refine AWp.regK [1, 5] [false, false, false, true] F18r1 [] (by kernel_rfl) (by rw [hC]; rfl) fun K hK => ?_
        simp (maxSteps := 2000000) [F18r1]
        refine hK _ ?_
        refine AWp.cond false (by simp; omega) (fun he => by cases he) (fun _ => ?_)
        refine AWp.seq ?_
        refine AWp.regK [1, 9] [false, false, false, true] F18r3 [{ r := bval true }] (by kernel_rfl) (by rw [hC]; rfl) fun K hK => ?_
        simp (maxSteps := 2000000) [F18r3]
        (repeat first | refine ⟨by first | (show freeP _ _ _ = true; kernel_rfl) | omega | (intros; omega) | assumption, ?_⟩ | refine ⟨by intros; exact callOK rfl hf, ?_⟩); refine hK _ ?_
        refine AWp.cond false (by simp) (fun he => by cases he) (fun _ => ?_)
        refine AWp.skip ?_
        refine AWp.seq ?_
        refine AWp.regK [1, 4] [false, false, false, true] F18r5 [] (by kernel_rfl) (by rw [hC]; rfl) fun K hK => ?_
        simp (maxSteps := 2000000) [F18r5]
        (repeat refine ⟨by first | omega | (intros; omega) | assumption, ?_⟩); refine hK _ ?_
        refine AWp.seq ?_
        refine AWp.seq ?_
        refine AWp.regK [1, 4, 17] [] F18r6 [] (by kernel_rfl) (by rw [hC]; rfl) fun K hK => ?_
        simp (maxSteps := 2000000) [F18r6]
        refine hK _ ?_
        refine AWp.block ?_
        refine AWp.seq ?_
        refine AWp.regK [1, 4, 17, 22] [false, true] F18r8 [] (by kernel_rfl) (by rw [hC]; rfl) fun K hK => ?_
        simp (maxSteps := 2000000) [F18r8]
        refine hK _ ?_
        rw [← hbt]
        refine AWp.cond true (by simp [h]) (fun _ => ?_) (fun he => by cases he)
        refine AWp.seq ?_
        refine AWp.regKL ops_mixed [[], [], [1], [0, 1, 2], [], [4], [0, 1, 2, 3, 4, 5], [0, 1, 2, 3, 4, 5, 6]] [1, 4] [false, false, false, false, false, false, false, true] F18r9 [{ r := oB l1 }, { r := oB l2 }] (by kernel_rfl) (by rw [hC]; rfl) (by kernel_rfl) (by kernel_rfl) fun K hK => ?_
        simp (maxSteps := 2000000) [F18r9, hw3]
        (repeat first | refine ⟨by first | (show freeP _ _ _ = true; kernel_rfl) | omega | (intros; omega) | assumption, ?_⟩ | refine ⟨by intros; exact callWk rfl (by repeat (first | exact WkL.nil | refine WkL.cons (by first | exact Wk.refl _ | exact Wk.nil _ | exact Wk.own (WkR.refl _)) ?_)) hc1, ?_⟩ | refine ⟨by intros; exact callWk rfl (by repeat (first | exact WkL.nil | refine WkL.cons (by first | exact Wk.refl _ | exact Wk.nil _ | exact Wk.own (WkR.refl _)) ?_)) hc2, ?_⟩); refine hK _ ?_
        refine AWp.seq ?_
        refine AWp.regKL ops_mixed [[], [], [1], [1, 2], [0, 1, 2, 3], [], [5], [5, 6], [0, 1, 2, 3, 4, 5, 6, 7], [0, 1, 2, 3, 4, 5, 6, 7, 8]] [1, 4] [false, false, false, false, false, false, false, false, false, true] F18r10 [{ r := oB l3 }, { r := oB l4 }] (by kernel_rfl) (by rw [hC]; rfl) (by kernel_rfl) (by kernel_rfl) fun K hK => ?_
        simp (maxSteps := 2000000) [F18r10]
        (repeat first | refine ⟨by first | (show freeP _ _ _ = true; kernel_rfl) | omega | (intros; omega) | assumption, ?_⟩ | refine ⟨by intros; exact callWk rfl (by repeat (first | exact WkL.nil | refine WkL.cons (by first | exact Wk.refl _ | exact Wk.nil _ | exact Wk.own (WkR.refl _)) ?_)) hc3, ?_⟩ | refine ⟨by intros; exact callWk rfl (by repeat (first | exact WkL.nil | refine WkL.cons (by first | exact Wk.refl _ | exact Wk.nil _ | exact Wk.own (WkR.refl _)) ?_)) hc4, ?_⟩); refine hK _ ?_
        refine AWp.regKL ops_mixed [[], [], [1], [0, 1, 2], [], [4], [0, 1, 2, 3, 4, 5], [], [7], [0, 1, 2, 3, 4, 5, 6, 7, 8], [0, 1, 2, 3, 4, 5, 6, 7, 8, 9]] [4] [false, false, false, false, false, false, false, false, false, false, true] F18r11 [{ r := oB l5 }, { r := oB l6 }, { r := oB l7 }] (by kernel_rfl) (by rw [hC]; rfl) (by kernel_rfl) (by kernel_rfl) fun K hK => ?_
        simp (maxSteps := 2000000) [F18r11, hw1, hw2]
        (repeat first | refine ⟨by first | (show freeP _ _ _ = true; kernel_rfl) | omega | (intros; omega) | assumption, ?_⟩ | refine ⟨by intros; exact callWk rfl (by repeat (first | exact WkL.nil | refine WkL.cons (by first | exact Wk.refl _ | exact Wk.nil _ | exact Wk.own (WkR.refl _)) ?_)) hc5, ?_⟩ | refine ⟨by intros; exact callWk rfl (by repeat (first | exact WkL.nil | refine WkL.cons (by first | exact Wk.refl _ | exact Wk.nil _ | exact Wk.own (WkR.refl _)) ?_)) hc6, ?_⟩ | refine ⟨by intros; exact callWk rfl (by repeat (first | exact WkL.nil | refine WkL.cons (by first | exact Wk.refl _ | exact Wk.nil _ | exact Wk.own (WkR.refl _)) ?_)) hc7, ?_⟩); refine hK _ ?_
        refine AWp.seq ?_
        refine AWp.regK [2, 3] [false, false, false, false, true, true] F18r17 [{ r := .tup [sval ws, ival we] }] (by kernel_rfl) (by rw [hC]; rfl) fun K hK => ?_
        simp (maxSteps := 2000000) [F18r17]
        (repeat first | refine ⟨by first | (show freeP _ _ _ = true; kernel_rfl) | omega | (intros; omega) | assumption, ?_⟩ | refine ⟨by intros; exact callWk rfl (by repeat (first | exact WkL.nil | refine WkL.cons (by first | exact Wk.refl _ | exact Wk.nil _ | exact Wk.own (WkR.refl _)) ?_)) hw, ?_⟩); refine hK _ ?_
        repeat refine AWp.seq ?_
        refine AWp.ret ⟨.inr rfl, _, by simp [Tryz.results18] <;> rfl, ?_⟩
        exact .clos (by simp) rfl
      · have hb1 : ((cntE r.changes.length ++ manyE chE r.changes)).length ≤ 9 + 12 * csizes r.changes := by have := cntE_len r.changes.length; have := chs_len r.changes hcr (by omega); rw [List.length_append]; omega
        have hc1 := putC_ok (IsB.of (l := l0) (by omega)) r.changes 56 chE (by omega) (by omega) (fun x hx => oneC x (crngs_mem hx hcr) (by have := csize_mem hx; omega))
        obtain ⟨l1, hl1⟩ : ∃ l, l = l0 ++ (cntE r.changes.length ++ manyE chE r.changes) := ⟨_, rfl⟩
        rw [← hl1] at hc1
        have hn1 : l1.length ≤ l0.length + 9 + 12 * csizes r.changes ∧ 0 < l1.length := by rw [hl1, List.length_append]; omega
        have hbl : l1 = bytesR r := by
          rw [hl1, hl0]; unfold bytesR; rw [if_neg (show ¬ r.kind = 0 by omega), if_neg (show ¬ r.kind = 3 by omega), if_neg (show ¬ (r.kind = 6 ∨ r.kind = 7) by omega)]; simp
        rw [← hbl]
        have hw := wholeP_ok l1 (by omega)
        obtain ⟨ws, we, hwe⟩ := wholeA_tup l1
        rw [hwe] at hw ⊢
        refine Con.of_code Tryz.func18 (by kernel_rfl) rfl (by simp [Tryz.ntmps18]) fun C hC hM => ?_
        refine AWp.seq ?_
        refine AWp.regK [1] [false, true, true] F18r0 [] (by kernel_rfl) (by rw [hC]; rfl) fun K hK => ?_
        simp (maxSteps := 2000000) [F18r0]
        refine hK _ ?_
        refine AWp.seq ?_
        refine AWp.block ?_
        refine AWp.seq ?_
        refine AWp.regK [1, 5] [false, false, false, true] F18r1 [] (by kernel_rfl) (by rw [hC]; rfl) fun K hK => ?_
        simp (maxSteps := 2000000) [F18r1]
        refine hK _ ?_
        refine AWp.cond false (by simp; omega) (fun he => by cases he) (fun _ => ?_)
        refine AWp.seq ?_
        refine AWp.regK [1, 9] [false, false, false, true] F18r3 [{ r := bval true }] (by kernel_rfl) (by rw [hC]; rfl) fun K hK => ?_
        simp (maxSteps := 2000000) [F18r3]
        (repeat first | refine ⟨by first | (show freeP _ _ _ = true; kernel_rfl) | omega | (intros; omega) | assumption, ?_⟩ | refine ⟨by intros; exact callOK rfl hf, ?_⟩); refine hK _ ?_
        refine AWp.cond false (by simp) (fun he => by cases he) (fun _ => ?_)
        refine AWp.skip ?_
        refine AWp.seq ?_
        refine AWp.regK [1, 4] [false, false, false, true] F18r5 [] (by kernel_rfl) (by rw [hC]; rfl) fun K hK => ?_
        simp (maxSteps := 2000000) [F18r5]
        (repeat refine ⟨by first | omega | (intros; omega) | assumption, ?_⟩); refine hK _ ?_
        refine AWp.seq ?_
        refine AWp.seq ?_
        refine AWp.regK [1, 4, 17] [] F18r6 [] (by kernel_rfl) (by rw [hC]; rfl) fun K hK => ?_
        simp (maxSteps := 2000000) [F18r6]
        refine hK _ ?_
        refine AWp.block ?_
        refine AWp.seq ?_
        refine AWp.regK [1, 4, 17, 22] [false, true] F18r8 [] (by kernel_rfl) (by rw [hC]; rfl) fun K hK => ?_
        simp (maxSteps := 2000000) [F18r8]
        refine hK _ ?_
        rw [← hbt]
        refine AWp.cond false (by simp [h]) (fun he => by cases he) (fun _ => ?_)
        refine AWp.seq ?_
        refine AWp.regK [1, 4, 17, 50] [false, true] F18r12 [] (by kernel_rfl) (by rw [hC]; rfl) fun K hK => ?_
        simp (maxSteps := 2000000) [F18r12]
        refine hK _ ?_
        refine AWp.cond false (by simp [h]) (fun he => by cases he) (fun _ => ?_)
        refine AWp.seq ?_
        refine AWp.seq ?_
        refine AWp.regK [1, 4, 17, 56] [false, true] F18r14 [] (by kernel_rfl) (by rw [hC]; rfl) fun K hK => ?_
        simp (maxSteps := 2000000) [F18r14, h]
        refine hK _ ?_
        refine AWp.cond false (by simp) (fun he => by cases he) (fun _ => ?_)
        refine AWp.regK [1, 4, 56] [false, true] F18r15 [] (by kernel_rfl) (by rw [hC]; rfl) fun K hK => ?_
        simp (maxSteps := 2000000) [F18r15, h]
        refine hK _ ?_
        refine AWp.cond false (by simp) (fun he => by cases he) (fun _ => ?_)
        refine AWp.regK [4] [false, false, false, false, true] F18r7 [{ r := oB l1 }] (by kernel_rfl) (by rw [hC]; rfl) fun K hK => ?_
        simp (maxSteps := 2000000) [F18r7]
        (repeat first | refine ⟨by first | (show freeP _ _ _ = true; kernel_rfl) | omega | (intros; omega) | assumption, ?_⟩ | refine ⟨by intros; exact callWk rfl (by repeat (first | exact WkL.nil | refine WkL.cons (by first | exact Wk.refl _ | exact Wk.nil _ | exact Wk.own (WkR.refl _)) ?_)) hc1, ?_⟩); refine hK _ ?_
        refine AWp.seq ?_
        refine AWp.regK [2, 3] [false, false, false, false, true, true] F18r17 [{ r := .tup [sval ws, ival we] }] (by kernel_rfl) (by rw [hC]; rfl) fun K hK => ?_
        simp (maxSteps := 2000000) [F18r17]
        (repeat first | refine ⟨by first | (show freeP _ _ _ = true; kernel_rfl) | omega | (intros; omega) | assumption, ?_⟩ | refine ⟨by intros; exact callWk rfl (by repeat (first | exact WkL.nil | refine WkL.cons (by first | exact Wk.refl _ | exact Wk.nil _ | exact Wk.own (WkR.refl _)) ?_)) hw, ?_⟩); refine hK _ ?_
        repeat refine AWp.seq ?_
        refine AWp.ret ⟨.inr rfl, _, by simp [Tryz.results18] <;> rfl, ?_⟩
        exact .clos (by simp) rfl
      · have hb1 : ((cntE r.changes.length ++ manyE chE r.changes)).length ≤ 9 + 12 * csizes r.changes := by have := cntE_len r.changes.length; have := chs_len r.changes hcr (by omega); rw [List.length_append]; omega
        have hc1 := putC_ok (IsB.of (l := l0) (by omega)) r.changes 56 chE (by omega) (by omega) (fun x hx => oneC x (crngs_mem hx hcr) (by have := csize_mem hx; omega))
        obtain ⟨l1, hl1⟩ : ∃ l, l = l0 ++ (cntE r.changes.length ++ manyE chE r.changes) := ⟨_, rfl⟩
        rw [← hl1] at hc1
        have hn1 : l1.length ≤ l0.length + 9 + 12 * csizes r.changes ∧ 0 < l1.length := by rw [hl1, List.length_append]; omega
        have hbl : l1 = bytesR r := by
          rw [hl1, hl0]; unfold bytesR; rw [if_neg (show ¬ r.kind = 0 by omega), if_neg (show ¬ r.kind = 3 by omega), if_neg (show ¬ (r.kind = 6 ∨ r.kind = 7) by omega)]; simp
        rw [← hbl]
        have hw := wholeP_ok l1 (by omega)
        obtain ⟨ws, we, hwe⟩ := wholeA_tup l1
        rw [hwe] at hw ⊢
        refine Con.of_code Tryz.func18 (by kernel_rfl) rfl (by simp [Tryz.ntmps18]) fun C hC hM => ?_
        refine AWp.seq ?_
        refine AWp.regK [1] [false, true, true] F18r0 [] (by kernel_rfl) (by rw [hC]; rfl) fun K hK => ?_
        simp (maxSteps := 2000000) [F18r0]
        refine hK _ ?_
        refine AWp.seq ?_
        refine AWp.block ?_
        refine AWp.seq ?_
        refine AWp.regK [1, 5] [false, false, false, true] F18r1 [] (by kernel_rfl) (by rw [hC]; rfl) fun K hK => ?_
        simp (maxSteps := 2000000) [F18r1]
        refine hK _ ?_
        refine AWp.cond false (by simp; omega) (fun he => by cases he) (fun _ => ?_)
        refine AWp.seq ?_
        refine AWp.regK [1, 9] [false, false, false, true] F18r3 [{ r := bval true }] (by kernel_rfl) (by rw [hC]; rfl) fun K hK => ?_
        simp (maxSteps := 2000000) [F18r3]
        (repeat first | refine ⟨by first | (show freeP _ _ _ = true; kernel_rfl) | omega | (intros; omega) | assumption, ?_⟩ | refine ⟨by intros; exact callOK rfl hf, ?_⟩); refine hK _ ?_
        refine AWp.cond false (by simp) (fun he => by cases he) (fun _ => ?_)
        refine AWp.skip ?_
        refine AWp.seq ?_
        refine AWp.regK [1, 4] [false, false, false, true] F18r5 [] (by kernel_rfl) (by rw [hC]; rfl) fun K hK => ?_
        simp (maxSteps := 2000000) [F18r5]
        (repeat refine ⟨by first | omega | (intros; omega) | assumption, ?_⟩); refine hK _ ?_
        refine AWp.seq ?_
        refine AWp.seq ?_
        refine AWp.regK [1, 4, 17] [] F18r6 [] (by kernel_rfl) (by rw [hC]; rfl) fun K hK => ?_
        simp (maxSteps := 2000000) [F18r6]
        refine hK _ ?_
        refine AWp.block ?_
        refine AWp.seq ?_
        refine AWp.regK [1, 4, 17, 22] [false, true] F18r8 [] (by kernel_rfl) (by rw [hC]; rfl) fun K hK => ?_
        simp (maxSteps := 2000000) [F18r8]
        refine hK _ ?_
        rw [← hbt]
        refine AWp.cond false (by simp [h]) (fun he => by cases he) (fun _ => ?_)
        refine AWp.seq ?_
        refine AWp.regK [1, 4, 17, 50] [false, true] F18r12 [] (by kernel_rfl) (by rw [hC]; rfl) fun K hK => ?_
        simp (maxSteps := 2000000) [F18r12]
        refine hK _ ?_
        refine AWp.cond false (by simp [h]) (fun he => by cases he) (fun _ => ?_)
        refine AWp.seq ?_
        refine AWp.seq ?_
        refine AWp.regK [1, 4, 17, 56] [false, true] F18r14 [] (by kernel_rfl) (by rw [hC]; rfl) fun K hK => ?_
        simp (maxSteps := 2000000) [F18r14, h]
        refine hK _ ?_
        refine AWp.cond false (by simp) (fun he => by cases he) (fun _ => ?_)
        refine AWp.regK [1, 4, 56] [false, true] F18r15 [] (by kernel_rfl) (by rw [hC]; rfl) fun K hK => ?_
        simp (maxSteps := 2000000) [F18r15, h]
        refine hK _ ?_
        refine AWp.cond false (by simp) (fun he => by cases he) (fun _ => ?_)
        refine AWp.regK [4] [false, false, false, false, true] F18r7 [{ r := oB l1 }] (by kernel_rfl) (by rw [hC]; rfl) fun K hK => ?_
        simp (maxSteps := 2000000) [F18r7]
        (repeat first | refine ⟨by first | (show freeP _ _ _ = true; kernel_rfl) | omega | (intros; omega) | assumption, ?_⟩ | refine ⟨by intros; exact callWk rfl (by repeat (first | exact WkL.nil | refine WkL.cons (by first | exact Wk.refl _ | exact Wk.nil _ | exact Wk.own (WkR.refl _)) ?_)) hc1, ?_⟩); refine hK _ ?_
        refine AWp.seq ?_
        refine AWp.regK [2, 3] [false, false, false, false, true, true] F18r17 [{ r := .tup [sval ws, ival we] }] (by kernel_rfl) (by rw [hC]; rfl) fun K hK => ?_
        simp (maxSteps := 2000000) [F18r17]
        (repeat first | refine ⟨by first | (show freeP _ _ _ = true; kernel_rfl) | omega | (intros; omega) | assumption, ?_⟩ | refine ⟨by intros; exact callWk rfl (by repeat (first | exact WkL.nil | refine WkL.cons (by first | exact Wk.refl _ | exact Wk.nil _ | exact Wk.own (WkR.refl _)) ?_)) hw, ?_⟩); refine hK _ ?_
        repeat refine AWp.seq ?_
        refine AWp.ret ⟨.inr rfl, _, by simp [Tryz.results18] <;> rfl, ?_⟩
        exact .clos (by simp) rfl
      · have hb1 : ((cntE r.rows.length ++ manyE rowE r.rows)).length ≤ 9 + 12 * rsizes r.rows := by have := cntE_len r.rows.length; have := rows_len r.rows hrr (by omega); rw [List.length_append]; omega
        have hc1 := putL_ok (IsB.of (l := l0) (by omega)) r.rows 69 rowE (by omega) (by omega) (fun x hx => oneR x (rrngs_mem hx hrr) (by have := rsize_mem hx; omega))
        obtain ⟨l1, hl1⟩ : ∃ l, l = l0 ++ (cntE r.rows.length ++ manyE rowE r.rows) := ⟨_, rfl⟩
        rw [← hl1] at hc1
        have hn1 : l1.length ≤ l0.length + 9 + 12 * rsizes r.rows ∧ 0 < l1.length := by rw [hl1, List.length_append]; omega
        have hbl : l1 = bytesR r := by
          rw [hl1, hl0]; unfold bytesR; rw [if_neg (show ¬ r.kind = 0 by omega), if_pos h]; simp
        rw [← hbl]
        have hw := wholeP_ok l1 (by omega)
        obtain ⟨ws, we, hwe⟩ := wholeA_tup l1
        rw [hwe] at hw ⊢
        refine Con.of_code Tryz.func18 (by kernel_rfl) rfl (by simp [Tryz.ntmps18]) fun C hC hM => ?_
        refine AWp.seq ?_
        refine AWp.regK [1] [false, true, true] F18r0 [] (by kernel_rfl) (by rw [hC]; rfl) fun K hK => ?_
        simp (maxSteps := 2000000) [F18r0]
        refine hK _ ?_
        refine AWp.seq ?_
        refine AWp.block ?_
        refine AWp.seq ?_
        refine AWp.regK [1, 5] [false, false, false, true] F18r1 [] (by kernel_rfl) (by rw [hC]; rfl) fun K hK => ?_
        simp (maxSteps := 2000000) [F18r1]
        refine hK _ ?_
        refine AWp.cond false (by simp; omega) (fun he => by cases he) (fun _ => ?_)
        refine AWp.seq ?_
        refine AWp.regK [1, 9] [false, false, false, true] F18r3 [{ r := bval true }] (by kernel_rfl) (by rw [hC]; rfl) fun K hK => ?_
        simp (maxSteps := 2000000) [F18r3]
        (repeat first | refine ⟨by first | (show freeP _ _ _ = true; kernel_rfl) | omega | (intros; omega) | assumption, ?_⟩ | refine ⟨by intros; exact callOK rfl hf, ?_⟩); refine hK _ ?_
        refine AWp.cond false (by simp) (fun he => by cases he) (fun _ => ?_)
        refine AWp.skip ?_
        refine AWp.seq ?_
        refine AWp.regK [1, 4] [false, false, false, true] F18r5 [] (by kernel_rfl) (by rw [hC]; rfl) fun K hK => ?_
        simp (maxSteps := 2000000) [F18r5]
        (repeat refine ⟨by first | omega | (intros; omega) | assumption, ?_⟩); refine hK _ ?_
        refine AWp.seq ?_
        refine AWp.seq ?_
        refine AWp.regK [1, 4, 17] [] F18r6 [] (by kernel_rfl) (by rw [hC]; rfl) fun K hK => ?_
        simp (maxSteps := 2000000) [F18r6]
        refine hK _ ?_
        refine AWp.block ?_
        refine AWp.seq ?_
        refine AWp.regK [1, 4, 17, 22] [false, true] F18r8 [] (by kernel_rfl) (by rw [hC]; rfl) fun K hK => ?_
        simp (maxSteps := 2000000) [F18r8]
        refine hK _ ?_
        rw [← hbt]
        refine AWp.cond false (by simp [h]) (fun he => by cases he) (fun _ => ?_)
        refine AWp.seq ?_
        refine AWp.regK [1, 4, 17, 50] [false, true] F18r12 [] (by kernel_rfl) (by rw [hC]; rfl) fun K hK => ?_
        simp (maxSteps := 2000000) [F18r12]
        refine hK _ ?_
        refine AWp.cond true (by simp [h]) (fun _ => ?_) (fun he => by cases he)
        refine AWp.regK [4] [false, false, false, false, true] F18r13 [{ r := oB l1 }] (by kernel_rfl) (by rw [hC]; rfl) fun K hK => ?_
        simp (maxSteps := 2000000) [F18r13]
        (repeat first | refine ⟨by first | (show freeP _ _ _ = true; kernel_rfl) | omega | (intros; omega) | assumption, ?_⟩ | refine ⟨by intros; exact callWk rfl (by repeat (first | exact WkL.nil | refine WkL.cons (by first | exact Wk.refl _ | exact Wk.nil _ | exact Wk.own (WkR.refl _)) ?_)) hc1, ?_⟩); refine hK _ ?_
        refine AWp.seq ?_
        refine AWp.regK [2, 3] [false, false, false, false, true, true] F18r17 [{ r := .tup [sval ws, ival we] }] (by kernel_rfl) (by rw [hC]; rfl) fun K hK => ?_
        simp (maxSteps := 2000000) [F18r17]
        (repeat first | refine ⟨by first | (show freeP _ _ _ = true; kernel_rfl) | omega | (intros; omega) | assumption, ?_⟩ | refine ⟨by intros; exact callWk rfl (by repeat (first | exact WkL.nil | refine WkL.cons (by first | exact Wk.refl _ | exact Wk.nil _ | exact Wk.own (WkR.refl _)) ?_)) hw, ?_⟩); refine hK _ ?_
        repeat refine AWp.seq ?_
        refine AWp.ret ⟨.inr rfl, _, by simp [Tryz.results18] <;> rfl, ?_⟩
        exact .clos (by simp) rfl
      · have hb1 : ((cntE r.changes.length ++ manyE chE r.changes)).length ≤ 9 + 12 * csizes r.changes := by have := cntE_len r.changes.length; have := chs_len r.changes hcr (by omega); rw [List.length_append]; omega
        have hc1 := putC_ok (IsB.of (l := l0) (by omega)) r.changes 56 chE (by omega) (by omega) (fun x hx => oneC x (crngs_mem hx hcr) (by have := csize_mem hx; omega))
        obtain ⟨l1, hl1⟩ : ∃ l, l = l0 ++ (cntE r.changes.length ++ manyE chE r.changes) := ⟨_, rfl⟩
        rw [← hl1] at hc1
        have hn1 : l1.length ≤ l0.length + 9 + 12 * csizes r.changes ∧ 0 < l1.length := by rw [hl1, List.length_append]; omega
        have hbl : l1 = bytesR r := by
          rw [hl1, hl0]; unfold bytesR; rw [if_neg (show ¬ r.kind = 0 by omega), if_neg (show ¬ r.kind = 3 by omega), if_neg (show ¬ (r.kind = 6 ∨ r.kind = 7) by omega)]; simp
        rw [← hbl]
        have hw := wholeP_ok l1 (by omega)
        obtain ⟨ws, we, hwe⟩ := wholeA_tup l1
        rw [hwe] at hw ⊢
        refine Con.of_code Tryz.func18 (by kernel_rfl) rfl (by simp [Tryz.ntmps18]) fun C hC hM => ?_
        refine AWp.seq ?_
        refine AWp.regK [1] [false, true, true] F18r0 [] (by kernel_rfl) (by rw [hC]; rfl) fun K hK => ?_
        simp (maxSteps := 2000000) [F18r0]
        refine hK _ ?_
        refine AWp.seq ?_
        refine AWp.block ?_
        refine AWp.seq ?_
        refine AWp.regK [1, 5] [false, false, false, true] F18r1 [] (by kernel_rfl) (by rw [hC]; rfl) fun K hK => ?_
        simp (maxSteps := 2000000) [F18r1]
        refine hK _ ?_
        refine AWp.cond false (by simp; omega) (fun he => by cases he) (fun _ => ?_)
        refine AWp.seq ?_
        refine AWp.regK [1, 9] [false, false, false, true] F18r3 [{ r := bval true }] (by kernel_rfl) (by rw [hC]; rfl) fun K hK => ?_
        simp (maxSteps := 2000000) [F18r3]
        (repeat first | refine ⟨by first | (show freeP _ _ _ = true; kernel_rfl) | omega | (intros; omega) | assumption, ?_⟩ | refine ⟨by intros; exact callOK rfl hf, ?_⟩); refine hK _ ?_
        refine AWp.cond false (by simp) (fun he => by cases he) (fun _ => ?_)
        refine AWp.skip ?_
        refine AWp.seq ?_
        refine AWp.regK [1, 4] [false, false, false, true] F18r5 [] (by kernel_rfl) (by rw [hC]; rfl) fun K hK => ?_
        simp (maxSteps := 2000000) [F18r5]
        (repeat refine ⟨by first | omega | (intros; omega) | assumption, ?_⟩); refine hK _ ?_
        refine AWp.seq ?_
        refine AWp.seq ?_
        refine AWp.regK [1, 4, 17] [] F18r6 [] (by kernel_rfl) (by rw [hC]; rfl) fun K hK => ?_
        simp (maxSteps := 2000000) [F18r6]
        refine hK _ ?_
        refine AWp.block ?_
        refine AWp.seq ?_
        refine AWp.regK [1, 4, 17, 22] [false, true] F18r8 [] (by kernel_rfl) (by rw [hC]; rfl) fun K hK => ?_
        simp (maxSteps := 2000000) [F18r8]
        refine hK _ ?_
        rw [← hbt]
        refine AWp.cond false (by simp [h]) (fun he => by cases he) (fun _ => ?_)
        refine AWp.seq ?_
        refine AWp.regK [1, 4, 17, 50] [false, true] F18r12 [] (by kernel_rfl) (by rw [hC]; rfl) fun K hK => ?_
        simp (maxSteps := 2000000) [F18r12]
        refine hK _ ?_
        refine AWp.cond false (by simp [h]) (fun he => by cases he) (fun _ => ?_)
        refine AWp.seq ?_
        refine AWp.seq ?_
        refine AWp.regK [1, 4, 17, 56] [false, true] F18r14 [] (by kernel_rfl) (by rw [hC]; rfl) fun K hK => ?_
        simp (maxSteps := 2000000) [F18r14, h]
        refine hK _ ?_
        refine AWp.cond false (by simp) (fun he => by cases he) (fun _ => ?_)
        refine AWp.regK [1, 4, 56] [false, true] F18r15 [] (by kernel_rfl) (by rw [hC]; rfl) fun K hK => ?_
        simp (maxSteps := 2000000) [F18r15, h]
        refine hK _ ?_
        refine AWp.cond false (by simp) (fun he => by cases he) (fun _ => ?_)
        refine AWp.regK [4] [false, false, false, false, true] F18r7 [{ r := oB l1 }] (by kernel_rfl) (by rw [hC]; rfl) fun K hK => ?_
        simp (maxSteps := 2000000) [F18r7]
        (repeat first | refine ⟨by first | (show freeP _ _ _ = true; kernel_rfl) | omega | (intros; omega) | assumption, ?_⟩ | refine ⟨by intros; exact callWk rfl (by repeat (first | exact WkL.nil | refine WkL.cons (by first | exact Wk.refl _ | exact Wk.nil _ | exact Wk.own (WkR.refl _)) ?_)) hc1, ?_⟩); refine hK _ ?_
        refine AWp.seq ?_
        refine AWp.regK [2, 3] [false, false, false, false, true, true] F18r17 [{ r := .tup [sval ws, ival we] }] (by kernel_rfl) (by rw [hC]; rfl) fun K hK => ?_
        simp (maxSteps := 2000000) [F18r17]
        (repeat first | refine ⟨by first | (show freeP _ _ _ = true; kernel_rfl) | omega | (intros; omega) | assumption, ?_⟩ | refine ⟨by intros; exact callWk rfl (by repeat (first | exact WkL.nil | refine WkL.cons (by first | exact Wk.refl _ | exact Wk.nil _ | exact Wk.own (WkR.refl _)) ?_)) hw, ?_⟩); refine hK _ ?_
        repeat refine AWp.seq ?_
        refine AWp.ret ⟨.inr rfl, _, by simp [Tryz.results18] <;> rfl, ?_⟩
        exact .clos (by simp) rfl
      · have hb1 : ((cntE r.changes.length ++ manyE chE r.changes)).length ≤ 9 + 12 * csizes r.changes := by have := cntE_len r.changes.length; have := chs_len r.changes hcr (by omega); rw [List.length_append]; omega
        have hc1 := putC_ok (IsB.of (l := l0) (by omega)) r.changes 56 chE (by omega) (by omega) (fun x hx => oneC x (crngs_mem hx hcr) (by have := csize_mem hx; omega))
        obtain ⟨l1, hl1⟩ : ∃ l, l = l0 ++ (cntE r.changes.length ++ manyE chE r.changes) := ⟨_, rfl⟩
        rw [← hl1] at hc1
        have hn1 : l1.length ≤ l0.length + 9 + 12 * csizes r.changes ∧ 0 < l1.length := by rw [hl1, List.length_append]; omega
        have hbl : l1 = bytesR r := by
          rw [hl1, hl0]; unfold bytesR; rw [if_neg (show ¬ r.kind = 0 by omega), if_neg (show ¬ r.kind = 3 by omega), if_neg (show ¬ (r.kind = 6 ∨ r.kind = 7) by omega)]; simp
        rw [← hbl]
        have hw := wholeP_ok l1 (by omega)
        obtain ⟨ws, we, hwe⟩ := wholeA_tup l1
        rw [hwe] at hw ⊢
        refine Con.of_code Tryz.func18 (by kernel_rfl) rfl (by simp [Tryz.ntmps18]) fun C hC hM => ?_
        refine AWp.seq ?_
        refine AWp.regK [1] [false, true, true] F18r0 [] (by kernel_rfl) (by rw [hC]; rfl) fun K hK => ?_
        simp (maxSteps := 2000000) [F18r0]
        refine hK _ ?_
        refine AWp.seq ?_
        refine AWp.block ?_
        refine AWp.seq ?_
        refine AWp.regK [1, 5] [false, false, false, true] F18r1 [] (by kernel_rfl) (by rw [hC]; rfl) fun K hK => ?_
        simp (maxSteps := 2000000) [F18r1]
        refine hK _ ?_
        refine AWp.cond false (by simp; omega) (fun he => by cases he) (fun _ => ?_)
        refine AWp.seq ?_
        refine AWp.regK [1, 9] [false, false, false, true] F18r3 [{ r := bval true }] (by kernel_rfl) (by rw [hC]; rfl) fun K hK => ?_
        simp (maxSteps := 2000000) [F18r3]
        (repeat first | refine ⟨by first | (show freeP _ _ _ = true; kernel_rfl) | omega | (intros; omega) | assumption, ?_⟩ | refine ⟨by intros; exact callOK rfl hf, ?_⟩); refine hK _ ?_
        refine AWp.cond false (by simp) (fun he => by cases he) (fun _ => ?_)
        refine AWp.skip ?_
        refine AWp.seq ?_
        refine AWp.regK [1, 4] [false, false, false, true] F18r5 [] (by kernel_rfl) (by rw [hC]; rfl) fun K hK => ?_
        simp (maxSteps := 2000000) [F18r5]
        (repeat refine ⟨by first | omega | (intros; omega) | assumption, ?_⟩); refine hK _ ?_
        refine AWp.seq ?_
        refine AWp.seq ?_
        refine AWp.regK [1, 4, 17] [] F18r6 [] (by kernel_rfl) (by rw [hC]; rfl) fun K hK => ?_
        simp (maxSteps := 2000000) [F18r6]
        refine hK _ ?_
        refine AWp.block ?_
        refine AWp.seq ?_
        refine AWp.regK [1, 4, 17, 22] [false, true] F18r8 [] (by kernel_rfl) (by rw [hC]; rfl) fun K hK => ?_
        simp (maxSteps := 2000000) [F18r8]
        refine hK _ ?_
        rw [← hbt]
        refine AWp.cond false (by simp [h]) (fun he => by cases he) (fun _ => ?_)
        refine AWp.seq ?_
        refine AWp.regK [1, 4, 17, 50] [false, true] F18r12 [] (by kernel_rfl) (by rw [hC]; rfl) fun K hK => ?_
        simp (maxSteps := 2000000) [F18r12]
        refine hK _ ?_
        refine AWp.cond false (by simp [h]) (fun he => by cases he) (fun _ => ?_)
        refine AWp.seq ?_
        refine AWp.seq ?_
        refine AWp.regK [1, 4, 17, 56] [false, true] F18r14 [] (by kernel_rfl) (by rw [hC]; rfl) fun K hK => ?_
        simp (maxSteps := 2000000) [F18r14, h]
        refine hK _ ?_
        refine AWp.cond false (by simp) (fun he => by cases he) (fun _ => ?_)
        refine AWp.regK [1, 4, 56] [false, true] F18r15 [] (by kernel_rfl) (by rw [hC]; rfl) fun K hK => ?_
        simp (maxSteps := 2000000) [F18r15, h]
        refine hK _ ?_
        refine AWp.cond false (by simp) (fun he => by cases he) (fun _ => ?_)
        refine AWp.regK [4] [false, false, false, false, true] F18r7 [{ r := oB l1 }] (by kernel_rfl) (by rw [hC]; rfl) fun K hK => ?_
        simp (maxSteps := 2000000) [F18r7]
        (repeat first | refine ⟨by first | (show freeP _ _ _ = true; kernel_rfl) | omega | (intros; omega) | assumption, ?_⟩ | refine ⟨by intros; exact callWk rfl (by repeat (first | exact WkL.nil | refine WkL.cons (by first | exact Wk.refl _ | exact Wk.nil _ | exact Wk.own (WkR.refl _)) ?_)) hc1, ?_⟩); refine hK _ ?_
        refine AWp.seq ?_
        refine AWp.regK [2, 3] [false, false, false, false, true, true] F18r17 [{ r := .tup [sval ws, ival we] }] (by kernel_rfl) (by rw [hC]; rfl) fun K hK => ?_
        simp (maxSteps := 2000000) [F18r17]
        (repeat first | refine ⟨by first | (show freeP _ _ _ = true; kernel_rfl) | omega | (intros; omega) | assumption, ?_⟩ | refine ⟨by intros; exact callWk rfl (by repeat (first | exact WkL.nil | refine WkL.cons (by first | exact Wk.refl _ | exact Wk.nil _ | exact Wk.own (WkR.refl _)) ?_)) hw, ?_⟩); refine hK _ ?_
        repeat refine AWp.seq ?_
        refine AWp.ret ⟨.inr rfl, _, by simp [Tryz.results18] <;> rfl, ?_⟩
        exact .clos (by simp) rfl
      · have hb1 : (txtE r.text).length ≤ 2 * r.text.size + 2 := txtE_len _
        have hc1 := Str_ok (IsB.of (l := l0) (by omega)) r.text (by omega) (by omega)
        obtain ⟨l1, hl1⟩ : ∃ l, l = l0 ++ txtE r.text := ⟨_, rfl⟩
        rw [← hl1] at hc1
        have hn1 : l1.length ≤ l0.length + 2 * r.text.size + 2 ∧ 0 < l1.length := by rw [hl1, List.length_append]; omega
        have hbl : l1 = bytesR r := by
          rw [hl1, hl0]; unfold bytesR; rw [if_neg (show ¬ r.kind = 0 by omega), if_neg (show ¬ r.kind = 3 by omega), if_pos (show r.kind = 6 ∨ r.kind = 7 by omega)]; simp
        rw [← hbl]
        have hw := wholeP_ok l1 (by omega)
        obtain ⟨ws, we, hwe⟩ := wholeA_tup l1
        rw [hwe] at hw ⊢
        refine Con.of_code Tryz.func18 (by kernel_rfl) rfl (by simp [Tryz.ntmps18]) fun C hC hM => ?_
        refine AWp.seq ?_
        refine AWp.regK [1] [false, true, true] F18r0 [] (by kernel_rfl) (by rw [hC]; rfl) fun K hK => ?_
        simp (maxSteps := 2000000) [F18r0]
        refine hK _ ?_
        refine AWp.seq ?_
        refine AWp.block ?_
        refine AWp.seq ?_
        refine AWp.regK [1, 5] [false, false, false, true] F18r1 [] (by kernel_rfl) (by rw [hC]; rfl) fun K hK => ?_
        simp (maxSteps := 2000000) [F18r1]
        refine hK _ ?_
        refine AWp.cond false (by simp; omega) (fun he => by cases he) (fun _ => ?_)
        refine AWp.seq ?_
        refine AWp.regK [1, 9] [false, false, false, true] F18r3 [{ r := bval true }] (by kernel_rfl) (by rw [hC]; rfl) fun K hK => ?_
        simp (maxSteps := 2000000) [F18r3]
        (repeat first | refine ⟨by first | (show freeP _ _ _ = true; kernel_rfl) | omega | (intros; omega) | assumption, ?_⟩ | refine ⟨by intros; exact callOK rfl hf, ?_⟩); refine hK _ ?_
        refine AWp.cond false (by simp) (fun he => by cases he) (fun _ => ?_)
        refine AWp.skip ?_
        refine AWp.seq ?_
        refine AWp.regK [1, 4] [false, false, false, true] F18r5 [] (by kernel_rfl) (by rw [hC]; rfl) fun K hK => ?_
        simp (maxSteps := 2000000) [F18r5]
        (repeat refine ⟨by first | omega | (intros; omega) | assumption, ?_⟩); refine hK _ ?_
        refine AWp.seq ?_
        refine AWp.seq ?_
        refine AWp.regK [1, 4, 17] [] F18r6 [] (by kernel_rfl) (by rw [hC]; rfl) fun K hK => ?_
        simp (maxSteps := 2000000) [F18r6]
        refine hK _ ?_
        refine AWp.block ?_
        refine AWp.seq ?_
        refine AWp.regK [1, 4, 17, 22] [false, true] F18r8 [] (by kernel_rfl) (by rw [hC]; rfl) fun K hK => ?_
        simp (maxSteps := 2000000) [F18r8]
        refine hK _ ?_
        rw [← hbt]
        refine AWp.cond false (by simp [h]) (fun he => by cases he) (fun _ => ?_)
        refine AWp.seq ?_
        refine AWp.regK [1, 4, 17, 50] [false, true] F18r12 [] (by kernel_rfl) (by rw [hC]; rfl) fun K hK => ?_
        simp (maxSteps := 2000000) [F18r12]
        refine hK _ ?_
        refine AWp.cond false (by simp [h]) (fun he => by cases he) (fun _ => ?_)
        refine AWp.seq ?_
        refine AWp.seq ?_
        refine AWp.regK [1, 4, 17, 56] [false, true] F18r14 [] (by kernel_rfl) (by rw [hC]; rfl) fun K hK => ?_
        simp (maxSteps := 2000000) [F18r14, h]
        refine hK _ ?_
        refine AWp.cond true (by simp) (fun _ => ?_) (fun he => by cases he)
        refine AWp.skip ?_
        refine AWp.cond true (by simp) (fun _ => ?_) (fun he => by cases he)
        refine AWp.regK [4] [false, false, false, false, true] F18r16 [{ r := oB l1 }] (by kernel_rfl) (by rw [hC]; rfl) fun K hK => ?_
        simp (maxSteps := 2000000) [F18r16]
        (repeat first | refine ⟨by first | (show freeP _ _ _ = true; kernel_rfl) | omega | (intros; omega) | assumption, ?_⟩ | refine ⟨by intros; exact callWk rfl (by repeat (first | exact WkL.nil | refine WkL.cons (by first | exact Wk.refl _ | exact Wk.nil _ | exact Wk.own (WkR.refl _)) ?_)) hc1, ?_⟩); refine hK _ ?_
        refine AWp.seq ?_
        refine AWp.regK [2, 3] [false, false, false, false, true, true] F18r17 [{ r := .tup [sval ws, ival we] }] (by kernel_rfl) (by rw [hC]; rfl) fun K hK => ?_
        simp (maxSteps := 2000000) [F18r17]
        (repeat first | refine ⟨by first | (show freeP _ _ _ = true; kernel_rfl) | omega | (intros; omega) | assumption, ?_⟩ | refine ⟨by intros; exact callWk rfl (by repeat (first | exact WkL.nil | refine WkL.cons (by first | exact Wk.refl _ | exact Wk.nil _ | exact Wk.own (WkR.refl _)) ?_)) hw, ?_⟩); refine hK _ ?_
        repeat refine AWp.seq ?_
        refine AWp.ret ⟨.inr rfl, _, by simp [Tryz.results18] <;> rfl, ?_⟩
        exact .clos (by simp) rfl
      · have hb1 : (txtE r.text).length ≤ 2 * r.text.size + 2 := txtE_len _
        have hc1 := Str_ok (IsB.of (l := l0) (by omega)) r.text (by omega) (by omega)
        obtain ⟨l1, hl1⟩ : ∃ l, l = l0 ++ txtE r.text := ⟨_, rfl⟩
        rw [← hl1] at hc1
        have hn1 : l1.length ≤ l0.length + 2 * r.text.size + 2 ∧ 0 < l1.length := by rw [hl1, List.length_append]; omega
        have hbl : l1 = bytesR r := by
          rw [hl1, hl0]; unfold bytesR; rw [if_neg (show ¬ r.kind = 0 by omega), if_neg (show ¬ r.kind = 3 by omega), if_pos (show r.kind = 6 ∨ r.kind = 7 by omega)]; simp
        rw [← hbl]
        have hw := wholeP_ok l1 (by omega)
        obtain ⟨ws, we, hwe⟩ := wholeA_tup l1
        rw [hwe] at hw ⊢
        refine Con.of_code Tryz.func18 (by kernel_rfl) rfl (by simp [Tryz.ntmps18]) fun C hC hM => ?_
        refine AWp.seq ?_
        refine AWp.regK [1] [false, true, true] F18r0 [] (by kernel_rfl) (by rw [hC]; rfl) fun K hK => ?_
        simp (maxSteps := 2000000) [F18r0]
        refine hK _ ?_
        refine AWp.seq ?_
        refine AWp.block ?_
        refine AWp.seq ?_
        refine AWp.regK [1, 5] [false, false, false, true] F18r1 [] (by kernel_rfl) (by rw [hC]; rfl) fun K hK => ?_
        simp (maxSteps := 2000000) [F18r1]
        refine hK _ ?_
        refine AWp.cond false (by simp; omega) (fun he => by cases he) (fun _ => ?_)
        refine AWp.seq ?_
        refine AWp.regK [1, 9] [false, false, false, true] F18r3 [{ r := bval true }] (by kernel_rfl) (by rw [hC]; rfl) fun K hK => ?_
        simp (maxSteps := 2000000) [F18r3]
        (repeat first | refine ⟨by first | (show freeP _ _ _ = true; kernel_rfl) | omega | (intros; omega) | assumption, ?_⟩ | refine ⟨by intros; exact callOK rfl hf, ?_⟩); refine hK _ ?_
        refine AWp.cond false (by simp) (fun he => by cases he) (fun _ => ?_)
        refine AWp.skip ?_
        refine AWp.seq ?_
        refine AWp.regK [1, 4] [false, false, false, true] F18r5 [] (by kernel_rfl) (by rw [hC]; rfl) fun K hK => ?_
        simp (maxSteps := 2000000) [F18r5]
        (repeat refine ⟨by first | omega | (intros; omega) | assumption, ?_⟩); refine hK _ ?_
        refine AWp.seq ?_
        refine AWp.seq ?_
        refine AWp.regK [1, 4, 17] [] F18r6 [] (by kernel_rfl) (by rw [hC]; rfl) fun K hK => ?_
        simp (maxSteps := 2000000) [F18r6]
        refine hK _ ?_
        refine AWp.block ?_
        refine AWp.seq ?_
        refine AWp.regK [1, 4, 17, 22] [false, true] F18r8 [] (by kernel_rfl) (by rw [hC]; rfl) fun K hK => ?_
        simp (maxSteps := 2000000) [F18r8]
        refine hK _ ?_
        rw [← hbt]
        refine AWp.cond false (by simp [h]) (fun he => by cases he) (fun _ => ?_)
        refine AWp.seq ?_
        refine AWp.regK [1, 4, 17, 50] [false, true] F18r12 [] (by kernel_rfl) (by rw [hC]; rfl) fun K hK => ?_
        simp (maxSteps := 2000000) [F18r12]
        refine hK _ ?_
        refine AWp.cond false (by simp [h]) (fun he => by cases he) (fun _ => ?_)
        refine AWp.seq ?_
        refine AWp.seq ?_
        refine AWp.regK [1, 4, 17, 56] [false, true] F18r14 [] (by kernel_rfl) (by rw [hC]; rfl) fun K hK => ?_
        simp (maxSteps := 2000000) [F18r14, h]
        refine hK _ ?_
        refine AWp.cond false (by simp) (fun he => by cases he) (fun _ => ?_)
        refine AWp.regK [1, 4, 56] [false, true] F18r15 [] (by kernel_rfl) (by rw [hC]; rfl) fun K hK => ?_
        simp (maxSteps := 2000000) [F18r15, h]
        refine hK _ ?_
        refine AWp.cond true (by simp) (fun _ => ?_) (fun he => by cases he)
        refine AWp.regK [4] [false, false, false, false, true] F18r16 [{ r := oB l1 }] (by kernel_rfl) (by rw [hC]; rfl) fun K hK => ?_
        simp (maxSteps := 2000000) [F18r16]
        (repeat first | refine ⟨by first | (show freeP _ _ _ = true; kernel_rfl) | omega | (intros; omega) | assumption, ?_⟩ | refine ⟨by intros; exact callWk rfl (by repeat (first | exact WkL.nil | refine WkL.cons (by first | exact Wk.refl _ | exact Wk.nil _ | exact Wk.own (WkR.refl _)) ?_)) hc1, ?_⟩); refine hK _ ?_
        refine AWp.seq ?_
        refine AWp.regK [2, 3] [false, false, false, false, true, true] F18r17 [{ r := .tup [sval ws, ival we] }] (by kernel_rfl) (by rw [hC]; rfl) fun K hK => ?_
        simp (maxSteps := 2000000) [F18r17]
        (repeat first | refine ⟨by first | (show freeP _ _ _ = true; kernel_rfl) | omega | (intros; omega) | assumption, ?_⟩ | refine ⟨by intros; exact callWk rfl (by repeat (first | exact WkL.nil | refine WkL.cons (by first | exact Wk.refl _ | exact Wk.nil _ | exact Wk.own (WkR.refl _)) ?_)) hw, ?_⟩); refine hK _ ?_
        repeat refine AWp.seq ?_
        refine AWp.ret ⟨.inr rfl, _, by simp [Tryz.results18] <;> rfl, ?_⟩
        exact .clos (by simp) rfl
end Go.Se
