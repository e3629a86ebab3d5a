/- The bytes of replies: the document's. -/
import Derived.Test.YtmikljncdgfjpaaGreatDoorSeN
set_option linter.unusedSimpArgs false
set_option linter.unusedVariables false
open Go Go.Aw Go.Proofs
namespace Go.Se
set_option maxRecDepth 20000
set_option maxHeartbeats 2000000
-- function 19: corollary/corollaryref31.Tell
def F19r0 : List ROp := [⟨some 1, .box 39 (.tmp 0), [], none⟩,
  ⟨some 2, .copy true (.const (.string { data := #[] })), [], none⟩,
  ⟨some 3, .copy true (.const (.int .i64 0)), [], none⟩]
def F19r1 : List ROp := [⟨some 6, .fad 0 (.tmp 1), [], none⟩,
  ⟨some 7, .load 1 false false (.tmp 6), [], none⟩,
  ⟨some 8, .bin .gtr (.tmp 7) (.const (.int .u8 7)), [], none⟩]
def F19r2 : List ROp := [⟨some 2, .copy true (.const (.string { data := #[] })), [], none⟩,
  ⟨some 3, .copy true (.const (.int .i64 1)), [], none⟩]
def F19r3 : List ROp := [⟨some 9, .load 11 true false (.tmp 1), [], none⟩,
  ⟨some 10, .call (.func 70) [.tmp 9], [], none⟩,
  ⟨some 11, .un .not (.tmp 10), [], none⟩]
def F19r4 : List ROp := [⟨some 2, .copy true (.const (.string { data := #[] })), [], none⟩,
  ⟨some 3, .copy true (.const (.int .i64 4)), [], none⟩]
def F19r5 : List ROp := [⟨some 12, .fad 0 (.tmp 1), [], none⟩,
  ⟨some 13, .load 1 false false (.tmp 12), [], none⟩,
  ⟨some 14, .bslice 5 1 [Value.int .u8 0] 1 [(0, .tmp 13)], [], none⟩,
  ⟨some 4, .copy true (.tmp 14), [], none⟩]
def F19r6 : List ROp := [⟨some 15, .fad 0 (.tmp 1), [], none⟩,
  ⟨some 16, .load 1 false false (.tmp 15), [], none⟩]
def F19r7 : List ROp := [⟨some 17, .copy false (.tmp 4), [], none⟩,
  ⟨some 18, .fad 8 (.tmp 1), [], none⟩,
  ⟨some 19, .load 1 false false (.tmp 18), [], none⟩,
  ⟨some 20, .call (.func 63) [.tmp 17, .tmp 19], [], none⟩,
  ⟨some 4, .copy true (.tmp 20), [], none⟩]
def F19r8 : List ROp := [⟨some 22, .bin .eql (.tmp 16) (.const (.int .u8 0)), [], none⟩,
  ⟨some 21, .copy true (.tmp 22), [], none⟩]
def F19r9 : List ROp := [⟨some 23, .copy false (.tmp 4), [], none⟩,
  ⟨some 24, .fad 1 (.tmp 1), [], none⟩,
  ⟨some 25, .load 1 false false (.tmp 24), [1], none⟩,
  ⟨some 26, .call (.func 61) [.tmp 23, .tmp 25], [0, 2], none⟩,
  ⟨some 27, .fad 2 (.tmp 1), [], none⟩,
  ⟨some 28, .load 1 false false (.tmp 27), [4], none⟩,
  ⟨some 29, .call (.func 62) [.tmp 26, .tmp 28], [3, 5, 3], none⟩,
  ⟨some 4, .copy true (.tmp 29), [6, 6, 0, 1, 2, 3, 4, 5, 6], none⟩]
def F19r10 : List ROp := [⟨some 30, .copy false (.tmp 4), [], none⟩,
  ⟨some 31, .fad 3 (.tmp 1), [], none⟩,
  ⟨some 32, .fad 0 (.tmp 31), [1], none⟩,
  ⟨some 33, .load 1 false false (.tmp 32), [2], none⟩,
  ⟨some 34, .call (.func 61) [.tmp 30, .tmp 33], [0, 3], none⟩,
  ⟨some 35, .fad 3 (.tmp 1), [], none⟩,
  ⟨some 36, .fad 1 (.tmp 35), [5], none⟩,
  ⟨some 37, .load 1 false false (.tmp 36), [6], none⟩,
  ⟨some 38, .call (.func 61) [.tmp 34, .tmp 37], [4, 7, 4], none⟩,
  ⟨some 4, .copy true (.tmp 38), [8, 8, 0, 1, 2, 3, 4, 5, 6, 7, 8], none⟩]
def F19r11 : List ROp := [⟨some 39, .copy false (.tmp 4), [], none⟩,
  ⟨some 40, .fad 5 (.tmp 1), [], none⟩,
  ⟨some 41, .load 1 false false (.tmp 40), [1], none⟩,
  ⟨some 42, .call (.func 71) [.tmp 39, .tmp 41], [0, 2], none⟩,
  ⟨some 43, .fad 6 (.tmp 1), [], none⟩,
  ⟨some 44, .load 1 false false (.tmp 43), [4], none⟩,
  ⟨some 45, .call (.func 71) [.tmp 42, .tmp 44], [3, 5, 3], none⟩,
  ⟨some 4, .copy true (.tmp 45), [6, 6, 0, 1, 2, 3, 4, 5, 6], none⟩]
def F19r12 : List ROp := [⟨some 46, .copy false (.tmp 4), [], none⟩,
  ⟨some 47, .fad 7 (.tmp 1), [], none⟩,
  ⟨some 48, .load 1 false false (.tmp 47), [], none⟩,
  ⟨some 49, .call (.func 61) [.tmp 46, .tmp 48], [], none⟩,
  ⟨some 4, .copy true (.tmp 49), [], none⟩]
def F19r13 : List ROp := [⟨some 51, .bin .eql (.tmp 16) (.const (.int .u8 3)), [], none⟩,
  ⟨some 50, .copy true (.tmp 51), [], none⟩]
def F19r14 : List ROp := [⟨some 52, .copy false (.tmp 4), [], none⟩,
  ⟨some 53, .fad 9 (.tmp 1), [], none⟩,
  ⟨some 54, .load 1 false false (.tmp 53), [], none⟩,
  ⟨some 55, .len 0 (.tmp 54), [], none⟩,
  ⟨some 56, .call (.func 61) [.tmp 52, .tmp 55], [], none⟩,
  ⟨some 4, .copy true (.tmp 56), [], none⟩]
def F19r15 : List ROp := [⟨some 5, .copy true (.const (.int .i64 0)), [], none⟩]
def F19r16 : List ROp := [⟨some 57, .copy false (.tmp 5), [], none⟩,
  ⟨some 58, .fad 9 (.tmp 1), [], none⟩,
  ⟨some 59, .load 1 false false (.tmp 58), [], none⟩,
  ⟨some 60, .len 0 (.tmp 59), [], none⟩,
  ⟨some 61, .bin .lss (.tmp 57) (.tmp 60), [], none⟩]
def F19r17 : List ROp := [⟨some 62, .copy false (.tmp 5), [], none⟩,
  ⟨some 63, .bin .add (.tmp 62) (.const (.int .i64 1)), [], none⟩,
  ⟨some 5, .copy true (.tmp 63), [], none⟩]
def F19r18 : List ROp := [⟨some 64, .copy false (.tmp 4), [], none⟩,
  ⟨some 65, .fad 9 (.tmp 1), [], none⟩,
  ⟨some 66, .load 1 false false (.tmp 65), [], none⟩,
  ⟨some 67, .copy false (.tmp 5), [], none⟩,
  ⟨some 68, .iad 1 (.tmp 66) (.tmp 67), [], none⟩,
  ⟨some 69, .load 1 false false (.tmp 68), [], none⟩,
  ⟨some 70, .call (.func 72) [.tmp 64, .tmp 69], [], none⟩,
  ⟨some 4, .copy true (.tmp 70), [], none⟩]
def F19r19 : List ROp := [⟨some 72, .bin .eql (.tmp 16) (.const (.int .u8 6)), [], none⟩,
  ⟨some 71, .copy true (.tmp 72), [], none⟩]
def F19r20 : List ROp := [⟨some 73, .bin .eql (.tmp 16) (.const (.int .u8 7)), [], none⟩,
  ⟨some 71, .copy true (.tmp 73), [], none⟩]
def F19r21 : List ROp := [⟨some 74, .copy false (.tmp 4), [], none⟩,
  ⟨some 75, .fad 10 (.tmp 1), [], none⟩,
  ⟨some 76, .load 1 false false (.tmp 75), [], none⟩,
  ⟨some 77, .call (.func 62) [.tmp 74, .tmp 76], [], none⟩,
  ⟨some 4, .copy true (.tmp 77), [], none⟩]
def F19r22 : List ROp := [⟨some 78, .copy false (.tmp 4), [], none⟩,
  ⟨some 79, .call (.func 65) [.tmp 78], [], none⟩,
  ⟨some 80, .ext (.tmp 79) 0, [], none⟩,
  ⟨some 81, .ext (.tmp 79) 1, [], none⟩,
  ⟨some 2, .copy true (.tmp 80), [], none⟩,
  ⟨some 3, .copy true (.tmp 81), [], none⟩]
theorem tell_R (r : RepD) (hc : repsize r ≤ 4194304) (hr : reprng r) : Con Tryz.prog 19 [repX r] (tellA r) := by
  have h0 : repsize r = r.module.size + csizes r.changes + rsizes r.rows + r.text.size := rfl
  obtain ⟨hk0, hru, hne, hre, hcr, hrr⟩ := hr
  have hcl := csizes_len r.changes
  have hrl := rsizes_len r.rows
  have hchl := chs_len r.changes hcr (by omega)
  have hrol := rows_len r.rows hrr (by omega)
  have hw1 : IntKind.i64.wrap r.rule = r.rule := wrap_in hru.1 hru.2
  have hw2 : IntKind.i64.wrap r.never = r.never := wrap_in hne.1 hne.2
  have hw3 : IntKind.i64.wrap r.e = r.e := wrap_in hre.1 hre.2
  unfold tellA
  by_cases hk : 7 < r.kind
  · rw [if_pos hk]
    refine Con.of_code Tryz.func19 (by kernel_rfl) rfl (by simp [Tryz.ntmps19]) fun C hC hM => ?_
    refine AWp.seq ?_
    refine AWp.regK [1] [false, true, true] F19r0 [] (by kernel_rfl) (by rw [hC]; rfl) fun K hK => ?_
    simp (maxSteps := 2000000) [F19r0]
    refine hK _ ?_
    refine AWp.seq ?_
    refine AWp.seq ?_
    refine AWp.regK [1, 8] [] F19r1 [] (by kernel_rfl) (by rw [hC]; rfl) fun K hK => ?_
    simp (maxSteps := 2000000) [F19r1]
    refine hK _ ?_
    refine AWp.cond true (by simp; omega) (fun _ => ?_) (fun he => by cases he)
    refine AWp.seq ?_
    refine AWp.regK [2, 3] [true, true] F19r2 [] (by kernel_rfl) (by rw [hC]; rfl) fun K hK => ?_
    simp (maxSteps := 2000000) [F19r2]
    refine hK _ ?_
    repeat refine AWp.seq ?_
    refine AWp.ret ⟨.inr rfl, _, by simp [Tryz.results19] <;> rfl, ?_⟩
    exact .clos (by simp) rfl
  · rw [if_neg hk]
    have hf := fitsR_R r hc ⟨r.kind.toNat, by omega⟩ (by simp; omega)
    by_cases hff : fitsR r = false
    · rw [if_pos hff]
      rw [hff] at hf
      refine Con.of_code Tryz.func19 (by kernel_rfl) rfl (by simp [Tryz.ntmps19]) fun C hC hM => ?_
      refine AWp.seq ?_
      refine AWp.regK [1] [false, true, true] F19r0 [] (by kernel_rfl) (by rw [hC]; rfl) fun K hK => ?_
      simp (maxSteps := 2000000) [F19r0]
      refine hK _ ?_
      refine AWp.seq ?_
      refine AWp.seq ?_
      refine AWp.regK [1, 8] [] F19r1 [] (by kernel_rfl) (by rw [hC]; rfl) fun K hK => ?_
      simp (maxSteps := 2000000) [F19r1]
      refine hK _ ?_
      refine AWp.cond false (by simp; omega) (fun he => by cases he) (fun _ => ?_)
      refine AWp.skip ?_
      refine AWp.seq ?_
      refine AWp.seq ?_
      refine AWp.regK [1, 11] [] F19r3 [{ r := bval false }] (by kernel_rfl) (by rw [hC]; rfl) fun K hK => ?_
      simp (maxSteps := 2000000) [F19r3]
      (repeat first | refine ⟨by first | (show freeP _ _ _ = true; kernel_rfl) | omega | (intros; omega) | assumption, ?_⟩ | refine ⟨by intros; exact callOK rfl hf, ?_⟩); refine hK _ ?_
      refine AWp.cond true (by simp) (fun _ => ?_) (fun he => by cases he)
      refine AWp.seq ?_
      refine AWp.regK [2, 3] [true, true] F19r4 [] (by kernel_rfl) (by rw [hC]; rfl) fun K hK => ?_
      simp (maxSteps := 2000000) [F19r4]
      refine hK _ ?_
      repeat refine AWp.seq ?_
      refine AWp.ret ⟨.inr rfl, _, by simp [Tryz.results19] <;> rfl, ?_⟩
      exact .clos (by simp) rfl
    · rw [if_neg hff]
      have hft : fitsR r = true := by simpa using hff
      rw [hft] at hf
      obtain ⟨l0, hl0⟩ : ∃ l : List Int, l = [r.kind] := ⟨_, rfl⟩
      have hn0 : l0.length = 1 := by rw [hl0]; rfl
      have hbt : bt l0 = [[AV.val (Value.int .u8 r.kind)]] := by rw [hl0]; rfl
      have h17 : r.kind = 0 ∨ r.kind = 1 ∨ r.kind = 2 ∨ r.kind = 3 ∨ r.kind = 4 ∨ r.kind = 5 ∨ r.kind = 6 ∨ r.kind = 7 := by omega
      rcases h17 with h | h | h | h | h | h | h | h
      · have hb1 : (cntE r.e).length ≤ 9 := cntE_len _
        have hc1 := CountR_ok l0 r.e (by omega)
        obtain ⟨l1, hl1⟩ : ∃ l, l = l0 ++ cntE r.e := ⟨_, rfl⟩
        rw [← hl1] at hc1
        have hn1 : l1.length ≤ l0.length + 9 ∧ 0 < l1.length := by rw [hl1, List.length_append]; omega
        have hb2 : (txtE r.module).length ≤ 2 * r.module.size + 2 := txtE_len _
        have hc2 := StrR_ok l1 r.module (by omega) (by omega)
        obtain ⟨l2, hl2⟩ : ∃ l, l = l1 ++ txtE r.module := ⟨_, rfl⟩
        rw [← hl2] at hc2
        have hn2 : l2.length ≤ l1.length + 2 * r.module.size + 2 ∧ 0 < l2.length := by rw [hl2, List.length_append]; omega
        have hb3 : (cntE r.line).length ≤ 9 := cntE_len _
        have hc3 := CountR_ok l2 r.line (by omega)
        obtain ⟨l3, hl3⟩ : ∃ l, l = l2 ++ cntE r.line := ⟨_, rfl⟩
        rw [← hl3] at hc3
        have hn3 : l3.length ≤ l2.length + 9 ∧ 0 < l3.length := by rw [hl3, List.length_append]; omega
        have hb4 : (cntE r.col).length ≤ 9 := cntE_len _
        have hc4 := CountR_ok l3 r.col (by omega)
        obtain ⟨l4, hl4⟩ : ∃ l, l = l3 ++ cntE r.col := ⟨_, rfl⟩
        rw [← hl4] at hc4
        have hn4 : l4.length ≤ l3.length + 9 ∧ 0 < l4.length := by rw [hl4, List.length_append]; omega
        have hb5 : (numI r.rule).length ≤ 9 := numI_len _ hru.1 hru.2
        have hc5 := NumR_ok l4 r.rule hru.1 hru.2 (by omega)
        obtain ⟨l5, hl5⟩ : ∃ l, l = l4 ++ numI r.rule := ⟨_, rfl⟩
        rw [← hl5] at hc5
        have hn5 : l5.length ≤ l4.length + 9 ∧ 0 < l5.length := by rw [hl5, List.length_append]; omega
        have hb6 : (numI r.never).length ≤ 9 := numI_len _ hne.1 hne.2
        have hc6 := NumR_ok l5 r.never hne.1 hne.2 (by omega)
        obtain ⟨l6, hl6⟩ : ∃ l, l = l5 ++ numI r.never := ⟨_, rfl⟩
        rw [← hl6] at hc6
        have hn6 : l6.length ≤ l5.length + 9 ∧ 0 < l6.length := by rw [hl6, List.length_append]; omega
        have hb7 : (cntE r.row).length ≤ 9 := cntE_len _
        have hc7 := CountR_ok l6 r.row (by omega)
        obtain ⟨l7, hl7⟩ : ∃ l, l = l6 ++ cntE r.row := ⟨_, rfl⟩
        rw [← hl7] at hc7
        have hn7 : l7.length ≤ l6.length + 9 ∧ 0 < l7.length := by rw [hl7, List.length_append]; omega
        have hbl : l7 = bytesR r := by
          rw [hl7, hl6, hl5, hl4, hl3, hl2, hl1, hl0]; unfold bytesR; rw [if_pos h]; simp
        rw [← hbl]
        have hw := wholeR_ok l7 (by omega)
        obtain ⟨ws, we, hwe⟩ := wholeA_tup l7
        rw [hwe] at hw ⊢
        refine Con.of_code Tryz.func19 (by kernel_rfl) rfl (by simp [Tryz.ntmps19]) fun C hC hM => ?_
        refine AWp.seq ?_
        refine AWp.regK [1] [false, true, true] F19r0 [] (by kernel_rfl) (by rw [hC]; rfl) fun K hK => ?_
        simp (maxSteps := 2000000) [F19r0]
        refine hK _ ?_
        refine AWp.seq ?_
        refine AWp.seq ?_
        refine AWp.regK [1, 8] [] F19r1 [] (by kernel_rfl) (by rw [hC]; rfl) fun K hK => ?_
        simp (maxSteps := 2000000) [F19r1]
        refine hK _ ?_
        refine AWp.cond false (by simp; omega) (fun he => by cases he) (fun _ => ?_)
        refine AWp.skip ?_
        refine AWp.seq ?_
        refine AWp.seq ?_
        refine AWp.regK [1, 11] [] F19r3 [{ r := bval true }] (by kernel_rfl) (by rw [hC]; rfl) fun K hK => ?_
        simp (maxSteps := 2000000) [F19r3]
        (repeat first | refine ⟨by first | (show freeP _ _ _ = true; kernel_rfl) | omega | (intros; omega) | assumption, ?_⟩ | refine ⟨by intros; exact callOK rfl hf, ?_⟩); refine hK _ ?_
        refine AWp.cond false (by simp) (fun he => by cases he) (fun _ => ?_)
        refine AWp.skip ?_
        refine AWp.seq ?_
        refine AWp.regK [1, 4] [false, false, false, true] F19r5 [] (by kernel_rfl) (by rw [hC]; rfl) fun K hK => ?_
        simp (maxSteps := 2000000) [F19r5]
        (repeat refine ⟨by first | omega | (intros; omega) | assumption, ?_⟩); refine hK _ ?_
        refine AWp.seq ?_
        refine AWp.seq ?_
        refine AWp.regK [1, 4, 16] [] F19r6 [] (by kernel_rfl) (by rw [hC]; rfl) fun K hK => ?_
        simp (maxSteps := 2000000) [F19r6]
        refine hK _ ?_
        refine AWp.block ?_
        refine AWp.seq ?_
        refine AWp.regK [1, 4, 16, 21] [false, true] F19r8 [] (by kernel_rfl) (by rw [hC]; rfl) fun K hK => ?_
        simp (maxSteps := 2000000) [F19r8]
        refine hK _ ?_
        rw [← hbt]
        refine AWp.cond true (by simp [h]) (fun _ => ?_) (fun he => by cases he)
        refine AWp.seq ?_
        refine AWp.regKL ops_mixed [[], [], [1], [0, 1, 2], [], [4], [0, 1, 2, 3, 4, 5], [0, 1, 2, 3, 4, 5, 6]] [1, 4] [false, false, false, false, false, false, false, true] F19r9 [{ r := oB l1 }, { r := oB l2 }] (by kernel_rfl) (by rw [hC]; rfl) (by kernel_rfl) (by kernel_rfl) fun K hK => ?_
        simp (maxSteps := 2000000) [F19r9, hw3]
        (repeat first | refine ⟨by first | (show freeP _ _ _ = true; kernel_rfl) | omega | (intros; omega) | assumption, ?_⟩ | refine ⟨by intros; exact callWk rfl (by repeat (first | exact WkL.nil | refine WkL.cons (by first | exact Wk.refl _ | exact Wk.nil _ | exact Wk.own (WkR.refl _)) ?_)) hc1, ?_⟩ | refine ⟨by intros; exact callWk rfl (by repeat (first | exact WkL.nil | refine WkL.cons (by first | exact Wk.refl _ | exact Wk.nil _ | exact Wk.own (WkR.refl _)) ?_)) hc2, ?_⟩); refine hK _ ?_
        refine AWp.seq ?_
        refine AWp.regKL ops_mixed [[], [], [1], [1, 2], [0, 1, 2, 3], [], [5], [5, 6], [0, 1, 2, 3, 4, 5, 6, 7], [0, 1, 2, 3, 4, 5, 6, 7, 8]] [1, 4] [false, false, false, false, false, false, false, false, false, true] F19r10 [{ r := oB l3 }, { r := oB l4 }] (by kernel_rfl) (by rw [hC]; rfl) (by kernel_rfl) (by kernel_rfl) fun K hK => ?_
        simp (maxSteps := 2000000) [F19r10]
        (repeat first | refine ⟨by first | (show freeP _ _ _ = true; kernel_rfl) | omega | (intros; omega) | assumption, ?_⟩ | refine ⟨by intros; exact callWk rfl (by repeat (first | exact WkL.nil | refine WkL.cons (by first | exact Wk.refl _ | exact Wk.nil _ | exact Wk.own (WkR.refl _)) ?_)) hc3, ?_⟩ | refine ⟨by intros; exact callWk rfl (by repeat (first | exact WkL.nil | refine WkL.cons (by first | exact Wk.refl _ | exact Wk.nil _ | exact Wk.own (WkR.refl _)) ?_)) hc4, ?_⟩); refine hK _ ?_
        refine AWp.seq ?_
        refine AWp.regKL ops_mixed [[], [], [1], [0, 1, 2], [], [4], [0, 1, 2, 3, 4, 5], [0, 1, 2, 3, 4, 5, 6]] [1, 4] [false, false, false, false, false, false, false, true] F19r11 [{ r := oB l5 }, { r := oB l6 }] (by kernel_rfl) (by rw [hC]; rfl) (by kernel_rfl) (by kernel_rfl) fun K hK => ?_
        simp (maxSteps := 2000000) [F19r11, hw1, hw2]
        (repeat first | refine ⟨by first | (show freeP _ _ _ = true; kernel_rfl) | omega | (intros; omega) | assumption, ?_⟩ | refine ⟨by intros; exact callWk rfl (by repeat (first | exact WkL.nil | refine WkL.cons (by first | exact Wk.refl _ | exact Wk.nil _ | exact Wk.own (WkR.refl _)) ?_)) hc5, ?_⟩ | refine ⟨by intros; exact callWk rfl (by repeat (first | exact WkL.nil | refine WkL.cons (by first | exact Wk.refl _ | exact Wk.nil _ | exact Wk.own (WkR.refl _)) ?_)) hc6, ?_⟩); refine hK _ ?_
        refine AWp.regK [4] [false, false, false, false, true] F19r12 [{ r := oB l7 }] (by kernel_rfl) (by rw [hC]; rfl) fun K hK => ?_
        simp (maxSteps := 2000000) [F19r12]
        (repeat first | refine ⟨by first | (show freeP _ _ _ = true; kernel_rfl) | omega | (intros; omega) | assumption, ?_⟩ | refine ⟨by intros; exact callWk rfl (by repeat (first | exact WkL.nil | refine WkL.cons (by first | exact Wk.refl _ | exact Wk.nil _ | exact Wk.own (WkR.refl _)) ?_)) hc7, ?_⟩); refine hK _ ?_
        refine AWp.seq ?_
        refine AWp.regK [2, 3] [false, false, false, false, true, true] F19r22 [{ r := .tup [sval ws, ival we] }] (by kernel_rfl) (by rw [hC]; rfl) fun K hK => ?_
        simp (maxSteps := 2000000) [F19r22]
        (repeat first | refine ⟨by first | (show freeP _ _ _ = true; kernel_rfl) | omega | (intros; omega) | assumption, ?_⟩ | refine ⟨by intros; exact callWk rfl (by repeat (first | exact WkL.nil | refine WkL.cons (by first | exact Wk.refl _ | exact Wk.nil _ | exact Wk.own (WkR.refl _)) ?_)) hw, ?_⟩); refine hK _ ?_
        repeat refine AWp.seq ?_
        refine AWp.ret ⟨.inr rfl, _, by simp [Tryz.results19] <;> rfl, ?_⟩
        exact .clos (by simp) rfl
      · have hb1 : ((cntE r.changes.length ++ manyE chE r.changes)).length ≤ 9 + 12 * csizes r.changes := by have := cntE_len r.changes.length; have := chs_len r.changes hcr (by omega); rw [List.length_append]; omega
        have hc1 := listR_ok l0 r.changes hcr (by omega) (by omega)
        obtain ⟨l1, hl1⟩ : ∃ l, l = l0 ++ (cntE r.changes.length ++ manyE chE r.changes) := ⟨_, rfl⟩
        rw [← hl1] at hc1
        have hn1 : l1.length ≤ l0.length + 9 + 12 * csizes r.changes ∧ 0 < l1.length := by rw [hl1, List.length_append]; omega
        have hbl : l1 = bytesR r := by
          rw [hl1, hl0]; unfold bytesR; rw [if_neg (show ¬ r.kind = 0 by omega), if_neg (show ¬ r.kind = 3 by omega), if_neg (show ¬ (r.kind = 6 ∨ r.kind = 7) by omega)]; simp
        rw [← hbl]
        have hw := wholeR_ok l1 (by omega)
        obtain ⟨ws, we, hwe⟩ := wholeA_tup l1
        rw [hwe] at hw ⊢
        refine Con.of_code Tryz.func19 (by kernel_rfl) rfl (by simp [Tryz.ntmps19]) fun C hC hM => ?_
        refine AWp.seq ?_
        refine AWp.regK [1] [false, true, true] F19r0 [] (by kernel_rfl) (by rw [hC]; rfl) fun K hK => ?_
        simp (maxSteps := 2000000) [F19r0]
        refine hK _ ?_
        refine AWp.seq ?_
        refine AWp.seq ?_
        refine AWp.regK [1, 8] [] F19r1 [] (by kernel_rfl) (by rw [hC]; rfl) fun K hK => ?_
        simp (maxSteps := 2000000) [F19r1]
        refine hK _ ?_
        refine AWp.cond false (by simp; omega) (fun he => by cases he) (fun _ => ?_)
        refine AWp.skip ?_
        refine AWp.seq ?_
        refine AWp.seq ?_
        refine AWp.regK [1, 11] [] F19r3 [{ r := bval true }] (by kernel_rfl) (by rw [hC]; rfl) fun K hK => ?_
        simp (maxSteps := 2000000) [F19r3]
        (repeat first | refine ⟨by first | (show freeP _ _ _ = true; kernel_rfl) | omega | (intros; omega) | assumption, ?_⟩ | refine ⟨by intros; exact callOK rfl hf, ?_⟩); refine hK _ ?_
        refine AWp.cond false (by simp) (fun he => by cases he) (fun _ => ?_)
        refine AWp.skip ?_
        refine AWp.seq ?_
        refine AWp.regK [1, 4] [false, false, false, true] F19r5 [] (by kernel_rfl) (by rw [hC]; rfl) fun K hK => ?_
        simp (maxSteps := 2000000) [F19r5]
        (repeat refine ⟨by first | omega | (intros; omega) | assumption, ?_⟩); refine hK _ ?_
        refine AWp.seq ?_
        refine AWp.seq ?_
        refine AWp.regK [1, 4, 16] [] F19r6 [] (by kernel_rfl) (by rw [hC]; rfl) fun K hK => ?_
        simp (maxSteps := 2000000) [F19r6]
        refine hK _ ?_
        refine AWp.block ?_
        refine AWp.seq ?_
        refine AWp.regK [1, 4, 16, 21] [false, true] F19r8 [] (by kernel_rfl) (by rw [hC]; rfl) fun K hK => ?_
        simp (maxSteps := 2000000) [F19r8]
        refine hK _ ?_
        rw [← hbt]
        refine AWp.cond false (by simp [h]) (fun he => by cases he) (fun _ => ?_)
        refine AWp.seq ?_
        refine AWp.regK [1, 4, 16, 50] [false, true] F19r13 [] (by kernel_rfl) (by rw [hC]; rfl) fun K hK => ?_
        simp (maxSteps := 2000000) [F19r13]
        refine hK _ ?_
        refine AWp.cond false (by simp [h]) (fun he => by cases he) (fun _ => ?_)
        refine AWp.seq ?_
        refine AWp.seq ?_
        refine AWp.regK [1, 4, 16, 71] [false, true] F19r19 [] (by kernel_rfl) (by rw [hC]; rfl) fun K hK => ?_
        simp (maxSteps := 2000000) [F19r19, h]
        refine hK _ ?_
        refine AWp.cond false (by simp) (fun he => by cases he) (fun _ => ?_)
        refine AWp.regK [1, 4, 71] [false, true] F19r20 [] (by kernel_rfl) (by rw [hC]; rfl) fun K hK => ?_
        simp (maxSteps := 2000000) [F19r20, h]
        refine hK _ ?_
        refine AWp.cond false (by simp) (fun he => by cases he) (fun _ => ?_)
        refine AWp.regK [4] [false, false, false, false, true] F19r7 [{ r := rB l1 }] (by kernel_rfl) (by rw [hC]; rfl) fun K hK => ?_
        simp (maxSteps := 2000000) [F19r7]
        (repeat first | refine ⟨by first | (show freeP _ _ _ = true; kernel_rfl) | omega | (intros; omega) | assumption, ?_⟩ | refine ⟨by intros; exact callWk rfl (by repeat (first | exact WkL.nil | refine WkL.cons (by first | exact Wk.refl _ | exact Wk.nil _ | exact Wk.own (WkR.refl _)) ?_)) hc1, ?_⟩); refine hK _ ?_
        refine AWp.seq ?_
        refine AWp.regK [2, 3] [false, false, false, false, true, true] F19r22 [{ r := .tup [sval ws, ival we] }] (by kernel_rfl) (by rw [hC]; rfl) fun K hK => ?_
        simp (maxSteps := 2000000) [F19r22]
        (repeat first | refine ⟨by first | (show freeP _ _ _ = true; kernel_rfl) | omega | (intros; omega) | assumption, ?_⟩ | refine ⟨by intros; exact callWk rfl (by repeat (first | exact WkL.nil | refine WkL.cons (by first | exact Wk.refl _ | exact Wk.nil _ | exact Wk.own (WkR.refl _)) ?_)) hw, ?_⟩); refine hK _ ?_
        repeat refine AWp.seq ?_
        refine AWp.ret ⟨.inr rfl, _, by simp [Tryz.results19] <;> rfl, ?_⟩
        exact .clos (by simp) rfl
      · have hb1 : ((cntE r.changes.length ++ manyE chE r.changes)).length ≤ 9 + 12 * csizes r.changes := by have := cntE_len r.changes.length; have := chs_len r.changes hcr (by omega); rw [List.length_append]; omega
        have hc1 := listR_ok l0 r.changes hcr (by omega) (by omega)
        obtain ⟨l1, hl1⟩ : ∃ l, l = l0 ++ (cntE r.changes.length ++ manyE chE r.changes) := ⟨_, rfl⟩
        rw [← hl1] at hc1
        have hn1 : l1.length ≤ l0.length + 9 + 12 * csizes r.changes ∧ 0 < l1.length := by rw [hl1, List.length_append]; omega
        have hbl : l1 = bytesR r := by
          rw [hl1, hl0]; unfold bytesR; rw [if_neg (show ¬ r.kind = 0 by omega), if_neg (show ¬ r.kind = 3 by omega), if_neg (show ¬ (r.kind = 6 ∨ r.kind = 7) by omega)]; simp
        rw [← hbl]
        have hw := wholeR_ok l1 (by omega)
        obtain ⟨ws, we, hwe⟩ := wholeA_tup l1
        rw [hwe] at hw ⊢
        refine Con.of_code Tryz.func19 (by kernel_rfl) rfl (by simp [Tryz.ntmps19]) fun C hC hM => ?_
        refine AWp.seq ?_
        refine AWp.regK [1] [false, true, true] F19r0 [] (by kernel_rfl) (by rw [hC]; rfl) fun K hK => ?_
        simp (maxSteps := 2000000) [F19r0]
        refine hK _ ?_
        refine AWp.seq ?_
        refine AWp.seq ?_
        refine AWp.regK [1, 8] [] F19r1 [] (by kernel_rfl) (by rw [hC]; rfl) fun K hK => ?_
        simp (maxSteps := 2000000) [F19r1]
        refine hK _ ?_
        refine AWp.cond false (by simp; omega) (fun he => by cases he) (fun _ => ?_)
        refine AWp.skip ?_
        refine AWp.seq ?_
        refine AWp.seq ?_
        refine AWp.regK [1, 11] [] F19r3 [{ r := bval true }] (by kernel_rfl) (by rw [hC]; rfl) fun K hK => ?_
        simp (maxSteps := 2000000) [F19r3]
        (repeat first | refine ⟨by first | (show freeP _ _ _ = true; kernel_rfl) | omega | (intros; omega) | assumption, ?_⟩ | refine ⟨by intros; exact callOK rfl hf, ?_⟩); refine hK _ ?_
        refine AWp.cond false (by simp) (fun he => by cases he) (fun _ => ?_)
        refine AWp.skip ?_
        refine AWp.seq ?_
        refine AWp.regK [1, 4] [false, false, false, true] F19r5 [] (by kernel_rfl) (by rw [hC]; rfl) fun K hK => ?_
        simp (maxSteps := 2000000) [F19r5]
        (repeat refine ⟨by first | omega | (intros; omega) | assumption, ?_⟩); refine hK _ ?_
        refine AWp.seq ?_
        refine AWp.seq ?_
        refine AWp.regK [1, 4, 16] [] F19r6 [] (by kernel_rfl) (by rw [hC]; rfl) fun K hK => ?_
        simp (maxSteps := 2000000) [F19r6]
        refine hK _ ?_
        refine AWp.block ?_
        refine AWp.seq ?_
        refine AWp.regK [1, 4, 16, 21] [false, true] F19r8 [] (by kernel_rfl) (by rw [hC]; rfl) fun K hK => ?_
        simp (maxSteps := 2000000) [F19r8]
        refine hK _ ?_
        rw [← hbt]
        refine AWp.cond false (by simp [h]) (fun he => by cases he) (fun _ => ?_)
        refine AWp.seq ?_
        refine AWp.regK [1, 4, 16, 50] [false, true] F19r13 [] (by kernel_rfl) (by rw [hC]; rfl) fun K hK => ?_
        simp (maxSteps := 2000000) [F19r13]
        refine hK _ ?_
        refine AWp.cond false (by simp [h]) (fun he => by cases he) (fun _ => ?_)
        refine AWp.seq ?_
        refine AWp.seq ?_
        refine AWp.regK [1, 4, 16, 71] [false, true] F19r19 [] (by kernel_rfl) (by rw [hC]; rfl) fun K hK => ?_
        simp (maxSteps := 2000000) [F19r19, h]
        refine hK _ ?_
        refine AWp.cond false (by simp) (fun he => by cases he) (fun _ => ?_)
        refine AWp.regK [1, 4, 71] [false, true] F19r20 [] (by kernel_rfl) (by rw [hC]; rfl) fun K hK => ?_
        simp (maxSteps := 2000000) [F19r20, h]
        refine hK _ ?_
        refine AWp.cond false (by simp) (fun he => by cases he) (fun _ => ?_)
        refine AWp.regK [4] [false, false, false, false, true] F19r7 [{ r := rB l1 }] (by kernel_rfl) (by rw [hC]; rfl) fun K hK => ?_
        simp (maxSteps := 2000000) [F19r7]
        (repeat first | refine ⟨by first | (show freeP _ _ _ = true; kernel_rfl) | omega | (intros; omega) | assumption, ?_⟩ | refine ⟨by intros; exact callWk rfl (by repeat (first | exact WkL.nil | refine WkL.cons (by first | exact Wk.refl _ | exact Wk.nil _ | exact Wk.own (WkR.refl _)) ?_)) hc1, ?_⟩); refine hK _ ?_
        refine AWp.seq ?_
        refine AWp.regK [2, 3] [false, false, false, false, true, true] F19r22 [{ r := .tup [sval ws, ival we] }] (by kernel_rfl) (by rw [hC]; rfl) fun K hK => ?_
        simp (maxSteps := 2000000) [F19r22]
        (repeat first | refine ⟨by first | (show freeP _ _ _ = true; kernel_rfl) | omega | (intros; omega) | assumption, ?_⟩ | refine ⟨by intros; exact callWk rfl (by repeat (first | exact WkL.nil | refine WkL.cons (by first | exact Wk.refl _ | exact Wk.nil _ | exact Wk.own (WkR.refl _)) ?_)) hw, ?_⟩); refine hK _ ?_
        repeat refine AWp.seq ?_
        refine AWp.ret ⟨.inr rfl, _, by simp [Tryz.results19] <;> rfl, ?_⟩
        exact .clos (by simp) rfl
      · have hb1 : (cntE r.rows.length).length ≤ 9 := cntE_len _
        have hc1 := CountR_ok l0 r.rows.length (by omega)
        obtain ⟨l1, hl1⟩ : ∃ l, l = l0 ++ cntE r.rows.length := ⟨_, rfl⟩
        rw [← hl1] at hc1
        have hn1 : l1.length ≤ l0.length + 9 ∧ 0 < l1.length := by rw [hl1, List.length_append]; omega
        obtain ⟨l2, hl2⟩ : ∃ l, l = l1 ++ manyE rowE r.rows := ⟨_, rfl⟩
        have hn2 : l2.length ≤ l1.length + 12 * rsizes r.rows := by rw [hl2, List.length_append]; omega
        have hbl : l2 = bytesR r := by
          rw [hl2, hl1, hl0]; unfold bytesR; rw [if_neg (show ¬ r.kind = 0 by omega), if_pos h]; simp
        rw [← hbl]
        have hw := wholeR_ok l2 (by omega)
        obtain ⟨ws, we, hwe⟩ := wholeA_tup l2
        rw [hwe] at hw ⊢
        refine Con.of_code Tryz.func19 (by kernel_rfl) rfl (by simp [Tryz.ntmps19]) fun C hC hM => ?_
        refine AWp.seq ?_
        refine AWp.regK [1] [false, true, true] F19r0 [] (by kernel_rfl) (by rw [hC]; rfl) fun K hK => ?_
        simp (maxSteps := 2000000) [F19r0]
        refine hK _ ?_
        refine AWp.seq ?_
        refine AWp.seq ?_
        refine AWp.regK [1, 8] [] F19r1 [] (by kernel_rfl) (by rw [hC]; rfl) fun K hK => ?_
        simp (maxSteps := 2000000) [F19r1]
        refine hK _ ?_
        refine AWp.cond false (by simp; omega) (fun he => by cases he) (fun _ => ?_)
        refine AWp.skip ?_
        refine AWp.seq ?_
        refine AWp.seq ?_
        refine AWp.regK [1, 11] [] F19r3 [{ r := bval true }] (by kernel_rfl) (by rw [hC]; rfl) fun K hK => ?_
        simp (maxSteps := 2000000) [F19r3]
        (repeat first | refine ⟨by first | (show freeP _ _ _ = true; kernel_rfl) | omega | (intros; omega) | assumption, ?_⟩ | refine ⟨by intros; exact callOK rfl hf, ?_⟩); refine hK _ ?_
        refine AWp.cond false (by simp) (fun he => by cases he) (fun _ => ?_)
        refine AWp.skip ?_
        refine AWp.seq ?_
        refine AWp.regK [1, 4] [false, false, false, true] F19r5 [] (by kernel_rfl) (by rw [hC]; rfl) fun K hK => ?_
        simp (maxSteps := 2000000) [F19r5]
        (repeat refine ⟨by first | omega | (intros; omega) | assumption, ?_⟩); refine hK _ ?_
        refine AWp.seq ?_
        refine AWp.seq ?_
        refine AWp.regK [1, 4, 16] [] F19r6 [] (by kernel_rfl) (by rw [hC]; rfl) fun K hK => ?_
        simp (maxSteps := 2000000) [F19r6]
        refine hK _ ?_
        refine AWp.block ?_
        refine AWp.seq ?_
        refine AWp.regK [1, 4, 16, 21] [false, true] F19r8 [] (by kernel_rfl) (by rw [hC]; rfl) fun K hK => ?_
        simp (maxSteps := 2000000) [F19r8]
        refine hK _ ?_
        rw [← hbt]
        refine AWp.cond false (by simp [h]) (fun he => by cases he) (fun _ => ?_)
        refine AWp.seq ?_
        refine AWp.regK [1, 4, 16, 50] [false, true] F19r13 [] (by kernel_rfl) (by rw [hC]; rfl) fun K hK => ?_
        simp (maxSteps := 2000000) [F19r13]
        refine hK _ ?_
        refine AWp.cond true (by simp [h]) (fun _ => ?_) (fun he => by cases he)
        refine AWp.seq ?_
        refine AWp.regK [1, 4] [false, false, false, false, false, true] F19r14 [{ r := oB l1 }] (by kernel_rfl) (by rw [hC]; rfl) fun K hK => ?_
        simp (maxSteps := 2000000) [F19r14]
        (repeat first | refine ⟨by first | (show freeP _ _ _ = true; kernel_rfl) | omega | (intros; omega) | assumption, ?_⟩ | refine ⟨by intros; exact callWk rfl (by repeat (first | exact WkL.nil | refine WkL.cons (by first | exact Wk.refl _ | exact Wk.nil _ | exact Wk.own (WkR.refl _)) ?_)) hc1, ?_⟩); refine hK _ ?_
        refine AWp.seq ?_
        refine AWp.regK [1, 4, 5] [true] F19r15 [] (by kernel_rfl) (by rw [hC]; rfl) fun K hK => ?_
        simp (maxSteps := 2000000) [F19r15]
        refine hK _ ?_
        refine AWp.block ?_
        refine AWp.loopG (fun k : Nat => { tm := [(1, .ptr 1 0), (4, rB (l1 ++ manyE rowE (r.rows.take k))), (5, ival k)], hp := [(1, .cells 39 (encRep r))] }) (fun k => k ≤ r.rows.length) (fun k => r.rows.length - k) 0 (by omega) (by simp [manyE, h]) (fun k hk => ?_)
        have hmt := manyE_take_le rowE r.rows k
        have hcu : (l1 ++ manyE rowE (r.rows.take k)).length ≤ l1.length + (manyE rowE r.rows).length := by rw [List.length_append]; omega
        refine AWp.seq ?_
        refine AWp.seq ?_
        refine AWp.regK [1, 4, 5, 61] [] F19r16 [] (by kernel_rfl) (by rw [hC]; rfl) fun K hK => ?_
        simp (maxSteps := 2000000) [F19r16]
        refine hK _ ?_
        refine AWp.cond _ (by rfl) (fun hlt => ?_) (fun hge => ?_)
        · skip
          have hlt : k < r.rows.length := by simpa using hlt
          have hst : l1 ++ manyE rowE (r.rows.take (k + 1)) = l1 ++ manyE rowE (r.rows.take k) ++ rowE r.rows[k] := by rw [manyE_take rowE r.rows k hlt]; simp
          generalize l1 ++ manyE rowE (r.rows.take k) = cur at *
          have hmm := List.getElem_mem hlt
          have hm := rsize_mem hmm
          have hcs := rowR_ok cur r.rows[k] (rrngs_mem hmm hrr) (by omega) (by omega)
          rw [← hst] at hcs
          generalize hnx : l1 ++ manyE rowE (r.rows.take (k + 1)) = nxt at *
          refine AWp.skip ?_
          refine AWp.seq ?_
          refine AWp.block ?_
          refine AWp.regK [1, 4, 5] [false, false, false, false, false, false, false, true] F19r18 [{ r := rB nxt }] (by kernel_rfl) (by rw [hC]; rfl) fun K hK => ?_
          simp (maxSteps := 2000000) [F19r18, hlt]
          (repeat first | refine ⟨by first | (show freeP _ _ _ = true; kernel_rfl) | omega | (intros; omega) | assumption, ?_⟩ | refine ⟨by intros; exact callOK rfl hcs, ?_⟩); refine hK _ ?_
          refine AWp.regK [1, 4, 5] [false, false, true] F19r17 [] (by kernel_rfl) (by rw [hC]; rfl) fun K hK => ?_
          simp (maxSteps := 2000000) [F19r17]
          (repeat refine ⟨by first | omega | (intros; omega) | assumption, ?_⟩); refine hK _ ?_
          refine ⟨k + 1, by omega, by omega, ?_⟩
          rw [hnx]
          simp [wrap_nat k (by omega)]
        have hge : ¬ k < r.rows.length := by simpa using hge
        refine AWp.exit ?_
        rw [List.take_of_length_le (by omega), ← hl2]
        refine AWp.seq ?_
        refine AWp.regK [2, 3] [false, false, false, false, true, true] F19r22 [{ r := .tup [sval ws, ival we] }] (by kernel_rfl) (by rw [hC]; rfl) fun K hK => ?_
        simp (maxSteps := 2000000) [F19r22]
        (repeat first | refine ⟨by first | (show freeP _ _ _ = true; kernel_rfl) | omega | (intros; omega) | assumption, ?_⟩ | refine ⟨by intros; exact callWk rfl (by repeat (first | exact WkL.nil | refine WkL.cons (by first | exact Wk.refl _ | exact Wk.nil _ | exact Wk.own (WkR.refl _)) ?_)) hw, ?_⟩); refine hK _ ?_
        repeat refine AWp.seq ?_
        refine AWp.ret ⟨.inr rfl, _, by simp [Tryz.results19] <;> rfl, ?_⟩
        exact .clos (by simp) rfl
      · have hb1 : ((cntE r.changes.length ++ manyE chE r.changes)).length ≤ 9 + 12 * csizes r.changes := by have := cntE_len r.changes.length; have := chs_len r.changes hcr (by omega); rw [List.length_append]; omega
        have hc1 := listR_ok l0 r.changes hcr (by omega) (by omega)
        obtain ⟨l1, hl1⟩ : ∃ l, l = l0 ++ (cntE r.changes.length ++ manyE chE r.changes) := ⟨_, rfl⟩
        rw [← hl1] at hc1
        have hn1 : l1.length ≤ l0.length + 9 + 12 * csizes r.changes ∧ 0 < l1.length := by rw [hl1, List.length_append]; omega
        have hbl : l1 = bytesR r := by
          rw [hl1, hl0]; unfold bytesR; rw [if_neg (show ¬ r.kind = 0 by omega), if_neg (show ¬ r.kind = 3 by omega), if_neg (show ¬ (r.kind = 6 ∨ r.kind = 7) by omega)]; simp
        rw [← hbl]
        have hw := wholeR_ok l1 (by omega)
        obtain ⟨ws, we, hwe⟩ := wholeA_tup l1
        rw [hwe] at hw ⊢
        refine Con.of_code Tryz.func19 (by kernel_rfl) rfl (by simp [Tryz.ntmps19]) fun C hC hM => ?_
        refine AWp.seq ?_
        refine AWp.regK [1] [false, true, true] F19r0 [] (by kernel_rfl) (by rw [hC]; rfl) fun K hK => ?_
        simp (maxSteps := 2000000) [F19r0]
        refine hK _ ?_
        refine AWp.seq ?_
        refine AWp.seq ?_
        refine AWp.regK [1, 8] [] F19r1 [] (by kernel_rfl) (by rw [hC]; rfl) fun K hK => ?_
        simp (maxSteps := 2000000) [F19r1]
        refine hK _ ?_
        refine AWp.cond false (by simp; omega) (fun he => by cases he) (fun _ => ?_)
        refine AWp.skip ?_
        refine AWp.seq ?_
        refine AWp.seq ?_
        refine AWp.regK [1, 11] [] F19r3 [{ r := bval true }] (by kernel_rfl) (by rw [hC]; rfl) fun K hK => ?_
        simp (maxSteps := 2000000) [F19r3]
        (repeat first | refine ⟨by first | (show freeP _ _ _ = true; kernel_rfl) | omega | (intros; omega) | assumption, ?_⟩ | refine ⟨by intros; exact callOK rfl hf, ?_⟩); refine hK _ ?_
        refine AWp.cond false (by simp) (fun he => by cases he) (fun _ => ?_)
        refine AWp.skip ?_
        refine AWp.seq ?_
        refine AWp.regK [1, 4] [false, false, false, true] F19r5 [] (by kernel_rfl) (by rw [hC]; rfl) fun K hK => ?_
        simp (maxSteps := 2000000) [F19r5]
        (repeat refine ⟨by first | omega | (intros; omega) | assumption, ?_⟩); refine hK _ ?_
        refine AWp.seq ?_
        refine AWp.seq ?_
        refine AWp.regK [1, 4, 16] [] F19r6 [] (by kernel_rfl) (by rw [hC]; rfl) fun K hK => ?_
        simp (maxSteps := 2000000) [F19r6]
        refine hK _ ?_
        refine AWp.block ?_
        refine AWp.seq ?_
        refine AWp.regK [1, 4, 16, 21] [false, true] F19r8 [] (by kernel_rfl) (by rw [hC]; rfl) fun K hK => ?_
        simp (maxSteps := 2000000) [F19r8]
        refine hK _ ?_
        rw [← hbt]
        refine AWp.cond false (by simp [h]) (fun he => by cases he) (fun _ => ?_)
        refine AWp.seq ?_
        refine AWp.regK [1, 4, 16, 50] [false, true] F19r13 [] (by kernel_rfl) (by rw [hC]; rfl) fun K hK => ?_
        simp (maxSteps := 2000000) [F19r13]
        refine hK _ ?_
        refine AWp.cond false (by simp [h]) (fun he => by cases he) (fun _ => ?_)
        refine AWp.seq ?_
        refine AWp.seq ?_
        refine AWp.regK [1, 4, 16, 71] [false, true] F19r19 [] (by kernel_rfl) (by rw [hC]; rfl) fun K hK => ?_
        simp (maxSteps := 2000000) [F19r19, h]
        refine hK _ ?_
        refine AWp.cond false (by simp) (fun he => by cases he) (fun _ => ?_)
        refine AWp.regK [1, 4, 71] [false, true] F19r20 [] (by kernel_rfl) (by rw [hC]; rfl) fun K hK => ?_
        simp (maxSteps := 2000000) [F19r20, h]
        refine hK _ ?_
        refine AWp.cond false (by simp) (fun he => by cases he) (fun _ => ?_)
        refine AWp.regK [4] [false, false, false, false, true] F19r7 [{ r := rB l1 }] (by kernel_rfl) (by rw [hC]; rfl) fun K hK => ?_
        simp (maxSteps := 2000000) [F19r7]
        (repeat first | refine ⟨by first | (show freeP _ _ _ = true; kernel_rfl) | omega | (intros; omega) | assumption, ?_⟩ | refine ⟨by intros; exact callWk rfl (by repeat (first | exact WkL.nil | refine WkL.cons (by first | exact Wk.refl _ | exact Wk.nil _ | exact Wk.own (WkR.refl _)) ?_)) hc1, ?_⟩); refine hK _ ?_
        refine AWp.seq ?_
        refine AWp.regK [2, 3] [false, false, false, false, true, true] F19r22 [{ r := .tup [sval ws, ival we] }] (by kernel_rfl) (by rw [hC]; rfl) fun K hK => ?_
        simp (maxSteps := 2000000) [F19r22]
        (repeat first | refine ⟨by first | (show freeP _ _ _ = true; kernel_rfl) | omega | (intros; omega) | assumption, ?_⟩ | refine ⟨by intros; exact callWk rfl (by repeat (first | exact WkL.nil | refine WkL.cons (by first | exact Wk.refl _ | exact Wk.nil _ | exact Wk.own (WkR.refl _)) ?_)) hw, ?_⟩); refine hK _ ?_
        repeat refine AWp.seq ?_
        refine AWp.ret ⟨.inr rfl, _, by simp [Tryz.results19] <;> rfl, ?_⟩
        exact .clos (by simp) rfl
      · have hb1 : ((cntE r.changes.length ++ manyE chE r.changes)).length ≤ 9 + 12 * csizes r.changes := by have := cntE_len r.changes.length; have := chs_len r.changes hcr (by omega); rw [List.length_append]; omega
        have hc1 := listR_ok l0 r.changes hcr (by omega) (by omega)
        obtain ⟨l1, hl1⟩ : ∃ l, l = l0 ++ (cntE r.changes.length ++ manyE chE r.changes) := ⟨_, rfl⟩
        rw [← hl1] at hc1
        have hn1 : l1.length ≤ l0.length + 9 + 12 * csizes r.changes ∧ 0 < l1.length := by rw [hl1, List.length_append]; omega
        have hbl : l1 = bytesR r := by
          rw [hl1, hl0]; unfold bytesR; rw [if_neg (show ¬ r.kind = 0 by omega), if_neg (show ¬ r.kind = 3 by omega), if_neg (show ¬ (r.kind = 6 ∨ r.kind = 7) by omega)]; simp
        rw [← hbl]
        have hw := wholeR_ok l1 (by omega)
        obtain ⟨ws, we, hwe⟩ := wholeA_tup l1
        rw [hwe] at hw ⊢
        refine Con.of_code Tryz.func19 (by kernel_rfl) rfl (by simp [Tryz.ntmps19]) fun C hC hM => ?_
        refine AWp.seq ?_
        refine AWp.regK [1] [false, true, true] F19r0 [] (by kernel_rfl) (by rw [hC]; rfl) fun K hK => ?_
        simp (maxSteps := 2000000) [F19r0]
        refine hK _ ?_
        refine AWp.seq ?_
        refine AWp.seq ?_
        refine AWp.regK [1, 8] [] F19r1 [] (by kernel_rfl) (by rw [hC]; rfl) fun K hK => ?_
        simp (maxSteps := 2000000) [F19r1]
        refine hK _ ?_
        refine AWp.cond false (by simp; omega) (fun he => by cases he) (fun _ => ?_)
        refine AWp.skip ?_
        refine AWp.seq ?_
        refine AWp.seq ?_
        refine AWp.regK [1, 11] [] F19r3 [{ r := bval true }] (by kernel_rfl) (by rw [hC]; rfl) fun K hK => ?_
        simp (maxSteps := 2000000) [F19r3]
        (repeat first | refine ⟨by first | (show freeP _ _ _ = true; kernel_rfl) | omega | (intros; omega) | assumption, ?_⟩ | refine ⟨by intros; exact callOK rfl hf, ?_⟩); refine hK _ ?_
        refine AWp.cond false (by simp) (fun he => by cases he) (fun _ => ?_)
        refine AWp.skip ?_
        refine AWp.seq ?_
        refine AWp.regK [1, 4] [false, false, false, true] F19r5 [] (by kernel_rfl) (by rw [hC]; rfl) fun K hK => ?_
        simp (maxSteps := 2000000) [F19r5]
        (repeat refine ⟨by first | omega | (intros; omega) | assumption, ?_⟩); refine hK _ ?_
        refine AWp.seq ?_
        refine AWp.seq ?_
        refine AWp.regK [1, 4, 16] [] F19r6 [] (by kernel_rfl) (by rw [hC]; rfl) fun K hK => ?_
        simp (maxSteps := 2000000) [F19r6]
        refine hK _ ?_
        refine AWp.block ?_
        refine AWp.seq ?_
        refine AWp.regK [1, 4, 16, 21] [false, true] F19r8 [] (by kernel_rfl) (by rw [hC]; rfl) fun K hK => ?_
        simp (maxSteps := 2000000) [F19r8]
        refine hK _ ?_
        rw [← hbt]
        refine AWp.cond false (by simp [h]) (fun he => by cases he) (fun _ => ?_)
        refine AWp.seq ?_
        refine AWp.regK [1, 4, 16, 50] [false, true] F19r13 [] (by kernel_rfl) (by rw [hC]; rfl) fun K hK => ?_
        simp (maxSteps := 2000000) [F19r13]
        refine hK _ ?_
        refine AWp.cond false (by simp [h]) (fun he => by cases he) (fun _ => ?_)
        refine AWp.seq ?_
        refine AWp.seq ?_
        refine AWp.regK [1, 4, 16, 71] [false, true] F19r19 [] (by kernel_rfl) (by rw [hC]; rfl) fun K hK => ?_
        simp (maxSteps := 2000000) [F19r19, h]
        refine hK _ ?_
        refine AWp.cond false (by simp) (fun he => by cases he) (fun _ => ?_)
        refine AWp.regK [1, 4, 71] [false, true] F19r20 [] (by kernel_rfl) (by rw [hC]; rfl) fun K hK => ?_
        simp (maxSteps := 2000000) [F19r20, h]
        refine hK _ ?_
        refine AWp.cond false (by simp) (fun he => by cases he) (fun _ => ?_)
        refine AWp.regK [4] [false, false, false, false, true] F19r7 [{ r := rB l1 }] (by kernel_rfl) (by rw [hC]; rfl) fun K hK => ?_
        simp (maxSteps := 2000000) [F19r7]
        (repeat first | refine ⟨by first | (show freeP _ _ _ = true; kernel_rfl) | omega | (intros; omega) | assumption, ?_⟩ | refine ⟨by intros; exact callWk rfl (by repeat (first | exact WkL.nil | refine WkL.cons (by first | exact Wk.refl _ | exact Wk.nil _ | exact Wk.own (WkR.refl _)) ?_)) hc1, ?_⟩); refine hK _ ?_
        refine AWp.seq ?_
        refine AWp.regK [2, 3] [false, false, false, false, true, true] F19r22 [{ r := .tup [sval ws, ival we] }] (by kernel_rfl) (by rw [hC]; rfl) fun K hK => ?_
        simp (maxSteps := 2000000) [F19r22]
        (repeat first | refine ⟨by first | (show freeP _ _ _ = true; kernel_rfl) | omega | (intros; omega) | assumption, ?_⟩ | refine ⟨by intros; exact callWk rfl (by repeat (first | exact WkL.nil | refine WkL.cons (by first | exact Wk.refl _ | exact Wk.nil _ | exact Wk.own (WkR.refl _)) ?_)) hw, ?_⟩); refine hK _ ?_
        repeat refine AWp.seq ?_
        refine AWp.ret ⟨.inr rfl, _, by simp [Tryz.results19] <;> rfl, ?_⟩
        exact .clos (by simp) rfl
      · have hb1 : (txtE r.text).length ≤ 2 * r.text.size + 2 := txtE_len _
        have hc1 := StrR_ok l0 r.text (by omega) (by omega)
        obtain ⟨l1, hl1⟩ : ∃ l, l = l0 ++ txtE r.text := ⟨_, rfl⟩
        rw [← hl1] at hc1
        have hn1 : l1.length ≤ l0.length + 2 * r.text.size + 2 ∧ 0 < l1.length := by rw [hl1, List.length_append]; omega
        have hbl : l1 = bytesR r := by
          rw [hl1, hl0]; unfold bytesR; rw [if_neg (show ¬ r.kind = 0 by omega), if_neg (show ¬ r.kind = 3 by omega), if_pos (show r.kind = 6 ∨ r.kind = 7 by omega)]; simp
        rw [← hbl]
        have hw := wholeR_ok l1 (by omega)
        obtain ⟨ws, we, hwe⟩ := wholeA_tup l1
        rw [hwe] at hw ⊢
        refine Con.of_code Tryz.func19 (by kernel_rfl) rfl (by simp [Tryz.ntmps19]) fun C hC hM => ?_
        refine AWp.seq ?_
        refine AWp.regK [1] [false, true, true] F19r0 [] (by kernel_rfl) (by rw [hC]; rfl) fun K hK => ?_
        simp (maxSteps := 2000000) [F19r0]
        refine hK _ ?_
        refine AWp.seq ?_
        refine AWp.seq ?_
        refine AWp.regK [1, 8] [] F19r1 [] (by kernel_rfl) (by rw [hC]; rfl) fun K hK => ?_
        simp (maxSteps := 2000000) [F19r1]
        refine hK _ ?_
        refine AWp.cond false (by simp; omega) (fun he => by cases he) (fun _ => ?_)
        refine AWp.skip ?_
        refine AWp.seq ?_
        refine AWp.seq ?_
        refine AWp.regK [1, 11] [] F19r3 [{ r := bval true }] (by kernel_rfl) (by rw [hC]; rfl) fun K hK => ?_
        simp (maxSteps := 2000000) [F19r3]
        (repeat first | refine ⟨by first | (show freeP _ _ _ = true; kernel_rfl) | omega | (intros; omega) | assumption, ?_⟩ | refine ⟨by intros; exact callOK rfl hf, ?_⟩); refine hK _ ?_
        refine AWp.cond false (by simp) (fun he => by cases he) (fun _ => ?_)
        refine AWp.skip ?_
        refine AWp.seq ?_
        refine AWp.regK [1, 4] [false, false, false, true] F19r5 [] (by kernel_rfl) (by rw [hC]; rfl) fun K hK => ?_
        simp (maxSteps := 2000000) [F19r5]
        (repeat refine ⟨by first | omega | (intros; omega) | assumption, ?_⟩); refine hK _ ?_
        refine AWp.seq ?_
        refine AWp.seq ?_
        refine AWp.regK [1, 4, 16] [] F19r6 [] (by kernel_rfl) (by rw [hC]; rfl) fun K hK => ?_
        simp (maxSteps := 2000000) [F19r6]
        refine hK _ ?_
        refine AWp.block ?_
        refine AWp.seq ?_
        refine AWp.regK [1, 4, 16, 21] [false, true] F19r8 [] (by kernel_rfl) (by rw [hC]; rfl) fun K hK => ?_
        simp (maxSteps := 2000000) [F19r8]
        refine hK _ ?_
        rw [← hbt]
        refine AWp.cond false (by simp [h]) (fun he => by cases he) (fun _ => ?_)
        refine AWp.seq ?_
        refine AWp.regK [1, 4, 16, 50] [false, true] F19r13 [] (by kernel_rfl) (by rw [hC]; rfl) fun K hK => ?_
        simp (maxSteps := 2000000) [F19r13]
        refine hK _ ?_
        refine AWp.cond false (by simp [h]) (fun he => by cases he) (fun _ => ?_)
        refine AWp.seq ?_
        refine AWp.seq ?_
        refine AWp.regK [1, 4, 16, 71] [false, true] F19r19 [] (by kernel_rfl) (by rw [hC]; rfl) fun K hK => ?_
        simp (maxSteps := 2000000) [F19r19, h]
        refine hK _ ?_
        refine AWp.cond true (by simp) (fun _ => ?_) (fun he => by cases he)
        refine AWp.skip ?_
        refine AWp.cond true (by simp) (fun _ => ?_) (fun he => by cases he)
        refine AWp.regK [4] [false, false, false, false, true] F19r21 [{ r := oB l1 }] (by kernel_rfl) (by rw [hC]; rfl) fun K hK => ?_
        simp (maxSteps := 2000000) [F19r21]
        (repeat first | refine ⟨by first | (show freeP _ _ _ = true; kernel_rfl) | omega | (intros; omega) | assumption, ?_⟩ | refine ⟨by intros; exact callWk rfl (by repeat (first | exact WkL.nil | refine WkL.cons (by first | exact Wk.refl _ | exact Wk.nil _ | exact Wk.own (WkR.refl _)) ?_)) hc1, ?_⟩); refine hK _ ?_
        refine AWp.seq ?_
        refine AWp.regK [2, 3] [false, false, false, false, true, true] F19r22 [{ r := .tup [sval ws, ival we] }] (by kernel_rfl) (by rw [hC]; rfl) fun K hK => ?_
        simp (maxSteps := 2000000) [F19r22]
        (repeat first | refine ⟨by first | (show freeP _ _ _ = true; kernel_rfl) | omega | (intros; omega) | assumption, ?_⟩ | refine ⟨by intros; exact callWk rfl (by repeat (first | exact WkL.nil | refine WkL.cons (by first | exact Wk.refl _ | exact Wk.nil _ | exact Wk.own (WkR.refl _)) ?_)) hw, ?_⟩); refine hK _ ?_
        repeat refine AWp.seq ?_
        refine AWp.ret ⟨.inr rfl, _, by simp [Tryz.results19] <;> rfl, ?_⟩
        exact .clos (by simp) rfl
      · have hb1 : (txtE r.text).length ≤ 2 * r.text.size + 2 := txtE_len _
        have hc1 := StrR_ok l0 r.text (by omega) (by omega)
        obtain ⟨l1, hl1⟩ : ∃ l, l = l0 ++ txtE r.text := ⟨_, rfl⟩
        rw [← hl1] at hc1
        have hn1 : l1.length ≤ l0.length + 2 * r.text.size + 2 ∧ 0 < l1.length := by rw [hl1, List.length_append]; omega
        have hbl : l1 = bytesR r := by
          rw [hl1, hl0]; unfold bytesR; rw [if_neg (show ¬ r.kind = 0 by omega), if_neg (show ¬ r.kind = 3 by omega), if_pos (show r.kind = 6 ∨ r.kind = 7 by omega)]; simp
        rw [← hbl]
        have hw := wholeR_ok l1 (by omega)
        obtain ⟨ws, we, hwe⟩ := wholeA_tup l1
        rw [hwe] at hw ⊢
        refine Con.of_code Tryz.func19 (by kernel_rfl) rfl (by simp [Tryz.ntmps19]) fun C hC hM => ?_
        refine AWp.seq ?_
        refine AWp.regK [1] [false, true, true] F19r0 [] (by kernel_rfl) (by rw [hC]; rfl) fun K hK => ?_
        simp (maxSteps := 2000000) [F19r0]
        refine hK _ ?_
        refine AWp.seq ?_
        refine AWp.seq ?_
        refine AWp.regK [1, 8] [] F19r1 [] (by kernel_rfl) (by rw [hC]; rfl) fun K hK => ?_
        simp (maxSteps := 2000000) [F19r1]
        refine hK _ ?_
        refine AWp.cond false (by simp; omega) (fun he => by cases he) (fun _ => ?_)
        refine AWp.skip ?_
        refine AWp.seq ?_
        refine AWp.seq ?_
        refine AWp.regK [1, 11] [] F19r3 [{ r := bval true }] (by kernel_rfl) (by rw [hC]; rfl) fun K hK => ?_
        simp (maxSteps := 2000000) [F19r3]
        (repeat first | refine ⟨by first | (show freeP _ _ _ = true; kernel_rfl) | omega | (intros; omega) | assumption, ?_⟩ | refine ⟨by intros; exact callOK rfl hf, ?_⟩); refine hK _ ?_
        refine AWp.cond false (by simp) (fun he => by cases he) (fun _ => ?_)
        refine AWp.skip ?_
        refine AWp.seq ?_
        refine AWp.regK [1, 4] [false, false, false, true] F19r5 [] (by kernel_rfl) (by rw [hC]; rfl) fun K hK => ?_
        simp (maxSteps := 2000000) [F19r5]
        (repeat refine ⟨by first | omega | (intros; omega) | assumption, ?_⟩); refine hK _ ?_
        refine AWp.seq ?_
        refine AWp.seq ?_
        refine AWp.regK [1, 4, 16] [] F19r6 [] (by kernel_rfl) (by rw [hC]; rfl) fun K hK => ?_
        simp (maxSteps := 2000000) [F19r6]
        refine hK _ ?_
        refine AWp.block ?_
        refine AWp.seq ?_
        refine AWp.regK [1, 4, 16, 21] [false, true] F19r8 [] (by kernel_rfl) (by rw [hC]; rfl) fun K hK => ?_
        simp (maxSteps := 2000000) [F19r8]
        refine hK _ ?_
        rw [← hbt]
        refine AWp.cond false (by simp [h]) (fun he => by cases he) (fun _ => ?_)
        refine AWp.seq ?_
        refine AWp.regK [1, 4, 16, 50] [false, true] F19r13 [] (by kernel_rfl) (by rw [hC]; rfl) fun K hK => ?_
        simp (maxSteps := 2000000) [F19r13]
        refine hK _ ?_
        refine AWp.cond false (by simp [h]) (fun he => by cases he) (fun _ => ?_)
        refine AWp.seq ?_
        refine AWp.seq ?_
        refine AWp.regK [1, 4, 16, 71] [false, true] F19r19 [] (by kernel_rfl) (by rw [hC]; rfl) fun K hK => ?_
        simp (maxSteps := 2000000) [F19r19, h]
        refine hK _ ?_
        refine AWp.cond false (by simp) (fun he => by cases he) (fun _ => ?_)
        refine AWp.regK [1, 4, 71] [false, true] F19r20 [] (by kernel_rfl) (by rw [hC]; rfl) fun K hK => ?_
        simp (maxSteps := 2000000) [F19r20, h]
        refine hK _ ?_
        refine AWp.cond true (by simp) (fun _ => ?_) (fun he => by cases he)
        refine AWp.regK [4] [false, false, false, false, true] F19r21 [{ r := oB l1 }] (by kernel_rfl) (by rw [hC]; rfl) fun K hK => ?_
        simp (maxSteps := 2000000) [F19r21]
        (repeat first | refine ⟨by first | (show freeP _ _ _ = true; kernel_rfl) | omega | (intros; omega) | assumption, ?_⟩ | refine ⟨by intros; exact callWk rfl (by repeat (first | exact WkL.nil | refine WkL.cons (by first | exact Wk.refl _ | exact Wk.nil _ | exact Wk.own (WkR.refl _)) ?_)) hc1, ?_⟩); refine hK _ ?_
        refine AWp.seq ?_
        refine AWp.regK [2, 3] [false, false, false, false, true, true] F19r22 [{ r := .tup [sval ws, ival we] }] (by kernel_rfl) (by rw [hC]; rfl) fun K hK => ?_
        simp (maxSteps := 2000000) [F19r22]
        (repeat first | refine ⟨by first | (show freeP _ _ _ = true; kernel_rfl) | omega | (intros; omega) | assumption, ?_⟩ | refine ⟨by intros; exact callWk rfl (by repeat (first | exact WkL.nil | refine WkL.cons (by first | exact Wk.refl _ | exact Wk.nil _ | exact Wk.own (WkR.refl _)) ?_)) hw, ?_⟩); refine hK _ ?_
        repeat refine AWp.seq ?_
        refine AWp.ret ⟨.inr rfl, _, by simp [Tryz.results19] <;> rfl, ?_⟩
        exact .clos (by simp) rfl
end Go.Se
