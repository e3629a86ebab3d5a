/- The bytes of commands: the document's. -/
import Derived.Test.YtmikljncdgfjpaaGreatDoorSeN
set_option linter.unusedSimpArgs false
set_option linter.unusedVariables false
open Go Go.Aw Go.Proofs
namespace Go.Se
set_option maxRecDepth 20000
set_option maxHeartbeats 2000000
-- function 17: corollary/corollaryref31.Encode
def F17r0 : List ROp := [⟨some 1, .box 29 (.tmp 0), [], none⟩,
  ⟨some 2, .copy true (.const (.string { data := #[] })), [], none⟩,
  ⟨some 3, .copy true (.const (.int .i64 0)), [], none⟩]
def F17r1 : List ROp := [⟨some 6, .fad 0 (.tmp 1), [], none⟩,
  ⟨some 7, .load 1 false false (.tmp 6), [], none⟩,
  ⟨some 8, .bin .lss (.tmp 7) (.const (.int .u8 1)), [], none⟩,
  ⟨some 9, .copy false (.tmp 8), [], none⟩,
  ⟨some 10, .fad 0 (.tmp 1), [], some (9, false)⟩,
  ⟨some 11, .load 1 false false (.tmp 10), [], some (9, false)⟩,
  ⟨some 12, .bin .gtr (.tmp 11) (.const (.int .u8 7)), [], some (9, false)⟩,
  ⟨some 13, .pick (.tmp 9) (.const (.bool true)) (.tmp 12), [], none⟩]
def F17r2 : List ROp := [⟨some 2, .copy true (.const (.string { data := #[] })), [], none⟩,
  ⟨some 3, .copy true (.const (.int .i64 1)), [], none⟩]
def F17r3 : List ROp := [⟨some 14, .load 7 true false (.tmp 1), [], none⟩,
  ⟨some 15, .call (.func 60) [.tmp 14], [], none⟩,
  ⟨some 16, .un .not (.tmp 15), [], none⟩]
def F17r4 : List ROp := [⟨some 2, .copy true (.const (.string { data := #[] })), [], none⟩,
  ⟨some 3, .copy true (.const (.int .i64 4)), [], none⟩]
def F17r5 : List ROp := [⟨some 17, .fad 0 (.tmp 1), [], none⟩,
  ⟨some 18, .load 1 false false (.tmp 17), [], none⟩,
  ⟨some 19, .bslice 5 1 [Value.int .u8 0] 1 [(0, .tmp 18)], [], none⟩,
  ⟨some 4, .copy true (.tmp 19), [], none⟩]
def F17r6 : List ROp := [⟨some 20, .fad 0 (.tmp 1), [], none⟩,
  ⟨some 21, .load 1 false false (.tmp 20), [], none⟩,
  ⟨some 22, .bin .eql (.tmp 21) (.const (.int .u8 1)), [], none⟩]
def F17r7 : List ROp := [⟨some 23, .copy false (.tmp 4), [], none⟩,
  ⟨some 24, .fad 1 (.tmp 1), [], none⟩,
  ⟨some 25, .load 1 false false (.tmp 24), [1], none⟩,
  ⟨some 26, .call (.func 61) [.tmp 23, .tmp 25], [0, 2], none⟩,
  ⟨some 27, .fad 2 (.tmp 1), [], none⟩,
  ⟨some 28, .load 1 false false (.tmp 27), [4], none⟩,
  ⟨some 29, .len 0 (.tmp 28), [5], none⟩,
  ⟨some 30, .call (.func 61) [.tmp 26, .tmp 29], [3, 6, 3], none⟩,
  ⟨some 4, .copy true (.tmp 30), [7, 7, 0, 1, 2, 3, 4, 5, 6, 7], none⟩]
def F17r8 : List ROp := [⟨some 5, .copy true (.const (.int .i64 0)), [], none⟩]
def F17r9 : List ROp := [⟨some 31, .copy false (.tmp 5), [], none⟩,
  ⟨some 32, .fad 2 (.tmp 1), [], none⟩,
  ⟨some 33, .load 1 false false (.tmp 32), [], none⟩,
  ⟨some 34, .len 0 (.tmp 33), [], none⟩,
  ⟨some 35, .bin .lss (.tmp 31) (.tmp 34), [], none⟩]
def F17r10 : List ROp := [⟨some 36, .copy false (.tmp 5), [], none⟩,
  ⟨some 37, .bin .add (.tmp 36) (.const (.int .i64 1)), [], none⟩,
  ⟨some 5, .copy true (.tmp 37), [], none⟩]
def F17r11 : List ROp := [⟨some 38, .copy false (.tmp 4), [], none⟩,
  ⟨some 39, .fad 2 (.tmp 1), [], none⟩,
  ⟨some 40, .load 1 false false (.tmp 39), [], none⟩,
  ⟨some 41, .copy false (.tmp 5), [], none⟩,
  ⟨some 42, .iad 1 (.tmp 40) (.tmp 41), [], none⟩,
  ⟨some 43, .load 1 false false (.tmp 42), [], none⟩,
  ⟨some 44, .call (.func 62) [.tmp 38, .tmp 43], [], none⟩,
  ⟨some 4, .copy true (.tmp 44), [], none⟩]
def F17r12 : List ROp := [⟨some 45, .fad 0 (.tmp 1), [], none⟩,
  ⟨some 46, .load 1 false false (.tmp 45), [], none⟩,
  ⟨some 47, .bin .eql (.tmp 46) (.const (.int .u8 2)), [], none⟩]
def F17r13 : List ROp := [⟨some 48, .copy false (.tmp 4), [], none⟩,
  ⟨some 49, .fad 3 (.tmp 1), [], none⟩,
  ⟨some 50, .load 1 false false (.tmp 49), [], none⟩,
  ⟨some 51, .call (.func 63) [.tmp 48, .tmp 50], [], none⟩,
  ⟨some 4, .copy true (.tmp 51), [], none⟩]
def F17r14 : List ROp := [⟨some 52, .fad 0 (.tmp 1), [], none⟩,
  ⟨some 53, .load 1 false false (.tmp 52), [], none⟩,
  ⟨some 54, .bin .gtr (.tmp 53) (.const (.int .u8 2)), [], none⟩]
def F17r15 : List ROp := [⟨some 55, .copy false (.tmp 4), [], none⟩,
  ⟨some 56, .fad 4 (.tmp 1), [], none⟩,
  ⟨some 57, .load 1 false false (.tmp 56), [], none⟩,
  ⟨some 58, .call (.func 62) [.tmp 55, .tmp 57], [], none⟩,
  ⟨some 4, .copy true (.tmp 58), [], none⟩]
def F17r16 : List ROp := [⟨some 59, .fad 0 (.tmp 1), [], none⟩,
  ⟨some 60, .load 1 false false (.tmp 59), [], none⟩,
  ⟨some 61, .bin .eql (.tmp 60) (.const (.int .u8 4)), [], none⟩,
  ⟨some 62, .copy false (.tmp 61), [], none⟩,
  ⟨some 63, .fad 0 (.tmp 1), [], some (62, false)⟩,
  ⟨some 64, .load 1 false false (.tmp 63), [], some (62, false)⟩,
  ⟨some 65, .bin .eql (.tmp 64) (.const (.int .u8 5)), [], some (62, false)⟩,
  ⟨some 66, .pick (.tmp 62) (.const (.bool true)) (.tmp 65), [], none⟩]
def F17r17 : List ROp := [⟨some 67, .copy false (.tmp 4), [], none⟩,
  ⟨some 68, .fad 5 (.tmp 1), [], none⟩,
  ⟨some 69, .load 1 false false (.tmp 68), [1], none⟩,
  ⟨some 70, .call (.func 64) [.tmp 67, .tmp 69], [0, 2], none⟩,
  ⟨some 71, .fad 6 (.tmp 1), [], none⟩,
  ⟨some 72, .load 1 false false (.tmp 71), [4], none⟩,
  ⟨some 73, .call (.func 62) [.tmp 70, .tmp 72], [3, 5, 3], none⟩,
  ⟨some 4, .copy true (.tmp 73), [6, 6, 0, 1, 2, 3, 4, 5, 6], none⟩]
def F17r18 : List ROp := [⟨some 74, .copy false (.tmp 4), [], none⟩,
  ⟨some 75, .call (.func 65) [.tmp 74], [], none⟩,
  ⟨some 76, .ext (.tmp 75) 0, [], none⟩,
  ⟨some 77, .ext (.tmp 75) 1, [], none⟩,
  ⟨some 2, .copy true (.tmp 76), [], none⟩,
  ⟨some 3, .copy true (.tmp 77), [], none⟩]
theorem encode_R (c : CmdD) (hc : cmdsize c ≤ 4194304) (hr : cmdrng c) : Con Tryz.prog 17 [cmdX c] (encodeA c) := by
  have h0 : cmdsize c = tsizes c.texts + csizes c.changes + c.rel.size + c.text.size := rfl
  have hcr : crngs c.changes := hr
  have ht := tsizes_len c.texts
  have hcl := csizes_len c.changes
  have htl := txts_len c.texts
  have hchl := chs_len c.changes hcr (by omega)
  have hf := fits_R c hc
  unfold encodeA
  by_cases hk : c.kind < 1 ∨ 7 < c.kind
  · rw [if_pos hk]
    refine Con.of_code Tryz.func17 (by kernel_rfl) rfl (by simp [Tryz.ntmps17]) fun C hC hM => ?_
    refine AWp.seq ?_
    refine AWp.regK [1] [false, true, true] F17r0 [] (by kernel_rfl) (by rw [hC]; rfl) fun K hK => ?_
    simp (maxSteps := 2000000) [F17r0]
    refine hK _ ?_
    refine AWp.seq ?_
    refine AWp.seq ?_
    refine AWp.regK [1, 13] [] F17r1 [] (by kernel_rfl) (by rw [hC]; rfl) fun K hK => ?_
    simp (maxSteps := 2000000) [F17r1]
    (repeat refine ⟨by first | omega | (intros; omega) | assumption, ?_⟩); refine hK _ ?_
    refine AWp.cond true (by simp; omega) (fun _ => ?_) (fun he => by cases he)
    refine AWp.seq ?_
    refine AWp.regK [2, 3] [true, true] F17r2 [] (by kernel_rfl) (by rw [hC]; rfl) fun K hK => ?_
    simp (maxSteps := 2000000) [F17r2]
    refine hK _ ?_
    repeat refine AWp.seq ?_
    refine AWp.ret ⟨.inr rfl, _, by simp [Tryz.results17] <;> rfl, ?_⟩
    exact .clos (by simp) rfl
  · rw [if_neg hk]
    by_cases hff : fitsC c = false
    · rw [if_pos hff]
      rw [hff] at hf
      refine Con.of_code Tryz.func17 (by kernel_rfl) rfl (by simp [Tryz.ntmps17]) fun C hC hM => ?_
      refine AWp.seq ?_
      refine AWp.regK [1] [false, true, true] F17r0 [] (by kernel_rfl) (by rw [hC]; rfl) fun K hK => ?_
      simp (maxSteps := 2000000) [F17r0]
      refine hK _ ?_
      refine AWp.seq ?_
      refine AWp.seq ?_
      refine AWp.regK [1, 13] [] F17r1 [] (by kernel_rfl) (by rw [hC]; rfl) fun K hK => ?_
      simp (maxSteps := 2000000) [F17r1]
      (repeat refine ⟨by first | omega | (intros; omega) | assumption, ?_⟩); refine hK _ ?_
      refine AWp.cond false (by simp; omega) (fun he => by cases he) (fun _ => ?_)
      refine AWp.skip ?_
      refine AWp.seq ?_
      refine AWp.seq ?_
      refine AWp.regK [1, 16] [] F17r3 [{ r := bval false }] (by kernel_rfl) (by rw [hC]; rfl) fun K hK => ?_
      simp (maxSteps := 2000000) [F17r3]
      (repeat first | refine ⟨by first | (show freeP _ _ _ = true; kernel_rfl) | omega | (intros; omega) | assumption, ?_⟩ | refine ⟨by intros; exact callOK rfl hf, ?_⟩); refine hK _ ?_
      refine AWp.cond true (by simp) (fun _ => ?_) (fun he => by cases he)
      refine AWp.seq ?_
      refine AWp.regK [2, 3] [true, true] F17r4 [] (by kernel_rfl) (by rw [hC]; rfl) fun K hK => ?_
      simp (maxSteps := 2000000) [F17r4]
      refine hK _ ?_
      repeat refine AWp.seq ?_
      refine AWp.ret ⟨.inr rfl, _, by simp [Tryz.results17] <;> rfl, ?_⟩
      exact .clos (by simp) rfl
    · rw [if_neg hff]
      have hft : fitsC c = true := by simpa using hff
      rw [hft] at hf
      obtain ⟨l0, hl0⟩ : ∃ l : List Int, l = [c.kind] := ⟨_, rfl⟩
      have hn0 : l0.length = 1 := by rw [hl0]; rfl
      have hbt : bt l0 = [[AV.val (Value.int .u8 c.kind)]] := by rw [hl0]; rfl
      have h17 : c.kind = 1 ∨ c.kind = 2 ∨ c.kind = 3 ∨ c.kind = 4 ∨ c.kind = 5 ∨ c.kind = 6 ∨ c.kind = 7 := by omega
      rcases h17 with h | h | h | h | h | h | h
      · have hb1 : (cntE c.limit).length ≤ 9 := cntE_len _
        have hc1 := CountR_ok l0 c.limit (by omega)
        obtain ⟨l1, hl1⟩ : ∃ l, l = l0 ++ cntE c.limit := ⟨_, rfl⟩
        rw [← hl1] at hc1
        have hn1 : l1.length ≤ l0.length + 9 ∧ 0 < l1.length := by rw [hl1, List.length_append]; omega
        have hb2 : (cntE c.texts.length).length ≤ 9 := cntE_len _
        have hc2 := CountR_ok l1 c.texts.length (by omega)
        obtain ⟨l2, hl2⟩ : ∃ l, l = l1 ++ cntE c.texts.length := ⟨_, rfl⟩
        rw [← hl2] at hc2
        have hn2 : l2.length ≤ l1.length + 9 ∧ 0 < l2.length := by rw [hl2, List.length_append]; omega
        obtain ⟨l3, hl3⟩ : ∃ l, l = l2 ++ manyE txtE c.texts := ⟨_, rfl⟩
        have hn3 : l3.length ≤ l2.length + 2 * tsizes c.texts := by rw [hl3, List.length_append]; omega
        have hbl : l3 = bytesC c := by
          rw [hl3, hl2, hl1, hl0]; unfold bytesC; rw [if_pos h]; simp
        rw [← hbl]
        have hw := wholeR_ok l3 (by omega)
        obtain ⟨ws, we, hwe⟩ := wholeA_tup l3
        rw [hwe] at hw ⊢
        refine Con.of_code Tryz.func17 (by kernel_rfl) rfl (by simp [Tryz.ntmps17]) fun C hC hM => ?_
        refine AWp.seq ?_
        refine AWp.regK [1] [false, true, true] F17r0 [] (by kernel_rfl) (by rw [hC]; rfl) fun K hK => ?_
        simp (maxSteps := 2000000) [F17r0]
        refine hK _ ?_
        refine AWp.seq ?_
        refine AWp.seq ?_
        refine AWp.regK [1, 13] [] F17r1 [] (by kernel_rfl) (by rw [hC]; rfl) fun K hK => ?_
        simp (maxSteps := 2000000) [F17r1]
        (repeat refine ⟨by first | omega | (intros; omega) | assumption, ?_⟩); refine hK _ ?_
        refine AWp.cond false (by simp; omega) (fun he => by cases he) (fun _ => ?_)
        refine AWp.skip ?_
        refine AWp.seq ?_
        refine AWp.seq ?_
        refine AWp.regK [1, 16] [] F17r3 [{ r := bval true }] (by kernel_rfl) (by rw [hC]; rfl) fun K hK => ?_
        simp (maxSteps := 2000000) [F17r3]
        (repeat first | refine ⟨by first | (show freeP _ _ _ = true; kernel_rfl) | omega | (intros; omega) | assumption, ?_⟩ | refine ⟨by intros; exact callOK rfl hf, ?_⟩); refine hK _ ?_
        refine AWp.cond false (by simp) (fun he => by cases he) (fun _ => ?_)
        refine AWp.skip ?_
        refine AWp.seq ?_
        refine AWp.regK [1, 4] [false, false, false, true] F17r5 [] (by kernel_rfl) (by rw [hC]; rfl) fun K hK => ?_
        simp (maxSteps := 2000000) [F17r5]
        (repeat refine ⟨by first | omega | (intros; omega) | assumption, ?_⟩); refine hK _ ?_
        refine AWp.seq ?_
        refine AWp.seq ?_
        refine AWp.regK [1, 4, 22] [] F17r6 [] (by kernel_rfl) (by rw [hC]; rfl) fun K hK => ?_
        simp (maxSteps := 2000000) [F17r6]
        refine hK _ ?_
        rw [← hbt]
        refine AWp.cond true (by simp [h]) (fun _ => ?_) (fun he => by cases he)
        refine AWp.seq ?_
        refine AWp.regKL ops_mixed [[], [], [1], [0, 1, 2], [], [4], [4, 5], [0, 1, 2, 3, 4, 5, 6], [0, 1, 2, 3, 4, 5, 6, 7]] [1, 4] [false, false, false, false, false, false, false, false, true] F17r7 [{ r := oB l1 }, { r := oB l2 }] (by kernel_rfl) (by rw [hC]; rfl) (by kernel_rfl) (by kernel_rfl) fun K hK => ?_
        simp (maxSteps := 2000000) [F17r7]
        (repeat first | refine ⟨by first | (show freeP _ _ _ = true; kernel_rfl) | omega | (intros; omega) | assumption, ?_⟩ | refine ⟨by intros; exact callWk rfl (by repeat (first | exact WkL.nil | refine WkL.cons (by first | exact Wk.refl _ | exact Wk.nil _ | exact Wk.own (WkR.refl _)) ?_)) hc1, ?_⟩ | refine ⟨by intros; exact callWk rfl (by repeat (first | exact WkL.nil | refine WkL.cons (by first | exact Wk.refl _ | exact Wk.nil _ | exact Wk.own (WkR.refl _)) ?_)) hc2, ?_⟩); refine hK _ ?_
        refine AWp.seq ?_
        refine AWp.regK [1, 4, 5] [true] F17r8 [] (by kernel_rfl) (by rw [hC]; rfl) fun K hK => ?_
        simp (maxSteps := 2000000) [F17r8]
        refine hK _ ?_
        refine AWp.block ?_
        refine AWp.loopG (fun k : Nat => { tm := [(1, .ptr 1 0), (4, rB (l2 ++ manyE txtE (c.texts.take k))), (5, ival k)], hp := [(1, .cells 29 (encCmd c))] }) (fun k => k ≤ c.texts.length) (fun k => c.texts.length - k) 0 (by omega) (by simp [manyE, h]) (fun k hk => ?_)
        have hmt := manyE_take_le txtE c.texts k
        have hcu : (l2 ++ manyE txtE (c.texts.take k)).length ≤ l2.length + (manyE txtE c.texts).length := by rw [List.length_append]; omega
        refine AWp.seq ?_
        refine AWp.seq ?_
        refine AWp.regK [1, 4, 5, 35] [] F17r9 [] (by kernel_rfl) (by rw [hC]; rfl) fun K hK => ?_
        simp (maxSteps := 2000000) [F17r9]
        refine hK _ ?_
        refine AWp.cond _ (by rfl) (fun hlt => ?_) (fun hge => ?_)
        · skip
          have hlt : k < c.texts.length := by simpa using hlt
          have hst : l2 ++ manyE txtE (c.texts.take (k + 1)) = l2 ++ manyE txtE (c.texts.take k) ++ txtE c.texts[k] := by rw [manyE_take txtE c.texts k hlt]; simp
          generalize l2 ++ manyE txtE (c.texts.take k) = cur at *
          have hm := tsize_mem (List.getElem_mem hlt)
          have hcs := StrR_ok cur c.texts[k] (by omega) (by omega)
          rw [← hst] at hcs
          generalize hnx : l2 ++ manyE txtE (c.texts.take (k + 1)) = nxt at *
          refine AWp.skip ?_
          refine AWp.seq ?_
          refine AWp.block ?_
          refine AWp.regK [1, 4, 5] [false, false, false, false, false, false, false, true] F17r11 [{ r := rB nxt }] (by kernel_rfl) (by rw [hC]; rfl) fun K hK => ?_
          simp (maxSteps := 2000000) [F17r11, hlt]
          (repeat first | refine ⟨by first | (show freeP _ _ _ = true; kernel_rfl) | omega | (intros; omega) | assumption, ?_⟩ | refine ⟨by intros; exact callOK rfl (hcs.res (.own (WkR.refl _)) rfl), ?_⟩); refine hK _ ?_
          refine AWp.regK [1, 4, 5] [false, false, true] F17r10 [] (by kernel_rfl) (by rw [hC]; rfl) fun K hK => ?_
          simp (maxSteps := 2000000) [F17r10]
          (repeat refine ⟨by first | omega | (intros; omega) | assumption, ?_⟩); refine hK _ ?_
          refine ⟨k + 1, by omega, by omega, ?_⟩
          rw [hnx]
          simp [wrap_nat k (by omega)]
        have hge : ¬ k < c.texts.length := by simpa using hge
        refine AWp.exit ?_
        rw [List.take_of_length_le (by omega), ← hl3]
        refine AWp.seq ?_
        refine AWp.seq ?_
        refine AWp.regK [1, 4, 47] [] F17r12 [] (by kernel_rfl) (by rw [hC]; rfl) fun K hK => ?_
        simp (maxSteps := 2000000) [F17r12]
        refine hK _ ?_
        refine AWp.cond false (by simp [h]) (fun he => by cases he) (fun _ => ?_)
        refine AWp.skip ?_
        refine AWp.seq ?_
        refine AWp.seq ?_
        refine AWp.regK [1, 4, 54] [] F17r14 [] (by kernel_rfl) (by rw [hC]; rfl) fun K hK => ?_
        simp (maxSteps := 2000000) [F17r14]
        refine hK _ ?_
        refine AWp.cond false (by simp [h]) (fun he => by cases he) (fun _ => ?_)
        refine AWp.skip ?_
        refine AWp.seq ?_
        refine AWp.seq ?_
        refine AWp.regK [1, 4, 66] [] F17r16 [] (by kernel_rfl) (by rw [hC]; rfl) fun K hK => ?_
        simp (maxSteps := 2000000) [F17r16, h]
        (repeat refine ⟨by first | omega | (intros; omega) | assumption, ?_⟩); refine hK _ ?_
        refine AWp.cond false (by simp) (fun he => by cases he) (fun _ => ?_)
        refine AWp.skip ?_
        refine AWp.seq ?_
        refine AWp.regK [2, 3] [false, false, false, false, true, true] F17r18 [{ r := .tup [sval ws, ival we] }] (by kernel_rfl) (by rw [hC]; rfl) fun K hK => ?_
        simp (maxSteps := 2000000) [F17r18]
        (repeat first | refine ⟨by first | (show freeP _ _ _ = true; kernel_rfl) | omega | (intros; omega) | assumption, ?_⟩ | refine ⟨by intros; exact callWk rfl (by repeat (first | exact WkL.nil | refine WkL.cons (by first | exact Wk.refl _ | exact Wk.nil _ | exact Wk.own (WkR.refl _)) ?_)) hw, ?_⟩); refine hK _ ?_
        repeat refine AWp.seq ?_
        refine AWp.ret ⟨.inr rfl, _, by simp [Tryz.results17] <;> rfl, ?_⟩
        exact .clos (by simp) rfl
      · have hb1 : ((cntE c.changes.length ++ manyE chE c.changes)).length ≤ 9 + 12 * csizes c.changes := by have := cntE_len c.changes.length; have := chs_len c.changes hcr (by omega); rw [List.length_append]; omega
        have hc1 := listR_ok l0 c.changes hcr (by omega) (by omega)
        obtain ⟨l1, hl1⟩ : ∃ l, l = l0 ++ (cntE c.changes.length ++ manyE chE c.changes) := ⟨_, rfl⟩
        rw [← hl1] at hc1
        have hn1 : l1.length ≤ l0.length + 9 + 12 * csizes c.changes ∧ 0 < l1.length := by rw [hl1, List.length_append]; omega
        have hbl : l1 = bytesC c := by
          rw [hl1, hl0]; unfold bytesC; rw [if_neg (show ¬ c.kind = 1 by omega), if_pos h]; simp
        rw [← hbl]
        have hw := wholeR_ok l1 (by omega)
        obtain ⟨ws, we, hwe⟩ := wholeA_tup l1
        rw [hwe] at hw ⊢
        refine Con.of_code Tryz.func17 (by kernel_rfl) rfl (by simp [Tryz.ntmps17]) fun C hC hM => ?_
        refine AWp.seq ?_
        refine AWp.regK [1] [false, true, true] F17r0 [] (by kernel_rfl) (by rw [hC]; rfl) fun K hK => ?_
        simp (maxSteps := 2000000) [F17r0]
        refine hK _ ?_
        refine AWp.seq ?_
        refine AWp.seq ?_
        refine AWp.regK [1, 13] [] F17r1 [] (by kernel_rfl) (by rw [hC]; rfl) fun K hK => ?_
        simp (maxSteps := 2000000) [F17r1]
        (repeat refine ⟨by first | omega | (intros; omega) | assumption, ?_⟩); refine hK _ ?_
        refine AWp.cond false (by simp; omega) (fun he => by cases he) (fun _ => ?_)
        refine AWp.skip ?_
        refine AWp.seq ?_
        refine AWp.seq ?_
        refine AWp.regK [1, 16] [] F17r3 [{ r := bval true }] (by kernel_rfl) (by rw [hC]; rfl) fun K hK => ?_
        simp (maxSteps := 2000000) [F17r3]
        (repeat first | refine ⟨by first | (show freeP _ _ _ = true; kernel_rfl) | omega | (intros; omega) | assumption, ?_⟩ | refine ⟨by intros; exact callOK rfl hf, ?_⟩); refine hK _ ?_
        refine AWp.cond false (by simp) (fun he => by cases he) (fun _ => ?_)
        refine AWp.skip ?_
        refine AWp.seq ?_
        refine AWp.regK [1, 4] [false, false, false, true] F17r5 [] (by kernel_rfl) (by rw [hC]; rfl) fun K hK => ?_
        simp (maxSteps := 2000000) [F17r5]
        (repeat refine ⟨by first | omega | (intros; omega) | assumption, ?_⟩); refine hK _ ?_
        refine AWp.seq ?_
        refine AWp.seq ?_
        refine AWp.regK [1, 4, 22] [] F17r6 [] (by kernel_rfl) (by rw [hC]; rfl) fun K hK => ?_
        simp (maxSteps := 2000000) [F17r6]
        refine hK _ ?_
        rw [← hbt]
        refine AWp.cond false (by simp [h]) (fun he => by cases he) (fun _ => ?_)
        refine AWp.skip ?_
        refine AWp.seq ?_
        refine AWp.seq ?_
        refine AWp.regK [1, 4, 47] [] F17r12 [] (by kernel_rfl) (by rw [hC]; rfl) fun K hK => ?_
        simp (maxSteps := 2000000) [F17r12]
        refine hK _ ?_
        refine AWp.cond true (by simp [h]) (fun _ => ?_) (fun he => by cases he)
        refine AWp.regK [1, 4] [false, false, false, false, true] F17r13 [{ r := rB l1 }] (by kernel_rfl) (by rw [hC]; rfl) fun K hK => ?_
        simp (maxSteps := 2000000) [F17r13]
        (repeat first | refine ⟨by first | (show freeP _ _ _ = true; kernel_rfl) | omega | (intros; omega) | assumption, ?_⟩ | refine ⟨by intros; exact callWk rfl (by repeat (first | exact WkL.nil | refine WkL.cons (by first | exact Wk.refl _ | exact Wk.nil _ | exact Wk.own (WkR.refl _)) ?_)) hc1, ?_⟩); refine hK _ ?_
        refine AWp.seq ?_
        refine AWp.seq ?_
        refine AWp.regK [1, 4, 54] [] F17r14 [] (by kernel_rfl) (by rw [hC]; rfl) fun K hK => ?_
        simp (maxSteps := 2000000) [F17r14]
        refine hK _ ?_
        refine AWp.cond false (by simp [h]) (fun he => by cases he) (fun _ => ?_)
        refine AWp.skip ?_
        refine AWp.seq ?_
        refine AWp.seq ?_
        refine AWp.regK [1, 4, 66] [] F17r16 [] (by kernel_rfl) (by rw [hC]; rfl) fun K hK => ?_
        simp (maxSteps := 2000000) [F17r16, h]
        (repeat refine ⟨by first | omega | (intros; omega) | assumption, ?_⟩); refine hK _ ?_
        refine AWp.cond false (by simp) (fun he => by cases he) (fun _ => ?_)
        refine AWp.skip ?_
        refine AWp.seq ?_
        refine AWp.regK [2, 3] [false, false, false, false, true, true] F17r18 [{ r := .tup [sval ws, ival we] }] (by kernel_rfl) (by rw [hC]; rfl) fun K hK => ?_
        simp (maxSteps := 2000000) [F17r18]
        (repeat first | refine ⟨by first | (show freeP _ _ _ = true; kernel_rfl) | omega | (intros; omega) | assumption, ?_⟩ | refine ⟨by intros; exact callWk rfl (by repeat (first | exact WkL.nil | refine WkL.cons (by first | exact Wk.refl _ | exact Wk.nil _ | exact Wk.own (WkR.refl _)) ?_)) hw, ?_⟩); refine hK _ ?_
        repeat refine AWp.seq ?_
        refine AWp.ret ⟨.inr rfl, _, by simp [Tryz.results17] <;> rfl, ?_⟩
        exact .clos (by simp) rfl
      · have hb1 : (txtE c.rel).length ≤ 2 * c.rel.size + 2 := txtE_len _
        have hc1 := StrR_ok l0 c.rel (by omega) (by omega)
        obtain ⟨l1, hl1⟩ : ∃ l, l = l0 ++ txtE c.rel := ⟨_, rfl⟩
        rw [← hl1] at hc1
        have hn1 : l1.length ≤ l0.length + 2 * c.rel.size + 2 ∧ 0 < l1.length := by rw [hl1, List.length_append]; omega
        have hbl : l1 = bytesC c := by
          rw [hl1, hl0]; unfold bytesC; rw [if_neg (show ¬ c.kind = 1 by omega), if_neg (show ¬ c.kind = 2 by omega), if_neg (show ¬ (c.kind = 4 ∨ c.kind = 5) by omega)]; simp
        rw [← hbl]
        have hw := wholeR_ok l1 (by omega)
        obtain ⟨ws, we, hwe⟩ := wholeA_tup l1
        rw [hwe] at hw ⊢
        refine Con.of_code Tryz.func17 (by kernel_rfl) rfl (by simp [Tryz.ntmps17]) fun C hC hM => ?_
        refine AWp.seq ?_
        refine AWp.regK [1] [false, true, true] F17r0 [] (by kernel_rfl) (by rw [hC]; rfl) fun K hK => ?_
        simp (maxSteps := 2000000) [F17r0]
        refine hK _ ?_
        refine AWp.seq ?_
        refine AWp.seq ?_
        refine AWp.regK [1, 13] [] F17r1 [] (by kernel_rfl) (by rw [hC]; rfl) fun K hK => ?_
        simp (maxSteps := 2000000) [F17r1]
        (repeat refine ⟨by first | omega | (intros; omega) | assumption, ?_⟩); refine hK _ ?_
        refine AWp.cond false (by simp; omega) (fun he => by cases he) (fun _ => ?_)
        refine AWp.skip ?_
        refine AWp.seq ?_
        refine AWp.seq ?_
        refine AWp.regK [1, 16] [] F17r3 [{ r := bval true }] (by kernel_rfl) (by rw [hC]; rfl) fun K hK => ?_
        simp (maxSteps := 2000000) [F17r3]
        (repeat first | refine ⟨by first | (show freeP _ _ _ = true; kernel_rfl) | omega | (intros; omega) | assumption, ?_⟩ | refine ⟨by intros; exact callOK rfl hf, ?_⟩); refine hK _ ?_
        refine AWp.cond false (by simp) (fun he => by cases he) (fun _ => ?_)
        refine AWp.skip ?_
        refine AWp.seq ?_
        refine AWp.regK [1, 4] [false, false, false, true] F17r5 [] (by kernel_rfl) (by rw [hC]; rfl) fun K hK => ?_
        simp (maxSteps := 2000000) [F17r5]
        (repeat refine ⟨by first | omega | (intros; omega) | assumption, ?_⟩); refine hK _ ?_
        refine AWp.seq ?_
        refine AWp.seq ?_
        refine AWp.regK [1, 4, 22] [] F17r6 [] (by kernel_rfl) (by rw [hC]; rfl) fun K hK => ?_
        simp (maxSteps := 2000000) [F17r6]
        refine hK _ ?_
        rw [← hbt]
        refine AWp.cond false (by simp [h]) (fun he => by cases he) (fun _ => ?_)
        refine AWp.skip ?_
        refine AWp.seq ?_
        refine AWp.seq ?_
        refine AWp.regK [1, 4, 47] [] F17r12 [] (by kernel_rfl) (by rw [hC]; rfl) fun K hK => ?_
        simp (maxSteps := 2000000) [F17r12]
        refine hK _ ?_
        refine AWp.cond false (by simp [h]) (fun he => by cases he) (fun _ => ?_)
        refine AWp.skip ?_
        refine AWp.seq ?_
        refine AWp.seq ?_
        refine AWp.regK [1, 4, 54] [] F17r14 [] (by kernel_rfl) (by rw [hC]; rfl) fun K hK => ?_
        simp (maxSteps := 2000000) [F17r14]
        refine hK _ ?_
        refine AWp.cond true (by simp [h]) (fun _ => ?_) (fun he => by cases he)
        refine AWp.regK [1, 4] [false, false, false, false, true] F17r15 [{ r := oB l1 }] (by kernel_rfl) (by rw [hC]; rfl) fun K hK => ?_
        simp (maxSteps := 2000000) [F17r15]
        (repeat first | refine ⟨by first | (show freeP _ _ _ = true; kernel_rfl) | omega | (intros; omega) | assumption, ?_⟩ | refine ⟨by intros; exact callWk rfl (by repeat (first | exact WkL.nil | refine WkL.cons (by first | exact Wk.refl _ | exact Wk.nil _ | exact Wk.own (WkR.refl _)) ?_)) hc1, ?_⟩); refine hK _ ?_
        refine AWp.seq ?_
        refine AWp.seq ?_
        refine AWp.regK [1, 4, 66] [] F17r16 [] (by kernel_rfl) (by rw [hC]; rfl) fun K hK => ?_
        simp (maxSteps := 2000000) [F17r16, h]
        (repeat refine ⟨by first | omega | (intros; omega) | assumption, ?_⟩); refine hK _ ?_
        refine AWp.cond false (by simp) (fun he => by cases he) (fun _ => ?_)
        refine AWp.skip ?_
        refine AWp.seq ?_
        refine AWp.regK [2, 3] [false, false, false, false, true, true] F17r18 [{ r := .tup [sval ws, ival we] }] (by kernel_rfl) (by rw [hC]; rfl) fun K hK => ?_
        simp (maxSteps := 2000000) [F17r18]
        (repeat first | refine ⟨by first | (show freeP _ _ _ = true; kernel_rfl) | omega | (intros; omega) | assumption, ?_⟩ | refine ⟨by intros; exact callWk rfl (by repeat (first | exact WkL.nil | refine WkL.cons (by first | exact Wk.refl _ | exact Wk.nil _ | exact Wk.own (WkR.refl _)) ?_)) hw, ?_⟩); refine hK _ ?_
        repeat refine AWp.seq ?_
        refine AWp.ret ⟨.inr rfl, _, by simp [Tryz.results17] <;> rfl, ?_⟩
        exact .clos (by simp) rfl
      · have hb1 : (txtE c.rel).length ≤ 2 * c.rel.size + 2 := txtE_len _
        have hc1 := StrR_ok l0 c.rel (by omega) (by omega)
        obtain ⟨l1, hl1⟩ : ∃ l, l = l0 ++ txtE c.rel := ⟨_, rfl⟩
        rw [← hl1] at hc1
        have hn1 : l1.length ≤ l0.length + 2 * c.rel.size + 2 ∧ 0 < l1.length := by rw [hl1, List.length_append]; omega
        have hb2 : (flagE c.comes).length ≤ 1 := by rw [flagE_len]; omega
        have hc2 := FlagR_ok l1 c.comes (by omega)
        obtain ⟨l2, hl2⟩ : ∃ l, l = l1 ++ flagE c.comes := ⟨_, rfl⟩
        rw [← hl2] at hc2
        have hn2 : l2.length ≤ l1.length + 1 ∧ 0 < l2.length := by rw [hl2, List.length_append]; omega
        have hb3 : (txtE c.text).length ≤ 2 * c.text.size + 2 := txtE_len _
        have hc3 := StrR_ok l2 c.text (by omega) (by omega)
        obtain ⟨l3, hl3⟩ : ∃ l, l = l2 ++ txtE c.text := ⟨_, rfl⟩
        rw [← hl3] at hc3
        have hn3 : l3.length ≤ l2.length + 2 * c.text.size + 2 ∧ 0 < l3.length := by rw [hl3, List.length_append]; omega
        have hbl : l3 = bytesC c := by
          rw [hl3, hl2, hl1, hl0]; unfold bytesC; rw [if_neg (show ¬ c.kind = 1 by omega), if_neg (show ¬ c.kind = 2 by omega), if_pos (show c.kind = 4 ∨ c.kind = 5 by omega)]; simp
        rw [← hbl]
        have hw := wholeR_ok l3 (by omega)
        obtain ⟨ws, we, hwe⟩ := wholeA_tup l3
        rw [hwe] at hw ⊢
        refine Con.of_code Tryz.func17 (by kernel_rfl) rfl (by simp [Tryz.ntmps17]) fun C hC hM => ?_
        refine AWp.seq ?_
        refine AWp.regK [1] [false, true, true] F17r0 [] (by kernel_rfl) (by rw [hC]; rfl) fun K hK => ?_
        simp (maxSteps := 2000000) [F17r0]
        refine hK _ ?_
        refine AWp.seq ?_
        refine AWp.seq ?_
        refine AWp.regK [1, 13] [] F17r1 [] (by kernel_rfl) (by rw [hC]; rfl) fun K hK => ?_
        simp (maxSteps := 2000000) [F17r1]
        (repeat refine ⟨by first | omega | (intros; omega) | assumption, ?_⟩); refine hK _ ?_
        refine AWp.cond false (by simp; omega) (fun he => by cases he) (fun _ => ?_)
        refine AWp.skip ?_
        refine AWp.seq ?_
        refine AWp.seq ?_
        refine AWp.regK [1, 16] [] F17r3 [{ r := bval true }] (by kernel_rfl) (by rw [hC]; rfl) fun K hK => ?_
        simp (maxSteps := 2000000) [F17r3]
        (repeat first | refine ⟨by first | (show freeP _ _ _ = true; kernel_rfl) | omega | (intros; omega) | assumption, ?_⟩ | refine ⟨by intros; exact callOK rfl hf, ?_⟩); refine hK _ ?_
        refine AWp.cond false (by simp) (fun he => by cases he) (fun _ => ?_)
        refine AWp.skip ?_
        refine AWp.seq ?_
        refine AWp.regK [1, 4] [false, false, false, true] F17r5 [] (by kernel_rfl) (by rw [hC]; rfl) fun K hK => ?_
        simp (maxSteps := 2000000) [F17r5]
        (repeat refine ⟨by first | omega | (intros; omega) | assumption, ?_⟩); refine hK _ ?_
        refine AWp.seq ?_
        refine AWp.seq ?_
        refine AWp.regK [1, 4, 22] [] F17r6 [] (by kernel_rfl) (by rw [hC]; rfl) fun K hK => ?_
        simp (maxSteps := 2000000) [F17r6]
        refine hK _ ?_
        rw [← hbt]
        refine AWp.cond false (by simp [h]) (fun he => by cases he) (fun _ => ?_)
        refine AWp.skip ?_
        refine AWp.seq ?_
        refine AWp.seq ?_
        refine AWp.regK [1, 4, 47] [] F17r12 [] (by kernel_rfl) (by rw [hC]; rfl) fun K hK => ?_
        simp (maxSteps := 2000000) [F17r12]
        refine hK _ ?_
        refine AWp.cond false (by simp [h]) (fun he => by cases he) (fun _ => ?_)
        refine AWp.skip ?_
        refine AWp.seq ?_
        refine AWp.seq ?_
        refine AWp.regK [1, 4, 54] [] F17r14 [] (by kernel_rfl) (by rw [hC]; rfl) fun K hK => ?_
        simp (maxSteps := 2000000) [F17r14]
        refine hK _ ?_
        refine AWp.cond true (by simp [h]) (fun _ => ?_) (fun he => by cases he)
        refine AWp.regK [1, 4] [false, false, false, false, true] F17r15 [{ r := oB l1 }] (by kernel_rfl) (by rw [hC]; rfl) fun K hK => ?_
        simp (maxSteps := 2000000) [F17r15]
        (repeat first | refine ⟨by first | (show freeP _ _ _ = true; kernel_rfl) | omega | (intros; omega) | assumption, ?_⟩ | refine ⟨by intros; exact callWk rfl (by repeat (first | exact WkL.nil | refine WkL.cons (by first | exact Wk.refl _ | exact Wk.nil _ | exact Wk.own (WkR.refl _)) ?_)) hc1, ?_⟩); refine hK _ ?_
        refine AWp.seq ?_
        refine AWp.seq ?_
        refine AWp.regK [1, 4, 66] [] F17r16 [] (by kernel_rfl) (by rw [hC]; rfl) fun K hK => ?_
        simp (maxSteps := 2000000) [F17r16, h]
        (repeat refine ⟨by first | omega | (intros; omega) | assumption, ?_⟩); refine hK _ ?_
        refine AWp.cond true (by simp) (fun _ => ?_) (fun he => by cases he)
        refine AWp.regKL ops_mixed [[], [], [1], [0, 1, 2], [], [4], [0, 1, 2, 3, 4, 5], [0, 1, 2, 3, 4, 5, 6]] [4] [false, false, false, false, false, false, false, true] F17r17 [{ r := oB l2 }, { r := oB l3 }] (by kernel_rfl) (by rw [hC]; rfl) (by kernel_rfl) (by kernel_rfl) fun K hK => ?_
        simp (maxSteps := 2000000) [F17r17]
        (repeat first | refine ⟨by first | (show freeP _ _ _ = true; kernel_rfl) | omega | (intros; omega) | assumption, ?_⟩ | refine ⟨by intros; exact callWk rfl (by repeat (first | exact WkL.nil | refine WkL.cons (by first | exact Wk.refl _ | exact Wk.nil _ | exact Wk.own (WkR.refl _)) ?_)) hc2, ?_⟩ | refine ⟨by intros; exact callWk rfl (by repeat (first | exact WkL.nil | refine WkL.cons (by first | exact Wk.refl _ | exact Wk.nil _ | exact Wk.own (WkR.refl _)) ?_)) hc3, ?_⟩); refine hK _ ?_
        refine AWp.seq ?_
        refine AWp.regK [2, 3] [false, false, false, false, true, true] F17r18 [{ r := .tup [sval ws, ival we] }] (by kernel_rfl) (by rw [hC]; rfl) fun K hK => ?_
        simp (maxSteps := 2000000) [F17r18]
        (repeat first | refine ⟨by first | (show freeP _ _ _ = true; kernel_rfl) | omega | (intros; omega) | assumption, ?_⟩ | refine ⟨by intros; exact callWk rfl (by repeat (first | exact WkL.nil | refine WkL.cons (by first | exact Wk.refl _ | exact Wk.nil _ | exact Wk.own (WkR.refl _)) ?_)) hw, ?_⟩); refine hK _ ?_
        repeat refine AWp.seq ?_
        refine AWp.ret ⟨.inr rfl, _, by simp [Tryz.results17] <;> rfl, ?_⟩
        exact .clos (by simp) rfl
      · have hb1 : (txtE c.rel).length ≤ 2 * c.rel.size + 2 := txtE_len _
        have hc1 := StrR_ok l0 c.rel (by omega) (by omega)
        obtain ⟨l1, hl1⟩ : ∃ l, l = l0 ++ txtE c.rel := ⟨_, rfl⟩
        rw [← hl1] at hc1
        have hn1 : l1.length ≤ l0.length + 2 * c.rel.size + 2 ∧ 0 < l1.length := by rw [hl1, List.length_append]; omega
        have hb2 : (flagE c.comes).length ≤ 1 := by rw [flagE_len]; omega
        have hc2 := FlagR_ok l1 c.comes (by omega)
        obtain ⟨l2, hl2⟩ : ∃ l, l = l1 ++ flagE c.comes := ⟨_, rfl⟩
        rw [← hl2] at hc2
        have hn2 : l2.length ≤ l1.length + 1 ∧ 0 < l2.length := by rw [hl2, List.length_append]; omega
        have hb3 : (txtE c.text).length ≤ 2 * c.text.size + 2 := txtE_len _
        have hc3 := StrR_ok l2 c.text (by omega) (by omega)
        obtain ⟨l3, hl3⟩ : ∃ l, l = l2 ++ txtE c.text := ⟨_, rfl⟩
        rw [← hl3] at hc3
        have hn3 : l3.length ≤ l2.length + 2 * c.text.size + 2 ∧ 0 < l3.length := by rw [hl3, List.length_append]; omega
        have hbl : l3 = bytesC c := by
          rw [hl3, hl2, hl1, hl0]; unfold bytesC; rw [if_neg (show ¬ c.kind = 1 by omega), if_neg (show ¬ c.kind = 2 by omega), if_pos (show c.kind = 4 ∨ c.kind = 5 by omega)]; simp
        rw [← hbl]
        have hw := wholeR_ok l3 (by omega)
        obtain ⟨ws, we, hwe⟩ := wholeA_tup l3
        rw [hwe] at hw ⊢
        refine Con.of_code Tryz.func17 (by kernel_rfl) rfl (by simp [Tryz.ntmps17]) fun C hC hM => ?_
        refine AWp.seq ?_
        refine AWp.regK [1] [false, true, true] F17r0 [] (by kernel_rfl) (by rw [hC]; rfl) fun K hK => ?_
        simp (maxSteps := 2000000) [F17r0]
        refine hK _ ?_
        refine AWp.seq ?_
        refine AWp.seq ?_
        refine AWp.regK [1, 13] [] F17r1 [] (by kernel_rfl) (by rw [hC]; rfl) fun K hK => ?_
        simp (maxSteps := 2000000) [F17r1]
        (repeat refine ⟨by first | omega | (intros; omega) | assumption, ?_⟩); refine hK _ ?_
        refine AWp.cond false (by simp; omega) (fun he => by cases he) (fun _ => ?_)
        refine AWp.skip ?_
        refine AWp.seq ?_
        refine AWp.seq ?_
        refine AWp.regK [1, 16] [] F17r3 [{ r := bval true }] (by kernel_rfl) (by rw [hC]; rfl) fun K hK => ?_
        simp (maxSteps := 2000000) [F17r3]
        (repeat first | refine ⟨by first | (show freeP _ _ _ = true; kernel_rfl) | omega | (intros; omega) | assumption, ?_⟩ | refine ⟨by intros; exact callOK rfl hf, ?_⟩); refine hK _ ?_
        refine AWp.cond false (by simp) (fun he => by cases he) (fun _ => ?_)
        refine AWp.skip ?_
        refine AWp.seq ?_
        refine AWp.regK [1, 4] [false, false, false, true] F17r5 [] (by kernel_rfl) (by rw [hC]; rfl) fun K hK => ?_
        simp (maxSteps := 2000000) [F17r5]
        (repeat refine ⟨by first | omega | (intros; omega) | assumption, ?_⟩); refine hK _ ?_
        refine AWp.seq ?_
        refine AWp.seq ?_
        refine AWp.regK [1, 4, 22] [] F17r6 [] (by kernel_rfl) (by rw [hC]; rfl) fun K hK => ?_
        simp (maxSteps := 2000000) [F17r6]
        refine hK _ ?_
        rw [← hbt]
        refine AWp.cond false (by simp [h]) (fun he => by cases he) (fun _ => ?_)
        refine AWp.skip ?_
        refine AWp.seq ?_
        refine AWp.seq ?_
        refine AWp.regK [1, 4, 47] [] F17r12 [] (by kernel_rfl) (by rw [hC]; rfl) fun K hK => ?_
        simp (maxSteps := 2000000) [F17r12]
        refine hK _ ?_
        refine AWp.cond false (by simp [h]) (fun he => by cases he) (fun _ => ?_)
        refine AWp.skip ?_
        refine AWp.seq ?_
        refine AWp.seq ?_
        refine AWp.regK [1, 4, 54] [] F17r14 [] (by kernel_rfl) (by rw [hC]; rfl) fun K hK => ?_
        simp (maxSteps := 2000000) [F17r14]
        refine hK _ ?_
        refine AWp.cond true (by simp [h]) (fun _ => ?_) (fun he => by cases he)
        refine AWp.regK [1, 4] [false, false, false, false, true] F17r15 [{ r := oB l1 }] (by kernel_rfl) (by rw [hC]; rfl) fun K hK => ?_
        simp (maxSteps := 2000000) [F17r15]
        (repeat first | refine ⟨by first | (show freeP _ _ _ = true; kernel_rfl) | omega | (intros; omega) | assumption, ?_⟩ | refine ⟨by intros; exact callWk rfl (by repeat (first | exact WkL.nil | refine WkL.cons (by first | exact Wk.refl _ | exact Wk.nil _ | exact Wk.own (WkR.refl _)) ?_)) hc1, ?_⟩); refine hK _ ?_
        refine AWp.seq ?_
        refine AWp.seq ?_
        refine AWp.regK [1, 4, 66] [] F17r16 [] (by kernel_rfl) (by rw [hC]; rfl) fun K hK => ?_
        simp (maxSteps := 2000000) [F17r16, h]
        (repeat refine ⟨by first | omega | (intros; omega) | assumption, ?_⟩); refine hK _ ?_
        refine AWp.cond true (by simp) (fun _ => ?_) (fun he => by cases he)
        refine AWp.regKL ops_mixed [[], [], [1], [0, 1, 2], [], [4], [0, 1, 2, 3, 4, 5], [0, 1, 2, 3, 4, 5, 6]] [4] [false, false, false, false, false, false, false, true] F17r17 [{ r := oB l2 }, { r := oB l3 }] (by kernel_rfl) (by rw [hC]; rfl) (by kernel_rfl) (by kernel_rfl) fun K hK => ?_
        simp (maxSteps := 2000000) [F17r17]
        (repeat first | refine ⟨by first | (show freeP _ _ _ = true; kernel_rfl) | omega | (intros; omega) | assumption, ?_⟩ | refine ⟨by intros; exact callWk rfl (by repeat (first | exact WkL.nil | refine WkL.cons (by first | exact Wk.refl _ | exact Wk.nil _ | exact Wk.own (WkR.refl _)) ?_)) hc2, ?_⟩ | refine ⟨by intros; exact callWk rfl (by repeat (first | exact WkL.nil | refine WkL.cons (by first | exact Wk.refl _ | exact Wk.nil _ | exact Wk.own (WkR.refl _)) ?_)) hc3, ?_⟩); refine hK _ ?_
        refine AWp.seq ?_
        refine AWp.regK [2, 3] [false, false, false, false, true, true] F17r18 [{ r := .tup [sval ws, ival we] }] (by kernel_rfl) (by rw [hC]; rfl) fun K hK => ?_
        simp (maxSteps := 2000000) [F17r18]
        (repeat first | refine ⟨by first | (show freeP _ _ _ = true; kernel_rfl) | omega | (intros; omega) | assumption, ?_⟩ | refine ⟨by intros; exact callWk rfl (by repeat (first | exact WkL.nil | refine WkL.cons (by first | exact Wk.refl _ | exact Wk.nil _ | exact Wk.own (WkR.refl _)) ?_)) hw, ?_⟩); refine hK _ ?_
        repeat refine AWp.seq ?_
        refine AWp.ret ⟨.inr rfl, _, by simp [Tryz.results17] <;> rfl, ?_⟩
        exact .clos (by simp) rfl
      · have hb1 : (txtE c.rel).length ≤ 2 * c.rel.size + 2 := txtE_len _
        have hc1 := StrR_ok l0 c.rel (by omega) (by omega)
        obtain ⟨l1, hl1⟩ : ∃ l, l = l0 ++ txtE c.rel := ⟨_, rfl⟩
        rw [← hl1] at hc1
        have hn1 : l1.length ≤ l0.length + 2 * c.rel.size + 2 ∧ 0 < l1.length := by rw [hl1, List.length_append]; omega
        have hbl : l1 = bytesC c := by
          rw [hl1, hl0]; unfold bytesC; rw [if_neg (show ¬ c.kind = 1 by omega), if_neg (show ¬ c.kind = 2 by omega), if_neg (show ¬ (c.kind = 4 ∨ c.kind = 5) by omega)]; simp
        rw [← hbl]
        have hw := wholeR_ok l1 (by omega)
        obtain ⟨ws, we, hwe⟩ := wholeA_tup l1
        rw [hwe] at hw ⊢
        refine Con.of_code Tryz.func17 (by kernel_rfl) rfl (by simp [Tryz.ntmps17]) fun C hC hM => ?_
        refine AWp.seq ?_
        refine AWp.regK [1] [false, true, true] F17r0 [] (by kernel_rfl) (by rw [hC]; rfl) fun K hK => ?_
        simp (maxSteps := 2000000) [F17r0]
        refine hK _ ?_
        refine AWp.seq ?_
        refine AWp.seq ?_
        refine AWp.regK [1, 13] [] F17r1 [] (by kernel_rfl) (by rw [hC]; rfl) fun K hK => ?_
        simp (maxSteps := 2000000) [F17r1]
        (repeat refine ⟨by first | omega | (intros; omega) | assumption, ?_⟩); refine hK _ ?_
        refine AWp.cond false (by simp; omega) (fun he => by cases he) (fun _ => ?_)
        refine AWp.skip ?_
        refine AWp.seq ?_
        refine AWp.seq ?_
        refine AWp.regK [1, 16] [] F17r3 [{ r := bval true }] (by kernel_rfl) (by rw [hC]; rfl) fun K hK => ?_
        simp (maxSteps := 2000000) [F17r3]
        (repeat first | refine ⟨by first | (show freeP _ _ _ = true; kernel_rfl) | omega | (intros; omega) | assumption, ?_⟩ | refine ⟨by intros; exact callOK rfl hf, ?_⟩); refine hK _ ?_
        refine AWp.cond false (by simp) (fun he => by cases he) (fun _ => ?_)
        refine AWp.skip ?_
        refine AWp.seq ?_
        refine AWp.regK [1, 4] [false, false, false, true] F17r5 [] (by kernel_rfl) (by rw [hC]; rfl) fun K hK => ?_
        simp (maxSteps := 2000000) [F17r5]
        (repeat refine ⟨by first | omega | (intros; omega) | assumption, ?_⟩); refine hK _ ?_
        refine AWp.seq ?_
        refine AWp.seq ?_
        refine AWp.regK [1, 4, 22] [] F17r6 [] (by kernel_rfl) (by rw [hC]; rfl) fun K hK => ?_
        simp (maxSteps := 2000000) [F17r6]
        refine hK _ ?_
        rw [← hbt]
        refine AWp.cond false (by simp [h]) (fun he => by cases he) (fun _ => ?_)
        refine AWp.skip ?_
        refine AWp.seq ?_
        refine AWp.seq ?_
        refine AWp.regK [1, 4, 47] [] F17r12 [] (by kernel_rfl) (by rw [hC]; rfl) fun K hK => ?_
        simp (maxSteps := 2000000) [F17r12]
        refine hK _ ?_
        refine AWp.cond false (by simp [h]) (fun he => by cases he) (fun _ => ?_)
        refine AWp.skip ?_
        refine AWp.seq ?_
        refine AWp.seq ?_
        refine AWp.regK [1, 4, 54] [] F17r14 [] (by kernel_rfl) (by rw [hC]; rfl) fun K hK => ?_
        simp (maxSteps := 2000000) [F17r14]
        refine hK _ ?_
        refine AWp.cond true (by simp [h]) (fun _ => ?_) (fun he => by cases he)
        refine AWp.regK [1, 4] [false, false, false, false, true] F17r15 [{ r := oB l1 }] (by kernel_rfl) (by rw [hC]; rfl) fun K hK => ?_
        simp (maxSteps := 2000000) [F17r15]
        (repeat first | refine ⟨by first | (show freeP _ _ _ = true; kernel_rfl) | omega | (intros; omega) | assumption, ?_⟩ | refine ⟨by intros; exact callWk rfl (by repeat (first | exact WkL.nil | refine WkL.cons (by first | exact Wk.refl _ | exact Wk.nil _ | exact Wk.own (WkR.refl _)) ?_)) hc1, ?_⟩); refine hK _ ?_
        refine AWp.seq ?_
        refine AWp.seq ?_
        refine AWp.regK [1, 4, 66] [] F17r16 [] (by kernel_rfl) (by rw [hC]; rfl) fun K hK => ?_
        simp (maxSteps := 2000000) [F17r16, h]
        (repeat refine ⟨by first | omega | (intros; omega) | assumption, ?_⟩); refine hK _ ?_
        refine AWp.cond false (by simp) (fun he => by cases he) (fun _ => ?_)
        refine AWp.skip ?_
        refine AWp.seq ?_
        refine AWp.regK [2, 3] [false, false, false, false, true, true] F17r18 [{ r := .tup [sval ws, ival we] }] (by kernel_rfl) (by rw [hC]; rfl) fun K hK => ?_
        simp (maxSteps := 2000000) [F17r18]
        (repeat first | refine ⟨by first | (show freeP _ _ _ = true; kernel_rfl) | omega | (intros; omega) | assumption, ?_⟩ | refine ⟨by intros; exact callWk rfl (by repeat (first | exact WkL.nil | refine WkL.cons (by first | exact Wk.refl _ | exact Wk.nil _ | exact Wk.own (WkR.refl _)) ?_)) hw, ?_⟩); refine hK _ ?_
        repeat refine AWp.seq ?_
        refine AWp.ret ⟨.inr rfl, _, by simp [Tryz.results17] <;> rfl, ?_⟩
        exact .clos (by simp) rfl
      · have hb1 : (txtE c.rel).length ≤ 2 * c.rel.size + 2 := txtE_len _
        have hc1 := StrR_ok l0 c.rel (by omega) (by omega)
        obtain ⟨l1, hl1⟩ : ∃ l, l = l0 ++ txtE c.rel := ⟨_, rfl⟩
        rw [← hl1] at hc1
        have hn1 : l1.length ≤ l0.length + 2 * c.rel.size + 2 ∧ 0 < l1.length := by rw [hl1, List.length_append]; omega
        have hbl : l1 = bytesC c := by
          rw [hl1, hl0]; unfold bytesC; rw [if_neg (show ¬ c.kind = 1 by omega), if_neg (show ¬ c.kind = 2 by omega), if_neg (show ¬ (c.kind = 4 ∨ c.kind = 5) by omega)]; simp
        rw [← hbl]
        have hw := wholeR_ok l1 (by omega)
        obtain ⟨ws, we, hwe⟩ := wholeA_tup l1
        rw [hwe] at hw ⊢
        refine Con.of_code Tryz.func17 (by kernel_rfl) rfl (by simp [Tryz.ntmps17]) fun C hC hM => ?_
        refine AWp.seq ?_
        refine AWp.regK [1] [false, true, true] F17r0 [] (by kernel_rfl) (by rw [hC]; rfl) fun K hK => ?_
        simp (maxSteps := 2000000) [F17r0]
        refine hK _ ?_
        refine AWp.seq ?_
        refine AWp.seq ?_
        refine AWp.regK [1, 13] [] F17r1 [] (by kernel_rfl) (by rw [hC]; rfl) fun K hK => ?_
        simp (maxSteps := 2000000) [F17r1]
        (repeat refine ⟨by first | omega | (intros; omega) | assumption, ?_⟩); refine hK _ ?_
        refine AWp.cond false (by simp; omega) (fun he => by cases he) (fun _ => ?_)
        refine AWp.skip ?_
        refine AWp.seq ?_
        refine AWp.seq ?_
        refine AWp.regK [1, 16] [] F17r3 [{ r := bval true }] (by kernel_rfl) (by rw [hC]; rfl) fun K hK => ?_
        simp (maxSteps := 2000000) [F17r3]
        (repeat first | refine ⟨by first | (show freeP _ _ _ = true; kernel_rfl) | omega | (intros; omega) | assumption, ?_⟩ | refine ⟨by intros; exact callOK rfl hf, ?_⟩); refine hK _ ?_
        refine AWp.cond false (by simp) (fun he => by cases he) (fun _ => ?_)
        refine AWp.skip ?_
        refine AWp.seq ?_
        refine AWp.regK [1, 4] [false, false, false, true] F17r5 [] (by kernel_rfl) (by rw [hC]; rfl) fun K hK => ?_
        simp (maxSteps := 2000000) [F17r5]
        (repeat refine ⟨by first | omega | (intros; omega) | assumption, ?_⟩); refine hK _ ?_
        refine AWp.seq ?_
        refine AWp.seq ?_
        refine AWp.regK [1, 4, 22] [] F17r6 [] (by kernel_rfl) (by rw [hC]; rfl) fun K hK => ?_
        simp (maxSteps := 2000000) [F17r6]
        refine hK _ ?_
        rw [← hbt]
        refine AWp.cond false (by simp [h]) (fun he => by cases he) (fun _ => ?_)
        refine AWp.skip ?_
        refine AWp.seq ?_
        refine AWp.seq ?_
        refine AWp.regK [1, 4, 47] [] F17r12 [] (by kernel_rfl) (by rw [hC]; rfl) fun K hK => ?_
        simp (maxSteps := 2000000) [F17r12]
        refine hK _ ?_
        refine AWp.cond false (by simp [h]) (fun he => by cases he) (fun _ => ?_)
        refine AWp.skip ?_
        refine AWp.seq ?_
        refine AWp.seq ?_
        refine AWp.regK [1, 4, 54] [] F17r14 [] (by kernel_rfl) (by rw [hC]; rfl) fun K hK => ?_
        simp (maxSteps := 2000000) [F17r14]
        refine hK _ ?_
        refine AWp.cond true (by simp [h]) (fun _ => ?_) (fun he => by cases he)
        refine AWp.regK [1, 4] [false, false, false, false, true] F17r15 [{ r := oB l1 }] (by kernel_rfl) (by rw [hC]; rfl) fun K hK => ?_
        simp (maxSteps := 2000000) [F17r15]
        (repeat first | refine ⟨by first | (show freeP _ _ _ = true; kernel_rfl) | omega | (intros; omega) | assumption, ?_⟩ | refine ⟨by intros; exact callWk rfl (by repeat (first | exact WkL.nil | refine WkL.cons (by first | exact Wk.refl _ | exact Wk.nil _ | exact Wk.own (WkR.refl _)) ?_)) hc1, ?_⟩); refine hK _ ?_
        refine AWp.seq ?_
        refine AWp.seq ?_
        refine AWp.regK [1, 4, 66] [] F17r16 [] (by kernel_rfl) (by rw [hC]; rfl) fun K hK => ?_
        simp (maxSteps := 2000000) [F17r16, h]
        (repeat refine ⟨by first | omega | (intros; omega) | assumption, ?_⟩); refine hK _ ?_
        refine AWp.cond false (by simp) (fun he => by cases he) (fun _ => ?_)
        refine AWp.skip ?_
        refine AWp.seq ?_
        refine AWp.regK [2, 3] [false, false, false, false, true, true] F17r18 [{ r := .tup [sval ws, ival we] }] (by kernel_rfl) (by rw [hC]; rfl) fun K hK => ?_
        simp (maxSteps := 2000000) [F17r18]
        (repeat first | refine ⟨by first | (show freeP _ _ _ = true; kernel_rfl) | omega | (intros; omega) | assumption, ?_⟩ | refine ⟨by intros; exact callWk rfl (by repeat (first | exact WkL.nil | refine WkL.cons (by first | exact Wk.refl _ | exact Wk.nil _ | exact Wk.own (WkR.refl _)) ?_)) hw, ?_⟩); refine hK _ ?_
        repeat refine AWp.seq ?_
        refine AWp.ret ⟨.inr rfl, _, by simp [Tryz.results17] <;> rfl, ?_⟩
        exact .clos (by simp) rfl
end Go.Se
