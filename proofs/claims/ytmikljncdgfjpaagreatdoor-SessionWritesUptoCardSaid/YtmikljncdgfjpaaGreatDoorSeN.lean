/- The bytes of commands and replies: the program's and the document's. -/
import Derived.Test.YtmikljncdgfjpaaGreatDoorSeL
import Derived.Test.YtmikljncdgfjpaaGreatDoorSeM
set_option linter.unusedSimpArgs false
set_option linter.unusedVariables false
open Go Go.Aw Go.Proofs
namespace Go.Se
set_option maxRecDepth 20000
set_option maxHeartbeats 2000000
-- function 16: corollary/session.Encode
def F16r0 : List ROp := [⟨some 1, .box 25 (.tmp 0), [], none⟩,
  ⟨some 2, .copy true (.const (.string { data := #[] })), [], none⟩,
  ⟨some 3, .copy true (.const (.int .i64 0)), [], none⟩]
def F16r1 : List ROp := [⟨some 6, .fad 0 (.tmp 1), [], none⟩,
  ⟨some 7, .load 1 false false (.tmp 6), [], none⟩,
  ⟨some 8, .bin .lss (.tmp 7) (.const (.int .u8 1)), [], none⟩,
  ⟨some 9, .copy false (.tmp 8), [], none⟩,
  ⟨some 10, .fad 0 (.tmp 1), [], some (9, false)⟩,
  ⟨some 11, .load 1 false false (.tmp 10), [], some (9, false)⟩,
  ⟨some 12, .bin .gtr (.tmp 11) (.const (.int .u8 7)), [], some (9, false)⟩,
  ⟨some 13, .pick (.tmp 9) (.const (.bool true)) (.tmp 12), [], none⟩,
  ⟨some 5, .copy true (.tmp 13), [], none⟩]
def F16r2 : List ROp := [⟨some 2, .copy true (.const (.string { data := #[] })), [], none⟩,
  ⟨some 3, .copy true (.const (.int .i64 1)), [], none⟩]
def F16r3 : List ROp := [⟨some 15, .load 7 true false (.tmp 1), [], none⟩,
  ⟨some 16, .call (.func 51) [.tmp 15], [], none⟩,
  ⟨some 17, .un .not (.tmp 16), [], none⟩,
  ⟨some 14, .copy true (.tmp 17), [], none⟩]
def F16r4 : List ROp := [⟨some 2, .copy true (.const (.string { data := #[] })), [], none⟩,
  ⟨some 3, .copy true (.const (.int .i64 4)), [], none⟩]
def F16r5 : List ROp := [⟨some 18, .fad 0 (.tmp 1), [], none⟩,
  ⟨some 19, .load 1 false false (.tmp 18), [], none⟩,
  ⟨some 20, .bslice 5 1 [Value.int .u8 0] 1 [(0, .tmp 19)], [], none⟩,
  ⟨some 4, .copy true (.tmp 20), [], none⟩]
def F16r6 : List ROp := [⟨some 21, .fad 0 (.tmp 1), [], none⟩,
  ⟨some 22, .load 1 false false (.tmp 21), [], none⟩]
def F16r7 : List ROp := [⟨some 23, .copy false (.tmp 4), [], none⟩,
  ⟨some 24, .fad 4 (.tmp 1), [], none⟩,
  ⟨some 25, .load 1 false false (.tmp 24), [], none⟩,
  ⟨some 26, .call (.func 57) [.tmp 23, .tmp 25], [], none⟩,
  ⟨some 4, .copy true (.tmp 26), [], none⟩]
def F16r8 : List ROp := [⟨some 28, .bin .eql (.tmp 22) (.const (.int .u8 1)), [], none⟩,
  ⟨some 27, .copy true (.tmp 28), [], none⟩]
def F16r9 : List ROp := [⟨some 29, .copy false (.tmp 4), [], none⟩,
  ⟨some 30, .fad 1 (.tmp 1), [], none⟩,
  ⟨some 31, .load 1 false false (.tmp 30), [1], none⟩,
  ⟨some 32, .call (.func 53) [.tmp 29, .tmp 31], [0, 2], none⟩,
  ⟨some 33, .fad 2 (.tmp 1), [], none⟩,
  ⟨some 34, .load 1 false false (.tmp 33), [4], none⟩,
  ⟨some 35, .call (.func 52) [.tmp 32, .tmp 34, .func 54], [3, 5, 3], none⟩,
  ⟨some 4, .copy true (.tmp 35), [6, 6, 0, 1, 2, 3, 4, 5, 6], none⟩]
def F16r10 : List ROp := [⟨some 37, .bin .eql (.tmp 22) (.const (.int .u8 2)), [], none⟩,
  ⟨some 36, .copy true (.tmp 37), [], none⟩]
def F16r11 : List ROp := [⟨some 38, .copy false (.tmp 4), [], none⟩,
  ⟨some 39, .fad 3 (.tmp 1), [], none⟩,
  ⟨some 40, .load 1 false false (.tmp 39), [], none⟩,
  ⟨some 41, .call (.func 55) [.tmp 38, .tmp 40, .func 56], [], none⟩,
  ⟨some 4, .copy true (.tmp 41), [], none⟩]
def F16r12 : List ROp := [⟨some 43, .bin .eql (.tmp 22) (.const (.int .u8 4)), [], none⟩,
  ⟨some 42, .copy true (.tmp 43), [], none⟩]
def F16r13 : List ROp := [⟨some 44, .bin .eql (.tmp 22) (.const (.int .u8 5)), [], none⟩,
  ⟨some 42, .copy true (.tmp 44), [], none⟩]
def F16r14 : List ROp := [⟨some 45, .copy false (.tmp 4), [], none⟩,
  ⟨some 46, .fad 4 (.tmp 1), [], none⟩,
  ⟨some 47, .load 1 false false (.tmp 46), [1], none⟩,
  ⟨some 48, .call (.func 57) [.tmp 45, .tmp 47], [0, 2], none⟩,
  ⟨some 49, .fad 5 (.tmp 1), [], none⟩,
  ⟨some 50, .load 1 false false (.tmp 49), [4], none⟩,
  ⟨some 51, .call (.func 58) [.tmp 48, .tmp 50], [3, 5, 3], none⟩,
  ⟨some 52, .fad 6 (.tmp 1), [], none⟩,
  ⟨some 53, .load 1 false false (.tmp 52), [7], none⟩,
  ⟨some 54, .call (.func 57) [.tmp 51, .tmp 53], [6, 8, 6], none⟩,
  ⟨some 4, .copy true (.tmp 54), [9, 9, 0, 1, 2, 3, 4, 5, 6, 7, 8, 9], none⟩]
def F16r15 : List ROp := [⟨some 55, .copy false (.tmp 4), [], none⟩,
  ⟨some 56, .call (.func 59) [.tmp 55], [], none⟩,
  ⟨some 57, .ext (.tmp 56) 0, [], none⟩,
  ⟨some 58, .ext (.tmp 56) 1, [], none⟩,
  ⟨some 2, .copy true (.tmp 57), [], none⟩,
  ⟨some 3, .copy true (.tmp 58), [], none⟩]
theorem IsB.of {l : List Int} (h : 0 < l.length) : IsB (rB l) l := .inr ⟨rfl, fun e => by rw [e] at h; simp at h⟩
theorem wholeA_tup (l : List Int) : ∃ (s : ByteArray) (e : Int), wholeA l = .tup [sval s, ival e] := by
  unfold wholeA; split
  · exact ⟨_, _, rfl⟩
  · exact ⟨_, _, rfl⟩
def cmdrng (c : CmdD) : Prop := crngs c.changes
def reprng (r : RepD) : Prop := 0 ≤ r.kind ∧ (-9223372036854775808 ≤ r.rule ∧ r.rule ≤ 9223372036854775807) ∧ (-9223372036854775808 ≤ r.never ∧ r.never ≤ 9223372036854775807) ∧ (-9223372036854775808 ≤ r.e ∧ r.e ≤ 9223372036854775807) ∧ crngs r.changes ∧ rrngs r.rows
theorem oneT (x : ByteArray) (hs : x.size ≤ 4194304) : Con Tryz.prog 54 [nilA, sval x] (oB (txtE x)) := by
  have := putText_ok (b := nilA) (pre := []) (.inl ⟨rfl, rfl⟩) x hs (by simp)
  simpa using this
theorem oneC (x : ChgD) (hr : crng x) (hv : csize x ≤ 4194304) : Con Tryz.prog 56 [nilA, chgX x] (oB (chE x)) := by
  have := putChange_ok (b := nilA) (pre := []) (.inl ⟨rfl, rfl⟩) x hr hv (by simp)
  simpa using this
theorem oneR (x : List ValD) (hr : rngs x) (hv : vsizes x ≤ 4194304) : Con Tryz.prog 69 [nilA, encRow x] (oB (rowE x)) := by
  have := putRow_ok (b := nilA) (pre := []) (.inl ⟨rfl, rfl⟩) x hr hv (by simp)
  simpa using this
theorem encode_P (c : CmdD) (hc : cmdsize c ≤ 4194304) (hr : cmdrng c) : Con Tryz.prog 16 [cmdX c] (encodeA c) := by
  have h0 : cmdsize c = tsizes c.texts + csizes c.changes + c.rel.size + c.text.size := rfl
  have hcr : crngs c.changes := hr
  have ht := tsizes_len c.texts
  have hcl := csizes_len c.changes
  have htl := txts_len c.texts
  have hchl := chs_len c.changes hcr (by omega)
  have hf := fits_P c hc
  unfold encodeA
  by_cases hk : c.kind < 1 ∨ 7 < c.kind
  · rw [if_pos hk]
    refine Con.of_code Tryz.func16 (by kernel_rfl) rfl (by simp [Tryz.ntmps16]) fun C hC hM => ?_
    refine AWp.seq ?_
    refine AWp.regK [1] [false, true, true] F16r0 [] (by kernel_rfl) (by rw [hC]; rfl) fun K hK => ?_
    simp (maxSteps := 2000000) [F16r0]
    refine hK _ ?_
    refine AWp.seq ?_
    refine AWp.block ?_
    refine AWp.seq ?_
    refine AWp.regK [1, 5] [false, false, false, false, false, false, false, false, true] F16r1 [] (by kernel_rfl) (by rw [hC]; rfl) fun K hK => ?_
    simp (maxSteps := 2000000) [F16r1]
    (repeat refine ⟨by first | omega | (intros; omega) | assumption, ?_⟩); refine hK _ ?_
    refine AWp.cond true (by simp; omega) (fun _ => ?_) (fun he => by cases he)
    refine AWp.seq ?_
    refine AWp.regK [2, 3] [true, true] F16r2 [] (by kernel_rfl) (by rw [hC]; rfl) fun K hK => ?_
    simp (maxSteps := 2000000) [F16r2]
    refine hK _ ?_
    repeat refine AWp.seq ?_
    refine AWp.ret ⟨.inr rfl, _, by simp [Tryz.results16] <;> rfl, ?_⟩
    exact .clos (by simp) rfl
  · rw [if_neg hk]
    by_cases hff : fitsC c = false
    · rw [if_pos hff]
      rw [hff] at hf
      refine Con.of_code Tryz.func16 (by kernel_rfl) rfl (by simp [Tryz.ntmps16]) fun C hC hM => ?_
      refine AWp.seq ?_
      refine AWp.regK [1] [false, true, true] F16r0 [] (by kernel_rfl) (by rw [hC]; rfl) fun K hK => ?_
      simp (maxSteps := 2000000) [F16r0]
      refine hK _ ?_
      refine AWp.seq ?_
      refine AWp.block ?_
      refine AWp.seq ?_
      refine AWp.regK [1, 5] [false, false, false, false, false, false, false, false, true] F16r1 [] (by kernel_rfl) (by rw [hC]; rfl) fun K hK => ?_
      simp (maxSteps := 2000000) [F16r1]
      (repeat refine ⟨by first | omega | (intros; omega) | assumption, ?_⟩); refine hK _ ?_
      refine AWp.cond false (by simp; omega) (fun he => by cases he) (fun _ => ?_)
      refine AWp.seq ?_
      refine AWp.regK [1, 14] [false, false, false, true] F16r3 [{ r := bval false }] (by kernel_rfl) (by rw [hC]; rfl) fun K hK => ?_
      simp (maxSteps := 2000000) [F16r3]
      (repeat first | refine ⟨by first | (show freeP _ _ _ = true; kernel_rfl) | omega | (intros; omega) | assumption, ?_⟩ | refine ⟨by intros; exact callOK rfl hf, ?_⟩); refine hK _ ?_
      refine AWp.cond true (by simp) (fun _ => ?_) (fun he => by cases he)
      refine AWp.seq ?_
      refine AWp.regK [2, 3] [true, true] F16r4 [] (by kernel_rfl) (by rw [hC]; rfl) fun K hK => ?_
      simp (maxSteps := 2000000) [F16r4]
      refine hK _ ?_
      repeat refine AWp.seq ?_
      refine AWp.ret ⟨.inr rfl, _, by simp [Tryz.results16] <;> rfl, ?_⟩
      exact .clos (by simp) rfl
    · rw [if_neg hff]
      have hft : fitsC c = true := by simpa using hff
      rw [hft] at hf
      obtain ⟨l0, hl0⟩ : ∃ l : List Int, l = [c.kind] := ⟨_, rfl⟩
      have hn0 : l0.length = 1 := by rw [hl0]; rfl
      have hbt : bt l0 = [[AV.val (Value.int .u8 c.kind)]] := by rw [hl0]; rfl
      by_cases h1 : c.kind = 1
      · have hb1 : (cntE c.limit).length ≤ 9 := cntE_len _
        have hc1 := Count_ok (IsB.of (l := l0) (by omega)) c.limit (by omega)
        obtain ⟨l1, hl1⟩ : ∃ l, l = l0 ++ cntE c.limit := ⟨_, rfl⟩
        rw [← hl1] at hc1
        have hn1 : l1.length ≤ l0.length + 9 ∧ 0 < l1.length := by rw [hl1, List.length_append]; omega
        have hb2 : ((cntE c.texts.length ++ manyE txtE c.texts)).length ≤ 9 + 2 * tsizes c.texts := by have := cntE_len c.texts.length; have := txts_len c.texts; rw [List.length_append]; omega
        have hc2 := putS_ok (IsB.of (l := l1) (by omega)) c.texts 54 txtE (by omega) (by omega) (fun x hx => oneT x (by have := tsize_mem hx; omega))
        obtain ⟨l2, hl2⟩ : ∃ l, l = l1 ++ (cntE c.texts.length ++ manyE txtE c.texts) := ⟨_, rfl⟩
        rw [← hl2] at hc2
        have hn2 : l2.length ≤ l1.length + 9 + 2 * tsizes c.texts ∧ 0 < l2.length := by rw [hl2, List.length_append]; omega
        have hbl : l2 = bytesC c := by
          rw [hl2, hl1, hl0]; unfold bytesC; rw [if_pos h1]; simp
        rw [← hbl]
        have hw := wholeP_ok l2 (by omega)
        obtain ⟨ws, we, hwe⟩ := wholeA_tup l2
        rw [hwe] at hw ⊢
        refine Con.of_code Tryz.func16 (by kernel_rfl) rfl (by simp [Tryz.ntmps16]) fun C hC hM => ?_
        refine AWp.seq ?_
        refine AWp.regK [1] [false, true, true] F16r0 [] (by kernel_rfl) (by rw [hC]; rfl) fun K hK => ?_
        simp (maxSteps := 2000000) [F16r0]
        refine hK _ ?_
        refine AWp.seq ?_
        refine AWp.block ?_
        refine AWp.seq ?_
        refine AWp.regK [1, 5] [false, false, false, false, false, false, false, false, true] F16r1 [] (by kernel_rfl) (by rw [hC]; rfl) fun K hK => ?_
        simp (maxSteps := 2000000) [F16r1]
        (repeat refine ⟨by first | omega | (intros; omega) | assumption, ?_⟩); refine hK _ ?_
        refine AWp.cond false (by simp; omega) (fun he => by cases he) (fun _ => ?_)
        refine AWp.seq ?_
        refine AWp.regK [1, 14] [false, false, false, true] F16r3 [{ r := bval true }] (by kernel_rfl) (by rw [hC]; rfl) fun K hK => ?_
        simp (maxSteps := 2000000) [F16r3]
        (repeat first | refine ⟨by first | (show freeP _ _ _ = true; kernel_rfl) | omega | (intros; omega) | assumption, ?_⟩ | refine ⟨by intros; exact callOK rfl hf, ?_⟩); refine hK _ ?_
        refine AWp.cond false (by simp) (fun he => by cases he) (fun _ => ?_)
        refine AWp.skip ?_
        refine AWp.seq ?_
        refine AWp.regK [1, 4] [false, false, false, true] F16r5 [] (by kernel_rfl) (by rw [hC]; rfl) fun K hK => ?_
        simp (maxSteps := 2000000) [F16r5]
        (repeat refine ⟨by first | omega | (intros; omega) | assumption, ?_⟩); refine hK _ ?_
        refine AWp.seq ?_
        refine AWp.seq ?_
        refine AWp.regK [1, 4, 22] [] F16r6 [] (by kernel_rfl) (by rw [hC]; rfl) fun K hK => ?_
        simp (maxSteps := 2000000) [F16r6]
        refine hK _ ?_
        refine AWp.block ?_
        refine AWp.seq ?_
        refine AWp.regK [1, 4, 22, 27] [false, true] F16r8 [] (by kernel_rfl) (by rw [hC]; rfl) fun K hK => ?_
        simp (maxSteps := 2000000) [F16r8]
        refine hK _ ?_
        rw [← hbt]
        refine AWp.cond true (by simp [h1]) (fun _ => ?_) (fun he => by cases he)
        refine AWp.regKL ops_mixed [[], [], [1], [0, 1, 2], [], [4], [0, 1, 2, 3, 4, 5], [0, 1, 2, 3, 4, 5, 6]] [4] [false, false, false, false, false, false, false, true] F16r9 [{ r := oB l1 }, { r := oB l2 }] (by kernel_rfl) (by rw [hC]; rfl) (by kernel_rfl) (by kernel_rfl) fun K hK => ?_
        simp (maxSteps := 2000000) [F16r9]
        (repeat first | refine ⟨by first | (show freeP _ _ _ = true; kernel_rfl) | omega | (intros; omega) | assumption, ?_⟩ | refine ⟨by intros; exact callWk rfl (by repeat (first | exact WkL.nil | refine WkL.cons (by first | exact Wk.refl _ | exact Wk.nil _ | exact Wk.own (WkR.refl _)) ?_)) hc1, ?_⟩ | refine ⟨by intros; exact callWk rfl (by repeat (first | exact WkL.nil | refine WkL.cons (by first | exact Wk.refl _ | exact Wk.nil _ | exact Wk.own (WkR.refl _)) ?_)) hc2, ?_⟩); refine hK _ ?_
        refine AWp.seq ?_
        refine AWp.regK [2, 3] [false, false, false, false, true, true] F16r15 [{ r := .tup [sval ws, ival we] }] (by kernel_rfl) (by rw [hC]; rfl) fun K hK => ?_
        simp (maxSteps := 2000000) [F16r15]
        (repeat first | refine ⟨by first | (show freeP _ _ _ = true; kernel_rfl) | omega | (intros; omega) | assumption, ?_⟩ | refine ⟨by intros; exact callWk rfl (by repeat (first | exact WkL.nil | refine WkL.cons (by first | exact Wk.refl _ | exact Wk.nil _ | exact Wk.own (WkR.refl _)) ?_)) hw, ?_⟩); refine hK _ ?_
        repeat refine AWp.seq ?_
        refine AWp.ret ⟨.inr rfl, _, by simp [Tryz.results16] <;> rfl, ?_⟩
        exact .clos (by simp) rfl
      by_cases h2 : c.kind = 2
      · have hb1 : ((cntE c.changes.length ++ manyE chE c.changes)).length ≤ 9 + 12 * csizes c.changes := by have := cntE_len c.changes.length; have := chs_len c.changes hcr (by omega); rw [List.length_append]; omega
        have hc1 := putC_ok (IsB.of (l := l0) (by omega)) c.changes 56 chE (by omega) (by omega) (fun x hx => oneC x (crngs_mem hx hcr) (by have := csize_mem hx; omega))
        obtain ⟨l1, hl1⟩ : ∃ l, l = l0 ++ (cntE c.changes.length ++ manyE chE c.changes) := ⟨_, rfl⟩
        rw [← hl1] at hc1
        have hn1 : l1.length ≤ l0.length + 9 + 12 * csizes c.changes ∧ 0 < l1.length := by rw [hl1, List.length_append]; omega
        have hbl : l1 = bytesC c := by
          rw [hl1, hl0]; unfold bytesC; rw [if_neg h1, if_pos h2]; simp
        rw [← hbl]
        have hw := wholeP_ok l1 (by omega)
        obtain ⟨ws, we, hwe⟩ := wholeA_tup l1
        rw [hwe] at hw ⊢
        refine Con.of_code Tryz.func16 (by kernel_rfl) rfl (by simp [Tryz.ntmps16]) fun C hC hM => ?_
        refine AWp.seq ?_
        refine AWp.regK [1] [false, true, true] F16r0 [] (by kernel_rfl) (by rw [hC]; rfl) fun K hK => ?_
        simp (maxSteps := 2000000) [F16r0]
        refine hK _ ?_
        refine AWp.seq ?_
        refine AWp.block ?_
        refine AWp.seq ?_
        refine AWp.regK [1, 5] [false, false, false, false, false, false, false, false, true] F16r1 [] (by kernel_rfl) (by rw [hC]; rfl) fun K hK => ?_
        simp (maxSteps := 2000000) [F16r1]
        (repeat refine ⟨by first | omega | (intros; omega) | assumption, ?_⟩); refine hK _ ?_
        refine AWp.cond false (by simp; omega) (fun he => by cases he) (fun _ => ?_)
        refine AWp.seq ?_
        refine AWp.regK [1, 14] [false, false, false, true] F16r3 [{ r := bval true }] (by kernel_rfl) (by rw [hC]; rfl) fun K hK => ?_
        simp (maxSteps := 2000000) [F16r3]
        (repeat first | refine ⟨by first | (show freeP _ _ _ = true; kernel_rfl) | omega | (intros; omega) | assumption, ?_⟩ | refine ⟨by intros; exact callOK rfl hf, ?_⟩); refine hK _ ?_
        refine AWp.cond false (by simp) (fun he => by cases he) (fun _ => ?_)
        refine AWp.skip ?_
        refine AWp.seq ?_
        refine AWp.regK [1, 4] [false, false, false, true] F16r5 [] (by kernel_rfl) (by rw [hC]; rfl) fun K hK => ?_
        simp (maxSteps := 2000000) [F16r5]
        (repeat refine ⟨by first | omega | (intros; omega) | assumption, ?_⟩); refine hK _ ?_
        refine AWp.seq ?_
        refine AWp.seq ?_
        refine AWp.regK [1, 4, 22] [] F16r6 [] (by kernel_rfl) (by rw [hC]; rfl) fun K hK => ?_
        simp (maxSteps := 2000000) [F16r6]
        refine hK _ ?_
        refine AWp.block ?_
        refine AWp.seq ?_
        refine AWp.regK [1, 4, 22, 27] [false, true] F16r8 [] (by kernel_rfl) (by rw [hC]; rfl) fun K hK => ?_
        simp (maxSteps := 2000000) [F16r8]
        refine hK _ ?_
        rw [← hbt]
        refine AWp.cond false (by simp [h1]) (fun he => by cases he) (fun _ => ?_)
        refine AWp.seq ?_
        refine AWp.regK [1, 4, 22, 36] [false, true] F16r10 [] (by kernel_rfl) (by rw [hC]; rfl) fun K hK => ?_
        simp (maxSteps := 2000000) [F16r10]
        refine hK _ ?_
        refine AWp.cond true (by simp [h2]) (fun _ => ?_) (fun he => by cases he)
        refine AWp.regK [4] [false, false, false, false, true] F16r11 [{ r := oB l1 }] (by kernel_rfl) (by rw [hC]; rfl) fun K hK => ?_
        simp (maxSteps := 2000000) [F16r11]
        (repeat first | refine ⟨by first | (show freeP _ _ _ = true; kernel_rfl) | omega | (intros; omega) | assumption, ?_⟩ | refine ⟨by intros; exact callWk rfl (by repeat (first | exact WkL.nil | refine WkL.cons (by first | exact Wk.refl _ | exact Wk.nil _ | exact Wk.own (WkR.refl _)) ?_)) hc1, ?_⟩); refine hK _ ?_
        refine AWp.seq ?_
        refine AWp.regK [2, 3] [false, false, false, false, true, true] F16r15 [{ r := .tup [sval ws, ival we] }] (by kernel_rfl) (by rw [hC]; rfl) fun K hK => ?_
        simp (maxSteps := 2000000) [F16r15]
        (repeat first | refine ⟨by first | (show freeP _ _ _ = true; kernel_rfl) | omega | (intros; omega) | assumption, ?_⟩ | refine ⟨by intros; exact callWk rfl (by repeat (first | exact WkL.nil | refine WkL.cons (by first | exact Wk.refl _ | exact Wk.nil _ | exact Wk.own (WkR.refl _)) ?_)) hw, ?_⟩); refine hK _ ?_
        repeat refine AWp.seq ?_
        refine AWp.ret ⟨.inr rfl, _, by simp [Tryz.results16] <;> rfl, ?_⟩
        exact .clos (by simp) rfl
      by_cases h3 : c.kind = 4 ∨ c.kind = 5
      · have hb1 : (txtE c.rel).length ≤ 2 * c.rel.size + 2 := txtE_len _
        have hc1 := Str_ok (IsB.of (l := l0) (by omega)) c.rel (by omega) (by omega)
        obtain ⟨l1, hl1⟩ : ∃ l, l = l0 ++ txtE c.rel := ⟨_, rfl⟩
        rw [← hl1] at hc1
        have hn1 : l1.length ≤ l0.length + 2 * c.rel.size + 2 ∧ 0 < l1.length := by rw [hl1, List.length_append]; omega
        have hb2 : (flagE c.comes).length ≤ 1 := by rw [flagE_len]; omega
        have hc2 := Flag_ok (IsB.of (l := l1) (by omega)) c.comes (by omega)
        obtain ⟨l2, hl2⟩ : ∃ l, l = l1 ++ flagE c.comes := ⟨_, rfl⟩
        rw [← hl2] at hc2
        have hn2 : l2.length ≤ l1.length + 1 ∧ 0 < l2.length := by rw [hl2, List.length_append]; omega
        have hb3 : (txtE c.text).length ≤ 2 * c.text.size + 2 := txtE_len _
        have hc3 := Str_ok (IsB.of (l := l2) (by omega)) c.text (by omega) (by omega)
        obtain ⟨l3, hl3⟩ : ∃ l, l = l2 ++ txtE c.text := ⟨_, rfl⟩
        rw [← hl3] at hc3
        have hn3 : l3.length ≤ l2.length + 2 * c.text.size + 2 ∧ 0 < l3.length := by rw [hl3, List.length_append]; omega
        have hbl : l3 = bytesC c := by
          rw [hl3, hl2, hl1, hl0]; unfold bytesC; rw [if_neg h1, if_neg h2, if_pos h3]; simp
        rw [← hbl]
        have hw := wholeP_ok l3 (by omega)
        obtain ⟨ws, we, hwe⟩ := wholeA_tup l3
        rw [hwe] at hw ⊢
        refine Con.of_code Tryz.func16 (by kernel_rfl) rfl (by simp [Tryz.ntmps16]) fun C hC hM => ?_
        refine AWp.seq ?_
        refine AWp.regK [1] [false, true, true] F16r0 [] (by kernel_rfl) (by rw [hC]; rfl) fun K hK => ?_
        simp (maxSteps := 2000000) [F16r0]
        refine hK _ ?_
        refine AWp.seq ?_
        refine AWp.block ?_
        refine AWp.seq ?_
        refine AWp.regK [1, 5] [false, false, false, false, false, false, false, false, true] F16r1 [] (by kernel_rfl) (by rw [hC]; rfl) fun K hK => ?_
        simp (maxSteps := 2000000) [F16r1]
        (repeat refine ⟨by first | omega | (intros; omega) | assumption, ?_⟩); refine hK _ ?_
        refine AWp.cond false (by simp; omega) (fun he => by cases he) (fun _ => ?_)
        refine AWp.seq ?_
        refine AWp.regK [1, 14] [false, false, false, true] F16r3 [{ r := bval true }] (by kernel_rfl) (by rw [hC]; rfl) fun K hK => ?_
        simp (maxSteps := 2000000) [F16r3]
        (repeat first | refine ⟨by first | (show freeP _ _ _ = true; kernel_rfl) | omega | (intros; omega) | assumption, ?_⟩ | refine ⟨by intros; exact callOK rfl hf, ?_⟩); refine hK _ ?_
        refine AWp.cond false (by simp) (fun he => by cases he) (fun _ => ?_)
        refine AWp.skip ?_
        refine AWp.seq ?_
        refine AWp.regK [1, 4] [false, false, false, true] F16r5 [] (by kernel_rfl) (by rw [hC]; rfl) fun K hK => ?_
        simp (maxSteps := 2000000) [F16r5]
        (repeat refine ⟨by first | omega | (intros; omega) | assumption, ?_⟩); refine hK _ ?_
        refine AWp.seq ?_
        refine AWp.seq ?_
        refine AWp.regK [1, 4, 22] [] F16r6 [] (by kernel_rfl) (by rw [hC]; rfl) fun K hK => ?_
        simp (maxSteps := 2000000) [F16r6]
        refine hK _ ?_
        refine AWp.block ?_
        refine AWp.seq ?_
        refine AWp.regK [1, 4, 22, 27] [false, true] F16r8 [] (by kernel_rfl) (by rw [hC]; rfl) fun K hK => ?_
        simp (maxSteps := 2000000) [F16r8]
        refine hK _ ?_
        rw [← hbt]
        refine AWp.cond false (by simp [h1]) (fun he => by cases he) (fun _ => ?_)
        refine AWp.seq ?_
        refine AWp.regK [1, 4, 22, 36] [false, true] F16r10 [] (by kernel_rfl) (by rw [hC]; rfl) fun K hK => ?_
        simp (maxSteps := 2000000) [F16r10]
        refine hK _ ?_
        refine AWp.cond false (by simp [h2]) (fun he => by cases he) (fun _ => ?_)
        rcases h3 with h3 | h3
        · skip
          refine AWp.seq ?_
          refine AWp.seq ?_
          refine AWp.regK [1, 4, 22, 42] [false, true] F16r12 [] (by kernel_rfl) (by rw [hC]; rfl) fun K hK => ?_
          simp (maxSteps := 2000000) [F16r12, h3]
          refine hK _ ?_
          refine AWp.cond true (by simp) (fun _ => ?_) (fun he => by cases he)
          refine AWp.skip ?_
          refine AWp.cond true (by simp) (fun _ => ?_) (fun he => by cases he)
          refine AWp.regKL ops_mixed [[], [], [1], [0, 1, 2], [], [4], [0, 1, 2, 3, 4, 5], [], [7], [0, 1, 2, 3, 4, 5, 6, 7, 8], [0, 1, 2, 3, 4, 5, 6, 7, 8, 9]] [4] [false, false, false, false, false, false, false, false, false, false, true] F16r14 [{ r := oB l1 }, { r := oB l2 }, { r := oB l3 }] (by kernel_rfl) (by rw [hC]; rfl) (by kernel_rfl) (by kernel_rfl) fun K hK => ?_
          simp (maxSteps := 2000000) [F16r14]
          (repeat first | refine ⟨by first | (show freeP _ _ _ = true; kernel_rfl) | omega | (intros; omega) | assumption, ?_⟩ | refine ⟨by intros; exact callWk rfl (by repeat (first | exact WkL.nil | refine WkL.cons (by first | exact Wk.refl _ | exact Wk.nil _ | exact Wk.own (WkR.refl _)) ?_)) hc1, ?_⟩ | refine ⟨by intros; exact callWk rfl (by repeat (first | exact WkL.nil | refine WkL.cons (by first | exact Wk.refl _ | exact Wk.nil _ | exact Wk.own (WkR.refl _)) ?_)) hc2, ?_⟩ | refine ⟨by intros; exact callWk rfl (by repeat (first | exact WkL.nil | refine WkL.cons (by first | exact Wk.refl _ | exact Wk.nil _ | exact Wk.own (WkR.refl _)) ?_)) hc3, ?_⟩); refine hK _ ?_
          refine AWp.seq ?_
          refine AWp.regK [2, 3] [false, false, false, false, true, true] F16r15 [{ r := .tup [sval ws, ival we] }] (by kernel_rfl) (by rw [hC]; rfl) fun K hK => ?_
          simp (maxSteps := 2000000) [F16r15]
          (repeat first | refine ⟨by first | (show freeP _ _ _ = true; kernel_rfl) | omega | (intros; omega) | assumption, ?_⟩ | refine ⟨by intros; exact callWk rfl (by repeat (first | exact WkL.nil | refine WkL.cons (by first | exact Wk.refl _ | exact Wk.nil _ | exact Wk.own (WkR.refl _)) ?_)) hw, ?_⟩); refine hK _ ?_
          repeat refine AWp.seq ?_
          refine AWp.ret ⟨.inr rfl, _, by simp [Tryz.results16] <;> rfl, ?_⟩
          exact .clos (by simp) rfl
        · skip
          refine AWp.seq ?_
          refine AWp.seq ?_
          refine AWp.regK [1, 4, 22, 42] [false, true] F16r12 [] (by kernel_rfl) (by rw [hC]; rfl) fun K hK => ?_
          simp (maxSteps := 2000000) [F16r12, h3]
          refine hK _ ?_
          refine AWp.cond false (by simp) (fun he => by cases he) (fun _ => ?_)
          refine AWp.regK [1, 4, 42] [false, true] F16r13 [] (by kernel_rfl) (by rw [hC]; rfl) fun K hK => ?_
          simp (maxSteps := 2000000) [F16r13, h3]
          refine hK _ ?_
          refine AWp.cond true (by simp) (fun _ => ?_) (fun he => by cases he)
          refine AWp.regKL ops_mixed [[], [], [1], [0, 1, 2], [], [4], [0, 1, 2, 3, 4, 5], [], [7], [0, 1, 2, 3, 4, 5, 6, 7, 8], [0, 1, 2, 3, 4, 5, 6, 7, 8, 9]] [4] [false, false, false, false, false, false, false, false, false, false, true] F16r14 [{ r := oB l1 }, { r := oB l2 }, { r := oB l3 }] (by kernel_rfl) (by rw [hC]; rfl) (by kernel_rfl) (by kernel_rfl) fun K hK => ?_
          simp (maxSteps := 2000000) [F16r14]
          (repeat first | refine ⟨by first | (show freeP _ _ _ = true; kernel_rfl) | omega | (intros; omega) | assumption, ?_⟩ | refine ⟨by intros; exact callWk rfl (by repeat (first | exact WkL.nil | refine WkL.cons (by first | exact Wk.refl _ | exact Wk.nil _ | exact Wk.own (WkR.refl _)) ?_)) hc1, ?_⟩ | refine ⟨by intros; exact callWk rfl (by repeat (first | exact WkL.nil | refine WkL.cons (by first | exact Wk.refl _ | exact Wk.nil _ | exact Wk.own (WkR.refl _)) ?_)) hc2, ?_⟩ | refine ⟨by intros; exact callWk rfl (by repeat (first | exact WkL.nil | refine WkL.cons (by first | exact Wk.refl _ | exact Wk.nil _ | exact Wk.own (WkR.refl _)) ?_)) hc3, ?_⟩); refine hK _ ?_
          refine AWp.seq ?_
          refine AWp.regK [2, 3] [false, false, false, false, true, true] F16r15 [{ r := .tup [sval ws, ival we] }] (by kernel_rfl) (by rw [hC]; rfl) fun K hK => ?_
          simp (maxSteps := 2000000) [F16r15]
          (repeat first | refine ⟨by first | (show freeP _ _ _ = true; kernel_rfl) | omega | (intros; omega) | assumption, ?_⟩ | refine ⟨by intros; exact callWk rfl (by repeat (first | exact WkL.nil | refine WkL.cons (by first | exact Wk.refl _ | exact Wk.nil _ | exact Wk.own (WkR.refl _)) ?_)) hw, ?_⟩); refine hK _ ?_
          repeat refine AWp.seq ?_
          refine AWp.ret ⟨.inr rfl, _, by simp [Tryz.results16] <;> rfl, ?_⟩
          exact .clos (by simp) rfl
      have hb1 : (txtE c.rel).length ≤ 2 * c.rel.size + 2 := txtE_len _
      have hc1 := Str_ok (IsB.of (l := l0) (by omega)) c.rel (by omega) (by omega)
      obtain ⟨l1, hl1⟩ : ∃ l, l = l0 ++ txtE c.rel := ⟨_, rfl⟩
      rw [← hl1] at hc1
      have hn1 : l1.length ≤ l0.length + 2 * c.rel.size + 2 ∧ 0 < l1.length := by rw [hl1, List.length_append]; omega
      have hbl : l1 = bytesC c := by
        rw [hl1, hl0]; unfold bytesC; rw [if_neg h1, if_neg h2, if_neg h3]; simp
      rw [← hbl]
      have hw := wholeP_ok l1 (by omega)
      obtain ⟨ws, we, hwe⟩ := wholeA_tup l1
      rw [hwe] at hw ⊢
      refine Con.of_code Tryz.func16 (by kernel_rfl) rfl (by simp [Tryz.ntmps16]) fun C hC hM => ?_
      refine AWp.seq ?_
      refine AWp.regK [1] [false, true, true] F16r0 [] (by kernel_rfl) (by rw [hC]; rfl) fun K hK => ?_
      simp (maxSteps := 2000000) [F16r0]
      refine hK _ ?_
      refine AWp.seq ?_
      refine AWp.block ?_
      refine AWp.seq ?_
      refine AWp.regK [1, 5] [false, false, false, false, false, false, false, false, true] F16r1 [] (by kernel_rfl) (by rw [hC]; rfl) fun K hK => ?_
      simp (maxSteps := 2000000) [F16r1]
      (repeat refine ⟨by first | omega | (intros; omega) | assumption, ?_⟩); refine hK _ ?_
      refine AWp.cond false (by simp; omega) (fun he => by cases he) (fun _ => ?_)
      refine AWp.seq ?_
      refine AWp.regK [1, 14] [false, false, false, true] F16r3 [{ r := bval true }] (by kernel_rfl) (by rw [hC]; rfl) fun K hK => ?_
      simp (maxSteps := 2000000) [F16r3]
      (repeat first | refine ⟨by first | (show freeP _ _ _ = true; kernel_rfl) | omega | (intros; omega) | assumption, ?_⟩ | refine ⟨by intros; exact callOK rfl hf, ?_⟩); refine hK _ ?_
      refine AWp.cond false (by simp) (fun he => by cases he) (fun _ => ?_)
      refine AWp.skip ?_
      refine AWp.seq ?_
      refine AWp.regK [1, 4] [false, false, false, true] F16r5 [] (by kernel_rfl) (by rw [hC]; rfl) fun K hK => ?_
      simp (maxSteps := 2000000) [F16r5]
      (repeat refine ⟨by first | omega | (intros; omega) | assumption, ?_⟩); refine hK _ ?_
      refine AWp.seq ?_
      refine AWp.seq ?_
      refine AWp.regK [1, 4, 22] [] F16r6 [] (by kernel_rfl) (by rw [hC]; rfl) fun K hK => ?_
      simp (maxSteps := 2000000) [F16r6]
      refine hK _ ?_
      refine AWp.block ?_
      refine AWp.seq ?_
      refine AWp.regK [1, 4, 22, 27] [false, true] F16r8 [] (by kernel_rfl) (by rw [hC]; rfl) fun K hK => ?_
      simp (maxSteps := 2000000) [F16r8]
      refine hK _ ?_
      rw [← hbt]
      refine AWp.cond false (by simp [h1]) (fun he => by cases he) (fun _ => ?_)
      refine AWp.seq ?_
      refine AWp.regK [1, 4, 22, 36] [false, true] F16r10 [] (by kernel_rfl) (by rw [hC]; rfl) fun K hK => ?_
      simp (maxSteps := 2000000) [F16r10]
      refine hK _ ?_
      refine AWp.cond false (by simp [h2]) (fun he => by cases he) (fun _ => ?_)
      have h4 : ¬ c.kind = 4 := fun h => h3 (.inl h)
      have h5 : ¬ c.kind = 5 := fun h => h3 (.inr h)
      refine AWp.seq ?_
      refine AWp.seq ?_
      refine AWp.regK [1, 4, 22, 42] [false, true] F16r12 [] (by kernel_rfl) (by rw [hC]; rfl) fun K hK => ?_
      simp (maxSteps := 2000000) [F16r12, h4, h5]
      refine hK _ ?_
      refine AWp.cond false (by simp) (fun he => by cases he) (fun _ => ?_)
      refine AWp.regK [1, 4, 42] [false, true] F16r13 [] (by kernel_rfl) (by rw [hC]; rfl) fun K hK => ?_
      simp (maxSteps := 2000000) [F16r13, h4, h5]
      refine hK _ ?_
      refine AWp.cond false (by simp) (fun he => by cases he) (fun _ => ?_)
      refine AWp.regK [4] [false, false, false, false, true] F16r7 [{ r := oB l1 }] (by kernel_rfl) (by rw [hC]; rfl) fun K hK => ?_
      simp (maxSteps := 2000000) [F16r7]
      (repeat first | refine ⟨by first | (show freeP _ _ _ = true; kernel_rfl) | omega | (intros; omega) | assumption, ?_⟩ | refine ⟨by intros; exact callWk rfl (by repeat (first | exact WkL.nil | refine WkL.cons (by first | exact Wk.refl _ | exact Wk.nil _ | exact Wk.own (WkR.refl _)) ?_)) hc1, ?_⟩); refine hK _ ?_
      refine AWp.seq ?_
      refine AWp.regK [2, 3] [false, false, false, false, true, true] F16r15 [{ r := .tup [sval ws, ival we] }] (by kernel_rfl) (by rw [hC]; rfl) fun K hK => ?_
      simp (maxSteps := 2000000) [F16r15]
      (repeat first | refine ⟨by first | (show freeP _ _ _ = true; kernel_rfl) | omega | (intros; omega) | assumption, ?_⟩ | refine ⟨by intros; exact callWk rfl (by repeat (first | exact WkL.nil | refine WkL.cons (by first | exact Wk.refl _ | exact Wk.nil _ | exact Wk.own (WkR.refl _)) ?_)) hw, ?_⟩); refine hK _ ?_
      repeat refine AWp.seq ?_
      refine AWp.ret ⟨.inr rfl, _, by simp [Tryz.results16] <;> rfl, ?_⟩
      exact .clos (by simp) rfl
end Go.Se
