/- The document's values: may one be? (numbers, values, rows) -/
import Derived.Test.YtdobngcdgkallaaGreatDoorAlA
set_option linter.unusedSimpArgs false
set_option linter.unusedVariables false
set_option linter.unusedSectionVars false
open Go Go.Aw Go.Proofs
namespace Go.Al
-- function 70: corollary/corollaryref02.form
def F70r0 : List ROp := [⟨some 1,.box 56 (.tmp 0),[],none⟩,
 ⟨some 2,.copy true (.const (.bool false)),[],none⟩]
def F70r1 : List ROp := [⟨some 3,.copy true (.const (.bool false)),[],none⟩]
def F70r2 : List ROp := [⟨some 5,.fad 0 (.tmp 1),[],none⟩,
 ⟨some 6,.load 1 false false (.tmp 5),[],none⟩]
def F70r3 : List ROp := [⟨some 8,.bin .eql (.tmp 6) (.const (.int .u8 1)),[],none⟩,
 ⟨some 7,.copy true (.tmp 8),[],none⟩]
def F70r4 : List ROp := [⟨some 9,.fad 1 (.tmp 1),[],none⟩,
 ⟨some 10,.load 1 false false (.tmp 9),[],none⟩,
 ⟨some 11,.bin .eql (.tmp 10) (.const (.int .i64 0)),[],none⟩,
 ⟨some 12,.copy false (.tmp 11),[],none⟩,
 ⟨some 13,.fad 1 (.tmp 1),[],some (12,false)⟩,
 ⟨some 14,.load 1 false false (.tmp 13),[],some (12,false)⟩,
 ⟨some 15,.bin .eql (.tmp 14) (.const (.int .i64 1)),[],some (12,false)⟩,
 ⟨some 16,.pick (.tmp 12) (.const (.bool true)) (.tmp 15),[],none⟩,
 ⟨some 17,.copy false (.tmp 16),[],none⟩,
 ⟨some 18,.fad 2 (.tmp 1),[],some (17,true)⟩,
 ⟨some 19,.load 1 false false (.tmp 18),[],some (17,true)⟩,
 ⟨some 20,.bin .eql (.tmp 19) (.const (.string { data := #[] })),[],some (17,true)⟩,
 ⟨some 21,.pick (.tmp 17) (.tmp 20) (.const (.bool false)),[],none⟩,
 ⟨some 22,.copy false (.tmp 21),[],none⟩,
 ⟨some 23,.fad 3 (.tmp 1),[],some (22,true)⟩,
 ⟨some 24,.load 1 false false (.tmp 23),[],some (22,true)⟩,
 ⟨some 25,.len 0 (.tmp 24),[],some (22,true)⟩,
 ⟨some 26,.bin .eql (.tmp 25) (.const (.int .i64 0)),[],some (22,true)⟩,
 ⟨some 27,.pick (.tmp 22) (.tmp 26) (.const (.bool false)),[],none⟩,
 ⟨some 3,.copy true (.tmp 27),[],none⟩]
def F70r5 : List ROp := [⟨some 29,.bin .eql (.tmp 6) (.const (.int .u8 2)),[],none⟩,
 ⟨some 28,.copy true (.tmp 29),[],none⟩]
def F70r6 : List ROp := [⟨some 30,.fad 2 (.tmp 1),[],none⟩,
 ⟨some 31,.load 1 false false (.tmp 30),[],none⟩,
 ⟨some 32,.bin .eql (.tmp 31) (.const (.string { data := #[] })),[],none⟩,
 ⟨some 33,.copy false (.tmp 32),[],none⟩,
 ⟨some 34,.fad 3 (.tmp 1),[],some (33,true)⟩,
 ⟨some 35,.load 1 false false (.tmp 34),[],some (33,true)⟩,
 ⟨some 36,.len 0 (.tmp 35),[],some (33,true)⟩,
 ⟨some 37,.bin .eql (.tmp 36) (.const (.int .i64 0)),[],some (33,true)⟩,
 ⟨some 38,.pick (.tmp 33) (.tmp 37) (.const (.bool false)),[],none⟩,
 ⟨some 3,.copy true (.tmp 38),[],none⟩]
def F70r7 : List ROp := [⟨some 40,.bin .eql (.tmp 6) (.const (.int .u8 3)),[],none⟩,
 ⟨some 39,.copy true (.tmp 40),[],none⟩]
def F70r8 : List ROp := [⟨some 41,.fad 1 (.tmp 1),[],none⟩,
 ⟨some 42,.load 1 false false (.tmp 41),[],none⟩,
 ⟨some 43,.bin .eql (.tmp 42) (.const (.int .i64 0)),[],none⟩,
 ⟨some 44,.copy false (.tmp 43),[],none⟩,
 ⟨some 45,.fad 3 (.tmp 1),[],some (44,true)⟩,
 ⟨some 46,.load 1 false false (.tmp 45),[],some (44,true)⟩,
 ⟨some 47,.len 0 (.tmp 46),[],some (44,true)⟩,
 ⟨some 48,.bin .eql (.tmp 47) (.const (.int .i64 0)),[],some (44,true)⟩,
 ⟨some 49,.pick (.tmp 44) (.tmp 48) (.const (.bool false)),[],none⟩,
 ⟨some 50,.copy false (.tmp 49),[],none⟩,
 ⟨some 51,.fad 2 (.tmp 1),[],some (50,true)⟩,
 ⟨some 52,.load 1 false false (.tmp 51),[],some (50,true)⟩,
 ⟨some 53,.call (.func 95) [.tmp 52],[],some (50,true)⟩,
 ⟨some 54,.pick (.tmp 50) (.tmp 53) (.const (.bool false)),[],none⟩,
 ⟨some 3,.copy true (.tmp 54),[],none⟩]
def F70r9 : List ROp := [⟨some 56,.bin .eql (.tmp 6) (.const (.int .u8 4)),[],none⟩,
 ⟨some 55,.copy true (.tmp 56),[],none⟩]
def F70r10 : List ROp := [⟨some 57,.fad 1 (.tmp 1),[],none⟩,
 ⟨some 58,.load 1 false false (.tmp 57),[],none⟩,
 ⟨some 59,.bin .eql (.tmp 58) (.const (.int .i64 0)),[],none⟩,
 ⟨some 60,.copy false (.tmp 59),[],none⟩,
 ⟨some 61,.fad 3 (.tmp 1),[],some (60,true)⟩,
 ⟨some 62,.load 1 false false (.tmp 61),[],some (60,true)⟩,
 ⟨some 63,.len 0 (.tmp 62),[],some (60,true)⟩,
 ⟨some 64,.bin .eql (.tmp 63) (.const (.int .i64 0)),[],some (60,true)⟩,
 ⟨some 65,.pick (.tmp 60) (.tmp 64) (.const (.bool false)),[],none⟩,
 ⟨some 3,.copy true (.tmp 65),[],none⟩]
def F70r11 : List ROp := [⟨some 67,.bin .eql (.tmp 6) (.const (.int .u8 5)),[],none⟩,
 ⟨some 66,.copy true (.tmp 67),[],none⟩]
def F70r12 : List ROp := [⟨some 68,.fad 1 (.tmp 1),[],none⟩,
 ⟨some 69,.load 1 false false (.tmp 68),[],none⟩,
 ⟨some 70,.bin .eql (.tmp 69) (.const (.int .i64 0)),[],none⟩,
 ⟨some 71,.copy false (.tmp 70),[],none⟩,
 ⟨some 72,.fad 2 (.tmp 1),[],some (71,true)⟩,
 ⟨some 73,.load 1 false false (.tmp 72),[],some (71,true)⟩,
 ⟨some 74,.bin .eql (.tmp 73) (.const (.string { data := #[] })),[],some (71,true)⟩,
 ⟨some 75,.pick (.tmp 71) (.tmp 74) (.const (.bool false)),[],none⟩,
 ⟨some 76,.copy false (.tmp 75),[],none⟩,
 ⟨some 77,.fad 3 (.tmp 1),[],some (76,true)⟩,
 ⟨some 78,.load 1 false false (.tmp 77),[],some (76,true)⟩,
 ⟨some 79,.len 0 (.tmp 78),[],some (76,true)⟩,
 ⟨some 80,.bin .neq (.tmp 79) (.const (.int .i64 1)),[],some (76,true)⟩,
 ⟨some 81,.pick (.tmp 76) (.tmp 80) (.const (.bool false)),[],none⟩,
 ⟨some 3,.copy true (.tmp 81),[],none⟩]
def F70r13 : List ROp := [⟨some 83,.bin .eql (.tmp 6) (.const (.int .u8 6)),[],none⟩,
 ⟨some 82,.copy true (.tmp 83),[],none⟩]
def F70r14 : List ROp := [⟨some 84,.fad 1 (.tmp 1),[],none⟩,
 ⟨some 85,.load 1 false false (.tmp 84),[],none⟩,
 ⟨some 86,.bin .eql (.tmp 85) (.const (.int .i64 0)),[],none⟩,
 ⟨some 87,.copy false (.tmp 86),[],none⟩,
 ⟨some 88,.fad 2 (.tmp 1),[],some (87,true)⟩,
 ⟨some 89,.load 1 false false (.tmp 88),[],some (87,true)⟩,
 ⟨some 90,.call (.func 96) [.tmp 89],[],some (87,true)⟩,
 ⟨some 91,.pick (.tmp 87) (.tmp 90) (.const (.bool false)),[],none⟩,
 ⟨some 3,.copy true (.tmp 91),[],none⟩]
def F70r15 : List ROp := [⟨some 4,.copy true (.const (.int .i64 0)),[],none⟩]
def F70r16 : List ROp := [⟨some 92,.copy false (.tmp 4),[],none⟩,
 ⟨some 93,.fad 3 (.tmp 1),[],none⟩,
 ⟨some 94,.load 1 false false (.tmp 93),[],none⟩,
 ⟨some 95,.len 0 (.tmp 94),[],none⟩,
 ⟨some 96,.bin .lss (.tmp 92) (.tmp 95),[],none⟩,
 ⟨some 97,.copy false (.tmp 96),[],none⟩,
 ⟨some 98,.copy false (.tmp 3),[],some (97,true)⟩,
 ⟨some 99,.pick (.tmp 97) (.tmp 98) (.const (.bool false)),[],none⟩]
def F70r17 : List ROp := [⟨some 100,.copy false (.tmp 4),[],none⟩,
 ⟨some 101,.bin .add (.tmp 100) (.const (.int .i64 1)),[],none⟩,
 ⟨some 4,.copy true (.tmp 101),[],none⟩]
def F70r18 : List ROp := [⟨some 102,.fad 3 (.tmp 1),[],none⟩,
 ⟨some 103,.load 1 false false (.tmp 102),[],none⟩,
 ⟨some 104,.copy false (.tmp 4),[],none⟩,
 ⟨some 105,.iad 4 (.tmp 103) (.tmp 104),[],none⟩,
 ⟨some 106,.load 4 true false (.tmp 105),[],none⟩,
 ⟨some 107,.call (.func 70) [.tmp 106],[],none⟩,
 ⟨some 3,.copy true (.tmp 107),[],none⟩]
def F70r19 : List ROp := [⟨some 108,.copy true (.tmp 3),[],none⟩,
 ⟨some 2,.copy true (.tmp 108),[],none⟩]
-- function 71: corollary/corollaryref02.fits
def F71r0 : List ROp := [⟨some 1,.box 56 (.tmp 0),[],none⟩,
 ⟨some 2,.copy true (.const (.bool false)),[],none⟩]
def F71r1 : List ROp := [⟨some 3,.copy true (.const (.bool true)),[],none⟩]
def F71r2 : List ROp := [⟨some 5,.fad 0 (.tmp 1),[],none⟩,
 ⟨some 6,.load 1 false false (.tmp 5),[],none⟩]
def F71r3 : List ROp := [⟨some 8,.bin .eql (.tmp 6) (.const (.int .u8 3)),[],none⟩,
 ⟨some 7,.copy true (.tmp 8),[],none⟩]
def F71r4 : List ROp := [⟨some 9,.fad 2 (.tmp 1),[],none⟩,
 ⟨some 10,.load 1 false false (.tmp 9),[],none⟩,
 ⟨some 11,.call (.func 97) [.tmp 10],[],none⟩,
 ⟨some 12,.bin .leq (.tmp 11) (.const (.int .i64 200)),[],none⟩,
 ⟨some 3,.copy true (.tmp 12),[],none⟩]
def F71r5 : List ROp := [⟨some 14,.bin .eql (.tmp 6) (.const (.int .u8 4)),[],none⟩,
 ⟨some 13,.copy true (.tmp 14),[],none⟩]
def F71r6 : List ROp := [⟨some 15,.fad 2 (.tmp 1),[],none⟩,
 ⟨some 16,.load 1 false false (.tmp 15),[],none⟩,
 ⟨some 17,.len 1 (.tmp 16),[],none⟩,
 ⟨some 18,.bin .leq (.tmp 17) (.const (.int .i64 4096)),[],none⟩,
 ⟨some 3,.copy true (.tmp 18),[],none⟩]
def F71r7 : List ROp := [⟨some 20,.bin .eql (.tmp 6) (.const (.int .u8 5)),[],none⟩,
 ⟨some 19,.copy true (.tmp 20),[],none⟩]
def F71r8 : List ROp := [⟨some 21,.fad 3 (.tmp 1),[],none⟩,
 ⟨some 22,.load 1 false false (.tmp 21),[],none⟩,
 ⟨some 23,.len 0 (.tmp 22),[],none⟩,
 ⟨some 24,.bin .leq (.tmp 23) (.const (.int .i64 16)),[],none⟩,
 ⟨some 3,.copy true (.tmp 24),[],none⟩]
def F71r9 : List ROp := [⟨some 26,.bin .eql (.tmp 6) (.const (.int .u8 6)),[],none⟩,
 ⟨some 25,.copy true (.tmp 26),[],none⟩]
def F71r10 : List ROp := [⟨some 27,.fad 3 (.tmp 1),[],none⟩,
 ⟨some 28,.load 1 false false (.tmp 27),[],none⟩,
 ⟨some 29,.len 0 (.tmp 28),[],none⟩,
 ⟨some 30,.bin .leq (.tmp 29) (.const (.int .i64 8)),[],none⟩,
 ⟨some 3,.copy true (.tmp 30),[],none⟩]
def F71r11 : List ROp := [⟨some 4,.copy true (.const (.int .i64 0)),[],none⟩]
def F71r12 : List ROp := [⟨some 31,.copy false (.tmp 4),[],none⟩,
 ⟨some 32,.fad 3 (.tmp 1),[],none⟩,
 ⟨some 33,.load 1 false false (.tmp 32),[],none⟩,
 ⟨some 34,.len 0 (.tmp 33),[],none⟩,
 ⟨some 35,.bin .lss (.tmp 31) (.tmp 34),[],none⟩,
 ⟨some 36,.copy false (.tmp 35),[],none⟩,
 ⟨some 37,.copy false (.tmp 3),[],some (36,true)⟩,
 ⟨some 38,.pick (.tmp 36) (.tmp 37) (.const (.bool false)),[],none⟩]
def F71r13 : List ROp := [⟨some 39,.copy false (.tmp 4),[],none⟩,
 ⟨some 40,.bin .add (.tmp 39) (.const (.int .i64 1)),[],none⟩,
 ⟨some 4,.copy true (.tmp 40),[],none⟩]
def F71r14 : List ROp := [⟨some 41,.fad 3 (.tmp 1),[],none⟩,
 ⟨some 42,.load 1 false false (.tmp 41),[],none⟩,
 ⟨some 43,.copy false (.tmp 4),[],none⟩,
 ⟨some 44,.iad 4 (.tmp 42) (.tmp 43),[],none⟩,
 ⟨some 45,.load 4 true false (.tmp 44),[],none⟩,
 ⟨some 46,.call (.func 71) [.tmp 45],[],none⟩,
 ⟨some 3,.copy true (.tmp 46),[],none⟩]
def F71r15 : List ROp := [⟨some 47,.copy true (.tmp 3),[],none⟩,
 ⟨some 2,.copy true (.tmp 47),[],none⟩]
-- function 69: corollary/corollaryref02.Depth
def F69r0 : List ROp := [⟨some 1,.box 56 (.tmp 0),[],none⟩,
 ⟨some 2,.copy true (.const (.int .i64 0)),[],none⟩]
def F69r1 : List ROp := [⟨some 3,.copy true (.const (.int .i64 0)),[],none⟩]
def F69r2 : List ROp := [⟨some 4,.copy true (.const (.int .i64 0)),[],none⟩]
def F69r3 : List ROp := [⟨some 5,.copy false (.tmp 4),[],none⟩,
 ⟨some 6,.fad 3 (.tmp 1),[],none⟩,
 ⟨some 7,.load 1 false false (.tmp 6),[],none⟩,
 ⟨some 8,.len 0 (.tmp 7),[],none⟩,
 ⟨some 9,.bin .lss (.tmp 5) (.tmp 8),[],none⟩]
def F69r4 : List ROp := [⟨some 10,.copy false (.tmp 4),[],none⟩,
 ⟨some 11,.bin .add (.tmp 10) (.const (.int .i64 1)),[],none⟩,
 ⟨some 4,.copy true (.tmp 11),[],none⟩]
def F69r5 : List ROp := [⟨some 12,.copy false (.tmp 3),[],none⟩,
 ⟨some 13,.fad 3 (.tmp 1),[],none⟩,
 ⟨some 14,.load 1 false false (.tmp 13),[],none⟩,
 ⟨some 15,.copy false (.tmp 4),[],none⟩,
 ⟨some 16,.iad 4 (.tmp 14) (.tmp 15),[],none⟩,
 ⟨some 17,.load 4 true false (.tmp 16),[],none⟩,
 ⟨some 18,.call (.func 69) [.tmp 17],[],none⟩,
 ⟨some 19,.mm true (.tmp 12) (.tmp 18),[],none⟩,
 ⟨some 3,.copy true (.tmp 19),[],none⟩]
def F69r6 : List ROp := [⟨some 20,.copy false (.tmp 3),[],none⟩,
 ⟨some 21,.bin .add (.tmp 20) (.const (.int .i64 1)),[],none⟩,
 ⟨some 2,.copy true (.tmp 21),[],none⟩]
-- function 58: corollary/corollaryref02.Check
def F58r0 : List ROp := [⟨some 1,.box 56 (.tmp 0),[],none⟩,
 ⟨some 2,.copy true (.const (.int .i64 0)),[],none⟩]
def F58r1 : List ROp := [⟨some 3,.load 4 true false (.tmp 1),[],none⟩,
 ⟨some 4,.call (.func 69) [.tmp 3],[],none⟩,
 ⟨some 5,.bin .gtr (.tmp 4) (.const (.int .i64 64)),[],none⟩]
def F58r2 : List ROp := [⟨some 2,.copy true (.const (.int .i64 65)),[],none⟩]
def F58r3 : List ROp := [⟨some 6,.load 4 true false (.tmp 1),[],none⟩,
 ⟨some 7,.call (.func 70) [.tmp 6],[],none⟩,
 ⟨some 8,.un .not (.tmp 7),[],none⟩]
def F58r4 : List ROp := [⟨some 2,.copy true (.const (.int .i64 4)),[],none⟩]
def F58r5 : List ROp := [⟨some 9,.load 4 true false (.tmp 1),[],none⟩,
 ⟨some 10,.call (.func 71) [.tmp 9],[],none⟩,
 ⟨some 11,.un .not (.tmp 10),[],none⟩]
def F58r6 : List ROp := [⟨some 2,.copy true (.const (.int .i64 40)),[],none⟩]
def F58r7 : List ROp := [⟨some 2,.copy true (.const (.int .i64 0)),[],none⟩]
theorem ext_le (s : ByteArray) (a b : Nat) : (s.extract a b).size ≤ s.size := by
 rw [← bl_len, bl_extract, List.length_take, List.length_drop, bl_len]; omega
theorem Number_ok (s : ByteArray) (hs : s.size ≤ 4194304) : Con Tryz.prog 95 [sval s] (bval (Number s)) := by
 refine Con.of_code Tryz.func95 (by kernel_rfl) rfl (by simp [Tryz.ntmps95]) fun C hC hM => ?_
 refine AWp.seq ?_
 refine AWp.regK [0] [true] F95r0 [] (by kernel_rfl) (by rw [hC]; rfl) fun K hK => ?_
 simp (maxSteps := 2000000) [F95r0]
 refine hK _ ?_
 refine AWp.seqJ (fun y : ByteArray => { tm := [(0, sval y)], hp := [] }) (fun y => Number s = numB y ∧ y.size ≤ 4194304) ?_ (fun hJ => ?_)
 ·skip
  rintro y ⟨hy, hsz⟩
  rw [hy]
  refine AWp.seq ?_
  refine AWp.seq ?_
  refine AWp.regK [0,28] [] F95r5 [] (by kernel_rfl) (by rw [hC]; rfl) fun K hK => ?_
  simp (maxSteps := 2000000) [F95r5]
  (repeat refine ⟨by first | omega | (intros; omega) | (intros; exact sz_pos (by assumption)) | assumption, ?_⟩); refine hK _ ?_
  have hcond : (decide (y = ⟨#[]⟩) || (decide ((1 : Int) < y.size) && decide (chr y 0 = 48))) = (decide (y = ⟨#[]⟩) || (decide (1 < y.size) && decide (chr y 0 = 48))) := by
   congr 2; exact decide_eq_decide.2 (by omega)
  refine AWp.cond _ (by rfl) (fun h1 => ?_) (fun h1 => ?_)
  ·skip
   refine AWp.seq ?_
   refine AWp.regK [2] [true] F95r6 [] (by kernel_rfl) (by rw [hC]; rfl) fun K hK => ?_
   simp (maxSteps := 2000000) [F95r6]
   refine hK _ ?_
   repeat refine AWp.seq ?_
   refine AWp.ret ⟨.inr rfl, _, by simp [Tryz.results95] <;> rfl, ?_⟩
   refine .clos ?_ rfl
   have : numB y = false := by
    unfold numB
    rw [hcond] at h1
    cases h1' : decide (y = ⟨#[]⟩) <;> simp [h1'] at h1 ⊢
    intro hle; exact absurd h1.1 (by omega)
   rw [this]; rfl
  have h2 : numB y = allFrom digB y 0 := by
   unfold numB
   rw [hcond] at h1
   cases h1' : decide (y = ⟨#[]⟩) <;> rw [h1'] at h1
   ·rw [Bool.false_or] at h1; rw [h1]; rfl
   ·cases h1
  rw [h2]
  refine AWp.skip ?_
  refine AWp.seq ?_
  refine AWp.seq ?_
  refine AWp.regK [0,3] [true] F95r7 [] (by kernel_rfl) (by rw [hC]; rfl) fun K hK => ?_
  simp (maxSteps := 2000000) [F95r7]
  refine hK _ ?_
  refine AWp.block ?_
  refine AWp.loopG (fun k : Nat => { tm := [(0, sval y), (3, ival k)], hp := [] }) (fun k => k ≤ y.size ∧ allFrom digB y 0 = allFrom digB y k) (fun k => y.size - k) 0 ⟨by omega, rfl⟩ (by simp) (fun k hk => ?_)
  obtain ⟨hk1, hk2⟩ := hk
  refine AWp.seq ?_
  refine AWp.seq ?_
  refine AWp.regK [0,3,32] [] F95r8 [] (by kernel_rfl) (by rw [hC]; rfl) fun K hK => ?_
  simp (maxSteps := 2000000) [F95r8]
  refine hK _ ?_
  refine AWp.cond _ (by rfl) (fun hlt => ?_) (fun hge => ?_)
  ·skip
   have hlt : k < y.size := by simpa using hlt
   have hst := allFrom_step digB y k hlt
   refine AWp.skip ?_
   refine AWp.seq ?_
   refine AWp.block ?_
   refine AWp.seq ?_
   refine AWp.regK [0,3,44] [] F95r10 [] (by kernel_rfl) (by rw [hC]; rfl) fun K hK => ?_
   simp (maxSteps := 2000000) [F95r10, hlt]
   (repeat refine ⟨by first | omega | (intros; omega) | (intros; exact sz_pos (by assumption)) | assumption, ?_⟩); refine hK _ ?_
   refine AWp.cond _ (by rfl) (fun hn => ?_) (fun hn => ?_)
   ·skip
    have hn : digB (chr y k) = false := by
     unfold digB
     simp at hn ⊢
     omega
    refine AWp.seq ?_
    refine AWp.regK [2] [true] F95r11 [] (by kernel_rfl) (by rw [hC]; rfl) fun K hK => ?_
    simp (maxSteps := 2000000) [F95r11]
    refine hK _ ?_
    repeat refine AWp.seq ?_
    refine AWp.ret ⟨.inr rfl, _, by simp [Tryz.results95] <;> rfl, ?_⟩
    rw [hk2, hst, hn]
    exact .closed rfl
   have hn : digB (chr y k) = true := by
    unfold digB
    simp at hn ⊢
    omega
   refine AWp.skip ?_
   refine AWp.regK [0,3] [false,false,true] F95r9 [] (by kernel_rfl) (by rw [hC]; rfl) fun K hK => ?_
   simp (maxSteps := 2000000) [F95r9]
   (repeat refine ⟨by first | omega | (intros; omega) | assumption, ?_⟩); refine hK _ ?_
   refine ⟨k + 1, ⟨by omega, by rw [hk2, hst, hn]; rfl⟩, by omega, ?_⟩
   simp [wrap_nat k (by omega)]
  have hge : ¬ k < y.size := by simpa using hge
  refine AWp.exit ?_
  refine AWp.seq ?_
  refine AWp.regK [2] [true] F95r12 [] (by kernel_rfl) (by rw [hC]; rfl) fun K hK => ?_
  simp (maxSteps := 2000000) [F95r12]
  refine hK _ ?_
  repeat refine AWp.seq ?_
  refine AWp.ret ⟨.inr rfl, _, by simp [Tryz.results95] <;> rfl, ?_⟩
  rw [hk2, allFrom_end digB y k (by omega)]
  exact .closed rfl
 ·skip
  refine AWp.seq ?_
  refine AWp.regK [0,11] [] F95r1 [] (by kernel_rfl) (by rw [hC]; rfl) fun K hK => ?_
  simp (maxSteps := 2000000) [F95r1]
  (repeat refine ⟨by first | omega | (intros; omega) | (intros; exact sz_pos (by assumption)) | assumption, ?_⟩); refine hK _ ?_
  refine AWp.cond _ (by rfl) (fun h1 => ?_) (fun h1 => ?_)
  ·skip
   have h2 : 1 < s.size ∧ chr s 0 = 45 := by
    by_cases b : (1 : Int) < s.size <;> simp [b] at h1
    exact ⟨by omega, h1⟩
   have hz := size_extract1 s (by omega)
   have hN : Number s = (!decide (chr (s.extract 1 s.size) 0 = 48) && numB (s.extract 1 s.size)) := by unfold Number; rw [if_pos (by simp [h2])]
   refine AWp.seq ?_
   refine AWp.regK [0] [false,false,true] F95r2 [] (by kernel_rfl) (by rw [hC]; rfl) fun K hK => ?_
   simp (maxSteps := 2000000) [F95r2]
   (repeat refine ⟨by first | omega | (intros; omega) | assumption, ?_⟩); refine hK _ ?_
   refine AWp.seq ?_
   refine AWp.regK [0,16] [] F95r3 [] (by kernel_rfl) (by rw [hC]; rfl) fun K hK => ?_
   simp (maxSteps := 2000000) [F95r3]
   (repeat refine ⟨by first | omega | (intros; omega) | (intros; exact sz_pos (by assumption)) | assumption, ?_⟩); refine hK _ ?_
   refine AWp.cond _ (by rfl) (fun h3 => ?_) (fun h3 => ?_)
   ·skip
    refine AWp.seq ?_
    refine AWp.regK [2] [true] F95r4 [] (by kernel_rfl) (by rw [hC]; rfl) fun K hK => ?_
    simp (maxSteps := 2000000) [F95r4]
    refine hK _ ?_
    repeat refine AWp.seq ?_
    refine AWp.ret ⟨.inr rfl, _, by simp [Tryz.results95] <;> rfl, ?_⟩
    refine .clos ?_ rfl
    simp at h3
    rw [hN, h3]; rfl
   refine AWp.skip ?_
   simp at h3
   refine hJ _ (s.extract 1 s.size) ⟨by rw [hN]; simp [h3], by omega⟩ ?_
   simp
  refine AWp.skip ?_
  refine hJ _ s ⟨?_, hs⟩ (by simp)
  unfold Number
  rw [if_neg]
  by_cases b : (1 : Int) < s.size <;> simp [b] at h1
  ·simp [h1]
  ·simp [show ¬ 1 < s.size by omega]
abbrev valT : Nat := 56
abbrev valB (v : ValD) : Blk := .cells valT [uval v.kind, ival v.n, sval v.s, .rd 4 (v.l.map encV)]
attribute [local simp] valX encV_eq
theorem form_ok : ∀ (n : Nat) (v : ValD), vsize v < n → vsize v ≤ 4194304 → Con Tryz.prog 70 [valX v] (bval (form v)) := by
 intro n
 induction n with
 | zero => intro v h; omega
 | succ n ih =>
  intro v hn hv
  have hsz := vsize_eq v
  have hlen := vsizes_len v.l
  have hfe := form_eq v
  refine Con.of_code Tryz.func70 (by kernel_rfl) rfl (by simp [Tryz.ntmps70]) fun C hC hM => ?_
  refine AWp.seq ?_
  refine AWp.regK [1] [false,true] F70r0 [] (by kernel_rfl) (by rw [hC]; rfl) fun K hK => ?_
  simp (maxSteps := 2000000) [F70r0]
  refine hK _ ?_
  refine AWp.seq ?_
  refine AWp.regK [1,3] [true] F70r1 [] (by kernel_rfl) (by rw [hC]; rfl) fun K hK => ?_
  simp (maxSteps := 2000000) [F70r1]
  refine hK _ ?_
  refine AWp.seqJ (fun _ : Unit => { tm := [(1, .ptr 1 0), (3, bval (formOwn v))], hp := [(1, valB v)] }) (fun _ => True) ?_ (fun hJ => ?_)
  ·skip
   rintro - -
   refine AWp.seq ?_
   refine AWp.seq ?_
   refine AWp.regK [1,3,4] [true] F70r15 [] (by kernel_rfl) (by rw [hC]; rfl) fun K hK => ?_
   simp (maxSteps := 2000000) [F70r15]
   refine hK _ ?_
   refine AWp.block ?_
   refine AWp.loopG (fun x : Nat × Bool => { tm := [(1, .ptr 1 0), (3, bval x.2), (4, ival x.1)], hp := [(1, valB v)] }) (fun x => x.1 ≤ v.l.length ∧ form v = (x.2 && forms (v.l.drop x.1))) (fun x => v.l.length - x.1) (0, formOwn v) ⟨by omega, by simpa using hfe⟩ (by simp) (fun x hk => ?_)
   obtain ⟨k, b⟩ := x
   obtain ⟨hk1, hk2⟩ := hk
   simp only at hk1 hk2
   refine AWp.seq ?_
   refine AWp.seq ?_
   refine AWp.regK [1,3,4,99] [] F70r16 [] (by kernel_rfl) (by rw [hC]; rfl) fun K hK => ?_
   simp (maxSteps := 2000000) [F70r16]
   (repeat refine ⟨by first | omega | (intros; omega) | assumption, ?_⟩); refine hK _ ?_
   refine AWp.cond _ (by rfl) (fun hlt => ?_) (fun hge => ?_)
   ·skip
    have hlt2 : k < v.l.length ∧ b = true := by simpa using hlt
    clear hlt
    obtain ⟨hlt, rfl⟩ := hlt2
    have hd := forms_drop v.l k hlt
    have hm := vsize_mem (List.getElem_mem hlt)
    have hc := ih v.l[k] (by omega) (by omega)
    refine AWp.skip ?_
    refine AWp.seq ?_
    refine AWp.block ?_
    refine AWp.regK [1,3,4] [false,false,false,false,false,false,true] F70r18 [{ r := bval (form v.l[k]) }] (by kernel_rfl) (by rw [hC]; rfl) fun K hK => ?_
    simp (maxSteps := 2000000) [F70r18, hlt]
    (repeat first | refine ⟨by first | kernel_rfl | (intros; omega) | assumption, ?_⟩ | refine ⟨by intros; exact callOK rfl hc, ?_⟩); refine hK _ ?_
    refine AWp.regK [1,3,4] [false,false,true] F70r17 [] (by kernel_rfl) (by rw [hC]; rfl) fun K hK => ?_
    simp (maxSteps := 2000000) [F70r17]
    (repeat refine ⟨by first | omega | (intros; omega) | assumption, ?_⟩); refine hK _ ?_
    refine ⟨(k + 1, form v.l[k]), ⟨by simp; omega, by rw [hk2, hd]; simp⟩, by simp; omega, ?_⟩
    simp [wrap_nat k (by omega)]
   refine AWp.exit ?_
   refine AWp.seq ?_
   refine AWp.regK [2] [true,true] F70r19 [] (by kernel_rfl) (by rw [hC]; rfl) fun K hK => ?_
   simp (maxSteps := 2000000) [F70r19]
   refine hK _ ?_
   repeat refine AWp.seq ?_
   refine AWp.ret ⟨.inr rfl, _, by simp [Tryz.results70] <;> rfl, ?_⟩
   refine .clos ?_ rfl
   rw [hk2]
   by_cases h : k < v.l.length
   ·simp [h] at hge; simp [hge]
   ·rw [List.drop_eq_nil_of_le (by omega)]; simp [forms]
  ·skip
   refine AWp.seq ?_
   refine AWp.regK [1,3,6] [] F70r2 [] (by kernel_rfl) (by rw [hC]; rfl) fun K hK => ?_
   simp (maxSteps := 2000000) [F70r2]
   refine hK _ ?_
   refine AWp.block ?_
   refine AWp.seq ?_
   refine AWp.regK [1,3,6,7] [false,true] F70r3 [] (by kernel_rfl) (by rw [hC]; rfl) fun K hK => ?_
   simp (maxSteps := 2000000) [F70r3]
   refine hK _ ?_
   refine AWp.cond _ (by rfl) (fun h1 => ?_) (fun h1 => ?_)
   ·skip
    have h1 : v.kind = 1 := by simpa using h1
    refine AWp.regK [1,3] [false,false,false,false,false,false,false,false,false,false,false,false,false,false,false,false,false,false,false,true] F70r4 [] (by kernel_rfl) (by rw [hC]; rfl) fun K hK => ?_
    simp (maxSteps := 2000000) [F70r4]
    (repeat refine ⟨by first | omega | (intros; omega) | assumption, ?_⟩); refine hK _ ?_
    refine hJ _ () trivial ?_
    have : formOwn v = ((decide (v.n = 0) || decide (v.n = 1)) && decide (v.s = ⟨#[]⟩) && decide (v.l.length = 0)) := by unfold formOwn; rw [if_pos h1]
    rw [this]
    simp [valB, Bool.and_assoc]
   have h1 : ¬ v.kind = 1 := by simpa using h1
   refine AWp.seq ?_
   refine AWp.regK [1,3,6,28] [false,true] F70r5 [] (by kernel_rfl) (by rw [hC]; rfl) fun K hK => ?_
   simp (maxSteps := 2000000) [F70r5]
   refine hK _ ?_
   refine AWp.cond _ (by rfl) (fun h2 => ?_) (fun h2 => ?_)
   ·skip
    have h2 : v.kind = 2 := by simpa using h2
    refine AWp.regK [1,3] [false,false,false,false,false,false,false,false,false,true] F70r6 [] (by kernel_rfl) (by rw [hC]; rfl) fun K hK => ?_
    simp (maxSteps := 2000000) [F70r6]
    (repeat refine ⟨by first | omega | (intros; omega) | assumption, ?_⟩); refine hK _ ?_
    refine hJ _ () trivial ?_
    have : formOwn v = (decide (v.s = ⟨#[]⟩) && decide (v.l.length = 0)) := by unfold formOwn; rw [if_neg h1, if_pos h2]
    rw [this]
    simp [valB]
   have h2 : ¬ v.kind = 2 := by simpa using h2
   refine AWp.seq ?_
   refine AWp.regK [1,3,6,39] [false,true] F70r7 [] (by kernel_rfl) (by rw [hC]; rfl) fun K hK => ?_
   simp (maxSteps := 2000000) [F70r7]
   refine hK _ ?_
   refine AWp.cond _ (by rfl) (fun h3 => ?_) (fun h3 => ?_)
   ·skip
    have h3 : v.kind = 3 := by simpa using h3
    have hc := Number_ok v.s (by omega)
    refine AWp.regK [1,3] [false,false,false,false,false,false,false,false,false,false,false,false,false,false,true] F70r8 [{ r := bval (Number v.s) }] (by kernel_rfl) (by rw [hC]; rfl) fun K hK => ?_
    simp (maxSteps := 2000000) [F70r8]
    (repeat first | refine ⟨by first | kernel_rfl | (intros; omega) | assumption, ?_⟩ | refine ⟨by intros; exact callOK rfl hc, ?_⟩); refine hK _ ?_
    refine hJ _ () trivial ?_
    have : formOwn v = (decide (v.n = 0) && decide (v.l.length = 0) && Number v.s) := by unfold formOwn; rw [if_neg h1, if_neg h2, if_pos h3]
    rw [this]
    simp [valB, Bool.and_assoc]
   have h3 : ¬ v.kind = 3 := by simpa using h3
   refine AWp.seq ?_
   refine AWp.regK [1,3,6,55] [false,true] F70r9 [] (by kernel_rfl) (by rw [hC]; rfl) fun K hK => ?_
   simp (maxSteps := 2000000) [F70r9]
   refine hK _ ?_
   refine AWp.cond _ (by rfl) (fun h4 => ?_) (fun h4 => ?_)
   ·skip
    have h4 : v.kind = 4 := by simpa using h4
    refine AWp.regK [1,3] [false,false,false,false,false,false,false,false,false,true] F70r10 [] (by kernel_rfl) (by rw [hC]; rfl) fun K hK => ?_
    simp (maxSteps := 2000000) [F70r10]
    (repeat refine ⟨by first | omega | (intros; omega) | assumption, ?_⟩); refine hK _ ?_
    refine hJ _ () trivial ?_
    have : formOwn v = (decide (v.n = 0) && decide (v.l.length = 0)) := by unfold formOwn; rw [if_neg h1, if_neg h2, if_neg h3, if_pos h4]
    rw [this]
    simp [valB]
   have h4 : ¬ v.kind = 4 := by simpa using h4
   refine AWp.seq ?_
   refine AWp.regK [1,3,6,66] [false,true] F70r11 [] (by kernel_rfl) (by rw [hC]; rfl) fun K hK => ?_
   simp (maxSteps := 2000000) [F70r11]
   refine hK _ ?_
   refine AWp.cond _ (by rfl) (fun h5 => ?_) (fun h5 => ?_)
   ·skip
    have h5 : v.kind = 5 := by simpa using h5
    refine AWp.regK [1,3] [false,false,false,false,false,false,false,false,false,false,false,false,false,false,true] F70r12 [] (by kernel_rfl) (by rw [hC]; rfl) fun K hK => ?_
    simp (maxSteps := 2000000) [F70r12]
    (repeat refine ⟨by first | omega | (intros; omega) | assumption, ?_⟩); refine hK _ ?_
    refine hJ _ () trivial ?_
    have : formOwn v = (decide (v.n = 0) && decide (v.s = ⟨#[]⟩) && !decide (v.l.length = 1)) := by unfold formOwn; rw [if_neg h1, if_neg h2, if_neg h3, if_neg h4, if_pos h5]
    rw [this]
    simp [valB, Bool.and_assoc]
   have h5 : ¬ v.kind = 5 := by simpa using h5
   refine AWp.seq ?_
   refine AWp.regK [1,3,82] [false,true] F70r13 [] (by kernel_rfl) (by rw [hC]; rfl) fun K hK => ?_
   simp (maxSteps := 2000000) [F70r13]
   refine hK _ ?_
   refine AWp.cond _ (by rfl) (fun h6 => ?_) (fun h6 => ?_)
   ·skip
    have h6 : v.kind = 6 := by simpa using h6
    have hc := Names_ok v.s (by omega)
    refine AWp.regK [1,3] [false,false,false,false,false,false,false,false,true] F70r14 [{ r := bval (Names v.s) }] (by kernel_rfl) (by rw [hC]; rfl) fun K hK => ?_
    simp (maxSteps := 2000000) [F70r14]
    (repeat first | refine ⟨by first | kernel_rfl | (intros; omega) | assumption, ?_⟩ | refine ⟨by intros; exact callOK rfl hc, ?_⟩); refine hK _ ?_
    refine hJ _ () trivial ?_
    have : formOwn v = (decide (v.n = 0) && Names v.s) := by unfold formOwn; rw [if_neg h1, if_neg h2, if_neg h3, if_neg h4, if_neg h5, if_pos h6]
    rw [this]
    simp [valB]
   have h6 : ¬ v.kind = 6 := by simpa using h6
   refine AWp.skip ?_
   refine hJ _ () trivial ?_
   have : formOwn v = false := by unfold formOwn; rw [if_neg h1, if_neg h2, if_neg h3, if_neg h4, if_neg h5, if_neg h6]
   rw [this]
   simp [valB]
theorem fits_ok : ∀ (n : Nat) (v : ValD), vsize v < n → vsize v ≤ 4194304 → form v = true → Con Tryz.prog 71 [valX v] (bval (fits v)) := by
 intro n
 induction n with
 | zero => intro v h; omega
 | succ n ih =>
  intro v hn hv hf
  have hsz := vsize_eq v
  have hlen := vsizes_len v.l
  have hfe := fits_eq v
  rw [form_eq, Bool.and_eq_true] at hf
  obtain ⟨hf1, hf2⟩ := hf
  refine Con.of_code Tryz.func71 (by kernel_rfl) rfl (by simp [Tryz.ntmps71]) fun C hC hM => ?_
  refine AWp.seq ?_
  refine AWp.regK [1] [false,true] F71r0 [] (by kernel_rfl) (by rw [hC]; rfl) fun K hK => ?_
  simp (maxSteps := 2000000) [F71r0]
  refine hK _ ?_
  refine AWp.seq ?_
  refine AWp.regK [1,3] [true] F71r1 [] (by kernel_rfl) (by rw [hC]; rfl) fun K hK => ?_
  simp (maxSteps := 2000000) [F71r1]
  refine hK _ ?_
  refine AWp.seqJ (fun _ : Unit => { tm := [(1, .ptr 1 0), (3, bval (fitsOwn v))], hp := [(1, valB v)] }) (fun _ => True) ?_ (fun hJ => ?_)
  ·skip
   rintro - -
   refine AWp.seq ?_
   refine AWp.seq ?_
   refine AWp.regK [1,3,4] [true] F71r11 [] (by kernel_rfl) (by rw [hC]; rfl) fun K hK => ?_
   simp (maxSteps := 2000000) [F71r11]
   refine hK _ ?_
   refine AWp.block ?_
   refine AWp.loopG (fun x : Nat × Bool => { tm := [(1, .ptr 1 0), (3, bval x.2), (4, ival x.1)], hp := [(1, valB v)] }) (fun x => x.1 ≤ v.l.length ∧ forms (v.l.drop x.1) = true ∧ fits v = (x.2 && fitss (v.l.drop x.1))) (fun x => v.l.length - x.1) (0, fitsOwn v) ⟨by omega, by simpa using hf2, by simpa using hfe⟩ (by simp) (fun x hk => ?_)
   obtain ⟨k, b⟩ := x
   obtain ⟨hk1, hk3, hk2⟩ := hk
   simp only at hk1 hk2 hk3
   refine AWp.seq ?_
   refine AWp.seq ?_
   refine AWp.regK [1,3,4,38] [] F71r12 [] (by kernel_rfl) (by rw [hC]; rfl) fun K hK => ?_
   simp (maxSteps := 2000000) [F71r12]
   (repeat refine ⟨by first | omega | (intros; omega) | assumption, ?_⟩); refine hK _ ?_
   refine AWp.cond _ (by rfl) (fun hlt => ?_) (fun hge => ?_)
   ·skip
    have hlt2 : k < v.l.length ∧ b = true := by simpa using hlt
    clear hlt
    obtain ⟨hlt, rfl⟩ := hlt2
    have hd := fitss_drop v.l k hlt
    have hd2 := forms_drop v.l k hlt
    rw [hk3] at hd2
    have hd3 := hd2.symm
    rw [Bool.and_eq_true] at hd3
    have hm := vsize_mem (List.getElem_mem hlt)
    have hc := ih v.l[k] (by omega) (by omega) hd3.1
    refine AWp.skip ?_
    refine AWp.seq ?_
    refine AWp.block ?_
    refine AWp.regK [1,3,4] [false,false,false,false,false,false,true] F71r14 [{ r := bval (fits v.l[k]) }] (by kernel_rfl) (by rw [hC]; rfl) fun K hK => ?_
    simp (maxSteps := 2000000) [F71r14, hlt]
    (repeat first | refine ⟨by first | kernel_rfl | (intros; omega) | assumption, ?_⟩ | refine ⟨by intros; exact callOK rfl hc, ?_⟩); refine hK _ ?_
    refine AWp.regK [1,3,4] [false,false,true] F71r13 [] (by kernel_rfl) (by rw [hC]; rfl) fun K hK => ?_
    simp (maxSteps := 2000000) [F71r13]
    (repeat refine ⟨by first | omega | (intros; omega) | assumption, ?_⟩); refine hK _ ?_
    refine ⟨(k + 1, fits v.l[k]), ⟨by simp; omega, hd3.2, by rw [hk2, hd]; simp⟩, by simp; omega, ?_⟩
    simp [wrap_nat k (by omega)]
   refine AWp.exit ?_
   refine AWp.seq ?_
   refine AWp.regK [2] [true,true] F71r15 [] (by kernel_rfl) (by rw [hC]; rfl) fun K hK => ?_
   simp (maxSteps := 2000000) [F71r15]
   refine hK _ ?_
   repeat refine AWp.seq ?_
   refine AWp.ret ⟨.inr rfl, _, by simp [Tryz.results71] <;> rfl, ?_⟩
   refine .clos ?_ rfl
   rw [hk2]
   by_cases h : k < v.l.length
   ·simp [h] at hge; simp [hge]
   ·rw [List.drop_eq_nil_of_le (by omega)]; simp [fitss]
  ·skip
   refine AWp.seq ?_
   refine AWp.regK [1,3,6] [] F71r2 [] (by kernel_rfl) (by rw [hC]; rfl) fun K hK => ?_
   simp (maxSteps := 2000000) [F71r2]
   refine hK _ ?_
   refine AWp.block ?_
   refine AWp.seq ?_
   refine AWp.regK [1,3,6,7] [false,true] F71r3 [] (by kernel_rfl) (by rw [hC]; rfl) fun K hK => ?_
   simp (maxSteps := 2000000) [F71r3]
   refine hK _ ?_
   refine AWp.cond _ (by rfl) (fun h3 => ?_) (fun h3 => ?_)
   ·skip
    have h3 : v.kind = 3 := by simpa using h3
    have hN : Number v.s = true := by
     unfold formOwn at hf1
     rw [if_neg (by omega), if_neg (by omega), if_pos h3] at hf1
     simp only [Bool.and_eq_true] at hf1; exact hf1.2
    have hc := Digits_ok v.s (Number_pos hN) (by omega)
    refine AWp.regK [1,3] [false,false,false,false,true] F71r4 [{ r := ival (Digits v.s) }] (by kernel_rfl) (by rw [hC]; rfl) fun K hK => ?_
    simp (maxSteps := 2000000) [F71r4]
    (repeat first | refine ⟨by first | kernel_rfl | (intros; omega) | assumption, ?_⟩ | refine ⟨by intros; exact callOK rfl hc, ?_⟩); refine hK _ ?_
    refine hJ _ () trivial ?_
    have : fitsOwn v = decide (Digits v.s ≤ 200) := by unfold fitsOwn; rw [if_pos h3]
    rw [this]
    simp [valB]
   have h3 : ¬ v.kind = 3 := by simpa using h3
   refine AWp.seq ?_
   refine AWp.regK [1,3,6,13] [false,true] F71r5 [] (by kernel_rfl) (by rw [hC]; rfl) fun K hK => ?_
   simp (maxSteps := 2000000) [F71r5]
   refine hK _ ?_
   refine AWp.cond _ (by rfl) (fun h4 => ?_) (fun h4 => ?_)
   ·skip
    have h4 : v.kind = 4 := by simpa using h4
    refine AWp.regK [1,3] [false,false,false,false,true] F71r6 [] (by kernel_rfl) (by rw [hC]; rfl) fun K hK => ?_
    simp (maxSteps := 2000000) [F71r6]
    refine hK _ ?_
    refine hJ _ () trivial ?_
    have : fitsOwn v = decide (v.s.size ≤ 4096) := by unfold fitsOwn; rw [if_neg h3, if_pos h4]
    rw [this]
    simp [valB]
    omega
   have h4 : ¬ v.kind = 4 := by simpa using h4
   refine AWp.seq ?_
   refine AWp.regK [1,3,6,19] [false,true] F71r7 [] (by kernel_rfl) (by rw [hC]; rfl) fun K hK => ?_
   simp (maxSteps := 2000000) [F71r7]
   refine hK _ ?_
   refine AWp.cond _ (by rfl) (fun h5 => ?_) (fun h5 => ?_)
   ·skip
    have h5 : v.kind = 5 := by simpa using h5
    refine AWp.regK [1,3] [false,false,false,false,true] F71r8 [] (by kernel_rfl) (by rw [hC]; rfl) fun K hK => ?_
    simp (maxSteps := 2000000) [F71r8]
    refine hK _ ?_
    refine hJ _ () trivial ?_
    have : fitsOwn v = decide (v.l.length ≤ 16) := by unfold fitsOwn; rw [if_neg h3, if_neg h4, if_pos h5]
    rw [this]
    simp [valB]
    omega
   have h5 : ¬ v.kind = 5 := by simpa using h5
   refine AWp.seq ?_
   refine AWp.regK [1,3,25] [false,true] F71r9 [] (by kernel_rfl) (by rw [hC]; rfl) fun K hK => ?_
   simp (maxSteps := 2000000) [F71r9]
   refine hK _ ?_
   refine AWp.cond _ (by rfl) (fun h6 => ?_) (fun h6 => ?_)
   ·skip
    have h6 : v.kind = 6 := by simpa using h6
    refine AWp.regK [1,3] [false,false,false,false,true] F71r10 [] (by kernel_rfl) (by rw [hC]; rfl) fun K hK => ?_
    simp (maxSteps := 2000000) [F71r10]
    refine hK _ ?_
    refine hJ _ () trivial ?_
    have : fitsOwn v = decide (v.l.length ≤ 8) := by unfold fitsOwn; rw [if_neg h3, if_neg h4, if_neg h5, if_pos h6]
    rw [this]
    simp [valB]
    omega
   have h6 : ¬ v.kind = 6 := by simpa using h6
   refine AWp.skip ?_
   refine hJ _ () trivial ?_
   have : fitsOwn v = true := by unfold fitsOwn; rw [if_neg h3, if_neg h4, if_neg h5, if_neg h6]
   rw [this]
   simp [valB]
theorem Depth_ok : ∀ (n : Nat) (v : ValD), vsize v < n → vsize v ≤ 4194304 → Con Tryz.prog 69 [valX v] (ival (depth v)) := by
 intro n
 induction n with
 | zero => intro v h; omega
 | succ n ih =>
  intro v hn hv
  have hsz := vsize_eq v
  have hlen := vsizes_len v.l
  have hfe := depth_eq v
  have hle := depths_le v.l
  refine Con.of_code Tryz.func69 (by kernel_rfl) rfl (by simp [Tryz.ntmps69]) fun C hC hM => ?_
  refine AWp.seq ?_
  refine AWp.regK [1] [false,true] F69r0 [] (by kernel_rfl) (by rw [hC]; rfl) fun K hK => ?_
  simp (maxSteps := 2000000) [F69r0]
  refine hK _ ?_
  refine AWp.seq ?_
  refine AWp.regK [1,3] [true] F69r1 [] (by kernel_rfl) (by rw [hC]; rfl) fun K hK => ?_
  simp (maxSteps := 2000000) [F69r1]
  refine hK _ ?_
  refine AWp.seq ?_
  refine AWp.seq ?_
  refine AWp.regK [1,3,4] [true] F69r2 [] (by kernel_rfl) (by rw [hC]; rfl) fun K hK => ?_
  simp (maxSteps := 2000000) [F69r2]
  refine hK _ ?_
  refine AWp.block ?_
  refine AWp.loopG (fun k : Nat => { tm := [(1, .ptr 1 0), (3, ival (depths (v.l.take k))), (4, ival k)], hp := [(1, valB v)] }) (fun k => k ≤ v.l.length) (fun k => v.l.length - k) 0 (by omega) (by simp [depths]) (fun k hk => ?_)
  refine AWp.seq ?_
  refine AWp.seq ?_
  refine AWp.regK [1,3,4,9] [] F69r3 [] (by kernel_rfl) (by rw [hC]; rfl) fun K hK => ?_
  simp (maxSteps := 2000000) [F69r3]
  refine hK _ ?_
  refine AWp.cond _ (by rfl) (fun hlt => ?_) (fun hge => ?_)
  ·skip
   have hlt : k < v.l.length := by simpa using hlt
   have hd := depths_take v.l k hlt
   have hm := vsize_mem (List.getElem_mem hlt)
   have hc := ih v.l[k] (by omega) (by omega)
   refine AWp.skip ?_
   refine AWp.seq ?_
   refine AWp.block ?_
   refine AWp.regK [1,3,4] [false,false,false,false,false,false,false,false,true] F69r5 [{ r := ival (depth v.l[k]) }] (by kernel_rfl) (by rw [hC]; rfl) fun K hK => ?_
   simp (maxSteps := 2000000) [F69r5, hlt]
   (repeat first | refine ⟨by first | kernel_rfl | (intros; omega) | assumption, ?_⟩ | refine ⟨by intros; exact callOK rfl hc, ?_⟩); refine hK _ ?_
   refine AWp.regK [1,3,4] [false,false,true] F69r4 [] (by kernel_rfl) (by rw [hC]; rfl) fun K hK => ?_
   simp (maxSteps := 2000000) [F69r4]
   (repeat refine ⟨by first | omega | (intros; omega) | assumption, ?_⟩); refine hK _ ?_
   refine ⟨k + 1, by omega, by omega, ?_⟩
   simp [wrap_nat k (by omega), hd]
   split <;> omega
  have hge : ¬ k < v.l.length := by simpa using hge
  refine AWp.exit ?_
  refine AWp.seq ?_
  refine AWp.regK [2] [false,false,true] F69r6 [] (by kernel_rfl) (by rw [hC]; rfl) fun K hK => ?_
  simp (maxSteps := 2000000) [F69r6]
  (repeat refine ⟨by first | omega | (intros; omega) | assumption, ?_⟩); refine hK _ ?_
  repeat refine AWp.seq ?_
  refine AWp.ret ⟨.inr rfl, _, by simp [Tryz.results69] <;> rfl, ?_⟩
  refine .clos ?_ rfl
  rw [hfe, List.take_of_length_le (by omega)]
  simp
  rw [wrap_in (by omega) (by omega)]
theorem Check_ok (v : ValD) (hv : vsize v ≤ 4194304) : Con Tryz.prog 58 [valX v] (ival (Check v)) := by
 have h1 := Depth_ok _ v (Nat.lt_succ_self _) hv
 have h2 := form_ok _ v (Nat.lt_succ_self _) hv
 refine Con.of_code Tryz.func58 (by kernel_rfl) rfl (by simp [Tryz.ntmps58]) fun C hC hM => ?_
 refine AWp.seq ?_
 refine AWp.regK [1] [false,true] F58r0 [] (by kernel_rfl) (by rw [hC]; rfl) fun K hK => ?_
 simp (maxSteps := 2000000) [F58r0]
 refine hK _ ?_
 refine AWp.seq ?_
 refine AWp.seq ?_
 refine AWp.regK [1,5] [] F58r1 [{ r := ival (depth v) }] (by kernel_rfl) (by rw [hC]; rfl) fun K hK => ?_
 simp (maxSteps := 2000000) [F58r1]
 (repeat first | refine ⟨by first | kernel_rfl | (intros; omega) | assumption, ?_⟩ | refine ⟨by intros; exact callOK rfl h1, ?_⟩); refine hK _ ?_
 refine AWp.cond _ (by rfl) (fun hd => ?_) (fun hd => ?_)
 ·skip
  refine AWp.seq ?_
  refine AWp.regK [2] [true] F58r2 [] (by kernel_rfl) (by rw [hC]; rfl) fun K hK => ?_
  simp (maxSteps := 2000000) [F58r2]
  refine hK _ ?_
  repeat refine AWp.seq ?_
  refine AWp.ret ⟨.inr rfl, _, by simp [Tryz.results58] <;> rfl, ?_⟩
  refine .clos ?_ rfl
  simp at hd
  unfold Check
  rw [if_pos (by omega)]; rfl
 simp at hd
 refine AWp.skip ?_
 refine AWp.seq ?_
 refine AWp.seq ?_
 refine AWp.regK [1,8] [] F58r3 [{ r := bval (form v) }] (by kernel_rfl) (by rw [hC]; rfl) fun K hK => ?_
 simp (maxSteps := 2000000) [F58r3]
 (repeat first | refine ⟨by first | kernel_rfl | (intros; omega) | assumption, ?_⟩ | refine ⟨by intros; exact callOK rfl h2, ?_⟩); refine hK _ ?_
 refine AWp.cond _ (by rfl) (fun hf => ?_) (fun hf => ?_)
 ·skip
  refine AWp.seq ?_
  refine AWp.regK [2] [true] F58r4 [] (by kernel_rfl) (by rw [hC]; rfl) fun K hK => ?_
  simp (maxSteps := 2000000) [F58r4]
  refine hK _ ?_
  repeat refine AWp.seq ?_
  refine AWp.ret ⟨.inr rfl, _, by simp [Tryz.results58] <;> rfl, ?_⟩
  refine .clos ?_ rfl
  simp at hf
  unfold Check
  rw [if_neg (by omega), if_pos hf]; rfl
 simp at hf
 have h3 := fits_ok _ v (Nat.lt_succ_self _) hv hf
 refine AWp.skip ?_
 refine AWp.seq ?_
 refine AWp.seq ?_
 refine AWp.regK [11] [] F58r5 [{ r := bval (fits v) }] (by kernel_rfl) (by rw [hC]; rfl) fun K hK => ?_
 simp (maxSteps := 2000000) [F58r5]
 (repeat first | refine ⟨by first | kernel_rfl | (intros; omega) | assumption, ?_⟩ | refine ⟨by intros; exact callOK rfl h3, ?_⟩); refine hK _ ?_
 refine AWp.cond _ (by rfl) (fun hg => ?_) (fun hg => ?_)
 ·skip
  refine AWp.seq ?_
  refine AWp.regK [2] [true] F58r6 [] (by kernel_rfl) (by rw [hC]; rfl) fun K hK => ?_
  simp (maxSteps := 2000000) [F58r6]
  refine hK _ ?_
  repeat refine AWp.seq ?_
  refine AWp.ret ⟨.inr rfl, _, by simp [Tryz.results58] <;> rfl, ?_⟩
  refine .clos ?_ rfl
  simp at hg
  unfold Check
  rw [if_neg (by omega), if_neg (by simp [hf]), if_pos hg]; rfl
 simp at hg
 refine AWp.skip ?_
 refine AWp.seq ?_
 refine AWp.regK [2] [true] F58r7 [] (by kernel_rfl) (by rw [hC]; rfl) fun K hK => ?_
 simp (maxSteps := 2000000) [F58r7]
 refine hK _ ?_
 repeat refine AWp.seq ?_
 refine AWp.ret ⟨.inr rfl, _, by simp [Tryz.results58] <;> rfl, ?_⟩
 refine .clos ?_ rfl
 unfold Check
 rw [if_neg (by omega), if_neg (by simp [hf]), if_neg (by simp [hg])]; rfl