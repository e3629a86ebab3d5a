/- The document's values: may one be? -/
import Derived.Test.YtdobngcdgkallaaGreatDoorProg
import Derived.Test.YtdobngcdgkallaaGreatDoorAlSp
set_option linter.unusedSimpArgs false
set_option linter.unusedVariables false
set_option linter.unusedSectionVars false
open Go Go.Aw Go.Proofs
namespace Go.Al
theorem ops_mixed : Tryz.prog.follows .mixedOrders = true := by kernel_rfl
-- function 68: corollary/corollaryref02.letter
def F68r0 : List ROp := [⟨some 2,.copy true (.const (.bool false)),[],none⟩]
def F68r1 : List ROp := [⟨some 3,.copy false (.tmp 0),[],none⟩,
 ⟨some 4,.bin .geq (.tmp 3) (.const (.int .u8 97)),[],none⟩,
 ⟨some 5,.copy false (.tmp 4),[],none⟩,
 ⟨some 6,.copy false (.tmp 0),[],some (5,true)⟩,
 ⟨some 7,.bin .leq (.tmp 6) (.const (.int .u8 122)),[],some (5,true)⟩,
 ⟨some 8,.pick (.tmp 5) (.tmp 7) (.const (.bool false)),[],none⟩,
 ⟨some 2,.copy true (.tmp 8),[],none⟩]
-- function 57: corollary/corollaryref02.Name
def F57r0 : List ROp := [⟨some 2,.copy true (.const (.bool false)),[],none⟩]
def F57r1 : List ROp := [⟨some 5,.copy false (.tmp 0),[],none⟩,
 ⟨some 6,.bin .eql (.tmp 5) (.const (.string { data := #[] })),[],none⟩,
 ⟨some 7,.copy false (.tmp 6),[],none⟩,
 ⟨some 8,.copy false (.tmp 0),[],some (7,false)⟩,
 ⟨some 9,.len 1 (.tmp 8),[],some (7,false)⟩,
 ⟨some 10,.bin .gtr (.tmp 9) (.const (.int .i64 32)),[],some (7,false)⟩,
 ⟨some 11,.pick (.tmp 7) (.const (.bool true)) (.tmp 10),[],none⟩,
 ⟨some 12,.copy false (.tmp 11),[],none⟩,
 ⟨some 13,.copy false (.tmp 0),[],some (12,false)⟩,
 ⟨some 14,.idxs (.tmp 13) (.const (.int .i64 0)),[],some (12,false)⟩,
 ⟨some 15,.call (.func 68) [.tmp 14],[],some (12,false)⟩,
 ⟨some 16,.un .not (.tmp 15),[],some (12,false)⟩,
 ⟨some 17,.pick (.tmp 12) (.const (.bool true)) (.tmp 16),[],none⟩]
def F57r2 : List ROp := [⟨some 2,.copy true (.const (.bool false)),[],none⟩]
def F57r3 : List ROp := [⟨some 3,.copy true (.const (.int .i64 0)),[],none⟩]
def F57r4 : List ROp := [⟨some 18,.copy false (.tmp 3),[],none⟩,
 ⟨some 19,.copy false (.tmp 0),[],none⟩,
 ⟨some 20,.len 1 (.tmp 19),[],none⟩,
 ⟨some 21,.bin .lss (.tmp 18) (.tmp 20),[],none⟩]
def F57r5 : List ROp := [⟨some 22,.copy false (.tmp 3),[],none⟩,
 ⟨some 23,.bin .add (.tmp 22) (.const (.int .i64 1)),[],none⟩,
 ⟨some 3,.copy true (.tmp 23),[],none⟩]
def F57r6 : List ROp := [⟨some 24,.copy false (.tmp 0),[],none⟩,
 ⟨some 25,.copy false (.tmp 3),[],none⟩,
 ⟨some 26,.idxs (.tmp 24) (.tmp 25),[],none⟩,
 ⟨some 4,.copy true (.tmp 26),[],none⟩]
def F57r7 : List ROp := [⟨some 27,.copy false (.tmp 4),[],none⟩,
 ⟨some 28,.call (.func 68) [.tmp 27],[],none⟩,
 ⟨some 29,.un .not (.tmp 28),[],none⟩,
 ⟨some 30,.copy false (.tmp 29),[],none⟩,
 ⟨some 31,.copy false (.tmp 4),[],some (30,true)⟩,
 ⟨some 32,.bin .geq (.tmp 31) (.const (.int .u8 65)),[],some (30,true)⟩,
 ⟨some 33,.copy false (.tmp 32),[],some (30,true)⟩,
 ⟨some 34,.copy false (.tmp 4),[],some (33,true)⟩,
 ⟨some 35,.bin .leq (.tmp 34) (.const (.int .u8 90)),[],some (33,true)⟩,
 ⟨some 36,.pick (.tmp 33) (.tmp 35) (.const (.bool false)),[],some (30,true)⟩,
 ⟨some 37,.un .not (.tmp 36),[],some (30,true)⟩,
 ⟨some 38,.pick (.tmp 30) (.tmp 37) (.const (.bool false)),[],none⟩,
 ⟨some 39,.copy false (.tmp 38),[],none⟩,
 ⟨some 40,.copy false (.tmp 4),[],some (39,true)⟩,
 ⟨some 41,.bin .geq (.tmp 40) (.const (.int .u8 48)),[],some (39,true)⟩,
 ⟨some 42,.copy false (.tmp 41),[],some (39,true)⟩,
 ⟨some 43,.copy false (.tmp 4),[],some (42,true)⟩,
 ⟨some 44,.bin .leq (.tmp 43) (.const (.int .u8 57)),[],some (42,true)⟩,
 ⟨some 45,.pick (.tmp 42) (.tmp 44) (.const (.bool false)),[],some (39,true)⟩,
 ⟨some 46,.un .not (.tmp 45),[],some (39,true)⟩,
 ⟨some 47,.pick (.tmp 39) (.tmp 46) (.const (.bool false)),[],none⟩,
 ⟨some 48,.copy false (.tmp 47),[],none⟩,
 ⟨some 49,.copy false (.tmp 4),[],some (48,true)⟩,
 ⟨some 50,.bin .neq (.tmp 49) (.const (.int .u8 95)),[],some (48,true)⟩,
 ⟨some 51,.pick (.tmp 48) (.tmp 50) (.const (.bool false)),[],none⟩]
def F57r8 : List ROp := [⟨some 2,.copy true (.const (.bool false)),[],none⟩]
def F57r9 : List ROp := [⟨some 2,.copy true (.const (.bool true)),[],none⟩]
-- function 96: corollary/corollaryref02.Names
def F96r0 : List ROp := [⟨some 2,.copy true (.const (.bool false)),[],none⟩]
def F96r1 : List ROp := [⟨some 4,.copy false (.tmp 0),[],none⟩,
 ⟨some 5,.bin .eql (.tmp 4) (.const (.string { data := #[116,114,117,101] })),[],none⟩,
 ⟨some 6,.copy false (.tmp 5),[],none⟩,
 ⟨some 7,.copy false (.tmp 0),[],some (6,false)⟩,
 ⟨some 8,.bin .eql (.tmp 7) (.const (.string { data := #[102,97,108,115,101] })),[],some (6,false)⟩,
 ⟨some 9,.pick (.tmp 6) (.const (.bool true)) (.tmp 8),[],none⟩]
def F96r2 : List ROp := [⟨some 2,.copy true (.const (.bool false)),[],none⟩]
def F96r3 : List ROp := [⟨some 3,.copy true (.const (.int .i64 0)),[],none⟩]
def F96r4 : List ROp := [⟨some 10,.copy false (.tmp 3),[],none⟩,
 ⟨some 11,.copy false (.tmp 0),[],none⟩,
 ⟨some 12,.len 1 (.tmp 11),[],none⟩,
 ⟨some 13,.bin .lss (.tmp 10) (.tmp 12),[],none⟩]
def F96r5 : List ROp := [⟨some 14,.copy false (.tmp 3),[],none⟩,
 ⟨some 15,.bin .add (.tmp 14) (.const (.int .i64 1)),[],none⟩,
 ⟨some 3,.copy true (.tmp 15),[],none⟩]
def F96r6 : List ROp := [⟨some 16,.copy false (.tmp 0),[],none⟩,
 ⟨some 17,.copy false (.tmp 3),[],none⟩,
 ⟨some 18,.idxs (.tmp 16) (.tmp 17),[],none⟩,
 ⟨some 19,.bin .eql (.tmp 18) (.const (.int .u8 46)),[],none⟩]
def F96r7 : List ROp := [⟨some 20,.copy false (.tmp 0),[],none⟩,
 ⟨some 21,.copy false (.tmp 3),[],none⟩,
 ⟨some 22,.subs (.tmp 20) none (some (.tmp 21)),[],none⟩,
 ⟨some 23,.call (.func 57) [.tmp 22],[],none⟩,
 ⟨some 24,.copy false (.tmp 23),[],none⟩,
 ⟨some 25,.copy false (.tmp 0),[],some (24,true)⟩,
 ⟨some 26,.copy false (.tmp 3),[],some (24,true)⟩,
 ⟨some 27,.bin .add (.tmp 26) (.const (.int .i64 1)),[],some (24,true)⟩,
 ⟨some 28,.subs (.tmp 25) (some (.tmp 27)) none,[],some (24,true)⟩,
 ⟨some 29,.call (.func 57) [.tmp 28],[],some (24,true)⟩,
 ⟨some 30,.pick (.tmp 24) (.tmp 29) (.const (.bool false)),[],none⟩,
 ⟨some 2,.copy true (.tmp 30),[],none⟩]
def F96r8 : List ROp := [⟨some 31,.copy false (.tmp 0),[],none⟩,
 ⟨some 32,.call (.func 57) [.tmp 31],[],none⟩,
 ⟨some 2,.copy true (.tmp 32),[],none⟩]
-- function 95: corollary/corollaryref02.Number
def F95r0 : List ROp := [⟨some 2,.copy true (.const (.bool false)),[],none⟩]
def F95r1 : List ROp := [⟨some 4,.copy false (.tmp 0),[],none⟩,
 ⟨some 5,.len 1 (.tmp 4),[],none⟩,
 ⟨some 6,.bin .gtr (.tmp 5) (.const (.int .i64 1)),[],none⟩,
 ⟨some 7,.copy false (.tmp 6),[],none⟩,
 ⟨some 8,.copy false (.tmp 0),[],some (7,true)⟩,
 ⟨some 9,.idxs (.tmp 8) (.const (.int .i64 0)),[],some (7,true)⟩,
 ⟨some 10,.bin .eql (.tmp 9) (.const (.int .u8 45)),[],some (7,true)⟩,
 ⟨some 11,.pick (.tmp 7) (.tmp 10) (.const (.bool false)),[],none⟩]
def F95r2 : List ROp := [⟨some 12,.copy false (.tmp 0),[],none⟩,
 ⟨some 13,.subs (.tmp 12) (some (.const (.int .i64 1))) none,[],none⟩,
 ⟨some 0,.copy true (.tmp 13),[],none⟩]
def F95r3 : List ROp := [⟨some 14,.copy false (.tmp 0),[],none⟩,
 ⟨some 15,.idxs (.tmp 14) (.const (.int .i64 0)),[],none⟩,
 ⟨some 16,.bin .eql (.tmp 15) (.const (.int .u8 48)),[],none⟩]
def F95r4 : List ROp := [⟨some 2,.copy true (.const (.bool false)),[],none⟩]
def F95r5 : List ROp := [⟨some 17,.copy false (.tmp 0),[],none⟩,
 ⟨some 18,.bin .eql (.tmp 17) (.const (.string { data := #[] })),[],none⟩,
 ⟨some 19,.copy false (.tmp 18),[],none⟩,
 ⟨some 20,.copy false (.tmp 0),[],some (19,false)⟩,
 ⟨some 21,.len 1 (.tmp 20),[],some (19,false)⟩,
 ⟨some 22,.bin .gtr (.tmp 21) (.const (.int .i64 1)),[],some (19,false)⟩,
 ⟨some 23,.copy false (.tmp 22),[],some (19,false)⟩,
 ⟨some 24,.copy false (.tmp 0),[],some (23,true)⟩,
 ⟨some 25,.idxs (.tmp 24) (.const (.int .i64 0)),[],some (23,true)⟩,
 ⟨some 26,.bin .eql (.tmp 25) (.const (.int .u8 48)),[],some (23,true)⟩,
 ⟨some 27,.pick (.tmp 23) (.tmp 26) (.const (.bool false)),[],some (19,false)⟩,
 ⟨some 28,.pick (.tmp 19) (.const (.bool true)) (.tmp 27),[],none⟩]
def F95r6 : List ROp := [⟨some 2,.copy true (.const (.bool false)),[],none⟩]
def F95r7 : List ROp := [⟨some 3,.copy true (.const (.int .i64 0)),[],none⟩]
def F95r8 : List ROp := [⟨some 29,.copy false (.tmp 3),[],none⟩,
 ⟨some 30,.copy false (.tmp 0),[],none⟩,
 ⟨some 31,.len 1 (.tmp 30),[],none⟩,
 ⟨some 32,.bin .lss (.tmp 29) (.tmp 31),[],none⟩]
def F95r9 : List ROp := [⟨some 33,.copy false (.tmp 3),[],none⟩,
 ⟨some 34,.bin .add (.tmp 33) (.const (.int .i64 1)),[],none⟩,
 ⟨some 3,.copy true (.tmp 34),[],none⟩]
def F95r10 : List ROp := [⟨some 35,.copy false (.tmp 0),[],none⟩,
 ⟨some 36,.copy false (.tmp 3),[],none⟩,
 ⟨some 37,.idxs (.tmp 35) (.tmp 36),[],none⟩,
 ⟨some 38,.bin .lss (.tmp 37) (.const (.int .u8 48)),[],none⟩,
 ⟨some 39,.copy false (.tmp 38),[],none⟩,
 ⟨some 40,.copy false (.tmp 0),[],some (39,false)⟩,
 ⟨some 41,.copy false (.tmp 3),[],some (39,false)⟩,
 ⟨some 42,.idxs (.tmp 40) (.tmp 41),[],some (39,false)⟩,
 ⟨some 43,.bin .gtr (.tmp 42) (.const (.int .u8 57)),[],some (39,false)⟩,
 ⟨some 44,.pick (.tmp 39) (.const (.bool true)) (.tmp 43),[],none⟩]
def F95r11 : List ROp := [⟨some 2,.copy true (.const (.bool false)),[],none⟩]
def F95r12 : List ROp := [⟨some 2,.copy true (.const (.bool true)),[],none⟩]
-- function 97: corollary/corollaryref02.Digits
def F97r0 : List ROp := [⟨some 2,.copy true (.const (.int .i64 0)),[],none⟩]
def F97r1 : List ROp := [⟨some 3,.copy false (.tmp 0),[],none⟩,
 ⟨some 4,.idxs (.tmp 3) (.const (.int .i64 0)),[],none⟩,
 ⟨some 5,.bin .eql (.tmp 4) (.const (.int .u8 45)),[],none⟩]
def F97r2 : List ROp := [⟨some 6,.copy false (.tmp 0),[],none⟩,
 ⟨some 7,.len 1 (.tmp 6),[],none⟩,
 ⟨some 8,.bin .sub (.tmp 7) (.const (.int .i64 1)),[],none⟩,
 ⟨some 2,.copy true (.tmp 8),[],none⟩]
def F97r3 : List ROp := [⟨some 9,.copy false (.tmp 0),[],none⟩,
 ⟨some 10,.len 1 (.tmp 9),[],none⟩,
 ⟨some 2,.copy true (.tmp 10),[],none⟩]
theorem letter_ok (c : Int) : Con Tryz.prog 68 [uval c] (bval (letterB c)) := by
 refine Con.of_code Tryz.func68 (by kernel_rfl) rfl (by simp [Tryz.ntmps68]) fun C hC hM => ?_
 refine AWp.seq ?_
 refine AWp.regK [0] [true] F68r0 [] (by kernel_rfl) (by rw [hC]; rfl) fun K hK => ?_
 simp (maxSteps := 2000000) [F68r0]
 refine hK _ ?_
 refine AWp.seq ?_
 refine AWp.regK [2] [false,false,false,false,false,false,true] F68r1 [] (by kernel_rfl) (by rw [hC]; rfl) fun K hK => ?_
 simp (maxSteps := 2000000) [F68r1]
 (repeat refine ⟨by first | omega | (intros; omega) | assumption, ?_⟩); refine hK _ ?_
 refine AWp.ret ⟨.inr rfl, _, by simp [Tryz.results68] <;> rfl, ?_⟩
 exact .clos (by simp [letterB]) rfl
theorem Name_ok (s : ByteArray) (hs : s.size ≤ 4194304) : Con Tryz.prog 57 [sval s] (bval (Name s)) := by
 have hl0 := letter_ok (chr s 0)
 refine Con.of_code Tryz.func57 (by kernel_rfl) rfl (by simp [Tryz.ntmps57]) fun C hC hM => ?_
 refine AWp.seq ?_
 refine AWp.regK [0] [true] F57r0 [] (by kernel_rfl) (by rw [hC]; rfl) fun K hK => ?_
 simp (maxSteps := 2000000) [F57r0]
 refine hK _ ?_
 refine AWp.seq ?_
 refine AWp.seq ?_
 refine AWp.regK [0,17] [] F57r1 [{ r := bval (letterB (chr s 0)) }] (by kernel_rfl) (by rw [hC]; rfl) fun K hK => ?_
 simp (maxSteps := 2000000) [F57r1]
 (repeat first | refine ⟨by first | kernel_rfl | (intros; omega) | assumption, ?_⟩ | refine ⟨fun h _ => size_pos h, ?_⟩ | refine ⟨by intros; exact callOK rfl hl0, ?_⟩); refine hK _ ?_
 refine AWp.cond _ (by rfl) (fun h1 => ?_) (fun h1 => ?_)
 ·skip
  refine AWp.seq ?_
  refine AWp.regK [2] [true] F57r2 [] (by kernel_rfl) (by rw [hC]; rfl) fun K hK => ?_
  simp (maxSteps := 2000000) [F57r2]
  refine hK _ ?_
  repeat refine AWp.seq ?_
  refine AWp.ret ⟨.inr rfl, _, by simp [Tryz.results57] <;> rfl, ?_⟩
  refine .clos ?_ rfl
  have : Name s = false := by
   unfold Name
   by_cases a : s = ⟨#[]⟩
   ·simp [a]
   ·by_cases b : (32 : Int) < s.size
    ·simp [show ¬ s.size ≤ 32 by omega]
    ·simp [a, b] at h1; simp [h1]
  rw [this]; rfl
 have h2 : Name s = allFrom nameB s 0 := by
  unfold Name
  by_cases a : s = ⟨#[]⟩
  ·simp [a] at h1
  ·by_cases b : (32 : Int) < s.size
   ·simp [a, b] at h1
   ·simp [a, b] at h1; simp [h1, a, show s.size ≤ 32 by omega]
 rw [h2]
 refine AWp.skip ?_
 refine AWp.seq ?_
 refine AWp.seq ?_
 refine AWp.regK [0,3] [true] F57r3 [] (by kernel_rfl) (by rw [hC]; rfl) fun K hK => ?_
 simp (maxSteps := 2000000) [F57r3]
 refine hK _ ?_
 refine AWp.block ?_
 refine AWp.loopG (fun k : Nat => { tm := [(0, sval s), (3, ival k)], hp := [] }) (fun k => k ≤ s.size ∧ allFrom nameB s 0 = allFrom nameB s k) (fun k => s.size - k) 0 ⟨by omega, rfl⟩ (by simp) (fun k hk => ?_)
 obtain ⟨hk1, hk2⟩ := hk
 refine AWp.seq ?_
 refine AWp.seq ?_
 refine AWp.regK [0,3,21] [] F57r4 [] (by kernel_rfl) (by rw [hC]; rfl) fun K hK => ?_
 simp (maxSteps := 2000000) [F57r4]
 refine hK _ ?_
 refine AWp.cond _ (by rfl) (fun hlt => ?_) (fun hge => ?_)
 ·skip
  have hlt : k < s.size := by simpa using hlt
  have hst := allFrom_step nameB s k hlt
  have hlk := letter_ok (chr s k)
  refine AWp.skip ?_
  refine AWp.seq ?_
  refine AWp.block ?_
  refine AWp.seq ?_
  refine AWp.regK [0,3,4] [false,false,false,true] F57r6 [] (by kernel_rfl) (by rw [hC]; rfl) fun K hK => ?_
  simp (maxSteps := 2000000) [F57r6, hlt]
  (repeat refine ⟨by first | omega | (intros; omega) | (intros; exact sz_pos (by assumption)) | assumption, ?_⟩); refine hK _ ?_
  refine AWp.seq ?_
  refine AWp.regK [0,3,51] [] F57r7 [{ r := bval (letterB (chr s k)) }] (by kernel_rfl) (by rw [hC]; rfl) fun K hK => ?_
  simp (maxSteps := 2000000) [F57r7]
  (repeat first | refine ⟨by first | kernel_rfl | (intros; omega) | assumption, ?_⟩ | refine ⟨by intros; exact callOK rfl hlk, ?_⟩); refine hK _ ?_
  refine AWp.cond _ (by rfl) (fun hn => ?_) (fun hn => ?_)
  ·skip
   have hn : nameB (chr s k) = false := by
    unfold nameB
    cases h : letterB (chr s k) <;> simp [h] at hn ⊢
    omega
   refine AWp.seq ?_
   refine AWp.regK [2] [true] F57r8 [] (by kernel_rfl) (by rw [hC]; rfl) fun K hK => ?_
   simp (maxSteps := 2000000) [F57r8]
   refine hK _ ?_
   repeat refine AWp.seq ?_
   refine AWp.ret ⟨.inr rfl, _, by simp [Tryz.results57] <;> rfl, ?_⟩
   rw [hk2, hst, hn]
   exact .closed rfl
  have hn : nameB (chr s k) = true := by
   unfold nameB
   cases h : letterB (chr s k) <;> simp [h] at hn ⊢
   omega
  refine AWp.skip ?_
  refine AWp.regK [0,3] [false,false,true] F57r5 [] (by kernel_rfl) (by rw [hC]; rfl) fun K hK => ?_
  simp (maxSteps := 2000000) [F57r5]
  (repeat refine ⟨by first | omega | (intros; omega) | assumption, ?_⟩); refine hK _ ?_
  refine ⟨k + 1, ⟨by omega, by rw [hk2, hst, hn]; rfl⟩, by omega, ?_⟩
  simp [wrap_nat k (by omega)]
 have hge : ¬ k < s.size := by simpa using hge
 refine AWp.exit ?_
 refine AWp.seq ?_
 refine AWp.regK [2] [true] F57r9 [] (by kernel_rfl) (by rw [hC]; rfl) fun K hK => ?_
 simp (maxSteps := 2000000) [F57r9]
 refine hK _ ?_
 repeat refine AWp.seq ?_
 refine AWp.ret ⟨.inr rfl, _, by simp [Tryz.results57] <;> rfl, ?_⟩
 rw [hk2, allFrom_end nameB s k (by omega)]
 exact .closed rfl
theorem Names_ok (s : ByteArray) (hs : s.size ≤ 4194304) : Con Tryz.prog 96 [sval s] (bval (Names s)) := by
 refine Con.of_code Tryz.func96 (by kernel_rfl) rfl (by simp [Tryz.ntmps96]) fun C hC hM => ?_
 refine AWp.seq ?_
 refine AWp.regK [0] [true] F96r0 [] (by kernel_rfl) (by rw [hC]; rfl) fun K hK => ?_
 simp (maxSteps := 2000000) [F96r0]
 refine hK _ ?_
 refine AWp.seq ?_
 refine AWp.seq ?_
 refine AWp.regK [0,9] [] F96r1 [] (by kernel_rfl) (by rw [hC]; rfl) fun K hK => ?_
 simp (maxSteps := 2000000) [F96r1]
 (repeat refine ⟨by first | omega | (intros; omega) | assumption, ?_⟩); refine hK _ ?_
 refine AWp.cond _ (by rfl) (fun h1 => ?_) (fun h1 => ?_)
 ·skip
  refine AWp.seq ?_
  refine AWp.regK [2] [true] F96r2 [] (by kernel_rfl) (by rw [hC]; rfl) fun K hK => ?_
  simp (maxSteps := 2000000) [F96r2]
  refine hK _ ?_
  repeat refine AWp.seq ?_
  refine AWp.ret ⟨.inr rfl, _, by simp [Tryz.results96] <;> rfl, ?_⟩
  refine .clos ?_ rfl
  have : Names s = false := by unfold Names; simp [tTrue, tFalse] at h1 ⊢; rcases h1 with h | h <;> simp [h]
  rw [this]; rfl
 have h2 : Names s = (if dotFrom s 0 < s.size then Name (s.extract 0 (dotFrom s 0)) && Name (s.extract (dotFrom s 0 + 1) s.size) else Name s) := by
  unfold Names
  simp only [tTrue, tFalse]
  simp at h1
  simp [h1]
 rw [h2]
 have hdl := dotFrom_le s s.size 0 (by omega)
 refine AWp.skip ?_
 refine AWp.seq ?_
 refine AWp.seq ?_
 refine AWp.regK [0,3] [true] F96r3 [] (by kernel_rfl) (by rw [hC]; rfl) fun K hK => ?_
 simp (maxSteps := 2000000) [F96r3]
 refine hK _ ?_
 refine AWp.block ?_
 refine AWp.loopG (fun k : Nat => { tm := [(0, sval s), (3, ival k)], hp := [] }) (fun k => k ≤ s.size ∧ dotFrom s 0 = dotFrom s k) (fun k => s.size - k) 0 ⟨by omega, rfl⟩ (by simp) (fun k hk => ?_)
 obtain ⟨hk1, hk2⟩ := hk
 refine AWp.seq ?_
 refine AWp.seq ?_
 refine AWp.regK [0,3,13] [] F96r4 [] (by kernel_rfl) (by rw [hC]; rfl) fun K hK => ?_
 simp (maxSteps := 2000000) [F96r4]
 refine hK _ ?_
 refine AWp.cond _ (by rfl) (fun hlt => ?_) (fun hge => ?_)
 ·skip
  have hlt : k < s.size := by simpa using hlt
  have hst := dotFrom_step s k hlt
  refine AWp.skip ?_
  refine AWp.seq ?_
  refine AWp.block ?_
  refine AWp.seq ?_
  refine AWp.regK [0,3,19] [] F96r6 [] (by kernel_rfl) (by rw [hC]; rfl) fun K hK => ?_
  simp (maxSteps := 2000000) [F96r6, hlt]
  (repeat refine ⟨by first | omega | (intros; omega) | (intros; exact sz_pos (by assumption)) | assumption, ?_⟩); refine hK _ ?_
  refine AWp.cond _ (by rfl) (fun hd => ?_) (fun hd => ?_)
  ·skip
   have hd : chr s k = 46 := by simpa using hd
   rw [if_pos hd] at hst
   rw [hk2, hst, if_pos hlt]
   have hn1 := Name_ok (s.extract 0 k) (by rw [← bl_len, bl_extract, List.length_take, List.length_drop, bl_len]; omega)
   have hn2 := Name_ok (s.extract (k + 1) s.size) (by rw [← bl_len, bl_extract, List.length_take, List.length_drop, bl_len]; omega)
   refine AWp.seq ?_
   refine AWp.regK [2] [false,false,false,false,false,false,false,false,false,false,false,true] F96r7 [{ r := bval (Name (s.extract 0 k)) },{ r := bval (Name (s.extract (k + 1) s.size)) }] (by kernel_rfl) (by rw [hC]; rfl) fun K hK => ?_
   simp (maxSteps := 2000000) [F96r7, wrap_nat k (by omega)]
   (repeat first | refine ⟨by first | kernel_rfl | (intros; omega) | assumption, ?_⟩ | refine ⟨by intros; exact callOK rfl hn1, ?_⟩ | refine ⟨by intros; exact callOK rfl hn2, ?_⟩); refine hK _ ?_
   repeat refine AWp.seq ?_
   refine AWp.ret ⟨.inr rfl, _, by simp [Tryz.results96] <;> rfl, ?_⟩
   exact .closed rfl
  have hd : ¬ chr s k = 46 := by simpa using hd
  rw [if_neg hd] at hst
  refine AWp.skip ?_
  refine AWp.regK [0,3] [false,false,true] F96r5 [] (by kernel_rfl) (by rw [hC]; rfl) fun K hK => ?_
  simp (maxSteps := 2000000) [F96r5]
  (repeat refine ⟨by first | omega | (intros; omega) | assumption, ?_⟩); refine hK _ ?_
  refine ⟨k + 1, ⟨by omega, by rw [hk2, hst]⟩, by omega, ?_⟩
  simp [wrap_nat k (by omega)]
 have hge : ¬ k < s.size := by simpa using hge
 have hn := Name_ok s hs
 refine AWp.exit ?_
 rw [hk2, dotFrom_end s k (by omega), if_neg hge]
 refine AWp.seq ?_
 refine AWp.regK [2] [false,false,true] F96r8 [{ r := bval (Name s) }] (by kernel_rfl) (by rw [hC]; rfl) fun K hK => ?_
 simp (maxSteps := 2000000) [F96r8]
 (repeat first | refine ⟨by first | kernel_rfl | (intros; omega) | assumption, ?_⟩ | refine ⟨by intros; exact callOK rfl hn, ?_⟩); refine hK _ ?_
 repeat refine AWp.seq ?_
 refine AWp.ret ⟨.inr rfl, _, by simp [Tryz.results96] <;> rfl, ?_⟩
 exact .closed rfl
theorem Digits_ok (s : ByteArray) (hs : 0 < s.size) (hs2 : s.size ≤ 4194304) : Con Tryz.prog 97 [sval s] (ival (Digits s)) := by
 refine Con.of_code Tryz.func97 (by kernel_rfl) rfl (by simp [Tryz.ntmps97]) fun C hC hM => ?_
 refine AWp.seq ?_
 refine AWp.regK [0] [true] F97r0 [] (by kernel_rfl) (by rw [hC]; rfl) fun K hK => ?_
 simp (maxSteps := 2000000) [F97r0, hs]
 refine hK _ ?_
 refine AWp.seq ?_
 refine AWp.seq ?_
 refine AWp.regK [0,5] [] F97r1 [] (by kernel_rfl) (by rw [hC]; rfl) fun K hK => ?_
 simp (maxSteps := 2000000) [F97r1, hs]
 (repeat refine ⟨by first | omega | (intros; omega) | (intros; exact sz_pos (by assumption)) | assumption, ?_⟩); refine hK _ ?_
 refine AWp.cond _ (by rfl) (fun h1 => ?_) (fun h1 => ?_)
 ·skip
  have h1 : chr s 0 = 45 := by simpa using h1
  refine AWp.seq ?_
  refine AWp.regK [2] [false,false,false,true] F97r2 [] (by kernel_rfl) (by rw [hC]; rfl) fun K hK => ?_
  simp (maxSteps := 2000000) [F97r2]
  refine hK _ ?_
  repeat refine AWp.seq ?_
  refine AWp.ret ⟨.inr rfl, _, by simp [Tryz.results97] <;> rfl, ?_⟩
  refine .clos ?_ rfl
  simp [Digits, h1]
  rw [wrap_in (by omega) (by omega)]
 have h1 : ¬ chr s 0 = 45 := by simpa using h1
 refine AWp.skip ?_
 refine AWp.seq ?_
 refine AWp.regK [2] [false,false,true] F97r3 [] (by kernel_rfl) (by rw [hC]; rfl) fun K hK => ?_
 simp (maxSteps := 2000000) [F97r3]
 refine hK _ ?_
 repeat refine AWp.seq ?_
 refine AWp.ret ⟨.inr rfl, _, by simp [Tryz.results97] <;> rfl, ?_⟩
 refine .clos ?_ rfl
 simp [Digits, h1]
end Go.Al
