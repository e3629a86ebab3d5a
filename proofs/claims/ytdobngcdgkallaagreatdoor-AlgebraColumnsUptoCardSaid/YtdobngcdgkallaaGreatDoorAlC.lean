/- The program's values: may one be? -/
import Derived.Test.YtdobngcdgkallaaGreatDoorAlA
import Derived.Test.YtdobngcdgkallaaGreatDoorAlLay
set_option linter.unusedSimpArgs false
set_option linter.unusedVariables false
set_option linter.unusedSectionVars false
open Go Go.Aw Go.Proofs
namespace Go.Al
-- function 183: internal/stringslite.HasPrefix
def F183r0 : List ROp := [⟨some 4,.copy true (.const (.bool false)),[],none⟩]
def F183r1 : List ROp := [⟨some 5,.copy false (.tmp 0),[],none⟩,
 ⟨some 6,.len 1 (.tmp 5),[],none⟩,
 ⟨some 7,.copy false (.tmp 1),[],none⟩,
 ⟨some 8,.len 1 (.tmp 7),[],none⟩,
 ⟨some 9,.bin .geq (.tmp 6) (.tmp 8),[],none⟩,
 ⟨some 10,.copy false (.tmp 9),[],none⟩,
 ⟨some 11,.copy false (.tmp 0),[],some (10,true)⟩,
 ⟨some 12,.copy false (.tmp 1),[],some (10,true)⟩,
 ⟨some 13,.len 1 (.tmp 12),[],some (10,true)⟩,
 ⟨some 14,.subs (.tmp 11) none (some (.tmp 13)),[],some (10,true)⟩,
 ⟨some 15,.copy false (.tmp 1),[],some (10,true)⟩,
 ⟨some 16,.bin .eql (.tmp 14) (.tmp 15),[],some (10,true)⟩,
 ⟨some 17,.pick (.tmp 10) (.tmp 16) (.const (.bool false)),[],none⟩,
 ⟨some 4,.copy true (.tmp 17),[],none⟩]
-- function 209: internal/stringslite.TrimPrefix
def F209r0 : List ROp := [⟨some 4,.copy true (.const (.string { data := #[] })),[],none⟩]
def F209r1 : List ROp := [⟨some 5,.copy false (.tmp 0),[],none⟩,
 ⟨some 6,.copy false (.tmp 1),[],none⟩,
 ⟨some 7,.call (.func 183) [.tmp 5,.tmp 6],[],none⟩]
def F209r2 : List ROp := [⟨some 8,.copy false (.tmp 0),[],none⟩,
 ⟨some 9,.copy false (.tmp 1),[],none⟩,
 ⟨some 10,.len 1 (.tmp 9),[],none⟩,
 ⟨some 11,.subs (.tmp 8) (some (.tmp 10)) none,[],none⟩,
 ⟨some 4,.copy true (.tmp 11),[],none⟩]
def F209r3 : List ROp := [⟨some 12,.copy true (.tmp 0),[],none⟩,
 ⟨some 4,.copy true (.tmp 12),[],none⟩]
-- function 200: strings.TrimPrefix
def F200r0 : List ROp := [⟨some 4,.copy true (.const (.string { data := #[] })),[],none⟩]
def F200r1 : List ROp := [⟨some 5,.copy false (.tmp 0),[],none⟩,
 ⟨some 6,.copy false (.tmp 1),[],none⟩,
 ⟨some 7,.call (.func 209) [.tmp 5,.tmp 6],[],none⟩,
 ⟨some 4,.copy true (.tmp 7),[],none⟩]
-- function 172: strings.Cut
def F172r0 : List ROp := [⟨some 4,.copy true (.const (.string { data := #[] })),[],none⟩,
 ⟨some 5,.copy true (.const (.string { data := #[] })),[],none⟩,
 ⟨some 6,.copy true (.const (.bool false)),[],none⟩]
def F172r1 : List ROp := [⟨some 7,.copy false (.tmp 0),[],none⟩,
 ⟨some 8,.copy false (.tmp 1),[],none⟩,
 ⟨some 9,.call (.func 188) [.tmp 7,.tmp 8],[],none⟩,
 ⟨some 10,.ext (.tmp 9) 0,[],none⟩,
 ⟨some 11,.ext (.tmp 9) 1,[],none⟩,
 ⟨some 12,.ext (.tmp 9) 2,[],none⟩,
 ⟨some 4,.copy true (.tmp 10),[],none⟩,
 ⟨some 5,.copy true (.tmp 11),[],none⟩,
 ⟨some 6,.copy true (.tmp 12),[],none⟩]
-- function 188: internal/stringslite.Cut
def F188r0 : List ROp := [⟨some 4,.copy true (.const (.string { data := #[] })),[],none⟩,
 ⟨some 5,.copy true (.const (.string { data := #[] })),[],none⟩,
 ⟨some 6,.copy true (.const (.bool false)),[],none⟩]
def F188r1 : List ROp := [⟨some 8,.copy false (.tmp 0),[],none⟩,
 ⟨some 9,.copy false (.tmp 1),[],none⟩,
 ⟨some 10,.call (.func 182) [.tmp 8,.tmp 9],[],none⟩,
 ⟨some 7,.copy true (.tmp 10),[],none⟩]
def F188r2 : List ROp := [⟨some 11,.copy false (.tmp 7),[],none⟩,
 ⟨some 12,.bin .geq (.tmp 11) (.const (.int .i64 0)),[],none⟩]
def F188r3 : List ROp := [⟨some 13,.copy false (.tmp 0),[],none⟩,
 ⟨some 14,.copy false (.tmp 7),[],none⟩,
 ⟨some 15,.subs (.tmp 13) none (some (.tmp 14)),[0,1],none⟩,
 ⟨some 16,.copy false (.tmp 0),[],none⟩,
 ⟨some 17,.copy false (.tmp 7),[],none⟩,
 ⟨some 18,.copy false (.tmp 1),[],none⟩,
 ⟨some 19,.len 1 (.tmp 18),[5],none⟩,
 ⟨some 20,.bin .add (.tmp 17) (.tmp 19),[4,6],none⟩,
 ⟨some 21,.subs (.tmp 16) (some (.tmp 20)) none,[3,7],none⟩,
 ⟨some 4,.copy true (.tmp 15),[2,0,1,2],none⟩,
 ⟨some 5,.copy true (.tmp 21),[8,9,0,1,2,3,4,5,6,7,8,9],none⟩,
 ⟨some 6,.copy true (.const (.bool true)),[10,0,1,2,3,4,5,6,7,8,9,10],none⟩]
def F188r4 : List ROp := [⟨some 22,.copy true (.tmp 0),[],none⟩,
 ⟨some 4,.copy true (.tmp 22),[],none⟩,
 ⟨some 5,.copy true (.const (.string { data := #[] })),[],none⟩,
 ⟨some 6,.copy true (.const (.bool false)),[],none⟩]
-- function 190: corollary/value.name
def F190r0 : List ROp := [⟨some 2,.copy true (.const (.bool false)),[],none⟩]
def F190r1 : List ROp := [⟨some 5,.copy false (.tmp 0),[],none⟩,
 ⟨some 6,.bin .eql (.tmp 5) (.const (.string { data := #[] })),[],none⟩,
 ⟨some 7,.copy false (.tmp 6),[],none⟩,
 ⟨some 8,.copy false (.tmp 0),[],some (7,false)⟩,
 ⟨some 9,.len 1 (.tmp 8),[],some (7,false)⟩,
 ⟨some 10,.bin .gtr (.tmp 9) (.const (.int .i64 32)),[],some (7,false)⟩,
 ⟨some 11,.pick (.tmp 7) (.const (.bool true)) (.tmp 10),[],none⟩,
 ⟨some 12,.copy false (.tmp 11),[],none⟩,
 ⟨some 13,.copy false (.tmp 0),[],some (12,false)⟩,
 ⟨some 14,.idxs (.tmp 13) (.const (.int .i64 0)),[],some (12,false)⟩,
 ⟨some 15,.bin .lss (.tmp 14) (.const (.int .u8 97)),[],some (12,false)⟩,
 ⟨some 16,.pick (.tmp 12) (.const (.bool true)) (.tmp 15),[],none⟩,
 ⟨some 17,.copy false (.tmp 16),[],none⟩,
 ⟨some 18,.copy false (.tmp 0),[],some (17,false)⟩,
 ⟨some 19,.idxs (.tmp 18) (.const (.int .i64 0)),[],some (17,false)⟩,
 ⟨some 20,.bin .gtr (.tmp 19) (.const (.int .u8 122)),[],some (17,false)⟩,
 ⟨some 21,.pick (.tmp 17) (.const (.bool true)) (.tmp 20),[],none⟩]
def F190r2 : List ROp := [⟨some 2,.copy true (.const (.bool false)),[],none⟩]
def F190r3 : List ROp := [⟨some 22,.copy false (.tmp 0),[],none⟩,
 ⟨some 23,.len 1 (.tmp 22),[],none⟩,
 ⟨some 24,.copy false (.const (.int .i64 0)),[],none⟩]
def F190r4 : List ROp := [⟨some 25,.bin .lss (.tmp 24) (.tmp 23),[],none⟩]
def F190r5 : List ROp := [⟨some 26,.copy true (.tmp 24),[],none⟩,
 ⟨some 3,.copy true (.tmp 26),[],none⟩]
def F190r6 : List ROp := [⟨some 27,.copy false (.tmp 0),[],none⟩,
 ⟨some 28,.copy false (.tmp 3),[],none⟩,
 ⟨some 29,.idxs (.tmp 27) (.tmp 28),[],none⟩,
 ⟨some 4,.copy true (.tmp 29),[],none⟩]
def F190r7 : List ROp := [⟨some 30,.copy false (.tmp 4),[],none⟩,
 ⟨some 31,.bin .geq (.tmp 30) (.const (.int .u8 97)),[],none⟩,
 ⟨some 32,.copy false (.tmp 31),[],none⟩,
 ⟨some 33,.copy false (.tmp 4),[],some (32,true)⟩,
 ⟨some 34,.bin .leq (.tmp 33) (.const (.int .u8 122)),[],some (32,true)⟩,
 ⟨some 35,.pick (.tmp 32) (.tmp 34) (.const (.bool false)),[],none⟩,
 ⟨some 36,.copy false (.tmp 35),[],none⟩,
 ⟨some 37,.copy false (.tmp 4),[],some (36,false)⟩,
 ⟨some 38,.bin .geq (.tmp 37) (.const (.int .u8 65)),[],some (36,false)⟩,
 ⟨some 39,.copy false (.tmp 38),[],some (36,false)⟩,
 ⟨some 40,.copy false (.tmp 4),[],some (39,true)⟩,
 ⟨some 41,.bin .leq (.tmp 40) (.const (.int .u8 90)),[],some (39,true)⟩,
 ⟨some 42,.pick (.tmp 39) (.tmp 41) (.const (.bool false)),[],some (36,false)⟩,
 ⟨some 43,.pick (.tmp 36) (.const (.bool true)) (.tmp 42),[],none⟩,
 ⟨some 44,.copy false (.tmp 43),[],none⟩,
 ⟨some 45,.copy false (.tmp 4),[],some (44,false)⟩,
 ⟨some 46,.bin .geq (.tmp 45) (.const (.int .u8 48)),[],some (44,false)⟩,
 ⟨some 47,.copy false (.tmp 46),[],some (44,false)⟩,
 ⟨some 48,.copy false (.tmp 4),[],some (47,true)⟩,
 ⟨some 49,.bin .leq (.tmp 48) (.const (.int .u8 57)),[],some (47,true)⟩,
 ⟨some 50,.pick (.tmp 47) (.tmp 49) (.const (.bool false)),[],some (44,false)⟩,
 ⟨some 51,.pick (.tmp 44) (.const (.bool true)) (.tmp 50),[],none⟩,
 ⟨some 52,.copy false (.tmp 51),[],none⟩,
 ⟨some 53,.copy false (.tmp 4),[],some (52,false)⟩,
 ⟨some 54,.bin .eql (.tmp 53) (.const (.int .u8 95)),[],some (52,false)⟩,
 ⟨some 55,.pick (.tmp 52) (.const (.bool true)) (.tmp 54),[],none⟩,
 ⟨some 56,.un .not (.tmp 55),[],none⟩]
def F190r8 : List ROp := [⟨some 2,.copy true (.const (.bool false)),[],none⟩]
def F190r9 : List ROp := [⟨some 57,.bin .add (.tmp 24) (.const (.int .i64 1)),[],none⟩,
 ⟨some 24,.copy false (.tmp 57),[],none⟩]
def F190r10 : List ROp := [⟨some 2,.copy true (.const (.bool true)),[],none⟩]
-- function 189: corollary/value.number
def F189r0 : List ROp := [⟨some 2,.copy true (.const (.int .i64 0)),[],none⟩,
 ⟨some 3,.copy true (.const (.bool false)),[],none⟩]
def F189r1 : List ROp := [⟨some 5,.copy false (.tmp 0),[],none⟩,
 ⟨some 6,.call (.func 200) [.tmp 5,.const (.string { data := #[45] })],[],none⟩,
 ⟨some 4,.copy true (.tmp 6),[],none⟩]
def F189r2 : List ROp := [⟨some 7,.copy false (.tmp 4),[],none⟩,
 ⟨some 8,.bin .eql (.tmp 7) (.const (.string { data := #[] })),[],none⟩,
 ⟨some 9,.copy false (.tmp 8),[],none⟩,
 ⟨some 10,.copy false (.tmp 4),[],some (9,false)⟩,
 ⟨some 11,.call (.func 201) [.tmp 10,.const (.string { data := #[48,49,50,51,52,53,54,55,56,57] })],[],some (9,false)⟩,
 ⟨some 12,.bin .neq (.tmp 11) (.const (.string { data := #[] })),[],some (9,false)⟩,
 ⟨some 13,.pick (.tmp 9) (.const (.bool true)) (.tmp 12),[],none⟩,
 ⟨some 14,.copy false (.tmp 13),[],none⟩,
 ⟨some 15,.copy false (.tmp 4),[],some (14,false)⟩,
 ⟨some 16,.idxs (.tmp 15) (.const (.int .i64 0)),[],some (14,false)⟩,
 ⟨some 17,.bin .eql (.tmp 16) (.const (.int .u8 48)),[],some (14,false)⟩,
 ⟨some 18,.copy false (.tmp 17),[],some (14,false)⟩,
 ⟨some 19,.copy false (.tmp 0),[],some (18,true)⟩,
 ⟨some 20,.bin .neq (.tmp 19) (.const (.string { data := #[48] })),[],some (18,true)⟩,
 ⟨some 21,.pick (.tmp 18) (.tmp 20) (.const (.bool false)),[],some (14,false)⟩,
 ⟨some 22,.pick (.tmp 14) (.const (.bool true)) (.tmp 21),[],none⟩]
def F189r3 : List ROp := [⟨some 2,.copy true (.const (.int .i64 0)),[],none⟩,
 ⟨some 3,.copy true (.const (.bool false)),[],none⟩]
def F189r4 : List ROp := [⟨some 23,.copy false (.tmp 4),[],none⟩,
 ⟨some 24,.len 1 (.tmp 23),[],none⟩,
 ⟨some 2,.copy true (.tmp 24),[],none⟩,
 ⟨some 3,.copy true (.const (.bool true)),[],none⟩]
theorem HasPrefix_ok (s p : ByteArray) (hs : s.size ≤ 4194304) (hp : p.size ≤ 4194304) : Con Tryz.prog 183 [sval s, sval p] (bval (hasPre s p)) := by
 refine Con.of_code Tryz.func183 (by kernel_rfl) rfl (by simp [Tryz.ntmps183]) fun C hC hM => ?_
 refine AWp.seq ?_
 refine AWp.regK [0,1] [true] F183r0 [] (by kernel_rfl) (by rw [hC]; rfl) fun K hK => ?_
 simp (maxSteps := 2000000) [F183r0]
 refine hK _ ?_
 refine AWp.seq ?_
 refine AWp.regK [4] [false,false,false,false,false,false,false,false,false,false,false,false,false,true] F183r1 [] (by kernel_rfl) (by rw [hC]; rfl) fun K hK => ?_
 simp (maxSteps := 2000000) [F183r1]
 (repeat refine ⟨by first | omega | (intros; omega) | assumption, ?_⟩); refine hK _ ?_
 repeat refine AWp.seq ?_
 refine AWp.ret ⟨.inr rfl, _, by simp [Tryz.results183] <;> rfl, ?_⟩
 refine .clos ?_ rfl
 unfold hasPre
 simp
theorem TrimPrefix0_ok (s p : ByteArray) (hs : s.size ≤ 4194304) (hp : p.size ≤ 4194304) : Con Tryz.prog 209 [sval s, sval p] (sval (trimPre s p)) := by
 have h1 := HasPrefix_ok s p hs hp
 refine Con.of_code Tryz.func209 (by kernel_rfl) rfl (by simp [Tryz.ntmps209]) fun C hC hM => ?_
 refine AWp.seq ?_
 refine AWp.regK [0,1] [true] F209r0 [] (by kernel_rfl) (by rw [hC]; rfl) fun K hK => ?_
 simp (maxSteps := 2000000) [F209r0]
 refine hK _ ?_
 refine AWp.seq ?_
 refine AWp.seq ?_
 refine AWp.regK [0,1,7] [] F209r1 [{ r := bval (hasPre s p) }] (by kernel_rfl) (by rw [hC]; rfl) fun K hK => ?_
 simp (maxSteps := 2000000) [F209r1]
 (repeat first | refine ⟨by first | kernel_rfl | (intros; omega) | assumption, ?_⟩ | refine ⟨by intros; exact callOK rfl h1, ?_⟩); refine hK _ ?_
 refine AWp.cond _ (by rfl) (fun h => ?_) (fun h => ?_)
 ·skip
  have hle : p.size ≤ s.size := by unfold hasPre at h; simp at h; exact h.1
  refine AWp.seq ?_
  refine AWp.regK [4] [false,false,false,false,true] F209r2 [] (by kernel_rfl) (by rw [hC]; rfl) fun K hK => ?_
  simp (maxSteps := 2000000) [F209r2]
  (repeat refine ⟨by first | omega | (intros; omega) | assumption, ?_⟩); refine hK _ ?_
  repeat refine AWp.seq ?_
  refine AWp.ret ⟨.inr rfl, _, by simp [Tryz.results209] <;> rfl, ?_⟩
  refine .clos ?_ rfl
  simp only [trimPre, h]; simp
 refine AWp.skip ?_
 refine AWp.seq ?_
 refine AWp.regK [4] [true,true] F209r3 [] (by kernel_rfl) (by rw [hC]; rfl) fun K hK => ?_
 simp (maxSteps := 2000000) [F209r3]
 refine hK _ ?_
 repeat refine AWp.seq ?_
 refine AWp.ret ⟨.inr rfl, _, by simp [Tryz.results209] <;> rfl, ?_⟩
 refine .clos ?_ rfl
 simp only [trimPre, h]; simp
theorem TrimPrefix_ok (s p : ByteArray) (hs : s.size ≤ 4194304) (hp : p.size ≤ 4194304) : Con Tryz.prog 200 [sval s, sval p] (sval (trimPre s p)) := by
 have h1 := TrimPrefix0_ok s p hs hp
 refine Con.of_code Tryz.func200 (by kernel_rfl) rfl (by simp [Tryz.ntmps200]) fun C hC hM => ?_
 refine AWp.seq ?_
 refine AWp.regK [0,1] [true] F200r0 [] (by kernel_rfl) (by rw [hC]; rfl) fun K hK => ?_
 simp (maxSteps := 2000000) [F200r0]
 refine hK _ ?_
 refine AWp.seq ?_
 refine AWp.regK [4] [false,false,false,true] F200r1 [{ r := sval (trimPre s p) }] (by kernel_rfl) (by rw [hC]; rfl) fun K hK => ?_
 simp (maxSteps := 2000000) [F200r1]
 (repeat first | refine ⟨by first | kernel_rfl | (intros; omega) | assumption, ?_⟩ | refine ⟨by intros; exact callOK rfl h1, ?_⟩); refine hK _ ?_
 repeat refine AWp.seq ?_
 refine AWp.ret ⟨.inr rfl, _, by simp [Tryz.results200] <;> rfl, ?_⟩
 exact .closed rfl
theorem Index_ok (s : ByteArray) : Con Tryz.prog 182 [sval s, sval tDot] (ival (Lib.indexByte (bl s) 46)) :=
 Con.lib [.string s, .string tDot] _ ⟨_, Tryz.func182, by kernel_rfl, rfl⟩ fun w => (Tryz.stringslite_Index_one s 46 w).mono (by rintro e w' ⟨rfl, rfl⟩; exact ⟨rfl, Ext.refl _⟩)
theorem Cut0_ok (s : ByteArray) (hs : s.size ≤ 4194304) : Con Tryz.prog 188 [sval s, sval tDot] (.tup [sval (cutL s), sval (cutR s), bval (cutF s)]) := by
 have h1 := Index_ok s
 have hd := dotFrom_le s s.size 0 (by omega)
 rw [dot_zero] at h1
 have ht : tDot.size = 1 := rfl
 refine Con.of_code Tryz.func188 (by kernel_rfl) rfl (by simp [Tryz.ntmps188]) fun C hC hM => ?_
 refine AWp.seq ?_
 refine AWp.regK [0,1] [true,true,true] F188r0 [] (by kernel_rfl) (by rw [hC]; rfl) fun K hK => ?_
 simp (maxSteps := 2000000) [F188r0]
 refine hK _ ?_
 refine AWp.seq ?_
 refine AWp.seq ?_
 by_cases h : dotFrom s 0 < s.size
 ·rw [if_pos h] at h1
  have hw := wrap_nat (dotFrom s 0) (by omega)
  refine AWp.regK [0,1,7] [false,false,false,true] F188r1 [{ r := ival (dotFrom s 0) }] (by kernel_rfl) (by rw [hC]; rfl) fun K hK => ?_
  simp (maxSteps := 2000000) [F188r1]
  (repeat first | refine ⟨by first | kernel_rfl | (intros; omega) | assumption, ?_⟩ | refine ⟨by intros; exact callOK rfl h1, ?_⟩); refine hK _ ?_
  refine AWp.seq ?_
  refine AWp.regK [0,1,7,12] [] F188r2 [] (by kernel_rfl) (by rw [hC]; rfl) fun K hK => ?_
  simp (maxSteps := 2000000) [F188r2]
  refine hK _ ?_
  refine AWp.cond true (by simp) (fun _ => ?_) (fun he => by cases he)
  refine AWp.seq ?_
  refine AWp.regKL ops_mixed [[],[],[0,1],[],[],[],[5],[4,5,6],[3,4,5,6,7],[0,1,2],[0,1,2,3,4,5,6,7,8,9],[0,1,2,3,4,5,6,7,8,9,10]] [4,5,6] [false,false,false,false,false,false,false,false,false,true,true,true] F188r3 [] (by kernel_rfl) (by rw [hC]; rfl) (by kernel_rfl) (by kernel_rfl) fun K hK => ?_
  simp (maxSteps := 2000000) [F188r3, ht, hw, h]
  (repeat refine ⟨by first | omega | (intros; omega) | assumption, ?_⟩); first | refine hK _ ?_ | refine ⟨by kernel_rfl, hK _ ?_⟩
  repeat refine AWp.seq ?_
  refine AWp.ret ⟨.inr rfl, _, by simp [Tryz.results188] <;> rfl, ?_⟩
  refine .clos ?_ rfl
  unfold cutL cutR cutF
  simp [h]
 ·rw [if_neg h] at h1
  refine AWp.regK [0,1,7] [false,false,false,true] F188r1 [{ r := ival (-1) }] (by kernel_rfl) (by rw [hC]; rfl) fun K hK => ?_
  simp (maxSteps := 2000000) [F188r1]
  (repeat first | refine ⟨by first | kernel_rfl | (intros; omega) | assumption, ?_⟩ | refine ⟨by intros; exact callOK rfl h1, ?_⟩); refine hK _ ?_
  refine AWp.seq ?_
  refine AWp.regK [0,1,7,12] [] F188r2 [] (by kernel_rfl) (by rw [hC]; rfl) fun K hK => ?_
  simp (maxSteps := 2000000) [F188r2]
  refine hK _ ?_
  refine AWp.cond false (by simp) (fun he => by cases he) (fun _ => ?_)
  refine AWp.skip ?_
  refine AWp.seq ?_
  refine AWp.regK [4,5,6] [true,true,true,true] F188r4 [] (by kernel_rfl) (by rw [hC]; rfl) fun K hK => ?_
  simp (maxSteps := 2000000) [F188r4]
  refine hK _ ?_
  repeat refine AWp.seq ?_
  refine AWp.ret ⟨.inr rfl, _, by simp [Tryz.results188] <;> rfl, ?_⟩
  refine .clos ?_ rfl
  unfold cutL cutR cutF
  simp [h]
theorem Cut_ok (s : ByteArray) (hs : s.size ≤ 4194304) : Con Tryz.prog 172 [sval s, sval tDot] (.tup [sval (cutL s), sval (cutR s), bval (cutF s)]) := by
 have h1 := Cut0_ok s hs
 refine Con.of_code Tryz.func172 (by kernel_rfl) rfl (by simp [Tryz.ntmps172]) fun C hC hM => ?_
 refine AWp.seq ?_
 refine AWp.regK [0,1] [true,true,true] F172r0 [] (by kernel_rfl) (by rw [hC]; rfl) fun K hK => ?_
 simp (maxSteps := 2000000) [F172r0]
 refine hK _ ?_
 refine AWp.seq ?_
 refine AWp.regK [4,5,6] [false,false,false,false,false,false,true,true,true] F172r1 [{ r := .tup [sval (cutL s),sval (cutR s),bval (cutF s)] }] (by kernel_rfl) (by rw [hC]; rfl) fun K hK => ?_
 simp (maxSteps := 2000000) [F172r1]
 (repeat first | refine ⟨by first | kernel_rfl | (intros; omega) | assumption, ?_⟩ | refine ⟨by intros; exact callOK rfl h1, ?_⟩); refine hK _ ?_
 repeat refine AWp.seq ?_
 refine AWp.ret ⟨.inr rfl, _, by simp [Tryz.results172] <;> rfl, ?_⟩
 exact .closed rfl
theorem Trim_ok (s : ByteArray) (hs : s.size ≤ 4194304) : Con Tryz.prog 201 [sval s, sval tDigits] (sval (trimSet s tDigits)) :=
 Con.lib [.string s, .string tDigits] _ ⟨_, Tryz.func201, by kernel_rfl, rfl⟩ fun w => (Any.strings_Trim_laid Tryz.lays160 (by kernel_rfl) s tDigits w (by omega) (by decide) (ascii_of_all (by decide))).mono (by rintro e w' ⟨rfl, hb⟩; exact ⟨rfl, hb.os, hb.tape, hb.output, hb.size, hb.block⟩)
theorem name_ok (s : ByteArray) (hs : s.size ≤ 4194304) : Con Tryz.prog 190 [sval s] (bval (Name s)) := by
 refine Con.of_code Tryz.func190 (by kernel_rfl) rfl (by simp [Tryz.ntmps190]) fun C hC hM => ?_
 refine AWp.seq ?_
 refine AWp.regK [0] [true] F190r0 [] (by kernel_rfl) (by rw [hC]; rfl) fun K hK => ?_
 simp (maxSteps := 2000000) [F190r0]
 refine hK _ ?_
 refine AWp.seq ?_
 refine AWp.seq ?_
 refine AWp.regK [0,21] [] F190r1 [] (by kernel_rfl) (by rw [hC]; rfl) fun K hK => ?_
 simp (maxSteps := 2000000) [F190r1]
 (repeat refine ⟨by first | omega | (intros; omega) | (intros; exact sz_pos (by assumption)) | assumption, ?_⟩); refine hK _ ?_
 refine AWp.cond _ (by rfl) (fun h1 => ?_) (fun h1 => ?_)
 ·skip
  refine AWp.seq ?_
  refine AWp.regK [2] [true] F190r2 [] (by kernel_rfl) (by rw [hC]; rfl) fun K hK => ?_
  simp (maxSteps := 2000000) [F190r2]
  refine hK _ ?_
  repeat refine AWp.seq ?_
  refine AWp.ret ⟨.inr rfl, _, by simp [Tryz.results190] <;> rfl, ?_⟩
  refine .clos ?_ rfl
  have : Name s = false := by
   unfold Name letterB
   by_cases a : s = ⟨#[]⟩
   ·simp [a]
   ·by_cases b : (32 : Int) < s.size
    ·simp [show ¬ s.size ≤ 32 by omega]
    ·simp [a, b] at h1
     by_cases c : 97 ≤ chr s 0
     ·simp [show ¬ chr s 0 ≤ 122 by omega]
     ·simp [c]
  rw [this]; rfl
 have h2 : Name s = allFrom nameB s 0 := by
  unfold Name letterB
  by_cases a : s = ⟨#[]⟩
  ·simp [a] at h1
  ·by_cases b : (32 : Int) < s.size
   ·simp [a, b] at h1
   ·simp [a, b] at h1; simp [a, show s.size ≤ 32 by omega, show 97 ≤ chr s 0 by omega, show chr s 0 ≤ 122 by omega]
 rw [h2]
 refine AWp.skip ?_
 refine AWp.seq ?_
 refine AWp.seq ?_
 refine AWp.regK [0,23,24] [] F190r3 [] (by kernel_rfl) (by rw [hC]; rfl) fun K hK => ?_
 simp (maxSteps := 2000000) [F190r3]
 refine hK _ ?_
 refine AWp.block ?_
 refine AWp.loopG (fun k : Nat => { tm := [(0, sval s), (23, ival s.size), (24, ival k)], hp := [] }) (fun k => k ≤ s.size ∧ allFrom nameB s 0 = allFrom nameB s k) (fun k => s.size - k) 0 ⟨by omega, rfl⟩ (by simp) (fun k hk => ?_)
 obtain ⟨hk1, hk2⟩ := hk
 refine AWp.seq ?_
 refine AWp.regK [0,23,24,25] [] F190r4 [] (by kernel_rfl) (by rw [hC]; rfl) fun K hK => ?_
 simp (maxSteps := 2000000) [F190r4]
 refine hK _ ?_
 refine AWp.seq ?_
 refine AWp.cond _ (by rfl) (fun hlt => ?_) (fun hge => ?_)
 ·skip
  have hlt : k < s.size := by simpa using hlt
  have hst := allFrom_step nameB s k hlt
  refine AWp.skip ?_
  refine AWp.seq ?_
  refine AWp.block ?_
  refine AWp.seq ?_
  refine AWp.regK [0,3,23,24] [true,true] F190r5 [] (by kernel_rfl) (by rw [hC]; rfl) fun K hK => ?_
  simp (maxSteps := 2000000) [F190r5, hlt]
  refine hK _ ?_
  refine AWp.seq ?_
  refine AWp.regK [0,4,23,24] [false,false,false,true] F190r6 [] (by kernel_rfl) (by rw [hC]; rfl) fun K hK => ?_
  simp (maxSteps := 2000000) [F190r6, hlt]
  (repeat refine ⟨by first | omega | (intros; omega) | (intros; exact sz_pos (by assumption)) | assumption, ?_⟩); refine hK _ ?_
  refine AWp.seq ?_
  refine AWp.regK [0,23,24,56] [] F190r7 [] (by kernel_rfl) (by rw [hC]; rfl) fun K hK => ?_
  simp (maxSteps := 2000000) [F190r7, hlt]
  (repeat refine ⟨by first | omega | (intros; omega) | assumption, ?_⟩); refine hK _ ?_
  refine AWp.cond _ (by rfl) (fun hn => ?_) (fun hn => ?_)
  ·skip
   have hn : nameB (chr s k) = false := by
    unfold nameB letterB
    simp at hn ⊢
    omega
   refine AWp.seq ?_
   refine AWp.regK [2] [true] F190r8 [] (by kernel_rfl) (by rw [hC]; rfl) fun K hK => ?_
   simp (maxSteps := 2000000) [F190r8]
   refine hK _ ?_
   repeat refine AWp.seq ?_
   refine AWp.ret ⟨.inr rfl, _, by simp [Tryz.results190] <;> rfl, ?_⟩
   rw [hk2, hst, hn]
   exact .closed rfl
  have hn : nameB (chr s k) = true := by
   unfold nameB letterB
   simp at hn ⊢
   omega
  refine AWp.skip ?_
  refine AWp.regK [0,23,24] [] F190r9 [] (by kernel_rfl) (by rw [hC]; rfl) fun K hK => ?_
  simp (maxSteps := 2000000) [F190r9]
  (repeat refine ⟨by first | omega | (intros; omega) | assumption, ?_⟩); refine hK _ ?_
  refine ⟨k + 1, ⟨by omega, by rw [hk2, hst, hn]; rfl⟩, by omega, ?_⟩
  simp [wrap_nat k (by omega)]
 have hge : ¬ k < s.size := by simpa using hge
 refine AWp.exit ?_
 refine AWp.seq ?_
 refine AWp.regK [2] [true] F190r10 [] (by kernel_rfl) (by rw [hC]; rfl) fun K hK => ?_
 simp (maxSteps := 2000000) [F190r10]
 refine hK _ ?_
 repeat refine AWp.seq ?_
 refine AWp.ret ⟨.inr rfl, _, by simp [Tryz.results190] <;> rfl, ?_⟩
 rw [hk2, allFrom_end nameB s k (by omega)]
 exact .closed rfl
theorem trimPre_le (s p : ByteArray) : (trimPre s p).size ≤ s.size := by
 unfold trimPre; split
 ·rw [← bl_len, bl_extract, List.length_take, List.length_drop, bl_len]; omega
 ·omega
theorem number_ok (s : ByteArray) (hs : s.size ≤ 4194304) : Con Tryz.prog 189 [sval s] (.tup [ival (numLen s), bval (numOk s)]) := by
 have h1 := TrimPrefix_ok s tMinus hs (by decide)
 have hle := trimPre_le s tMinus
 have h2 := Trim_ok (trimPre s tMinus) (by omega)
 have hok : numOk s = !(decide (trimPre s tMinus = ⟨#[]⟩) || !decide (trimSet (trimPre s tMinus) tDigits = ⟨#[]⟩) || (decide (chr (trimPre s tMinus) 0 = 48) && !decide (s = ⟨#[48]⟩))) := rfl
 have hnl : numLen s = (if numOk s = true then ((trimPre s tMinus).size : Int) else 0) := rfl
 rw [hnl, hok]
 generalize trimPre s tMinus = d at *
 refine Con.of_code Tryz.func189 (by kernel_rfl) rfl (by simp [Tryz.ntmps189]) fun C hC hM => ?_
 refine AWp.seq ?_
 refine AWp.regK [0] [true,true] F189r0 [] (by kernel_rfl) (by rw [hC]; rfl) fun K hK => ?_
 simp (maxSteps := 2000000) [F189r0]
 refine hK _ ?_
 refine AWp.seq ?_
 refine AWp.regK [0,4] [false,false,true] F189r1 [{ r := sval d }] (by kernel_rfl) (by rw [hC]; rfl) fun K hK => ?_
 simp (maxSteps := 2000000) [F189r1]
 (repeat first | refine ⟨by first | kernel_rfl | (intros; omega) | assumption, ?_⟩ | refine ⟨by intros; exact callOK rfl h1, ?_⟩); refine hK _ ?_
 refine AWp.seq ?_
 refine AWp.seq ?_
 refine AWp.regK [4,22] [] F189r2 [{ r := sval (trimSet d tDigits) }] (by kernel_rfl) (by rw [hC]; rfl) fun K hK => ?_
 simp (maxSteps := 2000000) [F189r2]
 (repeat first | refine ⟨by first | kernel_rfl | (intros; omega) | assumption, ?_⟩ | refine ⟨by intros; exact callOK rfl h2, ?_⟩ | refine ⟨fun h _ => size_pos h, ?_⟩); refine hK _ ?_
 refine AWp.cond _ (by rfl) (fun h => ?_) (fun h => ?_)
 ·skip
  refine AWp.seq ?_
  refine AWp.regK [2,3] [true,true] F189r3 [] (by kernel_rfl) (by rw [hC]; rfl) fun K hK => ?_
  simp (maxSteps := 2000000) [F189r3]
  refine hK _ ?_
  repeat refine AWp.seq ?_
  refine AWp.ret ⟨.inr rfl, _, by simp [Tryz.results189] <;> rfl, ?_⟩
  refine .clos ?_ rfl
  have hb : (!(decide (d = ⟨#[]⟩) || !decide (trimSet d tDigits = ⟨#[]⟩) || (decide (chr d 0 = 48) && !decide (s = ⟨#[48]⟩)))) = false := by
   revert h; cases decide (d = ⟨#[]⟩) <;> cases decide (trimSet d tDigits = ⟨#[]⟩) <;> cases decide (chr d 0 = 48) <;> cases decide (s = ⟨#[48]⟩) <;> simp
  rw [hb]; rfl
 refine AWp.skip ?_
 refine AWp.seq ?_
 refine AWp.regK [2,3] [false,false,true,true] F189r4 [] (by kernel_rfl) (by rw [hC]; rfl) fun K hK => ?_
 simp (maxSteps := 2000000) [F189r4]
 refine hK _ ?_
 repeat refine AWp.seq ?_
 refine AWp.ret ⟨.inr rfl, _, by simp [Tryz.results189] <;> rfl, ?_⟩
 refine .clos ?_ rfl
 have hb : (!(decide (d = ⟨#[]⟩) || !decide (trimSet d tDigits = ⟨#[]⟩) || (decide (chr d 0 = 48) && !decide (s = ⟨#[48]⟩)))) = true := by
  revert h; cases decide (d = ⟨#[]⟩) <;> cases decide (trimSet d tDigits = ⟨#[]⟩) <;> cases decide (chr d 0 = 48) <;> cases decide (s = ⟨#[48]⟩) <;> simp
 rw [hb]; rfl
end Go.Al
