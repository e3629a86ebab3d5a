/- The program: names, variables, operators, depths. -/
import Derived.Test.YtdobngcdgkallaaGreatDoorAlSp
import Derived.Test.YtdobngcdgkallaaGreatDoorAlM
import Derived.Test.YtdobngcdgkallaaGreatDoorAlD
import Derived.Test.YtdobngcdgkallaaGreatDoorAlL
import Derived.Test.YtdobngcdgkallaaGreatDoorAlLay
import Derived.Test.YtdobngcdgkallaaGreatDoorAwZk
set_option linter.unusedSimpArgs false
set_option linter.unusedVariables false
set_option linter.unusedSectionVars false
open Go Go.Aw Go.Proofs
namespace Go.Al
set_option maxRecDepth 20000
-- function 120: corollary/tree.rest
def F120r0 : List ROp := [⟨some 2,.copy true (.const (.bool false)),[],none⟩]
def F120r1 : List ROp := [⟨some 5,.copy false (.tmp 0),[],none⟩,
 ⟨some 6,.len 1 (.tmp 5),[],none⟩,
 ⟨some 7,.copy false (.const (.int .i64 0)),[],none⟩]
def F120r2 : List ROp := [⟨some 8,.bin .lss (.tmp 7) (.tmp 6),[],none⟩]
def F120r3 : List ROp := [⟨some 9,.copy true (.tmp 7),[],none⟩,
 ⟨some 3,.copy true (.tmp 9),[],none⟩]
def F120r4 : List ROp := [⟨some 10,.copy false (.tmp 0),[],none⟩,
 ⟨some 11,.copy false (.tmp 3),[],none⟩,
 ⟨some 12,.idxs (.tmp 10) (.tmp 11),[],none⟩,
 ⟨some 4,.copy true (.tmp 12),[],none⟩]
def F120r5 : List ROp := [⟨some 13,.copy false (.tmp 4),[],none⟩,
 ⟨some 14,.bin .geq (.tmp 13) (.const (.int .u8 97)),[],none⟩,
 ⟨some 15,.copy false (.tmp 14),[],none⟩,
 ⟨some 16,.copy false (.tmp 4),[],some (15,true)⟩,
 ⟨some 17,.bin .leq (.tmp 16) (.const (.int .u8 122)),[],some (15,true)⟩,
 ⟨some 18,.pick (.tmp 15) (.tmp 17) (.const (.bool false)),[],none⟩,
 ⟨some 19,.copy false (.tmp 18),[],none⟩,
 ⟨some 20,.copy false (.tmp 4),[],some (19,false)⟩,
 ⟨some 21,.bin .geq (.tmp 20) (.const (.int .u8 65)),[],some (19,false)⟩,
 ⟨some 22,.copy false (.tmp 21),[],some (19,false)⟩,
 ⟨some 23,.copy false (.tmp 4),[],some (22,true)⟩,
 ⟨some 24,.bin .leq (.tmp 23) (.const (.int .u8 90)),[],some (22,true)⟩,
 ⟨some 25,.pick (.tmp 22) (.tmp 24) (.const (.bool false)),[],some (19,false)⟩,
 ⟨some 26,.pick (.tmp 19) (.const (.bool true)) (.tmp 25),[],none⟩,
 ⟨some 27,.copy false (.tmp 26),[],none⟩,
 ⟨some 28,.copy false (.tmp 4),[],some (27,false)⟩,
 ⟨some 29,.bin .geq (.tmp 28) (.const (.int .u8 48)),[],some (27,false)⟩,
 ⟨some 30,.copy false (.tmp 29),[],some (27,false)⟩,
 ⟨some 31,.copy false (.tmp 4),[],some (30,true)⟩,
 ⟨some 32,.bin .leq (.tmp 31) (.const (.int .u8 57)),[],some (30,true)⟩,
 ⟨some 33,.pick (.tmp 30) (.tmp 32) (.const (.bool false)),[],some (27,false)⟩,
 ⟨some 34,.pick (.tmp 27) (.const (.bool true)) (.tmp 33),[],none⟩,
 ⟨some 35,.copy false (.tmp 34),[],none⟩,
 ⟨some 36,.copy false (.tmp 4),[],some (35,false)⟩,
 ⟨some 37,.bin .eql (.tmp 36) (.const (.int .u8 95)),[],some (35,false)⟩,
 ⟨some 38,.pick (.tmp 35) (.const (.bool true)) (.tmp 37),[],none⟩,
 ⟨some 39,.un .not (.tmp 38),[],none⟩]
def F120r6 : List ROp := [⟨some 2,.copy true (.const (.bool false)),[],none⟩]
def F120r7 : List ROp := [⟨some 40,.bin .add (.tmp 7) (.const (.int .i64 1)),[],none⟩,
 ⟨some 7,.copy false (.tmp 40),[],none⟩]
def F120r8 : List ROp := [⟨some 41,.copy false (.tmp 0),[],none⟩,
 ⟨some 42,.len 1 (.tmp 41),[],none⟩,
 ⟨some 43,.bin .leq (.tmp 42) (.const (.int .i64 32)),[],none⟩,
 ⟨some 2,.copy true (.tmp 43),[],none⟩]
-- function 79: corollary/tree.name
def F79r0 : List ROp := [⟨some 2,.copy true (.const (.bool false)),[],none⟩]
def F79r1 : List ROp := [⟨some 3,.copy false (.tmp 0),[],none⟩,
 ⟨some 4,.bin .neq (.tmp 3) (.const (.string { data := #[] })),[],none⟩,
 ⟨some 5,.copy false (.tmp 4),[],none⟩,
 ⟨some 6,.copy false (.tmp 0),[],some (5,true)⟩,
 ⟨some 7,.idxs (.tmp 6) (.const (.int .i64 0)),[],some (5,true)⟩,
 ⟨some 8,.bin .geq (.tmp 7) (.const (.int .u8 97)),[],some (5,true)⟩,
 ⟨some 9,.pick (.tmp 5) (.tmp 8) (.const (.bool false)),[],none⟩,
 ⟨some 10,.copy false (.tmp 9),[],none⟩,
 ⟨some 11,.copy false (.tmp 0),[],some (10,true)⟩,
 ⟨some 12,.idxs (.tmp 11) (.const (.int .i64 0)),[],some (10,true)⟩,
 ⟨some 13,.bin .leq (.tmp 12) (.const (.int .u8 122)),[],some (10,true)⟩,
 ⟨some 14,.pick (.tmp 10) (.tmp 13) (.const (.bool false)),[],none⟩,
 ⟨some 15,.copy false (.tmp 14),[],none⟩,
 ⟨some 16,.copy false (.tmp 0),[],some (15,true)⟩,
 ⟨some 17,.call (.func 120) [.tmp 16],[],some (15,true)⟩,
 ⟨some 18,.pick (.tmp 15) (.tmp 17) (.const (.bool false)),[],none⟩,
 ⟨some 19,.copy false (.tmp 18),[],none⟩,
 ⟨some 20,.copy false (.tmp 0),[],some (19,true)⟩,
 ⟨some 21,.bin .add (.const (.string { data := #[32] })) (.tmp 20),[],some (19,true)⟩,
 ⟨some 22,.bin .add (.tmp 21) (.const (.string { data := #[32] })),[],some (19,true)⟩,
 ⟨some 23,.call (.func 121) [.const (.string { data := #[32,109,111,100,117,108,101,32,105,109,112,111,114,116,32,112,117,98,32,116,121,112,101,32,105,110,112,117,116,32,114,101,108,32,110,101,118,101,114,32,110,111,116,32,97,110,100,32,111,114,32,105,102,32,116,104,101,110,32,101,108,115,101,32,116,114,117,101,32,102,97,108,115,101,32,99,111,117,110,116,32,115,117,109,32,109,105,110,32,109,97,120,32,110,101,103,32,108,101,110,32,98,105,103,32,105,110,116,32,98,111,111,108,32,116,101,120,116,32,116,117,112,108,101,32] }),.tmp 22],[],some (19,true)⟩,
 ⟨some 24,.un .not (.tmp 23),[],some (19,true)⟩,
 ⟨some 25,.pick (.tmp 19) (.tmp 24) (.const (.bool false)),[],none⟩,
 ⟨some 2,.copy true (.tmp 25),[],none⟩]
-- function 137: corollary/tree.long
def F137r0 : List ROp := [⟨some 2,.copy true (.const (.bool false)),[],none⟩]
def F137r1 : List ROp := [⟨some 7,.copy false (.tmp 0),[],none⟩,
 ⟨some 8,.call (.func 172) [.tmp 7,.const (.string { data := #[46] })],[],none⟩,
 ⟨some 6,.copy false (.tmp 8),[],none⟩,
 ⟨some 9,.ext (.tmp 6) 0,[],none⟩,
 ⟨some 10,.ext (.tmp 6) 1,[],none⟩,
 ⟨some 11,.ext (.tmp 6) 2,[],none⟩,
 ⟨some 3,.copy true (.tmp 9),[],none⟩,
 ⟨some 4,.copy true (.tmp 10),[],none⟩,
 ⟨some 5,.copy true (.tmp 11),[],none⟩]
def F137r2 : List ROp := [⟨some 12,.copy false (.tmp 3),[],none⟩,
 ⟨some 13,.call (.func 79) [.tmp 12],[],none⟩,
 ⟨some 14,.copy false (.tmp 13),[],none⟩,
 ⟨some 15,.copy false (.tmp 5),[],some (14,true)⟩,
 ⟨some 16,.un .not (.tmp 15),[],some (14,true)⟩,
 ⟨some 17,.copy false (.tmp 16),[],some (14,true)⟩,
 ⟨some 18,.copy false (.tmp 4),[],some (17,false)⟩,
 ⟨some 19,.call (.func 79) [.tmp 18],[],some (17,false)⟩,
 ⟨some 20,.pick (.tmp 17) (.const (.bool true)) (.tmp 19),[],some (14,true)⟩,
 ⟨some 21,.pick (.tmp 14) (.tmp 20) (.const (.bool false)),[],none⟩,
 ⟨some 2,.copy true (.tmp 21),[],none⟩]
-- function 145: corollary/tree.variable
def F145r0 : List ROp := [⟨some 2,.copy true (.const (.bool false)),[],none⟩]
def F145r1 : List ROp := [⟨some 3,.copy false (.tmp 0),[],none⟩,
 ⟨some 4,.bin .neq (.tmp 3) (.const (.string { data := #[] })),[],none⟩,
 ⟨some 5,.copy false (.tmp 4),[],none⟩,
 ⟨some 6,.copy false (.tmp 0),[],some (5,true)⟩,
 ⟨some 7,.idxs (.tmp 6) (.const (.int .i64 0)),[],some (5,true)⟩,
 ⟨some 8,.bin .geq (.tmp 7) (.const (.int .u8 65)),[],some (5,true)⟩,
 ⟨some 9,.pick (.tmp 5) (.tmp 8) (.const (.bool false)),[],none⟩,
 ⟨some 10,.copy false (.tmp 9),[],none⟩,
 ⟨some 11,.copy false (.tmp 0),[],some (10,true)⟩,
 ⟨some 12,.idxs (.tmp 11) (.const (.int .i64 0)),[],some (10,true)⟩,
 ⟨some 13,.bin .leq (.tmp 12) (.const (.int .u8 90)),[],some (10,true)⟩,
 ⟨some 14,.pick (.tmp 10) (.tmp 13) (.const (.bool false)),[],none⟩,
 ⟨some 15,.copy false (.tmp 14),[],none⟩,
 ⟨some 16,.copy false (.tmp 0),[],some (15,true)⟩,
 ⟨some 17,.call (.func 120) [.tmp 16],[],some (15,true)⟩,
 ⟨some 18,.pick (.tmp 15) (.tmp 17) (.const (.bool false)),[],none⟩,
 ⟨some 2,.copy true (.tmp 18),[],none⟩]
-- function 157: corollary/tree.function
def F157r0 : List ROp := [⟨some 2,.copy true (.const (.bool false)),[],none⟩]
def F157r1 : List ROp := [⟨some 3,.copy false (.tmp 0),[],none⟩,
 ⟨some 4,.bin .eql (.tmp 3) (.const (.string { data := #[110,101,103] })),[],none⟩,
 ⟨some 5,.copy false (.tmp 4),[],none⟩,
 ⟨some 6,.copy false (.tmp 0),[],some (5,false)⟩,
 ⟨some 7,.bin .eql (.tmp 6) (.const (.string { data := #[108,101,110] })),[],some (5,false)⟩,
 ⟨some 8,.pick (.tmp 5) (.const (.bool true)) (.tmp 7),[],none⟩,
 ⟨some 9,.copy false (.tmp 8),[],none⟩,
 ⟨some 10,.copy false (.tmp 0),[],some (9,false)⟩,
 ⟨some 11,.bin .eql (.tmp 10) (.const (.string { data := #[98,105,103] })),[],some (9,false)⟩,
 ⟨some 12,.pick (.tmp 9) (.const (.bool true)) (.tmp 11),[],none⟩,
 ⟨some 13,.copy false (.tmp 12),[],none⟩,
 ⟨some 14,.copy false (.tmp 0),[],some (13,false)⟩,
 ⟨some 15,.bin .eql (.tmp 14) (.const (.string { data := #[105,110,116] })),[],some (13,false)⟩,
 ⟨some 16,.pick (.tmp 13) (.const (.bool true)) (.tmp 15),[],none⟩,
 ⟨some 2,.copy true (.tmp 16),[],none⟩]
-- function 74: corollary/tree.depth
def F74r0 : List ROp := [⟨some 1,.box 58 (.tmp 0),[],none⟩,
 ⟨some 2,.copy true (.const (.int .i64 0)),[],none⟩]
def F74r1 : List ROp := [⟨some 3,.fad 8 (.tmp 1),[],none⟩,
 ⟨some 4,.load 1 false false (.tmp 3),[],none⟩,
 ⟨some 5,.call (.func 98) [.tmp 4,.func 74],[],none⟩,
 ⟨some 6,.bin .add (.const (.int .i64 1)) (.tmp 5),[],none⟩,
 ⟨some 2,.copy true (.tmp 6),[],none⟩]
-- function 148: corollary/tree.zero
def F148r0 : List ROp := [⟨some 1,.box 56 (.tmp 0),[],none⟩,
 ⟨some 2,.copy true (.const (.bool false)),[],none⟩]
def F148r1 : List ROp := [⟨some 3,.fad 0 (.tmp 1),[],none⟩,
 ⟨some 4,.load 1 false false (.tmp 3),[],none⟩,
 ⟨some 5,.bin .eql (.tmp 4) (.const (.int .u8 0)),[],none⟩,
 ⟨some 6,.copy false (.tmp 5),[],none⟩,
 ⟨some 7,.fad 1 (.tmp 1),[],some (6,true)⟩,
 ⟨some 8,.load 1 false false (.tmp 7),[],some (6,true)⟩,
 ⟨some 9,.bin .eql (.tmp 8) (.const (.int .i64 0)),[],some (6,true)⟩,
 ⟨some 10,.pick (.tmp 6) (.tmp 9) (.const (.bool false)),[],none⟩,
 ⟨some 11,.copy false (.tmp 10),[],none⟩,
 ⟨some 12,.fad 2 (.tmp 1),[],some (11,true)⟩,
 ⟨some 13,.load 1 false false (.tmp 12),[],some (11,true)⟩,
 ⟨some 14,.bin .eql (.tmp 13) (.const (.string { data := #[] })),[],some (11,true)⟩,
 ⟨some 15,.pick (.tmp 11) (.tmp 14) (.const (.bool false)),[],none⟩,
 ⟨some 16,.copy false (.tmp 15),[],none⟩,
 ⟨some 17,.fad 3 (.tmp 1),[],some (16,true)⟩,
 ⟨some 18,.load 1 false false (.tmp 17),[],some (16,true)⟩,
 ⟨some 19,.len 0 (.tmp 18),[],some (16,true)⟩,
 ⟨some 20,.bin .eql (.tmp 19) (.const (.int .i64 0)),[],some (16,true)⟩,
 ⟨some 21,.pick (.tmp 16) (.tmp 20) (.const (.bool false)),[],none⟩,
 ⟨some 2,.copy true (.tmp 21),[],none⟩]
attribute [local simp] valX encV_eq exprX encE_eq encTR encT texts exprB
theorem gl_max {fz : Fz} {w : World} (hf : FzOK fz w) (hg : GLok fz) : ∃ m, w.cell? ⟨0, 0, none⟩ = some (.int .i64 m) := by
 obtain ⟨o, h1, m, t, f, rfl⟩ := hg _ (List.mem_cons_self ..)
 have := hf.2 _ _ h1
 exact ⟨m, by simp [World.cell?, this]⟩
theorem Contains_ok (s t : ByteArray) (hs : s.size ≤ 4194304) : Con Tryz.prog 121 [sval s, sval t] (bval (Lib.contains (bl s) (bl t))) :=
 Con.libG [.string s, .string t] _ ⟨_, Tryz.func121, by kernel_rfl, rfl⟩ fun fz w hf hg => by
  obtain ⟨m, hm⟩ := gl_max hf hg
  refine (Tryz.strings_Contains s t m w (by omega) hm).mono ?_
  rintro e w' ⟨rfl, rfl⟩
  exact ⟨rfl, Ext.refl _⟩
theorem rest_ok (s : ByteArray) (hs : s.size ≤ 4194304) : Con Tryz.prog 120 [sval s] (bval (restB s)) := by
 unfold restB
 refine Con.of_code Tryz.func120 (by kernel_rfl) rfl (by simp [Tryz.ntmps120]) fun C hC hM => ?_
 refine AWp.seq ?_
 refine AWp.regK [0] [true] F120r0 [] (by kernel_rfl) (by rw [hC]; rfl) fun K hK => ?_
 simp (maxSteps := 2000000) [F120r0]
 refine hK _ ?_
 refine AWp.seq ?_
 refine AWp.seq ?_
 refine AWp.regK [0,6,7] [] F120r1 [] (by kernel_rfl) (by rw [hC]; rfl) fun K hK => ?_
 simp (maxSteps := 2000000) [F120r1]
 refine hK _ ?_
 refine AWp.block ?_
 refine AWp.loopG (fun k : Nat => { tm := [(0, sval s), (6, ival s.size), (7, ival k)], hp := [] }) (fun k => k ≤ s.size ∧ allFrom nameB s 0 = allFrom nameB s k) (fun k => s.size - k) 0 ⟨by omega, rfl⟩ (by simp) (fun k hk => ?_)
 obtain ⟨hk1, hk2⟩ := hk
 refine AWp.seq ?_
 refine AWp.regK [0,6,7,8] [] F120r2 [] (by kernel_rfl) (by rw [hC]; rfl) fun K hK => ?_
 simp (maxSteps := 2000000) [F120r2]
 refine hK _ ?_
 refine AWp.seq ?_
 refine AWp.cond _ (by rfl) (fun hlt => ?_) (fun hge => ?_)
 ·skip
  have hlt : k < s.size := by simpa using hlt
  have hst := allFrom_step nameB s k hlt
  refine AWp.skip ?_
  refine AWp.seq ?_
  refine AWp.block ?_
  refine AWp.seq ?_
  refine AWp.regK [0,3,6,7] [true,true] F120r3 [] (by kernel_rfl) (by rw [hC]; rfl) fun K hK => ?_
  simp (maxSteps := 2000000) [F120r3, hlt]
  refine hK _ ?_
  refine AWp.seq ?_
  refine AWp.regK [0,4,6,7] [false,false,false,true] F120r4 [] (by kernel_rfl) (by rw [hC]; rfl) fun K hK => ?_
  simp (maxSteps := 2000000) [F120r4, hlt]
  (repeat refine ⟨by first | omega | (intros; omega) | (intros; exact sz_pos (by assumption)) | assumption, ?_⟩); refine hK _ ?_
  refine AWp.seq ?_
  refine AWp.regK [0,6,7,39] [] F120r5 [] (by kernel_rfl) (by rw [hC]; rfl) fun K hK => ?_
  simp (maxSteps := 2000000) [F120r5, hlt]
  (repeat refine ⟨by first | omega | (intros; omega) | assumption, ?_⟩); refine hK _ ?_
  refine AWp.cond _ (by rfl) (fun hc => ?_) (fun hc => ?_)
  ·skip
   have hc : nameB (chr s k) = false := by
    unfold nameB letterB
    simp at hc ⊢
    omega
   refine AWp.seq ?_
   refine AWp.regK [2] [true] F120r6 [] (by kernel_rfl) (by rw [hC]; rfl) fun K hK => ?_
   simp (maxSteps := 2000000) [F120r6]
   refine hK _ ?_
   repeat refine AWp.seq ?_
   refine AWp.ret ⟨.inr rfl, _, by simp [Tryz.results120] <;> rfl, ?_⟩
   refine .clos ?_ rfl
   rw [hk2, hst, hc]; rfl
  have hc : nameB (chr s k) = true := by
   unfold nameB letterB
   simp at hc ⊢
   omega
  refine AWp.skip ?_
  refine AWp.regK [0,6,7] [] F120r7 [] (by kernel_rfl) (by rw [hC]; rfl) fun K hK => ?_
  simp (maxSteps := 2000000) [F120r7]
  (repeat refine ⟨by first | omega | (intros; omega) | assumption, ?_⟩); refine hK _ ?_
  refine ⟨k + 1, ⟨by omega, by rw [hk2, hst, hc]; rfl⟩, by omega, ?_⟩
  simp [wrap_nat k (by omega)]
 have hge : ¬ k < s.size := by simpa using hge
 refine AWp.exit ?_
 refine AWp.seq ?_
 refine AWp.regK [2] [false,false,false,true] F120r8 [] (by kernel_rfl) (by rw [hC]; rfl) fun K hK => ?_
 simp (maxSteps := 2000000) [F120r8]
 refine hK _ ?_
 repeat refine AWp.seq ?_
 refine AWp.ret ⟨.inr rfl, _, by simp [Tryz.results120] <;> rfl, ?_⟩
 refine .clos ?_ rfl
 rw [hk2, allFrom_end nameB s k (by omega)]
 simp [oneOf]
 omega
theorem nameT_ok (s : ByteArray) (hs : s.size ≤ 4194304) : Con Tryz.prog 79 [sval s] (bval (nameR s)) := by
 have h1 := rest_ok s hs
 have h2 := Contains_ok tResv (⟨#[32]⟩ ++ s ++ ⟨#[32]⟩) (by decide)
 rw [← nameR_prog]
 have hz1 : (⟨#[32]⟩ : ByteArray).size + s.size ≤ 4611686018427387904 := by show 1 + _ ≤ _; omega
 have hz2 : (⟨#[32]⟩ : ByteArray).size + s.size + (⟨#[32]⟩ : ByteArray).size ≤ 4611686018427387904 := by show 1 + _ + 1 ≤ _; omega
 refine Con.of_code Tryz.func79 (by kernel_rfl) rfl (by simp [Tryz.ntmps79]) fun C hC hM => ?_
 refine AWp.seq ?_
 refine AWp.regK [0] [true] F79r0 [] (by kernel_rfl) (by rw [hC]; rfl) fun K hK => ?_
 simp (maxSteps := 2000000) [F79r0]
 refine hK _ ?_
 refine AWp.seq ?_
 refine AWp.regK [2] [false,false,false,false,false,false,false,false,false,false,false,false,false,false,false,false,false,false,false,false,false,false,false,true] F79r1 [{ r := bval (restB s) },{ r := bval (Lib.contains (bl tResv) (bl (⟨#[32]⟩ ++ s ++ ⟨#[32]⟩))) }] (by kernel_rfl) (by rw [hC]; rfl) fun K hK => ?_
 simp (maxSteps := 2000000) [F79r1]
 (repeat first | refine ⟨by first | kernel_rfl | (intros; omega) | assumption, ?_⟩ | refine ⟨fun h => size_pos h, ?_⟩ | refine ⟨fun h _ => size_pos h, ?_⟩ | refine ⟨by intros; exact callOK rfl h1, ?_⟩ | refine ⟨by intros; exact hz1, ?_⟩ | refine ⟨by intros; exact hz2, ?_⟩ | refine ⟨by intros; exact callOK rfl h2, ?_⟩); refine hK _ ?_
 repeat refine AWp.seq ?_
 refine AWp.ret ⟨.inr rfl, _, by simp [Tryz.results79] <;> rfl, ?_⟩
 refine .clos ?_ rfl
 simp [letterB, Bool.and_assoc]
theorem longT_ok (s : ByteArray) (hs : s.size ≤ 4194304) : Con Tryz.prog 137 [sval s] (bval (long s)) := by
 have h1 := Cut_ok s hs
 have hx : (cutL s).size ≤ s.size ∧ (cutR s).size ≤ s.size := by
  unfold cutL cutR
  split
  ·exact ⟨ext_le s _ _, ext_le s _ _⟩
  ·exact ⟨Nat.le_refl _, Nat.zero_le _⟩
 have h2 := nameT_ok (cutL s) (by omega)
 have h3 := nameT_ok (cutR s) (by omega)
 have hl : long s = (nameR (cutL s) && (!cutF s || nameR (cutR s))) := by
  unfold long cutL cutR cutF
  by_cases h : dotFrom s 0 < s.size
  ·simp [h]
  ·simp [h]
 rw [hl]
 refine Con.of_code Tryz.func137 (by kernel_rfl) rfl (by simp [Tryz.ntmps137]) fun C hC hM => ?_
 refine AWp.seq ?_
 refine AWp.regK [0] [true] F137r0 [] (by kernel_rfl) (by rw [hC]; rfl) fun K hK => ?_
 simp (maxSteps := 2000000) [F137r0]
 refine hK _ ?_
 refine AWp.seq ?_
 refine AWp.regK [3,4,5] [false,false,false,false,false,false,true,true,true] F137r1 [{ r := .tup [sval (cutL s),sval (cutR s),bval (cutF s)] }] (by kernel_rfl) (by rw [hC]; rfl) fun K hK => ?_
 simp (maxSteps := 2000000) [F137r1]
 (repeat first | refine ⟨by first | kernel_rfl | (intros; omega) | assumption, ?_⟩ | refine ⟨by intros; exact callOK rfl h1, ?_⟩); refine hK _ ?_
 refine AWp.seq ?_
 refine AWp.regK [2] [false,false,false,false,false,false,false,false,false,false,true] F137r2 [{ r := bval (nameR (cutL s)) },{ r := bval (nameR (cutR s)) }] (by kernel_rfl) (by rw [hC]; rfl) fun K hK => ?_
 simp (maxSteps := 2000000) [F137r2]
 (repeat first | refine ⟨by first | kernel_rfl | (intros; omega) | assumption, ?_⟩ | refine ⟨by intros; exact callOK rfl h2, ?_⟩ | refine ⟨by intros; exact callOK rfl h3, ?_⟩); refine hK _ ?_
 repeat refine AWp.seq ?_
 refine AWp.ret ⟨.inr rfl, _, by simp [Tryz.results137] <;> rfl, ?_⟩
 refine .clos ?_ rfl
 generalize nameR (cutL s) = a1; generalize nameR (cutR s) = a2; generalize cutF s = a3
 cases a1 <;> cases a2 <;> cases a3 <;> rfl
theorem variableT_ok (s : ByteArray) (hs : s.size ≤ 4194304) : Con Tryz.prog 145 [sval s] (bval (varB s)) := by
 have h1 := rest_ok s hs
 rw [← var_prog]
 refine Con.of_code Tryz.func145 (by kernel_rfl) rfl (by simp [Tryz.ntmps145]) fun C hC hM => ?_
 refine AWp.seq ?_
 refine AWp.regK [0] [true] F145r0 [] (by kernel_rfl) (by rw [hC]; rfl) fun K hK => ?_
 simp (maxSteps := 2000000) [F145r0]
 refine hK _ ?_
 refine AWp.seq ?_
 refine AWp.regK [2] [false,false,false,false,false,false,false,false,false,false,false,false,false,false,false,false,true] F145r1 [{ r := bval (restB s) }] (by kernel_rfl) (by rw [hC]; rfl) fun K hK => ?_
 simp (maxSteps := 2000000) [F145r1]
 (repeat first | refine ⟨by first | kernel_rfl | (intros; omega) | assumption, ?_⟩ | refine ⟨fun h => size_pos h, ?_⟩ | refine ⟨fun h _ => size_pos h, ?_⟩ | refine ⟨by intros; exact callOK rfl h1, ?_⟩); refine hK _ ?_
 repeat refine AWp.seq ?_
 refine AWp.ret ⟨.inr rfl, _, by simp [Tryz.results145] <;> rfl, ?_⟩
 refine .clos ?_ rfl
 simp [upB, Bool.and_assoc]
theorem functionT_ok (s : ByteArray) : Con Tryz.prog 157 [sval s] (bval (function s)) := by
 refine Con.of_code Tryz.func157 (by kernel_rfl) rfl (by simp [Tryz.ntmps157]) fun C hC hM => ?_
 refine AWp.seq ?_
 refine AWp.regK [0] [true] F157r0 [] (by kernel_rfl) (by rw [hC]; rfl) fun K hK => ?_
 simp (maxSteps := 2000000) [F157r0]
 refine hK _ ?_
 refine AWp.seq ?_
 refine AWp.regK [2] [false,false,false,false,false,false,false,false,false,false,false,false,false,false,true] F157r1 [] (by kernel_rfl) (by rw [hC]; rfl) fun K hK => ?_
 simp (maxSteps := 2000000) [F157r1]
 (repeat refine ⟨by first | omega | (intros; omega) | assumption, ?_⟩); refine hK _ ?_
 repeat refine AWp.seq ?_
 refine AWp.ret ⟨.inr rfl, _, by simp [Tryz.results157] <;> rfl, ?_⟩
 refine .clos ?_ rfl
 unfold function tNeg tLen tBig tInt
 by_cases a1 : s = ⟨#[110, 101, 103]⟩ <;> by_cases a2 : s = ⟨#[108, 101, 110]⟩ <;> by_cases a3 : s = ⟨#[98, 105, 103]⟩ <;> by_cases a4 : s = ⟨#[105, 110, 116]⟩ <;> simp [a1, a2, a3, a4]
theorem maxD_depth : ∀ l : List ExprD, maxD depthE l = depthsE l
 | [] => rfl
 | e :: l => by simp only [maxD, depthsE, maxD_depth l]
theorem depthT_e : ∀ (n : Nat) (e : ExprD), esize e < n → esize e ≤ 4194304 → Con Tryz.prog 74 [exprX e] (ival (depthE e)) := by
 intro n
 induction n with
 | zero => intro e h; omega
 | succ n ih =>
  intro e hn hv
  have hsz := esize_eq e
  have hlen := esizes_len e.args
  have hde := depthE_eq e
  have hdl := depthsE_le e.args
  have hc := deepestE_ok 74 depthE e.args (by omega) (fun x hx => by have := esize_mem hx; have := depthE_le x; omega) (fun x hx => by have := esize_mem hx; exact ih x (by omega) (by omega))
  rw [maxD_depth] at hc
  refine Con.of_code Tryz.func74 (by kernel_rfl) rfl (by simp [Tryz.ntmps74]) fun C hC hM => ?_
  refine AWp.seq ?_
  refine AWp.regK [1] [false,true] F74r0 [] (by kernel_rfl) (by rw [hC]; rfl) fun K hK => ?_
  simp (maxSteps := 2000000) [F74r0]
  refine hK _ ?_
  refine AWp.seq ?_
  refine AWp.regK [2] [false,false,false,false,true] F74r1 [{ r := ival (depthsE e.args) }] (by kernel_rfl) (by rw [hC]; rfl) fun K hK => ?_
  simp (maxSteps := 2000000) [F74r1]
  (repeat first | refine ⟨by first | kernel_rfl | (intros; omega) | assumption, ?_⟩ | refine ⟨by intros; exact callOK rfl hc, ?_⟩); refine hK _ ?_
  repeat refine AWp.seq ?_
  refine AWp.ret ⟨.inr rfl, _, by simp [Tryz.results74] <;> rfl, ?_⟩
  refine .clos ?_ rfl
  rw [hde]
  simp [oneOf]
  rw [wrap_in (by omega) (by omega)]
  omega
theorem zeroT_ok (v : ValD) (hv : vsize v ≤ 4194304) : Con Tryz.prog 148 [valX v] (bval (noneV v)) := by
 have hsz := vsize_eq v
 have hlen := vsizes_len v.l
 refine Con.of_code Tryz.func148 (by kernel_rfl) rfl (by simp [Tryz.ntmps148]) fun C hC hM => ?_
 refine AWp.seq ?_
 refine AWp.regK [1] [false,true] F148r0 [] (by kernel_rfl) (by rw [hC]; rfl) fun K hK => ?_
 simp (maxSteps := 2000000) [F148r0]
 refine hK _ ?_
 refine AWp.seq ?_
 refine AWp.regK [2] [false,false,false,false,false,false,false,false,false,false,false,false,false,false,false,false,false,false,false,true] F148r1 [] (by kernel_rfl) (by rw [hC]; rfl) fun K hK => ?_
 simp (maxSteps := 2000000) [F148r1]
 (repeat refine ⟨by first | omega | (intros; omega) | assumption, ?_⟩); refine hK _ ?_
 repeat refine AWp.seq ?_
 refine AWp.ret ⟨.inr rfl, _, by simp [Tryz.results148] <;> rfl, ?_⟩
 refine .clos ?_ rfl
 simp [noneV, Bool.and_assoc]
