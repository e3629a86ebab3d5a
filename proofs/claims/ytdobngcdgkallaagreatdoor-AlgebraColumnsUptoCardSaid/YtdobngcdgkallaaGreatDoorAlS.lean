/- The program: may a pattern be? A module with one never asks. -/
import Derived.Test.YtdobngcdgkallaaGreatDoorAlQ
set_option linter.unusedSimpArgs false
set_option linter.unusedVariables false
set_option linter.unusedSectionVars false
open Go Go.Aw Go.Proofs
namespace Go.Al
set_option maxRecDepth 20000
-- function 117: corollary/tree.literalDepth
def F117r0 : List ROp := [⟨some 1,.box 99 (.tmp 0),[],none⟩,
 ⟨some 2,.copy true (.const (.int .i64 0)),[],none⟩]
def F117r1 : List ROp := [⟨some 3,.fad 4 (.tmp 1),[],none⟩,
 ⟨some 4,.load 1 false false (.tmp 3),[],none⟩,
 ⟨some 5,.call (.func 98) [.tmp 4,.func 74],[],none⟩,
 ⟨some 2,.copy true (.tmp 5),[],none⟩]
-- function 119: corollary/tree.deep$4
def F119r0 : List ROp := [⟨some 1,.box 102 (.tmp 0),[],none⟩,
 ⟨some 2,.copy true (.const (.int .i64 0)),[],none⟩]
def F119r1 : List ROp := [⟨some 3,.fad 3 (.tmp 1),[],none⟩,
 ⟨some 4,.load 1 false false (.tmp 3),[],none⟩,
 ⟨some 5,.call (.func 116) [.tmp 4,.func 117],[],none⟩,
 ⟨some 2,.copy true (.tmp 5),[],none⟩]
-- function 78: corollary/tree.deep
def F78r0 : List ROp := [⟨some 1,.box 109 (.tmp 0),[],none⟩,
 ⟨some 2,.copy true (.const (.int .i64 0)),[],none⟩]
def F78r1 : List ROp := [⟨some 3,.fad 2 (.tmp 1),[],none⟩,
 ⟨some 4,.load 1 false false (.tmp 3),[0],none⟩,
 ⟨some 5,.call (.func 106) [.tmp 4,.func 107],[1],none⟩,
 ⟨some 6,.fad 3 (.tmp 1),[],none⟩,
 ⟨some 7,.load 1 false false (.tmp 6),[3],none⟩,
 ⟨some 8,.call (.func 112) [.tmp 7,.func 113],[4,2],none⟩,
 ⟨some 9,.fad 4 (.tmp 1),[],none⟩,
 ⟨some 10,.load 1 false false (.tmp 9),[6],none⟩,
 ⟨some 11,.call (.func 114) [.tmp 10,.func 115],[7,5],none⟩,
 ⟨some 12,.fad 5 (.tmp 1),[],none⟩,
 ⟨some 13,.load 1 false false (.tmp 12),[9],none⟩,
 ⟨some 14,.call (.func 118) [.tmp 13,.func 119],[10,8],none⟩,
 ⟨some 15,.mx4 (.tmp 5) (.tmp 8) (.tmp 11) (.tmp 14),[2,5,8,11],none⟩,
 ⟨some 2,.copy true (.tmp 15),[12,11,0,1,2,3,4,5,6,7,8,9,10,11,12],none⟩]
-- function 92: corollary/tree.literal
def F92r0 : List ROp := [⟨some 1,.box 99 (.tmp 0),[],none⟩,
 ⟨some 2,.copy true (.const (.bool false)),[],none⟩]
def F92r1 : List ROp := [⟨some 3,.fad 0 (.tmp 1),[],none⟩,
 ⟨some 4,.load 1 false false (.tmp 3),[],none⟩]
def F92r2 : List ROp := [⟨some 6,.bin .eql (.tmp 4) (.const (.int .u8 1)),[],none⟩,
 ⟨some 5,.copy true (.tmp 6),[],none⟩]
def F92r3 : List ROp := [⟨some 7,.bin .eql (.tmp 4) (.const (.int .u8 2)),[],none⟩,
 ⟨some 5,.copy true (.tmp 7),[],none⟩]
def F92r4 : List ROp := [⟨some 8,.fad 3 (.tmp 1),[],none⟩,
 ⟨some 9,.load 1 false false (.tmp 8),[],none⟩,
 ⟨some 10,.call (.func 137) [.tmp 9],[],none⟩,
 ⟨some 11,.copy false (.tmp 10),[],none⟩,
 ⟨some 12,.fad 4 (.tmp 1),[],some (11,true)⟩,
 ⟨some 13,.load 1 false false (.tmp 12),[],some (11,true)⟩,
 ⟨some 14,.len 0 (.tmp 13),[],some (11,true)⟩,
 ⟨some 15,.bin .leq (.tmp 14) (.const (.int .i64 8)),[],some (11,true)⟩,
 ⟨some 16,.pick (.tmp 11) (.tmp 15) (.const (.bool false)),[],none⟩,
 ⟨some 17,.copy false (.tmp 16),[],none⟩,
 ⟨some 18,.fad 4 (.tmp 1),[],some (17,true)⟩,
 ⟨some 19,.load 1 false false (.tmp 18),[],some (17,true)⟩,
 ⟨some 20,.call (.func 138) [.tmp 19,.func 144],[],some (17,true)⟩,
 ⟨some 21,.pick (.tmp 17) (.tmp 20) (.const (.bool false)),[],none⟩,
 ⟨some 2,.copy true (.tmp 21),[],none⟩]
def F92r5 : List ROp := [⟨some 23,.bin .eql (.tmp 4) (.const (.int .u8 3)),[],none⟩,
 ⟨some 22,.copy true (.tmp 23),[],none⟩]
def F92r6 : List ROp := [⟨some 24,.fad 3 (.tmp 1),[],none⟩,
 ⟨some 25,.load 1 false false (.tmp 24),[],none⟩,
 ⟨some 26,.bin .eql (.tmp 25) (.const (.string { data := #[] })),[],none⟩,
 ⟨some 27,.copy false (.tmp 26),[],none⟩,
 ⟨some 28,.fad 4 (.tmp 1),[],some (27,true)⟩,
 ⟨some 29,.load 1 false false (.tmp 28),[],some (27,true)⟩,
 ⟨some 30,.len 0 (.tmp 29),[],some (27,true)⟩,
 ⟨some 31,.bin .eql (.tmp 30) (.const (.int .i64 1)),[],some (27,true)⟩,
 ⟨some 32,.pick (.tmp 27) (.tmp 31) (.const (.bool false)),[],none⟩,
 ⟨some 33,.copy false (.tmp 32),[],none⟩,
 ⟨some 34,.fad 4 (.tmp 1),[],some (33,true)⟩,
 ⟨some 35,.load 1 false false (.tmp 34),[],some (33,true)⟩,
 ⟨some 36,.iad 9 (.tmp 35) (.const (.int .i64 0)),[],some (33,true)⟩,
 ⟨some 37,.load 9 true false (.tmp 36),[],some (33,true)⟩,
 ⟨some 38,.call (.func 75) [.tmp 37],[],some (33,true)⟩,
 ⟨some 39,.pick (.tmp 33) (.tmp 38) (.const (.bool false)),[],none⟩,
 ⟨some 2,.copy true (.tmp 39),[],none⟩]
def F92r7 : List ROp := [⟨some 41,.bin .eql (.tmp 4) (.const (.int .u8 4)),[],none⟩,
 ⟨some 40,.copy true (.tmp 41),[],none⟩]
def F92r8 : List ROp := [⟨some 42,.fad 3 (.tmp 1),[],none⟩,
 ⟨some 43,.load 1 false false (.tmp 42),[],none⟩,
 ⟨some 44,.call (.func 145) [.tmp 43],[],none⟩,
 ⟨some 45,.copy false (.tmp 44),[],none⟩,
 ⟨some 46,.fad 4 (.tmp 1),[],some (45,true)⟩,
 ⟨some 47,.load 1 false false (.tmp 46),[],some (45,true)⟩,
 ⟨some 48,.len 0 (.tmp 47),[],some (45,true)⟩,
 ⟨some 49,.bin .eql (.tmp 48) (.const (.int .i64 1)),[],some (45,true)⟩,
 ⟨some 50,.pick (.tmp 45) (.tmp 49) (.const (.bool false)),[],none⟩,
 ⟨some 51,.copy false (.tmp 50),[],none⟩,
 ⟨some 52,.fad 4 (.tmp 1),[],some (51,true)⟩,
 ⟨some 53,.load 1 false false (.tmp 52),[],some (51,true)⟩,
 ⟨some 54,.iad 9 (.tmp 53) (.const (.int .i64 0)),[],some (51,true)⟩,
 ⟨some 55,.load 9 true false (.tmp 54),[],some (51,true)⟩,
 ⟨some 56,.call (.func 75) [.tmp 55],[],some (51,true)⟩,
 ⟨some 57,.pick (.tmp 51) (.tmp 56) (.const (.bool false)),[],none⟩,
 ⟨some 2,.copy true (.tmp 57),[],none⟩]
def F92r9 : List ROp := [⟨some 2,.copy true (.const (.bool false)),[],none⟩]
-- function 90: corollary/tree.Check$3
def F90r0 : List ROp := [⟨some 1,.box 102 (.tmp 0),[],none⟩,
 ⟨some 2,.copy true (.const (.bool false)),[],none⟩]
def F90r1 : List ROp := [⟨some 3,.fad 2 (.tmp 1),[],none⟩,
 ⟨some 4,.load 1 false false (.tmp 3),[],none⟩,
 ⟨some 5,.call (.func 79) [.tmp 4],[],none⟩,
 ⟨some 6,.copy false (.tmp 5),[],none⟩,
 ⟨some 7,.fad 3 (.tmp 1),[],some (6,true)⟩,
 ⟨some 8,.load 1 false false (.tmp 7),[],some (6,true)⟩,
 ⟨some 9,.len 0 (.tmp 8),[],some (6,true)⟩,
 ⟨some 10,.bin .gtr (.tmp 9) (.const (.int .i64 0)),[],some (6,true)⟩,
 ⟨some 11,.pick (.tmp 6) (.tmp 10) (.const (.bool false)),[],none⟩,
 ⟨some 12,.copy false (.tmp 11),[],none⟩,
 ⟨some 13,.fad 3 (.tmp 1),[],some (12,true)⟩,
 ⟨some 14,.load 1 false false (.tmp 13),[],some (12,true)⟩,
 ⟨some 15,.call (.func 91) [.tmp 14,.func 92],[],some (12,true)⟩,
 ⟨some 16,.pick (.tmp 12) (.tmp 15) (.const (.bool false)),[],none⟩,
 ⟨some 2,.copy true (.tmp 16),[],none⟩]
-- function 94: corollary/tree.Check$5
def F94r0 : List ROp := [⟨some 1,.box 102 (.tmp 0),[],none⟩,
 ⟨some 2,.copy true (.const (.bool false)),[],none⟩]
def F94r1 : List ROp := [⟨some 3,.fad 3 (.tmp 1),[],none⟩,
 ⟨some 4,.load 1 false false (.tmp 3),[],none⟩,
 ⟨some 5,.len 0 (.tmp 4),[],none⟩,
 ⟨some 6,.bin .leq (.tmp 5) (.const (.int .i64 12)),[],none⟩,
 ⟨some 2,.copy true (.tmp 6),[],none⟩]
-- function 66: corollary/tree.Check
def F66r0 : List ROp := [⟨some 1,.box 109 (.tmp 0),[],none⟩,
 ⟨some 2,.copy true (.const (.int .i64 0)),[],none⟩]
def F66r1 : List ROp := [⟨some 3,.load 6 true false (.tmp 1),[],none⟩,
 ⟨some 4,.call (.func 78) [.tmp 3],[],none⟩,
 ⟨some 5,.bin .gtr (.tmp 4) (.const (.int .i64 64)),[],none⟩]
def F66r2 : List ROp := [⟨some 2,.copy true (.const (.int .i64 65)),[],none⟩]
def F66r3 : List ROp := [⟨some 6,.fad 0 (.tmp 1),[],none⟩,
 ⟨some 7,.load 1 false false (.tmp 6),[],none⟩,
 ⟨some 8,.call (.func 79) [.tmp 7],[],none⟩,
 ⟨some 9,.un .not (.tmp 8),[],none⟩,
 ⟨some 10,.copy false (.tmp 9),[],none⟩,
 ⟨some 11,.fad 1 (.tmp 1),[],some (10,false)⟩,
 ⟨some 12,.load 1 false false (.tmp 11),[],some (10,false)⟩,
 ⟨some 13,.call (.func 80) [.tmp 12,.func 81],[],some (10,false)⟩,
 ⟨some 14,.un .not (.tmp 13),[],some (10,false)⟩,
 ⟨some 15,.pick (.tmp 10) (.const (.bool true)) (.tmp 14),[],none⟩,
 ⟨some 16,.copy false (.tmp 15),[],none⟩,
 ⟨some 17,.fad 2 (.tmp 1),[],some (16,false)⟩,
 ⟨some 18,.load 1 false false (.tmp 17),[],some (16,false)⟩,
 ⟨some 19,.call (.func 82) [.tmp 18,.func 83],[],some (16,false)⟩,
 ⟨some 20,.un .not (.tmp 19),[],some (16,false)⟩,
 ⟨some 21,.pick (.tmp 16) (.const (.bool true)) (.tmp 20),[],none⟩,
 ⟨some 22,.copy false (.tmp 21),[],none⟩,
 ⟨some 23,.fad 3 (.tmp 1),[],some (22,false)⟩,
 ⟨some 24,.load 1 false false (.tmp 23),[],some (22,false)⟩,
 ⟨some 25,.call (.func 84) [.tmp 24,.func 85],[],some (22,false)⟩,
 ⟨some 26,.un .not (.tmp 25),[],some (22,false)⟩,
 ⟨some 27,.pick (.tmp 22) (.const (.bool true)) (.tmp 26),[],none⟩,
 ⟨some 28,.copy false (.tmp 27),[],none⟩,
 ⟨some 29,.fad 4 (.tmp 1),[],some (28,false)⟩,
 ⟨some 30,.load 1 false false (.tmp 29),[],some (28,false)⟩,
 ⟨some 31,.call (.func 87) [.tmp 30,.func 88],[],some (28,false)⟩,
 ⟨some 32,.un .not (.tmp 31),[],some (28,false)⟩,
 ⟨some 33,.pick (.tmp 28) (.const (.bool true)) (.tmp 32),[],none⟩,
 ⟨some 34,.copy false (.tmp 33),[],none⟩,
 ⟨some 35,.fad 5 (.tmp 1),[],some (34,false)⟩,
 ⟨some 36,.load 1 false false (.tmp 35),[],some (34,false)⟩,
 ⟨some 37,.call (.func 89) [.tmp 36,.func 90],[],some (34,false)⟩,
 ⟨some 38,.un .not (.tmp 37),[],some (34,false)⟩,
 ⟨some 39,.pick (.tmp 34) (.const (.bool true)) (.tmp 38),[],none⟩]
def F66r4 : List ROp := [⟨some 2,.copy true (.const (.int .i64 4)),[],none⟩]
def F66r5 : List ROp := [⟨some 40,.fad 1 (.tmp 1),[],none⟩,
 ⟨some 41,.load 1 false false (.tmp 40),[],none⟩,
 ⟨some 42,.len 0 (.tmp 41),[],none⟩,
 ⟨some 43,.bin .gtr (.tmp 42) (.const (.int .i64 8)),[],none⟩,
 ⟨some 44,.copy false (.tmp 43),[],none⟩,
 ⟨some 45,.fad 2 (.tmp 1),[],some (44,false)⟩,
 ⟨some 46,.load 1 false false (.tmp 45),[],some (44,false)⟩,
 ⟨some 47,.len 0 (.tmp 46),[],some (44,false)⟩,
 ⟨some 48,.bin .gtr (.tmp 47) (.const (.int .i64 64)),[],some (44,false)⟩,
 ⟨some 49,.pick (.tmp 44) (.const (.bool true)) (.tmp 48),[],none⟩,
 ⟨some 50,.copy false (.tmp 49),[],none⟩,
 ⟨some 51,.fad 3 (.tmp 1),[],some (50,false)⟩,
 ⟨some 52,.load 1 false false (.tmp 51),[],some (50,false)⟩,
 ⟨some 53,.len 0 (.tmp 52),[],some (50,false)⟩,
 ⟨some 54,.bin .gtr (.tmp 53) (.const (.int .i64 64)),[],some (50,false)⟩,
 ⟨some 55,.pick (.tmp 50) (.const (.bool true)) (.tmp 54),[],none⟩,
 ⟨some 56,.copy false (.tmp 55),[],none⟩,
 ⟨some 57,.fad 4 (.tmp 1),[],some (56,false)⟩,
 ⟨some 58,.load 1 false false (.tmp 57),[],some (56,false)⟩,
 ⟨some 59,.len 0 (.tmp 58),[],some (56,false)⟩,
 ⟨some 60,.bin .gtr (.tmp 59) (.const (.int .i64 256)),[],some (56,false)⟩,
 ⟨some 61,.pick (.tmp 56) (.const (.bool true)) (.tmp 60),[],none⟩,
 ⟨some 62,.copy false (.tmp 61),[],none⟩,
 ⟨some 63,.fad 5 (.tmp 1),[],some (62,false)⟩,
 ⟨some 64,.load 1 false false (.tmp 63),[],some (62,false)⟩,
 ⟨some 65,.len 0 (.tmp 64),[],some (62,false)⟩,
 ⟨some 66,.bin .gtr (.tmp 65) (.const (.int .i64 256)),[],some (62,false)⟩,
 ⟨some 67,.pick (.tmp 62) (.const (.bool true)) (.tmp 66),[],none⟩,
 ⟨some 68,.copy false (.tmp 67),[],none⟩,
 ⟨some 69,.fad 4 (.tmp 1),[],some (68,false)⟩,
 ⟨some 70,.load 1 false false (.tmp 69),[],some (68,false)⟩,
 ⟨some 71,.call (.func 87) [.tmp 70,.func 93],[],some (68,false)⟩,
 ⟨some 72,.un .not (.tmp 71),[],some (68,false)⟩,
 ⟨some 73,.pick (.tmp 68) (.const (.bool true)) (.tmp 72),[],none⟩,
 ⟨some 74,.copy false (.tmp 73),[],none⟩,
 ⟨some 75,.fad 5 (.tmp 1),[],some (74,false)⟩,
 ⟨some 76,.load 1 false false (.tmp 75),[],some (74,false)⟩,
 ⟨some 77,.call (.func 89) [.tmp 76,.func 94],[],some (74,false)⟩,
 ⟨some 78,.un .not (.tmp 77),[],some (74,false)⟩,
 ⟨some 79,.pick (.tmp 74) (.const (.bool true)) (.tmp 78),[],none⟩]
def F66r6 : List ROp := [⟨some 2,.copy true (.const (.int .i64 3)),[],none⟩]
def F66r7 : List ROp := [⟨some 2,.copy true (.const (.int .i64 0)),[],none⟩]
attribute [local simp] encL encLR litX encN encNR nevX encTR encT texts nilA
def tMod : ByteArray := ⟨#[109]⟩
def modX (e : ExprD) : AV := .agg [sval tMod, nilA, nilA, nilA, nilA, .rd 4 [encN e]]
attribute [local simp] modX
theorem litDepth_ok (e : ExprD) (h : esize e ≤ 4194304) : Con Tryz.prog 117 [litX e] (ival (depthE e)) := by
 have hd := depthE_le e
 have hc := deepestE_ok 74 depthE [e] (by simp) (fun x hx => by simp at hx; subst hx; omega) (fun x hx => by simp at hx; subst hx; exact depthT_e _ x (Nat.lt_succ_self _) h)
 have hm : maxD depthE [e] = depthE e := by simp [maxD]
 rw [hm] at hc
 simp only [encER, List.map_cons, List.map_nil] at hc
 refine Con.of_code Tryz.func117 (by kernel_rfl) rfl (by simp [Tryz.ntmps117]) fun C hC hM => ?_
 refine AWp.seq ?_
 refine AWp.regK [1] [false,true] F117r0 [] (by kernel_rfl) (by rw [hC]; rfl) fun K hK => ?_
 simp (maxSteps := 2000000) [F117r0]
 refine hK _ ?_
 refine AWp.seq ?_
 refine AWp.regK [2] [false,false,false,true] F117r1 [{ r := ival (depthE e) }] (by kernel_rfl) (by rw [hC]; rfl) fun K hK => ?_
 simp (maxSteps := 2000000) [F117r1]
 (repeat first | refine ⟨by first | kernel_rfl | (intros; omega) | assumption, ?_⟩ | refine ⟨by intros; exact callOK rfl hc, ?_⟩); refine hK _ ?_
 repeat refine AWp.seq ?_
 refine AWp.ret ⟨.inr rfl, _, by simp [Tryz.results117] <;> rfl, ?_⟩
 exact .closed rfl
theorem nevDepth_ok (e : ExprD) (h : esize e ≤ 4194304) : Con Tryz.prog 119 [nevX e] (ival (depthE e)) := by
 have hd := depthE_le e
 have hc := deepestL_ok 117 depthE [e] (by simp) (fun x hx => by simp at hx; subst hx; omega) (fun x hx => by simp at hx; subst hx; exact litDepth_ok x h)
 have hm : maxD depthE [e] = depthE e := by simp [maxD]
 rw [hm] at hc
 simp only [encLR, List.map_cons, List.map_nil] at hc
 refine Con.of_code Tryz.func119 (by kernel_rfl) rfl (by simp [Tryz.ntmps119]) fun C hC hM => ?_
 refine AWp.seq ?_
 refine AWp.regK [1] [false,true] F119r0 [] (by kernel_rfl) (by rw [hC]; rfl) fun K hK => ?_
 simp (maxSteps := 2000000) [F119r0]
 refine hK _ ?_
 refine AWp.seq ?_
 refine AWp.regK [2] [false,false,false,true] F119r1 [{ r := ival (depthE e) }] (by kernel_rfl) (by rw [hC]; rfl) fun K hK => ?_
 simp (maxSteps := 2000000) [F119r1]
 (repeat first | refine ⟨by first | kernel_rfl | (intros; omega) | assumption, ?_⟩ | refine ⟨by intros; exact callOK rfl hc, ?_⟩); refine hK _ ?_
 repeat refine AWp.seq ?_
 refine AWp.ret ⟨.inr rfl, _, by simp [Tryz.results119] <;> rfl, ?_⟩
 exact .closed rfl
theorem modDepth_ok (e : ExprD) (h : esize e ≤ 4194304) : Con Tryz.prog 78 [modX e] (ival (depthE e)) := by
 have hd := depthE_le e
 have hc := deepestN_ok 119 depthE [e] (by simp) (fun x hx => by simp at hx; subst hx; omega) (fun x hx => by simp at hx; subst hx; exact nevDepth_ok x h)
 have hm : maxD depthE [e] = depthE e := by simp [maxD]
 rw [hm] at hc
 simp only [encNR, List.map_cons, List.map_nil] at hc
 have h1 := deepestTd_ok 107
 have h2 := deepestRd_ok 113
 have h3 := deepestRu_ok 115
 refine Con.of_code Tryz.func78 (by kernel_rfl) rfl (by simp [Tryz.ntmps78]) fun C hC hM => ?_
 refine AWp.seq ?_
 refine AWp.regK [1] [false,true] F78r0 [] (by kernel_rfl) (by rw [hC]; rfl) fun K hK => ?_
 simp (maxSteps := 2000000) [F78r0]
 refine hK _ ?_
 refine AWp.seq ?_
 refine AWp.regKL ops_mixed [[],[0],[0,1],[],[3],[0,1,2,3,4],[],[6],[0,1,2,3,4,5,6,7],[],[9],[0,1,2,3,4,5,6,7,8,9,10],[0,1,2,3,4,5,6,7,8,9,10,11],[0,1,2,3,4,5,6,7,8,9,10,11,12]] [2] [false,false,false,false,false,false,false,false,false,false,false,false,false,true] F78r1 [{ r := ival 0 },{ r := ival 0 },{ r := ival 0 },{ r := ival (depthE e) }] (by kernel_rfl) (by rw [hC]; rfl) (by kernel_rfl) (by kernel_rfl) fun K hK => ?_
 simp (maxSteps := 2000000) [F78r1]
 (repeat first | refine ⟨by first | kernel_rfl | (intros; omega) | assumption, ?_⟩ | refine ⟨by intros; exact callOK rfl h1, ?_⟩ | refine ⟨by intros; exact callOK rfl h2, ?_⟩ | refine ⟨by intros; exact callOK rfl h3, ?_⟩ | refine ⟨by intros; exact callOK rfl hc, ?_⟩); refine hK _ ?_
 repeat refine AWp.seq ?_
 refine AWp.ret ⟨.inr rfl, _, by simp [Tryz.results78] <;> rfl, ?_⟩
 refine .clos ?_ rfl
 simp [oneOf]
 omega
theorem lit_ok (e : ExprD) (h : esize e ≤ 4194304) : Con Tryz.prog 92 [litX e] (bval (good true e)) := by
 have hl := longT_ok tRel (by decide)
 have hlv : long tRel = true := by decide +kernel
 rw [hlv] at hl
 have hc := allEP_ok 144 (good true) [e] (by simp) (fun x hx => by simp at hx; subst hx; exact patternT_ok x h)
 have hm : ([e] : List ExprD).all (good true) = good true e := by simp
 rw [hm] at hc
 simp only [encER, List.map_cons, List.map_nil] at hc
 refine Con.of_code Tryz.func92 (by kernel_rfl) rfl (by simp [Tryz.ntmps92]) fun C hC hM => ?_
 refine AWp.seq ?_
 refine AWp.regK [1] [false,true] F92r0 [] (by kernel_rfl) (by rw [hC]; rfl) fun K hK => ?_
 simp (maxSteps := 2000000) [F92r0]
 refine hK _ ?_
 refine AWp.seq ?_
 refine AWp.seq ?_
 refine AWp.regK [1,4] [] F92r1 [] (by kernel_rfl) (by rw [hC]; rfl) fun K hK => ?_
 simp (maxSteps := 2000000) [F92r1]
 refine hK _ ?_
 refine AWp.block ?_
 refine AWp.seq ?_
 refine AWp.seq ?_
 refine AWp.regK [1,4,5] [false,true] F92r2 [] (by kernel_rfl) (by rw [hC]; rfl) fun K hK => ?_
 simp (maxSteps := 2000000) [F92r2]
 refine hK _ ?_
 refine AWp.cond true (by simp) (fun _ => ?_) (fun he => by cases he)
 refine AWp.skip ?_
 refine AWp.cond true (by simp) (fun _ => ?_) (fun he => by cases he)
 refine AWp.seq ?_
 refine AWp.regK [2] [false,false,false,false,false,false,false,false,false,false,false,false,false,false,true] F92r4 [{ r := bval true },{ r := bval (good true e) }] (by kernel_rfl) (by rw [hC]; rfl) fun K hK => ?_
 simp (maxSteps := 2000000) [F92r4]
 (repeat first | refine ⟨by first | kernel_rfl | (intros; omega) | assumption, ?_⟩ | refine ⟨by intros; exact callOK rfl hl, ?_⟩ | refine ⟨by intros; exact callOK rfl hc, ?_⟩); refine hK _ ?_
 repeat refine AWp.seq ?_
 refine AWp.ret ⟨.inr rfl, _, by simp [Tryz.results92] <;> rfl, ?_⟩
 exact .closed rfl
theorem nev_ok (e : ExprD) (h : esize e ≤ 4194304) : Con Tryz.prog 90 [nevX e] (bval (good true e)) := by
 have hl := nameT_ok tNev (by decide)
 have hlv : nameR tNev = true := by decide +kernel
 rw [hlv] at hl
 have hc := allL_ok 92 (good true) [e] (by simp) (fun x hx => by simp at hx; subst hx; exact lit_ok x h)
 have hm : ([e] : List ExprD).all (good true) = good true e := by simp
 rw [hm] at hc
 simp only [encLR, List.map_cons, List.map_nil] at hc
 refine Con.of_code Tryz.func90 (by kernel_rfl) rfl (by simp [Tryz.ntmps90]) fun C hC hM => ?_
 refine AWp.seq ?_
 refine AWp.regK [1] [false,true] F90r0 [] (by kernel_rfl) (by rw [hC]; rfl) fun K hK => ?_
 simp (maxSteps := 2000000) [F90r0]
 refine hK _ ?_
 refine AWp.seq ?_
 refine AWp.regK [2] [false,false,false,false,false,false,false,false,false,false,false,false,false,false,true] F90r1 [{ r := bval true },{ r := bval (good true e) }] (by kernel_rfl) (by rw [hC]; rfl) fun K hK => ?_
 simp (maxSteps := 2000000) [F90r1]
 (repeat first | refine ⟨by first | kernel_rfl | (intros; omega) | assumption, ?_⟩ | refine ⟨by intros; exact callOK rfl hl, ?_⟩ | refine ⟨by intros; exact callOK rfl hc, ?_⟩); refine hK _ ?_
 repeat refine AWp.seq ?_
 refine AWp.ret ⟨.inr rfl, _, by simp [Tryz.results90] <;> rfl, ?_⟩
 exact .closed rfl
theorem nevLen_ok (e : ExprD) : Con Tryz.prog 94 [nevX e] (bval true) := by
 refine Con.of_code Tryz.func94 (by kernel_rfl) rfl (by simp [Tryz.ntmps94]) fun C hC hM => ?_
 refine AWp.seq ?_
 refine AWp.regK [1] [false,true] F94r0 [] (by kernel_rfl) (by rw [hC]; rfl) fun K hK => ?_
 simp (maxSteps := 2000000) [F94r0]
 refine hK _ ?_
 refine AWp.seq ?_
 refine AWp.regK [2] [false,false,false,false,true] F94r1 [] (by kernel_rfl) (by rw [hC]; rfl) fun K hK => ?_
 simp (maxSteps := 2000000) [F94r1]
 refine hK _ ?_
 repeat refine AWp.seq ?_
 refine AWp.ret ⟨.inr rfl, _, by simp [Tryz.results94] <;> rfl, ?_⟩
 exact .closed rfl
theorem CheckM_ok (e : ExprD) (h : esize e ≤ 4194304) : Con Tryz.prog 66 [modX e] (ival (if 64 < depthE e then 65 else if good true e = true then 0 else 4)) := by
 have hd := modDepth_ok e h
 have hn := nameT_ok tMod (by decide)
 have hnv : nameR tMod = true := by decide +kernel
 rw [hnv] at hn
 have h1 := allIm_ok 81
 have h2 := allTd_ok 83
 have h3 := allRd_ok 85
 have h4 := allRu_ok 88
 have h5 := allN_ok 90 (good true) [e] (by simp) (fun x hx => by simp at hx; subst hx; exact nev_ok x h)
 have hm : ([e] : List ExprD).all (good true) = good true e := by simp
 rw [hm] at h5
 have h6 := allRu_ok 93
 have h7 := allN_ok 94 (fun _ => true) [e] (by simp) (fun x hx => nevLen_ok x)
 have hm7 : ([e] : List ExprD).all (fun _ => true) = true := rfl
 rw [hm7] at h7
 simp only [encNR, List.map_cons, List.map_nil] at h5 h7
 refine Con.of_code Tryz.func66 (by kernel_rfl) rfl (by simp [Tryz.ntmps66]) fun C hC hM => ?_
 refine AWp.seq ?_
 refine AWp.regK [1] [false,true] F66r0 [] (by kernel_rfl) (by rw [hC]; rfl) fun K hK => ?_
 simp (maxSteps := 2000000) [F66r0]
 refine hK _ ?_
 refine AWp.seq ?_
 refine AWp.seq ?_
 refine AWp.regK [1,5] [] F66r1 [{ r := ival (depthE e) }] (by kernel_rfl) (by rw [hC]; rfl) fun K hK => ?_
 simp (maxSteps := 2000000) [F66r1]
 (repeat first | refine ⟨by first | kernel_rfl | (intros; omega) | assumption, ?_⟩ | refine ⟨by intros; exact callOK rfl hd, ?_⟩); refine hK _ ?_
 refine AWp.cond _ (by rfl) (fun hk => ?_) (fun hk => ?_)
 ·skip
  refine AWp.seq ?_
  refine AWp.regK [2] [true] F66r2 [] (by kernel_rfl) (by rw [hC]; rfl) fun K hK => ?_
  simp (maxSteps := 2000000) [F66r2]
  refine hK _ ?_
  repeat refine AWp.seq ?_
  refine AWp.ret ⟨.inr rfl, _, by simp [Tryz.results66] <;> rfl, ?_⟩
  refine .clos ?_ rfl
  rw [if_pos (by simp at hk; omega)]; rfl
 rw [if_neg (by simp at hk; omega)]
 refine AWp.skip ?_
 refine AWp.seq ?_
 refine AWp.seq ?_
 refine AWp.regK [1,39] [] F66r3 [{ r := bval true },{ r := bval true },{ r := bval true },{ r := bval true },{ r := bval true },{ r := bval (good true e) }] (by kernel_rfl) (by rw [hC]; rfl) fun K hK => ?_
 simp (maxSteps := 2000000) [F66r3]
 (repeat first | refine ⟨by first | kernel_rfl | (intros; omega) | assumption, ?_⟩ | refine ⟨by intros; exact callOK rfl hn, ?_⟩ | refine ⟨by intros; exact callOK rfl h1, ?_⟩ | refine ⟨by intros; exact callOK rfl h2, ?_⟩ | refine ⟨by intros; exact callOK rfl h3, ?_⟩ | refine ⟨by intros; exact callOK rfl h4, ?_⟩ | refine ⟨by intros; exact callOK rfl h5, ?_⟩); refine hK _ ?_
 refine AWp.cond _ (by rfl) (fun hg => ?_) (fun hg => ?_)
 ·skip
  refine AWp.seq ?_
  refine AWp.regK [2] [true] F66r4 [] (by kernel_rfl) (by rw [hC]; rfl) fun K hK => ?_
  simp (maxSteps := 2000000) [F66r4]
  refine hK _ ?_
  repeat refine AWp.seq ?_
  refine AWp.ret ⟨.inr rfl, _, by simp [Tryz.results66] <;> rfl, ?_⟩
  refine .clos ?_ rfl
  have : good true e = false := by revert hg; generalize good true e = g; cases g <;> simp
  rw [this]; rfl
 have hg2 : good true e = true := by revert hg; generalize good true e = g; cases g <;> simp
 rw [if_pos hg2]
 refine AWp.skip ?_
 refine AWp.seq ?_
 refine AWp.seq ?_
 refine AWp.regK [79] [] F66r5 [{ r := bval true },{ r := bval true }] (by kernel_rfl) (by rw [hC]; rfl) fun K hK => ?_
 simp (maxSteps := 2000000) [F66r5]
 (repeat first | refine ⟨by first | kernel_rfl | (intros; omega) | assumption, ?_⟩ | refine ⟨by intros; exact callOK rfl h6, ?_⟩ | refine ⟨by intros; exact callOK rfl h7, ?_⟩); refine hK _ ?_
 refine AWp.cond false (by simp) (fun he => by cases he) (fun _ => ?_)
 refine AWp.skip ?_
 refine AWp.seq ?_
 refine AWp.regK [2] [true] F66r7 [] (by kernel_rfl) (by rw [hC]; rfl) fun K hK => ?_
 simp (maxSteps := 2000000) [F66r7]
 refine hK _ ?_
 repeat refine AWp.seq ?_
 refine AWp.ret ⟨.inr rfl, _, by simp [Tryz.results66] <;> rfl, ?_⟩
 exact .closed rfl
