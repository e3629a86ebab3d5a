/- The document: are two values, expressions, plans the same? -/
import Derived.Test.YtdobngcdgkallaaGreatDoorAlI
set_option linter.unusedSimpArgs false
set_option linter.unusedVariables false
set_option linter.unusedSectionVars false
open Go Go.Aw Go.Proofs
namespace Go.Al
set_option maxRecDepth 20000
-- function 52: corollary/corollaryref02.Same
def F52r0 : List ROp := [⟨some 2,.box 56 (.tmp 0),[],none⟩,
 ⟨some 3,.box 56 (.tmp 1),[],none⟩,
 ⟨some 4,.copy true (.const (.bool false)),[],none⟩]
def F52r1 : List ROp := [⟨some 5,.fad 0 (.tmp 2),[],none⟩,
 ⟨some 6,.load 1 false false (.tmp 5),[],none⟩,
 ⟨some 7,.fad 0 (.tmp 3),[],none⟩,
 ⟨some 8,.load 1 false false (.tmp 7),[],none⟩,
 ⟨some 9,.bin .eql (.tmp 6) (.tmp 8),[],none⟩,
 ⟨some 10,.copy false (.tmp 9),[],none⟩,
 ⟨some 11,.fad 1 (.tmp 2),[],some (10,true)⟩,
 ⟨some 12,.load 1 false false (.tmp 11),[],some (10,true)⟩,
 ⟨some 13,.fad 1 (.tmp 3),[],some (10,true)⟩,
 ⟨some 14,.load 1 false false (.tmp 13),[],some (10,true)⟩,
 ⟨some 15,.bin .eql (.tmp 12) (.tmp 14),[],some (10,true)⟩,
 ⟨some 16,.pick (.tmp 10) (.tmp 15) (.const (.bool false)),[],none⟩,
 ⟨some 17,.copy false (.tmp 16),[],none⟩,
 ⟨some 18,.fad 2 (.tmp 2),[],some (17,true)⟩,
 ⟨some 19,.load 1 false false (.tmp 18),[],some (17,true)⟩,
 ⟨some 20,.fad 2 (.tmp 3),[],some (17,true)⟩,
 ⟨some 21,.load 1 false false (.tmp 20),[],some (17,true)⟩,
 ⟨some 22,.bin .eql (.tmp 19) (.tmp 21),[],some (17,true)⟩,
 ⟨some 23,.pick (.tmp 17) (.tmp 22) (.const (.bool false)),[],none⟩,
 ⟨some 24,.copy false (.tmp 23),[],none⟩,
 ⟨some 25,.fad 3 (.tmp 2),[],some (24,true)⟩,
 ⟨some 26,.load 1 false false (.tmp 25),[],some (24,true)⟩,
 ⟨some 27,.fad 3 (.tmp 3),[],some (24,true)⟩,
 ⟨some 28,.load 1 false false (.tmp 27),[],some (24,true)⟩,
 ⟨some 29,.call (.func 64) [.tmp 26,.tmp 28],[],some (24,true)⟩,
 ⟨some 30,.pick (.tmp 24) (.tmp 29) (.const (.bool false)),[],none⟩,
 ⟨some 4,.copy true (.tmp 30),[],none⟩]
-- function 64: corollary/corollaryref02.SameRow
def F64r0 : List ROp := [⟨some 4,.copy true (.const (.bool false)),[],none⟩]
def F64r1 : List ROp := [⟨some 6,.copy false (.tmp 0),[],none⟩,
 ⟨some 7,.len 0 (.tmp 6),[],none⟩,
 ⟨some 8,.copy false (.tmp 1),[],none⟩,
 ⟨some 9,.len 0 (.tmp 8),[],none⟩,
 ⟨some 10,.bin .neq (.tmp 7) (.tmp 9),[],none⟩]
def F64r2 : List ROp := [⟨some 4,.copy true (.const (.bool false)),[],none⟩]
def F64r3 : List ROp := [⟨some 5,.copy true (.const (.int .i64 0)),[],none⟩]
def F64r4 : List ROp := [⟨some 11,.copy false (.tmp 5),[],none⟩,
 ⟨some 12,.copy false (.tmp 0),[],none⟩,
 ⟨some 13,.len 0 (.tmp 12),[],none⟩,
 ⟨some 14,.bin .lss (.tmp 11) (.tmp 13),[],none⟩]
def F64r5 : List ROp := [⟨some 15,.copy false (.tmp 5),[],none⟩,
 ⟨some 16,.bin .add (.tmp 15) (.const (.int .i64 1)),[],none⟩,
 ⟨some 5,.copy true (.tmp 16),[],none⟩]
def F64r6 : List ROp := [⟨some 17,.copy false (.tmp 0),[],none⟩,
 ⟨some 18,.copy false (.tmp 5),[],none⟩,
 ⟨some 19,.iad 4 (.tmp 17) (.tmp 18),[0,1],none⟩,
 ⟨some 20,.load 4 true false (.tmp 19),[2],none⟩,
 ⟨some 21,.copy false (.tmp 1),[],none⟩,
 ⟨some 22,.copy false (.tmp 5),[],none⟩,
 ⟨some 23,.iad 4 (.tmp 21) (.tmp 22),[4,5],none⟩,
 ⟨some 24,.load 4 true false (.tmp 23),[6],none⟩,
 ⟨some 25,.call (.func 52) [.tmp 20,.tmp 24],[3,7],none⟩,
 ⟨some 26,.un .not (.tmp 25),[8],none⟩]
def F64r7 : List ROp := [⟨some 4,.copy true (.const (.bool false)),[],none⟩]
def F64r8 : List ROp := [⟨some 4,.copy true (.const (.bool true)),[],none⟩]
-- function 36: corollary/corollaryref06.SameExpr
def F36r0 : List ROp := [⟨some 2,.box 58 (.tmp 0),[],none⟩,
 ⟨some 3,.box 58 (.tmp 1),[],none⟩,
 ⟨some 4,.copy true (.const (.bool false)),[],none⟩]
def F36r1 : List ROp := [⟨some 5,.fad 0 (.tmp 2),[],none⟩,
 ⟨some 6,.load 1 false false (.tmp 5),[],none⟩,
 ⟨some 7,.fad 0 (.tmp 3),[],none⟩,
 ⟨some 8,.load 1 false false (.tmp 7),[],none⟩,
 ⟨some 9,.bin .eql (.tmp 6) (.tmp 8),[],none⟩,
 ⟨some 10,.copy false (.tmp 9),[],none⟩,
 ⟨some 11,.fad 3 (.tmp 2),[],some (10,true)⟩,
 ⟨some 12,.load 1 false false (.tmp 11),[],some (10,true)⟩,
 ⟨some 13,.fad 3 (.tmp 3),[],some (10,true)⟩,
 ⟨some 14,.load 1 false false (.tmp 13),[],some (10,true)⟩,
 ⟨some 15,.bin .eql (.tmp 12) (.tmp 14),[],some (10,true)⟩,
 ⟨some 16,.pick (.tmp 10) (.tmp 15) (.const (.bool false)),[],none⟩,
 ⟨some 17,.copy false (.tmp 16),[],none⟩,
 ⟨some 18,.fad 4 (.tmp 2),[],some (17,true)⟩,
 ⟨some 19,.load 4 true false (.tmp 18),[],some (17,true)⟩,
 ⟨some 20,.fad 4 (.tmp 3),[],some (17,true)⟩,
 ⟨some 21,.load 4 true false (.tmp 20),[],some (17,true)⟩,
 ⟨some 22,.call (.func 52) [.tmp 19,.tmp 21],[],some (17,true)⟩,
 ⟨some 23,.pick (.tmp 17) (.tmp 22) (.const (.bool false)),[],none⟩,
 ⟨some 24,.copy false (.tmp 23),[],none⟩,
 ⟨some 25,.fad 8 (.tmp 2),[],some (24,true)⟩,
 ⟨some 26,.load 1 false false (.tmp 25),[],some (24,true)⟩,
 ⟨some 27,.fad 8 (.tmp 3),[],some (24,true)⟩,
 ⟨some 28,.load 1 false false (.tmp 27),[],some (24,true)⟩,
 ⟨some 29,.call (.func 22) [.tmp 26,.tmp 28],[],some (24,true)⟩,
 ⟨some 30,.pick (.tmp 24) (.tmp 29) (.const (.bool false)),[],none⟩,
 ⟨some 4,.copy true (.tmp 30),[],none⟩]
-- function 22: corollary/corollaryref06.SameExprs
def F22r0 : List ROp := [⟨some 4,.copy true (.const (.bool false)),[],none⟩]
def F22r1 : List ROp := [⟨some 6,.copy false (.tmp 0),[],none⟩,
 ⟨some 7,.len 0 (.tmp 6),[],none⟩,
 ⟨some 8,.copy false (.tmp 1),[],none⟩,
 ⟨some 9,.len 0 (.tmp 8),[],none⟩,
 ⟨some 10,.bin .neq (.tmp 7) (.tmp 9),[],none⟩]
def F22r2 : List ROp := [⟨some 4,.copy true (.const (.bool false)),[],none⟩]
def F22r3 : List ROp := [⟨some 5,.copy true (.const (.int .i64 0)),[],none⟩]
def F22r4 : List ROp := [⟨some 11,.copy false (.tmp 5),[],none⟩,
 ⟨some 12,.copy false (.tmp 0),[],none⟩,
 ⟨some 13,.len 0 (.tmp 12),[],none⟩,
 ⟨some 14,.bin .lss (.tmp 11) (.tmp 13),[],none⟩]
def F22r5 : List ROp := [⟨some 15,.copy false (.tmp 5),[],none⟩,
 ⟨some 16,.bin .add (.tmp 15) (.const (.int .i64 1)),[],none⟩,
 ⟨some 5,.copy true (.tmp 16),[],none⟩]
def F22r6 : List ROp := [⟨some 17,.copy false (.tmp 0),[],none⟩,
 ⟨some 18,.copy false (.tmp 5),[],none⟩,
 ⟨some 19,.iad 9 (.tmp 17) (.tmp 18),[0,1],none⟩,
 ⟨some 20,.load 9 true false (.tmp 19),[2],none⟩,
 ⟨some 21,.copy false (.tmp 1),[],none⟩,
 ⟨some 22,.copy false (.tmp 5),[],none⟩,
 ⟨some 23,.iad 9 (.tmp 21) (.tmp 22),[4,5],none⟩,
 ⟨some 24,.load 9 true false (.tmp 23),[6],none⟩,
 ⟨some 25,.call (.func 36) [.tmp 20,.tmp 24],[3,7],none⟩,
 ⟨some 26,.un .not (.tmp 25),[8],none⟩]
def F22r7 : List ROp := [⟨some 4,.copy true (.const (.bool false)),[],none⟩]
def F22r8 : List ROp := [⟨some 4,.copy true (.const (.bool true)),[],none⟩]
-- function 8: corollary/corollaryref06.SameTexts
def F8r0 : List ROp := [⟨some 4,.copy true (.const (.bool false)),[],none⟩]
def F8r1 : List ROp := [⟨some 6,.copy false (.tmp 0),[],none⟩,
 ⟨some 7,.len 0 (.tmp 6),[],none⟩,
 ⟨some 8,.copy false (.tmp 1),[],none⟩,
 ⟨some 9,.len 0 (.tmp 8),[],none⟩,
 ⟨some 10,.bin .neq (.tmp 7) (.tmp 9),[],none⟩]
def F8r2 : List ROp := [⟨some 4,.copy true (.const (.bool false)),[],none⟩]
def F8r3 : List ROp := [⟨some 5,.copy true (.const (.int .i64 0)),[],none⟩]
def F8r4 : List ROp := [⟨some 11,.copy false (.tmp 5),[],none⟩,
 ⟨some 12,.copy false (.tmp 0),[],none⟩,
 ⟨some 13,.len 0 (.tmp 12),[],none⟩,
 ⟨some 14,.bin .lss (.tmp 11) (.tmp 13),[],none⟩]
def F8r5 : List ROp := [⟨some 15,.copy false (.tmp 5),[],none⟩,
 ⟨some 16,.bin .add (.tmp 15) (.const (.int .i64 1)),[],none⟩,
 ⟨some 5,.copy true (.tmp 16),[],none⟩]
def F8r6 : List ROp := [⟨some 17,.copy false (.tmp 0),[],none⟩,
 ⟨some 18,.copy false (.tmp 5),[],none⟩,
 ⟨some 19,.iad 1 (.tmp 17) (.tmp 18),[0,1],none⟩,
 ⟨some 20,.load 1 false false (.tmp 19),[2],none⟩,
 ⟨some 21,.copy false (.tmp 1),[],none⟩,
 ⟨some 22,.copy false (.tmp 5),[],none⟩,
 ⟨some 23,.iad 1 (.tmp 21) (.tmp 22),[4,5],none⟩,
 ⟨some 24,.load 1 false false (.tmp 23),[6],none⟩,
 ⟨some 25,.bin .neq (.tmp 20) (.tmp 24),[3,7],none⟩]
def F8r7 : List ROp := [⟨some 4,.copy true (.const (.bool false)),[],none⟩]
def F8r8 : List ROp := [⟨some 4,.copy true (.const (.bool true)),[],none⟩]
-- function 10: corollary/corollaryref19.Same
def F10r0 : List ROp := [⟨some 2,.box 26 (.tmp 0),[],none⟩,
 ⟨some 3,.box 26 (.tmp 1),[],none⟩,
 ⟨some 4,.copy true (.const (.bool false)),[],none⟩]
def F10r1 : List ROp := [⟨some 6,.fad 0 (.tmp 2),[],none⟩,
 ⟨some 7,.load 1 false false (.tmp 6),[],none⟩,
 ⟨some 8,.fad 0 (.tmp 3),[],none⟩,
 ⟨some 9,.load 1 false false (.tmp 8),[],none⟩,
 ⟨some 10,.bin .neq (.tmp 7) (.tmp 9),[],none⟩,
 ⟨some 11,.copy false (.tmp 10),[],none⟩,
 ⟨some 12,.fad 1 (.tmp 2),[],some (11,false)⟩,
 ⟨some 13,.load 1 false false (.tmp 12),[],some (11,false)⟩,
 ⟨some 14,.fad 1 (.tmp 3),[],some (11,false)⟩,
 ⟨some 15,.load 1 false false (.tmp 14),[],some (11,false)⟩,
 ⟨some 16,.bin .neq (.tmp 13) (.tmp 15),[],some (11,false)⟩,
 ⟨some 17,.pick (.tmp 11) (.const (.bool true)) (.tmp 16),[],none⟩,
 ⟨some 18,.copy false (.tmp 17),[],none⟩,
 ⟨some 19,.fad 2 (.tmp 2),[],some (18,false)⟩,
 ⟨some 20,.load 1 false false (.tmp 19),[],some (18,false)⟩,
 ⟨some 21,.fad 2 (.tmp 3),[],some (18,false)⟩,
 ⟨some 22,.load 1 false false (.tmp 21),[],some (18,false)⟩,
 ⟨some 23,.bin .neq (.tmp 20) (.tmp 22),[],some (18,false)⟩,
 ⟨some 24,.pick (.tmp 18) (.const (.bool true)) (.tmp 23),[],none⟩,
 ⟨some 25,.copy false (.tmp 24),[],none⟩,
 ⟨some 26,.fad 3 (.tmp 2),[],some (25,false)⟩,
 ⟨some 27,.load 1 false false (.tmp 26),[],some (25,false)⟩,
 ⟨some 28,.fad 3 (.tmp 3),[],some (25,false)⟩,
 ⟨some 29,.load 1 false false (.tmp 28),[],some (25,false)⟩,
 ⟨some 30,.call (.func 22) [.tmp 27,.tmp 29],[],some (25,false)⟩,
 ⟨some 31,.un .not (.tmp 30),[],some (25,false)⟩,
 ⟨some 32,.pick (.tmp 25) (.const (.bool true)) (.tmp 31),[],none⟩,
 ⟨some 33,.copy false (.tmp 32),[],none⟩,
 ⟨some 34,.fad 4 (.tmp 2),[],some (33,false)⟩,
 ⟨some 35,.load 1 false false (.tmp 34),[],some (33,false)⟩,
 ⟨some 36,.fad 4 (.tmp 3),[],some (33,false)⟩,
 ⟨some 37,.load 1 false false (.tmp 36),[],some (33,false)⟩,
 ⟨some 38,.call (.func 8) [.tmp 35,.tmp 37],[],some (33,false)⟩,
 ⟨some 39,.un .not (.tmp 38),[],some (33,false)⟩,
 ⟨some 40,.pick (.tmp 33) (.const (.bool true)) (.tmp 39),[],none⟩,
 ⟨some 41,.copy false (.tmp 40),[],none⟩,
 ⟨some 42,.fad 5 (.tmp 2),[],some (41,false)⟩,
 ⟨some 43,.load 1 false false (.tmp 42),[],some (41,false)⟩,
 ⟨some 44,.len 0 (.tmp 43),[],some (41,false)⟩,
 ⟨some 45,.fad 5 (.tmp 3),[],some (41,false)⟩,
 ⟨some 46,.load 1 false false (.tmp 45),[],some (41,false)⟩,
 ⟨some 47,.len 0 (.tmp 46),[],some (41,false)⟩,
 ⟨some 48,.bin .neq (.tmp 44) (.tmp 47),[],some (41,false)⟩,
 ⟨some 49,.pick (.tmp 41) (.const (.bool true)) (.tmp 48),[],none⟩]
def F10r2 : List ROp := [⟨some 4,.copy true (.const (.bool false)),[],none⟩]
def F10r3 : List ROp := [⟨some 5,.copy true (.const (.int .i64 0)),[],none⟩]
def F10r4 : List ROp := [⟨some 50,.copy false (.tmp 5),[],none⟩,
 ⟨some 51,.fad 5 (.tmp 2),[],none⟩,
 ⟨some 52,.load 1 false false (.tmp 51),[],none⟩,
 ⟨some 53,.len 0 (.tmp 52),[],none⟩,
 ⟨some 54,.bin .lss (.tmp 50) (.tmp 53),[],none⟩]
def F10r5 : List ROp := [⟨some 55,.copy false (.tmp 5),[],none⟩,
 ⟨some 56,.bin .add (.tmp 55) (.const (.int .i64 1)),[],none⟩,
 ⟨some 5,.copy true (.tmp 56),[],none⟩]
def F10r6 : List ROp := [⟨some 57,.fad 5 (.tmp 2),[],none⟩,
 ⟨some 58,.load 1 false false (.tmp 57),[0],none⟩,
 ⟨some 59,.copy false (.tmp 5),[],none⟩,
 ⟨some 60,.iad 6 (.tmp 58) (.tmp 59),[1,2],none⟩,
 ⟨some 61,.load 6 true false (.tmp 60),[3],none⟩,
 ⟨some 62,.fad 5 (.tmp 3),[],none⟩,
 ⟨some 63,.load 1 false false (.tmp 62),[5],none⟩,
 ⟨some 64,.copy false (.tmp 5),[],none⟩,
 ⟨some 65,.iad 6 (.tmp 63) (.tmp 64),[6,7],none⟩,
 ⟨some 66,.load 6 true false (.tmp 65),[8],none⟩,
 ⟨some 67,.call (.func 10) [.tmp 61,.tmp 66],[4,9],none⟩,
 ⟨some 68,.un .not (.tmp 67),[10],none⟩]
def F10r7 : List ROp := [⟨some 4,.copy true (.const (.bool false)),[],none⟩]
def F10r8 : List ROp := [⟨some 4,.copy true (.const (.bool true)),[],none⟩]
attribute [local simp] valX encV_eq exprX planX encE_eq encP_eq
theorem sameVs_ne {l m : List ValD} (h : ¬ l.length = m.length) : sameVs l m = false := by
 cases e : sameVs l m with
 | false => rfl
 | true => exact absurd (sameVs_len e) h
theorem SameRow_of (l m : List ValD) (hl : l.length ≤ 4194304) (hm : m.length ≤ 4194304) (h : ∀ (i : Nat) (h1 : i < l.length) (h2 : i < m.length), Con Tryz.prog 52 [valX l[i], valX m[i]] (bval (sameV l[i] m[i]))) : Con Tryz.prog 64 [encRow l, encRow m] (bval (sameVs l m)) := by
 refine Con.of_code Tryz.func64 (by kernel_rfl) rfl (by simp [Tryz.ntmps64]) fun C hC hM => ?_
 refine AWp.seq ?_
 refine AWp.regK [0,1] [true] F64r0 [] (by kernel_rfl) (by rw [hC]; rfl) fun K hK => ?_
 simp (maxSteps := 2000000) [F64r0]
 refine hK _ ?_
 refine AWp.seq ?_
 refine AWp.seq ?_
 refine AWp.regK [0,1,10] [] F64r1 [] (by kernel_rfl) (by rw [hC]; rfl) fun K hK => ?_
 simp (maxSteps := 2000000) [F64r1]
 refine hK _ ?_
 refine AWp.cond _ (by rfl) (fun hne => ?_) (fun heq => ?_)
 ·skip
  refine AWp.seq ?_
  refine AWp.regK [4] [true] F64r2 [] (by kernel_rfl) (by rw [hC]; rfl) fun K hK => ?_
  simp (maxSteps := 2000000) [F64r2]
  refine hK _ ?_
  repeat refine AWp.seq ?_
  refine AWp.ret ⟨.inr rfl, _, by simp [Tryz.results64] <;> rfl, ?_⟩
  refine .clos ?_ rfl
  rw [sameVs_ne (by simp at hne; omega)]; rfl
 have heq : l.length = m.length := by simp at heq; omega
 refine AWp.skip ?_
 refine AWp.seq ?_
 refine AWp.seq ?_
 refine AWp.regK [0,1,5] [true] F64r3 [] (by kernel_rfl) (by rw [hC]; rfl) fun K hK => ?_
 simp (maxSteps := 2000000) [F64r3]
 refine hK _ ?_
 refine AWp.block ?_
 refine AWp.loopG (fun k : Nat => { tm := [(0, encRow l), (1, encRow m), (5, ival k)], hp := [] }) (fun k => k ≤ l.length ∧ sameVs l m = sameVs (l.drop k) (m.drop k)) (fun k => l.length - k) 0 ⟨by omega, by simp⟩ (by simp) (fun k hk => ?_)
 obtain ⟨hk, hs⟩ := hk
 refine AWp.seq ?_
 refine AWp.seq ?_
 refine AWp.regK [0,1,5,14] [] F64r4 [] (by kernel_rfl) (by rw [hC]; rfl) fun K hK => ?_
 simp (maxSteps := 2000000) [F64r4]
 refine hK _ ?_
 refine AWp.cond _ (by rfl) (fun hlt => ?_) (fun hge => ?_)
 ·skip
  have hlt : k < l.length := by simpa using hlt
  have hlt2 : k < m.length := by omega
  have hc := h k hlt hlt2
  rw [sameVs_drop l m k hlt hlt2] at hs
  refine AWp.skip ?_
  refine AWp.seq ?_
  refine AWp.block ?_
  refine AWp.seq ?_
  refine AWp.regKL ops_mixed [[],[],[0,1],[0,1,2],[],[],[4,5],[4,5,6],[0,1,2,3,4,5,6,7],[0,1,2,3,4,5,6,7,8]] [0,1,5,26] [] F64r6 [{ r := bval (sameV l[k] m[k]) }] (by kernel_rfl) (by rw [hC]; rfl) (by kernel_rfl) (by kernel_rfl) fun K hK => ?_
  simp (maxSteps := 2000000) [F64r6, hlt, hlt2]
  (repeat first | refine ⟨by first | kernel_rfl | (intros; omega) | assumption, ?_⟩ | refine ⟨by intros; exact callOK rfl hc, ?_⟩); refine hK _ ?_
  refine AWp.cond _ (by rfl) (fun hf => ?_) (fun ht => ?_)
  ·skip
   refine AWp.seq ?_
   refine AWp.regK [4] [true] F64r7 [] (by kernel_rfl) (by rw [hC]; rfl) fun K hK => ?_
   simp (maxSteps := 2000000) [F64r7]
   refine hK _ ?_
   repeat refine AWp.seq ?_
   refine AWp.ret ⟨.inr rfl, _, by simp [Tryz.results64] <;> rfl, ?_⟩
   refine .clos ?_ rfl
   rw [hs, show sameV l[k] m[k] = false by simpa using hf]; rfl
  refine AWp.skip ?_
  refine AWp.regK [0,1,5] [false,false,true] F64r5 [] (by kernel_rfl) (by rw [hC]; rfl) fun K hK => ?_
  simp (maxSteps := 2000000) [F64r5]
  (repeat refine ⟨by first | omega | (intros; omega) | assumption, ?_⟩); refine hK _ ?_
  refine ⟨k + 1, ⟨by omega, ?_⟩, by omega, ?_⟩
  ·rw [hs, show sameV l[k] m[k] = true by simpa using ht]; rfl
  ·simp [wrap_nat k (by omega)]
 refine AWp.exit ?_
 refine AWp.seq ?_
 refine AWp.regK [4] [true] F64r8 [] (by kernel_rfl) (by rw [hC]; rfl) fun K hK => ?_
 simp (maxSteps := 2000000) [F64r8]
 refine hK _ ?_
 repeat refine AWp.seq ?_
 refine AWp.ret ⟨.inr rfl, _, by simp [Tryz.results64] <;> rfl, ?_⟩
 refine .clos ?_ rfl
 have hge : ¬ k < l.length := by simpa using hge
 rw [hs, List.drop_eq_nil_of_le (by omega), List.drop_eq_nil_of_le (by omega)]; rfl
theorem Same_ok : ∀ (n : Nat) (v w : ValD), vsize v < n → vsize v ≤ 4194304 → vsize w ≤ 4194304 → Con Tryz.prog 52 [valX v, valX w] (bval (sameV v w)) := by
 intro n
 induction n with
 | zero => intro v w h; omega
 | succ n ih =>
  intro v w hn hv hw
  have hsz := vsize_eq v
  have hsz2 := vsize_eq w
  have hlen := vsizes_len v.l
  have hlen2 := vsizes_len w.l
  have hc := SameRow_of v.l w.l (by omega) (by omega) fun i h1 h2 => by have := vsize_mem (List.getElem_mem h1); have := vsize_mem (List.getElem_mem h2); exact ih v.l[i] w.l[i] (by omega) (by omega) (by omega)
  refine Con.of_code Tryz.func52 (by kernel_rfl) rfl (by simp [Tryz.ntmps52]) fun C hC hM => ?_
  refine AWp.seq ?_
  refine AWp.regK [2,3] [false,false,true] F52r0 [] (by kernel_rfl) (by rw [hC]; rfl) fun K hK => ?_
  simp (maxSteps := 2000000) [F52r0]
  refine hK _ ?_
  refine AWp.seq ?_
  refine AWp.regK [4] [false,false,false,false,false,false,false,false,false,false,false,false,false,false,false,false,false,false,false,false,false,false,false,false,false,false,true] F52r1 [{ r := bval (sameVs v.l w.l) }] (by kernel_rfl) (by rw [hC]; rfl) fun K hK => ?_
  simp (maxSteps := 2000000) [F52r1]
  (repeat first | refine ⟨by first | kernel_rfl | (intros; omega) | assumption, ?_⟩ | refine ⟨by intros; exact callOK rfl hc, ?_⟩); refine hK _ ?_
  repeat refine AWp.seq ?_
  refine AWp.ret ⟨.inr rfl, _, by simp [Tryz.results52] <;> rfl, ?_⟩
  refine .clos ?_ rfl
  rw [sameV_eq]
  simp [Bool.and_assoc]
theorem Same'_ok (v w : ValD) (hv : vsize v ≤ 4194304) (hw : vsize w ≤ 4194304) : Con Tryz.prog 52 [valX v, valX w] (bval (sameV v w)) := Same_ok _ v w (Nat.lt_succ_self _) hv hw
theorem sameEs_ne {l m : List ExprD} (h : ¬ l.length = m.length) : sameEs l m = false := by
 cases e : sameEs l m with
 | false => rfl
 | true => exact absurd (sameEs_len e) h
theorem SameExprs_of (l m : List ExprD) (hl : l.length ≤ 4194304) (hm : m.length ≤ 4194304) (h : ∀ (i : Nat) (h1 : i < l.length) (h2 : i < m.length), Con Tryz.prog 36 [exprX l[i], exprX m[i]] (bval (sameE l[i] m[i]))) : Con Tryz.prog 22 [encER l, encER m] (bval (sameEs l m)) := by
 refine Con.of_code Tryz.func22 (by kernel_rfl) rfl (by simp [Tryz.ntmps22]) fun C hC hM => ?_
 refine AWp.seq ?_
 refine AWp.regK [0,1] [true] F22r0 [] (by kernel_rfl) (by rw [hC]; rfl) fun K hK => ?_
 simp (maxSteps := 2000000) [F22r0]
 refine hK _ ?_
 refine AWp.seq ?_
 refine AWp.seq ?_
 refine AWp.regK [0,1,10] [] F22r1 [] (by kernel_rfl) (by rw [hC]; rfl) fun K hK => ?_
 simp (maxSteps := 2000000) [F22r1]
 refine hK _ ?_
 refine AWp.cond _ (by rfl) (fun hne => ?_) (fun heq => ?_)
 ·skip
  refine AWp.seq ?_
  refine AWp.regK [4] [true] F22r2 [] (by kernel_rfl) (by rw [hC]; rfl) fun K hK => ?_
  simp (maxSteps := 2000000) [F22r2]
  refine hK _ ?_
  repeat refine AWp.seq ?_
  refine AWp.ret ⟨.inr rfl, _, by simp [Tryz.results22] <;> rfl, ?_⟩
  refine .clos ?_ rfl
  rw [sameEs_ne (by simp at hne; omega)]; rfl
 have heq : l.length = m.length := by simp at heq; omega
 refine AWp.skip ?_
 refine AWp.seq ?_
 refine AWp.seq ?_
 refine AWp.regK [0,1,5] [true] F22r3 [] (by kernel_rfl) (by rw [hC]; rfl) fun K hK => ?_
 simp (maxSteps := 2000000) [F22r3]
 refine hK _ ?_
 refine AWp.block ?_
 refine AWp.loopG (fun k : Nat => { tm := [(0, encER l), (1, encER m), (5, ival k)], hp := [] }) (fun k => k ≤ l.length ∧ sameEs l m = sameEs (l.drop k) (m.drop k)) (fun k => l.length - k) 0 ⟨by omega, by simp⟩ (by simp) (fun k hk => ?_)
 obtain ⟨hk, hs⟩ := hk
 refine AWp.seq ?_
 refine AWp.seq ?_
 refine AWp.regK [0,1,5,14] [] F22r4 [] (by kernel_rfl) (by rw [hC]; rfl) fun K hK => ?_
 simp (maxSteps := 2000000) [F22r4]
 refine hK _ ?_
 refine AWp.cond _ (by rfl) (fun hlt => ?_) (fun hge => ?_)
 ·skip
  have hlt : k < l.length := by simpa using hlt
  have hlt2 : k < m.length := by omega
  have hc := h k hlt hlt2
  rw [sameEs_drop l m k hlt hlt2] at hs
  refine AWp.skip ?_
  refine AWp.seq ?_
  refine AWp.block ?_
  refine AWp.seq ?_
  refine AWp.regKL ops_mixed [[],[],[0,1],[0,1,2],[],[],[4,5],[4,5,6],[0,1,2,3,4,5,6,7],[0,1,2,3,4,5,6,7,8]] [0,1,5,26] [] F22r6 [{ r := bval (sameE l[k] m[k]) }] (by kernel_rfl) (by rw [hC]; rfl) (by kernel_rfl) (by kernel_rfl) fun K hK => ?_
  simp (maxSteps := 2000000) [F22r6, hlt, hlt2]
  (repeat first | refine ⟨by first | kernel_rfl | (intros; omega) | assumption, ?_⟩ | refine ⟨by intros; exact callOK rfl hc, ?_⟩); refine hK _ ?_
  refine AWp.cond _ (by rfl) (fun hf => ?_) (fun ht => ?_)
  ·skip
   refine AWp.seq ?_
   refine AWp.regK [4] [true] F22r7 [] (by kernel_rfl) (by rw [hC]; rfl) fun K hK => ?_
   simp (maxSteps := 2000000) [F22r7]
   refine hK _ ?_
   repeat refine AWp.seq ?_
   refine AWp.ret ⟨.inr rfl, _, by simp [Tryz.results22] <;> rfl, ?_⟩
   refine .clos ?_ rfl
   rw [hs, show sameE l[k] m[k] = false by simpa using hf]; rfl
  refine AWp.skip ?_
  refine AWp.regK [0,1,5] [false,false,true] F22r5 [] (by kernel_rfl) (by rw [hC]; rfl) fun K hK => ?_
  simp (maxSteps := 2000000) [F22r5]
  (repeat refine ⟨by first | omega | (intros; omega) | assumption, ?_⟩); refine hK _ ?_
  refine ⟨k + 1, ⟨by omega, ?_⟩, by omega, ?_⟩
  ·rw [hs, show sameE l[k] m[k] = true by simpa using ht]; rfl
  ·simp [wrap_nat k (by omega)]
 refine AWp.exit ?_
 refine AWp.seq ?_
 refine AWp.regK [4] [true] F22r8 [] (by kernel_rfl) (by rw [hC]; rfl) fun K hK => ?_
 simp (maxSteps := 2000000) [F22r8]
 refine hK _ ?_
 repeat refine AWp.seq ?_
 refine AWp.ret ⟨.inr rfl, _, by simp [Tryz.results22] <;> rfl, ?_⟩
 refine .clos ?_ rfl
 have hge : ¬ k < l.length := by simpa using hge
 rw [hs, List.drop_eq_nil_of_le (by omega), List.drop_eq_nil_of_le (by omega)]; rfl
theorem SameExpr_ok : ∀ (n : Nat) (v w : ExprD), esize v < n → esize v ≤ 4194304 → esize w ≤ 4194304 → Con Tryz.prog 36 [exprX v, exprX w] (bval (sameE v w)) := by
 intro n
 induction n with
 | zero => intro v w h; omega
 | succ n ih =>
  intro v w hn hv hw
  have hsz := esize_eq v
  have hsz2 := esize_eq w
  have hlen := esizes_len v.args
  have hlen2 := esizes_len w.args
  have hc := SameExprs_of v.args w.args (by omega) (by omega) fun i h1 h2 => by have := esize_mem (List.getElem_mem h1); have := esize_mem (List.getElem_mem h2); exact ih v.args[i] w.args[i] (by omega) (by omega) (by omega)
  have hcv := Same'_ok v.v w.v (by omega) (by omega)
  refine Con.of_code Tryz.func36 (by kernel_rfl) rfl (by simp [Tryz.ntmps36]) fun C hC hM => ?_
  refine AWp.seq ?_
  refine AWp.regK [2,3] [false,false,true] F36r0 [] (by kernel_rfl) (by rw [hC]; rfl) fun K hK => ?_
  simp (maxSteps := 2000000) [F36r0]
  refine hK _ ?_
  refine AWp.seq ?_
  refine AWp.regK [4] [false,false,false,false,false,false,false,false,false,false,false,false,false,false,false,false,false,false,false,false,false,false,false,false,false,false,true] F36r1 [{ r := bval (sameV v.v w.v) },{ r := bval (sameEs v.args w.args) }] (by kernel_rfl) (by rw [hC]; rfl) fun K hK => ?_
  simp (maxSteps := 2000000) [F36r1]
  (repeat first | refine ⟨by first | kernel_rfl | (intros; omega) | assumption, ?_⟩ | refine ⟨by intros; exact callOK rfl hcv, ?_⟩ | refine ⟨by intros; exact callOK rfl hc, ?_⟩); refine hK _ ?_
  repeat refine AWp.seq ?_
  refine AWp.ret ⟨.inr rfl, _, by simp [Tryz.results36] <;> rfl, ?_⟩
  refine .clos ?_ rfl
  rw [sameE_eq]
  simp [Bool.and_assoc]
theorem SameExprs_ok (l m : List ExprD) (hl : esizes l ≤ 4194304) (hm : esizes m ≤ 4194304) : Con Tryz.prog 22 [encER l, encER m] (bval (sameEs l m)) :=
 SameExprs_of l m (by have := esizes_len l; omega) (by have := esizes_len m; omega) fun i h1 h2 => SameExpr_ok _ _ _ (Nat.lt_succ_self _) (by have := esize_mem (List.getElem_mem h1); omega) (by have := esize_mem (List.getElem_mem h2); omega)
def encTR (l : List ByteArray) : AV := .rd 1 (texts l)
attribute [local simp] encTR texts encT
def sameTs : List ByteArray → List ByteArray → Bool
 | [], [] => true
 | v :: l, w :: m => decide (v = w) && sameTs l m
 | _, _ => false
theorem sameTs_eq : ∀ l m : List ByteArray, sameTs l m = decide (l = m)
 | [], [] => by simp [sameTs]
 | [], _ :: _ => by simp [sameTs]
 | _ :: _, [] => by simp [sameTs]
 | v :: l, w :: m => by simp [sameTs, sameTs_eq l m]
theorem sameTs_drop (l m : List ByteArray) (k : Nat) (h : k < l.length) (h2 : k < m.length) : sameTs (l.drop k) (m.drop k) = (decide (l[k] = m[k]) && sameTs (l.drop (k + 1)) (m.drop (k + 1))) := by
 rw [List.drop_eq_getElem_cons h, List.drop_eq_getElem_cons h2, sameTs]
theorem sameTs_ne {l m : List ByteArray} (h : ¬ l.length = m.length) : sameTs l m = false := by
 rw [sameTs_eq, decide_eq_false]; rintro rfl; exact h rfl
theorem SameTexts_ok (l m : List ByteArray) (hl : l.length ≤ 4194304) (hm : m.length ≤ 4194304) : Con Tryz.prog 8 [encTR l, encTR m] (bval (sameTs l m)) := by
 refine Con.of_code Tryz.func8 (by kernel_rfl) rfl (by simp [Tryz.ntmps8]) fun C hC hM => ?_
 refine AWp.seq ?_
 refine AWp.regK [0,1] [true] F8r0 [] (by kernel_rfl) (by rw [hC]; rfl) fun K hK => ?_
 simp (maxSteps := 2000000) [F8r0]
 refine hK _ ?_
 refine AWp.seq ?_
 refine AWp.seq ?_
 refine AWp.regK [0,1,10] [] F8r1 [] (by kernel_rfl) (by rw [hC]; rfl) fun K hK => ?_
 simp (maxSteps := 2000000) [F8r1]
 refine hK _ ?_
 refine AWp.cond _ (by rfl) (fun hne => ?_) (fun heq => ?_)
 ·skip
  refine AWp.seq ?_
  refine AWp.regK [4] [true] F8r2 [] (by kernel_rfl) (by rw [hC]; rfl) fun K hK => ?_
  simp (maxSteps := 2000000) [F8r2]
  refine hK _ ?_
  repeat refine AWp.seq ?_
  refine AWp.ret ⟨.inr rfl, _, by simp [Tryz.results8] <;> rfl, ?_⟩
  refine .clos ?_ rfl
  rw [sameTs_ne (by simp at hne; omega)]; rfl
 have heq : l.length = m.length := by simp at heq; omega
 refine AWp.skip ?_
 refine AWp.seq ?_
 refine AWp.seq ?_
 refine AWp.regK [0,1,5] [true] F8r3 [] (by kernel_rfl) (by rw [hC]; rfl) fun K hK => ?_
 simp (maxSteps := 2000000) [F8r3]
 refine hK _ ?_
 refine AWp.block ?_
 refine AWp.loopG (fun k : Nat => { tm := [(0, encTR l), (1, encTR m), (5, ival k)], hp := [] }) (fun k => k ≤ l.length ∧ sameTs l m = sameTs (l.drop k) (m.drop k)) (fun k => l.length - k) 0 ⟨by omega, by simp⟩ (by simp) (fun k hk => ?_)
 obtain ⟨hk, hs⟩ := hk
 refine AWp.seq ?_
 refine AWp.seq ?_
 refine AWp.regK [0,1,5,14] [] F8r4 [] (by kernel_rfl) (by rw [hC]; rfl) fun K hK => ?_
 simp (maxSteps := 2000000) [F8r4]
 refine hK _ ?_
 refine AWp.cond _ (by rfl) (fun hlt => ?_) (fun hge => ?_)
 ·skip
  have hlt : k < l.length := by simpa using hlt
  have hlt2 : k < m.length := by omega
  rw [sameTs_drop l m k hlt hlt2] at hs
  refine AWp.skip ?_
  refine AWp.seq ?_
  refine AWp.block ?_
  refine AWp.seq ?_
  refine AWp.regKL ops_mixed [[],[],[0,1],[0,1,2],[],[],[4,5],[4,5,6],[0,1,2,3,4,5,6,7]] [0,1,5,25] [] F8r6 [] (by kernel_rfl) (by rw [hC]; rfl) (by kernel_rfl) (by kernel_rfl) fun K hK => ?_
  simp (maxSteps := 2000000) [F8r6, hlt, hlt2]
  (repeat refine ⟨by first | omega | (intros; omega) | assumption, ?_⟩); first | refine hK _ ?_ | refine ⟨by kernel_rfl, hK _ ?_⟩
  refine AWp.cond _ (by rfl) (fun hf => ?_) (fun ht => ?_)
  ·skip
   refine AWp.seq ?_
   refine AWp.regK [4] [true] F8r7 [] (by kernel_rfl) (by rw [hC]; rfl) fun K hK => ?_
   simp (maxSteps := 2000000) [F8r7]
   refine hK _ ?_
   repeat refine AWp.seq ?_
   refine AWp.ret ⟨.inr rfl, _, by simp [Tryz.results8] <;> rfl, ?_⟩
   refine .clos ?_ rfl
   rw [hs, show decide (l[k] = m[k]) = false by simpa using hf]; rfl
  refine AWp.skip ?_
  refine AWp.regK [0,1,5] [false,false,true] F8r5 [] (by kernel_rfl) (by rw [hC]; rfl) fun K hK => ?_
  simp (maxSteps := 2000000) [F8r5]
  (repeat refine ⟨by first | omega | (intros; omega) | assumption, ?_⟩); refine hK _ ?_
  refine ⟨k + 1, ⟨by omega, ?_⟩, by omega, ?_⟩
  ·rw [hs, show decide (l[k] = m[k]) = true by simpa using ht]; rfl
  ·simp [wrap_nat k (by omega)]
 refine AWp.exit ?_
 refine AWp.seq ?_
 refine AWp.regK [4] [true] F8r8 [] (by kernel_rfl) (by rw [hC]; rfl) fun K hK => ?_
 simp (maxSteps := 2000000) [F8r8]
 refine hK _ ?_
 repeat refine AWp.seq ?_
 refine AWp.ret ⟨.inr rfl, _, by simp [Tryz.results8] <;> rfl, ?_⟩
 refine .clos ?_ rfl
 have hge : ¬ k < l.length := by simpa using hge
 rw [hs, List.drop_eq_nil_of_le (by omega), List.drop_eq_nil_of_le (by omega)]; rfl
def planB (p : PlanD) : Blk := .cells 26 [uval p.op, sval p.rel, sval p.name, .rd 9 (p.args.map encE), .rd 1 (texts p.aggs), .rd 6 (p.ins.map encP)]
attribute [local simp] planB
theorem samePs_ne {l m : List PlanD} (h : ¬ l.length = m.length) : samePs l m = false := by
 cases e : samePs l m with
 | false => rfl
 | true => exact absurd (samePs_len e) h
theorem Plan_ok : ∀ (n : Nat) (p q : PlanD), psize p < n → psize p ≤ 4194304 → psize q ≤ 4194304 → Con Tryz.prog 10 [planX p, planX q] (bval (sameP p q)) := by
 intro n
 induction n with
 | zero => intro p q h; omega
 | succ n ih =>
  intro p q hn hp hq
  have hsz := psize_eq p
  have hsz2 := psize_eq q
  have hlen := psizes_len p.ins
  have hlen2 := psizes_len q.ins
  have htl := tsizes_len p.aggs
  have htl2 := tsizes_len q.aggs
  have he := SameExprs_ok p.args q.args (by omega) (by omega)
  have ht := SameTexts_ok p.aggs q.aggs (by omega) (by omega)
  have hpe := sameP_eq p q
  refine Con.of_code Tryz.func10 (by kernel_rfl) rfl (by simp [Tryz.ntmps10]) fun C hC hM => ?_
  refine AWp.seq ?_
  refine AWp.regK [2,3] [false,false,true] F10r0 [] (by kernel_rfl) (by rw [hC]; rfl) fun K hK => ?_
  simp (maxSteps := 2000000) [F10r0]
  refine hK _ ?_
  refine AWp.seq ?_
  refine AWp.seq ?_
  refine AWp.regK [2,3,49] [] F10r1 [{ r := bval (sameEs p.args q.args) },{ r := bval (sameTs p.aggs q.aggs) }] (by kernel_rfl) (by rw [hC]; rfl) fun K hK => ?_
  simp (maxSteps := 2000000) [F10r1]
  (repeat first | refine ⟨by first | kernel_rfl | (intros; omega) | assumption, ?_⟩ | refine ⟨by intros; exact callOK rfl he, ?_⟩ | refine ⟨by intros; exact callOK rfl ht, ?_⟩); refine hK _ ?_
  refine AWp.cond _ (by rfl) (fun hne => ?_) (fun heq => ?_)
  ·skip
   refine AWp.seq ?_
   refine AWp.regK [4] [true] F10r2 [] (by kernel_rfl) (by rw [hC]; rfl) fun K hK => ?_
   simp (maxSteps := 2000000) [F10r2]
   refine hK _ ?_
   repeat refine AWp.seq ?_
   refine AWp.ret ⟨.inr rfl, _, by simp [Tryz.results10] <;> rfl, ?_⟩
   refine .clos ?_ rfl
   have hb : (decide (p.op = q.op) && decide (p.rel = q.rel) && decide (p.name = q.name) && sameEs p.args q.args && sameTs p.aggs q.aggs && decide ((p.ins.length : Int) = (q.ins.length : Int))) = false := by
    revert hne
    generalize decide (p.op = q.op) = a1; generalize decide (p.rel = q.rel) = a2; generalize decide (p.name = q.name) = a3; generalize sameEs p.args q.args = a4; generalize sameTs p.aggs q.aggs = a5; generalize decide ((p.ins.length : Int) = (q.ins.length : Int)) = a6
    revert a1 a2 a3 a4 a5 a6
    decide +kernel
   rw [hpe, ← sameTs_eq]
   by_cases hl : p.ins.length = q.ins.length
   ·rw [hl, decide_eq_true rfl, Bool.and_true] at hb
    rw [hb]; rfl
   ·rw [samePs_ne hl, Bool.and_false]; rfl
  have hb : (decide (p.op = q.op) && decide (p.rel = q.rel) && decide (p.name = q.name) && sameEs p.args q.args && sameTs p.aggs q.aggs && decide ((p.ins.length : Int) = (q.ins.length : Int))) = true := by
   revert heq
   generalize decide (p.op = q.op) = a1; generalize decide (p.rel = q.rel) = a2; generalize decide (p.name = q.name) = a3; generalize sameEs p.args q.args = a4; generalize sameTs p.aggs q.aggs = a5; generalize decide ((p.ins.length : Int) = (q.ins.length : Int)) = a6
   revert a1 a2 a3 a4 a5 a6
   decide +kernel
  clear heq
  simp only [Bool.and_eq_true] at hb
  obtain ⟨hb1, hb2⟩ := hb
  have heq : p.ins.length = q.ins.length := by have := of_decide_eq_true hb2; omega
  have hpe2 : sameP p q = samePs p.ins q.ins := by
   rw [hpe, ← sameTs_eq]
   simp only [hb1, Bool.and_true, Bool.true_and]
  refine AWp.skip ?_
  refine AWp.seq ?_
  refine AWp.seq ?_
  refine AWp.regK [2,3,5] [true] F10r3 [] (by kernel_rfl) (by rw [hC]; rfl) fun K hK => ?_
  simp (maxSteps := 2000000) [F10r3]
  refine hK _ ?_
  refine AWp.block ?_
  refine AWp.loopG (fun k : Nat => { tm := [(2, .ptr 2 0), (3, .ptr 3 0), (5, ival k)], hp := [(2, planB p), (3, planB q)] }) (fun k => k ≤ p.ins.length ∧ samePs p.ins q.ins = samePs (p.ins.drop k) (q.ins.drop k)) (fun k => p.ins.length - k) 0 ⟨by omega, by simp⟩ (by simp) (fun k hk => ?_)
  obtain ⟨hk, hs⟩ := hk
  refine AWp.seq ?_
  refine AWp.seq ?_
  refine AWp.regK [2,3,5,54] [] F10r4 [] (by kernel_rfl) (by rw [hC]; rfl) fun K hK => ?_
  simp (maxSteps := 2000000) [F10r4]
  refine hK _ ?_
  refine AWp.cond _ (by rfl) (fun hlt => ?_) (fun hge => ?_)
  ·skip
   have hlt : k < p.ins.length := by simpa using hlt
   have hlt2 : k < q.ins.length := by omega
   have hm := psize_mem (List.getElem_mem hlt)
   have hm2 := psize_mem (List.getElem_mem hlt2)
   have hc := ih p.ins[k] q.ins[k] (by omega) (by omega) (by omega)
   rw [samePs_drop p.ins q.ins k hlt hlt2] at hs
   refine AWp.skip ?_
   refine AWp.seq ?_
   refine AWp.block ?_
   refine AWp.seq ?_
   refine AWp.regKL ops_mixed [[],[0],[],[0,1,2],[0,1,2,3],[],[5],[],[5,6,7],[5,6,7,8],[0,1,2,3,4,5,6,7,8,9],[0,1,2,3,4,5,6,7,8,9,10]] [2,3,5,68] [] F10r6 [{ r := bval (sameP p.ins[k] q.ins[k]) }] (by kernel_rfl) (by rw [hC]; rfl) (by kernel_rfl) (by kernel_rfl) fun K hK => ?_
   simp (maxSteps := 2000000) [F10r6, hlt, hlt2]
   (repeat first | refine ⟨by first | kernel_rfl | (intros; omega) | assumption, ?_⟩ | refine ⟨by intros; exact callOK rfl hc, ?_⟩); refine hK _ ?_
   refine AWp.cond _ (by rfl) (fun hf => ?_) (fun ht => ?_)
   ·skip
    refine AWp.seq ?_
    refine AWp.regK [4] [true] F10r7 [] (by kernel_rfl) (by rw [hC]; rfl) fun K hK => ?_
    simp (maxSteps := 2000000) [F10r7]
    refine hK _ ?_
    repeat refine AWp.seq ?_
    refine AWp.ret ⟨.inr rfl, _, by simp [Tryz.results10] <;> rfl, ?_⟩
    refine .clos ?_ rfl
    rw [hpe2, hs, show sameP p.ins[k] q.ins[k] = false by simpa using hf]; rfl
   refine AWp.skip ?_
   refine AWp.regK [2,3,5] [false,false,true] F10r5 [] (by kernel_rfl) (by rw [hC]; rfl) fun K hK => ?_
   simp (maxSteps := 2000000) [F10r5]
   (repeat refine ⟨by first | omega | (intros; omega) | assumption, ?_⟩); refine hK _ ?_
   refine ⟨k + 1, ⟨by omega, ?_⟩, by omega, ?_⟩
   ·rw [hs, show sameP p.ins[k] q.ins[k] = true by simpa using ht]; rfl
   ·simp [wrap_nat k (by omega)]
  refine AWp.exit ?_
  refine AWp.seq ?_
  refine AWp.regK [4] [true] F10r8 [] (by kernel_rfl) (by rw [hC]; rfl) fun K hK => ?_
  simp (maxSteps := 2000000) [F10r8]
  refine hK _ ?_
  repeat refine AWp.seq ?_
  refine AWp.ret ⟨.inr rfl, _, by simp [Tryz.results10] <;> rfl, ?_⟩
  refine .clos ?_ rfl
  have hge : ¬ k < p.ins.length := by simpa using hge
  rw [hpe2, hs, List.drop_eq_nil_of_le (by omega), List.drop_eq_nil_of_le (by omega)]; rfl
theorem Plan'_ok (p q : PlanD) (hp : psize p ≤ 4194304) (hq : psize q ≤ 4194304) : Con Tryz.prog 10 [planX p, planX q] (bval (sameP p q)) := Plan_ok _ p q (Nat.lt_succ_self _) hp hq
