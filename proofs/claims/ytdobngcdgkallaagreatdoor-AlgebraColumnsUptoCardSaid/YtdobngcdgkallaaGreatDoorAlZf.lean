/- The law of a plan's columns. -/
import Derived.Test.YtdobngcdgkallaaGreatDoorAlZe
import Derived.Test.YtdobngcdgkallaaGreatDoorAlK
set_option linter.unusedSimpArgs false
set_option linter.unusedVariables false
set_option linter.unusedSectionVars false
open Go Go.Aw Go.Proofs
namespace Go.Al
set_option maxRecDepth 20000
-- function 3: corollary/corollarylaw19.AlgebraColumns
def F3r0 : List ROp := [⟨some 2,.box 26 (.tmp 0),[],none⟩,
 ⟨some 3,.box 26 (.tmp 1),[],none⟩,
 ⟨some 4,.copy true (.const (.bool false)),[],none⟩]
def F3r1 : List ROp := [⟨some 11,.load 6 true false (.tmp 2),[],none⟩,
 ⟨some 12,.call (.func 4) [.tmp 11],[],none⟩,
 ⟨some 13,.bin .geq (.tmp 12) (.const (.int .i64 300)),[],none⟩,
 ⟨some 14,.copy false (.tmp 13),[],none⟩,
 ⟨some 15,.load 6 true false (.tmp 3),[],some (14,false)⟩,
 ⟨some 16,.call (.func 4) [.tmp 15],[],some (14,false)⟩,
 ⟨some 17,.bin .geq (.tmp 16) (.const (.int .i64 300)),[],some (14,false)⟩,
 ⟨some 18,.pick (.tmp 14) (.const (.bool true)) (.tmp 17),[],none⟩]
def F3r2 : List ROp := [⟨some 4,.copy true (.const (.bool true)),[],none⟩]
def F3r3 : List ROp := [⟨some 20,.load 6 true false (.tmp 2),[],none⟩,
 ⟨some 21,.call (.func 6) [.tmp 20],[],none⟩,
 ⟨some 22,.call (.func 5) [.tmp 21],[],none⟩,
 ⟨some 19,.copy false (.tmp 22),[],none⟩,
 ⟨some 23,.ext (.tmp 19) 0,[],none⟩,
 ⟨some 24,.ext (.tmp 19) 1,[],none⟩,
 ⟨some 25,.ext (.tmp 19) 2,[],none⟩,
 ⟨some 5,.copy true (.tmp 23),[],none⟩,
 ⟨some 6,.copy true (.tmp 24),[],none⟩,
 ⟨some 7,.copy true (.tmp 25),[],none⟩]
def F3r4 : List ROp := [⟨some 27,.load 6 true false (.tmp 2),[],none⟩,
 ⟨some 28,.call (.func 7) [.tmp 27],[],none⟩,
 ⟨some 26,.copy false (.tmp 28),[],none⟩,
 ⟨some 29,.ext (.tmp 26) 0,[],none⟩,
 ⟨some 30,.ext (.tmp 26) 1,[],none⟩,
 ⟨some 31,.ext (.tmp 26) 2,[],none⟩,
 ⟨some 8,.copy true (.tmp 29),[],none⟩,
 ⟨some 9,.copy true (.tmp 30),[],none⟩,
 ⟨some 10,.copy true (.tmp 31),[],none⟩]
def F3r5 : List ROp := [⟨some 32,.copy false (.tmp 7),[],none⟩,
 ⟨some 33,.copy false (.tmp 10),[],none⟩,
 ⟨some 34,.bin .eql (.tmp 32) (.tmp 33),[0,1],none⟩,
 ⟨some 35,.copy false (.tmp 34),[2],none⟩,
 ⟨some 36,.copy false (.tmp 6),[3],some (35,true)⟩,
 ⟨some 37,.copy false (.tmp 9),[3],some (35,true)⟩,
 ⟨some 38,.bin .eql (.tmp 36) (.tmp 37),[4,5,3],some (35,true)⟩,
 ⟨some 39,.pick (.tmp 35) (.tmp 38) (.const (.bool false)),[3,6],none⟩,
 ⟨some 40,.copy false (.tmp 39),[7,3],none⟩,
 ⟨some 41,.copy false (.tmp 5),[8],some (40,true)⟩,
 ⟨some 42,.copy false (.tmp 8),[8],some (40,true)⟩,
 ⟨some 43,.call (.func 8) [.tmp 41,.tmp 42],[9,10,8,8],some (40,true)⟩,
 ⟨some 44,.pick (.tmp 40) (.tmp 43) (.const (.bool false)),[8,11],none⟩,
 ⟨some 45,.copy false (.tmp 44),[12,11],none⟩,
 ⟨some 46,.load 6 true false (.tmp 2),[13],some (45,true)⟩,
 ⟨some 47,.call (.func 6) [.tmp 46],[14,13,13],some (45,true)⟩,
 ⟨some 48,.load 6 true false (.tmp 3),[13],some (45,true)⟩,
 ⟨some 49,.call (.func 6) [.tmp 48],[16,15,13],some (45,true)⟩,
 ⟨some 50,.call (.func 9) [.tmp 47,.tmp 49],[15,17,17,13],some (45,true)⟩,
 ⟨some 51,.load 6 true false (.tmp 2),[13],some (45,true)⟩,
 ⟨some 52,.load 6 true false (.tmp 3),[13],some (45,true)⟩,
 ⟨some 53,.call (.func 10) [.tmp 51,.tmp 52],[19,20,18,13],some (45,true)⟩,
 ⟨some 54,.eqb false (.tmp 50) (.tmp 53),[18,21,13],some (45,true)⟩,
 ⟨some 55,.pick (.tmp 45) (.tmp 54) (.const (.bool false)),[13,22],none⟩,
 ⟨some 56,.copy false (.tmp 55),[23,21],none⟩,
 ⟨some 57,.load 6 true false (.tmp 2),[24],some (56,true)⟩,
 ⟨some 58,.call (.func 6) [.tmp 57],[25,24,24],some (56,true)⟩,
 ⟨some 59,.load 6 true false (.tmp 2),[24],some (56,true)⟩,
 ⟨some 60,.call (.func 6) [.tmp 59],[27,26,24],some (56,true)⟩,
 ⟨some 61,.call (.func 9) [.tmp 58,.tmp 60],[26,28,28,24],some (56,true)⟩,
 ⟨some 62,.pick (.tmp 56) (.tmp 61) (.const (.bool false)),[24,29],none⟩,
 ⟨some 4,.copy true (.tmp 62),[30,29,0,1,2,3,4,5,6,7,8,9,10,11,12,13,14,15,16,17,18,19,20,21,22,23,24,25,26,27,28,29,30],none⟩]
attribute [local simp] valX encV_eq exprX encE_eq exprB
attribute [local simp] encP_eq encTR encT texts planX encPR encER
set_option maxHeartbeats 4000000 in
theorem law_ok (p q : PlanD) (hp : psize p ≤ 1048576) (hq : psize q ≤ 1048576) (hr : rangeP p) : Con Tryz.prog 3 [planX p, planX q] (bval true) := by
 have hw1 := weight'_ok p (by omega)
 have hw2 := weight'_ok q (by omega)
 have ht1 := to'_ok p (by omega)
 have ht2 := to'_ok q (by omega)
 have hcp := ColumnsP_ok p hp hr
 have hcd := ColumnsD_ok p hp hr
 have hn : (columns p).1.length ≤ 1048576 := by
  have := shape_len p
  unfold columns
  split
  ·simp
  ·split
   ·simp only; omega
   ·simp
 unfold ColR at hcp hcd
 generalize (columns p).1 = names at hcp hcd hn
 generalize (columns p).2.1 = w at hcp hcd
 generalize (columns p).2.2 = e at hcp hcd
 have hst := SameTexts_ok names names (by omega) (by omega)
 rw [sameTs_eq, decide_eq_true rfl] at hst
 have hs1 := SameP'_ok p q (by omega) (by omega)
 have hs2 := Plan'_ok p q (by omega) (by omega)
 have hs3 := SameP'_ok p p (by omega) (by omega)
 rw [sameP_refl] at hs3
 simp only [encP_eq, planX] at hw1 hw2 ht1 ht2 hcp hcd hs1 hs2 hs3
 refine Con.of_code Tryz.func3 (by kernel_rfl) rfl (by simp [Tryz.ntmps3]) fun C hC hM => ?_
 refine AWp.seq ?_
 refine AWp.regK [2,3] [false,false,true] F3r0 [] (by kernel_rfl) (by rw [hC]; rfl) fun K hK => ?_
 simp (maxSteps := 2000000) [F3r0]
 refine hK _ ?_
 refine AWp.seq ?_
 refine AWp.seq ?_
 refine AWp.regK [2,3,18] [] F3r1 [{ r := ival (wN p) },{ r := ival (wN q) }] (by kernel_rfl) (by rw [hC]; rfl) fun K hK => ?_
 simp (maxSteps := 2000000) [F3r1]
 (repeat first | refine ⟨by first | kernel_rfl | (intros; omega) | assumption, ?_⟩ | refine ⟨by intros; exact callOK rfl hw1, ?_⟩ | refine ⟨fun _ => callOK rfl hw2, ?_⟩); refine hK _ ?_
 refine AWp.cond _ (by rfl) (fun h1 => ?_) (fun h1 => ?_)
 ·skip
  refine AWp.seq ?_
  refine AWp.regK [4] [true] F3r2 [] (by kernel_rfl) (by rw [hC]; rfl) fun K hK => ?_
  simp (maxSteps := 2000000) [F3r2]
  refine hK _ ?_
  repeat refine AWp.seq ?_
  refine AWp.ret ⟨.inr rfl, _, by simp [Tryz.results3] <;> rfl, ?_⟩
  exact .closed rfl
 refine AWp.skip ?_
 refine AWp.seq ?_
 refine AWp.regK [2,3,5,6,7] [false,false,false,false,false,false,false,true,true,true] F3r3 [{ r := planX p },{ r := .tup [encTR names,ival w,ival e] }] (by kernel_rfl) (by rw [hC]; rfl) fun K hK => ?_
 simp (maxSteps := 2000000) [F3r3]
 (repeat first | refine ⟨by first | kernel_rfl | (intros; omega) | assumption, ?_⟩ | refine ⟨by intros; exact callOK rfl ht1, ?_⟩ | refine ⟨by intros; exact callOK rfl hcp, ?_⟩); refine hK _ ?_
 refine AWp.seq ?_
 refine AWp.regK [2,3,5,6,7,8,9,10] [false,false,false,false,false,false,true,true,true] F3r4 [{ r := .tup [encTR names,ival w,ival e] }] (by kernel_rfl) (by rw [hC]; rfl) fun K hK => ?_
 simp (maxSteps := 2000000) [F3r4]
 (repeat first | refine ⟨by first | kernel_rfl | (intros; omega) | assumption, ?_⟩ | refine ⟨by intros; exact callOK rfl hcd, ?_⟩); refine hK _ ?_
 refine AWp.seq ?_
 refine AWp.regKL ops_mixed [[],[],[0,1],[0,1,2],[0,1,2,3],[0,1,2,3],[0,1,2,3,4,5],[0,1,2,3,4,5,6],[0,1,2,3,4,5,6,7],[0,1,2,3,4,5,6,7,8],[0,1,2,3,4,5,6,7,8],[0,1,2,3,4,5,6,7,8,9,10],[0,1,2,3,4,5,6,7,8,9,10,11],[0,1,2,3,4,5,6,7,8,9,10,11,12],[0,1,2,3,4,5,6,7,8,9,10,11,12,13],[0,1,2,3,4,5,6,7,8,9,10,11,12,13,14],[0,1,2,3,4,5,6,7,8,9,10,11,12,13],[0,1,2,3,4,5,6,7,8,9,10,11,12,13,14,15,16],[0,1,2,3,4,5,6,7,8,9,10,11,12,13,14,15,16,17],[0,1,2,3,4,5,6,7,8,9,10,11,12,13],[0,1,2,3,4,5,6,7,8,9,10,11,12,13],[0,1,2,3,4,5,6,7,8,9,10,11,12,13,14,15,16,17,18,19,20],[0,1,2,3,4,5,6,7,8,9,10,11,12,13,14,15,16,17,18,19,20,21],[0,1,2,3,4,5,6,7,8,9,10,11,12,13,14,15,16,17,18,19,20,21,22],[0,1,2,3,4,5,6,7,8,9,10,11,12,13,14,15,16,17,18,19,20,21,22,23],[0,1,2,3,4,5,6,7,8,9,10,11,12,13,14,15,16,17,18,19,20,21,22,23,24],[0,1,2,3,4,5,6,7,8,9,10,11,12,13,14,15,16,17,18,19,20,21,22,23,24,25],[0,1,2,3,4,5,6,7,8,9,10,11,12,13,14,15,16,17,18,19,20,21,22,23,24],[0,1,2,3,4,5,6,7,8,9,10,11,12,13,14,15,16,17,18,19,20,21,22,23,24,25,26,27],[0,1,2,3,4,5,6,7,8,9,10,11,12,13,14,15,16,17,18,19,20,21,22,23,24,25,26,27,28],[0,1,2,3,4,5,6,7,8,9,10,11,12,13,14,15,16,17,18,19,20,21,22,23,24,25,26,27,28,29],[0,1,2,3,4,5,6,7,8,9,10,11,12,13,14,15,16,17,18,19,20,21,22,23,24,25,26,27,28,29,30]] [4] [false,false,false,false,false,false,false,false,false,false,false,false,false,false,false,false,false,false,false,false,false,false,false,false,false,false,false,false,false,false,false,true] F3r5 [{ r := bval true },{ r := planX p },{ r := planX q },{ r := bval (sameP p q) },{ r := bval (sameP p q) },{ r := planX p },{ r := planX p },{ r := bval true }] (by kernel_rfl) (by rw [hC]; rfl) (by kernel_rfl) (by kernel_rfl) fun K hK => ?_
 simp (maxSteps := 2000000) [F3r5]
 (repeat first | refine ⟨by first | kernel_rfl | (intros; omega) | assumption, ?_⟩ | refine ⟨by intros; exact callOK rfl hst, ?_⟩ | refine ⟨by intros; exact callOK rfl ht1, ?_⟩ | refine ⟨by intros; exact callOK rfl ht2, ?_⟩ | refine ⟨by intros; exact callOK rfl hs1, ?_⟩ | refine ⟨by intros; exact callOK rfl hs2, ?_⟩ | refine ⟨by intros; exact callOK rfl hs3, ?_⟩); refine hK _ ?_
 repeat refine AWp.seq ?_
 refine AWp.ret ⟨.inr rfl, _, by simp [Tryz.results3] <;> rfl, ?_⟩
 exact .closed rfl
end Go.Al
