/- A plan's columns: the program's and the document's; the law. -/
import Derived.Test.YtdobngcdgkallaaGreatDoorAlZd
set_option linter.unusedSimpArgs false
set_option linter.unusedVariables false
set_option linter.unusedSectionVars false
open Go Go.Aw Go.Proofs
namespace Go.Al
set_option maxRecDepth 20000
-- function 5: corollary/algebra.Columns
def F5r0 : List ROp := [⟨some 1,.box 33 (.tmp 0),[],none⟩,
 ⟨some 2,.copy true (.const (.slice none 0 0)),[],none⟩,
 ⟨some 3,.copy true (.const (.int .i64 0)),[],none⟩,
 ⟨some 4,.copy true (.const (.int .i64 0)),[],none⟩]
def F5r1 : List ROp := [⟨some 7,.load 6 true false (.tmp 1),[],none⟩,
 ⟨some 8,.call (.func 12) [.tmp 7,.const (.int .i64 1)],[],none⟩]
def F5r2 : List ROp := [⟨some 2,.copy true (.const (.slice none 0 0)),[],none⟩,
 ⟨some 3,.copy true (.const (.int .i64 0)),[],none⟩,
 ⟨some 4,.copy true (.const (.int .i64 65)),[],none⟩]
def F5r3 : List ROp := [⟨some 10,.load 6 true false (.tmp 1),[],none⟩,
 ⟨some 11,.call (.func 13) [.tmp 10],[],none⟩,
 ⟨some 9,.copy false (.tmp 11),[],none⟩,
 ⟨some 12,.ext (.tmp 9) 0,[],none⟩,
 ⟨some 13,.ext (.tmp 9) 1,[],none⟩,
 ⟨some 5,.alloc 42 [Value.slice none 0 0,Value.bool false,Value.int .i64 0],[],none⟩,
 ⟨none,.store 3 true (.tmp 5) (.tmp 12),[],none⟩,
 ⟨some 6,.copy true (.tmp 13),[],none⟩]
def F5r4 : List ROp := [⟨some 14,.copy false (.tmp 6),[],none⟩,
 ⟨some 15,.bin .neq (.tmp 14) (.const (.int .i64 0)),[],none⟩]
def F5r5 : List ROp := [⟨some 16,.copy true (.tmp 6),[],none⟩,
 ⟨some 2,.copy true (.const (.slice none 0 0)),[],none⟩,
 ⟨some 3,.copy true (.const (.int .i64 0)),[],none⟩,
 ⟨some 4,.copy true (.tmp 16),[],none⟩]
def F5r6 : List ROp := [⟨some 17,.fad 0 (.tmp 5),[],none⟩,
 ⟨some 18,.load 1 false false (.tmp 17),[0],none⟩,
 ⟨some 19,.call (.func 14) [.tmp 18],[1],none⟩,
 ⟨some 20,.fad 2 (.tmp 5),[],none⟩,
 ⟨some 21,.load 1 false false (.tmp 20),[3],none⟩,
 ⟨some 2,.copy true (.tmp 19),[2,2,0,1,2],none⟩,
 ⟨some 3,.copy true (.tmp 21),[4,5,0,1,2,3,4,5],none⟩,
 ⟨some 4,.copy true (.const (.int .i64 0)),[6,0,1,2,3,4,5,6],none⟩]
-- function 7: corollary/corollaryref19.Columns
def F7r0 : List ROp := [⟨some 1,.box 26 (.tmp 0),[],none⟩,
 ⟨some 2,.copy true (.const (.slice none 0 0)),[],none⟩,
 ⟨some 3,.copy true (.const (.int .i64 0)),[],none⟩,
 ⟨some 4,.copy true (.const (.int .i64 0)),[],none⟩]
def F7r1 : List ROp := [⟨some 7,.load 6 true false (.tmp 1),[],none⟩,
 ⟨some 8,.call (.func 16) [.tmp 7],[],none⟩,
 ⟨some 9,.bin .gtr (.tmp 8) (.const (.int .i64 64)),[],none⟩]
def F7r2 : List ROp := [⟨some 2,.copy true (.const (.slice none 0 0)),[],none⟩,
 ⟨some 3,.copy true (.const (.int .i64 0)),[],none⟩,
 ⟨some 4,.copy true (.const (.int .i64 65)),[],none⟩]
def F7r3 : List ROp := [⟨some 11,.load 6 true false (.tmp 1),[],none⟩,
 ⟨some 12,.call (.func 17) [.tmp 11],[],none⟩,
 ⟨some 10,.copy false (.tmp 12),[],none⟩,
 ⟨some 13,.ext (.tmp 10) 0,[],none⟩,
 ⟨some 14,.ext (.tmp 10) 1,[],none⟩,
 ⟨some 5,.alloc 48 [Value.slice none 0 0,Value.bool false,Value.int .i64 0],[],none⟩,
 ⟨none,.store 3 true (.tmp 5) (.tmp 13),[],none⟩,
 ⟨some 6,.copy true (.tmp 14),[],none⟩]
def F7r4 : List ROp := [⟨some 15,.copy false (.tmp 6),[],none⟩,
 ⟨some 16,.bin .neq (.tmp 15) (.const (.int .i64 0)),[],none⟩]
def F7r5 : List ROp := [⟨some 17,.copy true (.tmp 6),[],none⟩,
 ⟨some 2,.copy true (.const (.slice none 0 0)),[],none⟩,
 ⟨some 3,.copy true (.const (.int .i64 0)),[],none⟩,
 ⟨some 4,.copy true (.tmp 17),[],none⟩]
def F7r6 : List ROp := [⟨some 18,.fad 0 (.tmp 5),[],none⟩,
 ⟨some 19,.load 1 false false (.tmp 18),[0],none⟩,
 ⟨some 20,.fad 2 (.tmp 5),[],none⟩,
 ⟨some 21,.load 1 false false (.tmp 20),[2],none⟩,
 ⟨some 2,.copy true (.tmp 19),[1,0,1],none⟩,
 ⟨some 3,.copy true (.tmp 21),[3,4,0,1,2,3,4],none⟩,
 ⟨some 4,.copy true (.const (.int .i64 0)),[5,0,1,2,3,4,5],none⟩]
attribute [local simp] valX encV_eq exprX encE_eq exprB
attribute [local simp] encP_eq encTR encT texts planX encS shapeX encSR encPR encER
def ColR (p : PlanD) : AV := .tup [encTR (columns p).1, ival (columns p).2.1, ival (columns p).2.2]
theorem ColumnsP_ok (p : PlanD) (hp : psize p ≤ 1048576) (hr : rangeP p) : Con Tryz.prog 5 [planX p] (ColR p) := by
 have hd := deep_ok _ p 1 (Nat.lt_succ_self _) (by omega) (by omega) (by omega)
 have hs := shaped_ok _ p (Nat.lt_succ_self _) hp hr
 have hl := shape_len p
 have hc := Clone_t (shape p).1.names (by omega)
 rw [deep_same] at hd
 unfold ShapeR at hs
 simp only [encP_eq, planX] at hd hs
 unfold ColR columns
 refine Con.of_code Tryz.func5 (by kernel_rfl) rfl (by simp [Tryz.ntmps5]) fun C hC hM => ?_
 refine AWp.seq ?_
 refine AWp.regK [1] [false,true,true,true] F5r0 [] (by kernel_rfl) (by rw [hC]; rfl) fun K hK => ?_
 simp (maxSteps := 2000000) [F5r0]
 refine hK _ ?_
 refine AWp.seq ?_
 refine AWp.seq ?_
 refine AWp.regK [1,8] [] F5r1 [{ r := bval (decide (64 < depthP p)) }] (by kernel_rfl) (by rw [hC]; rfl) fun K hK => ?_
 simp (maxSteps := 2000000) [F5r1]
 (repeat first | refine ⟨by first | kernel_rfl | (intros; omega) | assumption, ?_⟩ | refine ⟨by intros; exact callOK rfl hd, ?_⟩); refine hK _ ?_
 refine AWp.cond _ (by rfl) (fun h1 => ?_) (fun h1 => ?_)
 ·skip
  have h1 : 64 < depthP p := by simpa using h1
  rw [if_pos h1]
  refine AWp.seq ?_
  refine AWp.regK [2,3,4] [true,true,true] F5r2 [] (by kernel_rfl) (by rw [hC]; rfl) fun K hK => ?_
  simp (maxSteps := 2000000) [F5r2]
  refine hK _ ?_
  repeat refine AWp.seq ?_
  refine AWp.ret ⟨.inr rfl, _, by simp [Tryz.results5] <;> rfl, ?_⟩
  exact .tup (.cons .nil (.cons (.closed rfl) (.cons (.closed rfl) .nil)))
 have h1 : ¬ 64 < depthP p := by simpa using h1
 rw [if_neg h1]
 refine AWp.skip ?_
 refine AWp.seq ?_
 refine AWp.regK [5,6] [false,false,false,false,false,false,true,true] F5r3 [{ r := .tup [shapeX (shape p).1,ival (shape p).2] }] (by kernel_rfl) (by rw [hC]; rfl) fun K hK => ?_
 simp (maxSteps := 2000000) [F5r3]
 (repeat first | refine ⟨by first | kernel_rfl | (intros; omega) | assumption, ?_⟩ | refine ⟨by intros; exact callOK rfl hs, ?_⟩); refine hK _ ?_
 refine AWp.seq ?_
 refine AWp.seq ?_
 refine AWp.regK [5,6,15] [] F5r4 [] (by kernel_rfl) (by rw [hC]; rfl) fun K hK => ?_
 simp (maxSteps := 2000000) [F5r4]
 refine hK _ ?_
 refine AWp.cond _ (by rfl) (fun h2 => ?_) (fun h2 => ?_)
 ·skip
  have h2 : ¬ (shape p).2 = 0 := by simpa using h2
  rw [if_neg h2]
  refine AWp.seq ?_
  refine AWp.regK [2,3,4] [true,true,true,true] F5r5 [] (by kernel_rfl) (by rw [hC]; rfl) fun K hK => ?_
  simp (maxSteps := 2000000) [F5r5]
  refine hK _ ?_
  repeat refine AWp.seq ?_
  refine AWp.ret ⟨.inr rfl, _, by simp [Tryz.results5] <;> rfl, ?_⟩
  exact .tup (.cons .nil (.cons (.closed rfl) (.cons (.closed rfl) .nil)))
 have h2 : (shape p).2 = 0 := by simpa using h2
 rw [if_pos h2]
 refine AWp.skip ?_
 refine AWp.seq ?_
 refine AWp.regKL ops_mixed [[],[0],[0,1],[],[3],[0,1,2],[0,1,2,3,4,5],[0,1,2,3,4,5,6]] [2,3,4] [false,false,false,false,false,true,true,true] F5r6 [{ r := encTR (shape p).1.names }] (by kernel_rfl) (by rw [hC]; rfl) (by kernel_rfl) (by kernel_rfl) fun K hK => ?_
 simp (maxSteps := 2000000) [F5r6]
 (repeat first | refine ⟨by first | kernel_rfl | (intros; omega) | assumption, ?_⟩ | refine ⟨by intros; exact callOK rfl hc, ?_⟩); refine hK _ ?_
 repeat refine AWp.seq ?_
 refine AWp.ret ⟨.inr rfl, _, by simp [Tryz.results5] <;> rfl, ?_⟩
 exact .closed rfl
theorem ColumnsD_ok (p : PlanD) (hp : psize p ≤ 1048576) (hr : rangeP p) : Con Tryz.prog 7 [planX p] (ColR p) := by
 have hd := Deep'_ok p (by omega)
 have hs := shapeD_ok _ p (Nat.lt_succ_self _) hp hr
 unfold ShapeR at hs
 simp only [encP_eq, planX] at hd hs
 unfold ColR columns
 refine Con.of_code Tryz.func7 (by kernel_rfl) rfl (by simp [Tryz.ntmps7]) fun C hC hM => ?_
 refine AWp.seq ?_
 refine AWp.regK [1] [false,true,true,true] F7r0 [] (by kernel_rfl) (by rw [hC]; rfl) fun K hK => ?_
 simp (maxSteps := 2000000) [F7r0]
 refine hK _ ?_
 refine AWp.seq ?_
 refine AWp.seq ?_
 refine AWp.regK [1,9] [] F7r1 [{ r := ival (depthP p) }] (by kernel_rfl) (by rw [hC]; rfl) fun K hK => ?_
 simp (maxSteps := 2000000) [F7r1]
 (repeat first | refine ⟨by first | kernel_rfl | (intros; omega) | assumption, ?_⟩ | refine ⟨by intros; exact callOK rfl hd, ?_⟩); refine hK _ ?_
 refine AWp.cond _ (by rfl) (fun h1 => ?_) (fun h1 => ?_)
 ·skip
  have h1 : 64 < depthP p := by
   have : (64 : Int) < depthP p := by simpa using h1
   omega
  rw [if_pos h1]
  refine AWp.seq ?_
  refine AWp.regK [2,3,4] [true,true,true] F7r2 [] (by kernel_rfl) (by rw [hC]; rfl) fun K hK => ?_
  simp (maxSteps := 2000000) [F7r2]
  refine hK _ ?_
  repeat refine AWp.seq ?_
  refine AWp.ret ⟨.inr rfl, _, by simp [Tryz.results7] <;> rfl, ?_⟩
  exact .tup (.cons .nil (.cons (.closed rfl) (.cons (.closed rfl) .nil)))
 have h1 : ¬ 64 < depthP p := by
  have : ¬ (64 : Int) < depthP p := by simpa using h1
  omega
 rw [if_neg h1]
 refine AWp.skip ?_
 refine AWp.seq ?_
 refine AWp.regK [5,6] [false,false,false,false,false,false,true,true] F7r3 [{ r := .tup [shapeX (shape p).1,ival (shape p).2] }] (by kernel_rfl) (by rw [hC]; rfl) fun K hK => ?_
 simp (maxSteps := 2000000) [F7r3]
 (repeat first | refine ⟨by first | kernel_rfl | (intros; omega) | assumption, ?_⟩ | refine ⟨by intros; exact callOK rfl hs, ?_⟩); refine hK _ ?_
 refine AWp.seq ?_
 refine AWp.seq ?_
 refine AWp.regK [5,6,16] [] F7r4 [] (by kernel_rfl) (by rw [hC]; rfl) fun K hK => ?_
 simp (maxSteps := 2000000) [F7r4]
 refine hK _ ?_
 refine AWp.cond _ (by rfl) (fun h2 => ?_) (fun h2 => ?_)
 ·skip
  have h2 : ¬ (shape p).2 = 0 := by simpa using h2
  rw [if_neg h2]
  refine AWp.seq ?_
  refine AWp.regK [2,3,4] [true,true,true,true] F7r5 [] (by kernel_rfl) (by rw [hC]; rfl) fun K hK => ?_
  simp (maxSteps := 2000000) [F7r5]
  refine hK _ ?_
  repeat refine AWp.seq ?_
  refine AWp.ret ⟨.inr rfl, _, by simp [Tryz.results7] <;> rfl, ?_⟩
  exact .tup (.cons .nil (.cons (.closed rfl) (.cons (.closed rfl) .nil)))
 have h2 : (shape p).2 = 0 := by simpa using h2
 rw [if_pos h2]
 refine AWp.skip ?_
 refine AWp.seq ?_
 refine AWp.regKL ops_mixed [[],[0],[],[2],[0,1],[0,1,2,3,4],[0,1,2,3,4,5]] [2,3,4] [false,false,false,false,true,true,true] F7r6 [] (by kernel_rfl) (by rw [hC]; rfl) (by kernel_rfl) (by kernel_rfl) fun K hK => ?_
 simp (maxSteps := 2000000) [F7r6]
 first | refine hK _ ?_ | refine ⟨by kernel_rfl, hK _ ?_⟩
 repeat refine AWp.seq ?_
 refine AWp.ret ⟨.inr rfl, _, by simp [Tryz.results7] <;> rfl, ?_⟩
 exact .closed rfl
end Go.Al
