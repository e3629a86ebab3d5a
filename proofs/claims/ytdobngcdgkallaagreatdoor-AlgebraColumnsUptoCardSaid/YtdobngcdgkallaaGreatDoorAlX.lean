/- The program: may an expression be, may all. -/
import Derived.Test.YtdobngcdgkallaaGreatDoorAlW
import Derived.Test.YtdobngcdgkallaaGreatDoorAlS
set_option linter.unusedSimpArgs false
set_option linter.unusedVariables false
set_option linter.unusedSectionVars false
open Go Go.Aw Go.Proofs
namespace Go.Al
set_option maxRecDepth 20000
-- function 65: corollary/tree.Expr
def F65r0 : List ROp := [⟨some 1,.box 58 (.tmp 0),[],none⟩,
 ⟨some 2,.copy true (.const (.string { data := #[] })),[],none⟩,
 ⟨some 3,.copy true (.const (.int .i64 0)),[],none⟩]
def F65r1 : List ROp := [⟨some 6,.load 9 true false (.tmp 1),[],none⟩,
 ⟨some 7,.call (.func 74) [.tmp 6],[],none⟩,
 ⟨some 8,.bin .gtr (.tmp 7) (.const (.int .i64 64)),[],none⟩,
 ⟨some 5,.copy true (.tmp 8),[],none⟩]
def F65r2 : List ROp := [⟨some 2,.copy true (.const (.string { data := #[] })),[],none⟩,
 ⟨some 3,.copy true (.const (.int .i64 65)),[],none⟩]
def F65r3 : List ROp := [⟨some 10,.load 9 true false (.tmp 1),[],none⟩,
 ⟨some 11,.call (.func 75) [.tmp 10],[],none⟩,
 ⟨some 12,.un .not (.tmp 11),[],none⟩,
 ⟨some 9,.copy true (.tmp 12),[],none⟩]
def F65r4 : List ROp := [⟨some 2,.copy true (.const (.string { data := #[] })),[],none⟩,
 ⟨some 3,.copy true (.const (.int .i64 4)),[],none⟩]
def F65r5 : List ROp := [⟨some 13,.build [Value.pointer none,Value.slice none 0 0] [],[],none⟩,
 ⟨some 14,.box 120 (.tmp 13),[],none⟩,
 ⟨some 4,.copy true (.tmp 14),[],none⟩]
def F65r6 : List ROp := [⟨some 15,.copy false (.tmp 4),[],none⟩,
 ⟨some 16,.load 9 true false (.tmp 1),[],none⟩,
 ⟨some 17,.call (.func 76) [.tmp 15,.tmp 16],[],none⟩]
def F65r7 : List ROp := [⟨some 18,.copy false (.tmp 4),[],none⟩,
 ⟨some 19,.x1 0 (.tmp 18),[],none⟩,
 ⟨some 20,.fad 0 (.tmp 19),[],none⟩,
 ⟨some 21,.call (.func 77) [.tmp 20],[],none⟩,
 ⟨some 2,.copy true (.tmp 21),[],none⟩,
 ⟨some 3,.copy true (.const (.int .i64 0)),[],none⟩]
-- function 53: corollary/algebra.may
def F53r0 : List ROp := [⟨some 2,.box 58 (.tmp 0),[],none⟩,
 ⟨some 4,.copy true (.const (.bool false)),[],none⟩]
def F53r1 : List ROp := [⟨some 9,.load 9 true false (.tmp 2),[],none⟩,
 ⟨some 10,.call (.func 65) [.tmp 9],[],none⟩,
 ⟨some 8,.copy false (.tmp 10),[],none⟩,
 ⟨some 11,.ext (.tmp 8) 0,[],none⟩,
 ⟨some 12,.ext (.tmp 8) 1,[],none⟩,
 ⟨some 5,.copy true (.tmp 11),[],none⟩,
 ⟨some 6,.copy true (.tmp 12),[],none⟩]
def F53r2 : List ROp := [⟨some 13,.copy false (.tmp 1),[],none⟩,
 ⟨some 14,.un .not (.tmp 13),[],none⟩]
def F53r3 : List ROp := [⟨some 15,.copy false (.tmp 6),[],none⟩,
 ⟨some 16,.bin .eql (.tmp 15) (.const (.int .i64 0)),[],none⟩,
 ⟨some 4,.copy true (.tmp 16),[],none⟩]
def F53r4 : List ROp := [⟨some 17,.load 9 true false (.tmp 2),[],none⟩,
 ⟨some 18,.bslice 58 9 [Value.int .u8 0,Value.int .i64 0,Value.int .i64 0,Value.string ByteArray.empty,Value.int .u8 0,Value.int .i64 0,Value.string ByteArray.empty,Value.slice none 0 0,Value.slice none 0 0] 1 [(0,.tmp 17)],[],none⟩,
 ⟨some 19,.build [Value.int .u8 0,Value.int .i64 0,Value.int .i64 0,Value.string ByteArray.empty,Value.slice none 0 0] [(0,1,.const (.int .u8 1)),(3,1,.const (.string { data := #[114] })),(4,1,.tmp 18)],[],none⟩,
 ⟨some 20,.bslice 99 5 [Value.int .u8 0,Value.int .i64 0,Value.int .i64 0,Value.string ByteArray.empty,Value.slice none 0 0] 1 [(0,.tmp 19)],[],none⟩,
 ⟨some 21,.build [Value.int .i64 0,Value.int .i64 0,Value.string ByteArray.empty,Value.slice none 0 0] [(2,1,.const (.string { data := #[110] })),(3,1,.tmp 20)],[],none⟩,
 ⟨some 22,.bslice 102 4 [Value.int .i64 0,Value.int .i64 0,Value.string ByteArray.empty,Value.slice none 0 0] 1 [(0,.tmp 21)],[],none⟩,
 ⟨some 23,.build [Value.string ByteArray.empty,Value.slice none 0 0,Value.slice none 0 0,Value.slice none 0 0,Value.slice none 0 0,Value.slice none 0 0] [(0,1,.const (.string { data := #[109] })),(5,1,.tmp 22)],[],none⟩,
 ⟨some 7,.alloc 109 [Value.string ByteArray.empty,Value.slice none 0 0,Value.slice none 0 0,Value.slice none 0 0,Value.slice none 0 0,Value.slice none 0 0],[],none⟩,
 ⟨none,.store 6 true (.tmp 7) (.tmp 23),[],none⟩]
def F53r5 : List ROp := [⟨some 24,.load 6 true false (.tmp 7),[],none⟩,
 ⟨some 25,.call (.func 66) [.tmp 24],[],none⟩,
 ⟨some 26,.bin .eql (.tmp 25) (.const (.int .i64 0)),[],none⟩,
 ⟨some 4,.copy true (.tmp 26),[],none⟩]
-- function 56: corollary/algebra.all$1
def F56r0 : List ROp := [⟨some 2,.box 58 (.tmp 0),[],none⟩,
 ⟨some 3,.copy true (.const (.bool false)),[],none⟩]
def F56r1 : List ROp := [⟨some 4,.load 9 true false (.tmp 2),[],none⟩,
 ⟨some 5,.load 1 false false (.tmp 1),[],none⟩,
 ⟨some 6,.call (.func 53) [.tmp 4,.tmp 5],[],none⟩,
 ⟨some 7,.un .not (.tmp 6),[],none⟩,
 ⟨some 3,.copy true (.tmp 7),[],none⟩]
-- function 43: corollary/algebra.all
def F43r0 : List ROp := [⟨some 3,.box 4 (.tmp 1),[],none⟩,
 ⟨some 4,.copy true (.const (.bool false)),[],none⟩]
def F43r1 : List ROp := [⟨some 5,.copy false (.tmp 0),[],none⟩,
 ⟨some 6,.mkf (Go.Fn.func 56) [.tmp 3],[],none⟩,
 ⟨some 7,.call (.func 55) [.tmp 5,.tmp 6],[],none⟩,
 ⟨some 8,.un .not (.tmp 7),[],none⟩,
 ⟨some 4,.copy true (.tmp 8),[],none⟩]
-- function 39: corollary/algebra.variable
def F39r0 : List ROp := [⟨some 2,.copy true (.const (.bool false)),[],none⟩]
def F39r1 : List ROp := [⟨some 3,.copy false (.tmp 0),[],none⟩,
 ⟨some 4,.build [Value.int .u8 0,Value.int .i64 0,Value.int .i64 0,Value.string ByteArray.empty,Value.int .u8 0,Value.int .i64 0,Value.string ByteArray.empty,Value.slice none 0 0,Value.slice none 0 0] [(0,1,.const (.int .u8 2)),(3,1,.tmp 3)],[],none⟩,
 ⟨some 5,.call (.func 53) [.tmp 4,.const (.bool false)],[],none⟩,
 ⟨some 2,.copy true (.tmp 5),[],none⟩]
attribute [local simp] valX encV_eq exprX encE_eq encTR encT texts
attribute [local simp] HB bB
def ExprR (e : ExprD) : AV := if 64 < depthE e then .tup [sval ⟨#[]⟩, ival 65] else if good false e = true then .tup [sval ⟨(txtE e).toArray⟩, ival 0] else .tup [sval ⟨#[]⟩, ival 4]
theorem nameR_pos {s : ByteArray} (h : nameR s = true) : 0 < s.size := by
 unfold nameR Name at h
 simp only [Bool.and_eq_true, Bool.not_eq_true', decide_eq_false_iff_not] at h
 exact size_pos h.1.1.1.1
theorem long_pos {s : ByteArray} (h : long s = true) : 0 < s.size := by
 unfold long at h
 split at h
 ·omega
 ·exact nameR_pos h
theorem brackT_pos (l : List (List UInt8)) : 0 < (brackT l).length := by simp [brackT]
theorem callT_pos (n : ByteArray) (l : List (List UInt8)) : 0 < (callT n l).length := by
 unfold callT
 repeat' split
 all_goals simp [brackT]
 all_goals omega
theorem txtE_ne {e : ExprD} (hr : rangeE e) (hg : good false e = true) : txtE e ≠ [] := by
 have hne : ∀ l : List UInt8, 0 < l.length → l ≠ [] := fun l h e => by rw [e] at h; simp at h
 refine hne _ ?_
 have hb := bl_len e.name
 rw [good_eq] at hg
 simp only [Bool.and_eq_true] at hg
 have h1 := hg.1.1
 rw [rangeE_eq] at hr
 have hv := List.length_pos_iff.2 (txtV_ne e.v hr.1)
 unfold goodOwn at h1
 rw [txtE_eq]
 by_cases k1 : e.kind = 1
 ·rw [if_pos k1]; exact hv
 rw [if_neg k1] at h1 ⊢
 by_cases k2 : e.kind = 2
 ·rw [if_pos k2] at h1 ⊢
  simp only [Bool.and_eq_true] at h1
  have := varB_pos h1.1; omega
 rw [if_neg k2] at h1 ⊢
 by_cases k3 : e.kind = 3
 ·rw [if_pos k3]; simp
 rw [if_neg k3] at h1 ⊢
 by_cases k4 : e.kind = 4
 ·rw [if_pos k4]; exact brackT_pos _
 rw [if_neg k4] at h1 ⊢
 by_cases k5 : e.kind = 5
 ·rw [if_pos k5] at h1 ⊢
  simp only [Bool.and_eq_true] at h1
  have := long_pos h1.1
  split
  ·omega
  ·simp only [List.length_append]; omega
 rw [if_neg k5] at h1 ⊢
 by_cases k6 : e.kind = 6
 ·rw [if_pos k6]; exact callT_pos _ _
 rw [if_neg k6] at h1 ⊢
 by_cases k7 : e.kind = 7
 ·rw [if_pos k7]; simp only [List.length_append, List.length_cons, List.length_nil]; omega
 rw [if_neg k7] at h1 ⊢
 by_cases k8 : e.kind = 8
 ·rw [if_pos k8]; simp
 rw [if_neg k8] at h1
 cases h1
theorem Expr_ok (e : ExprD) (hr : rangeE e) (h : esize e ≤ 4194304) : Con Tryz.prog 65 [exprX e] (ExprR e) := by
 have hd := depthT_e _ e (Nat.lt_succ_self _) h
 have hg := exprT_ok e h
 have hne := txtE_ne hr
 unfold ExprR
 refine Con.of_code Tryz.func65 (by kernel_rfl) rfl (by simp [Tryz.ntmps65]) fun C hC hM => ?_
 refine AWp.seq ?_
 refine AWp.regK [1] [false,true,true] F65r0 [] (by kernel_rfl) (by rw [hC]; rfl) fun K hK => ?_
 simp (maxSteps := 2000000) [F65r0]
 refine hK _ ?_
 refine AWp.seq ?_
 refine AWp.block ?_
 refine AWp.seq ?_
 refine AWp.regK [1,5] [false,false,false,true] F65r1 [{ r := ival (depthE e) }] (by kernel_rfl) (by rw [hC]; rfl) fun K hK => ?_
 simp (maxSteps := 2000000) [F65r1]
 (repeat first | refine ⟨by first | kernel_rfl | (intros; omega) | assumption, ?_⟩ | refine ⟨by intros; exact callOK rfl hd, ?_⟩); refine hK _ ?_
 refine AWp.cond _ (by rfl) (fun h1 => ?_) (fun h1 => ?_)
 ·skip
  have h1 : 64 < depthE e := by
   have : (64 : Int) < depthE e := by simpa using h1
   omega
  rw [if_pos h1]
  refine AWp.seq ?_
  refine AWp.regK [2,3] [true,true] F65r2 [] (by kernel_rfl) (by rw [hC]; rfl) fun K hK => ?_
  simp (maxSteps := 2000000) [F65r2]
  refine hK _ ?_
  repeat refine AWp.seq ?_
  refine AWp.ret ⟨.inr rfl, _, by simp [Tryz.results65] <;> rfl, ?_⟩
  exact .closed rfl
 have h1 : ¬ 64 < depthE e := by
  have : ¬ (64 : Int) < depthE e := by simpa using h1
  omega
 rw [if_neg h1]
 refine AWp.seq ?_
 refine AWp.regK [1,9] [false,false,false,true] F65r3 [{ r := bval (good false e) }] (by kernel_rfl) (by rw [hC]; rfl) fun K hK => ?_
 simp (maxSteps := 2000000) [F65r3]
 (repeat first | refine ⟨by first | kernel_rfl | (intros; omega) | assumption, ?_⟩ | refine ⟨by intros; exact callOK rfl hg, ?_⟩); refine hK _ ?_
 refine AWp.cond _ (by rfl) (fun h2 => ?_) (fun h2 => ?_)
 ·skip
  have h2 : good false e = false := by simpa using h2
  rw [h2]
  refine AWp.seq ?_
  refine AWp.regK [2,3] [true,true] F65r4 [] (by kernel_rfl) (by rw [hC]; rfl) fun K hK => ?_
  simp (maxSteps := 2000000) [F65r4]
  refine hK _ ?_
  repeat refine AWp.seq ?_
  refine AWp.ret ⟨.inr rfl, _, by simp [Tryz.results65] <;> rfl, ?_⟩
  exact .closed rfl
 have h2 : good false e = true := by simpa using h2
 rw [if_pos h2]
 have hw := (expr_ok _ e (Nat.lt_succ_self _) h h2 hr).2 false [] (by simp; omega)
 have hst := String_ok 120 (.ptr 1000 0) rfl (txtE e) (hne h2)
 rw [List.nil_append] at hw
 simp only [exprX, encE_eq] at hw
 refine AWp.skip ?_
 refine AWp.seq ?_
 refine AWp.regK [1,4] [false,false,true] F65r5 [] (by kernel_rfl) (by rw [hC]; rfl) fun K hK => ?_
 simp (maxSteps := 2000000) [F65r5]
 refine hK _ ?_
 refine AWp.seq ?_
 refine AWp.renP hM 14 1000 (by decide) (by simp) _ rfl ?_
 refine AWp.forget (s' := { tm := [(1, .ptr 1 0), (4, .ptr 1000 0)], hp := [(1, .cells 58 (encE e)), (1000, bB 120 false [])] }) (by simp [pA, brows]) ?_
 refine AWp.regK [4] [] F65r6 [{ r := .tup [],us := [1000],bs := HB 120 true (txtE e) }] (by kernel_rfl) (by rw [hC]; rfl) fun K hK => ?_
 simp (maxSteps := 2000000) [F65r6]
 (repeat first | refine ⟨by first | kernel_rfl | (intros; omega) | assumption, ?_⟩ | refine ⟨by intros; exact callB hw (.cons .refl (.cons .refl .nil)) rfl rfl, ?_⟩); refine hK _ ?_
 refine AWp.seq ?_
 refine AWp.regK [2,3] [false,false,false,false,true,true] F65r7 [{ r := sval ⟨(txtE e).toArray⟩,us := [1000],bs := [(1000,.cells 120 [.ptr 1000 0,.unk])] }] (by kernel_rfl) (by rw [hC]; rfl) fun K hK => ?_
 simp (maxSteps := 2000000) [F65r7]
 (repeat first | refine ⟨by first | kernel_rfl | (intros; omega) | assumption, ?_⟩ | refine ⟨by intros; exact callM_same hst (.cons .refl .nil) rfl rfl (by simp) (by simp) (by simp), ?_⟩); refine hK _ ?_
 repeat refine AWp.seq ?_
 refine AWp.ret ⟨.inr rfl, _, by simp [Tryz.results65] <;> rfl, ?_⟩
 exact .closed rfl
def ExprC (e : ExprD) : Int := if 64 < depthE e then 65 else if good false e = true then 0 else 4
def ExprS (e : ExprD) : ByteArray := if 64 < depthE e then ⟨#[]⟩ else if good false e = true then ⟨(txtE e).toArray⟩ else ⟨#[]⟩
theorem ExprR_eq (e : ExprD) : ExprR e = .tup [sval (ExprS e), ival (ExprC e)] := by
 unfold ExprR ExprS ExprC
 split
 ·rfl
 ·split <;> rfl
theorem may_ok (pat : Bool) (e : ExprD) (hr : rangeE e) (h : esize e ≤ 4194304) : Con Tryz.prog 53 [exprX e, bval pat] (bval (may pat e)) := by
 have h1 := Expr_ok e hr h
 have h2 := CheckM_ok e h
 rw [ExprR_eq] at h1
 refine Con.of_code Tryz.func53 (by kernel_rfl) rfl (by simp [Tryz.ntmps53]) fun C hC hM => ?_
 refine AWp.seq ?_
 refine AWp.regK [1,2] [false,true] F53r0 [] (by kernel_rfl) (by rw [hC]; rfl) fun K hK => ?_
 simp (maxSteps := 2000000) [F53r0]
 refine hK _ ?_
 refine AWp.seq ?_
 refine AWp.regK [1,2,6] [false,false,false,false,false,true,true] F53r1 [{ r := .tup [sval (ExprS e),ival (ExprC e)] }] (by kernel_rfl) (by rw [hC]; rfl) fun K hK => ?_
 simp (maxSteps := 2000000) [F53r1]
 (repeat first | refine ⟨by first | kernel_rfl | (intros; omega) | assumption, ?_⟩ | refine ⟨by intros; exact callOK rfl h1, ?_⟩); refine hK _ ?_
 cases pat with
 | false =>
  refine AWp.seq ?_
  refine AWp.seq ?_
  refine AWp.regK [2,6,14] [] F53r2 [] (by kernel_rfl) (by rw [hC]; rfl) fun K hK => ?_
  simp (maxSteps := 2000000) [F53r2]
  refine hK _ ?_
  refine AWp.cond true (by simp) (fun _ => ?_) (fun he => by cases he)
  refine AWp.seq ?_
  refine AWp.regK [4] [false,false,true] F53r3 [] (by kernel_rfl) (by rw [hC]; rfl) fun K hK => ?_
  simp (maxSteps := 2000000) [F53r3]
  refine hK _ ?_
  repeat refine AWp.seq ?_
  refine AWp.ret ⟨.inr rfl, _, by simp [Tryz.results53] <;> rfl, ?_⟩
  refine .clos ?_ rfl
  unfold may ExprC
  by_cases hd : 64 < depthE e
  ·rw [if_pos hd]; simp; omega
  ·rw [if_neg hd]
   have hd' : depthE e ≤ 64 := by omega
   cases good false e <;> simp [hd']
 | true =>
  refine AWp.seq ?_
  refine AWp.seq ?_
  refine AWp.regK [2,6,14] [] F53r2 [] (by kernel_rfl) (by rw [hC]; rfl) fun K hK => ?_
  simp (maxSteps := 2000000) [F53r2]
  refine hK _ ?_
  refine AWp.cond false (by simp) (fun he => by cases he) (fun _ => ?_)
  refine AWp.skip ?_
  refine AWp.seq ?_
  refine AWp.regK [7] [false,false,false,false,false,false,false,false,true] F53r4 [] (by kernel_rfl) (by rw [hC]; rfl) fun K hK => ?_
  simp (maxSteps := 2000000) [F53r4]
  (repeat refine ⟨by first | omega | (intros; omega) | assumption, ?_⟩); refine hK _ ?_
  refine AWp.seq ?_
  simp only [modX, encN, encL, nilA, tMod, encE_eq] at h2
  refine AWp.regK [4] [false,false,false,true] F53r5 [{ r := ival (if 64 < depthE e then 65 else if good true e = true then 0 else 4) }] (by kernel_rfl) (by rw [hC]; rfl) fun K hK => ?_
  simp (maxSteps := 2000000) [F53r5]
  (repeat first | refine ⟨by first | kernel_rfl | (intros; omega) | assumption, ?_⟩ | refine ⟨by intros; exact callOK rfl h2, ?_⟩); refine hK _ ?_
  repeat refine AWp.seq ?_
  refine AWp.ret ⟨.inr rfl, _, by simp [Tryz.results53] <;> rfl, ?_⟩
  refine .clos ?_ rfl
  unfold may
  by_cases hd : 64 < depthE e
  ·rw [if_pos hd]; simp; omega
  ·rw [if_neg hd]
   have hd' : depthE e ≤ 64 := by omega
   cases good true e <;> simp [hd']
theorem allF_ok (pat : Bool) (e : ExprD) (hr : rangeE e) (h : esize e ≤ 4194304) : Con Tryz.prog 56 [exprX e, .elt 1 [[bval pat]] 0 0] (bval (!may pat e)) := by
 have h1 := may_ok pat e hr h
 refine Con.of_code Tryz.func56 (by kernel_rfl) rfl (by simp [Tryz.ntmps56]) fun C hC hM => ?_
 refine AWp.seq ?_
 refine AWp.regK [1,2] [false,true] F56r0 [] (by kernel_rfl) (by rw [hC]; rfl) fun K hK => ?_
 simp (maxSteps := 2000000) [F56r0]
 refine hK _ ?_
 refine AWp.seq ?_
 refine AWp.regK [3] [false,false,false,false,true] F56r1 [{ r := bval (may pat e) }] (by kernel_rfl) (by rw [hC]; rfl) fun K hK => ?_
 simp (maxSteps := 2000000) [F56r1]
 (repeat first | refine ⟨by first | kernel_rfl | (intros; omega) | assumption, ?_⟩ | refine ⟨by intros; exact callOK rfl h1, ?_⟩); refine hK _ ?_
 repeat refine AWp.seq ?_
 refine AWp.ret ⟨.inr rfl, _, by simp [Tryz.results56] <;> rfl, ?_⟩
 exact .closed rfl
theorem all_ok (pat : Bool) (l : List ExprD) (hr : rangeEs l) (h : esizes l ≤ 4194304) : Con Tryz.prog 43 [encER l, bval pat] (bval (l.all (may pat))) := by
 have hlen := esizes_len l
 have h1 := ContainsFuncE_ok l (by omega) 56 [.elt 1 [[bval pat]] 0 0] rfl (fun e => !may pat e) (fun e he => allF_ok pat e (rangeEs_mem hr e he) (by have := esize_mem he; omega))
 refine Con.of_code Tryz.func43 (by kernel_rfl) rfl (by simp [Tryz.ntmps43]) fun C hC hM => ?_
 refine AWp.seq ?_
 refine AWp.regK [0,3] [false,true] F43r0 [] (by kernel_rfl) (by rw [hC]; rfl) fun K hK => ?_
 simp (maxSteps := 2000000) [F43r0]
 refine hK _ ?_
 refine AWp.seq ?_
 refine AWp.regK [4] [false,false,false,false,true] F43r1 [{ r := bval (l.any fun e => !may pat e),us := [3] }] (by kernel_rfl) (by rw [hC]; rfl) fun K hK => ?_
 simp (maxSteps := 2000000) [F43r1]
 (repeat first | refine ⟨by first | kernel_rfl | (intros; omega) | assumption, ?_⟩ | refine ⟨by intros; exact ⟨_, .cons (.closed rfl) (.cons (.clo (.cons (.ptr rfl (.cons (.closed rfl) .nil)) .nil)) .nil), h1⟩, ?_⟩); refine hK _ ?_
 repeat refine AWp.seq ?_
 refine AWp.ret ⟨.inr rfl, _, by simp [Tryz.results43] <;> rfl, ?_⟩
 refine .clos ?_ rfl
 simp [any_not]
theorem variable_ok (s : ByteArray) (hs : s.size ≤ 1048576) : Con Tryz.prog 39 [sval s] (bval (varB s)) := by
 have hz : esize (ExprD.mk 2 0 0 s (.mk 0 0 ⟨#[]⟩ []) []) ≤ 4194304 := by
  have : (⟨#[]⟩ : ByteArray).size = 0 := rfl
  simp [esize, esizes, vsize, vsizes]; omega
 have h1 := may_ok false (ExprD.mk 2 0 0 s (.mk 0 0 ⟨#[]⟩ []) []) (by simp [rangeE, rangeV, rangeEs, ValD.n]) hz
 have hm : may false (ExprD.mk 2 0 0 s (.mk 0 0 ⟨#[]⟩ []) []) = varB s := by
  simp [may, depthE_eq, depthsE, good_eq, goodOwn, goods, noneV, ValD.kind, ValD.n, ValD.s, ValD.l, ExprD.kind, ExprD.v, ExprD.args, ExprD.name]
 rw [hm] at h1
 simp only [exprX, encE_eq] at h1
 refine Con.of_code Tryz.func39 (by kernel_rfl) rfl (by simp [Tryz.ntmps39]) fun C hC hM => ?_
 refine AWp.seq ?_
 refine AWp.regK [0] [true] F39r0 [] (by kernel_rfl) (by rw [hC]; rfl) fun K hK => ?_
 simp (maxSteps := 2000000) [F39r0]
 refine hK _ ?_
 refine AWp.seq ?_
 refine AWp.regK [2] [false,false,false,true] F39r1 [{ r := bval (varB s) }] (by kernel_rfl) (by rw [hC]; rfl) fun K hK => ?_
 simp (maxSteps := 2000000) [F39r1]
 (repeat first | refine ⟨by first | kernel_rfl | (intros; omega) | assumption, ?_⟩ | refine ⟨by intros; exact callWk rfl (.cons (.agg (.cons (.refl _) (.cons (.refl _) (.cons (.refl _) (.cons (.refl _) (.cons (.refl _) (.cons (.refl _) (.cons (.refl _) (.cons (.nil 4) (.cons (.nil 9) .nil)))))))))) (.cons (.refl _) .nil)) h1, ?_⟩); refine hK _ ?_
 repeat refine AWp.seq ?_
 refine AWp.ret ⟨.inr rfl, _, by simp [Tryz.results39] <;> rfl, ?_⟩
 exact .closed rfl
end Go.Al
