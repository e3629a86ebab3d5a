/- The document: which expressions, and which patterns, may be. -/
import Derived.Test.YtdobngcdgkallaaGreatDoorAlM
set_option linter.unusedSimpArgs false
set_option linter.unusedVariables false
set_option linter.unusedSectionVars false
open Go Go.Aw Go.Proofs
namespace Go.Al
set_option maxRecDepth 20000
-- function 49: corollary/corollaryref06.Good
def F49r0 : List ROp := [⟨some 2,.box 58 (.tmp 0),[],none⟩,
 ⟨some 4,.copy true (.const (.bool false)),[],none⟩]
def F49r1 : List ROp := [⟨some 5,.copy true (.const (.bool false)),[],none⟩]
def F49r2 : List ROp := [⟨some 9,.fad 8 (.tmp 2),[],none⟩,
 ⟨some 10,.load 1 false false (.tmp 9),[],none⟩,
 ⟨some 11,.len 0 (.tmp 10),[],none⟩,
 ⟨some 6,.copy true (.tmp 11),[],none⟩]
def F49r3 : List ROp := [⟨some 12,.fad 0 (.tmp 2),[],none⟩,
 ⟨some 13,.load 1 false false (.tmp 12),[],none⟩]
def F49r4 : List ROp := [⟨some 15,.bin .eql (.tmp 13) (.const (.int .u8 1)),[],none⟩,
 ⟨some 14,.copy true (.tmp 15),[],none⟩]
def F49r5 : List ROp := [⟨some 16,.fad 4 (.tmp 2),[],none⟩,
 ⟨some 17,.load 4 true false (.tmp 16),[],none⟩,
 ⟨some 7,.alloc 56 [Value.int .u8 0,Value.int .i64 0,Value.string ByteArray.empty,Value.slice none 0 0],[],none⟩,
 ⟨none,.store 4 true (.tmp 7) (.tmp 17),[],none⟩]
def F49r6 : List ROp := [⟨some 18,.fad 0 (.tmp 7),[],none⟩,
 ⟨some 19,.load 1 false false (.tmp 18),[],none⟩,
 ⟨some 20,.bin .geq (.tmp 19) (.const (.int .u8 1)),[],none⟩,
 ⟨some 21,.copy false (.tmp 20),[],none⟩,
 ⟨some 22,.fad 0 (.tmp 7),[],some (21,true)⟩,
 ⟨some 23,.load 1 false false (.tmp 22),[],some (21,true)⟩,
 ⟨some 24,.bin .leq (.tmp 23) (.const (.int .u8 4)),[],some (21,true)⟩,
 ⟨some 25,.pick (.tmp 21) (.tmp 24) (.const (.bool false)),[],none⟩,
 ⟨some 26,.copy false (.tmp 25),[],none⟩,
 ⟨some 27,.load 4 true false (.tmp 7),[],some (26,true)⟩,
 ⟨some 28,.call (.func 58) [.tmp 27],[],some (26,true)⟩,
 ⟨some 29,.bin .eql (.tmp 28) (.const (.int .i64 0)),[],some (26,true)⟩,
 ⟨some 30,.pick (.tmp 26) (.tmp 29) (.const (.bool false)),[],none⟩,
 ⟨some 31,.copy false (.tmp 30),[],none⟩,
 ⟨some 32,.copy false (.tmp 6),[],some (31,true)⟩,
 ⟨some 33,.bin .eql (.tmp 32) (.const (.int .i64 0)),[],some (31,true)⟩,
 ⟨some 34,.pick (.tmp 31) (.tmp 33) (.const (.bool false)),[],none⟩,
 ⟨some 35,.copy false (.tmp 34),[],none⟩,
 ⟨some 36,.fad 3 (.tmp 2),[],some (35,true)⟩,
 ⟨some 37,.load 1 false false (.tmp 36),[],some (35,true)⟩,
 ⟨some 38,.bin .eql (.tmp 37) (.const (.string { data := #[] })),[],some (35,true)⟩,
 ⟨some 39,.pick (.tmp 35) (.tmp 38) (.const (.bool false)),[],none⟩,
 ⟨some 5,.copy true (.tmp 39),[],none⟩]
def F49r7 : List ROp := [⟨some 41,.bin .eql (.tmp 13) (.const (.int .u8 2)),[],none⟩,
 ⟨some 40,.copy true (.tmp 41),[],none⟩]
def F49r8 : List ROp := [⟨some 42,.fad 3 (.tmp 2),[],none⟩,
 ⟨some 43,.load 1 false false (.tmp 42),[],none⟩,
 ⟨some 44,.call (.func 47) [.tmp 43],[],none⟩,
 ⟨some 45,.copy false (.tmp 44),[],none⟩,
 ⟨some 46,.copy false (.tmp 6),[],some (45,true)⟩,
 ⟨some 47,.bin .eql (.tmp 46) (.const (.int .i64 0)),[],some (45,true)⟩,
 ⟨some 48,.pick (.tmp 45) (.tmp 47) (.const (.bool false)),[],none⟩,
 ⟨some 5,.copy true (.tmp 48),[],none⟩]
def F49r9 : List ROp := [⟨some 50,.bin .eql (.tmp 13) (.const (.int .u8 3)),[],none⟩,
 ⟨some 49,.copy true (.tmp 50),[],none⟩]
def F49r10 : List ROp := [⟨some 51,.copy false (.tmp 1),[],none⟩,
 ⟨some 52,.copy false (.tmp 51),[],none⟩,
 ⟨some 53,.fad 3 (.tmp 2),[],some (52,true)⟩,
 ⟨some 54,.load 1 false false (.tmp 53),[],some (52,true)⟩,
 ⟨some 55,.bin .eql (.tmp 54) (.const (.string { data := #[] })),[],some (52,true)⟩,
 ⟨some 56,.pick (.tmp 52) (.tmp 55) (.const (.bool false)),[],none⟩,
 ⟨some 57,.copy false (.tmp 56),[],none⟩,
 ⟨some 58,.copy false (.tmp 6),[],some (57,true)⟩,
 ⟨some 59,.bin .eql (.tmp 58) (.const (.int .i64 0)),[],some (57,true)⟩,
 ⟨some 60,.pick (.tmp 57) (.tmp 59) (.const (.bool false)),[],none⟩,
 ⟨some 5,.copy true (.tmp 60),[],none⟩]
def F49r11 : List ROp := [⟨some 62,.bin .eql (.tmp 13) (.const (.int .u8 4)),[],none⟩,
 ⟨some 61,.copy true (.tmp 62),[],none⟩]
def F49r12 : List ROp := [⟨some 63,.fad 3 (.tmp 2),[],none⟩,
 ⟨some 64,.load 1 false false (.tmp 63),[],none⟩,
 ⟨some 65,.bin .eql (.tmp 64) (.const (.string { data := #[] })),[],none⟩,
 ⟨some 66,.copy false (.tmp 65),[],none⟩,
 ⟨some 67,.copy false (.tmp 6),[],some (66,true)⟩,
 ⟨some 68,.bin .neq (.tmp 67) (.const (.int .i64 1)),[],some (66,true)⟩,
 ⟨some 69,.pick (.tmp 66) (.tmp 68) (.const (.bool false)),[],none⟩,
 ⟨some 70,.copy false (.tmp 69),[],none⟩,
 ⟨some 71,.copy false (.tmp 6),[],some (70,true)⟩,
 ⟨some 72,.bin .leq (.tmp 71) (.const (.int .i64 16)),[],some (70,true)⟩,
 ⟨some 73,.pick (.tmp 70) (.tmp 72) (.const (.bool false)),[],none⟩,
 ⟨some 5,.copy true (.tmp 73),[],none⟩]
def F49r13 : List ROp := [⟨some 75,.bin .eql (.tmp 13) (.const (.int .u8 5)),[],none⟩,
 ⟨some 74,.copy true (.tmp 75),[],none⟩]
def F49r14 : List ROp := [⟨some 76,.fad 3 (.tmp 2),[],none⟩,
 ⟨some 77,.load 1 false false (.tmp 76),[],none⟩,
 ⟨some 78,.call (.func 59) [.tmp 77],[],none⟩,
 ⟨some 79,.copy false (.tmp 78),[],none⟩,
 ⟨some 80,.copy false (.tmp 6),[],some (79,true)⟩,
 ⟨some 81,.bin .leq (.tmp 80) (.const (.int .i64 8)),[],some (79,true)⟩,
 ⟨some 82,.pick (.tmp 79) (.tmp 81) (.const (.bool false)),[],none⟩,
 ⟨some 5,.copy true (.tmp 82),[],none⟩]
def F49r15 : List ROp := [⟨some 84,.bin .eql (.tmp 13) (.const (.int .u8 6)),[],none⟩,
 ⟨some 83,.copy true (.tmp 84),[],none⟩]
def F49r16 : List ROp := [⟨some 85,.copy false (.tmp 1),[],none⟩,
 ⟨some 86,.un .not (.tmp 85),[],none⟩,
 ⟨some 87,.copy false (.tmp 86),[],none⟩,
 ⟨some 88,.fad 3 (.tmp 2),[],some (87,true)⟩,
 ⟨some 89,.load 1 false false (.tmp 88),[],some (87,true)⟩,
 ⟨some 90,.call (.func 60) [.tmp 89],[],some (87,true)⟩,
 ⟨some 91,.bin .gtr (.tmp 90) (.const (.int .i64 0)),[],some (87,true)⟩,
 ⟨some 92,.pick (.tmp 87) (.tmp 91) (.const (.bool false)),[],none⟩,
 ⟨some 93,.copy false (.tmp 92),[],none⟩,
 ⟨some 94,.copy false (.tmp 6),[],some (93,true)⟩,
 ⟨some 95,.fad 3 (.tmp 2),[],some (93,true)⟩,
 ⟨some 96,.load 1 false false (.tmp 95),[],some (93,true)⟩,
 ⟨some 97,.call (.func 60) [.tmp 96],[],some (93,true)⟩,
 ⟨some 98,.bin .eql (.tmp 94) (.tmp 97),[],some (93,true)⟩,
 ⟨some 99,.pick (.tmp 93) (.tmp 98) (.const (.bool false)),[],none⟩,
 ⟨some 5,.copy true (.tmp 99),[],none⟩]
def F49r17 : List ROp := [⟨some 101,.bin .eql (.tmp 13) (.const (.int .u8 7)),[],none⟩,
 ⟨some 100,.copy true (.tmp 101),[],none⟩]
def F49r18 : List ROp := [⟨some 102,.copy false (.tmp 1),[],none⟩,
 ⟨some 103,.un .not (.tmp 102),[],none⟩,
 ⟨some 104,.copy false (.tmp 103),[],none⟩,
 ⟨some 105,.fad 3 (.tmp 2),[],some (104,true)⟩,
 ⟨some 106,.load 1 false false (.tmp 105),[],some (104,true)⟩,
 ⟨some 107,.call (.func 61) [.tmp 106],[],some (104,true)⟩,
 ⟨some 108,.pick (.tmp 104) (.tmp 107) (.const (.bool false)),[],none⟩,
 ⟨some 109,.copy false (.tmp 108),[],none⟩,
 ⟨some 110,.copy false (.tmp 6),[],some (109,true)⟩,
 ⟨some 111,.bin .eql (.tmp 110) (.const (.int .i64 1)),[],some (109,true)⟩,
 ⟨some 112,.pick (.tmp 109) (.tmp 111) (.const (.bool false)),[],none⟩,
 ⟨some 5,.copy true (.tmp 112),[],none⟩]
def F49r19 : List ROp := [⟨some 114,.bin .eql (.tmp 13) (.const (.int .u8 8)),[],none⟩,
 ⟨some 113,.copy true (.tmp 114),[],none⟩]
def F49r20 : List ROp := [⟨some 115,.copy false (.tmp 1),[],none⟩,
 ⟨some 116,.un .not (.tmp 115),[],none⟩,
 ⟨some 117,.copy false (.tmp 116),[],none⟩,
 ⟨some 118,.fad 3 (.tmp 2),[],some (117,true)⟩,
 ⟨some 119,.load 1 false false (.tmp 118),[],some (117,true)⟩,
 ⟨some 120,.bin .eql (.tmp 119) (.const (.string { data := #[] })),[],some (117,true)⟩,
 ⟨some 121,.pick (.tmp 117) (.tmp 120) (.const (.bool false)),[],none⟩,
 ⟨some 122,.copy false (.tmp 121),[],none⟩,
 ⟨some 123,.copy false (.tmp 6),[],some (122,true)⟩,
 ⟨some 124,.bin .eql (.tmp 123) (.const (.int .i64 3)),[],some (122,true)⟩,
 ⟨some 125,.pick (.tmp 122) (.tmp 124) (.const (.bool false)),[],none⟩,
 ⟨some 5,.copy true (.tmp 125),[],none⟩]
def F49r21 : List ROp := [⟨some 126,.fad 0 (.tmp 2),[],none⟩,
 ⟨some 127,.load 1 false false (.tmp 126),[],none⟩,
 ⟨some 128,.bin .neq (.tmp 127) (.const (.int .u8 1)),[],none⟩,
 ⟨some 129,.copy false (.tmp 128),[],none⟩,
 ⟨some 130,.fad 4 (.tmp 2),[],some (129,true)⟩,
 ⟨some 131,.load 4 true false (.tmp 130),[],some (129,true)⟩,
 ⟨some 132,.call (.func 62) [.tmp 131],[],some (129,true)⟩,
 ⟨some 133,.un .not (.tmp 132),[],some (129,true)⟩,
 ⟨some 134,.pick (.tmp 129) (.tmp 133) (.const (.bool false)),[],none⟩]
def F49r22 : List ROp := [⟨some 4,.copy true (.const (.bool false)),[],none⟩]
def F49r23 : List ROp := [⟨some 8,.copy true (.const (.int .i64 0)),[],none⟩]
def F49r24 : List ROp := [⟨some 135,.copy false (.tmp 8),[],none⟩,
 ⟨some 136,.copy false (.tmp 6),[],none⟩,
 ⟨some 137,.bin .lss (.tmp 135) (.tmp 136),[],none⟩,
 ⟨some 138,.copy false (.tmp 137),[],none⟩,
 ⟨some 139,.copy false (.tmp 5),[],some (138,true)⟩,
 ⟨some 140,.pick (.tmp 138) (.tmp 139) (.const (.bool false)),[],none⟩]
def F49r25 : List ROp := [⟨some 141,.copy false (.tmp 8),[],none⟩,
 ⟨some 142,.bin .add (.tmp 141) (.const (.int .i64 1)),[],none⟩,
 ⟨some 8,.copy true (.tmp 142),[],none⟩]
def F49r26 : List ROp := [⟨some 143,.fad 8 (.tmp 2),[],none⟩,
 ⟨some 144,.load 1 false false (.tmp 143),[],none⟩,
 ⟨some 145,.copy false (.tmp 8),[],none⟩,
 ⟨some 146,.iad 9 (.tmp 144) (.tmp 145),[],none⟩,
 ⟨some 147,.load 9 true false (.tmp 146),[],none⟩,
 ⟨some 148,.copy false (.tmp 1),[],none⟩,
 ⟨some 149,.call (.func 49) [.tmp 147,.tmp 148],[],none⟩,
 ⟨some 5,.copy true (.tmp 149),[],none⟩]
def F49r27 : List ROp := [⟨some 150,.copy true (.tmp 5),[],none⟩,
 ⟨some 4,.copy true (.tmp 150),[],none⟩]
attribute [local simp] valX encV_eq exprX encE_eq exprB
@[simp] theorem len0 (n : Nat) : ((n : Int) = 0) = (n = 0) := propext (by omega)
@[simp] theorem le16 (n : Nat) : ((n : Int) ≤ 16) = (n ≤ 16) := propext (by omega)
@[simp] theorem le8 (n : Nat) : ((n : Int) ≤ 8) = (n ≤ 8) := propext (by omega)
@[simp] theorem eq3 (n : Nat) : ((n : Int) = 3) = (n = 3) := propext (by omega)
theorem Good_ok (pat : Bool) : ∀ (n : Nat) (e : ExprD), esize e < n → esize e ≤ 4194304 → Con Tryz.prog 49 [exprX e, bval pat] (bval (good pat e)) := by
 intro n
 induction n with
 | zero => intro e h; omega
 | succ n ih =>
  intro e hn hv
  have hsz := esize_eq e
  have hlen := esizes_len e.args
  have hge := good_eq pat e
  have hvk := Check_ok e.v (by omega)
  have hnone := none_ok e.v (by omega)
  refine Con.of_code Tryz.func49 (by kernel_rfl) rfl (by simp [Tryz.ntmps49]) fun C hC hM => ?_
  refine AWp.seq ?_
  refine AWp.regK [1,2] [false,true] F49r0 [] (by kernel_rfl) (by rw [hC]; rfl) fun K hK => ?_
  simp (maxSteps := 2000000) [F49r0]
  refine hK _ ?_
  refine AWp.seq ?_
  refine AWp.regK [1,2,5] [true] F49r1 [] (by kernel_rfl) (by rw [hC]; rfl) fun K hK => ?_
  simp (maxSteps := 2000000) [F49r1]
  refine hK _ ?_
  refine AWp.seq ?_
  refine AWp.regK [1,2,5,6] [false,false,false,true] F49r2 [] (by kernel_rfl) (by rw [hC]; rfl) fun K hK => ?_
  simp (maxSteps := 2000000) [F49r2]
  refine hK _ ?_
  refine AWp.seqJ (fun _ : Unit => { tm := [(1, bval pat), (2, .ptr 2 0), (5, bval (goodOwn e pat)), (6, ival e.args.length)], hp := [(2, exprB e)] }) (fun _ => True) ?_ (fun hJ => ?_)
  ·skip
   rintro - -
   refine AWp.seq ?_
   refine AWp.seq ?_
   refine AWp.regK [1,2,5,6,134] [] F49r21 [{ r := bval (noneV e.v) }] (by kernel_rfl) (by rw [hC]; rfl) fun K hK => ?_
   simp (maxSteps := 2000000) [F49r21]
   (repeat first | refine ⟨by first | kernel_rfl | (intros; omega) | assumption, ?_⟩ | refine ⟨by intros; exact callOK rfl hnone, ?_⟩); refine hK _ ?_
   refine AWp.cond _ (by rfl) (fun h1 => ?_) (fun h1 => ?_)
   ·skip
    refine AWp.seq ?_
    refine AWp.regK [4] [true] F49r22 [] (by kernel_rfl) (by rw [hC]; rfl) fun K hK => ?_
    simp (maxSteps := 2000000) [F49r22]
    refine hK _ ?_
    repeat refine AWp.seq ?_
    refine AWp.ret ⟨.inr rfl, _, by simp [Tryz.results49] <;> rfl, ?_⟩
    refine .clos ?_ rfl
    have : (decide (e.kind = 1) || noneV e.v) = false := by revert h1; generalize noneV e.v = a; cases a <;> simp
    rw [hge, this]; simp
   have hk : (decide (e.kind = 1) || noneV e.v) = true := by revert h1; generalize noneV e.v = a; cases a <;> simp
   rw [hk, Bool.and_true] at hge
   clear h1 hnone
   refine AWp.skip ?_
   refine AWp.seq ?_
   refine AWp.seq ?_
   refine AWp.regK [1,2,5,6,8] [true] F49r23 [] (by kernel_rfl) (by rw [hC]; rfl) fun K hK => ?_
   simp (maxSteps := 2000000) [F49r23]
   refine hK _ ?_
   refine AWp.block ?_
   refine AWp.loopG (fun x : Nat × Bool => { tm := [(1, bval pat), (2, .ptr 2 0), (5, bval x.2), (6, ival e.args.length), (8, ival x.1)], hp := [(2, exprB e)] }) (fun x => x.1 ≤ e.args.length ∧ good pat e = (x.2 && goods pat (e.args.drop x.1))) (fun x => e.args.length - x.1) (0, goodOwn e pat) ⟨by omega, by simpa using hge⟩ (by simp) (fun x hk => ?_)
   obtain ⟨k, b⟩ := x
   obtain ⟨hk1, hk2⟩ := hk
   simp only at hk1 hk2
   refine AWp.seq ?_
   refine AWp.seq ?_
   refine AWp.regK [1,2,5,6,8,140] [] F49r24 [] (by kernel_rfl) (by rw [hC]; rfl) fun K hK => ?_
   simp (maxSteps := 2000000) [F49r24]
   (repeat refine ⟨by first | omega | (intros; omega) | assumption, ?_⟩); refine hK _ ?_
   refine AWp.cond _ (by rfl) (fun hlt => ?_) (fun hge => ?_)
   ·skip
    have hlt2 : k < e.args.length ∧ b = true := by simpa using hlt
    clear hlt
    obtain ⟨hlt, rfl⟩ := hlt2
    have hd := goods_drop pat e.args k hlt
    have hm := esize_mem (List.getElem_mem hlt)
    have hc := ih e.args[k] (by omega) (by omega)
    refine AWp.skip ?_
    refine AWp.seq ?_
    refine AWp.block ?_
    refine AWp.regK [1,2,5,6,8] [false,false,false,false,false,false,false,true] F49r26 [{ r := bval (good pat e.args[k]) }] (by kernel_rfl) (by rw [hC]; rfl) fun K hK => ?_
    simp (maxSteps := 2000000) [F49r26, hlt]
    (repeat first | refine ⟨by first | kernel_rfl | (intros; omega) | assumption, ?_⟩ | refine ⟨by intros; exact callOK rfl hc, ?_⟩); refine hK _ ?_
    refine AWp.regK [1,2,5,6,8] [false,false,true] F49r25 [] (by kernel_rfl) (by rw [hC]; rfl) fun K hK => ?_
    simp (maxSteps := 2000000) [F49r25]
    (repeat refine ⟨by first | omega | (intros; omega) | assumption, ?_⟩); refine hK _ ?_
    refine ⟨(k + 1, good pat e.args[k]), ⟨by simp; omega, by rw [hk2, hd]; simp⟩, by simp; omega, ?_⟩
    simp [wrap_nat k (by omega)]
   refine AWp.exit ?_
   refine AWp.seq ?_
   refine AWp.regK [4] [true,true] F49r27 [] (by kernel_rfl) (by rw [hC]; rfl) fun K hK => ?_
   simp (maxSteps := 2000000) [F49r27]
   refine hK _ ?_
   repeat refine AWp.seq ?_
   refine AWp.ret ⟨.inr rfl, _, by simp [Tryz.results49] <;> rfl, ?_⟩
   refine .clos ?_ rfl
   rw [hk2]
   by_cases h : k < e.args.length
   ·simp [h] at hge; simp [hge]
   ·rw [List.drop_eq_nil_of_le (by omega)]; simp [goods]
  ·skip
   clear hge hnone
   refine AWp.seq ?_
   refine AWp.regK [1,2,5,6,13] [] F49r3 [] (by kernel_rfl) (by rw [hC]; rfl) fun K hK => ?_
   simp (maxSteps := 2000000) [F49r3]
   refine hK _ ?_
   refine AWp.block ?_
   refine AWp.seq ?_
   refine AWp.regK [1,2,5,6,13,14] [false,true] F49r4 [] (by kernel_rfl) (by rw [hC]; rfl) fun K hK => ?_
   simp (maxSteps := 2000000) [F49r4]
   refine hK _ ?_
   refine AWp.cond _ (by rfl) (fun h1 => ?_) (fun h1 => ?_)
   ·skip
    have h1 : e.kind = 1 := by simpa using h1
    refine AWp.seq ?_
    refine AWp.regK [1,2,6,7] [false,false,false,true] F49r5 [] (by kernel_rfl) (by rw [hC]; rfl) fun K hK => ?_
    simp (maxSteps := 2000000) [F49r5]
    refine hK _ ?_
    refine AWp.regK [1,2,5,6] [false,false,false,false,false,false,false,false,false,false,false,false,false,false,false,false,false,false,false,false,false,false,true] F49r6 [{ r := ival (Check e.v) }] (by kernel_rfl) (by rw [hC]; rfl) fun K hK => ?_
    simp (maxSteps := 2000000) [F49r6]
    (repeat first | refine ⟨by first | kernel_rfl | (intros; omega) | assumption, ?_⟩ | refine ⟨by intros; exact callOK rfl hvk, ?_⟩); refine hK _ ?_
    refine hJ _ () trivial ?_
    have : goodOwn e pat = (decide (1 ≤ e.v.kind) && decide (e.v.kind ≤ 4) && decide (Check e.v = 0) && decide (e.args.length = 0) && decide (e.name = ⟨#[]⟩)) := by unfold goodOwn; rw [if_pos h1]
    rw [this]
    simp [Bool.and_assoc]
   have h1 : ¬ e.kind = 1 := by simpa using h1
   refine AWp.seq ?_
   refine AWp.regK [1,2,5,6,13,40] [false,true] F49r7 [] (by kernel_rfl) (by rw [hC]; rfl) fun K hK => ?_
   simp (maxSteps := 2000000) [F49r7]
   refine hK _ ?_
   refine AWp.cond _ (by rfl) (fun h2 => ?_) (fun h2 => ?_)
   ·skip
    have h2 : e.kind = 2 := by simpa using h2
    have hc := Variable_ok e.name (by omega)
    refine AWp.regK [1,2,5,6] [false,false,false,false,false,false,false,true] F49r8 [{ r := bval (varB e.name) }] (by kernel_rfl) (by rw [hC]; rfl) fun K hK => ?_
    simp (maxSteps := 2000000) [F49r8]
    (repeat first | refine ⟨by first | kernel_rfl | (intros; omega) | assumption, ?_⟩ | refine ⟨by intros; exact callOK rfl hc, ?_⟩); refine hK _ ?_
    refine hJ _ () trivial ?_
    have : goodOwn e pat = (varB e.name && decide (e.args.length = 0)) := by unfold goodOwn; rw [if_neg h1, if_pos h2]
    rw [this]
    simp [Bool.and_assoc]
   have h2 : ¬ e.kind = 2 := by simpa using h2
   refine AWp.seq ?_
   refine AWp.regK [1,2,5,6,13,49] [false,true] F49r9 [] (by kernel_rfl) (by rw [hC]; rfl) fun K hK => ?_
   simp (maxSteps := 2000000) [F49r9]
   refine hK _ ?_
   refine AWp.cond _ (by rfl) (fun h3 => ?_) (fun h3 => ?_)
   ·skip
    have h3 : e.kind = 3 := by simpa using h3
    refine AWp.regK [1,2,5,6] [false,false,false,false,false,false,false,false,false,false,true] F49r10 [] (by kernel_rfl) (by rw [hC]; rfl) fun K hK => ?_
    simp (maxSteps := 2000000) [F49r10]
    (repeat refine ⟨by first | omega | (intros; omega) | assumption, ?_⟩); refine hK _ ?_
    refine hJ _ () trivial ?_
    have : goodOwn e pat = (pat && decide (e.name = ⟨#[]⟩) && decide (e.args.length = 0)) := by unfold goodOwn; rw [if_neg h1, if_neg h2, if_pos h3]
    rw [this]
    simp [Bool.and_assoc]
   have h3 : ¬ e.kind = 3 := by simpa using h3
   refine AWp.seq ?_
   refine AWp.regK [1,2,5,6,13,61] [false,true] F49r11 [] (by kernel_rfl) (by rw [hC]; rfl) fun K hK => ?_
   simp (maxSteps := 2000000) [F49r11]
   refine hK _ ?_
   refine AWp.cond _ (by rfl) (fun h4 => ?_) (fun h4 => ?_)
   ·skip
    have h4 : e.kind = 4 := by simpa using h4
    refine AWp.regK [1,2,5,6] [false,false,false,false,false,false,false,false,false,false,false,true] F49r12 [] (by kernel_rfl) (by rw [hC]; rfl) fun K hK => ?_
    simp (maxSteps := 2000000) [F49r12]
    (repeat refine ⟨by first | omega | (intros; omega) | assumption, ?_⟩); refine hK _ ?_
    refine hJ _ () trivial ?_
    have : goodOwn e pat = (decide (e.name = ⟨#[]⟩) && !decide (e.args.length = 1) && decide (e.args.length ≤ 16)) := by unfold goodOwn; rw [if_neg h1, if_neg h2, if_neg h3, if_pos h4]
    rw [this]
    simp [Bool.and_assoc]
   have h4 : ¬ e.kind = 4 := by simpa using h4
   refine AWp.seq ?_
   refine AWp.regK [1,2,5,6,13,74] [false,true] F49r13 [] (by kernel_rfl) (by rw [hC]; rfl) fun K hK => ?_
   simp (maxSteps := 2000000) [F49r13]
   refine hK _ ?_
   refine AWp.cond _ (by rfl) (fun h5 => ?_) (fun h5 => ?_)
   ·skip
    have h5 : e.kind = 5 := by simpa using h5
    have hc := Long_ok e.name (by omega)
    refine AWp.regK [1,2,5,6] [false,false,false,false,false,false,false,true] F49r14 [{ r := bval (long e.name) }] (by kernel_rfl) (by rw [hC]; rfl) fun K hK => ?_
    simp (maxSteps := 2000000) [F49r14]
    (repeat first | refine ⟨by first | kernel_rfl | (intros; omega) | assumption, ?_⟩ | refine ⟨by intros; exact callOK rfl hc, ?_⟩); refine hK _ ?_
    refine hJ _ () trivial ?_
    have : goodOwn e pat = (long e.name && decide (e.args.length ≤ 8)) := by unfold goodOwn; rw [if_neg h1, if_neg h2, if_neg h3, if_neg h4, if_pos h5]
    rw [this]
    simp [Bool.and_assoc]
   have h5 : ¬ e.kind = 5 := by simpa using h5
   refine AWp.seq ?_
   refine AWp.regK [1,2,5,6,13,83] [false,true] F49r15 [] (by kernel_rfl) (by rw [hC]; rfl) fun K hK => ?_
   simp (maxSteps := 2000000) [F49r15]
   refine hK _ ?_
   refine AWp.cond _ (by rfl) (fun h6 => ?_) (fun h6 => ?_)
   ·skip
    have h6 : e.kind = 6 := by simpa using h6
    have hc := Arity_ok e.name
    refine AWp.regK [1,2,5,6] [false,false,false,false,false,false,false,false,false,false,false,false,false,false,false,true] F49r16 [{ r := ival (arity e.name) },{ r := ival (arity e.name) }] (by kernel_rfl) (by rw [hC]; rfl) fun K hK => ?_
    simp (maxSteps := 2000000) [F49r16]
    (repeat first | refine ⟨by first | kernel_rfl | (intros; omega) | assumption, ?_⟩ | refine ⟨by intros; exact callOK rfl hc, ?_⟩ | refine ⟨by intros; exact callOK rfl hc, ?_⟩); refine hK _ ?_
    refine hJ _ () trivial ?_
    have : goodOwn e pat = (!pat && decide (0 < arity e.name) && decide ((e.args.length : Int) = arity e.name)) := by unfold goodOwn; rw [if_neg h1, if_neg h2, if_neg h3, if_neg h4, if_neg h5, if_pos h6]
    rw [this]
    simp [Bool.and_assoc]
   have h6 : ¬ e.kind = 6 := by simpa using h6
   refine AWp.seq ?_
   refine AWp.regK [1,2,5,6,13,100] [false,true] F49r17 [] (by kernel_rfl) (by rw [hC]; rfl) fun K hK => ?_
   simp (maxSteps := 2000000) [F49r17]
   refine hK _ ?_
   refine AWp.cond _ (by rfl) (fun h7 => ?_) (fun h7 => ?_)
   ·skip
    have h7 : e.kind = 7 := by simpa using h7
    have hc := NameR_ok e.name (by omega)
    refine AWp.regK [1,2,5,6] [false,false,false,false,false,false,false,false,false,false,false,true] F49r18 [{ r := bval (nameR e.name) }] (by kernel_rfl) (by rw [hC]; rfl) fun K hK => ?_
    simp (maxSteps := 2000000) [F49r18]
    (repeat first | refine ⟨by first | kernel_rfl | (intros; omega) | assumption, ?_⟩ | refine ⟨by intros; exact callOK rfl hc, ?_⟩); refine hK _ ?_
    refine hJ _ () trivial ?_
    have : goodOwn e pat = (!pat && nameR e.name && decide (e.args.length = 1)) := by unfold goodOwn; rw [if_neg h1, if_neg h2, if_neg h3, if_neg h4, if_neg h5, if_neg h6, if_pos h7]
    rw [this]
    simp [Bool.and_assoc]
   have h7 : ¬ e.kind = 7 := by simpa using h7
   refine AWp.seq ?_
   refine AWp.regK [1,2,5,6,113] [false,true] F49r19 [] (by kernel_rfl) (by rw [hC]; rfl) fun K hK => ?_
   simp (maxSteps := 2000000) [F49r19]
   refine hK _ ?_
   refine AWp.cond _ (by rfl) (fun h8 => ?_) (fun h8 => ?_)
   ·skip
    have h8 : e.kind = 8 := by simpa using h8
    refine AWp.regK [1,2,5,6] [false,false,false,false,false,false,false,false,false,false,false,true] F49r20 [] (by kernel_rfl) (by rw [hC]; rfl) fun K hK => ?_
    simp (maxSteps := 2000000) [F49r20]
    (repeat refine ⟨by first | omega | (intros; omega) | assumption, ?_⟩); refine hK _ ?_
    refine hJ _ () trivial ?_
    have : goodOwn e pat = (!pat && decide (e.name = ⟨#[]⟩) && decide (e.args.length = 3)) := by unfold goodOwn; rw [if_neg h1, if_neg h2, if_neg h3, if_neg h4, if_neg h5, if_neg h6, if_neg h7, if_pos h8]
    rw [this]
    simp [Bool.and_assoc]
   have h8 : ¬ e.kind = 8 := by simpa using h8
   refine AWp.skip ?_
   refine hJ _ () trivial ?_
   have : goodOwn e pat = false := by unfold goodOwn; rw [if_neg h1, if_neg h2, if_neg h3, if_neg h4, if_neg h5, if_neg h6, if_neg h7, if_neg h8]
   rw [this]
   simp
theorem Good'_ok (pat : Bool) (e : ExprD) (h : esize e ≤ 4194304) : Con Tryz.prog 49 [exprX e, bval pat] (bval (good pat e)) := Good_ok pat _ e (Nat.lt_succ_self _) h
