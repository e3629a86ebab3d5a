/- The document: a plan's shape. -/
import Derived.Test.YtdobngcdgkallaaGreatDoorAlZc
set_option linter.unusedSimpArgs false
set_option linter.unusedVariables false
set_option linter.unusedSectionVars false
open Go Go.Aw Go.Proofs
namespace Go.Al
set_option maxRecDepth 20000
-- function 17: corollary/corollaryref19.shape
def F17r0 : List ROp := [⟨some 1,.box 26 (.tmp 0),[],none⟩,
 ⟨some 2,.alloc 48 [Value.slice none 0 0,Value.bool false,Value.int .i64 0],[],none⟩,
 ⟨some 3,.copy true (.const (.int .i64 0)),[],none⟩]
def F17r1 : List ROp := [⟨some 4,.copy true (.const (.slice none 0 0)),[],none⟩]
def F17r2 : List ROp := [⟨some 5,.copy true (.const (.int .i64 0)),[],none⟩]
def F17r3 : List ROp := [⟨some 12,.copy false (.tmp 5),[],none⟩,
 ⟨some 13,.fad 5 (.tmp 1),[],none⟩,
 ⟨some 14,.load 1 false false (.tmp 13),[],none⟩,
 ⟨some 15,.len 0 (.tmp 14),[],none⟩,
 ⟨some 16,.bin .lss (.tmp 12) (.tmp 15),[],none⟩]
def F17r4 : List ROp := [⟨some 17,.copy false (.tmp 5),[],none⟩,
 ⟨some 18,.bin .add (.tmp 17) (.const (.int .i64 1)),[],none⟩,
 ⟨some 5,.copy true (.tmp 18),[],none⟩]
def F17r5 : List ROp := [⟨some 20,.fad 5 (.tmp 1),[],none⟩,
 ⟨some 21,.load 1 false false (.tmp 20),[],none⟩,
 ⟨some 22,.copy false (.tmp 5),[],none⟩,
 ⟨some 23,.iad 6 (.tmp 21) (.tmp 22),[],none⟩,
 ⟨some 24,.load 6 true false (.tmp 23),[],none⟩,
 ⟨some 25,.call (.func 17) [.tmp 24],[],none⟩,
 ⟨some 19,.copy false (.tmp 25),[],none⟩,
 ⟨some 26,.ext (.tmp 19) 0,[],none⟩,
 ⟨some 27,.ext (.tmp 19) 1,[],none⟩,
 ⟨some 6,.alloc 48 [Value.slice none 0 0,Value.bool false,Value.int .i64 0],[],none⟩,
 ⟨none,.store 3 true (.tmp 6) (.tmp 26),[],none⟩,
 ⟨some 7,.copy true (.tmp 27),[],none⟩]
def F17r6 : List ROp := [⟨some 28,.copy false (.tmp 7),[],none⟩,
 ⟨some 29,.bin .neq (.tmp 28) (.const (.int .i64 0)),[],none⟩]
def F17r7 : List ROp := [⟨some 30,.build [Value.slice none 0 0,Value.bool false,Value.int .i64 0] [],[],none⟩,
 ⟨some 31,.copy true (.tmp 7),[],none⟩,
 ⟨none,.store 3 true (.tmp 2) (.tmp 30),[],none⟩,
 ⟨some 3,.copy true (.tmp 31),[],none⟩]
def F17r8 : List ROp := [⟨some 32,.copy true (.tmp 4),[],none⟩,
 ⟨some 33,.load 3 true false (.tmp 6),[],none⟩,
 ⟨some 34,.bslice 48 3 [Value.slice none 0 0,Value.bool false,Value.int .i64 0] 1 [(0,.tmp 33)],[],none⟩,
 ⟨some 35,.app 48 3 40 (.tmp 32) (.tmp 34),[],none⟩,
 ⟨some 4,.copy true (.tmp 35),[],none⟩]
def F17r9 : List ROp := [⟨some 36,.load 6 true false (.tmp 1),[],none⟩,
 ⟨some 37,.copy false (.tmp 4),[],none⟩,
 ⟨some 38,.call (.func 32) [.tmp 36,.tmp 37],[],none⟩,
 ⟨some 39,.un .not (.tmp 38),[],none⟩]
def F17r10 : List ROp := [⟨some 40,.build [Value.slice none 0 0,Value.bool false,Value.int .i64 0] [],[],none⟩,
 ⟨none,.store 3 true (.tmp 2) (.tmp 40),[],none⟩,
 ⟨some 3,.copy true (.const (.int .i64 4)),[],none⟩]
def F17r11 : List ROp := [⟨some 41,.fad 0 (.tmp 1),[],none⟩,
 ⟨some 42,.load 1 false false (.tmp 41),[],none⟩,
 ⟨some 43,.bin .eql (.tmp 42) (.const (.int .u8 4)),[],none⟩,
 ⟨some 44,.copy false (.tmp 43),[],none⟩,
 ⟨some 45,.fad 0 (.tmp 1),[],some (44,false)⟩,
 ⟨some 46,.load 1 false false (.tmp 45),[],some (44,false)⟩,
 ⟨some 47,.bin .eql (.tmp 46) (.const (.int .u8 9)),[],some (44,false)⟩,
 ⟨some 48,.pick (.tmp 44) (.const (.bool true)) (.tmp 47),[],none⟩]
def F17r12 : List ROp := [⟨some 49,.copy false (.tmp 4),[],none⟩,
 ⟨some 50,.iad 3 (.tmp 49) (.const (.int .i64 0)),[],none⟩,
 ⟨some 51,.load 3 true false (.tmp 50),[],none⟩,
 ⟨none,.store 3 true (.tmp 2) (.tmp 51),[],none⟩,
 ⟨some 3,.copy true (.const (.int .i64 0)),[],none⟩]
def F17r13 : List ROp := [⟨some 8,.copy true (.const (.slice none 0 0)),[],none⟩]
def F17r14 : List ROp := [⟨some 52,.fad 0 (.tmp 1),[],none⟩,
 ⟨some 53,.load 1 false false (.tmp 52),[],none⟩,
 ⟨some 54,.bin .eql (.tmp 53) (.const (.int .u8 2)),[],none⟩]
def F17r15 : List ROp := [⟨some 55,.fad 3 (.tmp 1),[],none⟩,
 ⟨some 56,.load 1 false false (.tmp 55),[],none⟩,
 ⟨some 57,.call (.func 33) [.tmp 56],[],none⟩,
 ⟨some 8,.copy true (.tmp 57),[],none⟩]
def F17r16 : List ROp := [⟨some 58,.fad 0 (.tmp 1),[],none⟩,
 ⟨some 59,.load 1 false false (.tmp 58),[],none⟩,
 ⟨some 60,.bin .eql (.tmp 59) (.const (.int .u8 3)),[],none⟩]
def F17r17 : List ROp := [⟨some 61,.copy true (.tmp 8),[],none⟩,
 ⟨some 62,.copy false (.tmp 4),[],none⟩,
 ⟨some 63,.iad 3 (.tmp 62) (.const (.int .i64 0)),[],none⟩,
 ⟨some 64,.fad 0 (.tmp 63),[],none⟩,
 ⟨some 65,.load 1 false false (.tmp 64),[],none⟩,
 ⟨some 66,.app 9 1 16 (.tmp 61) (.tmp 65),[],none⟩,
 ⟨some 8,.copy true (.tmp 66),[],none⟩]
def F17r18 : List ROp := [⟨some 9,.copy true (.const (.int .i64 0)),[],none⟩]
def F17r19 : List ROp := [⟨some 67,.copy false (.tmp 9),[],none⟩,
 ⟨some 68,.copy false (.tmp 4),[],none⟩,
 ⟨some 69,.iad 3 (.tmp 68) (.const (.int .i64 1)),[],none⟩,
 ⟨some 70,.fad 0 (.tmp 69),[],none⟩,
 ⟨some 71,.load 1 false false (.tmp 70),[],none⟩,
 ⟨some 72,.len 0 (.tmp 71),[],none⟩,
 ⟨some 73,.bin .lss (.tmp 67) (.tmp 72),[],none⟩]
def F17r20 : List ROp := [⟨some 74,.copy false (.tmp 9),[],none⟩,
 ⟨some 75,.bin .add (.tmp 74) (.const (.int .i64 1)),[],none⟩,
 ⟨some 9,.copy true (.tmp 75),[],none⟩]
def F17r21 : List ROp := [⟨some 76,.copy false (.tmp 8),[],none⟩,
 ⟨some 77,.copy false (.tmp 4),[],none⟩,
 ⟨some 78,.iad 3 (.tmp 77) (.const (.int .i64 1)),[],none⟩,
 ⟨some 79,.fad 0 (.tmp 78),[],none⟩,
 ⟨some 80,.load 1 false false (.tmp 79),[],none⟩,
 ⟨some 81,.copy false (.tmp 9),[],none⟩,
 ⟨some 82,.iad 1 (.tmp 80) (.tmp 81),[],none⟩,
 ⟨some 83,.load 1 false false (.tmp 82),[],none⟩,
 ⟨some 84,.call (.func 34) [.tmp 76,.tmp 83],[],none⟩,
 ⟨some 85,.bin .lss (.tmp 84) (.const (.int .i64 0)),[],none⟩]
def F17r22 : List ROp := [⟨some 86,.copy true (.tmp 8),[],none⟩,
 ⟨some 87,.copy false (.tmp 4),[],none⟩,
 ⟨some 88,.iad 3 (.tmp 87) (.const (.int .i64 1)),[],none⟩,
 ⟨some 89,.fad 0 (.tmp 88),[],none⟩,
 ⟨some 90,.load 1 false false (.tmp 89),[],none⟩,
 ⟨some 91,.copy false (.tmp 9),[],none⟩,
 ⟨some 92,.iad 1 (.tmp 90) (.tmp 91),[],none⟩,
 ⟨some 93,.load 1 false false (.tmp 92),[],none⟩,
 ⟨some 94,.bslice 9 1 [Value.string ByteArray.empty] 1 [(0,.tmp 93)],[],none⟩,
 ⟨some 95,.app 9 1 16 (.tmp 86) (.tmp 94),[],none⟩,
 ⟨some 8,.copy true (.tmp 95),[],none⟩]
def F17r23 : List ROp := [⟨some 96,.fad 0 (.tmp 1),[],none⟩,
 ⟨some 97,.load 1 false false (.tmp 96),[],none⟩,
 ⟨some 98,.bin .geq (.tmp 97) (.const (.int .u8 5)),[],none⟩]
def F17r24 : List ROp := [⟨some 99,.fad 3 (.tmp 1),[],none⟩,
 ⟨some 100,.load 1 false false (.tmp 99),[],none⟩,
 ⟨some 101,.call (.func 33) [.tmp 100],[],none⟩,
 ⟨some 10,.copy true (.tmp 101),[],none⟩]
def F17r25 : List ROp := [⟨some 11,.copy true (.const (.int .i64 0)),[],none⟩]
def F17r26 : List ROp := [⟨some 102,.copy false (.tmp 11),[],none⟩,
 ⟨some 103,.copy false (.tmp 10),[],none⟩,
 ⟨some 104,.len 0 (.tmp 103),[],none⟩,
 ⟨some 105,.bin .lss (.tmp 102) (.tmp 104),[],none⟩]
def F17r27 : List ROp := [⟨some 106,.copy false (.tmp 11),[],none⟩,
 ⟨some 107,.bin .add (.tmp 106) (.const (.int .i64 1)),[],none⟩,
 ⟨some 11,.copy true (.tmp 107),[],none⟩]
def F17r28 : List ROp := [⟨some 108,.copy false (.tmp 4),[],none⟩,
 ⟨some 109,.iad 3 (.tmp 108) (.const (.int .i64 0)),[0],none⟩,
 ⟨some 110,.fad 0 (.tmp 109),[1],none⟩,
 ⟨some 111,.load 1 false false (.tmp 110),[2],none⟩,
 ⟨some 112,.copy false (.tmp 10),[],none⟩,
 ⟨some 113,.copy false (.tmp 11),[],none⟩,
 ⟨some 114,.iad 1 (.tmp 112) (.tmp 113),[4,5],none⟩,
 ⟨some 115,.load 1 false false (.tmp 114),[6],none⟩,
 ⟨some 116,.call (.func 34) [.tmp 111,.tmp 115],[3,7],none⟩,
 ⟨some 117,.bin .lss (.tmp 116) (.const (.int .i64 0)),[8],none⟩]
def F17r29 : List ROp := [⟨some 118,.build [Value.slice none 0 0,Value.bool false,Value.int .i64 0] [],[],none⟩,
 ⟨none,.store 3 true (.tmp 2) (.tmp 118),[],none⟩,
 ⟨some 3,.copy true (.const (.int .i64 71)),[],none⟩]
def F17r30 : List ROp := [⟨some 119,.copy true (.tmp 8),[],none⟩,
 ⟨some 120,.copy false (.tmp 4),[],none⟩,
 ⟨some 121,.iad 3 (.tmp 120) (.const (.int .i64 0)),[],none⟩,
 ⟨some 122,.fad 0 (.tmp 121),[],none⟩,
 ⟨some 123,.load 1 false false (.tmp 122),[],none⟩,
 ⟨some 124,.app 9 1 16 (.tmp 119) (.tmp 123),[],none⟩,
 ⟨some 8,.copy true (.tmp 124),[],none⟩]
def F17r31 : List ROp := [⟨some 125,.fad 0 (.tmp 1),[],none⟩,
 ⟨some 126,.load 1 false false (.tmp 125),[],none⟩,
 ⟨some 127,.bin .eql (.tmp 126) (.const (.int .u8 6)),[],none⟩,
 ⟨some 128,.copy false (.tmp 127),[],none⟩,
 ⟨some 129,.copy false (.tmp 8),[],some (128,true)⟩,
 ⟨some 130,.fad 2 (.tmp 1),[],some (128,true)⟩,
 ⟨some 131,.load 1 false false (.tmp 130),[],some (128,true)⟩,
 ⟨some 132,.call (.func 34) [.tmp 129,.tmp 131],[],some (128,true)⟩,
 ⟨some 133,.bin .lss (.tmp 132) (.const (.int .i64 0)),[],some (128,true)⟩,
 ⟨some 134,.pick (.tmp 128) (.tmp 133) (.const (.bool false)),[],none⟩]
def F17r32 : List ROp := [⟨some 135,.copy true (.tmp 8),[],none⟩,
 ⟨some 136,.fad 2 (.tmp 1),[],none⟩,
 ⟨some 137,.load 1 false false (.tmp 136),[],none⟩,
 ⟨some 138,.bslice 9 1 [Value.string ByteArray.empty] 1 [(0,.tmp 137)],[],none⟩,
 ⟨some 139,.app 9 1 16 (.tmp 135) (.tmp 138),[],none⟩,
 ⟨some 8,.copy true (.tmp 139),[],none⟩]
def F17r33 : List ROp := [⟨some 140,.fad 0 (.tmp 1),[],none⟩,
 ⟨some 141,.load 1 false false (.tmp 140),[],none⟩,
 ⟨some 142,.bin .eql (.tmp 141) (.const (.int .u8 7)),[],none⟩,
 ⟨some 143,.copy false (.tmp 142),[],none⟩,
 ⟨some 144,.fad 0 (.tmp 1),[],some (143,false)⟩,
 ⟨some 145,.load 1 false false (.tmp 144),[],some (143,false)⟩,
 ⟨some 146,.bin .eql (.tmp 145) (.const (.int .u8 8)),[],some (143,false)⟩,
 ⟨some 147,.pick (.tmp 143) (.const (.bool true)) (.tmp 146),[],none⟩]
def F17r34 : List ROp := [⟨some 148,.fad 3 (.tmp 1),[],none⟩,
 ⟨some 149,.load 1 false false (.tmp 148),[],none⟩,
 ⟨some 150,.len 0 (.tmp 149),[],none⟩,
 ⟨some 151,.build [Value.slice none 0 0,Value.bool false,Value.int .i64 0] [(1,1,.const (.bool true)),(2,1,.tmp 150)],[],none⟩,
 ⟨none,.store 3 true (.tmp 2) (.tmp 151),[],none⟩,
 ⟨some 3,.copy true (.const (.int .i64 0)),[],none⟩]
def F17r35 : List ROp := [⟨some 152,.copy false (.tmp 8),[],none⟩,
 ⟨some 153,.copy false (.tmp 8),[],none⟩,
 ⟨some 154,.len 0 (.tmp 153),[],none⟩,
 ⟨some 155,.build [Value.slice none 0 0,Value.bool false,Value.int .i64 0] [(0,1,.tmp 152),(2,1,.tmp 154)],[],none⟩,
 ⟨none,.store 3 true (.tmp 2) (.tmp 155),[],none⟩,
 ⟨some 3,.copy true (.const (.int .i64 0)),[],none⟩]
attribute [local simp] valX encV_eq exprX encE_eq exprB
attribute [local simp] encP_eq encTR encT texts planX encS shapeX encSR encPR encER
theorem at_lt (l : List ByteArray) (s : ByteArray) : decide (fid (fun w => decide (w = s)) l 0 < 0) = !has l s := by
 have h := fid_any (fun w => decide (w = s)) l 0
 unfold has
 rw [← h]
 by_cases hh : 0 ≤ fid (fun w => decide (w = s)) l 0
 ·have : ¬ fid (fun w => decide (w = s)) l 0 < 0 := by omega
  simp [hh, this]
 ·have : fid (fun w => decide (w = s)) l 0 < 0 := by omega
  simp [hh, this]
theorem retD {g : Nat → Option Blk} {nm : AV} {names : List ByteArray} {b : Bool} {w e : Int} (h : Rsv g (dem nm) (.rd 1 (texts names))) :
  Rsv g (oneOf [.agg (List.take ((fun x => x.size) (Tryz.prog.types[48]'(by decide +kernel))) (List.drop 0 (List.map dem [nm, .val (.bool b), .val (.int .i64 w)]))), .val (.int .i64 e)]) (.tup [shapeX ⟨names, b, w⟩, ival e]) := by
 have hT : (Tryz.prog.types[48]'(by decide +kernel)).size = 3 := by kernel_rfl
 simp only [hT, oneOf]
 exact .tup (.cons (.agg (.cons h (.cons (.closed rfl) (.cons (.closed rfl) .nil)))) (.cons (.closed rfl) .nil))
set_option maxHeartbeats 4000000 in
theorem shapeD_ok : ∀ (n : Nat) (p : PlanD), psize p < n → psize p ≤ 1048576 → rangeP p → Con Tryz.prog 17 [planX p] (ShapeR p) := by
 intro n
 induction n with
 | zero => intro p h; omega
 | succ n ih =>
  intro p hn hp hr
  have hsz := psize_eq p
  have hlen := psizes_len p.ins
  rw [rangeP_eq] at hr
  have hsq := shape_eq p
  refine Con.of_code Tryz.func17 (by kernel_rfl) rfl (by simp [Tryz.ntmps17]) fun C hC hM => ?_
  refine AWp.seq ?_
  refine AWp.regK [1,2] [false,false,true] F17r0 [] (by kernel_rfl) (by rw [hC]; rfl) fun K hK => ?_
  simp (maxSteps := 2000000) [F17r0]
  refine hK _ ?_
  refine AWp.seq ?_
  refine AWp.regK [1,2,4] [true] F17r1 [] (by kernel_rfl) (by rw [hC]; rfl) fun K hK => ?_
  simp (maxSteps := 2000000) [F17r1]
  refine hK _ ?_
  refine AWp.seq ?_
  refine AWp.seq ?_
  refine AWp.regK [1,2,4,5] [true] F17r2 [] (by kernel_rfl) (by rw [hC]; rfl) fun K hK => ?_
  simp (maxSteps := 2000000) [F17r2]
  refine hK _ ?_
  refine AWp.block ?_
  obtain ⟨cur, hcur⟩ : ∃ cur : Nat → List (List AV), ∀ k, cur k = ((insOf p).take k).map encS := ⟨_, fun _ => rfl⟩
  have hc0 : cur 0 = [] := by rw [hcur]; simp
  have hcl : ∀ k, (cur k).length ≤ p.ins.length := by intro k; rw [hcur, List.length_map, List.length_take]; unfold insOf; rw [List.length_map]; omega
  refine AWp.loopG (fun k : Nat => { tm := [(1, .ptr 1 0), (2, .ptr 2 0), (4, .own 48 3 (cur k)), (5, ival k)], hp := [(1, .cells 26 (encP p)), (2, .cells 48 [.val (.slice none 0 0), bval false, ival 0])] }) (fun k => k ≤ p.ins.length ∧ ∀ q ∈ p.ins.take k, (shape q).2 = 0) (fun k => p.ins.length - k) 0 ⟨by omega, by simp⟩ (by simp [hc0]) (fun k hk => ?_)
  obtain ⟨hk, hk0⟩ := hk
  refine AWp.seq ?_
  refine AWp.seq ?_
  refine AWp.regK [1,2,4,5,16] [] F17r3 [] (by kernel_rfl) (by rw [hC]; rfl) fun K hK => ?_
  simp (maxSteps := 2000000) [F17r3]
  refine hK _ ?_
  refine AWp.cond _ (by rfl) (fun hlt => ?_) (fun hge => ?_)
  ·skip
   have hlt : k < p.ins.length := by simpa using hlt
   have hqs := psize_mem (List.getElem_mem hlt)
   have hi := ih p.ins[k] (by omega) (by omega) (rangePs_mem hr.2 _ (List.getElem_mem hlt))
   unfold ShapeR at hi
   simp only [encP_eq, planX, encS] at hi
   have hbad := shapes_bad p.ins k hlt hk0
   have hk1 : cur (k + 1) = cur k ++ [encS (shape p.ins[k]).1] := by
    rw [hcur, hcur, List.take_succ_eq_append_getElem (by unfold insOf; simpa using hlt)]
    simp [insOf]
   have htk : p.ins.take (k + 1) = p.ins.take k ++ [p.ins[k]] := List.take_succ_eq_append_getElem hlt
   have hck := hcl k
   refine AWp.skip ?_
   refine AWp.seq ?_
   refine AWp.block ?_
   refine AWp.seq ?_
   refine AWp.regK [1,2,4,5,6,7] [false,false,false,false,false,false,false,false,false,false,true,true] F17r5 [{ r := .tup [shapeX (shape p.ins[k]).1,ival (shape p.ins[k]).2] }] (by kernel_rfl) (by rw [hC]; rfl) fun K hK => ?_
   simp (maxSteps := 2000000) [F17r5, hlt]
   (repeat first | refine ⟨by first | kernel_rfl | (intros; omega) | assumption, ?_⟩ | refine ⟨by intros; exact callOK rfl hi, ?_⟩); refine hK _ ?_
   refine AWp.seq ?_
   refine AWp.seq ?_
   refine AWp.regK [1,2,4,5,6,7,29] [] F17r6 [] (by kernel_rfl) (by rw [hC]; rfl) fun K hK => ?_
   simp (maxSteps := 2000000) [F17r6]
   refine hK _ ?_
   refine AWp.cond _ (by rfl) (fun h1 => ?_) (fun h1 => ?_)
   ·skip
    have h1 : ¬ (shape p.ins[k]).2 = 0 := by simpa using h1
    rw [hbad h1] at hsq
    simp only at hsq
    rw [if_neg h1] at hsq
    refine AWp.seq ?_
    refine AWp.regK [2,3] [false,true,true,true] F17r7 [] (by kernel_rfl) (by rw [hC]; rfl) fun K hK => ?_
    simp (maxSteps := 2000000) [F17r7]
    refine hK _ ?_
    repeat refine AWp.seq ?_
    refine AWp.ret ⟨.inr rfl, _, by simp [Tryz.results17] <;> rfl, ?_⟩
    unfold ShapeR
    rw [hsq]
    exact retD .nil
   have h1 : (shape p.ins[k]).2 = 0 := by simpa using h1
   refine AWp.skip ?_
   refine AWp.regK [1,2,4,5] [true,false,false,false,true] F17r8 [] (by kernel_rfl) (by rw [hC]; rfl) fun K hK => ?_
   simp (maxSteps := 2000000) [F17r8]
   (repeat refine ⟨by first | omega | (intros; omega) | assumption, ?_⟩); refine hK _ ?_
   refine AWp.regK [1,2,4,5] [false,false,true] F17r4 [] (by kernel_rfl) (by rw [hC]; rfl) fun K hK => ?_
   simp (maxSteps := 2000000) [F17r4]
   (repeat refine ⟨by first | omega | (intros; omega) | assumption, ?_⟩); refine hK _ ?_
   refine ⟨k + 1, ⟨by omega, ?_⟩, by omega, ?_⟩
   ·rw [htk]
    intro q hq
    rcases List.mem_append.1 hq with hq | hq
    ·exact hk0 q hq
    ·rw [List.mem_singleton.1 hq]; exact h1
   ·rw [hk1]
    simp [wrap_nat k (by omega)]
  have hge : ¬ k < p.ins.length := by simpa using hge
  rw [List.take_of_length_le (by omega)] at hk0
  have hsh := shapes_ok p.ins hk0
  rw [hsh] at hsq
  simp only [if_true] at hsq
  have hcf : cur k = (insOf p).map encS := by rw [hcur, List.take_of_length_le (by unfold insOf; simp; omega)]
  rw [hcf]
  have hnl : nsum (insOf p) ≤ psizes p.ins := by have := shapes_len p.ins; rw [hsh] at this; exact this
  have hnd : ∀ s ∈ insOf p, s.names.Nodup := by
   intro s hs
   obtain ⟨q, _, rfl⟩ := List.mem_map.1 hs
   exact shape_nodup q
  have hil : (insOf p).length = p.ins.length := by unfold insOf; simp
  have hsq : shape p = own p (insOf p) := hsq
  generalize insOf p = ins at hsq hnl hnd hil ⊢
  have hform := rightD_ok p ins (by omega) (by omega) (by omega) (by have := tsizes_len p.aggs; omega)
  simp only [encP_eq, planX] at hform
  unfold ShapeR
  rw [hsq]
  unfold own
  refine AWp.exit ?_
  refine AWp.seq ?_
  refine AWp.seq ?_
  refine AWp.regK [1,2,4,39] [] F17r9 [{ r := bval (right p ins) }] (by kernel_rfl) (by rw [hC]; rfl) fun K hK => ?_
  simp (maxSteps := 2000000) [F17r9]
  (repeat first | refine ⟨by first | kernel_rfl | (intros; omega) | assumption, ?_⟩ | refine ⟨by intros; exact callWk rfl (by repeat (first | exact WkL.nil | refine WkL.cons (by first | exact Wk.refl _ | exact Wk.nil _ | exact Wk.own (WkR.refl _)) ?_)) hform, ?_⟩); refine hK _ ?_
  refine AWp.cond _ (by rfl) (fun h2 => ?_) (fun h2 => ?_)
  ·skip
   have h2 : right p ins = false := by simpa using h2
   rw [if_pos h2]
   refine AWp.seq ?_
   refine AWp.regK [2,3] [false,true,true] F17r10 [] (by kernel_rfl) (by rw [hC]; rfl) fun K hK => ?_
   simp (maxSteps := 2000000) [F17r10]
   refine hK _ ?_
   repeat refine AWp.seq ?_
   refine AWp.ret ⟨.inr rfl, _, by simp [Tryz.results17] <;> rfl, ?_⟩
   exact retD .nil
  have h2 : right p ins = true := by simpa using h2
  rw [if_neg (by rw [h2]; decide)]
  obtain ⟨k1, k9, k3, k48, kk9⟩ := right_kind h2
  have hv := VarsL_ok p.args (by omega)
  have hvl := varsDs_le p.args
  refine AWp.skip ?_
  refine AWp.seq ?_
  refine AWp.seq ?_
  refine AWp.regK [1,2,4,48] [] F17r11 [] (by kernel_rfl) (by rw [hC]; rfl) fun K hK => ?_
  simp (maxSteps := 2000000) [F17r11]
  (repeat refine ⟨by first | omega | (intros; omega) | assumption, ?_⟩); refine hK _ ?_
  refine AWp.cond _ (by rfl) (fun o4 => ?_) (fun o4 => ?_)
  ·skip
   have o4 : p.op = 4 ∨ p.op = 9 := by simpa using o4
   obtain ⟨a, r, har⟩ : ∃ a r, ins = a :: r := List.exists_cons_of_length_pos (by rcases o4 with h | h; have := k48 (by omega) (by omega); omega; exact kk9 h)
   subst har
   rw [if_pos o4]
   refine AWp.seq ?_
   refine AWp.regK [2,3] [false,false,false,true,true] F17r12 [] (by kernel_rfl) (by rw [hC]; rfl) fun K hK => ?_
   simp (maxSteps := 2000000) [F17r12]
   (repeat refine ⟨by first | omega | (intros; omega) | assumption, ?_⟩); refine hK _ ?_
   repeat refine AWp.seq ?_
   refine AWp.ret ⟨.inr rfl, _, by simp [Tryz.results17] <;> rfl, ?_⟩
   exact retD (.closed rfl)
  have o4 : ¬ (p.op = 4 ∨ p.op = 9) := by simpa using o4
  rw [if_neg o4]
  refine AWp.skip ?_
  refine AWp.seq ?_
  refine AWp.regK [1,2,4,8] [true] F17r13 [] (by kernel_rfl) (by rw [hC]; rfl) fun K hK => ?_
  simp (maxSteps := 2000000) [F17r13]
  refine hK _ ?_
  refine AWp.seq ?_
  refine AWp.seq ?_
  refine AWp.regK [1,2,4,8,54] [] F17r14 [] (by kernel_rfl) (by rw [hC]; rfl) fun K hK => ?_
  simp (maxSteps := 2000000) [F17r14]
  refine hK _ ?_
  by_cases o2 : p.op = 2
  ·skip
   refine AWp.cond true (by simp [o2]) (fun _ => ?_) (fun he => by cases he)
   have hnm : namesD p ins = varsDs [] p.args := by unfold namesD; rw [if_pos o2]
   rw [if_neg (by omega), if_neg (by omega), hnm]
   generalize varsDs [] p.args = v at hv hvl
   have hat := At_ok v p.name (by omega)
   refine AWp.regK [1,2,4,8] [false,false,false,true] F17r15 [{ r := encTR v }] (by kernel_rfl) (by rw [hC]; rfl) fun K hK => ?_
   simp (maxSteps := 2000000) [F17r15]
   (repeat first | refine ⟨by first | kernel_rfl | (intros; omega) | assumption, ?_⟩ | refine ⟨by intros; exact callOK rfl hv, ?_⟩); refine hK _ ?_
   refine AWp.seq ?_
   refine AWp.seq ?_
   refine AWp.regK [1,2,4,8,60] [] F17r16 [] (by kernel_rfl) (by rw [hC]; rfl) fun K hK => ?_
   simp (maxSteps := 2000000) [F17r16]
   refine hK _ ?_
   refine AWp.cond false (by simp [o2]) (fun he => by cases he) (fun _ => ?_)
   refine AWp.skip ?_
   refine AWp.seq ?_
   refine AWp.seq ?_
   refine AWp.regK [1,2,4,8,98] [] F17r23 [] (by kernel_rfl) (by rw [hC]; rfl) fun K hK => ?_
   simp (maxSteps := 2000000) [F17r23]
   refine hK _ ?_
   refine AWp.cond false (by simp [o2]) (fun he => by cases he) (fun _ => ?_)
   refine AWp.skip ?_
   refine AWp.seq ?_
   refine AWp.seq ?_
   refine AWp.regK [1,2,8,134] [] F17r31 [{ r := ival (fid (fun w => decide (w = p.name)) v 0) }] (by kernel_rfl) (by rw [hC]; rfl) fun K hK => ?_
   simp (maxSteps := 2000000) [F17r31]
   (repeat first | refine ⟨by first | kernel_rfl | (intros; omega) | assumption, ?_⟩ | refine ⟨fun _ => callOK rfl hat, ?_⟩); refine hK _ ?_
   refine AWp.cond false (by simp [o2]) (fun he => by cases he) (fun _ => ?_)
   refine AWp.skip ?_
   refine AWp.seq ?_
   refine AWp.seq ?_
   refine AWp.regK [1,2,8,147] [] F17r33 [] (by kernel_rfl) (by rw [hC]; rfl) fun K hK => ?_
   simp (maxSteps := 2000000) [F17r33]
   (repeat refine ⟨by first | omega | (intros; omega) | assumption, ?_⟩); refine hK _ ?_
   refine AWp.cond false (by simp [o2]) (fun he => by cases he) (fun _ => ?_)
   refine AWp.skip ?_
   refine AWp.seq ?_
   refine AWp.regK [2,3] [false,false,false,false,true,true] F17r35 [] (by kernel_rfl) (by rw [hC]; rfl) fun K hK => ?_
   simp (maxSteps := 2000000) [F17r35]
   refine hK _ ?_
   repeat refine AWp.seq ?_
   refine AWp.ret ⟨.inr rfl, _, by simp [Tryz.results17] <;> rfl, ?_⟩
   exact retD (.closed rfl)
  by_cases o3 : p.op = 3
  ·skip
   obtain ⟨a, b, hab⟩ : ∃ a b, ins = [a, b] := by
    have hl2 := k3 o3
    match ins, hl2 with
    | [a, b], _ => exact ⟨a, b, rfl⟩
   subst hab
   have hnm : namesD p [a, b] = addAll a.names b.names := by unfold namesD; rw [if_neg o2, if_pos o3]; rfl
   rw [if_neg (by omega), if_neg (by omega), hnm]
   have hna := nsum_two a b []
   obtain ⟨cn, hcn⟩ : ∃ cn : Nat → List ByteArray, ∀ k, cn k = addAll a.names (b.names.take k) := ⟨_, fun _ => rfl⟩
   have hcn0 : cn 0 = a.names := by rw [hcn]; simp [addAll]
   have hcnl : ∀ k, (cn k).length ≤ a.names.length + b.names.length := by
    intro k
    have h1 := addAll_len (b.names.take k) a.names
    rw [List.length_take] at h1
    rw [hcn]; omega
   refine AWp.cond false (by simp [o3]) (fun he => by cases he) (fun _ => ?_)
   refine AWp.skip ?_
   refine AWp.seq ?_
   refine AWp.seq ?_
   refine AWp.regK [1,2,4,8,60] [] F17r16 [] (by kernel_rfl) (by rw [hC]; rfl) fun K hK => ?_
   simp (maxSteps := 2000000) [F17r16]
   refine hK _ ?_
   refine AWp.cond true (by simp [o3]) (fun _ => ?_) (fun he => by cases he)
   refine AWp.seq ?_
   refine AWp.regK [1,2,4,8] [true,false,false,false,false,false,true] F17r17 [] (by kernel_rfl) (by rw [hC]; rfl) fun K hK => ?_
   simp (maxSteps := 2000000) [F17r17]
   (repeat refine ⟨by first | omega | (intros; omega) | assumption, ?_⟩); refine hK _ ?_
   refine AWp.seq ?_
   refine AWp.regK [1,2,4,8,9] [true] F17r18 [] (by kernel_rfl) (by rw [hC]; rfl) fun K hK => ?_
   simp (maxSteps := 2000000) [F17r18]
   refine hK _ ?_
   refine AWp.block ?_
   refine AWp.loopG (fun k : Nat => { tm := [(1, .ptr 1 0), (2, .ptr 2 0), (4, .own 48 3 [encS a, encS b]), (8, .own 9 1 (texts (cn k))), (9, ival k)], hp := [(1, .cells 26 (encP p)), (2, .cells 48 [.val (.slice none 0 0), bval false, ival 0])] }) (fun k => k ≤ b.names.length) (fun k => b.names.length - k) 0 (by omega) (by simp [hcn0]) (fun k hk => ?_)
   refine AWp.seq ?_
   refine AWp.seq ?_
   refine AWp.regK [1,2,4,8,9,73] [] F17r19 [] (by kernel_rfl) (by rw [hC]; rfl) fun K hK => ?_
   simp (maxSteps := 2000000) [F17r19]
   (repeat refine ⟨by first | omega | (intros; omega) | assumption, ?_⟩); refine hK _ ?_
   refine AWp.cond _ (by rfl) (fun hlt => ?_) (fun hge => ?_)
   ·skip
    have hlt : k < b.names.length := by simpa using hlt
    have hk1 : cn (k + 1) = add (cn k) b.names[k] := by
     rw [hcn, hcn, List.take_succ_eq_append_getElem hlt, addAll_append]; rfl
    have hck := hcnl k
    have hat := At_ok (cn k) b.names[k] (by omega)
    have hal := at_lt (cn k) b.names[k]
    generalize cn k = cur at hk1 hck hat hal ⊢
    refine AWp.skip ?_
    refine AWp.seq ?_
    refine AWp.block ?_
    refine AWp.seq ?_
    refine AWp.regK [1,2,4,8,9,85] [] F17r21 [{ r := ival (fid (fun w => decide (w = b.names[k])) cur 0) }] (by kernel_rfl) (by rw [hC]; rfl) fun K hK => ?_
    simp (maxSteps := 2000000) [F17r21, hlt]
    (repeat first | refine ⟨by first | kernel_rfl | (intros; omega) | assumption, ?_⟩ | refine ⟨by intros; exact callWk rfl (by repeat (first | exact WkL.nil | refine WkL.cons (by first | exact Wk.refl _ | exact Wk.nil _ | exact Wk.own (WkR.refl _)) ?_)) hat, ?_⟩); refine hK _ ?_
    refine AWp.cond _ (by rfl) (fun h4 => ?_) (fun h4 => ?_)
    ·skip
     rw [hal] at h4
     have h4 : has cur b.names[k] = false := by simpa using h4
     have hadd : add cur b.names[k] = cur ++ [b.names[k]] := by unfold add; rw [h4]; rfl
     rw [hadd] at hk1
     refine AWp.regK [1,2,4,8,9] [true,false,false,false,false,false,false,false,false,false,true] F17r22 [] (by kernel_rfl) (by rw [hC]; rfl) fun K hK => ?_
     simp (maxSteps := 2000000) [F17r22, hlt]
     (repeat refine ⟨by first | omega | (intros; omega) | assumption, ?_⟩); refine hK _ ?_
     refine AWp.regK [1,2,4,8,9] [false,false,true] F17r20 [] (by kernel_rfl) (by rw [hC]; rfl) fun K hK => ?_
     simp (maxSteps := 2000000) [F17r20, hlt]
     (repeat refine ⟨by first | omega | (intros; omega) | assumption, ?_⟩); refine hK _ ?_
     refine ⟨k + 1, by omega, by omega, ?_⟩
     rw [hk1]
     simp [wrap_nat k (by omega)]
    rw [hal] at h4
    have h4 : has cur b.names[k] = true := by simpa using h4
    have hadd : add cur b.names[k] = cur := by unfold add; rw [h4]; rfl
    rw [hadd] at hk1
    refine AWp.skip ?_
    refine AWp.regK [1,2,4,8,9] [false,false,true] F17r20 [] (by kernel_rfl) (by rw [hC]; rfl) fun K hK => ?_
    simp (maxSteps := 2000000) [F17r20]
    (repeat refine ⟨by first | omega | (intros; omega) | assumption, ?_⟩); refine hK _ ?_
    refine ⟨k + 1, by omega, by omega, ?_⟩
    rw [hk1]
    simp [wrap_nat k (by omega)]
   have hge : ¬ k < b.names.length := by simpa using hge
   have hcf : cn k = addAll a.names b.names := by rw [hcn, List.take_of_length_le (by omega)]
   have hck := hcnl k
   rw [← hcf]
   generalize cn k = cur at hck
   have hat := At_ok cur p.name (by omega)
   refine AWp.exit ?_
   refine AWp.seq ?_
   refine AWp.seq ?_
   refine AWp.regK [1,2,4,8,98] [] F17r23 [] (by kernel_rfl) (by rw [hC]; rfl) fun K hK => ?_
   simp (maxSteps := 2000000) [F17r23]
   refine hK _ ?_
   refine AWp.cond false (by simp [o3]) (fun he => by cases he) (fun _ => ?_)
   refine AWp.skip ?_
   refine AWp.seq ?_
   refine AWp.seq ?_
   refine AWp.regK [1,2,8,134] [] F17r31 [{ r := ival (fid (fun w => decide (w = p.name)) cur 0) }] (by kernel_rfl) (by rw [hC]; rfl) fun K hK => ?_
   simp (maxSteps := 2000000) [F17r31]
   (repeat first | refine ⟨by first | kernel_rfl | (intros; omega) | assumption, ?_⟩ | refine ⟨fun _ => callWk rfl (by repeat (first | exact WkL.nil | refine WkL.cons (by first | exact Wk.refl _ | exact Wk.nil _ | exact Wk.own (WkR.refl _)) ?_)) hat, ?_⟩); refine hK _ ?_
   refine AWp.cond false (by simp [o3]) (fun he => by cases he) (fun _ => ?_)
   refine AWp.skip ?_
   refine AWp.seq ?_
   refine AWp.seq ?_
   refine AWp.regK [1,2,8,147] [] F17r33 [] (by kernel_rfl) (by rw [hC]; rfl) fun K hK => ?_
   simp (maxSteps := 2000000) [F17r33]
   (repeat refine ⟨by first | omega | (intros; omega) | assumption, ?_⟩); refine hK _ ?_
   refine AWp.cond false (by simp [o3]) (fun he => by cases he) (fun _ => ?_)
   refine AWp.skip ?_
   refine AWp.seq ?_
   refine AWp.regK [2,3] [false,false,false,false,true,true] F17r35 [] (by kernel_rfl) (by rw [hC]; rfl) fun K hK => ?_
   simp (maxSteps := 2000000) [F17r35]
   refine hK _ ?_
   repeat refine AWp.seq ?_
   refine AWp.ret ⟨.inr rfl, _, by simp [Tryz.results17] <;> rfl, ?_⟩
   exact retD (.closed rfl)
  by_cases h5 : 5 ≤ p.op
  ·skip
   obtain ⟨a, har⟩ : ∃ a, ins = [a] := List.length_eq_one_iff.1 (k48 (by omega) (by omega))
   subst har
   have hna : a.names.length ≤ psizes p.ins := by have := nsum_mem (List.mem_singleton_self a); omega
   obtain ⟨v, hve⟩ : ∃ v, v = varsDs [] p.args := ⟨_, rfl⟩
   rw [← hve] at hv hvl ⊢
   refine AWp.cond false (by simp [o2]) (fun he => by cases he) (fun _ => ?_)
   refine AWp.skip ?_
   refine AWp.seq ?_
   refine AWp.seq ?_
   refine AWp.regK [1,2,4,8,60] [] F17r16 [] (by kernel_rfl) (by rw [hC]; rfl) fun K hK => ?_
   simp (maxSteps := 2000000) [F17r16]
   refine hK _ ?_
   refine AWp.cond false (by simp [o3]) (fun he => by cases he) (fun _ => ?_)
   refine AWp.skip ?_
   refine AWp.seq ?_
   refine AWp.seq ?_
   refine AWp.regK [1,2,4,8,98] [] F17r23 [] (by kernel_rfl) (by rw [hC]; rfl) fun K hK => ?_
   simp (maxSteps := 2000000) [F17r23]
   refine hK _ ?_
   refine AWp.cond true (by simp [h5]) (fun _ => ?_) (fun he => by cases he)
   refine AWp.seq ?_
   refine AWp.regK [1,2,4,8,10] [false,false,false,true] F17r24 [{ r := encTR v }] (by kernel_rfl) (by rw [hC]; rfl) fun K hK => ?_
   simp (maxSteps := 2000000) [F17r24]
   (repeat first | refine ⟨by first | kernel_rfl | (intros; omega) | assumption, ?_⟩ | refine ⟨by intros; exact callOK rfl hv, ?_⟩); refine hK _ ?_
   refine AWp.seq ?_
   refine AWp.seq ?_
   refine AWp.regK [1,2,4,8,10,11] [true] F17r25 [] (by kernel_rfl) (by rw [hC]; rfl) fun K hK => ?_
   simp (maxSteps := 2000000) [F17r25]
   refine hK _ ?_
   refine AWp.block ?_
   obtain ⟨f, hf⟩ : ∃ f : ByteArray → Bool, f = fun s => has ([a].headD zeroS).names s := ⟨_, rfl⟩
   rw [← hf]
   refine AWp.loopG (fun k : Nat => { tm := [(1, .ptr 1 0), (2, .ptr 2 0), (4, .own 48 3 [encS a]), (8, .val (.slice none 0 0)), (10, encTR v), (11, ival k)], hp := [(1, .cells 26 (encP p)), (2, .cells 48 [.val (.slice none 0 0), bval false, ival 0])] }) (fun k => k ≤ v.length ∧ v.all f = (v.drop k).all f) (fun k => v.length - k) 0 ⟨by omega, by simp⟩ (by simp) (fun k hk => ?_)
   obtain ⟨hk1, hk2⟩ := hk
   refine AWp.seq ?_
   refine AWp.seq ?_
   refine AWp.regK [1,2,4,8,10,11,105] [] F17r26 [] (by kernel_rfl) (by rw [hC]; rfl) fun K hK => ?_
   simp (maxSteps := 2000000) [F17r26]
   refine hK _ ?_
   refine AWp.cond _ (by rfl) (fun hlt => ?_) (fun hge => ?_)
   ·skip
    have hlt : k < v.length := by simpa using hlt
    have hd : (v.drop k).all f = (f v[k] && (v.drop (k + 1)).all f) := by rw [List.drop_eq_getElem_cons hlt, List.all_cons]
    rw [hd] at hk2
    have hat := At_ok a.names v[k] (by omega)
    have hal := at_lt a.names v[k]
    have hfv : f v[k] = has a.names v[k] := by rw [hf]; rfl
    refine AWp.skip ?_
    refine AWp.seq ?_
    refine AWp.block ?_
    refine AWp.seq ?_
    refine AWp.regKL ops_mixed [[],[0],[0,1],[0,1,2],[],[],[4,5],[4,5,6],[0,1,2,3,4,5,6,7],[0,1,2,3,4,5,6,7,8]] [1,2,4,8,10,11,117] [] F17r28 [{ r := ival (fid (fun w => decide (w = v[k])) a.names 0) }] (by kernel_rfl) (by rw [hC]; rfl) (by kernel_rfl) (by kernel_rfl) fun K hK => ?_
    simp (maxSteps := 2000000) [F17r28, hlt]
    (repeat first | refine ⟨by first | kernel_rfl | (intros; omega) | assumption, ?_⟩ | refine ⟨by intros; exact callOK rfl hat, ?_⟩); refine hK _ ?_
    refine AWp.cond _ (by rfl) (fun h4 => ?_) (fun h4 => ?_)
    ·skip
     rw [hal] at h4
     have h4 : has a.names v[k] = false := by simpa using h4
     rw [hfv, h4, Bool.false_and] at hk2
     rw [if_pos ⟨h5, hk2⟩]
     refine AWp.seq ?_
     refine AWp.regK [2,3] [false,true,true] F17r29 [] (by kernel_rfl) (by rw [hC]; rfl) fun K hK => ?_
     simp (maxSteps := 2000000) [F17r29]
     refine hK _ ?_
     repeat refine AWp.seq ?_
     refine AWp.ret ⟨.inr rfl, _, by simp [Tryz.results17] <;> rfl, ?_⟩
     exact retD .nil
    rw [hal] at h4
    have h4 : has a.names v[k] = true := by simpa using h4
    rw [hfv, h4, Bool.true_and] at hk2
    refine AWp.skip ?_
    refine AWp.regK [1,2,4,8,10,11] [false,false,true] F17r27 [] (by kernel_rfl) (by rw [hC]; rfl) fun K hK => ?_
    simp (maxSteps := 2000000) [F17r27]
    (repeat refine ⟨by first | omega | (intros; omega) | assumption, ?_⟩); refine hK _ ?_
    refine ⟨k + 1, ⟨by omega, hk2⟩, by omega, ?_⟩
    simp [wrap_nat k (by omega)]
   have hge : ¬ k < v.length := by simpa using hge
   rw [List.drop_eq_nil_of_le (by omega), List.all_nil] at hk2
   rw [if_neg (by rw [hk2]; simp)]
   have hat := At_ok a.names p.name (by omega)
   have hal := at_lt a.names p.name
   refine AWp.exit ?_
   refine AWp.regK [1,2,8] [true,false,false,false,false,false,true] F17r30 [] (by kernel_rfl) (by rw [hC]; rfl) fun K hK => ?_
   simp (maxSteps := 2000000) [F17r30]
   (repeat refine ⟨by first | omega | (intros; omega) | assumption, ?_⟩); refine hK _ ?_
   refine AWp.seq ?_
   refine AWp.seq ?_
   refine AWp.regK [1,2,8,134] [] F17r31 [{ r := ival (fid (fun w => decide (w = p.name)) a.names 0) }] (by kernel_rfl) (by rw [hC]; rfl) fun K hK => ?_
   simp (maxSteps := 2000000) [F17r31]
   (repeat first | refine ⟨by first | kernel_rfl | (intros; omega) | assumption, ?_⟩ | refine ⟨fun _ => callWk rfl (by repeat (first | exact WkL.nil | refine WkL.cons (by first | exact Wk.refl _ | exact Wk.nil _ | exact Wk.own (WkR.refl _)) ?_)) hat, ?_⟩); refine hK _ ?_
   refine AWp.cond _ (by rfl) (fun h7 => ?_) (fun h7 => ?_)
   ·skip
    rw [hal] at h7
    have h7 : p.op = 6 ∧ has a.names p.name = false := by simpa using h7
    have hnm : namesD p [a] = a.names ++ [p.name] := by
     unfold namesD
     rw [if_neg (by omega), if_neg (by omega), if_pos h7.1]
     unfold add
     rw [if_neg (by show ¬ has a.names p.name = true; rw [h7.2]; decide)]; rfl
    rw [if_neg (by omega), hnm]
    refine AWp.regK [1,2,8] [true,false,false,false,false,true] F17r32 [] (by kernel_rfl) (by rw [hC]; rfl) fun K hK => ?_
    simp (maxSteps := 2000000) [F17r32]
    (repeat refine ⟨by first | omega | (intros; omega) | assumption, ?_⟩); refine hK _ ?_
    refine AWp.seq ?_
    refine AWp.seq ?_
    refine AWp.regK [1,2,8,147] [] F17r33 [] (by kernel_rfl) (by rw [hC]; rfl) fun K hK => ?_
    simp (maxSteps := 2000000) [F17r33]
    (repeat refine ⟨by first | omega | (intros; omega) | assumption, ?_⟩); refine hK _ ?_
    refine AWp.cond false (by simp [h7.1]) (fun he => by cases he) (fun _ => ?_)
    refine AWp.skip ?_
    refine AWp.seq ?_
    refine AWp.regK [2,3] [false,false,false,false,true,true] F17r35 [] (by kernel_rfl) (by rw [hC]; rfl) fun K hK => ?_
    simp (maxSteps := 2000000) [F17r35]
    refine hK _ ?_
    repeat refine AWp.seq ?_
    refine AWp.ret ⟨.inr rfl, _, by simp [Tryz.results17] <;> rfl, ?_⟩
    have e1 : List.map encT a.names ++ [[AV.val (.string p.name)]] = texts (a.names ++ [p.name]) := by simp
    have e2 : ((a.names ++ [p.name]).length : Int) = (a.names.length : Int) + 1 := by simp
    rw [e1]
    simp only [e2]
    exact retD (.closed rfl)
   rw [hal] at h7
   have h7 : ¬ (p.op = 6 ∧ has a.names p.name = false) := by simpa using h7
   refine AWp.skip ?_
   refine AWp.seq ?_
   refine AWp.seq ?_
   refine AWp.regK [1,2,8,147] [] F17r33 [] (by kernel_rfl) (by rw [hC]; rfl) fun K hK => ?_
   simp (maxSteps := 2000000) [F17r33]
   (repeat refine ⟨by first | omega | (intros; omega) | assumption, ?_⟩); refine hK _ ?_
   refine AWp.cond _ (by rfl) (fun h8 => ?_) (fun h8 => ?_)
   ·skip
    have h8 : p.op = 7 ∨ p.op = 8 := by simpa using h8
    rw [if_pos h8]
    refine AWp.seq ?_
    refine AWp.regK [2,3] [false,false,false,false,true,true] F17r34 [] (by kernel_rfl) (by rw [hC]; rfl) fun K hK => ?_
    simp (maxSteps := 2000000) [F17r34]
    refine hK _ ?_
    repeat refine AWp.seq ?_
    refine AWp.ret ⟨.inr rfl, _, by simp [Tryz.results17] <;> rfl, ?_⟩
    exact retD .nil
   have h8 : ¬ (p.op = 7 ∨ p.op = 8) := by simpa using h8
   rw [if_neg h8]
   have hnm : namesD p [a] = a.names := by
    unfold namesD
    rw [if_neg (by omega), if_neg (by omega)]
    by_cases h9 : p.op = 6
    ·rw [if_pos h9]
     unfold add
     rw [if_pos (by show has a.names p.name = true; cases hh : has a.names p.name <;> simp_all)]
     rfl
    ·rw [if_neg h9, if_pos h5]; rfl
   rw [hnm]
   refine AWp.skip ?_
   refine AWp.seq ?_
   refine AWp.regK [2,3] [false,false,false,false,true,true] F17r35 [] (by kernel_rfl) (by rw [hC]; rfl) fun K hK => ?_
   simp (maxSteps := 2000000) [F17r35]
   refine hK _ ?_
   repeat refine AWp.seq ?_
   refine AWp.ret ⟨.inr rfl, _, by simp [Tryz.results17] <;> rfl, ?_⟩
   exact retD (.closed rfl)
  have o1 : p.op = 1 := by omega
  have hnm : namesD p ins = [] := by unfold namesD; rw [if_neg (by omega), if_neg (by omega), if_neg (by omega), if_neg (by omega)]
  rw [if_neg (by omega), if_neg (by omega), hnm]
  have hat := At_ok [] p.name (by simp)
  refine AWp.cond false (by simp [o1]) (fun he => by cases he) (fun _ => ?_)
  refine AWp.skip ?_
  refine AWp.seq ?_
  refine AWp.seq ?_
  refine AWp.regK [1,2,4,8,60] [] F17r16 [] (by kernel_rfl) (by rw [hC]; rfl) fun K hK => ?_
  simp (maxSteps := 2000000) [F17r16]
  refine hK _ ?_
  refine AWp.cond false (by simp [o1]) (fun he => by cases he) (fun _ => ?_)
  refine AWp.skip ?_
  refine AWp.seq ?_
  refine AWp.seq ?_
  refine AWp.regK [1,2,4,8,98] [] F17r23 [] (by kernel_rfl) (by rw [hC]; rfl) fun K hK => ?_
  simp (maxSteps := 2000000) [F17r23]
  refine hK _ ?_
  refine AWp.cond false (by simp [o1]) (fun he => by cases he) (fun _ => ?_)
  refine AWp.skip ?_
  refine AWp.seq ?_
  refine AWp.seq ?_
  refine AWp.regK [1,2,8,134] [] F17r31 [{ r := ival (fid (fun w => decide (w = p.name)) [] 0) }] (by kernel_rfl) (by rw [hC]; rfl) fun K hK => ?_
  simp (maxSteps := 2000000) [F17r31]
  (repeat first | refine ⟨by first | kernel_rfl | (intros; omega) | assumption, ?_⟩ | refine ⟨fun _ => callWk rfl (by repeat (first | exact WkL.nil | refine WkL.cons (by first | exact Wk.refl _ | exact Wk.nil _ | exact Wk.own (WkR.refl _)) ?_)) hat, ?_⟩); refine hK _ ?_
  refine AWp.cond false (by simp [o1]) (fun he => by cases he) (fun _ => ?_)
  refine AWp.skip ?_
  refine AWp.seq ?_
  refine AWp.seq ?_
  refine AWp.regK [1,2,8,147] [] F17r33 [] (by kernel_rfl) (by rw [hC]; rfl) fun K hK => ?_
  simp (maxSteps := 2000000) [F17r33]
  (repeat refine ⟨by first | omega | (intros; omega) | assumption, ?_⟩); refine hK _ ?_
  refine AWp.cond false (by simp [o1]) (fun he => by cases he) (fun _ => ?_)
  refine AWp.skip ?_
  refine AWp.seq ?_
  refine AWp.regK [2,3] [false,false,false,false,true,true] F17r35 [] (by kernel_rfl) (by rw [hC]; rfl) fun K hK => ?_
  simp (maxSteps := 2000000) [F17r35]
  refine hK _ ?_
  repeat refine AWp.seq ?_
  refine AWp.ret ⟨.inr rfl, _, by simp [Tryz.results17] <;> rfl, ?_⟩
  exact retD .nil
end Go.Al
