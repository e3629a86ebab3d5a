/- The program: has a plan what its operator has? -/
import Derived.Test.YtdobngcdgkallaaGreatDoorAlX
import Derived.Test.YtdobngcdgkallaaGreatDoorAlK
set_option linter.unusedSimpArgs false
set_option linter.unusedVariables false
set_option linter.unusedSectionVars false
open Go Go.Aw Go.Proofs
namespace Go.Al
set_option maxRecDepth 20000
-- function 38: corollary/algebra.has
def F38r0 : List ROp := [⟨some 2,.copy true (.const (.int .i64 0)),[],none⟩,
 ⟨some 3,.copy true (.const (.bool false)),[],none⟩,
 ⟨some 4,.copy true (.const (.bool false)),[],none⟩,
 ⟨some 5,.copy true (.const (.bool false)),[],none⟩,
 ⟨some 6,.copy true (.const (.bool false)),[],none⟩]
def F38r1 : List ROp := [⟨some 7,.copy false (.tmp 0),[],none⟩]
def F38r2 : List ROp := [⟨some 9,.bin .eql (.tmp 7) (.const (.int .u8 2)),[],none⟩,
 ⟨some 8,.copy true (.tmp 9),[],none⟩]
def F38r3 : List ROp := [⟨some 2,.copy true (.const (.int .i64 0)),[],none⟩,
 ⟨some 3,.copy true (.const (.bool true)),[],none⟩,
 ⟨some 4,.copy true (.const (.bool false)),[],none⟩,
 ⟨some 5,.copy true (.const (.bool true)),[],none⟩,
 ⟨some 6,.copy true (.const (.bool false)),[],none⟩]
def F38r4 : List ROp := [⟨some 11,.bin .eql (.tmp 7) (.const (.int .u8 3)),[],none⟩,
 ⟨some 10,.copy true (.tmp 11),[],none⟩]
def F38r5 : List ROp := [⟨some 2,.copy true (.const (.int .i64 2)),[],none⟩,
 ⟨some 3,.copy true (.const (.bool false)),[],none⟩,
 ⟨some 4,.copy true (.const (.bool false)),[],none⟩,
 ⟨some 5,.copy true (.const (.bool false)),[],none⟩,
 ⟨some 6,.copy true (.const (.bool false)),[],none⟩]
def F38r6 : List ROp := [⟨some 13,.bin .eql (.tmp 7) (.const (.int .u8 4)),[],none⟩,
 ⟨some 12,.copy true (.tmp 13),[],none⟩]
def F38r7 : List ROp := [⟨some 2,.copy true (.const (.int .i64 1)),[],none⟩,
 ⟨some 3,.copy true (.const (.bool true)),[],none⟩,
 ⟨some 4,.copy true (.const (.bool false)),[],none⟩,
 ⟨some 5,.copy true (.const (.bool true)),[],none⟩,
 ⟨some 6,.copy true (.const (.bool false)),[],none⟩]
def F38r8 : List ROp := [⟨some 15,.bin .eql (.tmp 7) (.const (.int .u8 5)),[],none⟩,
 ⟨some 14,.copy true (.tmp 15),[],none⟩]
def F38r9 : List ROp := [⟨some 16,.bin .eql (.tmp 7) (.const (.int .u8 7)),[],none⟩,
 ⟨some 14,.copy true (.tmp 16),[],none⟩]
def F38r10 : List ROp := [⟨some 2,.copy true (.const (.int .i64 1)),[],none⟩,
 ⟨some 3,.copy true (.const (.bool false)),[],none⟩,
 ⟨some 4,.copy true (.const (.bool false)),[],none⟩,
 ⟨some 5,.copy true (.const (.bool true)),[],none⟩,
 ⟨some 6,.copy true (.const (.bool false)),[],none⟩]
def F38r11 : List ROp := [⟨some 18,.bin .eql (.tmp 7) (.const (.int .u8 6)),[],none⟩,
 ⟨some 17,.copy true (.tmp 18),[],none⟩]
def F38r12 : List ROp := [⟨some 2,.copy true (.const (.int .i64 1)),[],none⟩,
 ⟨some 3,.copy true (.const (.bool false)),[],none⟩,
 ⟨some 4,.copy true (.const (.bool true)),[],none⟩,
 ⟨some 5,.copy true (.const (.bool true)),[],none⟩,
 ⟨some 6,.copy true (.const (.bool false)),[],none⟩]
def F38r13 : List ROp := [⟨some 20,.bin .eql (.tmp 7) (.const (.int .u8 8)),[],none⟩,
 ⟨some 19,.copy true (.tmp 20),[],none⟩]
def F38r14 : List ROp := [⟨some 2,.copy true (.const (.int .i64 1)),[],none⟩,
 ⟨some 3,.copy true (.const (.bool false)),[],none⟩,
 ⟨some 4,.copy true (.const (.bool false)),[],none⟩,
 ⟨some 5,.copy true (.const (.bool true)),[],none⟩,
 ⟨some 6,.copy true (.const (.bool true)),[],none⟩]
def F38r15 : List ROp := [⟨some 22,.bin .eql (.tmp 7) (.const (.int .u8 9)),[],none⟩,
 ⟨some 21,.copy true (.tmp 22),[],none⟩]
def F38r16 : List ROp := [⟨some 2,.copy true (.const (.int .i64 (-1))),[],none⟩,
 ⟨some 3,.copy true (.const (.bool false)),[],none⟩,
 ⟨some 4,.copy true (.const (.bool false)),[],none⟩,
 ⟨some 5,.copy true (.const (.bool false)),[],none⟩,
 ⟨some 6,.copy true (.const (.bool false)),[],none⟩]
def F38r17 : List ROp := [⟨some 2,.copy true (.const (.int .i64 0)),[],none⟩,
 ⟨some 3,.copy true (.const (.bool false)),[],none⟩,
 ⟨some 4,.copy true (.const (.bool false)),[],none⟩,
 ⟨some 5,.copy true (.const (.bool false)),[],none⟩,
 ⟨some 6,.copy true (.const (.bool false)),[],none⟩]
-- function 40: corollary/algebra.form$1
def F40r0 : List ROp := [⟨some 2,.copy true (.const (.bool false)),[],none⟩]
def F40r1 : List ROp := [⟨some 3,.bslice 9 1 [Value.string ByteArray.empty] 5 [(0,.const (.string { data := #[] })),(1,.const (.string { data := #[99,111,117,110,116] })),(2,.const (.string { data := #[115,117,109] })),(3,.const (.string { data := #[109,105,110] })),(4,.const (.string { data := #[109,97,120] }))],[],none⟩,
 ⟨some 4,.copy false (.tmp 0),[],none⟩,
 ⟨some 5,.call (.func 28) [.tmp 3,.tmp 4],[],none⟩,
 ⟨some 6,.un .not (.tmp 5),[],none⟩,
 ⟨some 2,.copy true (.tmp 6),[],none⟩]
-- function 42: corollary/algebra.form$2
def F42r0 : List ROp := [⟨some 3,.box 42 (.tmp 0),[],none⟩,
 ⟨some 4,.copy true (.const (.bool false)),[],none⟩]
def F42r1 : List ROp := [⟨some 5,.fad 1 (.tmp 3),[],none⟩,
 ⟨some 6,.load 1 false false (.tmp 5),[0],none⟩,
 ⟨some 7,.fad 0 (.tmp 1),[],none⟩,
 ⟨some 8,.load 1 false false (.tmp 7),[2],none⟩,
 ⟨some 9,.bin .eql (.tmp 8) (.const (.int .u8 9)),[3],none⟩,
 ⟨some 10,.eqb true (.tmp 6) (.tmp 9),[1,4],none⟩,
 ⟨some 11,.copy false (.tmp 10),[5],none⟩,
 ⟨some 12,.fad 2 (.tmp 3),[6],some (11,false)⟩,
 ⟨some 13,.load 1 false false (.tmp 12),[7,6],some (11,false)⟩,
 ⟨some 14,.load 1 false false (.tmp 2),[6],some (11,false)⟩,
 ⟨some 15,.iad 3 (.tmp 14) (.const (.int .i64 0)),[9,6],some (11,false)⟩,
 ⟨some 16,.fad 2 (.tmp 15),[10,6],some (11,false)⟩,
 ⟨some 17,.load 1 false false (.tmp 16),[11,6],some (11,false)⟩,
 ⟨some 18,.bin .neq (.tmp 13) (.tmp 17),[8,12,6],some (11,false)⟩,
 ⟨some 19,.copy false (.tmp 18),[13,6,6],some (11,false)⟩,
 ⟨some 20,.fad 0 (.tmp 1),[14],some (19,true)⟩,
 ⟨some 21,.load 1 false false (.tmp 20),[15,14],some (19,true)⟩,
 ⟨some 22,.bin .eql (.tmp 21) (.const (.int .u8 9)),[16,14],some (19,true)⟩,
 ⟨some 23,.pick (.tmp 19) (.tmp 22) (.const (.bool false)),[14,17,6],some (11,false)⟩,
 ⟨some 24,.pick (.tmp 11) (.const (.bool true)) (.tmp 23),[6,18],none⟩,
 ⟨some 4,.copy true (.tmp 24),[19,14,0,1,2,3,4,5,6,7,8,9,10,11,12,13,14,15,16,17,18,19],none⟩]
-- function 26: corollary/algebra.form
def F26r0 : List ROp := [⟨some 2,.box 33 (.tmp 0),[],none⟩,
 ⟨some 3,.box 65 (.tmp 1),[],none⟩,
 ⟨some 4,.copy true (.const (.bool false)),[],none⟩]
def F26r1 : List ROp := [⟨some 11,.fad 0 (.tmp 2),[],none⟩,
 ⟨some 12,.load 1 false false (.tmp 11),[],none⟩,
 ⟨some 13,.call (.func 38) [.tmp 12],[],none⟩,
 ⟨some 10,.copy false (.tmp 13),[],none⟩,
 ⟨some 14,.ext (.tmp 10) 0,[],none⟩,
 ⟨some 15,.ext (.tmp 10) 1,[],none⟩,
 ⟨some 16,.ext (.tmp 10) 2,[],none⟩,
 ⟨some 17,.ext (.tmp 10) 3,[],none⟩,
 ⟨some 18,.ext (.tmp 10) 4,[],none⟩,
 ⟨some 5,.copy true (.tmp 14),[],none⟩,
 ⟨some 6,.copy true (.tmp 15),[],none⟩,
 ⟨some 7,.copy true (.tmp 16),[],none⟩,
 ⟨some 8,.copy true (.tmp 17),[],none⟩,
 ⟨some 9,.copy true (.tmp 18),[],none⟩]
def F26r2 : List ROp := [⟨some 20,.fad 0 (.tmp 2),[],none⟩,
 ⟨some 21,.load 1 false false (.tmp 20),[],none⟩,
 ⟨some 22,.bin .lss (.tmp 21) (.const (.int .u8 1)),[],none⟩,
 ⟨some 23,.copy false (.tmp 22),[],none⟩,
 ⟨some 24,.fad 0 (.tmp 2),[],some (23,false)⟩,
 ⟨some 25,.load 1 false false (.tmp 24),[],some (23,false)⟩,
 ⟨some 26,.bin .gtr (.tmp 25) (.const (.int .u8 9)),[],some (23,false)⟩,
 ⟨some 27,.pick (.tmp 23) (.const (.bool true)) (.tmp 26),[],none⟩,
 ⟨some 28,.copy false (.tmp 27),[],none⟩,
 ⟨some 29,.copy false (.tmp 5),[],some (28,false)⟩,
 ⟨some 30,.bin .geq (.tmp 29) (.const (.int .i64 0)),[],some (28,false)⟩,
 ⟨some 31,.copy false (.tmp 30),[],some (28,false)⟩,
 ⟨some 32,.load 1 false false (.tmp 3),[],some (31,true)⟩,
 ⟨some 33,.len 0 (.tmp 32),[],some (31,true)⟩,
 ⟨some 34,.copy false (.tmp 5),[],some (31,true)⟩,
 ⟨some 35,.bin .neq (.tmp 33) (.tmp 34),[],some (31,true)⟩,
 ⟨some 36,.pick (.tmp 31) (.tmp 35) (.const (.bool false)),[],some (28,false)⟩,
 ⟨some 37,.pick (.tmp 28) (.const (.bool true)) (.tmp 36),[],none⟩,
 ⟨some 38,.copy false (.tmp 37),[],none⟩,
 ⟨some 39,.copy false (.tmp 5),[],some (38,false)⟩,
 ⟨some 40,.bin .lss (.tmp 39) (.const (.int .i64 0)),[],some (38,false)⟩,
 ⟨some 41,.copy false (.tmp 40),[],some (38,false)⟩,
 ⟨some 42,.load 1 false false (.tmp 3),[],some (41,true)⟩,
 ⟨some 43,.len 0 (.tmp 42),[],some (41,true)⟩,
 ⟨some 44,.bin .eql (.tmp 43) (.const (.int .i64 0)),[],some (41,true)⟩,
 ⟨some 45,.pick (.tmp 41) (.tmp 44) (.const (.bool false)),[],some (38,false)⟩,
 ⟨some 46,.pick (.tmp 38) (.const (.bool true)) (.tmp 45),[],none⟩,
 ⟨some 19,.copy true (.tmp 46),[],none⟩]
def F26r3 : List ROp := [⟨some 4,.copy true (.const (.bool false)),[],none⟩]
def F26r4 : List ROp := [⟨some 48,.copy false (.tmp 6),[],none⟩,
 ⟨some 49,.un .not (.tmp 48),[],none⟩,
 ⟨some 50,.copy false (.tmp 49),[],none⟩,
 ⟨some 51,.fad 1 (.tmp 2),[],some (50,true)⟩,
 ⟨some 52,.load 1 false false (.tmp 51),[],some (50,true)⟩,
 ⟨some 53,.bin .neq (.tmp 52) (.const (.string { data := #[] })),[],some (50,true)⟩,
 ⟨some 54,.pick (.tmp 50) (.tmp 53) (.const (.bool false)),[],none⟩,
 ⟨some 55,.copy false (.tmp 54),[],none⟩,
 ⟨some 56,.copy false (.tmp 7),[],some (55,false)⟩,
 ⟨some 57,.un .not (.tmp 56),[],some (55,false)⟩,
 ⟨some 58,.copy false (.tmp 57),[],some (55,false)⟩,
 ⟨some 59,.fad 2 (.tmp 2),[],some (58,true)⟩,
 ⟨some 60,.load 1 false false (.tmp 59),[],some (58,true)⟩,
 ⟨some 61,.bin .neq (.tmp 60) (.const (.string { data := #[] })),[],some (58,true)⟩,
 ⟨some 62,.pick (.tmp 58) (.tmp 61) (.const (.bool false)),[],some (55,false)⟩,
 ⟨some 63,.pick (.tmp 55) (.const (.bool true)) (.tmp 62),[],none⟩,
 ⟨some 64,.copy false (.tmp 63),[],none⟩,
 ⟨some 65,.copy false (.tmp 8),[],some (64,false)⟩,
 ⟨some 66,.un .not (.tmp 65),[],some (64,false)⟩,
 ⟨some 67,.copy false (.tmp 66),[],some (64,false)⟩,
 ⟨some 68,.fad 3 (.tmp 2),[],some (67,true)⟩,
 ⟨some 69,.load 1 false false (.tmp 68),[],some (67,true)⟩,
 ⟨some 70,.len 0 (.tmp 69),[],some (67,true)⟩,
 ⟨some 71,.bin .gtr (.tmp 70) (.const (.int .i64 0)),[],some (67,true)⟩,
 ⟨some 72,.pick (.tmp 67) (.tmp 71) (.const (.bool false)),[],some (64,false)⟩,
 ⟨some 73,.pick (.tmp 64) (.const (.bool true)) (.tmp 72),[],none⟩,
 ⟨some 74,.copy false (.tmp 73),[],none⟩,
 ⟨some 75,.copy false (.tmp 9),[],some (74,false)⟩,
 ⟨some 76,.un .not (.tmp 75),[],some (74,false)⟩,
 ⟨some 77,.copy false (.tmp 76),[],some (74,false)⟩,
 ⟨some 78,.fad 4 (.tmp 2),[],some (77,true)⟩,
 ⟨some 79,.load 1 false false (.tmp 78),[],some (77,true)⟩,
 ⟨some 80,.len 0 (.tmp 79),[],some (77,true)⟩,
 ⟨some 81,.bin .gtr (.tmp 80) (.const (.int .i64 0)),[],some (77,true)⟩,
 ⟨some 82,.pick (.tmp 77) (.tmp 81) (.const (.bool false)),[],some (74,false)⟩,
 ⟨some 83,.pick (.tmp 74) (.const (.bool true)) (.tmp 82),[],none⟩,
 ⟨some 47,.copy true (.tmp 83),[],none⟩]
def F26r5 : List ROp := [⟨some 4,.copy true (.const (.bool false)),[],none⟩]
def F26r6 : List ROp := [⟨some 85,.fad 0 (.tmp 2),[],none⟩,
 ⟨some 86,.load 1 false false (.tmp 85),[],none⟩,
 ⟨some 87,.bin .eql (.tmp 86) (.const (.int .u8 5)),[],none⟩,
 ⟨some 88,.copy false (.tmp 87),[],none⟩,
 ⟨some 89,.fad 0 (.tmp 2),[],some (88,false)⟩,
 ⟨some 90,.load 1 false false (.tmp 89),[],some (88,false)⟩,
 ⟨some 91,.bin .eql (.tmp 90) (.const (.int .u8 6)),[],some (88,false)⟩,
 ⟨some 92,.pick (.tmp 88) (.const (.bool true)) (.tmp 91),[],none⟩,
 ⟨some 93,.copy false (.tmp 92),[],none⟩,
 ⟨some 94,.fad 3 (.tmp 2),[],some (93,true)⟩,
 ⟨some 95,.load 1 false false (.tmp 94),[],some (93,true)⟩,
 ⟨some 96,.len 0 (.tmp 95),[],some (93,true)⟩,
 ⟨some 97,.bin .neq (.tmp 96) (.const (.int .i64 1)),[],some (93,true)⟩,
 ⟨some 98,.pick (.tmp 93) (.tmp 97) (.const (.bool false)),[],none⟩,
 ⟨some 99,.copy false (.tmp 98),[],none⟩,
 ⟨some 100,.copy false (.tmp 7),[],some (99,false)⟩,
 ⟨some 101,.copy false (.tmp 100),[],some (99,false)⟩,
 ⟨some 102,.fad 2 (.tmp 2),[],some (101,true)⟩,
 ⟨some 103,.load 1 false false (.tmp 102),[],some (101,true)⟩,
 ⟨some 104,.call (.func 39) [.tmp 103],[],some (101,true)⟩,
 ⟨some 105,.un .not (.tmp 104),[],some (101,true)⟩,
 ⟨some 106,.pick (.tmp 101) (.tmp 105) (.const (.bool false)),[],some (99,false)⟩,
 ⟨some 107,.pick (.tmp 99) (.const (.bool true)) (.tmp 106),[],none⟩,
 ⟨some 108,.copy false (.tmp 107),[],none⟩,
 ⟨some 109,.copy false (.tmp 9),[],some (108,false)⟩,
 ⟨some 110,.copy false (.tmp 109),[],some (108,false)⟩,
 ⟨some 111,.fad 4 (.tmp 2),[],some (110,true)⟩,
 ⟨some 112,.load 1 false false (.tmp 111),[],some (110,true)⟩,
 ⟨some 113,.len 0 (.tmp 112),[],some (110,true)⟩,
 ⟨some 114,.fad 3 (.tmp 2),[],some (110,true)⟩,
 ⟨some 115,.load 1 false false (.tmp 114),[],some (110,true)⟩,
 ⟨some 116,.len 0 (.tmp 115),[],some (110,true)⟩,
 ⟨some 117,.bin .neq (.tmp 113) (.tmp 116),[],some (110,true)⟩,
 ⟨some 118,.pick (.tmp 110) (.tmp 117) (.const (.bool false)),[],some (108,false)⟩,
 ⟨some 119,.pick (.tmp 108) (.const (.bool true)) (.tmp 118),[],none⟩,
 ⟨some 84,.copy true (.tmp 119),[],none⟩]
def F26r7 : List ROp := [⟨some 4,.copy true (.const (.bool false)),[],none⟩]
def F26r8 : List ROp := [⟨some 121,.fad 4 (.tmp 2),[],none⟩,
 ⟨some 122,.load 1 false false (.tmp 121),[],none⟩,
 ⟨some 123,.call (.func 30) [.tmp 122,.func 40],[],none⟩,
 ⟨some 120,.copy true (.tmp 123),[],none⟩]
def F26r9 : List ROp := [⟨some 4,.copy true (.const (.bool false)),[],none⟩]
def F26r10 : List ROp := [⟨some 125,.load 1 false false (.tmp 3),[],none⟩,
 ⟨some 126,.mkf (Go.Fn.func 42) [.tmp 2,.tmp 3],[],none⟩,
 ⟨some 127,.call (.func 41) [.tmp 125,.tmp 126],[],none⟩,
 ⟨some 124,.copy true (.tmp 127),[],none⟩]
def F26r11 : List ROp := [⟨some 4,.copy true (.const (.bool false)),[],none⟩]
def F26r12 : List ROp := [⟨some 128,.fad 3 (.tmp 2),[],none⟩,
 ⟨some 129,.load 1 false false (.tmp 128),[],none⟩,
 ⟨some 130,.fad 0 (.tmp 2),[],none⟩,
 ⟨some 131,.load 1 false false (.tmp 130),[],none⟩,
 ⟨some 132,.bin .eql (.tmp 131) (.const (.int .u8 2)),[],none⟩,
 ⟨some 133,.copy false (.tmp 132),[],none⟩,
 ⟨some 134,.fad 0 (.tmp 2),[],some (133,false)⟩,
 ⟨some 135,.load 1 false false (.tmp 134),[],some (133,false)⟩,
 ⟨some 136,.bin .eql (.tmp 135) (.const (.int .u8 4)),[],some (133,false)⟩,
 ⟨some 137,.pick (.tmp 133) (.const (.bool true)) (.tmp 136),[],none⟩,
 ⟨some 138,.call (.func 43) [.tmp 129,.tmp 137],[],none⟩,
 ⟨some 4,.copy true (.tmp 138),[],none⟩]
attribute [local simp] encP_eq encTR encT texts planX encS shapeX encSR encPR encER
def hasN (op : Int) : Int := if op = 2 then 0 else if op = 3 then 2 else if op = 4 then 1 else if op = 5 ∨ op = 7 then 1 else if op = 6 then 1 else if op = 8 then 1 else if op = 9 then -1 else 0
def hasRel (op : Int) : Bool := decide (op = 2) || decide (op = 4)
def hasName (op : Int) : Bool := decide (op = 6)
def hasArgs (op : Int) : Bool := decide (op = 2) || (decide (4 ≤ op) && decide (op ≤ 8))
def hasAggs (op : Int) : Bool := decide (op = 8)
theorem has_ok (op : Int) : Con Tryz.prog 38 [uval op] (.tup [ival (hasN op), bval (hasRel op), bval (hasName op), bval (hasArgs op), bval (hasAggs op)]) := by
 refine Con.of_code Tryz.func38 (by kernel_rfl) rfl (by simp [Tryz.ntmps38]) fun C hC hM => ?_
 refine AWp.seq ?_
 refine AWp.regK [0] [true,true,true,true,true] F38r0 [] (by kernel_rfl) (by rw [hC]; rfl) fun K hK => ?_
 simp (maxSteps := 2000000) [F38r0]
 refine hK _ ?_
 refine AWp.seq ?_
 refine AWp.seq ?_
 refine AWp.regK [7] [] F38r1 [] (by kernel_rfl) (by rw [hC]; rfl) fun K hK => ?_
 simp (maxSteps := 2000000) [F38r1]
 refine hK _ ?_
 refine AWp.block ?_
 refine AWp.seq ?_
 refine AWp.regK [7,8] [false,true] F38r2 [] (by kernel_rfl) (by rw [hC]; rfl) fun K hK => ?_
 simp (maxSteps := 2000000) [F38r2]
 refine hK _ ?_
 refine AWp.cond _ (by rfl) (fun h2 => ?_) (fun h2 => ?_)
 ·skip
  have h2 : op = 2 := by simpa using h2
  subst h2
  refine AWp.seq ?_
  refine AWp.regK [2,3,4,5,6] [true,true,true,true,true] F38r3 [] (by kernel_rfl) (by rw [hC]; rfl) fun K hK => ?_
  simp (maxSteps := 2000000) [F38r3]
  refine hK _ ?_
  repeat refine AWp.seq ?_
  refine AWp.ret ⟨.inr rfl, _, by simp [Tryz.results38] <;> rfl, ?_⟩
  exact .closed rfl
 have h2 : ¬ op = 2 := by simpa using h2
 refine AWp.seq ?_
 refine AWp.regK [7,10] [false,true] F38r4 [] (by kernel_rfl) (by rw [hC]; rfl) fun K hK => ?_
 simp (maxSteps := 2000000) [F38r4]
 refine hK _ ?_
 refine AWp.cond _ (by rfl) (fun h3 => ?_) (fun h3 => ?_)
 ·skip
  have h3 : op = 3 := by simpa using h3
  subst h3
  refine AWp.seq ?_
  refine AWp.regK [2,3,4,5,6] [true,true,true,true,true] F38r5 [] (by kernel_rfl) (by rw [hC]; rfl) fun K hK => ?_
  simp (maxSteps := 2000000) [F38r5]
  refine hK _ ?_
  repeat refine AWp.seq ?_
  refine AWp.ret ⟨.inr rfl, _, by simp [Tryz.results38] <;> rfl, ?_⟩
  exact .closed rfl
 have h3 : ¬ op = 3 := by simpa using h3
 refine AWp.seq ?_
 refine AWp.regK [7,12] [false,true] F38r6 [] (by kernel_rfl) (by rw [hC]; rfl) fun K hK => ?_
 simp (maxSteps := 2000000) [F38r6]
 refine hK _ ?_
 refine AWp.cond _ (by rfl) (fun h4 => ?_) (fun h4 => ?_)
 ·skip
  have h4 : op = 4 := by simpa using h4
  subst h4
  refine AWp.seq ?_
  refine AWp.regK [2,3,4,5,6] [true,true,true,true,true] F38r7 [] (by kernel_rfl) (by rw [hC]; rfl) fun K hK => ?_
  simp (maxSteps := 2000000) [F38r7]
  refine hK _ ?_
  repeat refine AWp.seq ?_
  refine AWp.ret ⟨.inr rfl, _, by simp [Tryz.results38] <;> rfl, ?_⟩
  exact .closed rfl
 have h4 : ¬ op = 4 := by simpa using h4
 refine AWp.seq ?_
 refine AWp.seq ?_
 refine AWp.regK [7,14] [false,true] F38r8 [] (by kernel_rfl) (by rw [hC]; rfl) fun K hK => ?_
 simp (maxSteps := 2000000) [F38r8]
 refine hK _ ?_
 by_cases h5 : op = 5
 ·subst h5
  refine AWp.cond true (by simp) (fun _ => ?_) (fun he => by cases he)
  refine AWp.skip ?_
  refine AWp.cond true (by simp) (fun _ => ?_) (fun he => by cases he)
  refine AWp.seq ?_
  refine AWp.regK [2,3,4,5,6] [true,true,true,true,true] F38r10 [] (by kernel_rfl) (by rw [hC]; rfl) fun K hK => ?_
  simp (maxSteps := 2000000) [F38r10]
  refine hK _ ?_
  repeat refine AWp.seq ?_
  refine AWp.ret ⟨.inr rfl, _, by simp [Tryz.results38] <;> rfl, ?_⟩
  exact .closed rfl
 by_cases h7 : op = 7
 ·subst h7
  refine AWp.cond false (by simp) (fun he => by cases he) (fun _ => ?_)
  refine AWp.regK [7,14] [false,true] F38r9 [] (by kernel_rfl) (by rw [hC]; rfl) fun K hK => ?_
  simp (maxSteps := 2000000) [F38r9]
  refine hK _ ?_
  refine AWp.cond true (by simp) (fun _ => ?_) (fun he => by cases he)
  refine AWp.seq ?_
  refine AWp.regK [2,3,4,5,6] [true,true,true,true,true] F38r10 [] (by kernel_rfl) (by rw [hC]; rfl) fun K hK => ?_
  simp (maxSteps := 2000000) [F38r10]
  refine hK _ ?_
  repeat refine AWp.seq ?_
  refine AWp.ret ⟨.inr rfl, _, by simp [Tryz.results38] <;> rfl, ?_⟩
  exact .closed rfl
 refine AWp.cond _ (by rfl) (fun h55 => ?_) (fun h55 => ?_)
 ·simp at h55; exact absurd h55 h5
 refine AWp.regK [7,14] [false,true] F38r9 [] (by kernel_rfl) (by rw [hC]; rfl) fun K hK => ?_
 simp (maxSteps := 2000000) [F38r9]
 refine hK _ ?_
 refine AWp.cond _ (by rfl) (fun h77 => ?_) (fun h77 => ?_)
 ·simp at h77; exact absurd h77 h7
 refine AWp.seq ?_
 refine AWp.regK [7,17] [false,true] F38r11 [] (by kernel_rfl) (by rw [hC]; rfl) fun K hK => ?_
 simp (maxSteps := 2000000) [F38r11]
 refine hK _ ?_
 refine AWp.cond _ (by rfl) (fun h6 => ?_) (fun h6 => ?_)
 ·skip
  have h6 : op = 6 := by simpa using h6
  subst h6
  refine AWp.seq ?_
  refine AWp.regK [2,3,4,5,6] [true,true,true,true,true] F38r12 [] (by kernel_rfl) (by rw [hC]; rfl) fun K hK => ?_
  simp (maxSteps := 2000000) [F38r12]
  refine hK _ ?_
  repeat refine AWp.seq ?_
  refine AWp.ret ⟨.inr rfl, _, by simp [Tryz.results38] <;> rfl, ?_⟩
  exact .closed rfl
 have h6 : ¬ op = 6 := by simpa using h6
 refine AWp.seq ?_
 refine AWp.regK [7,19] [false,true] F38r13 [] (by kernel_rfl) (by rw [hC]; rfl) fun K hK => ?_
 simp (maxSteps := 2000000) [F38r13]
 refine hK _ ?_
 refine AWp.cond _ (by rfl) (fun h8 => ?_) (fun h8 => ?_)
 ·skip
  have h8 : op = 8 := by simpa using h8
  subst h8
  refine AWp.seq ?_
  refine AWp.regK [2,3,4,5,6] [true,true,true,true,true] F38r14 [] (by kernel_rfl) (by rw [hC]; rfl) fun K hK => ?_
  simp (maxSteps := 2000000) [F38r14]
  refine hK _ ?_
  repeat refine AWp.seq ?_
  refine AWp.ret ⟨.inr rfl, _, by simp [Tryz.results38] <;> rfl, ?_⟩
  exact .closed rfl
 have h8 : ¬ op = 8 := by simpa using h8
 refine AWp.seq ?_
 refine AWp.regK [21] [false,true] F38r15 [] (by kernel_rfl) (by rw [hC]; rfl) fun K hK => ?_
 simp (maxSteps := 2000000) [F38r15]
 refine hK _ ?_
 refine AWp.cond _ (by rfl) (fun h9 => ?_) (fun h9 => ?_)
 ·skip
  have h9 : op = 9 := by simpa using h9
  subst h9
  refine AWp.seq ?_
  refine AWp.regK [2,3,4,5,6] [true,true,true,true,true] F38r16 [] (by kernel_rfl) (by rw [hC]; rfl) fun K hK => ?_
  simp (maxSteps := 2000000) [F38r16]
  refine hK _ ?_
  repeat refine AWp.seq ?_
  refine AWp.ret ⟨.inr rfl, _, by simp [Tryz.results38] <;> rfl, ?_⟩
  exact .closed rfl
 have h9 : ¬ op = 9 := by simpa using h9
 refine AWp.skip ?_
 refine AWp.seq ?_
 refine AWp.regK [2,3,4,5,6] [true,true,true,true,true] F38r17 [] (by kernel_rfl) (by rw [hC]; rfl) fun K hK => ?_
 simp (maxSteps := 2000000) [F38r17]
 refine hK _ ?_
 repeat refine AWp.seq ?_
 refine AWp.ret ⟨.inr rfl, _, by simp [Tryz.results38] <;> rfl, ?_⟩
 refine .clos ?_ rfl
 have e1 : hasN op = 0 := by unfold hasN; simp [h2, h3, h4, h5, h6, h7, h8, h9]
 have e2 : hasRel op = false := by unfold hasRel; simp [h2, h4]
 have e3 : hasName op = false := by unfold hasName; simp [h6]
 have e4 : hasArgs op = false := by unfold hasArgs; simp [h2]; omega
 have e5 : hasAggs op = false := by unfold hasAggs; simp [h8]
 rw [e1, e2, e3, e4, e5]; rfl
theorem has_agg (s : ByteArray) : has [⟨#[]⟩, tCount, tSum, tMin, tMax] s = aggOk s := by
 simp only [has, aggOk, List.any_cons, List.any_nil, Bool.or_false, Bool.or_assoc]
 have e : ∀ a b : ByteArray, decide (a = b) = decide (b = a) := fun a b => decide_eq_decide.2 ⟨Eq.symm, Eq.symm⟩
 rw [e ⟨#[]⟩ s, e tCount s, e tSum s, e tMin s, e tMax s]
theorem form1_ok (s : ByteArray) : Con Tryz.prog 40 [sval s] (bval (!aggOk s)) := by
 have h1 := Contains_t [⟨#[]⟩, tCount, tSum, tMin, tMax] s (by decide)
 refine Con.of_code Tryz.func40 (by kernel_rfl) rfl (by simp [Tryz.ntmps40]) fun C hC hM => ?_
 refine AWp.seq ?_
 refine AWp.regK [0] [true] F40r0 [] (by kernel_rfl) (by rw [hC]; rfl) fun K hK => ?_
 simp (maxSteps := 2000000) [F40r0]
 refine hK _ ?_
 refine AWp.seq ?_
 refine AWp.regK [2] [false,false,false,false,true] F40r1 [{ r := bval (has [⟨#[]⟩,tCount,tSum,tMin,tMax] s) }] (by kernel_rfl) (by rw [hC]; rfl) fun K hK => ?_
 simp (maxSteps := 2000000) [F40r1]
 (repeat first | refine ⟨by first | kernel_rfl | (intros; omega) | assumption, ?_⟩ | refine ⟨by intros; exact callWk rfl (by repeat (first | exact WkL.nil | refine WkL.cons (by first | exact Wk.refl _ | exact Wk.nil _ | exact Wk.own (WkR.refl _)) ?_)) h1, ?_⟩); refine hK _ ?_
 repeat refine AWp.seq ?_
 refine AWp.ret ⟨.inr rfl, _, by simp [Tryz.results40] <;> rfl, ?_⟩
 refine .clos ?_ rfl
 rw [has_agg]; rfl
theorem form2_bool : ∀ a1 a2 a3 : Bool, (a1 && (!a2 && a3) || !a1) = !(a1 && (!a3 || a2)) := by decide
theorem parts_bool : ∀ r a n b g c h d : Bool,
  ((!r && !a) || (r || a) && (!n && !b) || (r || a) && (!r && !a || (n || b)) && (!g && !c) ||
   (r || a) && (!r && !a || (n || b)) && (!r && !a || (r || a) && (!n && !b) || (g || c)) && (!h && !d)) =
  !((r || a) && (n || b) && (g || c) && (h || d)) := by decide
theorem args_bool : ∀ f x o n v g e : Bool,
  ((f || x) && !o || (!f && !x || o) && (n && !v) || (!f && !x || o) && ((f || x) && !o || (!n || v)) && (g && !e)) =
  !((!(f || x) || o) && (!n || v) && (!g || e)) := by decide
theorem form2_ok (p : PlanD) (ins : List ShapeD) (x : ShapeD) (hx : x ∈ ins) : Con Tryz.prog 42 [shapeX x, .elt 6 [encP p] 0 0, .elt 1 [[encSR ins]] 0 0] (bval (!((x.bare == decide (p.op = 9)) && (!decide (p.op = 9) || decide (x.width = (ins.headD zeroS).width))))) := by
 have hne : 0 < ins.length := List.length_pos_of_mem hx
 obtain ⟨a, r, hins⟩ : ∃ a r, ins = a :: r := List.exists_cons_of_length_pos hne
 subst hins
 refine Con.of_code Tryz.func42 (by kernel_rfl) rfl (by simp [Tryz.ntmps42]) fun C hC hM => ?_
 refine AWp.seq ?_
 refine AWp.regK [1,2,3] [false,true] F42r0 [] (by kernel_rfl) (by rw [hC]; rfl) fun K hK => ?_
 simp (maxSteps := 2000000) [F42r0]
 refine hK _ ?_
 refine AWp.seq ?_
 refine AWp.regKL ops_mixed [[],[0],[],[2],[2,3],[0,1,2,3,4],[0,1,2,3,4,5],[0,1,2,3,4,5,6],[0,1,2,3,4,5,6,7],[0,1,2,3,4,5,6],[0,1,2,3,4,5,6,9],[0,1,2,3,4,5,6,9,10],[0,1,2,3,4,5,6,9,10,11],[0,1,2,3,4,5,6,7,8,9,10,11,12],[0,1,2,3,4,5,6,7,8,9,10,11,12,13],[0,1,2,3,4,5,6,7,8,9,10,11,12,13,14],[0,1,2,3,4,5,6,7,8,9,10,11,12,13,14,15],[0,1,2,3,4,5,6,7,8,9,10,11,12,13,14,15,16],[0,1,2,3,4,5,6,7,8,9,10,11,12,13,14,15,16,17],[0,1,2,3,4,5,6,7,8,9,10,11,12,13,14,15,16,17,18],[0,1,2,3,4,5,6,7,8,9,10,11,12,13,14,15,16,17,18,19]] [4] [false,false,false,false,false,false,false,false,false,false,false,false,false,false,false,false,false,false,false,false,true] F42r1 [] (by kernel_rfl) (by rw [hC]; rfl) (by kernel_rfl) (by kernel_rfl) fun K hK => ?_
 simp (maxSteps := 2000000) [F42r1]
 (repeat refine ⟨by first | omega | (intros; omega) | assumption, ?_⟩); first | refine hK _ ?_ | refine ⟨by kernel_rfl, hK _ ?_⟩
 repeat refine AWp.seq ?_
 refine AWp.ret ⟨.inr rfl, _, by simp [Tryz.results42] <;> rfl, ?_⟩
 refine .clos ?_ rfl
 have e : (x.bare == decide (p.op = 9)) = decide (x.bare = decide (p.op = 9)) := by
  rw [Bool.eq_iff_iff]; simp
 rw [e]
 simp only [List.headD_cons, oneOf, bval]
 rw [form2_bool]
 rfl
theorem Con.clo0 {P : Program} {f g : FuncId} {x r : AV} (h : Con P f [x, .clo (.func g) []] r) : Con P f [x, .val (.func (.func g) #[] #[])] r :=
 ⟨h.1, fun fz w vs hF hG hvs => h.2 fz w vs hF hG (by
  simp only [HoldsL, Holds] at hvs ⊢
  obtain ⟨v, r1, e1, e2, v2, r2, e3, rfl, rfl⟩ := hvs
  exact ⟨v, r1, e1, e2, _, [], e3, ⟨#[], rfl, rfl⟩, rfl⟩)⟩
theorem kind_prog (o : Int) (n : Nat) :
  (decide (o < 1) || decide (9 < o) ||
    decide (1 ≤ o) && decide (o ≤ 9) && (decide (0 ≤ hasN o) && !decide ((n : Int) = hasN o)) ||
   !decide (o < 1) && !decide (9 < o) &&
     (!decide (1 ≤ o) || !decide (o ≤ 9) || (!decide (0 ≤ hasN o) || decide ((n : Int) = hasN o))) &&
    (decide (hasN o < 0) && decide (n = 0))) = !(decide (1 ≤ o) && decide (o ≤ 9) && (if o = 9 then decide (0 < n) else decide ((n : Int) = nIn o))) := by
 by_cases h1 : o < 1
 ·have : ¬ 1 ≤ o := by omega
  simp [h1, this]
 by_cases h9 : 9 < o
 ·have : ¬ o ≤ 9 := by omega
  simp [h9, this]
 have h1' : 1 ≤ o := by omega
 have h9' : o ≤ 9 := by omega
 rcases (by omega : o = 1 ∨ o = 2 ∨ o = 3 ∨ o = 4 ∨ o = 5 ∨ o = 6 ∨ o = 7 ∨ o = 8 ∨ o = 9) with rfl | rfl | rfl | rfl | rfl | rfl | rfl | rfl | rfl <;> simp [hasN, nIn]
 all_goals (rcases Nat.eq_zero_or_pos n with h | h <;> simp [h] <;> omega)
theorem formP_ok (p : PlanD) (ins : List ShapeD) (hp : esizes p.args ≤ 4194304) (hr : rangeEs p.args) (hn : p.name.size ≤ 1048576) (hil : ins.length ≤ 4194304) (hal : p.aggs.length ≤ 4194304) :
  Con Tryz.prog 26 [planX p, encSR ins] (bval (right p ins)) := by
 have hh := has_ok p.op
 have hv := variable_ok p.name hn
 have ha := fun b => all_ok b p.args hr hp
 refine Con.of_code Tryz.func26 (by kernel_rfl) rfl (by simp [Tryz.ntmps26]) fun C hC hM => ?_
 refine AWp.seq ?_
 refine AWp.regK [2,3] [false,false,true] F26r0 [] (by kernel_rfl) (by rw [hC]; rfl) fun K hK => ?_
 simp (maxSteps := 2000000) [F26r0]
 refine hK _ ?_
 refine AWp.seq ?_
 refine AWp.regK [2,3,5,6,7,8,9] [false,false,false,false,false,false,false,false,false,true,true,true,true,true] F26r1 [{ r := .tup [ival (hasN p.op),bval (hasRel p.op),bval (hasName p.op),bval (hasArgs p.op),bval (hasAggs p.op)] }] (by kernel_rfl) (by rw [hC]; rfl) fun K hK => ?_
 simp (maxSteps := 2000000) [F26r1]
 (repeat first | refine ⟨by first | kernel_rfl | (intros; omega) | assumption, ?_⟩ | refine ⟨by intros; exact callOK rfl hh, ?_⟩); refine hK _ ?_
 have h1f := Con.clo0 (ContainsFuncT_ok p.aggs hal 40 [] rfl (fun s => !aggOk s) (fun s _ => form1_ok s))
 have h2f := ContainsFuncS_ok ins hil 42 [.elt 6 [encP p] 0 0, .elt 1 [[encSR ins]] 0 0] rfl (fun x => !((x.bare == decide (p.op = 9)) && (!decide (p.op = 9) || decide (x.width = (ins.headD zeroS).width)))) (fun x hx => form2_ok p ins x hx)
 have ei : decide (ins = []) = decide (ins.length = 0) := decide_eq_decide.2 List.length_eq_zero_iff.symm
 have el : decide ((p.aggs.length : Int) = (p.args.length : Int)) = decide (p.aggs.length = p.args.length) := decide_eq_decide.2 (by omega)
 have ep : ∀ n : Nat, decide (0 < n) = !decide (n = 0) := fun n => by by_cases h : n = 0 <;> simp [h]; omega
 refine AWp.seq ?_
 refine AWp.block ?_
 refine AWp.seq ?_
 refine AWp.regK [2,3,6,7,8,9,19] [false,false,false,false,false,false,false,false,false,false,false,false,false,false,false,false,false,false,false,false,false,false,false,false,false,false,false,true] F26r2 [] (by kernel_rfl) (by rw [hC]; rfl) fun K hK => ?_
 simp (maxSteps := 2000000) [F26r2]
 (repeat refine ⟨by first | omega | (intros; omega) | assumption, ?_⟩); refine hK _ ?_
 refine AWp.cond _ (by rfl) (fun h1 => ?_) (fun h1 => ?_)
 ·skip
  rw [ei, kind_prog] at h1
  have hk : kindOk p ins.length = false := by
   have h : (!kindOk p ins.length) = true := h1
   simpa using h
  refine AWp.seq ?_
  refine AWp.regK [4] [true] F26r3 [] (by kernel_rfl) (by rw [hC]; rfl) fun K hK => ?_
  simp (maxSteps := 2000000) [F26r3]
  refine hK _ ?_
  repeat refine AWp.seq ?_
  refine AWp.ret ⟨.inr rfl, _, by simp [Tryz.results26] <;> rfl, ?_⟩
  refine .clos ?_ rfl
  unfold right; rw [hk]; rfl
 rw [ei, kind_prog] at h1
 have hk : kindOk p ins.length = true := by
  have h : (!kindOk p ins.length) = false := h1
  simpa using h
 refine AWp.seq ?_
 refine AWp.regK [2,3,7,9,47] [false,false,false,false,false,false,false,false,false,false,false,false,false,false,false,false,false,false,false,false,false,false,false,false,false,false,false,false,false,false,false,false,false,false,false,false,true] F26r4 [] (by kernel_rfl) (by rw [hC]; rfl) fun K hK => ?_
 simp (maxSteps := 2000000) [F26r4]
 (repeat refine ⟨by first | omega | (intros; omega) | assumption, ?_⟩); refine hK _ ?_
 refine AWp.cond _ (by rfl) (fun h2 => ?_) (fun h2 => ?_)
 ·skip
  simp only [ep] at h2
  simp only [Bool.not_not] at h2
  rw [parts_bool] at h2
  have hk2 : partsOk p = false := by
   have h : (!partsOk p) = true := h2
   simpa using h
  refine AWp.seq ?_
  refine AWp.regK [4] [true] F26r5 [] (by kernel_rfl) (by rw [hC]; rfl) fun K hK => ?_
  simp (maxSteps := 2000000) [F26r5]
  refine hK _ ?_
  repeat refine AWp.seq ?_
  refine AWp.ret ⟨.inr rfl, _, by simp [Tryz.results26] <;> rfl, ?_⟩
  refine .clos ?_ rfl
  unfold right; rw [hk, hk2]; rfl
 simp only [ep] at h2
 simp only [Bool.not_not] at h2
 rw [parts_bool] at h2
 have hk2 : partsOk p = true := by
  have h : (!partsOk p) = false := h2
  simpa using h
 refine AWp.seq ?_
 refine AWp.regK [2,3,84] [false,false,false,false,false,false,false,false,false,false,false,false,false,false,false,false,false,false,false,false,false,false,false,false,false,false,false,false,false,false,false,false,false,false,false,true] F26r6 [{ r := bval (varB p.name) }] (by kernel_rfl) (by rw [hC]; rfl) fun K hK => ?_
 simp (maxSteps := 2000000) [F26r6]
 (repeat first | refine ⟨by first | kernel_rfl | (intros; omega) | assumption, ?_⟩ | refine ⟨by intros; exact callOK rfl hv, ?_⟩); refine hK _ ?_
 refine AWp.cond _ (by rfl) (fun h3 => ?_) (fun h3 => ?_)
 ·skip
  rw [el, args_bool] at h3
  have hk3 : argsOk p = false := by
   have h : (!argsOk p) = true := h3
   simpa using h
  refine AWp.seq ?_
  refine AWp.regK [4] [true] F26r7 [] (by kernel_rfl) (by rw [hC]; rfl) fun K hK => ?_
  simp (maxSteps := 2000000) [F26r7]
  refine hK _ ?_
  repeat refine AWp.seq ?_
  refine AWp.ret ⟨.inr rfl, _, by simp [Tryz.results26] <;> rfl, ?_⟩
  refine .clos ?_ rfl
  unfold right; rw [hk, hk2, hk3]; rfl
 rw [el, args_bool] at h3
 have hk3 : argsOk p = true := by
  have h : (!argsOk p) = false := h3
  simpa using h
 refine AWp.seq ?_
 refine AWp.regK [2,3,120] [false,false,false,true] F26r8 [{ r := bval (p.aggs.any fun s => !aggOk s) }] (by kernel_rfl) (by rw [hC]; rfl) fun K hK => ?_
 simp (maxSteps := 2000000) [F26r8]
 (repeat first | refine ⟨by first | kernel_rfl | (intros; omega) | assumption, ?_⟩ | refine ⟨by intros; exact callOK rfl h1f, ?_⟩); refine hK _ ?_
 refine AWp.cond _ (by rfl) (fun h4 => ?_) (fun h4 => ?_)
 ·skip
  rw [← List.not_all_eq_any_not] at h4
  have hk4 : p.aggs.all aggOk = false := by simpa using h4
  refine AWp.seq ?_
  refine AWp.regK [4] [true] F26r9 [] (by kernel_rfl) (by rw [hC]; rfl) fun K hK => ?_
  simp (maxSteps := 2000000) [F26r9]
  refine hK _ ?_
  repeat refine AWp.seq ?_
  refine AWp.ret ⟨.inr rfl, _, by simp [Tryz.results26] <;> rfl, ?_⟩
  refine .clos ?_ rfl
  unfold right; rw [hk, hk2, hk3, hk4]; rfl
 rw [← List.not_all_eq_any_not] at h4
 have hk4 : p.aggs.all aggOk = true := by simpa using h4
 simp only [encP_eq] at h2f
 obtain ⟨B, hB⟩ : ∃ B, B = ins.any fun x => !((x.bare == decide (p.op = 9)) && (!decide (p.op = 9) || decide (x.width = (ins.headD zeroS).width))) := ⟨_, rfl⟩
 rw [← hB] at h2f
 refine AWp.seq ?_
 refine AWp.regK [2,124] [false,false,false,true] F26r10 [{ r := bval B,us := [2,3] }] (by kernel_rfl) (by rw [hC]; rfl) fun K hK => ?_
 simp (maxSteps := 2000000) [F26r10]
 (repeat first | refine ⟨by first | kernel_rfl | (intros; omega) | assumption, ?_⟩ | refine ⟨by intros; exact ⟨_, .cons (.closed rfl) (.cons (.clo (.cons (.ptr rfl (.closed rfl)) (.cons (.ptr rfl (.closed rfl)) .nil))) .nil), h2f⟩, ?_⟩); refine hK _ ?_
 refine AWp.cond _ (by rfl) (fun h5 => ?_) (fun h5 => ?_)
 ·skip
  rw [hB, ← List.not_all_eq_any_not] at h5
  have hk5 : inOk p ins = false := by
   have h : (!inOk p ins) = true := h5
   simpa using h
  refine AWp.seq ?_
  refine AWp.regK [4] [true] F26r11 [] (by kernel_rfl) (by rw [hC]; rfl) fun K hK => ?_
  simp (maxSteps := 2000000) [F26r11]
  refine hK _ ?_
  repeat refine AWp.seq ?_
  refine AWp.ret ⟨.inr rfl, _, by simp [Tryz.results26] <;> rfl, ?_⟩
  refine .clos ?_ rfl
  unfold right; rw [hk, hk2, hk3, hk4, hk5]; rfl
 rw [hB, ← List.not_all_eq_any_not] at h5
 have hk5 : inOk p ins = true := by
  have h : (!inOk p ins) = false := h5
  simpa using h
 refine AWp.skip ?_
 refine AWp.seq ?_
 refine AWp.regK [4] [false,false,false,false,false,false,false,false,false,false,false,true] F26r12 [{ r := bval (p.args.all (may (patOp p.op))) }] (by kernel_rfl) (by rw [hC]; rfl) fun K hK => ?_
 simp (maxSteps := 2000000) [F26r12]
 (repeat first | refine ⟨by first | kernel_rfl | (intros; omega) | assumption, ?_⟩ | refine ⟨by intros; exact callOK rfl (ha (patOp p.op)), ?_⟩); refine hK _ ?_
 repeat refine AWp.seq ?_
 refine AWp.ret ⟨.inr rfl, _, by simp [Tryz.results26] <;> rfl, ?_⟩
 refine .clos ?_ rfl
 unfold right; rw [hk, hk2, hk3, hk4, hk5]; rfl
end Go.Al
