/- The document: has a plan what its operator has? -/
import Derived.Test.YtdobngcdgkallaaGreatDoorAlZb
import Derived.Test.YtdobngcdgkallaaGreatDoorAlN
set_option linter.unusedSimpArgs false
set_option linter.unusedVariables false
set_option linter.unusedSectionVars false
open Go Go.Aw Go.Proofs
namespace Go.Al
set_option maxRecDepth 20000
-- function 46: corollary/corollaryref19.only
def F46r0 : List ROp := [⟨some 2,.box 26 (.tmp 0),[],none⟩,
 ⟨some 4,.copy true (.const (.bool false)),[],none⟩]
def F46r1 : List ROp := [⟨some 5,.copy true (.const (.bool false)),[],none⟩,
 ⟨some 6,.copy true (.const (.bool false)),[],none⟩,
 ⟨some 7,.copy true (.const (.bool false)),[],none⟩,
 ⟨some 8,.copy true (.const (.bool false)),[],none⟩]
def F46r2 : List ROp := [⟨some 9,.copy true (.const (.int .i64 0)),[],none⟩]
def F46r3 : List ROp := [⟨some 10,.copy false (.tmp 9),[],none⟩,
 ⟨some 11,.copy false (.tmp 1),[],none⟩,
 ⟨some 12,.len 1 (.tmp 11),[],none⟩,
 ⟨some 13,.bin .lss (.tmp 10) (.tmp 12),[],none⟩]
def F46r4 : List ROp := [⟨some 14,.copy false (.tmp 9),[],none⟩,
 ⟨some 15,.bin .add (.tmp 14) (.const (.int .i64 1)),[],none⟩,
 ⟨some 9,.copy true (.tmp 15),[],none⟩]
def F46r5 : List ROp := [⟨some 16,.copy false (.tmp 5),[],none⟩,
 ⟨some 17,.copy false (.tmp 16),[],none⟩,
 ⟨some 18,.copy false (.tmp 1),[],some (17,false)⟩,
 ⟨some 19,.copy false (.tmp 9),[],some (17,false)⟩,
 ⟨some 20,.idxs (.tmp 18) (.tmp 19),[],some (17,false)⟩,
 ⟨some 21,.bin .eql (.tmp 20) (.const (.int .u8 114)),[],some (17,false)⟩,
 ⟨some 22,.pick (.tmp 17) (.const (.bool true)) (.tmp 21),[],none⟩,
 ⟨some 5,.copy true (.tmp 22),[],none⟩]
def F46r6 : List ROp := [⟨some 23,.copy false (.tmp 6),[],none⟩,
 ⟨some 24,.copy false (.tmp 23),[],none⟩,
 ⟨some 25,.copy false (.tmp 1),[],some (24,false)⟩,
 ⟨some 26,.copy false (.tmp 9),[],some (24,false)⟩,
 ⟨some 27,.idxs (.tmp 25) (.tmp 26),[],some (24,false)⟩,
 ⟨some 28,.bin .eql (.tmp 27) (.const (.int .u8 110)),[],some (24,false)⟩,
 ⟨some 29,.pick (.tmp 24) (.const (.bool true)) (.tmp 28),[],none⟩,
 ⟨some 6,.copy true (.tmp 29),[],none⟩]
def F46r7 : List ROp := [⟨some 30,.copy false (.tmp 7),[],none⟩,
 ⟨some 31,.copy false (.tmp 30),[],none⟩,
 ⟨some 32,.copy false (.tmp 1),[],some (31,false)⟩,
 ⟨some 33,.copy false (.tmp 9),[],some (31,false)⟩,
 ⟨some 34,.idxs (.tmp 32) (.tmp 33),[],some (31,false)⟩,
 ⟨some 35,.bin .eql (.tmp 34) (.const (.int .u8 97)),[],some (31,false)⟩,
 ⟨some 36,.pick (.tmp 31) (.const (.bool true)) (.tmp 35),[],none⟩,
 ⟨some 7,.copy true (.tmp 36),[],none⟩]
def F46r8 : List ROp := [⟨some 37,.copy false (.tmp 8),[],none⟩,
 ⟨some 38,.copy false (.tmp 37),[],none⟩,
 ⟨some 39,.copy false (.tmp 1),[],some (38,false)⟩,
 ⟨some 40,.copy false (.tmp 9),[],some (38,false)⟩,
 ⟨some 41,.idxs (.tmp 39) (.tmp 40),[],some (38,false)⟩,
 ⟨some 42,.bin .eql (.tmp 41) (.const (.int .u8 103)),[],some (38,false)⟩,
 ⟨some 43,.pick (.tmp 38) (.const (.bool true)) (.tmp 42),[],none⟩,
 ⟨some 8,.copy true (.tmp 43),[],none⟩]
def F46r9 : List ROp := [⟨some 44,.copy false (.tmp 5),[],none⟩,
 ⟨some 45,.copy false (.tmp 44),[],none⟩,
 ⟨some 46,.fad 1 (.tmp 2),[],some (45,false)⟩,
 ⟨some 47,.load 1 false false (.tmp 46),[],some (45,false)⟩,
 ⟨some 48,.bin .eql (.tmp 47) (.const (.string { data := #[] })),[],some (45,false)⟩,
 ⟨some 49,.pick (.tmp 45) (.const (.bool true)) (.tmp 48),[],none⟩,
 ⟨some 50,.copy false (.tmp 49),[],none⟩,
 ⟨some 51,.copy false (.tmp 6),[],some (50,true)⟩,
 ⟨some 52,.copy false (.tmp 51),[],some (50,true)⟩,
 ⟨some 53,.fad 2 (.tmp 2),[],some (52,false)⟩,
 ⟨some 54,.load 1 false false (.tmp 53),[],some (52,false)⟩,
 ⟨some 55,.bin .eql (.tmp 54) (.const (.string { data := #[] })),[],some (52,false)⟩,
 ⟨some 56,.pick (.tmp 52) (.const (.bool true)) (.tmp 55),[],some (50,true)⟩,
 ⟨some 57,.pick (.tmp 50) (.tmp 56) (.const (.bool false)),[],none⟩,
 ⟨some 58,.copy false (.tmp 57),[],none⟩,
 ⟨some 59,.copy false (.tmp 7),[],some (58,true)⟩,
 ⟨some 60,.copy false (.tmp 59),[],some (58,true)⟩,
 ⟨some 61,.fad 3 (.tmp 2),[],some (60,false)⟩,
 ⟨some 62,.load 1 false false (.tmp 61),[],some (60,false)⟩,
 ⟨some 63,.len 0 (.tmp 62),[],some (60,false)⟩,
 ⟨some 64,.bin .eql (.tmp 63) (.const (.int .i64 0)),[],some (60,false)⟩,
 ⟨some 65,.pick (.tmp 60) (.const (.bool true)) (.tmp 64),[],some (58,true)⟩,
 ⟨some 66,.pick (.tmp 58) (.tmp 65) (.const (.bool false)),[],none⟩,
 ⟨some 67,.copy false (.tmp 66),[],none⟩,
 ⟨some 68,.copy false (.tmp 8),[],some (67,true)⟩,
 ⟨some 69,.copy false (.tmp 68),[],some (67,true)⟩,
 ⟨some 70,.fad 4 (.tmp 2),[],some (69,false)⟩,
 ⟨some 71,.load 1 false false (.tmp 70),[],some (69,false)⟩,
 ⟨some 72,.len 0 (.tmp 71),[],some (69,false)⟩,
 ⟨some 73,.bin .eql (.tmp 72) (.const (.int .i64 0)),[],some (69,false)⟩,
 ⟨some 74,.pick (.tmp 69) (.const (.bool true)) (.tmp 73),[],some (67,true)⟩,
 ⟨some 75,.pick (.tmp 67) (.tmp 74) (.const (.bool false)),[],none⟩,
 ⟨some 4,.copy true (.tmp 75),[],none⟩]
-- function 32: corollary/corollaryref19.right
def F32r0 : List ROp := [⟨some 2,.box 26 (.tmp 0),[],none⟩,
 ⟨some 4,.copy true (.const (.bool false)),[],none⟩]
def F32r1 : List ROp := [⟨some 10,.bslice 3 1 [Value.int .i64 0] 10 [(0,.const (.int .i64 (-1))),(1,.const (.int .i64 0)),(2,.const (.int .i64 0)),(3,.const (.int .i64 2)),(4,.const (.int .i64 1)),(5,.const (.int .i64 1)),(6,.const (.int .i64 1)),(7,.const (.int .i64 1)),(8,.const (.int .i64 1)),(9,.const (.int .i64 (-1)))],[],none⟩,
 ⟨some 5,.copy true (.tmp 10),[],none⟩]
def F32r2 : List ROp := [⟨some 11,.bslice 9 1 [Value.string ByteArray.empty] 10 [(0,.const (.string { data := #[] })),(1,.const (.string { data := #[] })),(2,.const (.string { data := #[114,97] })),(3,.const (.string { data := #[] })),(4,.const (.string { data := #[114,97] })),(5,.const (.string { data := #[97] })),(6,.const (.string { data := #[110,97] })),(7,.const (.string { data := #[97] })),(8,.const (.string { data := #[97,103] })),(9,.const (.string { data := #[] }))],[],none⟩,
 ⟨some 6,.copy true (.tmp 11),[],none⟩]
def F32r3 : List ROp := [⟨some 12,.fad 0 (.tmp 2),[],none⟩,
 ⟨some 13,.load 1 false false (.tmp 12),[0],none⟩,
 ⟨some 14,.bin .lss (.tmp 13) (.const (.int .u8 1)),[1],none⟩,
 ⟨some 15,.copy false (.tmp 14),[2],none⟩,
 ⟨some 16,.fad 0 (.tmp 2),[3],some (15,false)⟩,
 ⟨some 17,.load 1 false false (.tmp 16),[4,3],some (15,false)⟩,
 ⟨some 18,.bin .gtr (.tmp 17) (.const (.int .u8 9)),[5,3],some (15,false)⟩,
 ⟨some 19,.pick (.tmp 15) (.const (.bool true)) (.tmp 18),[3,6],none⟩,
 ⟨some 20,.copy false (.tmp 19),[7,3],none⟩,
 ⟨some 21,.load 6 true false (.tmp 2),[8],some (20,false)⟩,
 ⟨some 22,.copy false (.tmp 6),[8],some (20,false)⟩,
 ⟨some 23,.fad 0 (.tmp 2),[8],some (20,false)⟩,
 ⟨some 24,.load 1 false false (.tmp 23),[11,8],some (20,false)⟩,
 ⟨some 25,.iad 1 (.tmp 22) (.tmp 24),[10,12,8],some (20,false)⟩,
 ⟨some 26,.load 1 false false (.tmp 25),[13,8],some (20,false)⟩,
 ⟨some 27,.call (.func 46) [.tmp 21,.tmp 26],[9,14,8,8],some (20,false)⟩,
 ⟨some 28,.un .not (.tmp 27),[15,8],some (20,false)⟩,
 ⟨some 29,.pick (.tmp 20) (.const (.bool true)) (.tmp 28),[8,16],none⟩,
 ⟨some 30,.copy false (.tmp 29),[17,15],none⟩,
 ⟨some 31,.copy false (.tmp 5),[18],some (30,false)⟩,
 ⟨some 32,.fad 0 (.tmp 2),[18],some (30,false)⟩,
 ⟨some 33,.load 1 false false (.tmp 32),[20,18],some (30,false)⟩,
 ⟨some 34,.iad 1 (.tmp 31) (.tmp 33),[19,21,18],some (30,false)⟩,
 ⟨some 35,.load 1 false false (.tmp 34),[22,18],some (30,false)⟩,
 ⟨some 36,.bin .geq (.tmp 35) (.const (.int .i64 0)),[23,18],some (30,false)⟩,
 ⟨some 37,.copy false (.tmp 36),[24,18,18],some (30,false)⟩,
 ⟨some 38,.copy false (.tmp 1),[25],some (37,true)⟩,
 ⟨some 39,.len 0 (.tmp 38),[26,25],some (37,true)⟩,
 ⟨some 40,.copy false (.tmp 5),[25],some (37,true)⟩,
 ⟨some 41,.fad 0 (.tmp 2),[25],some (37,true)⟩,
 ⟨some 42,.load 1 false false (.tmp 41),[29,25],some (37,true)⟩,
 ⟨some 43,.iad 1 (.tmp 40) (.tmp 42),[28,30,25],some (37,true)⟩,
 ⟨some 44,.load 1 false false (.tmp 43),[31,25],some (37,true)⟩,
 ⟨some 45,.bin .neq (.tmp 39) (.tmp 44),[27,32,25],some (37,true)⟩,
 ⟨some 46,.pick (.tmp 37) (.tmp 45) (.const (.bool false)),[25,33,18],some (30,false)⟩,
 ⟨some 47,.pick (.tmp 30) (.const (.bool true)) (.tmp 46),[18,34],none⟩,
 ⟨some 48,.copy false (.tmp 47),[35,25],none⟩,
 ⟨some 49,.fad 0 (.tmp 2),[36],some (48,false)⟩,
 ⟨some 50,.load 1 false false (.tmp 49),[37,36],some (48,false)⟩,
 ⟨some 51,.bin .eql (.tmp 50) (.const (.int .u8 9)),[38,36],some (48,false)⟩,
 ⟨some 52,.copy false (.tmp 51),[39,36,36],some (48,false)⟩,
 ⟨some 53,.copy false (.tmp 1),[40],some (52,true)⟩,
 ⟨some 54,.len 0 (.tmp 53),[41,40],some (52,true)⟩,
 ⟨some 55,.bin .eql (.tmp 54) (.const (.int .i64 0)),[42,40],some (52,true)⟩,
 ⟨some 56,.pick (.tmp 52) (.tmp 55) (.const (.bool false)),[40,43,36],some (48,false)⟩,
 ⟨some 57,.pick (.tmp 48) (.const (.bool true)) (.tmp 56),[36,44],none⟩]
def F32r4 : List ROp := [⟨some 4,.copy true (.const (.bool false)),[],none⟩]
def F32r5 : List ROp := [⟨some 58,.fad 0 (.tmp 2),[],none⟩,
 ⟨some 59,.load 1 false false (.tmp 58),[],none⟩,
 ⟨some 60,.bin .eql (.tmp 59) (.const (.int .u8 5)),[],none⟩,
 ⟨some 61,.copy false (.tmp 60),[],none⟩,
 ⟨some 62,.fad 0 (.tmp 2),[],some (61,false)⟩,
 ⟨some 63,.load 1 false false (.tmp 62),[],some (61,false)⟩,
 ⟨some 64,.bin .eql (.tmp 63) (.const (.int .u8 6)),[],some (61,false)⟩,
 ⟨some 65,.pick (.tmp 61) (.const (.bool true)) (.tmp 64),[],none⟩,
 ⟨some 66,.copy false (.tmp 65),[],none⟩,
 ⟨some 67,.fad 3 (.tmp 2),[],some (66,true)⟩,
 ⟨some 68,.load 1 false false (.tmp 67),[],some (66,true)⟩,
 ⟨some 69,.len 0 (.tmp 68),[],some (66,true)⟩,
 ⟨some 70,.bin .neq (.tmp 69) (.const (.int .i64 1)),[],some (66,true)⟩,
 ⟨some 71,.pick (.tmp 66) (.tmp 70) (.const (.bool false)),[],none⟩,
 ⟨some 72,.copy false (.tmp 71),[],none⟩,
 ⟨some 73,.fad 0 (.tmp 2),[],some (72,false)⟩,
 ⟨some 74,.load 1 false false (.tmp 73),[],some (72,false)⟩,
 ⟨some 75,.bin .eql (.tmp 74) (.const (.int .u8 6)),[],some (72,false)⟩,
 ⟨some 76,.copy false (.tmp 75),[],some (72,false)⟩,
 ⟨some 77,.fad 2 (.tmp 2),[],some (76,true)⟩,
 ⟨some 78,.load 1 false false (.tmp 77),[],some (76,true)⟩,
 ⟨some 79,.call (.func 47) [.tmp 78],[],some (76,true)⟩,
 ⟨some 80,.un .not (.tmp 79),[],some (76,true)⟩,
 ⟨some 81,.pick (.tmp 76) (.tmp 80) (.const (.bool false)),[],some (72,false)⟩,
 ⟨some 82,.pick (.tmp 72) (.const (.bool true)) (.tmp 81),[],none⟩,
 ⟨some 83,.copy false (.tmp 82),[],none⟩,
 ⟨some 84,.fad 0 (.tmp 2),[],some (83,false)⟩,
 ⟨some 85,.load 1 false false (.tmp 84),[],some (83,false)⟩,
 ⟨some 86,.bin .eql (.tmp 85) (.const (.int .u8 8)),[],some (83,false)⟩,
 ⟨some 87,.copy false (.tmp 86),[],some (83,false)⟩,
 ⟨some 88,.fad 4 (.tmp 2),[],some (87,true)⟩,
 ⟨some 89,.load 1 false false (.tmp 88),[],some (87,true)⟩,
 ⟨some 90,.len 0 (.tmp 89),[],some (87,true)⟩,
 ⟨some 91,.fad 3 (.tmp 2),[],some (87,true)⟩,
 ⟨some 92,.load 1 false false (.tmp 91),[],some (87,true)⟩,
 ⟨some 93,.len 0 (.tmp 92),[],some (87,true)⟩,
 ⟨some 94,.bin .neq (.tmp 90) (.tmp 93),[],some (87,true)⟩,
 ⟨some 95,.pick (.tmp 87) (.tmp 94) (.const (.bool false)),[],some (83,false)⟩,
 ⟨some 96,.pick (.tmp 83) (.const (.bool true)) (.tmp 95),[],none⟩]
def F32r6 : List ROp := [⟨some 4,.copy true (.const (.bool false)),[],none⟩]
def F32r7 : List ROp := [⟨some 7,.copy true (.const (.int .i64 0)),[],none⟩]
def F32r8 : List ROp := [⟨some 97,.copy false (.tmp 7),[],none⟩,
 ⟨some 98,.fad 4 (.tmp 2),[],none⟩,
 ⟨some 99,.load 1 false false (.tmp 98),[],none⟩,
 ⟨some 100,.len 0 (.tmp 99),[],none⟩,
 ⟨some 101,.bin .lss (.tmp 97) (.tmp 100),[],none⟩]
def F32r9 : List ROp := [⟨some 102,.copy false (.tmp 7),[],none⟩,
 ⟨some 103,.bin .add (.tmp 102) (.const (.int .i64 1)),[],none⟩,
 ⟨some 7,.copy true (.tmp 103),[],none⟩]
def F32r10 : List ROp := [⟨some 104,.fad 4 (.tmp 2),[],none⟩,
 ⟨some 105,.load 1 false false (.tmp 104),[],none⟩,
 ⟨some 106,.copy false (.tmp 7),[],none⟩,
 ⟨some 107,.iad 1 (.tmp 105) (.tmp 106),[],none⟩,
 ⟨some 108,.load 1 false false (.tmp 107),[],none⟩,
 ⟨some 109,.bin .neq (.tmp 108) (.const (.string { data := #[] })),[],none⟩,
 ⟨some 110,.copy false (.tmp 109),[],none⟩,
 ⟨some 111,.fad 4 (.tmp 2),[],some (110,true)⟩,
 ⟨some 112,.load 1 false false (.tmp 111),[],some (110,true)⟩,
 ⟨some 113,.copy false (.tmp 7),[],some (110,true)⟩,
 ⟨some 114,.iad 1 (.tmp 112) (.tmp 113),[],some (110,true)⟩,
 ⟨some 115,.load 1 false false (.tmp 114),[],some (110,true)⟩,
 ⟨some 116,.bin .neq (.tmp 115) (.const (.string { data := #[99,111,117,110,116] })),[],some (110,true)⟩,
 ⟨some 117,.pick (.tmp 110) (.tmp 116) (.const (.bool false)),[],none⟩,
 ⟨some 118,.copy false (.tmp 117),[],none⟩,
 ⟨some 119,.fad 4 (.tmp 2),[],some (118,true)⟩,
 ⟨some 120,.load 1 false false (.tmp 119),[],some (118,true)⟩,
 ⟨some 121,.copy false (.tmp 7),[],some (118,true)⟩,
 ⟨some 122,.iad 1 (.tmp 120) (.tmp 121),[],some (118,true)⟩,
 ⟨some 123,.load 1 false false (.tmp 122),[],some (118,true)⟩,
 ⟨some 124,.bin .neq (.tmp 123) (.const (.string { data := #[115,117,109] })),[],some (118,true)⟩,
 ⟨some 125,.pick (.tmp 118) (.tmp 124) (.const (.bool false)),[],none⟩,
 ⟨some 126,.copy false (.tmp 125),[],none⟩,
 ⟨some 127,.fad 4 (.tmp 2),[],some (126,true)⟩,
 ⟨some 128,.load 1 false false (.tmp 127),[],some (126,true)⟩,
 ⟨some 129,.copy false (.tmp 7),[],some (126,true)⟩,
 ⟨some 130,.iad 1 (.tmp 128) (.tmp 129),[],some (126,true)⟩,
 ⟨some 131,.load 1 false false (.tmp 130),[],some (126,true)⟩,
 ⟨some 132,.bin .neq (.tmp 131) (.const (.string { data := #[109,105,110] })),[],some (126,true)⟩,
 ⟨some 133,.pick (.tmp 126) (.tmp 132) (.const (.bool false)),[],none⟩,
 ⟨some 134,.copy false (.tmp 133),[],none⟩,
 ⟨some 135,.fad 4 (.tmp 2),[],some (134,true)⟩,
 ⟨some 136,.load 1 false false (.tmp 135),[],some (134,true)⟩,
 ⟨some 137,.copy false (.tmp 7),[],some (134,true)⟩,
 ⟨some 138,.iad 1 (.tmp 136) (.tmp 137),[],some (134,true)⟩,
 ⟨some 139,.load 1 false false (.tmp 138),[],some (134,true)⟩,
 ⟨some 140,.bin .neq (.tmp 139) (.const (.string { data := #[109,97,120] })),[],some (134,true)⟩,
 ⟨some 141,.pick (.tmp 134) (.tmp 140) (.const (.bool false)),[],none⟩]
def F32r11 : List ROp := [⟨some 4,.copy true (.const (.bool false)),[],none⟩]
def F32r12 : List ROp := [⟨some 8,.copy true (.const (.int .i64 0)),[],none⟩]
def F32r13 : List ROp := [⟨some 142,.copy false (.tmp 8),[],none⟩,
 ⟨some 143,.copy false (.tmp 1),[],none⟩,
 ⟨some 144,.len 0 (.tmp 143),[],none⟩,
 ⟨some 145,.bin .lss (.tmp 142) (.tmp 144),[],none⟩]
def F32r14 : List ROp := [⟨some 146,.copy false (.tmp 8),[],none⟩,
 ⟨some 147,.bin .add (.tmp 146) (.const (.int .i64 1)),[],none⟩,
 ⟨some 8,.copy true (.tmp 147),[],none⟩]
def F32r15 : List ROp := [⟨some 148,.copy false (.tmp 1),[],none⟩,
 ⟨some 149,.copy false (.tmp 8),[],none⟩,
 ⟨some 150,.iad 3 (.tmp 148) (.tmp 149),[0,1],none⟩,
 ⟨some 151,.fad 1 (.tmp 150),[2],none⟩,
 ⟨some 152,.load 1 false false (.tmp 151),[3],none⟩,
 ⟨some 153,.fad 0 (.tmp 2),[],none⟩,
 ⟨some 154,.load 1 false false (.tmp 153),[5],none⟩,
 ⟨some 155,.bin .eql (.tmp 154) (.const (.int .u8 9)),[6],none⟩,
 ⟨some 156,.eqb true (.tmp 152) (.tmp 155),[4,7],none⟩,
 ⟨some 157,.copy false (.tmp 156),[8],none⟩,
 ⟨some 158,.fad 0 (.tmp 2),[9],some (157,false)⟩,
 ⟨some 159,.load 1 false false (.tmp 158),[10,9],some (157,false)⟩,
 ⟨some 160,.bin .eql (.tmp 159) (.const (.int .u8 9)),[11,9],some (157,false)⟩,
 ⟨some 161,.copy false (.tmp 160),[12,9,9],some (157,false)⟩,
 ⟨some 162,.copy false (.tmp 1),[13],some (161,true)⟩,
 ⟨some 163,.copy false (.tmp 8),[13],some (161,true)⟩,
 ⟨some 164,.iad 3 (.tmp 162) (.tmp 163),[14,15,13],some (161,true)⟩,
 ⟨some 165,.fad 2 (.tmp 164),[16,13],some (161,true)⟩,
 ⟨some 166,.load 1 false false (.tmp 165),[17,13],some (161,true)⟩,
 ⟨some 167,.copy false (.tmp 1),[13],some (161,true)⟩,
 ⟨some 168,.iad 3 (.tmp 167) (.const (.int .i64 0)),[19,13],some (161,true)⟩,
 ⟨some 169,.fad 2 (.tmp 168),[20,13],some (161,true)⟩,
 ⟨some 170,.load 1 false false (.tmp 169),[21,13],some (161,true)⟩,
 ⟨some 171,.bin .neq (.tmp 166) (.tmp 170),[18,22,13],some (161,true)⟩,
 ⟨some 172,.pick (.tmp 161) (.tmp 171) (.const (.bool false)),[13,23,9],some (157,false)⟩,
 ⟨some 173,.pick (.tmp 157) (.const (.bool true)) (.tmp 172),[9,24],none⟩]
def F32r16 : List ROp := [⟨some 4,.copy true (.const (.bool false)),[],none⟩]
def F32r17 : List ROp := [⟨some 9,.copy true (.const (.int .i64 0)),[],none⟩]
def F32r18 : List ROp := [⟨some 174,.copy false (.tmp 9),[],none⟩,
 ⟨some 175,.fad 3 (.tmp 2),[],none⟩,
 ⟨some 176,.load 1 false false (.tmp 175),[],none⟩,
 ⟨some 177,.len 0 (.tmp 176),[],none⟩,
 ⟨some 178,.bin .lss (.tmp 174) (.tmp 177),[],none⟩]
def F32r19 : List ROp := [⟨some 179,.copy false (.tmp 9),[],none⟩,
 ⟨some 180,.bin .add (.tmp 179) (.const (.int .i64 1)),[],none⟩,
 ⟨some 9,.copy true (.tmp 180),[],none⟩]
def F32r20 : List ROp := [⟨some 181,.fad 3 (.tmp 2),[],none⟩,
 ⟨some 182,.load 1 false false (.tmp 181),[0],none⟩,
 ⟨some 183,.copy false (.tmp 9),[],none⟩,
 ⟨some 184,.iad 9 (.tmp 182) (.tmp 183),[1,2],none⟩,
 ⟨some 185,.load 9 true false (.tmp 184),[3],none⟩,
 ⟨some 186,.call (.func 48) [.tmp 185],[4],none⟩,
 ⟨some 187,.bin .gtr (.tmp 186) (.const (.int .i64 64)),[5],none⟩,
 ⟨some 188,.copy false (.tmp 187),[6,5],none⟩,
 ⟨some 189,.fad 3 (.tmp 2),[7],some (188,false)⟩,
 ⟨some 190,.load 1 false false (.tmp 189),[8,7],some (188,false)⟩,
 ⟨some 191,.copy false (.tmp 9),[7],some (188,false)⟩,
 ⟨some 192,.iad 9 (.tmp 190) (.tmp 191),[9,10,7],some (188,false)⟩,
 ⟨some 193,.load 9 true false (.tmp 192),[11,7],some (188,false)⟩,
 ⟨some 194,.fad 0 (.tmp 2),[7],some (188,false)⟩,
 ⟨some 195,.load 1 false false (.tmp 194),[13,7],some (188,false)⟩,
 ⟨some 196,.bin .eql (.tmp 195) (.const (.int .u8 2)),[14,7],some (188,false)⟩,
 ⟨some 197,.copy false (.tmp 196),[15,7,7],some (188,false)⟩,
 ⟨some 198,.fad 0 (.tmp 2),[16],some (197,false)⟩,
 ⟨some 199,.load 1 false false (.tmp 198),[17,16],some (197,false)⟩,
 ⟨some 200,.bin .eql (.tmp 199) (.const (.int .u8 4)),[18,16],some (197,false)⟩,
 ⟨some 201,.pick (.tmp 197) (.const (.bool true)) (.tmp 200),[16,19,7],some (188,false)⟩,
 ⟨some 202,.call (.func 49) [.tmp 193,.tmp 201],[12,20,16,7],some (188,false)⟩,
 ⟨some 203,.un .not (.tmp 202),[21,7],some (188,false)⟩,
 ⟨some 204,.pick (.tmp 188) (.const (.bool true)) (.tmp 203),[7,22],none⟩]
def F32r21 : List ROp := [⟨some 4,.copy true (.const (.bool false)),[],none⟩]
def F32r22 : List ROp := [⟨some 4,.copy true (.const (.bool true)),[],none⟩]
attribute [local simp] valX encV_eq exprX encE_eq exprB
attribute [local simp] encP_eq encTR encT texts planX encS shapeX encSR encPR encER
def anyU (s : ByteArray) (c : Int) (k : Nat) : Bool := ((bl s).take k).any fun x => decide ((x.toNat : Int) = c)
theorem anyU_succ (s : ByteArray) (c : Int) (k : Nat) (h : k < s.size) : anyU s c (k + 1) = (anyU s c k || decide (chr s k = c)) := by
 have hb : k < (bl s).length := by rw [bl_len]; exact h
 unfold anyU
 rw [List.take_succ_eq_append_getElem hb, List.any_append, chr_eq s k hb]
 simp
def onlyB (p : PlanD) (s : ByteArray) : Bool := (anyU s 114 s.size || decide (p.rel = ⟨#[]⟩)) && (anyU s 110 s.size || decide (p.name = ⟨#[]⟩)) && (anyU s 97 s.size || decide (p.args.length = 0)) && (anyU s 103 s.size || decide (p.aggs.length = 0))
theorem only_ok (p : PlanD) (s : ByteArray) (hs : s.size ≤ 4194304) : Con Tryz.prog 46 [planX p, sval s] (bval (onlyB p s)) := by
 refine Con.of_code Tryz.func46 (by kernel_rfl) rfl (by simp [Tryz.ntmps46]) fun C hC hM => ?_
 refine AWp.seq ?_
 refine AWp.regK [1,2] [false,true] F46r0 [] (by kernel_rfl) (by rw [hC]; rfl) fun K hK => ?_
 simp (maxSteps := 2000000) [F46r0]
 refine hK _ ?_
 refine AWp.seq ?_
 refine AWp.regK [1,2,5,6,7,8] [true,true,true,true] F46r1 [] (by kernel_rfl) (by rw [hC]; rfl) fun K hK => ?_
 simp (maxSteps := 2000000) [F46r1]
 refine hK _ ?_
 refine AWp.seq ?_
 refine AWp.seq ?_
 refine AWp.regK [1,2,5,6,7,8,9] [true] F46r2 [] (by kernel_rfl) (by rw [hC]; rfl) fun K hK => ?_
 simp (maxSteps := 2000000) [F46r2]
 refine hK _ ?_
 refine AWp.block ?_
 refine AWp.loopG (fun k : Nat => { tm := [(1, sval s), (2, .ptr 2 0), (5, bval (anyU s 114 k)), (6, bval (anyU s 110 k)), (7, bval (anyU s 97 k)), (8, bval (anyU s 103 k)), (9, ival k)], hp := [(2, .cells 26 (encP p))] }) (fun k => k ≤ s.size) (fun k => s.size - k) 0 (by omega) (by simp [anyU]) (fun k hk => ?_)
 refine AWp.seq ?_
 refine AWp.seq ?_
 refine AWp.regK [1,2,5,6,7,8,9,13] [] F46r3 [] (by kernel_rfl) (by rw [hC]; rfl) fun K hK => ?_
 simp (maxSteps := 2000000) [F46r3]
 refine hK _ ?_
 refine AWp.cond _ (by rfl) (fun hlt => ?_) (fun hge => ?_)
 ·skip
  have hlt : k < s.size := by simpa using hlt
  have a1 := anyU_succ s 114 k hlt
  have a2 := anyU_succ s 110 k hlt
  have a3 := anyU_succ s 97 k hlt
  have a4 := anyU_succ s 103 k hlt
  generalize anyU s 114 k = r at a1 ⊢
  generalize anyU s 110 k = n at a2 ⊢
  generalize anyU s 97 k = a at a3 ⊢
  generalize anyU s 103 k = g at a4 ⊢
  refine AWp.skip ?_
  refine AWp.seq ?_
  refine AWp.block ?_
  refine AWp.seq ?_
  refine AWp.regK [1,2,5,6,7,8,9] [false,false,false,false,false,false,false,true] F46r5 [] (by kernel_rfl) (by rw [hC]; rfl) fun K hK => ?_
  simp (maxSteps := 2000000) [F46r5, hlt]
  (repeat refine ⟨by first | omega | (intros; omega) | (intros; exact sz_pos (by assumption)) | assumption, ?_⟩); refine hK _ ?_
  refine AWp.seq ?_
  refine AWp.regK [1,2,5,6,7,8,9] [false,false,false,false,false,false,false,true] F46r6 [] (by kernel_rfl) (by rw [hC]; rfl) fun K hK => ?_
  simp (maxSteps := 2000000) [F46r6, hlt]
  (repeat refine ⟨by first | omega | (intros; omega) | (intros; exact sz_pos (by assumption)) | assumption, ?_⟩); refine hK _ ?_
  refine AWp.seq ?_
  refine AWp.regK [1,2,5,6,7,8,9] [false,false,false,false,false,false,false,true] F46r7 [] (by kernel_rfl) (by rw [hC]; rfl) fun K hK => ?_
  simp (maxSteps := 2000000) [F46r7, hlt]
  (repeat refine ⟨by first | omega | (intros; omega) | (intros; exact sz_pos (by assumption)) | assumption, ?_⟩); refine hK _ ?_
  refine AWp.regK [1,2,5,6,7,8,9] [false,false,false,false,false,false,false,true] F46r8 [] (by kernel_rfl) (by rw [hC]; rfl) fun K hK => ?_
  simp (maxSteps := 2000000) [F46r8, hlt]
  (repeat refine ⟨by first | omega | (intros; omega) | (intros; exact sz_pos (by assumption)) | assumption, ?_⟩); refine hK _ ?_
  refine AWp.regK [1,2,5,6,7,8,9] [false,false,true] F46r4 [] (by kernel_rfl) (by rw [hC]; rfl) fun K hK => ?_
  simp (maxSteps := 2000000) [F46r4, hlt]
  (repeat refine ⟨by first | omega | (intros; omega) | assumption, ?_⟩); refine hK _ ?_
  refine ⟨k + 1, by omega, by omega, ?_⟩
  rw [a1, a2, a3, a4]
  simp [wrap_nat k (by omega)]
 have hge : ¬ k < s.size := by simpa using hge
 have hk' : k = s.size := by omega
 subst hk'
 refine AWp.exit ?_
 refine AWp.seq ?_
 refine AWp.regK [4] [false,false,false,false,false,false,false,false,false,false,false,false,false,false,false,false,false,false,false,false,false,false,false,false,false,false,false,false,false,false,false,false,true] F46r9 [] (by kernel_rfl) (by rw [hC]; rfl) fun K hK => ?_
 simp (maxSteps := 2000000) [F46r9]
 (repeat refine ⟨by first | omega | (intros; omega) | assumption, ?_⟩); refine hK _ ?_
 repeat refine AWp.seq ?_
 refine AWp.ret ⟨.inr rfl, _, by simp [Tryz.results46] <;> rfl, ?_⟩
 refine .clos ?_ rfl
 unfold onlyB
 simp [oneOf]
def inW : List Int := [-1, 0, 0, 2, 1, 1, 1, 1, 1, -1]
def paW : List ByteArray := [⟨#[]⟩, ⟨#[]⟩, ⟨#[114, 97]⟩, ⟨#[]⟩, ⟨#[114, 97]⟩, ⟨#[97]⟩, ⟨#[110, 97]⟩, ⟨#[97]⟩, ⟨#[97, 103]⟩, ⟨#[]⟩]
def encI (z : Int) : List AV := [ival z]
attribute [local simp] encI
theorem inOk_bool (x y d : Bool) (w1 w2 : Int) : ((x == y) && (!d || decide (w1 = w2))) = !(decide (x = y) && (d && !decide (w1 = w2)) || !decide (x = y)) := by
 by_cases h : w1 = w2 <;> simp only [h, decide_true, decide_false] <;> revert x y d <;> decide
theorem tab_r : ∀ i, (h : i < paW.length) → anyU paW[i] 114 paW[i].size = (decide ((i : Int) = 2) || decide ((i : Int) = 4)) := by decide +kernel
theorem tab_n : ∀ i, (h : i < paW.length) → anyU paW[i] 110 paW[i].size = decide ((i : Int) = 6) := by decide +kernel
theorem tab_a : ∀ i, (h : i < paW.length) → anyU paW[i] 97 paW[i].size = (decide ((i : Int) = 2) || (decide (4 ≤ (i : Int)) && decide ((i : Int) ≤ 8))) := by decide +kernel
theorem tab_g : ∀ i, (h : i < paW.length) → anyU paW[i] 103 paW[i].size = decide ((i : Int) = 8) := by decide +kernel
theorem tab_i : ∀ i, (h : i < inW.length) → 1 ≤ i → i ≠ 9 → inW[i] = nIn i ∧ 0 ≤ nIn i := by decide +kernel
theorem tab_9 : ∀ i, (h : i < inW.length) → i = 9 → inW[i] = -1 := by decide +kernel
theorem first_check (p : PlanD) (ins : List ShapeD) (i : Nat) (hi : p.op = i) (h1 : 1 ≤ i) (h9 : i ≤ 9) (hii : i < inW.length) (hip : i < paW.length) :
  (!onlyB p (paW[i]'hip) || decide (0 ≤ inW[i]'hii) && !decide ((ins.length : Int) = inW[i]'hii) || decide (i = 9) && decide (ins.length = 0)) = !(kindOk p ins.length && partsOk p) := by
 have ho : onlyB p paW[i] = partsOk p := by
  unfold onlyB partsOk patOp
  rw [tab_r i hip, tab_n i hip, tab_a i hip, tab_g i hip, hi]
 rw [ho]
 have hk : kindOk p ins.length = if i = 9 then decide (0 < ins.length) else decide ((ins.length : Int) = nIn i) := by
  unfold kindOk
  rw [hi]
  have e1 : decide ((1 : Int) ≤ i) = true := by simp; omega
  have e2 : decide ((i : Int) ≤ 9) = true := by simp; omega
  rw [e1, e2]
  by_cases h : i = 9
  ·subst h; rfl
  ·rw [if_neg (by omega), if_neg h]; rfl
 rw [hk]
 by_cases h : i = 9
 ·rw [tab_9 i hii h, if_pos h, decide_eq_true h]
  cases partsOk p <;> by_cases hn : ins.length = 0 <;> simp [hn]
  omega
 ·obtain ⟨e1, e2⟩ := tab_i i hii h1 h
  rw [if_neg h, decide_eq_false h, e1, decide_eq_true e2]
  cases partsOk p <;> simp
set_option maxHeartbeats 4000000 in
theorem rightD_ok (p : PlanD) (ins : List ShapeD) (hp : esizes p.args ≤ 4194304) (hn : p.name.size ≤ 1048576) (hil : ins.length ≤ 4194304) (hal : p.aggs.length ≤ 4194304) :
  Con Tryz.prog 32 [planX p, encSR ins] (bval (right p ins)) := by
 refine Con.of_code Tryz.func32 (by kernel_rfl) rfl (by simp [Tryz.ntmps32]) fun C hC hM => ?_
 refine AWp.seq ?_
 refine AWp.regK [1,2] [false,true] F32r0 [] (by kernel_rfl) (by rw [hC]; rfl) fun K hK => ?_
 simp (maxSteps := 2000000) [F32r0]
 refine hK _ ?_
 refine AWp.seq ?_
 refine AWp.regK [1,2,5] [false,true] F32r1 [] (by kernel_rfl) (by rw [hC]; rfl) fun K hK => ?_
 simp (maxSteps := 2000000) [F32r1]
 (repeat refine ⟨by first | omega | (intros; omega) | assumption, ?_⟩); refine hK _ ?_
 refine AWp.seq ?_
 refine AWp.regK [1,2,5,6] [false,true] F32r2 [] (by kernel_rfl) (by rw [hC]; rfl) fun K hK => ?_
 simp (maxSteps := 2000000) [F32r2]
 (repeat refine ⟨by first | omega | (intros; omega) | assumption, ?_⟩); refine hK _ ?_
 refine AWp.seq ?_
 refine AWp.seq ?_
 refine AWp.forget (s' := { tm := [(1, encSR ins), (2, .ptr 2 0), (5, .own 3 1 (inW.map encI)), (6, .own 9 1 (texts paW))], hp := [(2, .cells 26 (encP p))] }) (by simp [inW, paW]; exact ⟨rfl, rfl⟩) ?_
 have hil10 : inW.length = 10 := rfl
 have hpl10 : paW.length = 10 := rfl
 have hout : p.op < 1 ∨ 9 < p.op → kindOk p ins.length = false := by
  rintro (h | h)
  ·unfold kindOk; simp; omega
  ·unfold kindOk; simp; omega
 by_cases hlo : p.op < 1
 ·skip
  refine AWp.regL ops_mixed [[],[0],[0,1],[0,1,2],[0,1,2,3],[0,1,2,3,4],[0,1,2,3,4,5],[0,1,2,3,4,5,6],[0,1,2,3,4,5,6,7],[0,1,2,3,4,5,6,7,8],[0,1,2,3,4,5,6,7,8],[0,1,2,3,4,5,6,7,8],[0,1,2,3,4,5,6,7,8,11],[0,1,2,3,4,5,6,7,8,10,11,12],[0,1,2,3,4,5,6,7,8,10,11,12,13],[0,1,2,3,4,5,6,7,8,9,10,11,12,13,14],[0,1,2,3,4,5,6,7,8,9,10,11,12,13,14,15],[0,1,2,3,4,5,6,7,8,9,10,11,12,13,14,15,16],[0,1,2,3,4,5,6,7,8,9,10,11,12,13,14,15,16,17],[0,1,2,3,4,5,6,7,8,9,10,11,12,13,14,15,16,17,18],[0,1,2,3,4,5,6,7,8,9,10,11,12,13,14,15,16,17,18],[0,1,2,3,4,5,6,7,8,9,10,11,12,13,14,15,16,17,18,20],[0,1,2,3,4,5,6,7,8,9,10,11,12,13,14,15,16,17,18,19,20,21],[0,1,2,3,4,5,6,7,8,9,10,11,12,13,14,15,16,17,18,19,20,21,22],[0,1,2,3,4,5,6,7,8,9,10,11,12,13,14,15,16,17,18,19,20,21,22,23],[0,1,2,3,4,5,6,7,8,9,10,11,12,13,14,15,16,17,18,19,20,21,22,23,24],[0,1,2,3,4,5,6,7,8,9,10,11,12,13,14,15,16,17,18,19,20,21,22,23,24,25],[0,1,2,3,4,5,6,7,8,9,10,11,12,13,14,15,16,17,18,19,20,21,22,23,24,25,26],[0,1,2,3,4,5,6,7,8,9,10,11,12,13,14,15,16,17,18,19,20,21,22,23,24,25],[0,1,2,3,4,5,6,7,8,9,10,11,12,13,14,15,16,17,18,19,20,21,22,23,24,25],[0,1,2,3,4,5,6,7,8,9,10,11,12,13,14,15,16,17,18,19,20,21,22,23,24,25,29],[0,1,2,3,4,5,6,7,8,9,10,11,12,13,14,15,16,17,18,19,20,21,22,23,24,25,28,29,30],[0,1,2,3,4,5,6,7,8,9,10,11,12,13,14,15,16,17,18,19,20,21,22,23,24,25,28,29,30,31],[0,1,2,3,4,5,6,7,8,9,10,11,12,13,14,15,16,17,18,19,20,21,22,23,24,25,26,27,28,29,30,31,32],[0,1,2,3,4,5,6,7,8,9,10,11,12,13,14,15,16,17,18,19,20,21,22,23,24,25,26,27,28,29,30,31,32,33],[0,1,2,3,4,5,6,7,8,9,10,11,12,13,14,15,16,17,18,19,20,21,22,23,24,25,26,27,28,29,30,31,32,33,34],[0,1,2,3,4,5,6,7,8,9,10,11,12,13,14,15,16,17,18,19,20,21,22,23,24,25,26,27,28,29,30,31,32,33,34,35],[0,1,2,3,4,5,6,7,8,9,10,11,12,13,14,15,16,17,18,19,20,21,22,23,24,25,26,27,28,29,30,31,32,33,34,35,36],[0,1,2,3,4,5,6,7,8,9,10,11,12,13,14,15,16,17,18,19,20,21,22,23,24,25,26,27,28,29,30,31,32,33,34,35,36,37],[0,1,2,3,4,5,6,7,8,9,10,11,12,13,14,15,16,17,18,19,20,21,22,23,24,25,26,27,28,29,30,31,32,33,34,35,36,37,38],[0,1,2,3,4,5,6,7,8,9,10,11,12,13,14,15,16,17,18,19,20,21,22,23,24,25,26,27,28,29,30,31,32,33,34,35,36,37,38,39],[0,1,2,3,4,5,6,7,8,9,10,11,12,13,14,15,16,17,18,19,20,21,22,23,24,25,26,27,28,29,30,31,32,33,34,35,36,37,38,39,40],[0,1,2,3,4,5,6,7,8,9,10,11,12,13,14,15,16,17,18,19,20,21,22,23,24,25,26,27,28,29,30,31,32,33,34,35,36,37,38,39,40,41],[0,1,2,3,4,5,6,7,8,9,10,11,12,13,14,15,16,17,18,19,20,21,22,23,24,25,26,27,28,29,30,31,32,33,34,35,36,37,38,39,40,41,42],[0,1,2,3,4,5,6,7,8,9,10,11,12,13,14,15,16,17,18,19,20,21,22,23,24,25,26,27,28,29,30,31,32,33,34,35,36,37,38,39,40,41,42,43],[0,1,2,3,4,5,6,7,8,9,10,11,12,13,14,15,16,17,18,19,20,21,22,23,24,25,26,27,28,29,30,31,32,33,34,35,36,37,38,39,40,41,42,43,44]] [] F32r3 [{}] (by kernel_rfl) (by rw [hC]; rfl) rfl (by kernel_rfl) (fun K hK => ?_) (by simp [F32r3,hlo]; kernel_rfl)
  simp [F32r3, hlo]
  refine hK _ ?_
  refine AWp.cond true (by simp) (fun _ => ?_) (fun he => by cases he)
  refine AWp.seq ?_
  refine AWp.regK [4] [true] F32r4 [] (by kernel_rfl) (by rw [hC]; rfl) fun K hK => ?_
  simp (maxSteps := 2000000) [F32r4]
  refine hK _ ?_
  repeat refine AWp.seq ?_
  refine AWp.ret ⟨.inr rfl, _, by simp [Tryz.results32] <;> rfl, ?_⟩
  refine .clos ?_ rfl
  unfold right; rw [hout (.inl hlo)]; rfl
 by_cases hhi : 9 < p.op
 ·skip
  refine AWp.regL ops_mixed [[],[0],[0,1],[0,1,2],[0,1,2,3],[0,1,2,3,4],[0,1,2,3,4,5],[0,1,2,3,4,5,6],[0,1,2,3,4,5,6,7],[0,1,2,3,4,5,6,7,8],[0,1,2,3,4,5,6,7,8],[0,1,2,3,4,5,6,7,8],[0,1,2,3,4,5,6,7,8,11],[0,1,2,3,4,5,6,7,8,10,11,12],[0,1,2,3,4,5,6,7,8,10,11,12,13],[0,1,2,3,4,5,6,7,8,9,10,11,12,13,14],[0,1,2,3,4,5,6,7,8,9,10,11,12,13,14,15],[0,1,2,3,4,5,6,7,8,9,10,11,12,13,14,15,16],[0,1,2,3,4,5,6,7,8,9,10,11,12,13,14,15,16,17],[0,1,2,3,4,5,6,7,8,9,10,11,12,13,14,15,16,17,18],[0,1,2,3,4,5,6,7,8,9,10,11,12,13,14,15,16,17,18],[0,1,2,3,4,5,6,7,8,9,10,11,12,13,14,15,16,17,18,20],[0,1,2,3,4,5,6,7,8,9,10,11,12,13,14,15,16,17,18,19,20,21],[0,1,2,3,4,5,6,7,8,9,10,11,12,13,14,15,16,17,18,19,20,21,22],[0,1,2,3,4,5,6,7,8,9,10,11,12,13,14,15,16,17,18,19,20,21,22,23],[0,1,2,3,4,5,6,7,8,9,10,11,12,13,14,15,16,17,18,19,20,21,22,23,24],[0,1,2,3,4,5,6,7,8,9,10,11,12,13,14,15,16,17,18,19,20,21,22,23,24,25],[0,1,2,3,4,5,6,7,8,9,10,11,12,13,14,15,16,17,18,19,20,21,22,23,24,25,26],[0,1,2,3,4,5,6,7,8,9,10,11,12,13,14,15,16,17,18,19,20,21,22,23,24,25],[0,1,2,3,4,5,6,7,8,9,10,11,12,13,14,15,16,17,18,19,20,21,22,23,24,25],[0,1,2,3,4,5,6,7,8,9,10,11,12,13,14,15,16,17,18,19,20,21,22,23,24,25,29],[0,1,2,3,4,5,6,7,8,9,10,11,12,13,14,15,16,17,18,19,20,21,22,23,24,25,28,29,30],[0,1,2,3,4,5,6,7,8,9,10,11,12,13,14,15,16,17,18,19,20,21,22,23,24,25,28,29,30,31],[0,1,2,3,4,5,6,7,8,9,10,11,12,13,14,15,16,17,18,19,20,21,22,23,24,25,26,27,28,29,30,31,32],[0,1,2,3,4,5,6,7,8,9,10,11,12,13,14,15,16,17,18,19,20,21,22,23,24,25,26,27,28,29,30,31,32,33],[0,1,2,3,4,5,6,7,8,9,10,11,12,13,14,15,16,17,18,19,20,21,22,23,24,25,26,27,28,29,30,31,32,33,34],[0,1,2,3,4,5,6,7,8,9,10,11,12,13,14,15,16,17,18,19,20,21,22,23,24,25,26,27,28,29,30,31,32,33,34,35],[0,1,2,3,4,5,6,7,8,9,10,11,12,13,14,15,16,17,18,19,20,21,22,23,24,25,26,27,28,29,30,31,32,33,34,35,36],[0,1,2,3,4,5,6,7,8,9,10,11,12,13,14,15,16,17,18,19,20,21,22,23,24,25,26,27,28,29,30,31,32,33,34,35,36,37],[0,1,2,3,4,5,6,7,8,9,10,11,12,13,14,15,16,17,18,19,20,21,22,23,24,25,26,27,28,29,30,31,32,33,34,35,36,37,38],[0,1,2,3,4,5,6,7,8,9,10,11,12,13,14,15,16,17,18,19,20,21,22,23,24,25,26,27,28,29,30,31,32,33,34,35,36,37,38,39],[0,1,2,3,4,5,6,7,8,9,10,11,12,13,14,15,16,17,18,19,20,21,22,23,24,25,26,27,28,29,30,31,32,33,34,35,36,37,38,39,40],[0,1,2,3,4,5,6,7,8,9,10,11,12,13,14,15,16,17,18,19,20,21,22,23,24,25,26,27,28,29,30,31,32,33,34,35,36,37,38,39,40,41],[0,1,2,3,4,5,6,7,8,9,10,11,12,13,14,15,16,17,18,19,20,21,22,23,24,25,26,27,28,29,30,31,32,33,34,35,36,37,38,39,40,41,42],[0,1,2,3,4,5,6,7,8,9,10,11,12,13,14,15,16,17,18,19,20,21,22,23,24,25,26,27,28,29,30,31,32,33,34,35,36,37,38,39,40,41,42,43],[0,1,2,3,4,5,6,7,8,9,10,11,12,13,14,15,16,17,18,19,20,21,22,23,24,25,26,27,28,29,30,31,32,33,34,35,36,37,38,39,40,41,42,43,44]] [] F32r3 [{}] (by kernel_rfl) (by rw [hC]; rfl) rfl (by kernel_rfl) (fun K hK => ?_) (by simp [F32r3,hlo,hhi]; kernel_rfl)
  simp [F32r3, hlo, hhi]
  refine hK _ ?_
  refine AWp.cond true (by simp) (fun _ => ?_) (fun he => by cases he)
  refine AWp.seq ?_
  refine AWp.regK [4] [true] F32r4 [] (by kernel_rfl) (by rw [hC]; rfl) fun K hK => ?_
  simp (maxSteps := 2000000) [F32r4]
  refine hK _ ?_
  repeat refine AWp.seq ?_
  refine AWp.ret ⟨.inr rfl, _, by simp [Tryz.results32] <;> rfl, ?_⟩
  refine .clos ?_ rfl
  unfold right; rw [hout (.inr hhi)]; rfl
 obtain ⟨i, hi⟩ : ∃ i : Nat, p.op = i := ⟨p.op.toNat, by omega⟩
 have hi1 : 1 ≤ i := by omega
 have hi9 : i ≤ 9 := by omega
 have hii : i < inW.length := by omega
 have hip : i < paW.length := by omega
 have ho := only_ok p paW[i] (by have : ∀ i, (h : i < paW.length) → paW[i].size ≤ 2 := by decide
                                 have := this i hip; omega)
 simp only [planX, hi] at ho
 have hv := Variable_ok p.name (by omega)
 have hfc := first_check p ins i hi hi1 hi9 hii hip
 have key : ∀ ns ps, ns = inW → ps = paW → ∃ (h1 : i < ns.length) (h2 : i < ps.length), Con Tryz.prog 46 [.agg [uval i, sval p.rel, sval p.name, .rd 9 (p.args.map encE), .rd 1 (texts p.aggs), .rd 6 (p.ins.map encP)], sval ps[i]] (bval (onlyB p ps[i])) ∧ (!onlyB p (ps[i]'h2) || decide (0 ≤ ns[i]'h1) && !decide ((ins.length : Int) = ns[i]'h1) || decide (i = 9) && decide (ins.length = 0)) = !(kindOk p ins.length && partsOk p) := by
  rintro _ _ rfl rfl; exact ⟨hii, hip, ho, hfc⟩
 obtain ⟨ns, hns⟩ : ∃ ns, ns = inW := ⟨_, rfl⟩
 obtain ⟨ps, hps⟩ : ∃ ps, ps = paW := ⟨_, rfl⟩
 rw [← hns, ← hps]
 clear hii hip ho hfc hil10 hpl10
 obtain ⟨hii, hip, ho, hfc⟩ := key ns ps hns hps
 clear key hns hps
 refine AWp.regKL ops_mixed [[],[0],[0,1],[0,1,2],[0,1,2,3],[0,1,2,3,4],[0,1,2,3,4,5],[0,1,2,3,4,5,6],[0,1,2,3,4,5,6,7],[0,1,2,3,4,5,6,7,8],[0,1,2,3,4,5,6,7,8],[0,1,2,3,4,5,6,7,8],[0,1,2,3,4,5,6,7,8,11],[0,1,2,3,4,5,6,7,8,10,11,12],[0,1,2,3,4,5,6,7,8,10,11,12,13],[0,1,2,3,4,5,6,7,8,9,10,11,12,13,14],[0,1,2,3,4,5,6,7,8,9,10,11,12,13,14,15],[0,1,2,3,4,5,6,7,8,9,10,11,12,13,14,15,16],[0,1,2,3,4,5,6,7,8,9,10,11,12,13,14,15,16,17],[0,1,2,3,4,5,6,7,8,9,10,11,12,13,14,15,16,17,18],[0,1,2,3,4,5,6,7,8,9,10,11,12,13,14,15,16,17,18],[0,1,2,3,4,5,6,7,8,9,10,11,12,13,14,15,16,17,18,20],[0,1,2,3,4,5,6,7,8,9,10,11,12,13,14,15,16,17,18,19,20,21],[0,1,2,3,4,5,6,7,8,9,10,11,12,13,14,15,16,17,18,19,20,21,22],[0,1,2,3,4,5,6,7,8,9,10,11,12,13,14,15,16,17,18,19,20,21,22,23],[0,1,2,3,4,5,6,7,8,9,10,11,12,13,14,15,16,17,18,19,20,21,22,23,24],[0,1,2,3,4,5,6,7,8,9,10,11,12,13,14,15,16,17,18,19,20,21,22,23,24,25],[0,1,2,3,4,5,6,7,8,9,10,11,12,13,14,15,16,17,18,19,20,21,22,23,24,25,26],[0,1,2,3,4,5,6,7,8,9,10,11,12,13,14,15,16,17,18,19,20,21,22,23,24,25],[0,1,2,3,4,5,6,7,8,9,10,11,12,13,14,15,16,17,18,19,20,21,22,23,24,25],[0,1,2,3,4,5,6,7,8,9,10,11,12,13,14,15,16,17,18,19,20,21,22,23,24,25,29],[0,1,2,3,4,5,6,7,8,9,10,11,12,13,14,15,16,17,18,19,20,21,22,23,24,25,28,29,30],[0,1,2,3,4,5,6,7,8,9,10,11,12,13,14,15,16,17,18,19,20,21,22,23,24,25,28,29,30,31],[0,1,2,3,4,5,6,7,8,9,10,11,12,13,14,15,16,17,18,19,20,21,22,23,24,25,26,27,28,29,30,31,32],[0,1,2,3,4,5,6,7,8,9,10,11,12,13,14,15,16,17,18,19,20,21,22,23,24,25,26,27,28,29,30,31,32,33],[0,1,2,3,4,5,6,7,8,9,10,11,12,13,14,15,16,17,18,19,20,21,22,23,24,25,26,27,28,29,30,31,32,33,34],[0,1,2,3,4,5,6,7,8,9,10,11,12,13,14,15,16,17,18,19,20,21,22,23,24,25,26,27,28,29,30,31,32,33,34,35],[0,1,2,3,4,5,6,7,8,9,10,11,12,13,14,15,16,17,18,19,20,21,22,23,24,25,26,27,28,29,30,31,32,33,34,35,36],[0,1,2,3,4,5,6,7,8,9,10,11,12,13,14,15,16,17,18,19,20,21,22,23,24,25,26,27,28,29,30,31,32,33,34,35,36,37],[0,1,2,3,4,5,6,7,8,9,10,11,12,13,14,15,16,17,18,19,20,21,22,23,24,25,26,27,28,29,30,31,32,33,34,35,36,37,38],[0,1,2,3,4,5,6,7,8,9,10,11,12,13,14,15,16,17,18,19,20,21,22,23,24,25,26,27,28,29,30,31,32,33,34,35,36,37,38,39],[0,1,2,3,4,5,6,7,8,9,10,11,12,13,14,15,16,17,18,19,20,21,22,23,24,25,26,27,28,29,30,31,32,33,34,35,36,37,38,39,40],[0,1,2,3,4,5,6,7,8,9,10,11,12,13,14,15,16,17,18,19,20,21,22,23,24,25,26,27,28,29,30,31,32,33,34,35,36,37,38,39,40,41],[0,1,2,3,4,5,6,7,8,9,10,11,12,13,14,15,16,17,18,19,20,21,22,23,24,25,26,27,28,29,30,31,32,33,34,35,36,37,38,39,40,41,42],[0,1,2,3,4,5,6,7,8,9,10,11,12,13,14,15,16,17,18,19,20,21,22,23,24,25,26,27,28,29,30,31,32,33,34,35,36,37,38,39,40,41,42,43],[0,1,2,3,4,5,6,7,8,9,10,11,12,13,14,15,16,17,18,19,20,21,22,23,24,25,26,27,28,29,30,31,32,33,34,35,36,37,38,39,40,41,42,43,44]] [1,2,57] [] F32r3 [{ r := bval (onlyB p ps[i]) }] (by kernel_rfl) (by rw [hC]; rfl) (by kernel_rfl) (by kernel_rfl) fun K hK => ?_
 simp (maxSteps := 2000000) [F32r3, hi, hii, hip]
 (repeat first | refine ⟨by first | kernel_rfl | (intros; omega) | assumption, ?_⟩ | refine ⟨fun _ _ => callOK rfl ho, ?_⟩); refine hK _ ?_
 have f1 : decide ((i : Int) < 1) = false := by simp; omega
 have f2 : decide ((9 : Int) < i) = false := by simp; omega
 have f3 : decide ((1 : Int) ≤ i) = true := by simp; omega
 have f4 : decide ((i : Int) ≤ 9) = true := by simp; omega
 have f5 : decide ((i : Int) = 9) = decide (i = 9) := decide_eq_decide.2 (by omega)
 have f6 : decide (ins = []) = decide (ins.length = 0) := decide_eq_decide.2 List.length_eq_zero_iff.symm
 have el : decide ((p.aggs.length : Int) = (p.args.length : Int)) = decide (p.aggs.length = p.args.length) := decide_eq_decide.2 (by omega)
 refine AWp.cond _ (by rfl) (fun h1 => ?_) (fun h1 => ?_)
 ·skip
  rw [f1, f2, f3, f4, f5, f6] at h1
  have hk : (kindOk p ins.length && partsOk p) = false := by
   have : (!(kindOk p ins.length && partsOk p)) = true := by
    rw [← hfc]
    revert h1
    generalize onlyB p ps[i] = o; generalize decide (0 ≤ ns[i]) = a; generalize decide ((ins.length : Int) = ns[i]) = b; generalize decide (i = 9) = c; generalize decide (ins.length = 0) = d
    revert o a b c d; decide
   rw [Bool.not_eq_true'] at this; exact this
  refine AWp.seq ?_
  refine AWp.regK [4] [true] F32r4 [] (by kernel_rfl) (by rw [hC]; rfl) fun K hK => ?_
  simp (maxSteps := 2000000) [F32r4]
  refine hK _ ?_
  repeat refine AWp.seq ?_
  refine AWp.ret ⟨.inr rfl, _, by simp [Tryz.results32] <;> rfl, ?_⟩
  refine .clos ?_ rfl
  unfold right; rw [hk]; rfl
 rw [f1, f2, f3, f4, f5, f6] at h1
 have hk : (kindOk p ins.length && partsOk p) = true := by
  have : (!(kindOk p ins.length && partsOk p)) = false := by
   rw [← hfc]
   revert h1
   generalize onlyB p ps[i] = o; generalize decide (0 ≤ ns[i]) = a; generalize decide ((ins.length : Int) = ns[i]) = b; generalize decide (i = 9) = c; generalize decide (ins.length = 0) = d
   revert o a b c d; decide
  rw [Bool.not_eq_false'] at this; exact this
 refine AWp.forget (s' := { tm := [(1, encSR ins), (2, .ptr 2 0)], hp := [(2, .cells 26 (encP p))] }) (by simp [hi]) ?_
 refine AWp.skip ?_
 refine AWp.seq ?_
 refine AWp.seq ?_
 refine AWp.regK [1,2,96] [] F32r5 [{ r := bval (varB p.name) }] (by kernel_rfl) (by rw [hC]; rfl) fun K hK => ?_
 simp (maxSteps := 2000000) [F32r5]
 (repeat first | refine ⟨by first | kernel_rfl | (intros; omega) | assumption, ?_⟩ | refine ⟨fun _ _ => callOK rfl hv, ?_⟩); refine hK _ ?_
 refine AWp.cond _ (by rfl) (fun h2 => ?_) (fun h2 => ?_)
 ·skip
  rw [el, args_bool] at h2
  have hk3 : argsOk p = false := by
   have h : (!argsOk p) = true := h2
   rw [Bool.not_eq_true'] at h; exact h
  refine AWp.seq ?_
  refine AWp.regK [4] [true] F32r6 [] (by kernel_rfl) (by rw [hC]; rfl) fun K hK => ?_
  simp (maxSteps := 2000000) [F32r6]
  refine hK _ ?_
  repeat refine AWp.seq ?_
  refine AWp.ret ⟨.inr rfl, _, by simp [Tryz.results32] <;> rfl, ?_⟩
  refine .clos ?_ rfl
  unfold right; rw [hk, hk3]; rfl
 rw [el, args_bool] at h2
 have hk3 : argsOk p = true := by
  have h : (!argsOk p) = false := h2
  rw [Bool.not_eq_false'] at h; exact h
 have hr : right p ins = (p.aggs.all aggOk && inOk p ins && p.args.all (may (patOp p.op))) := by
  unfold right; rw [hk, hk3]; simp
 rw [hr]
 refine AWp.skip ?_
 refine AWp.seq ?_
 refine AWp.seq ?_
 refine AWp.regK [1,2,7] [true] F32r7 [] (by kernel_rfl) (by rw [hC]; rfl) fun K hK => ?_
 simp (maxSteps := 2000000) [F32r7]
 refine hK _ ?_
 refine AWp.block ?_
 refine AWp.loopG (fun k : Nat => { tm := [(1, encSR ins), (2, .ptr 2 0), (7, ival k)], hp := [(2, .cells 26 (encP p))] }) (fun k => k ≤ p.aggs.length ∧ p.aggs.all aggOk = (p.aggs.drop k).all aggOk) (fun k => p.aggs.length - k) 0 ⟨by omega, by simp⟩ (by simp) (fun k hk => ?_)
 obtain ⟨hk1, hk2⟩ := hk
 refine AWp.seq ?_
 refine AWp.seq ?_
 refine AWp.regK [1,2,7,101] [] F32r8 [] (by kernel_rfl) (by rw [hC]; rfl) fun K hK => ?_
 simp (maxSteps := 2000000) [F32r8]
 refine hK _ ?_
 refine AWp.cond _ (by rfl) (fun hlt => ?_) (fun hge => ?_)
 ·skip
  have hlt : k < p.aggs.length := by simpa using hlt
  have hd : (p.aggs.drop k).all aggOk = (aggOk p.aggs[k] && (p.aggs.drop (k + 1)).all aggOk) := by rw [List.drop_eq_getElem_cons hlt, List.all_cons]
  rw [hd] at hk2
  refine AWp.skip ?_
  refine AWp.seq ?_
  refine AWp.block ?_
  refine AWp.seq ?_
  refine AWp.regK [1,2,7,141] [] F32r10 [] (by kernel_rfl) (by rw [hC]; rfl) fun K hK => ?_
  simp (maxSteps := 2000000) [F32r10, hlt]
  (repeat refine ⟨by first | omega | (intros; omega) | assumption, ?_⟩); refine hK _ ?_
  generalize p.aggs[k] = s at hk2 ⊢
  refine AWp.cond _ (by rfl) (fun h4 => ?_) (fun h4 => ?_)
  ·skip
   have h5 : aggOk s = false := by
    simp only [Bool.and_eq_true, Bool.not_eq_true', decide_eq_false_iff_not] at h4
    simp [aggOk, tCount, tSum, tMin, tMax, h4]
   rw [hk2, h5]
   refine AWp.seq ?_
   refine AWp.regK [4] [true] F32r11 [] (by kernel_rfl) (by rw [hC]; rfl) fun K hK => ?_
   simp (maxSteps := 2000000) [F32r11]
   refine hK _ ?_
   repeat refine AWp.seq ?_
   refine AWp.ret ⟨.inr rfl, _, by simp [Tryz.results32] <;> rfl, ?_⟩
   exact .closed rfl
  have h5 : aggOk s = true := by
   cases hh : aggOk s with
   | true => rfl
   | false =>
    have q : ¬ aggOk s = true := by rw [hh]; decide
    simp only [aggOk, Bool.or_eq_true, decide_eq_true_eq, not_or, tCount, tSum, tMin, tMax] at q
    obtain ⟨⟨⟨⟨q1, q2⟩, q3⟩, q4⟩, q5⟩ := q
    simp [q1] at h4
    exact absurd (decide_eq_true (h4 (fun h => q2 (decide_eq_true h)) (fun h => q3 (decide_eq_true h)) (fun h => q4 (decide_eq_true h)))) q5
  rw [h5, Bool.true_and] at hk2
  refine AWp.skip ?_
  refine AWp.regK [1,2,7] [false,false,true] F32r9 [] (by kernel_rfl) (by rw [hC]; rfl) fun K hK => ?_
  simp (maxSteps := 2000000) [F32r9]
  (repeat refine ⟨by first | omega | (intros; omega) | assumption, ?_⟩); refine hK _ ?_
  refine ⟨k + 1, ⟨by omega, hk2⟩, by omega, ?_⟩
  simp [wrap_nat k (by omega)]
 have hge : ¬ k < p.aggs.length := by simpa using hge
 rw [List.drop_eq_nil_of_le (by omega), List.all_nil] at hk2
 rw [hk2, Bool.true_and]
 clear hk2 hk1 hge
 refine AWp.exit ?_
 refine AWp.seq ?_
 refine AWp.seq ?_
 refine AWp.regK [1,2,8] [true] F32r12 [] (by kernel_rfl) (by rw [hC]; rfl) fun K hK => ?_
 simp (maxSteps := 2000000) [F32r12]
 refine hK _ ?_
 refine AWp.block ?_
 have hin : ∀ k, (h : k < ins.length) → ∃ a, ins[0]? = some a ∧ ins.headD zeroS = a := by
  intro k h
  obtain ⟨a, r, e⟩ := List.exists_cons_of_length_pos (show 0 < ins.length by omega)
  exact ⟨a, by rw [e]; rfl, by rw [e]; rfl⟩
 unfold inOk
 obtain ⟨f, hf⟩ : ∃ f : ShapeD → Bool, f = fun s => (s.bare == decide (p.op = 9)) && (!decide (p.op = 9) || decide (s.width = (ins.headD zeroS).width)) := ⟨_, rfl⟩
 rw [← hf]
 refine AWp.loopG (fun k : Nat => { tm := [(1, encSR ins), (2, .ptr 2 0), (8, ival k)], hp := [(2, .cells 26 (encP p))] }) (fun k => k ≤ ins.length ∧ ins.all f = (ins.drop k).all f) (fun k => ins.length - k) 0 ⟨by omega, by simp⟩ (by simp) (fun k hk => ?_)
 obtain ⟨hk1, hk2⟩ := hk
 refine AWp.seq ?_
 refine AWp.seq ?_
 refine AWp.regK [1,2,8,145] [] F32r13 [] (by kernel_rfl) (by rw [hC]; rfl) fun K hK => ?_
 simp (maxSteps := 2000000) [F32r13]
 refine hK _ ?_
 refine AWp.cond _ (by rfl) (fun hlt => ?_) (fun hge => ?_)
 ·skip
  have hlt : k < ins.length := by simpa using hlt
  have hd : (ins.drop k).all f = (f ins[k] && (ins.drop (k + 1)).all f) := by rw [List.drop_eq_getElem_cons hlt, List.all_cons]
  rw [hd] at hk2
  obtain ⟨a, ha, ha2⟩ := hin k hlt
  have h0 : 0 < ins.length := by omega
  have h00 : ins[0] = ins.headD zeroS := by
   rw [ha2]
   have := List.getElem?_eq_some_iff.1 ha
   exact this.2
  have hfk : f ins[k] = !(decide (ins[k].bare = decide (p.op = 9)) && (decide (p.op = 9) && !decide (ins[k].width = ins[0].width)) || !decide (ins[k].bare = decide (p.op = 9))) := by
   rw [hf, h00]
   exact inOk_bool _ _ _ _ _
  refine AWp.skip ?_
  refine AWp.seq ?_
  refine AWp.block ?_
  refine AWp.seq ?_
  refine AWp.regKL ops_mixed [[],[],[0,1],[0,1,2],[0,1,2,3],[],[5],[5,6],[0,1,2,3,4,5,6,7],[0,1,2,3,4,5,6,7,8],[0,1,2,3,4,5,6,7,8,9],[0,1,2,3,4,5,6,7,8,9,10],[0,1,2,3,4,5,6,7,8,9,10,11],[0,1,2,3,4,5,6,7,8,9,10,11,12],[0,1,2,3,4,5,6,7,8,9,10,11,12,13],[0,1,2,3,4,5,6,7,8,9,10,11,12,13],[0,1,2,3,4,5,6,7,8,9,10,11,12,13,14,15],[0,1,2,3,4,5,6,7,8,9,10,11,12,13,14,15,16],[0,1,2,3,4,5,6,7,8,9,10,11,12,13,14,15,16,17],[0,1,2,3,4,5,6,7,8,9,10,11,12,13],[0,1,2,3,4,5,6,7,8,9,10,11,12,13,19],[0,1,2,3,4,5,6,7,8,9,10,11,12,13,19,20],[0,1,2,3,4,5,6,7,8,9,10,11,12,13,19,20,21],[0,1,2,3,4,5,6,7,8,9,10,11,12,13,14,15,16,17,18,19,20,21,22],[0,1,2,3,4,5,6,7,8,9,10,11,12,13,14,15,16,17,18,19,20,21,22,23],[0,1,2,3,4,5,6,7,8,9,10,11,12,13,14,15,16,17,18,19,20,21,22,23,24]] [1,2,8,173] [] F32r15 [] (by kernel_rfl) (by rw [hC]; rfl) (by kernel_rfl) (by kernel_rfl) fun K hK => ?_
  simp (maxSteps := 2000000) [F32r15, hlt, ha, h0]
  (repeat refine ⟨by first | omega | (intros; omega) | assumption, ?_⟩); first | refine hK _ ?_ | refine ⟨by kernel_rfl, hK _ ?_⟩
  refine AWp.cond _ (by rfl) (fun h4 => ?_) (fun h4 => ?_)
  ·skip
   rw [h4] at hfk
   rw [hk2, hfk]
   refine AWp.seq ?_
   refine AWp.regK [4] [true] F32r16 [] (by kernel_rfl) (by rw [hC]; rfl) fun K hK => ?_
   simp (maxSteps := 2000000) [F32r16]
   refine hK _ ?_
   repeat refine AWp.seq ?_
   refine AWp.ret ⟨.inr rfl, _, by simp [Tryz.results32] <;> rfl, ?_⟩
   exact .closed rfl
  rw [h4] at hfk
  rw [hfk] at hk2
  refine AWp.skip ?_
  refine AWp.regK [1,2,8] [false,false,true] F32r14 [] (by kernel_rfl) (by rw [hC]; rfl) fun K hK => ?_
  simp (maxSteps := 2000000) [F32r14]
  (repeat refine ⟨by first | omega | (intros; omega) | assumption, ?_⟩); refine hK _ ?_
  refine ⟨k + 1, ⟨by omega, by simpa using hk2⟩, by omega, ?_⟩
  simp [wrap_nat k (by omega)]
 have hge : ¬ k < ins.length := by simpa using hge
 rw [List.drop_eq_nil_of_le (by omega), List.all_nil] at hk2
 rw [hk2, Bool.true_and]
 clear hk2 hk1 hge
 refine AWp.exit ?_
 refine AWp.seq ?_
 refine AWp.seq ?_
 refine AWp.regK [2,9] [true] F32r17 [] (by kernel_rfl) (by rw [hC]; rfl) fun K hK => ?_
 simp (maxSteps := 2000000) [F32r17]
 refine hK _ ?_
 refine AWp.block ?_
 refine AWp.loopG (fun k : Nat => { tm := [(2, .ptr 2 0), (9, ival k)], hp := [(2, .cells 26 (encP p))] }) (fun k => k ≤ p.args.length ∧ p.args.all (may (patOp p.op)) = (p.args.drop k).all (may (patOp p.op))) (fun k => p.args.length - k) 0 ⟨by omega, by simp⟩ (by simp) (fun k hk => ?_)
 obtain ⟨hk1, hk2⟩ := hk
 have hal2 := esizes_len p.args
 refine AWp.seq ?_
 refine AWp.seq ?_
 refine AWp.regK [2,9,178] [] F32r18 [] (by kernel_rfl) (by rw [hC]; rfl) fun K hK => ?_
 simp (maxSteps := 2000000) [F32r18]
 refine hK _ ?_
 refine AWp.cond _ (by rfl) (fun hlt => ?_) (fun hge => ?_)
 ·skip
  have hlt : k < p.args.length := by simpa using hlt
  have hd : (p.args.drop k).all (may (patOp p.op)) = (may (patOp p.op) p.args[k] && (p.args.drop (k + 1)).all (may (patOp p.op))) := by rw [List.drop_eq_getElem_cons hlt, List.all_cons]
  rw [hd] at hk2
  have hes := esize_mem (List.getElem_mem hlt)
  have hde := Depth_e _ p.args[k] (Nat.lt_succ_self _) (by omega)
  have hgo := Good'_ok (patOp p.op) p.args[k] (by omega)
  simp only [exprX, encE_eq] at hde hgo
  refine AWp.skip ?_
  refine AWp.seq ?_
  refine AWp.block ?_
  refine AWp.seq ?_
  refine AWp.regKL ops_mixed [[],[0],[],[0,1,2],[0,1,2,3],[0,1,2,3,4],[0,1,2,3,4,5],[0,1,2,3,4,5,6],[0,1,2,3,4,5,6,7],[0,1,2,3,4,5,6,7,8],[0,1,2,3,4,5,6,7],[0,1,2,3,4,5,6,7,8,9,10],[0,1,2,3,4,5,6,7,8,9,10,11],[0,1,2,3,4,5,6,7],[0,1,2,3,4,5,6,7,13],[0,1,2,3,4,5,6,7,13,14],[0,1,2,3,4,5,6,7,13,14,15],[0,1,2,3,4,5,6,7,13,14,15,16],[0,1,2,3,4,5,6,7,13,14,15,16,17],[0,1,2,3,4,5,6,7,13,14,15,16,17,18],[0,1,2,3,4,5,6,7,13,14,15,16,17,18,19],[0,1,2,3,4,5,6,7,8,9,10,11,12,13,14,15,16,17,18,19,20],[0,1,2,3,4,5,6,7,8,9,10,11,12,13,14,15,16,17,18,19,20,21],[0,1,2,3,4,5,6,7,8,9,10,11,12,13,14,15,16,17,18,19,20,21,22]] [2,9,204] [] F32r20 [{ r := ival (depthE p.args[k]) },{ r := bval (good (patOp p.op) p.args[k]) }] (by kernel_rfl) (by rw [hC]; rfl) (by kernel_rfl) (by kernel_rfl) fun K hK => ?_
  simp (maxSteps := 2000000) [F32r20, hlt]
  (repeat first | refine ⟨by first | kernel_rfl | (intros; omega) | assumption, ?_⟩ | refine ⟨by intros; exact callOK rfl hde, ?_⟩ | refine ⟨fun _ => callOK rfl hgo, ?_⟩); refine hK _ ?_
  have hm : may (patOp p.op) p.args[k] = !(decide (64 < (depthE p.args[k] : Int)) || !good (patOp p.op) p.args[k]) := by
   unfold may
   by_cases hh : 64 < depthE p.args[k]
   ·have : ¬ depthE p.args[k] ≤ 64 := by omega
    have h2 : (64 : Int) < depthE p.args[k] := by omega
    simp [this, h2]
   ·have : depthE p.args[k] ≤ 64 := by omega
    have h2 : ¬ (64 : Int) < depthE p.args[k] := by omega
    simp [this, h2]
  refine AWp.cond _ (by rfl) (fun h4 => ?_) (fun h4 => ?_)
  ·skip
   rw [h4] at hm
   rw [hk2, hm]
   refine AWp.seq ?_
   refine AWp.regK [4] [true] F32r21 [] (by kernel_rfl) (by rw [hC]; rfl) fun K hK => ?_
   simp (maxSteps := 2000000) [F32r21]
   refine hK _ ?_
   repeat refine AWp.seq ?_
   refine AWp.ret ⟨.inr rfl, _, by simp [Tryz.results32] <;> rfl, ?_⟩
   exact .closed rfl
  rw [h4] at hm
  rw [hm] at hk2
  refine AWp.skip ?_
  refine AWp.regK [2,9] [false,false,true] F32r19 [] (by kernel_rfl) (by rw [hC]; rfl) fun K hK => ?_
  simp (maxSteps := 2000000) [F32r19]
  (repeat refine ⟨by first | omega | (intros; omega) | assumption, ?_⟩); refine hK _ ?_
  refine ⟨k + 1, ⟨by omega, by simpa using hk2⟩, by omega, ?_⟩
  simp [wrap_nat k (by omega)]
 have hge : ¬ k < p.args.length := by simpa using hge
 rw [List.drop_eq_nil_of_le (by omega), List.all_nil] at hk2
 rw [hk2]
 refine AWp.exit ?_
 refine AWp.seq ?_
 refine AWp.regK [4] [true] F32r22 [] (by kernel_rfl) (by rw [hC]; rfl) fun K hK => ?_
 simp (maxSteps := 2000000) [F32r22]
 refine hK _ ?_
 repeat refine AWp.seq ?_
 refine AWp.ret ⟨.inr rfl, _, by simp [Tryz.results32] <;> rfl, ?_⟩
 exact .closed rfl
end Go.Al
