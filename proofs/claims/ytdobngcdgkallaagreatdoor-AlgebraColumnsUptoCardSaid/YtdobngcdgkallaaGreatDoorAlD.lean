/- The program's values: may one be? (values, rows) -/
import Derived.Test.YtdobngcdgkallaaGreatDoorAlB
import Derived.Test.YtdobngcdgkallaaGreatDoorAlC
set_option linter.unusedSimpArgs false
set_option linter.unusedVariables false
set_option linter.unusedSectionVars false
open Go Go.Aw Go.Proofs
namespace Go.Al
set_option maxRecDepth 20000
-- function 176: corollary/value.depth
def F176r0 : List ROp := [⟨some 2,.box 56 (.tmp 0),[],none⟩,
 ⟨some 4,.copy true (.const (.int .i64 0)),[],none⟩]
def F176r1 : List ROp := [⟨some 5,.copy true (.const (.int .i64 0)),[],none⟩]
def F176r2 : List ROp := [⟨some 8,.fad 3 (.tmp 2),[],none⟩,
 ⟨some 9,.load 1 false false (.tmp 8),[],none⟩,
 ⟨some 10,.len 0 (.tmp 9),[],none⟩,
 ⟨some 11,.copy false (.const (.int .i64 0)),[],none⟩]
def F176r3 : List ROp := [⟨some 12,.bin .lss (.tmp 11) (.tmp 10),[],none⟩]
def F176r4 : List ROp := [⟨some 13,.iad 4 (.tmp 9) (.tmp 11),[],none⟩,
 ⟨some 14,.load 4 true false (.tmp 13),[],none⟩,
 ⟨some 7,.alloc 56 [Value.int .u8 0,Value.int .i64 0,Value.string ByteArray.empty,Value.slice none 0 0],[],none⟩,
 ⟨none,.store 4 true (.tmp 7) (.tmp 14),[],none⟩]
def F176r5 : List ROp := [⟨some 15,.copy false (.tmp 5),[],none⟩,
 ⟨some 16,.copy false (.tmp 1),[],none⟩,
 ⟨some 17,.bin .geq (.tmp 15) (.tmp 16),[],none⟩]
def F176r6 : List ROp := [⟨some 18,.copy false (.tmp 5),[],none⟩,
 ⟨some 19,.load 4 true false (.tmp 7),[],none⟩,
 ⟨some 20,.copy false (.tmp 1),[],none⟩,
 ⟨some 21,.bin .sub (.tmp 20) (.const (.int .i64 1)),[],none⟩,
 ⟨some 22,.call (.func 176) [.tmp 19,.tmp 21],[],none⟩,
 ⟨some 23,.mm true (.tmp 18) (.tmp 22),[],none⟩,
 ⟨some 5,.copy true (.tmp 23),[],none⟩]
def F176r7 : List ROp := [⟨some 24,.bin .add (.tmp 11) (.const (.int .i64 1)),[],none⟩,
 ⟨some 11,.copy false (.tmp 24),[],none⟩]
def F176r8 : List ROp := [⟨some 25,.copy false (.tmp 5),[],none⟩,
 ⟨some 26,.bin .add (.tmp 25) (.const (.int .i64 1)),[],none⟩,
 ⟨some 4,.copy true (.tmp 26),[],none⟩]
-- function 177: (corollary/value.item).look
def F177r0 : List ROp := [⟨some 1,.box 205 (.tmp 0),[],none⟩,
 ⟨some 2,.copy true (.const (.bool false)),[],none⟩,
 ⟨some 3,.copy true (.const (.bool false)),[],none⟩]
def F177r1 : List ROp := [⟨some 13,.fad 1 (.tmp 1),[],none⟩,
 ⟨some 14,.load 1 false false (.tmp 13),[],none⟩,
 ⟨some 15,.bin .eql (.tmp 14) (.const (.int .i64 0)),[],none⟩,
 ⟨some 16,.copy false (.tmp 15),[],none⟩,
 ⟨some 17,.fad 2 (.tmp 1),[],some (16,true)⟩,
 ⟨some 18,.load 1 false false (.tmp 17),[],some (16,true)⟩,
 ⟨some 19,.bin .eql (.tmp 18) (.const (.string { data := #[] })),[],some (16,true)⟩,
 ⟨some 20,.pick (.tmp 16) (.tmp 19) (.const (.bool false)),[],none⟩,
 ⟨some 21,.copy false (.tmp 20),[],none⟩,
 ⟨some 22,.fad 3 (.tmp 1),[],some (21,true)⟩,
 ⟨some 23,.load 1 false false (.tmp 22),[],some (21,true)⟩,
 ⟨some 24,.len 0 (.tmp 23),[],some (21,true)⟩,
 ⟨some 25,.bin .eql (.tmp 24) (.const (.int .i64 0)),[],some (21,true)⟩,
 ⟨some 26,.pick (.tmp 21) (.tmp 25) (.const (.bool false)),[],none⟩,
 ⟨some 2,.copy true (.tmp 26),[],none⟩,
 ⟨some 3,.copy true (.const (.bool true)),[],none⟩]
def F177r2 : List ROp := [⟨some 27,.fad 0 (.tmp 1),[],none⟩,
 ⟨some 28,.load 1 false false (.tmp 27),[],none⟩]
def F177r3 : List ROp := [⟨some 2,.copy true (.const (.bool false)),[],none⟩]
def F177r4 : List ROp := [⟨some 30,.bin .eql (.tmp 28) (.const (.int .u8 1)),[],none⟩,
 ⟨some 29,.copy true (.tmp 30),[],none⟩]
def F177r5 : List ROp := [⟨some 31,.fad 1 (.tmp 1),[],none⟩,
 ⟨some 32,.load 1 false false (.tmp 31),[],none⟩,
 ⟨some 33,.bin .eql (.tmp 32) (.const (.int .i64 0)),[],none⟩,
 ⟨some 34,.copy false (.tmp 33),[],none⟩,
 ⟨some 35,.fad 1 (.tmp 1),[],some (34,false)⟩,
 ⟨some 36,.load 1 false false (.tmp 35),[],some (34,false)⟩,
 ⟨some 37,.bin .eql (.tmp 36) (.const (.int .i64 1)),[],some (34,false)⟩,
 ⟨some 38,.pick (.tmp 34) (.const (.bool true)) (.tmp 37),[],none⟩,
 ⟨some 39,.copy false (.tmp 38),[],none⟩,
 ⟨some 40,.fad 2 (.tmp 1),[],some (39,true)⟩,
 ⟨some 41,.load 1 false false (.tmp 40),[],some (39,true)⟩,
 ⟨some 42,.bin .eql (.tmp 41) (.const (.string { data := #[] })),[],some (39,true)⟩,
 ⟨some 43,.pick (.tmp 39) (.tmp 42) (.const (.bool false)),[],none⟩,
 ⟨some 44,.copy false (.tmp 43),[],none⟩,
 ⟨some 45,.fad 3 (.tmp 1),[],some (44,true)⟩,
 ⟨some 46,.load 1 false false (.tmp 45),[],some (44,true)⟩,
 ⟨some 47,.len 0 (.tmp 46),[],some (44,true)⟩,
 ⟨some 48,.bin .eql (.tmp 47) (.const (.int .i64 0)),[],some (44,true)⟩,
 ⟨some 49,.pick (.tmp 44) (.tmp 48) (.const (.bool false)),[],none⟩,
 ⟨some 2,.copy true (.tmp 49),[],none⟩]
def F177r6 : List ROp := [⟨some 51,.bin .eql (.tmp 28) (.const (.int .u8 2)),[],none⟩,
 ⟨some 50,.copy true (.tmp 51),[],none⟩]
def F177r7 : List ROp := [⟨some 52,.fad 2 (.tmp 1),[],none⟩,
 ⟨some 53,.load 1 false false (.tmp 52),[],none⟩,
 ⟨some 54,.bin .eql (.tmp 53) (.const (.string { data := #[] })),[],none⟩,
 ⟨some 55,.copy false (.tmp 54),[],none⟩,
 ⟨some 56,.fad 3 (.tmp 1),[],some (55,true)⟩,
 ⟨some 57,.load 1 false false (.tmp 56),[],some (55,true)⟩,
 ⟨some 58,.len 0 (.tmp 57),[],some (55,true)⟩,
 ⟨some 59,.bin .eql (.tmp 58) (.const (.int .i64 0)),[],some (55,true)⟩,
 ⟨some 60,.pick (.tmp 55) (.tmp 59) (.const (.bool false)),[],none⟩,
 ⟨some 2,.copy true (.tmp 60),[],none⟩]
def F177r8 : List ROp := [⟨some 62,.bin .eql (.tmp 28) (.const (.int .u8 3)),[],none⟩,
 ⟨some 61,.copy true (.tmp 62),[],none⟩]
def F177r9 : List ROp := [⟨some 64,.fad 2 (.tmp 1),[],none⟩,
 ⟨some 65,.load 1 false false (.tmp 64),[],none⟩,
 ⟨some 66,.call (.func 189) [.tmp 65],[],none⟩,
 ⟨some 63,.copy false (.tmp 66),[],none⟩,
 ⟨some 67,.ext (.tmp 63) 0,[],none⟩,
 ⟨some 68,.ext (.tmp 63) 1,[],none⟩,
 ⟨some 4,.copy true (.tmp 67),[],none⟩,
 ⟨some 5,.copy true (.tmp 68),[],none⟩]
def F177r10 : List ROp := [⟨some 69,.copy false (.tmp 5),[],none⟩,
 ⟨some 70,.copy false (.tmp 69),[],none⟩,
 ⟨some 71,.fad 1 (.tmp 1),[],some (70,true)⟩,
 ⟨some 72,.load 1 false false (.tmp 71),[],some (70,true)⟩,
 ⟨some 73,.bin .eql (.tmp 72) (.const (.int .i64 0)),[],some (70,true)⟩,
 ⟨some 74,.pick (.tmp 70) (.tmp 73) (.const (.bool false)),[],none⟩,
 ⟨some 75,.copy false (.tmp 74),[],none⟩,
 ⟨some 76,.fad 3 (.tmp 1),[],some (75,true)⟩,
 ⟨some 77,.load 1 false false (.tmp 76),[],some (75,true)⟩,
 ⟨some 78,.len 0 (.tmp 77),[],some (75,true)⟩,
 ⟨some 79,.bin .eql (.tmp 78) (.const (.int .i64 0)),[],some (75,true)⟩,
 ⟨some 80,.pick (.tmp 75) (.tmp 79) (.const (.bool false)),[],none⟩,
 ⟨some 81,.copy false (.tmp 4),[],none⟩,
 ⟨some 82,.bin .leq (.tmp 81) (.const (.int .i64 200)),[],none⟩,
 ⟨some 2,.copy true (.tmp 80),[],none⟩,
 ⟨some 3,.copy true (.tmp 82),[],none⟩]
def F177r11 : List ROp := [⟨some 84,.bin .eql (.tmp 28) (.const (.int .u8 4)),[],none⟩,
 ⟨some 83,.copy true (.tmp 84),[],none⟩]
def F177r12 : List ROp := [⟨some 85,.fad 1 (.tmp 1),[],none⟩,
 ⟨some 86,.load 1 false false (.tmp 85),[0],none⟩,
 ⟨some 87,.bin .eql (.tmp 86) (.const (.int .i64 0)),[1],none⟩,
 ⟨some 88,.copy false (.tmp 87),[2],none⟩,
 ⟨some 89,.fad 3 (.tmp 1),[3],some (88,true)⟩,
 ⟨some 90,.load 1 false false (.tmp 89),[4,3],some (88,true)⟩,
 ⟨some 91,.len 0 (.tmp 90),[5,3],some (88,true)⟩,
 ⟨some 92,.bin .eql (.tmp 91) (.const (.int .i64 0)),[6,3],some (88,true)⟩,
 ⟨some 93,.pick (.tmp 88) (.tmp 92) (.const (.bool false)),[3,7],none⟩,
 ⟨some 94,.fad 2 (.tmp 1),[],none⟩,
 ⟨some 95,.load 1 false false (.tmp 94),[9],none⟩,
 ⟨some 96,.len 1 (.tmp 95),[10],none⟩,
 ⟨some 97,.bin .leq (.tmp 96) (.const (.int .i64 4096)),[11],none⟩,
 ⟨some 2,.copy true (.tmp 93),[8,3,0,1,2,3,4,5,6,7,8],none⟩,
 ⟨some 3,.copy true (.tmp 97),[12,13,0,1,2,3,4,5,6,7,8,9,10,11,12,13],none⟩]
def F177r13 : List ROp := [⟨some 99,.bin .eql (.tmp 28) (.const (.int .u8 5)),[],none⟩,
 ⟨some 98,.copy true (.tmp 99),[],none⟩]
def F177r14 : List ROp := [⟨some 100,.fad 1 (.tmp 1),[],none⟩,
 ⟨some 101,.load 1 false false (.tmp 100),[0],none⟩,
 ⟨some 102,.bin .eql (.tmp 101) (.const (.int .i64 0)),[1],none⟩,
 ⟨some 103,.copy false (.tmp 102),[2],none⟩,
 ⟨some 104,.fad 2 (.tmp 1),[3],some (103,true)⟩,
 ⟨some 105,.load 1 false false (.tmp 104),[4,3],some (103,true)⟩,
 ⟨some 106,.bin .eql (.tmp 105) (.const (.string { data := #[] })),[5,3],some (103,true)⟩,
 ⟨some 107,.pick (.tmp 103) (.tmp 106) (.const (.bool false)),[3,6],none⟩,
 ⟨some 108,.copy false (.tmp 107),[7,3],none⟩,
 ⟨some 109,.fad 3 (.tmp 1),[8],some (108,true)⟩,
 ⟨some 110,.load 1 false false (.tmp 109),[9,8],some (108,true)⟩,
 ⟨some 111,.len 0 (.tmp 110),[10,8],some (108,true)⟩,
 ⟨some 112,.bin .neq (.tmp 111) (.const (.int .i64 1)),[11,8],some (108,true)⟩,
 ⟨some 113,.pick (.tmp 108) (.tmp 112) (.const (.bool false)),[8,12],none⟩,
 ⟨some 114,.fad 3 (.tmp 1),[],none⟩,
 ⟨some 115,.load 1 false false (.tmp 114),[14],none⟩,
 ⟨some 116,.len 0 (.tmp 115),[15],none⟩,
 ⟨some 117,.bin .leq (.tmp 116) (.const (.int .i64 16)),[16],none⟩,
 ⟨some 2,.copy true (.tmp 113),[13,8,0,1,2,3,4,5,6,7,8,9,10,11,12,13],none⟩,
 ⟨some 3,.copy true (.tmp 117),[17,18,0,1,2,3,4,5,6,7,8,9,10,11,12,13,14,15,16,17,18],none⟩]
def F177r15 : List ROp := [⟨some 119,.bin .eql (.tmp 28) (.const (.int .u8 6)),[],none⟩,
 ⟨some 118,.copy true (.tmp 119),[],none⟩]
def F177r16 : List ROp := [⟨some 121,.fad 2 (.tmp 1),[],none⟩,
 ⟨some 122,.load 1 false false (.tmp 121),[],none⟩,
 ⟨some 123,.call (.func 172) [.tmp 122,.const (.string { data := #[46] })],[],none⟩,
 ⟨some 120,.copy false (.tmp 123),[],none⟩,
 ⟨some 124,.ext (.tmp 120) 0,[],none⟩,
 ⟨some 125,.ext (.tmp 120) 1,[],none⟩,
 ⟨some 126,.ext (.tmp 120) 2,[],none⟩,
 ⟨some 6,.copy true (.tmp 124),[],none⟩,
 ⟨some 7,.copy true (.tmp 125),[],none⟩,
 ⟨some 8,.copy true (.tmp 126),[],none⟩]
def F177r17 : List ROp := [⟨some 127,.fad 1 (.tmp 1),[],none⟩,
 ⟨some 128,.load 1 false false (.tmp 127),[0],none⟩,
 ⟨some 129,.bin .eql (.tmp 128) (.const (.int .i64 0)),[1],none⟩,
 ⟨some 130,.copy false (.tmp 129),[2],none⟩,
 ⟨some 131,.copy false (.tmp 6),[3],some (130,true)⟩,
 ⟨some 132,.call (.func 190) [.tmp 131],[4,3,3],some (130,true)⟩,
 ⟨some 133,.pick (.tmp 130) (.tmp 132) (.const (.bool false)),[3,5],none⟩,
 ⟨some 134,.copy false (.tmp 133),[6,5],none⟩,
 ⟨some 135,.copy false (.tmp 8),[7],some (134,true)⟩,
 ⟨some 136,.copy false (.tmp 135),[8,7,7],some (134,true)⟩,
 ⟨some 137,.copy false (.tmp 7),[9],some (136,true)⟩,
 ⟨some 138,.call (.func 190) [.tmp 137],[10,9,9],some (136,true)⟩,
 ⟨some 139,.pick (.tmp 136) (.tmp 138) (.const (.bool false)),[9,11,7],some (134,true)⟩,
 ⟨some 140,.copy false (.tmp 139),[12,11,7],some (134,true)⟩,
 ⟨some 141,.copy false (.tmp 8),[13],some (140,false)⟩,
 ⟨some 142,.un .not (.tmp 141),[14,13],some (140,false)⟩,
 ⟨some 143,.copy false (.tmp 142),[15,13,13],some (140,false)⟩,
 ⟨some 144,.fad 2 (.tmp 1),[16],some (143,true)⟩,
 ⟨some 145,.load 1 false false (.tmp 144),[17,16],some (143,true)⟩,
 ⟨some 146,.bin .neq (.tmp 145) (.const (.string { data := #[116,114,117,101] })),[18,16],some (143,true)⟩,
 ⟨some 147,.pick (.tmp 143) (.tmp 146) (.const (.bool false)),[16,19,13],some (140,false)⟩,
 ⟨some 148,.copy false (.tmp 147),[20,16,13],some (140,false)⟩,
 ⟨some 149,.fad 2 (.tmp 1),[21],some (148,true)⟩,
 ⟨some 150,.load 1 false false (.tmp 149),[22,21],some (148,true)⟩,
 ⟨some 151,.bin .neq (.tmp 150) (.const (.string { data := #[102,97,108,115,101] })),[23,21],some (148,true)⟩,
 ⟨some 152,.pick (.tmp 148) (.tmp 151) (.const (.bool false)),[21,24,13],some (140,false)⟩,
 ⟨some 153,.pick (.tmp 140) (.const (.bool true)) (.tmp 152),[13,25,7],some (134,true)⟩,
 ⟨some 154,.pick (.tmp 134) (.tmp 153) (.const (.bool false)),[7,26],none⟩,
 ⟨some 155,.fad 3 (.tmp 1),[],none⟩,
 ⟨some 156,.load 1 false false (.tmp 155),[28],none⟩,
 ⟨some 157,.len 0 (.tmp 156),[29],none⟩,
 ⟨some 158,.bin .leq (.tmp 157) (.const (.int .i64 8)),[30],none⟩,
 ⟨some 2,.copy true (.tmp 154),[27,21,0,1,2,3,4,5,6,7,8,9,10,11,12,13,14,15,16,17,18,19,20,21,22,23,24,25,26,27],none⟩,
 ⟨some 3,.copy true (.tmp 158),[31,32,0,1,2,3,4,5,6,7,8,9,10,11,12,13,14,15,16,17,18,19,20,21,22,23,24,25,26,27,28,29,30,31,32],none⟩]
def F177r18 : List ROp := [⟨some 159,.fad 3 (.tmp 1),[],none⟩,
 ⟨some 160,.load 1 false false (.tmp 159),[],none⟩,
 ⟨some 161,.len 0 (.tmp 160),[],none⟩,
 ⟨some 162,.copy false (.const (.int .i64 0)),[],none⟩]
def F177r19 : List ROp := [⟨some 163,.bin .lss (.tmp 162) (.tmp 161),[],none⟩]
def F177r20 : List ROp := [⟨some 164,.iad 4 (.tmp 160) (.tmp 162),[],none⟩,
 ⟨some 165,.load 4 true false (.tmp 164),[],none⟩,
 ⟨some 10,.alloc 56 [Value.int .u8 0,Value.int .i64 0,Value.string ByteArray.empty,Value.slice none 0 0],[],none⟩,
 ⟨none,.store 4 true (.tmp 10) (.tmp 165),[],none⟩]
def F177r21 : List ROp := [⟨some 167,.load 4 true false (.tmp 10),[],none⟩,
 ⟨some 168,.call (.func 177) [.tmp 167],[],none⟩,
 ⟨some 166,.copy false (.tmp 168),[],none⟩,
 ⟨some 169,.ext (.tmp 166) 0,[],none⟩,
 ⟨some 170,.ext (.tmp 166) 1,[],none⟩,
 ⟨some 11,.copy true (.tmp 169),[],none⟩,
 ⟨some 12,.copy true (.tmp 170),[],none⟩]
def F177r22 : List ROp := [⟨some 171,.copy false (.tmp 2),[],none⟩,
 ⟨some 172,.copy false (.tmp 171),[],none⟩,
 ⟨some 173,.copy false (.tmp 11),[],some (172,true)⟩,
 ⟨some 174,.pick (.tmp 172) (.tmp 173) (.const (.bool false)),[],none⟩,
 ⟨some 175,.copy false (.tmp 3),[],none⟩,
 ⟨some 176,.copy false (.tmp 175),[],none⟩,
 ⟨some 177,.copy false (.tmp 12),[],some (176,true)⟩,
 ⟨some 178,.pick (.tmp 176) (.tmp 177) (.const (.bool false)),[],none⟩,
 ⟨some 2,.copy true (.tmp 174),[],none⟩,
 ⟨some 3,.copy true (.tmp 178),[],none⟩]
def F177r23 : List ROp := [⟨some 179,.bin .add (.tmp 162) (.const (.int .i64 1)),[],none⟩,
 ⟨some 162,.copy false (.tmp 179),[],none⟩]
def F177r24 : List ROp := [⟨some 180,.copy true (.tmp 2),[],none⟩,
 ⟨some 181,.copy true (.tmp 3),[],none⟩,
 ⟨some 2,.copy true (.tmp 180),[],none⟩,
 ⟨some 3,.copy true (.tmp 181),[],none⟩]
-- function 146: corollary/value.Check
def F146r0 : List ROp := [⟨some 1,.box 56 (.tmp 0),[],none⟩,
 ⟨some 2,.copy true (.const (.int .i64 0)),[],none⟩]
def F146r1 : List ROp := [⟨some 5,.load 4 true false (.tmp 1),[],none⟩,
 ⟨some 6,.call (.func 176) [.tmp 5,.const (.int .i64 65)],[],none⟩,
 ⟨some 7,.bin .gtr (.tmp 6) (.const (.int .i64 64)),[],none⟩]
def F146r2 : List ROp := [⟨some 2,.copy true (.const (.int .i64 65)),[],none⟩]
def F146r3 : List ROp := [⟨some 9,.load 4 true false (.tmp 1),[],none⟩,
 ⟨some 10,.call (.func 177) [.tmp 9],[],none⟩,
 ⟨some 8,.copy false (.tmp 10),[],none⟩,
 ⟨some 11,.ext (.tmp 8) 0,[],none⟩,
 ⟨some 12,.ext (.tmp 8) 1,[],none⟩,
 ⟨some 3,.copy true (.tmp 11),[],none⟩,
 ⟨some 4,.copy true (.tmp 12),[],none⟩]
def F146r4 : List ROp := [⟨some 14,.copy false (.tmp 3),[],none⟩,
 ⟨some 15,.un .not (.tmp 14),[],none⟩,
 ⟨some 13,.copy true (.tmp 15),[],none⟩]
def F146r5 : List ROp := [⟨some 2,.copy true (.const (.int .i64 4)),[],none⟩]
def F146r6 : List ROp := [⟨some 17,.copy false (.tmp 4),[],none⟩,
 ⟨some 18,.un .not (.tmp 17),[],none⟩,
 ⟨some 16,.copy true (.tmp 18),[],none⟩]
def F146r7 : List ROp := [⟨some 2,.copy true (.const (.int .i64 40)),[],none⟩]
def F146r8 : List ROp := [⟨some 2,.copy true (.const (.int .i64 0)),[],none⟩]
attribute [local simp] valX encV_eq
theorem depth_ok : ∀ (n : Nat) (v : ValD) (m : Int), vsize v < n → vsize v ≤ 4194304 → (vsize v : Int) - 4194304 ≤ m → m ≤ 65 → Con Tryz.prog 176 [valX v, ival m] (ival (depthT v m)) := by
 intro n
 induction n with
 | zero => intro v m h; omega
 | succ n ih =>
  intro v m hn hv hm1 hm2
  have hsz := vsize_eq v
  have hlen := vsizes_len v.l
  have hfe := depthT_eq v m
  have hle := depthT_le v m
  refine Con.of_code Tryz.func176 (by kernel_rfl) rfl (by simp [Tryz.ntmps176]) fun C hC hM => ?_
  refine AWp.seq ?_
  refine AWp.regK [1,2] [false,true] F176r0 [] (by kernel_rfl) (by rw [hC]; rfl) fun K hK => ?_
  simp (maxSteps := 2000000) [F176r0]
  refine hK _ ?_
  refine AWp.seq ?_
  refine AWp.regK [1,2,5] [true] F176r1 [] (by kernel_rfl) (by rw [hC]; rfl) fun K hK => ?_
  simp (maxSteps := 2000000) [F176r1]
  refine hK _ ?_
  refine AWp.seq ?_
  refine AWp.seq ?_
  refine AWp.regK [1,5,9,10,11] [] F176r2 [] (by kernel_rfl) (by rw [hC]; rfl) fun K hK => ?_
  simp (maxSteps := 2000000) [F176r2]
  refine hK _ ?_
  refine AWp.block ?_
  refine AWp.loopG (fun x : Nat × Nat => { tm := [(1, ival m), (5, ival x.2), (9, .rd 4 (v.l.map encV)), (10, ival v.l.length), (11, ival x.1)], hp := [] }) (fun x => x.1 ≤ v.l.length ∧ depthsT v.l m 0 = depthsT (v.l.drop x.1) m x.2) (fun x => v.l.length - x.1) (0, 0) ⟨by omega, by simp⟩ (by simp) (fun x hk => ?_)
  obtain ⟨k, d⟩ := x
  obtain ⟨hk1, hk2⟩ := hk
  simp only at hk1 hk2
  have hdl := depthsT_le (v.l.drop k) m d
  have hfin : ∀ d' : Nat, depthsT v.l m 0 = d' → IntKind.i64.wrap ((d' : Int) + 1) = ((depthT v m : Nat) : Int) := by
   intro d' hd'
   rw [hfe, hd', wrap_in (by omega) (by omega)]; omega
  refine AWp.seq ?_
  refine AWp.regK [1,5,9,10,11,12] [] F176r3 [] (by kernel_rfl) (by rw [hC]; rfl) fun K hK => ?_
  simp (maxSteps := 2000000) [F176r3]
  refine hK _ ?_
  refine AWp.seq ?_
  refine AWp.cond _ (by rfl) (fun hlt => ?_) (fun hge => ?_)
  ·skip
   have hlt : k < v.l.length := by simpa using hlt
   have hd := depthsT_drop v.l m k d hlt
   have hme := vsize_mem (List.getElem_mem hlt)
   have hw : IntKind.i64.wrap (m - 1) = m - 1 := wrap_in (by omega) (by omega)
   refine AWp.skip ?_
   refine AWp.seq ?_
   refine AWp.block ?_
   refine AWp.seq ?_
   refine AWp.regK [1,5,7,9,10,11] [false,false,false,true] F176r4 [] (by kernel_rfl) (by rw [hC]; rfl) fun K hK => ?_
   simp (maxSteps := 2000000) [F176r4, hlt]
   (repeat refine ⟨by first | omega | (intros; omega) | assumption, ?_⟩); refine hK _ ?_
   refine AWp.seq ?_
   refine AWp.seq ?_
   refine AWp.regK [1,5,7,9,10,11,17] [] F176r5 [] (by kernel_rfl) (by rw [hC]; rfl) fun K hK => ?_
   simp (maxSteps := 2000000) [F176r5, hlt]
   refine hK _ ?_
   refine AWp.cond _ (by rfl) (fun hb => ?_) (fun hb => ?_)
   ·skip
    simp at hb
    rw [if_pos (by omega)] at hd
    refine AWp.exit ?_
    refine AWp.seq ?_
    refine AWp.regK [4] [false,false,true] F176r8 [] (by kernel_rfl) (by rw [hC]; rfl) fun K hK => ?_
    simp (maxSteps := 2000000) [F176r8]
    (repeat refine ⟨by first | omega | (intros; omega) | assumption, ?_⟩); refine hK _ ?_
    repeat refine AWp.seq ?_
    refine AWp.ret ⟨.inr rfl, _, by simp [Tryz.results176] <;> rfl, ?_⟩
    refine .clos ?_ rfl
    simp [hfin d (by rw [hk2, hd])]
   simp at hb
   rw [if_neg (by omega)] at hd
   have hc := ih v.l[k] (m - 1) (by omega) (by omega) (by omega) (by omega)
   refine AWp.skip ?_
   refine AWp.regK [1,5,9,10,11] [false,false,false,false,false,false,true] F176r6 [{ r := ival (depthT v.l[k] (m - 1)) }] (by kernel_rfl) (by rw [hC]; rfl) fun K hK => ?_
   simp (maxSteps := 2000000) [F176r6, hw]
   (repeat first | refine ⟨by first | kernel_rfl | (intros; omega) | assumption, ?_⟩ | refine ⟨by intros; exact callOK rfl hc, ?_⟩); refine hK _ ?_
   refine AWp.regK [1,5,9,10,11] [] F176r7 [] (by kernel_rfl) (by rw [hC]; rfl) fun K hK => ?_
   simp (maxSteps := 2000000) [F176r7]
   (repeat refine ⟨by first | omega | (intros; omega) | assumption, ?_⟩); refine hK _ ?_
   refine ⟨(k + 1, max d (depthT v.l[k] (m - 1))), ⟨by simp; omega, by rw [hk2, hd]⟩, by simp; omega, ?_⟩
   simp [wrap_nat k (by omega)]
   split <;> omega
  have hge : ¬ k < v.l.length := by simpa using hge
  refine AWp.exit ?_
  refine AWp.seq ?_
  refine AWp.regK [4] [false,false,true] F176r8 [] (by kernel_rfl) (by rw [hC]; rfl) fun K hK => ?_
  simp (maxSteps := 2000000) [F176r8]
  (repeat refine ⟨by first | omega | (intros; omega) | assumption, ?_⟩); refine hK _ ?_
  repeat refine AWp.seq ?_
  refine AWp.ret ⟨.inr rfl, _, by simp [Tryz.results176] <;> rfl, ?_⟩
  refine .clos ?_ rfl
  rw [List.drop_eq_nil_of_le (by omega)] at hk2
  simp [hfin d (by rw [hk2]; simp [depthsT])]
def lookR (v : ValD) : AV := .tup [bval (form v), bval (fitsT v)]
theorem fitssT_drop (l : List ValD) (k : Nat) (h : k < l.length) : fitssT (l.drop k) = (fitsT l[k] && fitssT (l.drop (k + 1))) := by rw [List.drop_eq_getElem_cons h, fitssT]
set_option maxHeartbeats 2000000 in
theorem look_ok : ∀ (n : Nat) (v : ValD), vsize v < n → vsize v ≤ 4194304 → Con Tryz.prog 177 [valX v] (lookR v) := by
 intro n
 induction n with
 | zero => intro v h; omega
 | succ n ih =>
  intro v hn hv
  have hsz := vsize_eq v
  have hlen := vsizes_len v.l
  have hfe := form_eq v
  have hge := fitsT_eq v
  refine Con.of_code Tryz.func177 (by kernel_rfl) rfl (by simp [Tryz.ntmps177]) fun C hC hM => ?_
  refine AWp.seq ?_
  refine AWp.regK [1] [false,true,true] F177r0 [] (by kernel_rfl) (by rw [hC]; rfl) fun K hK => ?_
  simp (maxSteps := 2000000) [F177r0]
  refine hK _ ?_
  refine AWp.seq ?_
  refine AWp.regK [1,3] [false,false,false,false,false,false,false,false,false,false,false,false,false,false,true,true] F177r1 [] (by kernel_rfl) (by rw [hC]; rfl) fun K hK => ?_
  simp (maxSteps := 2000000) [F177r1]
  (repeat refine ⟨by first | omega | (intros; omega) | assumption, ?_⟩); refine hK _ ?_
  refine AWp.seqJ (fun _ : Unit => { tm := [(1, .ptr 1 0), (2, bval (formOwn v)), (3, bval (fitsOwnT v))], hp := [(1, .cells 205 [uval v.kind, ival v.n, sval v.s, .rd 4 (v.l.map encV)])] }) (fun _ => True) ?_ (fun hJ => ?_)
  ·skip
   rintro - -
   refine AWp.seq ?_
   refine AWp.seq ?_
   refine AWp.regK [2,3,160,161,162] [] F177r18 [] (by kernel_rfl) (by rw [hC]; rfl) fun K hK => ?_
   simp (maxSteps := 2000000) [F177r18]
   refine hK _ ?_
   refine AWp.block ?_
   refine AWp.loopG (fun x : Nat × Bool × Bool => { tm := [(2, bval x.2.1), (3, bval x.2.2), (160, .rd 4 (v.l.map encV)), (161, ival v.l.length), (162, ival x.1)], hp := [] }) (fun x => x.1 ≤ v.l.length ∧ form v = (x.2.1 && forms (v.l.drop x.1)) ∧ fitsT v = (x.2.2 && fitssT (v.l.drop x.1))) (fun x => v.l.length - x.1) (0, formOwn v, fitsOwnT v) ⟨by omega, by simpa using hfe, by simpa using hge⟩ (by simp) (fun x hk => ?_)
   obtain ⟨k, b, c⟩ := x
   obtain ⟨hk1, hk2, hk3⟩ := hk
   simp only at hk1 hk2 hk3
   refine AWp.seq ?_
   refine AWp.regK [2,3,160,161,162,163] [] F177r19 [] (by kernel_rfl) (by rw [hC]; rfl) fun K hK => ?_
   simp (maxSteps := 2000000) [F177r19]
   refine hK _ ?_
   refine AWp.seq ?_
   refine AWp.cond _ (by rfl) (fun hlt => ?_) (fun hge => ?_)
   ·skip
    have hlt : k < v.l.length := by simpa using hlt
    have hd := forms_drop v.l k hlt
    have hd2 := fitssT_drop v.l k hlt
    have hm := vsize_mem (List.getElem_mem hlt)
    have hc := ih v.l[k] (by omega) (by omega)
    refine AWp.skip ?_
    refine AWp.seq ?_
    refine AWp.block ?_
    refine AWp.seq ?_
    refine AWp.regK [2,3,10,160,161,162] [false,false,false,true] F177r20 [] (by kernel_rfl) (by rw [hC]; rfl) fun K hK => ?_
    simp (maxSteps := 2000000) [F177r20, hlt]
    (repeat refine ⟨by first | omega | (intros; omega) | assumption, ?_⟩); refine hK _ ?_
    refine AWp.seq ?_
    refine AWp.regK [2,3,11,12,160,161,162] [false,false,false,false,false,true,true] F177r21 [{ r := lookR v.l[k] }] (by kernel_rfl) (by rw [hC]; rfl) fun K hK => ?_
    simp (maxSteps := 2000000) [F177r21, lookR]
    (repeat first | refine ⟨by first | kernel_rfl | (intros; omega) | assumption, ?_⟩ | refine ⟨by intros; exact callOK rfl hc, ?_⟩); refine hK _ ?_
    refine AWp.regK [2,3,160,161,162] [false,false,false,false,false,false,false,false,true,true] F177r22 [] (by kernel_rfl) (by rw [hC]; rfl) fun K hK => ?_
    simp (maxSteps := 2000000) [F177r22]
    (repeat refine ⟨by first | omega | (intros; omega) | assumption, ?_⟩); refine hK _ ?_
    refine AWp.regK [2,3,160,161,162] [] F177r23 [] (by kernel_rfl) (by rw [hC]; rfl) fun K hK => ?_
    simp (maxSteps := 2000000) [F177r23]
    (repeat refine ⟨by first | omega | (intros; omega) | assumption, ?_⟩); refine hK _ ?_
    refine ⟨(k + 1, b && form v.l[k], c && fitsT v.l[k]), ⟨by simp; omega, by rw [hk2, hd]; simp [Bool.and_assoc], by rw [hk3, hd2]; simp [Bool.and_assoc]⟩, by simp; omega, ?_⟩
    simp [wrap_nat k (by omega)]
   have hge : ¬ k < v.l.length := by simpa using hge
   refine AWp.exit ?_
   refine AWp.seq ?_
   refine AWp.regK [2,3] [true,true,true,true] F177r24 [] (by kernel_rfl) (by rw [hC]; rfl) fun K hK => ?_
   simp (maxSteps := 2000000) [F177r24]
   refine hK _ ?_
   repeat refine AWp.seq ?_
   refine AWp.ret ⟨.inr rfl, _, by simp [Tryz.results177] <;> rfl, ?_⟩
   refine .clos ?_ rfl
   unfold lookR
   rw [hk2, hk3, List.drop_eq_nil_of_le (by omega)]; simp [forms, fitssT]
  ·skip
   refine AWp.seq ?_
   refine AWp.regK [1,3,28] [] F177r2 [] (by kernel_rfl) (by rw [hC]; rfl) fun K hK => ?_
   simp (maxSteps := 2000000) [F177r2]
   refine hK _ ?_
   refine AWp.block ?_
   refine AWp.seq ?_
   refine AWp.regK [1,3,28,29] [false,true] F177r4 [] (by kernel_rfl) (by rw [hC]; rfl) fun K hK => ?_
   simp (maxSteps := 2000000) [F177r4]
   refine hK _ ?_
   refine AWp.cond _ (by rfl) (fun h1 => ?_) (fun h1 => ?_)
   ·skip
    have h1 : v.kind = 1 := by simpa using h1
    refine AWp.regK [1,2,3] [false,false,false,false,false,false,false,false,false,false,false,false,false,false,false,false,false,false,false,true] F177r5 [] (by kernel_rfl) (by rw [hC]; rfl) fun K hK => ?_
    simp (maxSteps := 2000000) [F177r5]
    (repeat refine ⟨by first | omega | (intros; omega) | assumption, ?_⟩); refine hK _ ?_
    refine hJ _ () trivial ?_
    have e1 : formOwn v = ((decide (v.n = 0) || decide (v.n = 1)) && decide (v.s = ⟨#[]⟩) && decide (v.l.length = 0)) := by unfold formOwn; rw [if_pos h1]
    have e2 : fitsOwnT v = true := by unfold fitsOwnT; rw [if_neg (by omega), if_neg (by omega), if_neg (by omega), if_neg (by omega)]
    rw [e1, e2]
    simp [Bool.and_assoc]
   have h1 : ¬ v.kind = 1 := by simpa using h1
   refine AWp.seq ?_
   refine AWp.regK [1,3,28,50] [false,true] F177r6 [] (by kernel_rfl) (by rw [hC]; rfl) fun K hK => ?_
   simp (maxSteps := 2000000) [F177r6]
   refine hK _ ?_
   refine AWp.cond _ (by rfl) (fun h2 => ?_) (fun h2 => ?_)
   ·skip
    have h2 : v.kind = 2 := by simpa using h2
    refine AWp.regK [1,2,3] [false,false,false,false,false,false,false,false,false,true] F177r7 [] (by kernel_rfl) (by rw [hC]; rfl) fun K hK => ?_
    simp (maxSteps := 2000000) [F177r7]
    (repeat refine ⟨by first | omega | (intros; omega) | assumption, ?_⟩); refine hK _ ?_
    refine hJ _ () trivial ?_
    have e1 : formOwn v = (decide (v.s = ⟨#[]⟩) && decide (v.l.length = 0)) := by unfold formOwn; rw [if_neg h1, if_pos h2]
    have e2 : fitsOwnT v = true := by unfold fitsOwnT; rw [if_neg (by omega), if_neg (by omega), if_neg (by omega), if_neg (by omega)]
    rw [e1, e2]
    simp
   have h2 : ¬ v.kind = 2 := by simpa using h2
   refine AWp.seq ?_
   refine AWp.regK [1,3,28,61] [false,true] F177r8 [] (by kernel_rfl) (by rw [hC]; rfl) fun K hK => ?_
   simp (maxSteps := 2000000) [F177r8]
   refine hK _ ?_
   refine AWp.cond _ (by rfl) (fun h3 => ?_) (fun h3 => ?_)
   ·skip
    have h3 : v.kind = 3 := by simpa using h3
    have hc := number_ok v.s (by omega)
    refine AWp.seq ?_
    refine AWp.regK [1,4,5] [false,false,false,false,false,false,true,true] F177r9 [{ r := .tup [ival (numLen v.s),bval (numOk v.s)] }] (by kernel_rfl) (by rw [hC]; rfl) fun K hK => ?_
    simp (maxSteps := 2000000) [F177r9]
    (repeat first | refine ⟨by first | kernel_rfl | (intros; omega) | assumption, ?_⟩ | refine ⟨by intros; exact callOK rfl hc, ?_⟩); refine hK _ ?_
    refine AWp.regK [1,2,3] [false,false,false,false,false,false,false,false,false,false,false,false,false,false,true,true] F177r10 [] (by kernel_rfl) (by rw [hC]; rfl) fun K hK => ?_
    simp (maxSteps := 2000000) [F177r10]
    (repeat refine ⟨by first | omega | (intros; omega) | assumption, ?_⟩); refine hK _ ?_
    refine hJ _ () trivial ?_
    have e1 : formOwn v = (decide (v.n = 0) && decide (v.l.length = 0) && Number v.s) := by unfold formOwn; rw [if_neg h1, if_neg h2, if_pos h3]
    have e2 : fitsOwnT v = decide (numLen v.s ≤ 200) := by unfold fitsOwnT; rw [if_pos h3]
    rw [e1, e2, num_same]
    simp
    cases Number v.s <;> cases decide (v.n = 0) <;> cases decide (v.l = []) <;> rfl
   have h3 : ¬ v.kind = 3 := by simpa using h3
   refine AWp.seq ?_
   refine AWp.regK [1,3,28,83] [false,true] F177r11 [] (by kernel_rfl) (by rw [hC]; rfl) fun K hK => ?_
   simp (maxSteps := 2000000) [F177r11]
   refine hK _ ?_
   refine AWp.cond _ (by rfl) (fun h4 => ?_) (fun h4 => ?_)
   ·skip
    have h4 : v.kind = 4 := by simpa using h4
    refine AWp.regKL ops_mixed [[],[0],[0,1],[0,1,2],[0,1,2,3],[0,1,2,3,4],[0,1,2,3,4,5],[0,1,2,3,4,5,6],[0,1,2,3,4,5,6,7],[],[9],[9,10],[9,10,11],[0,1,2,3,4,5,6,7,8],[0,1,2,3,4,5,6,7,8,9,10,11,12,13]] [1,2,3] [false,false,false,false,false,false,false,false,false,false,false,false,false,true,true] F177r12 [] (by kernel_rfl) (by rw [hC]; rfl) (by kernel_rfl) (by kernel_rfl) fun K hK => ?_
    simp (maxSteps := 2000000) [F177r12]
    (repeat refine ⟨by first | omega | (intros; omega) | assumption, ?_⟩); first | refine hK _ ?_ | refine ⟨by kernel_rfl, hK _ ?_⟩
    refine hJ _ () trivial ?_
    have e1 : formOwn v = (decide (v.n = 0) && decide (v.l.length = 0)) := by unfold formOwn; rw [if_neg h1, if_neg h2, if_neg h3, if_pos h4]
    have e2 : fitsOwnT v = decide (v.s.size ≤ 4096) := by unfold fitsOwnT; rw [if_neg h3, if_pos h4]
    rw [e1, e2]
    simp
    omega
   have h4 : ¬ v.kind = 4 := by simpa using h4
   refine AWp.seq ?_
   refine AWp.regK [1,3,28,98] [false,true] F177r13 [] (by kernel_rfl) (by rw [hC]; rfl) fun K hK => ?_
   simp (maxSteps := 2000000) [F177r13]
   refine hK _ ?_
   refine AWp.cond _ (by rfl) (fun h5 => ?_) (fun h5 => ?_)
   ·skip
    have h5 : v.kind = 5 := by simpa using h5
    refine AWp.regKL ops_mixed [[],[0],[0,1],[0,1,2],[0,1,2,3],[0,1,2,3,4],[0,1,2,3,4,5],[0,1,2,3,4,5,6],[0,1,2,3,4,5,6,7],[0,1,2,3,4,5,6,7,8],[0,1,2,3,4,5,6,7,8,9],[0,1,2,3,4,5,6,7,8,9,10],[0,1,2,3,4,5,6,7,8,9,10,11],[0,1,2,3,4,5,6,7,8,9,10,11,12],[],[14],[14,15],[14,15,16],[0,1,2,3,4,5,6,7,8,9,10,11,12,13],[0,1,2,3,4,5,6,7,8,9,10,11,12,13,14,15,16,17,18]] [1,2,3] [false,false,false,false,false,false,false,false,false,false,false,false,false,false,false,false,false,false,true,true] F177r14 [] (by kernel_rfl) (by rw [hC]; rfl) (by kernel_rfl) (by kernel_rfl) fun K hK => ?_
    simp (maxSteps := 2000000) [F177r14]
    (repeat refine ⟨by first | omega | (intros; omega) | assumption, ?_⟩); first | refine hK _ ?_ | refine ⟨by kernel_rfl, hK _ ?_⟩
    refine hJ _ () trivial ?_
    have e1 : formOwn v = (decide (v.n = 0) && decide (v.s = ⟨#[]⟩) && !decide (v.l.length = 1)) := by unfold formOwn; rw [if_neg h1, if_neg h2, if_neg h3, if_neg h4, if_pos h5]
    have e2 : fitsOwnT v = decide (v.l.length ≤ 16) := by unfold fitsOwnT; rw [if_neg h3, if_neg h4, if_pos h5]
    rw [e1, e2]
    simp [Bool.and_assoc]
    omega
   have h5 : ¬ v.kind = 5 := by simpa using h5
   refine AWp.seq ?_
   refine AWp.regK [1,3,118] [false,true] F177r15 [] (by kernel_rfl) (by rw [hC]; rfl) fun K hK => ?_
   simp (maxSteps := 2000000) [F177r15]
   refine hK _ ?_
   refine AWp.cond _ (by rfl) (fun h6 => ?_) (fun h6 => ?_)
   ·skip
    have h6 : v.kind = 6 := by simpa using h6
    have hc := Cut_ok v.s (by omega)
    have hL : (cutL v.s).size ≤ v.s.size := by unfold cutL; split; exact ext_le _ _ _; omega
    have hR : (cutR v.s).size ≤ v.s.size := by unfold cutR; split; exact ext_le _ _ _; exact Nat.zero_le _
    have hc2 := name_ok (cutL v.s) (by omega)
    have hc3 := name_ok (cutR v.s) (by omega)
    have hcn := cut_names v.s
    have ht1 : tTrue = ⟨#[116, 114, 117, 101]⟩ := rfl
    have ht2 : tFalse = ⟨#[102, 97, 108, 115, 101]⟩ := rfl
    refine AWp.seq ?_
    refine AWp.regK [1,6,7,8] [false,false,false,false,false,false,false,true,true,true] F177r16 [{ r := .tup [sval (cutL v.s),sval (cutR v.s),bval (cutF v.s)] }] (by kernel_rfl) (by rw [hC]; rfl) fun K hK => ?_
    simp (maxSteps := 2000000) [F177r16]
    (repeat first | refine ⟨by first | kernel_rfl | (intros; omega) | assumption, ?_⟩ | refine ⟨by intros; exact callOK rfl hc, ?_⟩); refine hK _ ?_
    refine AWp.regKL ops_mixed [[],[0],[0,1],[0,1,2],[0,1,2,3],[0,1,2,3,4],[0,1,2,3,4,5],[0,1,2,3,4,5,6],[0,1,2,3,4,5,6,7],[0,1,2,3,4,5,6,7,8],[0,1,2,3,4,5,6,7,8,9],[0,1,2,3,4,5,6,7,8,9,10],[0,1,2,3,4,5,6,7,8,9,10,11],[0,1,2,3,4,5,6,7,8,9,10,11,12],[0,1,2,3,4,5,6,7,8,9,10,11,12,13],[0,1,2,3,4,5,6,7,8,9,10,11,12,13,14],[0,1,2,3,4,5,6,7,8,9,10,11,12,13,14,15],[0,1,2,3,4,5,6,7,8,9,10,11,12,13,14,15,16],[0,1,2,3,4,5,6,7,8,9,10,11,12,13,14,15,16,17],[0,1,2,3,4,5,6,7,8,9,10,11,12,13,14,15,16,17,18],[0,1,2,3,4,5,6,7,8,9,10,11,12,13,14,15,16,17,18,19],[0,1,2,3,4,5,6,7,8,9,10,11,12,13,14,15,16,17,18,19,20],[0,1,2,3,4,5,6,7,8,9,10,11,12,13,14,15,16,17,18,19,20,21],[0,1,2,3,4,5,6,7,8,9,10,11,12,13,14,15,16,17,18,19,20,21,22],[0,1,2,3,4,5,6,7,8,9,10,11,12,13,14,15,16,17,18,19,20,21,22,23],[0,1,2,3,4,5,6,7,8,9,10,11,12,13,14,15,16,17,18,19,20,21,22,23,24],[0,1,2,3,4,5,6,7,8,9,10,11,12,13,14,15,16,17,18,19,20,21,22,23,24,25],[0,1,2,3,4,5,6,7,8,9,10,11,12,13,14,15,16,17,18,19,20,21,22,23,24,25,26],[],[28],[28,29],[28,29,30],[0,1,2,3,4,5,6,7,8,9,10,11,12,13,14,15,16,17,18,19,20,21,22,23,24,25,26,27],[0,1,2,3,4,5,6,7,8,9,10,11,12,13,14,15,16,17,18,19,20,21,22,23,24,25,26,27,28,29,30,31,32]] [1,2,3] [false,false,false,false,false,false,false,false,false,false,false,false,false,false,false,false,false,false,false,false,false,false,false,false,false,false,false,false,false,false,false,false,true,true] F177r17 [{ r := bval (Name (cutL v.s)) },{ r := bval (Name (cutR v.s)) }] (by kernel_rfl) (by rw [hC]; rfl) (by kernel_rfl) (by kernel_rfl) fun K hK => ?_
    simp (maxSteps := 2000000) [F177r17]
    (repeat first | refine ⟨by first | kernel_rfl | (intros; omega) | assumption, ?_⟩ | refine ⟨by intros; exact callOK rfl hc2, ?_⟩ | refine ⟨by intros; exact callOK rfl hc3, ?_⟩); refine hK _ ?_
    refine hJ _ () trivial ?_
    have e1 : formOwn v = (decide (v.n = 0) && Names v.s) := by unfold formOwn; rw [if_neg h1, if_neg h2, if_neg h3, if_neg h4, if_neg h5, if_pos h6]
    have e2 : fitsOwnT v = decide (v.l.length ≤ 8) := by unfold fitsOwnT; rw [if_neg h3, if_neg h4, if_neg h5, if_pos h6]
    rw [e1, e2, ← hcn, ht1, ht2]
    simp [show decide ((v.l.length : Int) ≤ 8) = decide (v.l.length ≤ 8) from decide_eq_decide.2 (by omega)]
    cases decide (v.n = 0) <;> cases Name (cutL v.s) <;> cases cutF v.s <;> cases Name (cutR v.s) <;> simp
   have h6 : ¬ v.kind = 6 := by simpa using h6
   refine AWp.regK [1,2,3] [true] F177r3 [] (by kernel_rfl) (by rw [hC]; rfl) fun K hK => ?_
   simp (maxSteps := 2000000) [F177r3]
   refine hK _ ?_
   refine hJ _ () trivial ?_
   have e1 : formOwn v = false := by unfold formOwn; rw [if_neg h1, if_neg h2, if_neg h3, if_neg h4, if_neg h5, if_neg h6]
   have e2 : fitsOwnT v = true := by unfold fitsOwnT; rw [if_neg (by omega), if_neg (by omega), if_neg (by omega), if_neg (by omega)]
   rw [e1, e2]
   simp
theorem CheckP_ok (v : ValD) (hv : vsize v ≤ 4194304) : Con Tryz.prog 146 [valX v] (ival (Check v)) := by
 have h1 := depth_ok _ v 65 (Nat.lt_succ_self _) hv (by omega) (by omega)
 have h2 := look_ok _ v (Nat.lt_succ_self _) hv
 have hcs := Check_same v
 refine Con.of_code Tryz.func146 (by kernel_rfl) rfl (by simp [Tryz.ntmps146]) fun C hC hM => ?_
 refine AWp.seq ?_
 refine AWp.regK [1] [false,true] F146r0 [] (by kernel_rfl) (by rw [hC]; rfl) fun K hK => ?_
 simp (maxSteps := 2000000) [F146r0]
 refine hK _ ?_
 refine AWp.seq ?_
 refine AWp.seq ?_
 refine AWp.regK [1,7] [] F146r1 [{ r := ival (depthT v 65) }] (by kernel_rfl) (by rw [hC]; rfl) fun K hK => ?_
 simp (maxSteps := 2000000) [F146r1]
 (repeat first | refine ⟨by first | kernel_rfl | (intros; omega) | assumption, ?_⟩ | refine ⟨by intros; exact callOK rfl h1, ?_⟩); refine hK _ ?_
 refine AWp.cond _ (by rfl) (fun hd => ?_) (fun hd => ?_)
 ·skip
  refine AWp.seq ?_
  refine AWp.regK [2] [true] F146r2 [] (by kernel_rfl) (by rw [hC]; rfl) fun K hK => ?_
  simp (maxSteps := 2000000) [F146r2]
  refine hK _ ?_
  repeat refine AWp.seq ?_
  refine AWp.ret ⟨.inr rfl, _, by simp [Tryz.results146] <;> rfl, ?_⟩
  refine .clos ?_ rfl
  simp at hd
  rw [← hcs, if_pos (by omega)]; rfl
 simp at hd
 rw [if_neg (by omega)] at hcs
 refine AWp.skip ?_
 refine AWp.seq ?_
 refine AWp.seq ?_
 refine AWp.regK [3,4] [false,false,false,false,false,true,true] F146r3 [{ r := lookR v }] (by kernel_rfl) (by rw [hC]; rfl) fun K hK => ?_
 simp (maxSteps := 2000000) [F146r3, lookR]
 (repeat first | refine ⟨by first | kernel_rfl | (intros; omega) | assumption, ?_⟩ | refine ⟨by intros; exact callOK rfl h2, ?_⟩); refine hK _ ?_
 refine AWp.block ?_
 refine AWp.seq ?_
 refine AWp.regK [4,13] [false,false,true] F146r4 [] (by kernel_rfl) (by rw [hC]; rfl) fun K hK => ?_
 simp (maxSteps := 2000000) [F146r4]
 refine hK _ ?_
 refine AWp.cond _ (by rfl) (fun hf => ?_) (fun hf => ?_)
 ·skip
  refine AWp.seq ?_
  refine AWp.regK [2] [true] F146r5 [] (by kernel_rfl) (by rw [hC]; rfl) fun K hK => ?_
  simp (maxSteps := 2000000) [F146r5]
  refine hK _ ?_
  repeat refine AWp.seq ?_
  refine AWp.ret ⟨.inr rfl, _, by simp [Tryz.results146] <;> rfl, ?_⟩
  refine .clos ?_ rfl
  simp at hf
  rw [← hcs, if_pos hf]; rfl
 simp at hf
 rw [if_neg (by simp [hf])] at hcs
 refine AWp.seq ?_
 refine AWp.regK [16] [false,false,true] F146r6 [] (by kernel_rfl) (by rw [hC]; rfl) fun K hK => ?_
 simp (maxSteps := 2000000) [F146r6]
 refine hK _ ?_
 refine AWp.cond _ (by rfl) (fun hg => ?_) (fun hg => ?_)
 ·skip
  refine AWp.seq ?_
  refine AWp.regK [2] [true] F146r7 [] (by kernel_rfl) (by rw [hC]; rfl) fun K hK => ?_
  simp (maxSteps := 2000000) [F146r7]
  refine hK _ ?_
  repeat refine AWp.seq ?_
  refine AWp.ret ⟨.inr rfl, _, by simp [Tryz.results146] <;> rfl, ?_⟩
  refine .clos ?_ rfl
  simp at hg
  rw [← hcs, if_pos hg]; rfl
 simp at hg
 refine AWp.skip ?_
 refine AWp.seq ?_
 refine AWp.regK [2] [true] F146r8 [] (by kernel_rfl) (by rw [hC]; rfl) fun K hK => ?_
 simp (maxSteps := 2000000) [F146r8]
 refine hK _ ?_
 repeat refine AWp.seq ?_
 refine AWp.ret ⟨.inr rfl, _, by simp [Tryz.results146] <;> rfl, ?_⟩
 refine .clos ?_ rfl
 rw [← hcs, if_neg (by simp [hg])]; rfl