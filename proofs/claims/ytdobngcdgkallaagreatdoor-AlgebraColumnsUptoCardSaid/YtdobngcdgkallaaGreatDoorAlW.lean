/- The writer: the text of an expression. -/
import Derived.Test.YtdobngcdgkallaaGreatDoorAlU
import Derived.Test.YtdobngcdgkallaaGreatDoorAlQ
set_option linter.unusedSimpArgs false
set_option linter.unusedVariables false
set_option linter.unusedSectionVars false
open Go Go.Aw Go.Proofs
namespace Go.Al
set_option maxRecDepth 20000
-- function 158: (*corollary/tree.writer).texts
def F158r0 : List ROp := [⟨some 6,.copy false (.tmp 1),[],none⟩,
 ⟨some 7,.len 0 (.tmp 6),[],none⟩,
 ⟨some 8,.copy false (.const (.int .i64 0)),[],none⟩]
def F158r1 : List ROp := [⟨some 9,.bin .lss (.tmp 8) (.tmp 7),[],none⟩]
def F158r2 : List ROp := [⟨some 10,.iad 1 (.tmp 6) (.tmp 8),[],none⟩,
 ⟨some 11,.load 1 false false (.tmp 10),[],none⟩,
 ⟨some 5,.copy true (.tmp 11),[],none⟩]
def F158r3 : List ROp := [⟨some 12,.copy false (.tmp 0),[],none⟩,
 ⟨some 13,.x1 0 (.tmp 12),[],none⟩,
 ⟨some 14,.fad 0 (.tmp 13),[],none⟩,
 ⟨some 15,.copy false (.tmp 5),[],none⟩,
 ⟨some 16,.call (.func 100) [.tmp 14,.tmp 15],[],none⟩]
def F158r4 : List ROp := [⟨some 17,.bin .add (.tmp 8) (.const (.int .i64 1)),[],none⟩,
 ⟨some 8,.copy false (.tmp 17),[],none⟩]
-- function 156: corollary/tree.list[corollary/api.Expr]
def F156r0 : List ROp := [⟨some 10,.copy false (.tmp 1),[],none⟩,
 ⟨some 11,.len 0 (.tmp 10),[],none⟩,
 ⟨some 12,.copy false (.const (.int .i64 0)),[],none⟩]
def F156r1 : List ROp := [⟨some 13,.bin .lss (.tmp 12) (.tmp 11),[],none⟩]
def F156r2 : List ROp := [⟨some 14,.copy true (.tmp 12),[],none⟩,
 ⟨some 15,.iad 9 (.tmp 10) (.tmp 12),[],none⟩,
 ⟨some 16,.load 9 true false (.tmp 15),[],none⟩,
 ⟨some 9,.alloc 58 [Value.int .u8 0,Value.int .i64 0,Value.int .i64 0,Value.string ByteArray.empty,Value.int .u8 0,Value.int .i64 0,Value.string ByteArray.empty,Value.slice none 0 0,Value.slice none 0 0],[],none⟩,
 ⟨some 8,.copy true (.tmp 14),[],none⟩,
 ⟨none,.store 9 true (.tmp 9) (.tmp 16),[],none⟩]
def F156r3 : List ROp := [⟨some 17,.copy false (.tmp 8),[],none⟩,
 ⟨some 18,.bin .gtr (.tmp 17) (.const (.int .i64 0)),[],none⟩]
def F156r4 : List ROp := [⟨some 19,.copy false (.tmp 0),[],none⟩,
 ⟨some 20,.x1 0 (.tmp 19),[],none⟩,
 ⟨some 21,.fad 0 (.tmp 20),[],none⟩,
 ⟨some 22,.copy false (.tmp 2),[],none⟩,
 ⟨some 23,.call (.func 100) [.tmp 21,.tmp 22],[],none⟩]
def F156r5 : List ROp := [⟨some 24,.copy false (.tmp 3),[],none⟩,
 ⟨some 25,.load 9 true false (.tmp 9),[],none⟩,
 ⟨some 26,.call (.tmp 24) [.tmp 25],[],none⟩]
def F156r6 : List ROp := [⟨some 27,.bin .add (.tmp 12) (.const (.int .i64 1)),[],none⟩,
 ⟨some 12,.copy false (.tmp 27),[],none⟩]
-- function 103: corollary/tree.brackets[corollary/api.Expr]
def F103r0 : List ROp := [⟨some 6,.copy false (.tmp 0),[],none⟩,
 ⟨some 7,.x1 0 (.tmp 6),[],none⟩,
 ⟨some 8,.fad 0 (.tmp 7),[],none⟩,
 ⟨some 9,.call (.func 102) [.tmp 8,.const (.int .u8 40)],[],none⟩]
def F103r1 : List ROp := [⟨some 10,.copy false (.tmp 0),[],none⟩,
 ⟨some 11,.copy false (.tmp 1),[],none⟩,
 ⟨some 12,.copy false (.tmp 2),[],none⟩,
 ⟨some 13,.call (.func 156) [.tmp 10,.tmp 11,.const (.string { data := #[44,32] }),.tmp 12],[],none⟩]
def F103r2 : List ROp := [⟨some 14,.copy false (.tmp 0),[],none⟩,
 ⟨some 15,.x1 0 (.tmp 14),[],none⟩,
 ⟨some 16,.fad 0 (.tmp 15),[],none⟩,
 ⟨some 17,.call (.func 102) [.tmp 16,.const (.int .u8 41)],[],none⟩]
-- function 105: (*corollary/tree.writer).field
def F105r0 : List ROp := [⟨some 3,.box 58 (.tmp 1),[],none⟩]
def F105r1 : List ROp := [⟨some 5,.fad 8 (.tmp 3),[],none⟩,
 ⟨some 6,.load 1 false false (.tmp 5),[],none⟩,
 ⟨some 7,.iad 9 (.tmp 6) (.const (.int .i64 0)),[],none⟩,
 ⟨some 8,.load 9 true false (.tmp 7),[],none⟩,
 ⟨some 4,.alloc 58 [Value.int .u8 0,Value.int .i64 0,Value.int .i64 0,Value.string ByteArray.empty,Value.int .u8 0,Value.int .i64 0,Value.string ByteArray.empty,Value.slice none 0 0,Value.slice none 0 0],[],none⟩,
 ⟨none,.store 9 true (.tmp 4) (.tmp 8),[],none⟩]
def F105r2 : List ROp := [⟨some 9,.fad 0 (.tmp 4),[],none⟩,
 ⟨some 10,.load 1 false false (.tmp 9),[],none⟩,
 ⟨some 11,.bin .eql (.tmp 10) (.const (.int .u8 1)),[],none⟩,
 ⟨some 12,.copy false (.tmp 11),[],none⟩,
 ⟨some 13,.fad 0 (.tmp 4),[],some (12,false)⟩,
 ⟨some 14,.load 1 false false (.tmp 13),[],some (12,false)⟩,
 ⟨some 15,.bin .eql (.tmp 14) (.const (.int .u8 5)),[],some (12,false)⟩,
 ⟨some 16,.pick (.tmp 12) (.const (.bool true)) (.tmp 15),[],none⟩,
 ⟨some 17,.copy false (.tmp 16),[],none⟩,
 ⟨some 18,.fad 0 (.tmp 4),[],some (17,false)⟩,
 ⟨some 19,.load 1 false false (.tmp 18),[],some (17,false)⟩,
 ⟨some 20,.bin .eql (.tmp 19) (.const (.int .u8 6)),[],some (17,false)⟩,
 ⟨some 21,.copy false (.tmp 20),[],some (17,false)⟩,
 ⟨some 22,.fad 3 (.tmp 4),[],some (21,true)⟩,
 ⟨some 23,.load 1 false false (.tmp 22),[],some (21,true)⟩,
 ⟨some 24,.call (.func 157) [.tmp 23],[],some (21,true)⟩,
 ⟨some 25,.pick (.tmp 21) (.tmp 24) (.const (.bool false)),[],some (17,false)⟩,
 ⟨some 26,.pick (.tmp 17) (.const (.bool true)) (.tmp 25),[],none⟩]
def F105r3 : List ROp := [⟨some 27,.copy false (.tmp 0),[],none⟩,
 ⟨some 28,.fad 8 (.tmp 3),[],none⟩,
 ⟨some 29,.load 1 false false (.tmp 28),[],none⟩,
 ⟨some 30,.copy false (.tmp 0),[],none⟩,
 ⟨some 31,.mkf (Go.Fn.methodOf 76 "") [.tmp 30],[],none⟩,
 ⟨some 32,.call (.func 103) [.tmp 27,.tmp 29,.tmp 31],[],none⟩]
def F105r4 : List ROp := [⟨some 33,.copy false (.tmp 0),[],none⟩,
 ⟨some 34,.load 9 true false (.tmp 4),[],none⟩,
 ⟨some 35,.call (.func 76) [.tmp 33,.tmp 34],[],none⟩]
def F105r5 : List ROp := [⟨some 36,.copy false (.tmp 0),[],none⟩,
 ⟨some 37,.fad 3 (.tmp 3),[],none⟩,
 ⟨some 38,.load 1 false false (.tmp 37),[],none⟩,
 ⟨some 39,.bslice 9 1 [Value.string ByteArray.empty] 2 [(0,.const (.string { data := #[46] })),(1,.tmp 38)],[],none⟩,
 ⟨some 40,.call (.func 158) [.tmp 36,.tmp 39],[],none⟩]
-- function 104: (*corollary/tree.writer).call
def F104r0 : List ROp := [⟨some 3,.box 58 (.tmp 1),[],none⟩]
def F104r1 : List ROp := [⟨some 4,.copy false (.tmp 0),[],none⟩,
 ⟨some 5,.x1 0 (.tmp 4),[],none⟩,
 ⟨some 6,.fad 0 (.tmp 5),[],none⟩,
 ⟨some 7,.call (.func 102) [.tmp 6,.const (.int .u8 40)],[],none⟩]
def F104r2 : List ROp := [⟨some 8,.copy false (.tmp 0),[],none⟩,
 ⟨some 9,.fad 8 (.tmp 3),[],none⟩,
 ⟨some 10,.load 1 false false (.tmp 9),[],none⟩,
 ⟨some 11,.fad 3 (.tmp 3),[],none⟩,
 ⟨some 12,.load 1 false false (.tmp 11),[],none⟩,
 ⟨some 13,.bin .add (.const (.string { data := #[32] })) (.tmp 12),[],none⟩,
 ⟨some 14,.bin .add (.tmp 13) (.const (.string { data := #[32] })),[],none⟩,
 ⟨some 15,.copy false (.tmp 0),[],none⟩,
 ⟨some 16,.mkf (Go.Fn.methodOf 76 "") [.tmp 15],[],none⟩,
 ⟨some 17,.call (.func 156) [.tmp 8,.tmp 10,.tmp 14,.tmp 16],[],none⟩]
def F104r3 : List ROp := [⟨some 18,.copy false (.tmp 0),[],none⟩,
 ⟨some 19,.x1 0 (.tmp 18),[],none⟩,
 ⟨some 20,.fad 0 (.tmp 19),[],none⟩,
 ⟨some 21,.call (.func 102) [.tmp 20,.const (.int .u8 41)],[],none⟩]
def F104r4 : List ROp := [⟨some 23,.fad 3 (.tmp 3),[],none⟩,
 ⟨some 24,.load 1 false false (.tmp 23),[],none⟩,
 ⟨some 25,.call (.func 157) [.tmp 24],[],none⟩,
 ⟨some 22,.copy true (.tmp 25),[],none⟩]
def F104r5 : List ROp := [⟨some 26,.copy false (.tmp 0),[],none⟩,
 ⟨some 27,.x1 0 (.tmp 26),[0],none⟩,
 ⟨some 28,.fad 0 (.tmp 27),[1],none⟩,
 ⟨some 29,.fad 3 (.tmp 3),[],none⟩,
 ⟨some 30,.load 1 false false (.tmp 29),[3],none⟩,
 ⟨some 31,.call (.func 100) [.tmp 28,.tmp 30],[2,4],none⟩]
def F104r6 : List ROp := [⟨some 32,.copy false (.tmp 0),[],none⟩,
 ⟨some 33,.fad 8 (.tmp 3),[],none⟩,
 ⟨some 34,.load 1 false false (.tmp 33),[],none⟩,
 ⟨some 35,.copy false (.tmp 0),[],none⟩,
 ⟨some 36,.mkf (Go.Fn.methodOf 76 "") [.tmp 35],[],none⟩,
 ⟨some 37,.call (.func 103) [.tmp 32,.tmp 34,.tmp 36],[],none⟩]
def F104r7 : List ROp := [⟨some 39,.fad 8 (.tmp 3),[],none⟩,
 ⟨some 40,.load 1 false false (.tmp 39),[],none⟩,
 ⟨some 41,.len 0 (.tmp 40),[],none⟩,
 ⟨some 42,.bin .eql (.tmp 41) (.const (.int .i64 1)),[],none⟩,
 ⟨some 38,.copy true (.tmp 42),[],none⟩]
def F104r8 : List ROp := [⟨some 43,.copy false (.tmp 0),[],none⟩,
 ⟨some 44,.fad 3 (.tmp 3),[],none⟩,
 ⟨some 45,.load 1 false false (.tmp 44),[],none⟩,
 ⟨some 46,.bslice 9 1 [Value.string ByteArray.empty] 3 [(0,.const (.string { data := #[40] })),(1,.tmp 45),(2,.const (.string { data := #[32] }))],[],none⟩,
 ⟨some 47,.call (.func 158) [.tmp 43,.tmp 46],[],none⟩]
def F104r9 : List ROp := [⟨some 48,.copy false (.tmp 0),[],none⟩,
 ⟨some 49,.fad 8 (.tmp 3),[],none⟩,
 ⟨some 50,.load 1 false false (.tmp 49),[],none⟩,
 ⟨some 51,.iad 9 (.tmp 50) (.const (.int .i64 0)),[],none⟩,
 ⟨some 52,.load 9 true false (.tmp 51),[],none⟩,
 ⟨some 53,.call (.func 76) [.tmp 48,.tmp 52],[],none⟩]
def F104r10 : List ROp := [⟨some 54,.copy false (.tmp 0),[],none⟩,
 ⟨some 55,.x1 0 (.tmp 54),[],none⟩,
 ⟨some 56,.fad 0 (.tmp 55),[],none⟩,
 ⟨some 57,.call (.func 102) [.tmp 56,.const (.int .u8 41)],[],none⟩]
-- function 76: (*corollary/tree.writer).expr
def F76r0 : List ROp := [⟨some 3,.box 58 (.tmp 1),[],none⟩]
def F76r1 : List ROp := [⟨some 6,.fad 0 (.tmp 3),[],none⟩,
 ⟨some 7,.load 1 false false (.tmp 6),[],none⟩]
def F76r2 : List ROp := [⟨some 9,.bin .eql (.tmp 7) (.const (.int .u8 1)),[],none⟩,
 ⟨some 8,.copy true (.tmp 9),[],none⟩]
def F76r3 : List ROp := [⟨some 10,.copy false (.tmp 0),[],none⟩,
 ⟨some 11,.x1 0 (.tmp 10),[0],none⟩,
 ⟨some 12,.fad 0 (.tmp 11),[1],none⟩,
 ⟨some 13,.fad 4 (.tmp 3),[],none⟩,
 ⟨some 14,.load 4 true false (.tmp 13),[3],none⟩,
 ⟨some 15,.call (.func 101) [.tmp 14],[4],none⟩,
 ⟨some 16,.call (.func 100) [.tmp 12,.tmp 15],[2,5,5],none⟩]
def F76r4 : List ROp := [⟨some 18,.bin .eql (.tmp 7) (.const (.int .u8 2)),[],none⟩,
 ⟨some 17,.copy true (.tmp 18),[],none⟩]
def F76r5 : List ROp := [⟨some 19,.copy false (.tmp 0),[],none⟩,
 ⟨some 20,.x1 0 (.tmp 19),[0],none⟩,
 ⟨some 21,.fad 0 (.tmp 20),[1],none⟩,
 ⟨some 22,.fad 3 (.tmp 3),[],none⟩,
 ⟨some 23,.load 1 false false (.tmp 22),[3],none⟩,
 ⟨some 24,.call (.func 100) [.tmp 21,.tmp 23],[2,4],none⟩]
def F76r6 : List ROp := [⟨some 26,.bin .eql (.tmp 7) (.const (.int .u8 3)),[],none⟩,
 ⟨some 25,.copy true (.tmp 26),[],none⟩]
def F76r7 : List ROp := [⟨some 27,.copy false (.tmp 0),[],none⟩,
 ⟨some 28,.x1 0 (.tmp 27),[],none⟩,
 ⟨some 29,.fad 0 (.tmp 28),[],none⟩,
 ⟨some 30,.call (.func 102) [.tmp 29,.const (.int .u8 95)],[],none⟩]
def F76r8 : List ROp := [⟨some 32,.bin .eql (.tmp 7) (.const (.int .u8 4)),[],none⟩,
 ⟨some 31,.copy true (.tmp 32),[],none⟩]
def F76r9 : List ROp := [⟨some 33,.copy false (.tmp 0),[],none⟩,
 ⟨some 34,.fad 8 (.tmp 3),[],none⟩,
 ⟨some 35,.load 1 false false (.tmp 34),[],none⟩,
 ⟨some 36,.copy false (.tmp 0),[],none⟩,
 ⟨some 37,.mkf (Go.Fn.methodOf 76 "") [.tmp 36],[],none⟩,
 ⟨some 38,.call (.func 103) [.tmp 33,.tmp 35,.tmp 37],[],none⟩]
def F76r10 : List ROp := [⟨some 40,.bin .eql (.tmp 7) (.const (.int .u8 5)),[],none⟩,
 ⟨some 39,.copy true (.tmp 40),[],none⟩]
def F76r11 : List ROp := [⟨some 41,.copy false (.tmp 0),[],none⟩,
 ⟨some 42,.x1 0 (.tmp 41),[0],none⟩,
 ⟨some 43,.fad 0 (.tmp 42),[1],none⟩,
 ⟨some 44,.fad 3 (.tmp 3),[],none⟩,
 ⟨some 45,.load 1 false false (.tmp 44),[3],none⟩,
 ⟨some 46,.call (.func 100) [.tmp 43,.tmp 45],[2,4],none⟩]
def F76r12 : List ROp := [⟨some 47,.fad 8 (.tmp 3),[],none⟩,
 ⟨some 48,.load 1 false false (.tmp 47),[],none⟩,
 ⟨some 49,.len 0 (.tmp 48),[],none⟩,
 ⟨some 50,.bin .gtr (.tmp 49) (.const (.int .i64 0)),[],none⟩]
def F76r13 : List ROp := [⟨some 51,.copy false (.tmp 0),[],none⟩,
 ⟨some 52,.fad 8 (.tmp 3),[],none⟩,
 ⟨some 53,.load 1 false false (.tmp 52),[],none⟩,
 ⟨some 54,.copy false (.tmp 0),[],none⟩,
 ⟨some 55,.mkf (Go.Fn.methodOf 76 "") [.tmp 54],[],none⟩,
 ⟨some 56,.call (.func 103) [.tmp 51,.tmp 53,.tmp 55],[],none⟩]
def F76r14 : List ROp := [⟨some 58,.bin .eql (.tmp 7) (.const (.int .u8 6)),[],none⟩,
 ⟨some 57,.copy true (.tmp 58),[],none⟩]
def F76r15 : List ROp := [⟨some 59,.copy false (.tmp 0),[],none⟩,
 ⟨some 60,.load 9 true false (.tmp 3),[],none⟩,
 ⟨some 61,.call (.func 104) [.tmp 59,.tmp 60],[],none⟩]
def F76r16 : List ROp := [⟨some 63,.bin .eql (.tmp 7) (.const (.int .u8 7)),[],none⟩,
 ⟨some 62,.copy true (.tmp 63),[],none⟩]
def F76r17 : List ROp := [⟨some 64,.copy false (.tmp 0),[],none⟩,
 ⟨some 65,.load 9 true false (.tmp 3),[],none⟩,
 ⟨some 66,.call (.func 105) [.tmp 64,.tmp 65],[],none⟩]
def F76r18 : List ROp := [⟨some 68,.bin .eql (.tmp 7) (.const (.int .u8 8)),[],none⟩,
 ⟨some 67,.copy true (.tmp 68),[],none⟩]
def F76r19 : List ROp := [⟨some 69,.bslice 9 1 [Value.string ByteArray.empty] 3 [(0,.const (.string { data := #[40,105,102,32] })),(1,.const (.string { data := #[32,116,104,101,110,32] })),(2,.const (.string { data := #[32,101,108,115,101,32] }))],[],none⟩,
 ⟨some 70,.len 0 (.tmp 69),[],none⟩,
 ⟨some 71,.copy false (.const (.int .i64 0)),[],none⟩]
def F76r20 : List ROp := [⟨some 72,.bin .lss (.tmp 71) (.tmp 70),[],none⟩]
def F76r21 : List ROp := [⟨some 73,.copy true (.tmp 71),[],none⟩,
 ⟨some 74,.iad 1 (.tmp 69) (.tmp 71),[],none⟩,
 ⟨some 75,.load 1 false false (.tmp 74),[],none⟩,
 ⟨some 4,.copy true (.tmp 73),[],none⟩,
 ⟨some 5,.copy true (.tmp 75),[],none⟩]
def F76r22 : List ROp := [⟨some 76,.copy false (.tmp 0),[],none⟩,
 ⟨some 77,.x1 0 (.tmp 76),[],none⟩,
 ⟨some 78,.fad 0 (.tmp 77),[],none⟩,
 ⟨some 79,.copy false (.tmp 5),[],none⟩,
 ⟨some 80,.call (.func 100) [.tmp 78,.tmp 79],[],none⟩]
def F76r23 : List ROp := [⟨some 81,.copy false (.tmp 0),[],none⟩,
 ⟨some 82,.fad 8 (.tmp 3),[],none⟩,
 ⟨some 83,.load 1 false false (.tmp 82),[],none⟩,
 ⟨some 84,.copy false (.tmp 4),[],none⟩,
 ⟨some 85,.iad 9 (.tmp 83) (.tmp 84),[],none⟩,
 ⟨some 86,.load 9 true false (.tmp 85),[],none⟩,
 ⟨some 87,.call (.func 76) [.tmp 81,.tmp 86],[],none⟩]
def F76r24 : List ROp := [⟨some 88,.bin .add (.tmp 71) (.const (.int .i64 1)),[],none⟩,
 ⟨some 71,.copy false (.tmp 88),[],none⟩]
def F76r25 : List ROp := [⟨some 89,.copy false (.tmp 0),[],none⟩,
 ⟨some 90,.x1 0 (.tmp 89),[],none⟩,
 ⟨some 91,.fad 0 (.tmp 90),[],none⟩,
 ⟨some 92,.call (.func 102) [.tmp 91,.const (.int .u8 41)],[],none⟩]
attribute [local simp] valX encV_eq exprX encE_eq encTR encT texts exprB
attribute [local simp] HB bB
def cat (ss : List ByteArray) : List UInt8 := ss.flatMap bl
theorem cat_take (ss : List ByteArray) (k : Nat) : (cat (ss.take k)).length ≤ (cat ss).length := by
 have : cat ss = cat (ss.take k) ++ cat (ss.drop k) := by rw [cat, cat, cat, ← List.flatMap_append, List.take_append_drop]
 rw [this, List.length_append]; omega
theorem cat_snoc (ss : List ByteArray) (k : Nat) (h : k < ss.length) : cat (ss.take (k + 1)) = cat (ss.take k) ++ bl ss[k] := by
 unfold cat
 rw [List.take_succ_eq_append_getElem h, List.flatMap_append]; simp
theorem texts_ok (u : Bool) (l : List UInt8) (ss : List ByteArray) (h0 : 0 < ss.length) (hn : ss.length ≤ 1000) (hl : l.length + (cat ss).length ≤ 549755813888) :
  ConM Tryz.prog 158 (HB 120 u l) [.ptr 1000 0, .rd 1 (texts ss)] (.tup []) (HB 120 true (l ++ cat ss)) := by
 obtain ⟨cur, hcur⟩ : ∃ cur : Nat → List UInt8, ∀ k, cur k = l ++ cat (ss.take k) := ⟨_, fun _ => rfl⟩
 have hcl : ∀ k, (cur k).length ≤ l.length + (cat ss).length := by
  intro k; rw [hcur, List.length_append]; have := cat_take ss k; omega
 have hce : l ++ cat ss = cur ss.length := by rw [hcur, List.take_length]
 have hc0 : cur 0 = l := by rw [hcur]; simp [cat]
 rw [hce]
 refine ConM.of_code Tryz.func158 (by kernel_rfl) rfl (by simp [Tryz.ntmps158]) (by simp [Tryz.ntmps158]) (hand_of rfl) (more_of rfl) rfl (fun C hC hρ => ?_)
 refine AWp.seq ?_
 refine AWp.regK [0,6,7,8] [] F158r0 [] (by kernel_rfl) (by rw [hC]; rfl) fun K hK => ?_
 simp (maxSteps := 2000000) [F158r0]
 refine hK _ ?_
 refine AWp.block ?_
 refine AWp.loopG (fun k : Nat => { tm := [(0, .ptr 1000 0), (6, .rd 1 (texts ss)), (7, ival ss.length), (8, ival k)], hp := HB 120 (u || decide (0 < k)) (cur k) }) (fun k => k ≤ ss.length) (fun k => ss.length - k) 0 (by omega) (by simp [hc0]) (fun k hk => ?_)
 refine AWp.seq ?_
 refine AWp.regK [0,6,7,8,9] [] F158r1 [] (by kernel_rfl) (by rw [hC]; rfl) fun K hK => ?_
 simp (maxSteps := 2000000) [F158r1]
 refine hK _ ?_
 refine AWp.seq ?_
 refine AWp.cond _ (by rfl) (fun hlt => ?_) (fun hge => ?_)
 ·skip
  have hlt : k < ss.length := by simpa using hlt
  have hk1 : cur (k + 1) = cur k ++ bl ss[k] := by rw [hcur, hcur, cat_snoc ss k hlt, List.append_assoc]
  have hb := bl_len ss[k]
  have hsz : (cur k).length + ss[k].size ≤ 1099511627776 := by
   have h1 := hcl (k + 1)
   rw [hk1, List.length_append, hb] at h1; omega
  have hw := WriteString_ok 120 (.inr rfl) (u || decide (0 < k)) (cur k) ss[k] hsz
  rw [← hk1] at hw
  refine AWp.skip ?_
  refine AWp.seq ?_
  refine AWp.block ?_
  refine AWp.seq ?_
  refine AWp.regK [0,5,6,7,8] [false,false,true] F158r2 [] (by kernel_rfl) (by rw [hC]; rfl) fun K hK => ?_
  simp (maxSteps := 2000000) [F158r2, hlt]
  (repeat refine ⟨by first | omega | (intros; omega) | assumption, ?_⟩); refine hK _ ?_
  refine AWp.regK [0,6,7,8] [] F158r3 [{ r := .tup [ival ss[k].size,.val .nilIface],us := [1000],bs := HB 120 true (cur (k + 1)) }] (by kernel_rfl) (by rw [hC]; rfl) fun K hK => ?_
  simp (maxSteps := 2000000) [F158r3]
  (repeat first | refine ⟨by first | kernel_rfl | (intros; omega) | assumption, ?_⟩ | refine ⟨by intros; exact callB hw (.cons .refl (.cons .refl .nil)) rfl rfl, ?_⟩); refine hK _ ?_
  refine AWp.regK [0,6,7,8] [] F158r4 [] (by kernel_rfl) (by rw [hC]; rfl) fun K hK => ?_
  simp (maxSteps := 2000000) [F158r4]
  (repeat refine ⟨by first | omega | (intros; omega) | assumption, ?_⟩); refine hK _ ?_
  refine ⟨k + 1, by omega, by omega, ?_⟩
  simp [wrap_nat k (by omega)]
 have hge : ¬ k < ss.length := by simpa using hge
 have hk' : k = ss.length := by omega
 subst hk'
 refine AWp.exit ?_
 refine ⟨.inl rfl, ⟨[], rfl, .refl⟩, rfl, ?_⟩
 simp [h0]
/-- what the writer does at each of these expressions -/
def WrL (l : List ExprD) : Prop := ∀ e ∈ l, (txtE e).length ≤ 36 * esize e ∧ ∀ (u : Bool) (b : List UInt8), b.length + 36 * esize e ≤ 549755813888 → ConM Tryz.prog 76 (HB 120 u b) [.ptr 1000 0, exprX e] (.tup []) (HB 120 true (b ++ txtE e))
theorem joinT_snoc (sep : List UInt8) (l : List (List UInt8)) (k : Nat) (h : k < l.length) : joinT sep (l.take (k + 1)) = joinT sep (l.take k) ++ ((if 0 < k then sep else []) ++ l[k]) := by
 cases l with
 | nil => simp at h
 | cons x l =>
  cases k with
  | zero => simp [joinT]
  | succ k =>
   have hk : k < l.length := by simpa using h
   simp only [List.take_succ_cons, joinT, List.getElem_cons_succ]
   rw [List.take_succ_eq_append_getElem hk, List.flatMap_append]
   simp
theorem list_ok (l : List UInt8) (es : List ExprD) (sep : ByteArray) (hn : es.length ≤ 1000) (hW : WrL es) (hl : l.length + 36 * esizes es + sep.size * es.length ≤ 549755813888) :
  ConM Tryz.prog 156 (HB 120 true l) [.ptr 1000 0, .rd 9 (es.map encE), sval sep, .clo (.methodOf 76 "") [.ptr 1000 0]] (.tup []) (HB 120 true (l ++ joinT (bl sep) (es.map txtE))) := by
 have hbs := bl_len sep
 obtain ⟨cur, hcur⟩ : ∃ cur : Nat → List UInt8, ∀ k, cur k = l ++ joinT (bl sep) ((es.map txtE).take k) := ⟨_, fun _ => rfl⟩
 have hcl : ∀ k, k ≤ es.length → (cur k).length ≤ l.length + 36 * esizes (es.take k) + sep.size * k := by
  intro k
  induction k with
  | zero => intro _; rw [hcur]; simp [joinT]
  | succ k ih =>
   intro hk
   have h1 := ih (by omega)
   have h2 := joinT_snoc (bl sep) (es.map txtE) k (by simp; omega)
   have h3 := esizes_snoc es k (by omega)
   have h4 := (hW es[k] (List.getElem_mem _)).1
   have h5 : (if 0 < k then bl sep else []).length ≤ sep.size := by split <;> simp [hbs]
   rw [hcur] at h1 ⊢
   rw [h2, h3]
   simp only [List.length_append, List.getElem_map, Nat.mul_add] at h1 h5 ⊢
   omega
 have hce : l ++ joinT (bl sep) (es.map txtE) = cur es.length := by rw [hcur, List.take_of_length_le (by simp)]
 have hc0 : cur 0 = l := by rw [hcur]; simp [joinT]
 rw [hce]
 refine ConM.of_code Tryz.func156 (by kernel_rfl) rfl (by simp [Tryz.ntmps156]) (by simp [Tryz.ntmps156]) (hand_of rfl) (more_of rfl) rfl (fun C hC hρ => ?_)
 refine AWp.seq ?_
 refine AWp.regK [0,2,3,10,11,12] [] F156r0 [] (by kernel_rfl) (by rw [hC]; rfl) fun K hK => ?_
 simp (maxSteps := 2000000) [F156r0]
 refine hK _ ?_
 refine AWp.block ?_
 refine AWp.loopG (fun k : Nat => { tm := [(0, .ptr 1000 0), (2, sval sep), (3, .clo (.methodOf 76 "") [.ptr 1000 0]), (10, .rd 9 (es.map encE)), (11, ival es.length), (12, ival k)], hp := HB 120 true (cur k) }) (fun k => k ≤ es.length) (fun k => es.length - k) 0 (by omega) (by simp [hc0]) (fun k hk => ?_)
 refine AWp.seq ?_
 refine AWp.regK [0,2,3,10,11,12,13] [] F156r1 [] (by kernel_rfl) (by rw [hC]; rfl) fun K hK => ?_
 simp (maxSteps := 2000000) [F156r1]
 refine hK _ ?_
 refine AWp.seq ?_
 refine AWp.cond _ (by rfl) (fun hlt => ?_) (fun hge => ?_)
 ·skip
  have hlt : k < es.length := by simpa using hlt
  have hk1 : cur (k + 1) = cur k ++ ((if 0 < k then bl sep else []) ++ txtE es[k]) := by
   rw [hcur, hcur, joinT_snoc (bl sep) (es.map txtE) k (by simpa using hlt), List.getElem_map, List.append_assoc]
  have hwe := hW es[k] (List.getElem_mem _)
  have hck := hcl k (by omega)
  have hs1 := esizes_snoc es k hlt
  have hs2 := esizes_take_le es (k + 1)
  have hs3 : sep.size * (k + 1) ≤ sep.size * es.length := Nat.mul_le_mul_left _ (by omega)
  rw [Nat.mul_add] at hs3
  have hex : (encE es[k]) = encE es[k] := rfl
  refine AWp.skip ?_
  refine AWp.seq ?_
  refine AWp.block ?_
  refine AWp.seq ?_
  refine AWp.regK [0,2,3,8,9,10,11,12] [true,false,false,false,true,true] F156r2 [] (by kernel_rfl) (by rw [hC]; rfl) fun K hK => ?_
  simp (maxSteps := 2000000) [F156r2, hlt]
  (repeat refine ⟨by first | omega | (intros; omega) | assumption, ?_⟩); refine hK _ ?_
  refine AWp.seq ?_
  refine AWp.seq ?_
  refine AWp.regK [0,2,3,9,10,11,12,18] [] F156r3 [] (by kernel_rfl) (by rw [hC]; rfl) fun K hK => ?_
  simp (maxSteps := 2000000) [F156r3, hlt]
  refine hK _ ?_
  generalize es[k] = e at hk1 hwe hs1 ⊢
  refine AWp.cond _ (by rfl) (fun h1 => ?_) (fun h1 => ?_)
  ·skip
   have h1 : 0 < k := by simpa using h1
   rw [if_pos h1] at hk1
   obtain ⟨l1, e1, n1, w1⟩ := wstr 120 (.inr rfl) true (cur k) sep (by omega)
   have hc := hwe.2 true l1 (by omega)
   rw [e1, List.append_assoc, ← hk1, ← e1] at hc
   refine AWp.regK [0,2,3,9,10,11,12] [] F156r4 [{ r := .tup [ival sep.size,.val .nilIface],us := [1000],bs := HB 120 true l1 }] (by kernel_rfl) (by rw [hC]; rfl) fun K hK => ?_
   simp (maxSteps := 2000000) [F156r4]
   (repeat first | refine ⟨by first | kernel_rfl | (intros; omega) | assumption, ?_⟩ | refine ⟨by intros; exact callB w1 (.cons .refl (.cons .refl .nil)) rfl rfl, ?_⟩); refine hK _ ?_
   refine AWp.regK [0,2,3,10,11,12] [] F156r5 [{ r := .tup [],us := [1000],bs := HB 120 true (cur (k + 1)) }] (by kernel_rfl) (by rw [hC]; rfl) fun K hK => ?_
   simp (maxSteps := 2000000) [F156r5]
   (repeat first | refine ⟨by first | kernel_rfl | (intros; omega) | assumption, ?_⟩ | refine ⟨by intros; exact callB hc (.cons .refl (.cons .refl .nil)) rfl rfl, ?_⟩); refine hK _ ?_
   refine AWp.regK [0,2,3,10,11,12] [] F156r6 [] (by kernel_rfl) (by rw [hC]; rfl) fun K hK => ?_
   simp (maxSteps := 2000000) [F156r6]
   (repeat refine ⟨by first | omega | (intros; omega) | assumption, ?_⟩); refine hK _ ?_
   refine ⟨k + 1, by omega, by omega, ?_⟩
   simp [wrap_nat k (by omega)]
  have h1 : ¬ 0 < k := by simpa using h1
  rw [if_neg h1, List.nil_append] at hk1
  have hc := hwe.2 true (cur k) (by omega)
  rw [← hk1] at hc
  refine AWp.skip ?_
  refine AWp.regK [0,2,3,10,11,12] [] F156r5 [{ r := .tup [],us := [1000],bs := HB 120 true (cur (k + 1)) }] (by kernel_rfl) (by rw [hC]; rfl) fun K hK => ?_
  simp (maxSteps := 2000000) [F156r5]
  (repeat first | refine ⟨by first | kernel_rfl | (intros; omega) | assumption, ?_⟩ | refine ⟨by intros; exact callB hc (.cons .refl (.cons .refl .nil)) rfl rfl, ?_⟩); refine hK _ ?_
  refine AWp.regK [0,2,3,10,11,12] [] F156r6 [] (by kernel_rfl) (by rw [hC]; rfl) fun K hK => ?_
  simp (maxSteps := 2000000) [F156r6]
  (repeat refine ⟨by first | omega | (intros; omega) | assumption, ?_⟩); refine hK _ ?_
  refine ⟨k + 1, by omega, by omega, ?_⟩
  simp [wrap_nat k (by omega)]
 have hge : ¬ k < es.length := by simpa using hge
 have hk' : k = es.length := by omega
 subst hk'
 refine AWp.exit ?_
 refine ⟨.inl rfl, ⟨[], rfl, .refl⟩, rfl, ?_⟩
 simp
theorem sumW {es : List ExprD} (hW : WrL es) : sumL (es.map txtE) ≤ 36 * esizes es := by
 induction es with
 | nil => simp [sumL]
 | cons e l ih =>
  have h1 := ih fun x hx => hW x (List.mem_cons_of_mem _ hx)
  have h2 := (hW e (List.mem_cons_self ..)).1
  simp only [sumL, List.map_cons, List.sum_cons, esizes] at h1 ⊢; omega
theorem brackets_ok (u : Bool) (l : List UInt8) (es : List ExprD) (hn : es.length ≤ 16) (hW : WrL es) (hl : l.length + 36 * esizes es + 34 ≤ 549755813888) :
  ConM Tryz.prog 103 (HB 120 u l) [.ptr 1000 0, .rd 9 (es.map encE), .clo (.methodOf 76 "") [.ptr 1000 0]] (.tup []) (HB 120 true (l ++ brackT (es.map txtE))) := by
 obtain ⟨l1, e1, n1, w1⟩ := wbyte 120 (.inr rfl) u l 40 (by omega)
 have w1 : ConM Tryz.prog 102 (HB 120 u l) [.ptr 1000 0, uval 40] (.val .nilIface) (HB 120 true l1) := w1
 have hsl : (⟨#[44, 32]⟩ : ByteArray).size = 2 := rfl
 have hj := list_ok l1 es ⟨#[44, 32]⟩ (by omega) hW (by rw [hsl]; omega)
 have hjl := sumW hW
 have hjl2 := joinT_len (bl ⟨#[44, 32]⟩) (es.map txtE)
 have hb2 : (bl ⟨#[44, 32]⟩).length = 2 := rfl
 rw [hb2, List.length_map] at hjl2
 obtain ⟨l2, e2⟩ : ∃ l2, l2 = l1 ++ joinT (bl ⟨#[44, 32]⟩) (es.map txtE) := ⟨_, rfl⟩
 rw [← e2] at hj
 obtain ⟨l3, e3, n3, w3⟩ := wbyte 120 (.inr rfl) true l2 41 (by rw [e2, List.length_append]; omega)
 have w3 : ConM Tryz.prog 102 (HB 120 true l2) [.ptr 1000 0, uval 41] (.val .nilIface) (HB 120 true l3) := w3
 have hl3 : l ++ brackT (es.map txtE) = l3 := by rw [e3, e2, e1]; unfold brackT; simp; rfl
 rw [hl3]
 refine ConM.of_code Tryz.func103 (by kernel_rfl) rfl (by simp [Tryz.ntmps103]) (by simp [Tryz.ntmps103]) (hand_of rfl) (more_of rfl) rfl (fun C hC hρ => ?_)
 refine AWp.seq ?_
 refine AWp.regK [0,1,2] [] F103r0 [{ r := .val .nilIface,us := [1000],bs := HB 120 true l1 }] (by kernel_rfl) (by rw [hC]; rfl) fun K hK => ?_
 simp (maxSteps := 2000000) [F103r0]
 (repeat first | refine ⟨by first | kernel_rfl | (intros; omega) | assumption, ?_⟩ | refine ⟨by intros; exact callB w1 (.cons .refl (.cons .refl .nil)) rfl rfl, ?_⟩); refine hK _ ?_
 refine AWp.seq ?_
 refine AWp.regK [0] [] F103r1 [{ r := .tup [],us := [1000],bs := HB 120 true l2 }] (by kernel_rfl) (by rw [hC]; rfl) fun K hK => ?_
 simp (maxSteps := 2000000) [F103r1]
 (repeat first | refine ⟨by first | kernel_rfl | (intros; omega) | assumption, ?_⟩ | refine ⟨by intros; exact callB hj (.cons .refl (.cons .refl (.cons .refl (.cons .refl .nil)))) rfl rfl, ?_⟩); refine hK _ ?_
 refine AWp.regK [] [] F103r2 [{ r := .val .nilIface,us := [1000],bs := HB 120 true l3 }] (by kernel_rfl) (by rw [hC]; rfl) fun K hK => ?_
 simp (maxSteps := 2000000) [F103r2]
 (repeat first | refine ⟨by first | kernel_rfl | (intros; omega) | assumption, ?_⟩ | refine ⟨by intros; exact callB w3 (.cons .refl (.cons .refl .nil)) rfl rfl, ?_⟩); refine hK _ ?_
 refine ⟨.inl rfl, ⟨[], rfl, .refl⟩, rfl, ?_⟩
 simp
theorem field_ok (u : Bool) (l : List UInt8) (e : ExprD) (h7 : e.kind = 7) (ha : e.args.length = 1) (hW : WrL e.args) (hl : l.length + 36 * esize e ≤ 549755813888) :
  ConM Tryz.prog 105 (HB 120 u l) [.ptr 1000 0, exprX e] (.tup []) (HB 120 true (l ++ txtE e)) := by
 obtain ⟨x, hx⟩ : ∃ x, e.args = [x] := List.length_eq_one_iff.1 ha
 have htx : txtE e = (if shutE x = true then brackT [txtE x] else txtE x) ++ ([46] ++ bl e.name) := by rw [txtE_eq]; simp [h7, hx]
 rw [hx] at hW
 have hsz := esize_eq e
 have hvs := vsize_eq e.v
 rw [hx] at hsz
 simp only [esizes] at hsz
 have hwx := hW x (List.mem_cons_self ..)
 have hf := functionT_ok x.name
 have hbr := brackets_ok u l [x] (by simp) hW (by simp only [esizes]; omega)
 have hex := hwx.2 u l (by omega)
 have hbl := bl_len e.name
 obtain ⟨l1, e1⟩ : ∃ l1, l1 = l ++ (if shutE x = true then brackT [txtE x] else txtE x) := ⟨_, rfl⟩
 have n1 : l1.length ≤ l.length + 36 * esize x + 4 := by
  rw [e1, List.length_append]
  have := brackT_len [txtE x]
  simp only [sumL, List.map_cons, List.map_nil, List.sum_cons, List.sum_nil, List.length_cons, List.length_nil] at this
  split <;> omega
 have htt := texts_ok true l1 [⟨#[46]⟩, e.name] (by simp) (by simp) (by simp [cat, hbl]; show l1.length + (1 + _) ≤ _; omega)
 have hfin : l1 ++ cat [⟨#[46]⟩, e.name] = l ++ txtE e := by rw [htx, e1, List.append_assoc]; simp [cat]; rfl
 rw [hfin] at htt
 refine ConM.of_code Tryz.func105 (by kernel_rfl) rfl (by simp [Tryz.ntmps105]) (by simp [Tryz.ntmps105]) (hand_of rfl) (more_of rfl) rfl (fun C hC hρ => ?_)
 refine AWp.seq ?_
 refine AWp.regK [0,3] [] F105r0 [] (by kernel_rfl) (by rw [hC]; rfl) fun K hK => ?_
 simp (maxSteps := 2000000) [F105r0, hx]
 refine hK _ ?_
 refine AWp.seq ?_
 refine AWp.regK [0,3,4] [false,false,false,false,false,true] F105r1 [] (by kernel_rfl) (by rw [hC]; rfl) fun K hK => ?_
 simp (maxSteps := 2000000) [F105r1, hx]
 (repeat refine ⟨by first | omega | (intros; omega) | assumption, ?_⟩); refine hK _ ?_
 refine AWp.seq ?_
 refine AWp.seq ?_
 refine AWp.regK [0,3,4,26] [] F105r2 [{ r := bval (function x.name) }] (by kernel_rfl) (by rw [hC]; rfl) fun K hK => ?_
 simp (maxSteps := 2000000) [F105r2]
 (repeat first | refine ⟨by first | kernel_rfl | (intros; omega) | assumption, ?_⟩ | refine ⟨by intros; exact callOK rfl hf, ?_⟩); refine hK _ ?_
 refine AWp.cond _ (by rfl) (fun h1 => ?_) (fun h1 => ?_)
 ·skip
  have hs : shutE x = true := by
   revert h1; unfold shutE; generalize decide (x.kind = 1) = a; generalize decide (x.kind = 5) = b; generalize decide (x.kind = 6) = c; generalize function x.name = d; revert a b c d; decide
  rw [if_pos hs] at e1
  have hbr : ConM Tryz.prog 103 (HB 120 u l) [.ptr 1000 0, .rd 9 ([x].map encE), .clo (.methodOf 76 "") [.ptr 1000 0]] (.tup []) (HB 120 true l1) := by rw [e1]; exact hbr
  simp only [List.map_cons, List.map_nil, encE_eq] at hbr
  refine AWp.regK [0,3] [] F105r3 [{ r := .tup [],us := [1000],bs := HB 120 true l1 }] (by kernel_rfl) (by rw [hC]; rfl) fun K hK => ?_
  simp (maxSteps := 2000000) [F105r3, hx]
  (repeat first | refine ⟨by first | kernel_rfl | (intros; omega) | assumption, ?_⟩ | refine ⟨by intros; exact callB hbr (.cons .refl (.cons .refl (.cons .refl .nil))) rfl rfl, ?_⟩); refine hK _ ?_
  refine AWp.regK [] [] F105r5 [{ r := .tup [],us := [1000],bs := HB 120 true (l ++ txtE e) }] (by kernel_rfl) (by rw [hC]; rfl) fun K hK => ?_
  simp (maxSteps := 2000000) [F105r5]
  (repeat first | refine ⟨by first | kernel_rfl | (intros; omega) | assumption, ?_⟩ | refine ⟨by intros; exact callB htt (.cons .refl (.cons .own .nil)) rfl rfl, ?_⟩); refine hK _ ?_
  refine ⟨.inl rfl, ⟨[], rfl, .refl⟩, rfl, ?_⟩
  simp
 have hs : ¬ shutE x = true := by
  revert h1; unfold shutE; generalize decide (x.kind = 1) = a; generalize decide (x.kind = 5) = b; generalize decide (x.kind = 6) = c; generalize function x.name = d; revert a b c d; decide
 rw [if_neg hs] at e1
 rw [← e1] at hex
 simp only [exprX, encE_eq] at hex
 refine AWp.regK [0,3] [] F105r4 [{ r := .tup [],us := [1000],bs := HB 120 true l1 }] (by kernel_rfl) (by rw [hC]; rfl) fun K hK => ?_
 simp (maxSteps := 2000000) [F105r4]
 (repeat first | refine ⟨by first | kernel_rfl | (intros; omega) | assumption, ?_⟩ | refine ⟨by intros; exact callB hex (.cons .refl (.cons .refl .nil)) rfl rfl, ?_⟩); refine hK _ ?_
 refine AWp.regK [] [] F105r5 [{ r := .tup [],us := [1000],bs := HB 120 true (l ++ txtE e) }] (by kernel_rfl) (by rw [hC]; rfl) fun K hK => ?_
 simp (maxSteps := 2000000) [F105r5]
 (repeat first | refine ⟨by first | kernel_rfl | (intros; omega) | assumption, ?_⟩ | refine ⟨by intros; exact callB htt (.cons .refl (.cons .own .nil)) rfl rfl, ?_⟩); refine hK _ ?_
 refine ⟨.inl rfl, ⟨[], rfl, .refl⟩, rfl, ?_⟩
 simp
theorem call_ok (u : Bool) (l : List UInt8) (e : ExprD) (h6 : e.kind = 6) (ha : e.args.length ≤ 2) (hW : WrL e.args) (hl : l.length + 36 * esize e ≤ 549755813888) :
  ConM Tryz.prog 104 (HB 120 u l) [.ptr 1000 0, exprX e] (.tup []) (HB 120 true (l ++ txtE e)) := by
 have htx : txtE e = callT e.name (e.args.map txtE) := by rw [txtE_eq]; simp [h6]
 rw [htx]
 unfold callT
 have hsz := esize_eq e
 have hvs := vsize_eq e.v
 have hf := functionT_ok e.name
 have hbl := bl_len e.name
 refine ConM.of_code Tryz.func104 (by kernel_rfl) rfl (by simp [Tryz.ntmps104]) (by simp [Tryz.ntmps104]) (hand_of rfl) (more_of rfl) rfl (fun C hC hρ => ?_)
 refine AWp.seq ?_
 refine AWp.regK [0,3] [] F104r0 [] (by kernel_rfl) (by rw [hC]; rfl) fun K hK => ?_
 simp (maxSteps := 2000000) [F104r0]
 refine hK _ ?_
 refine AWp.block ?_
 refine AWp.seq ?_
 refine AWp.regK [0,3,22] [false,false,false,true] F104r4 [{ r := bval (function e.name) }] (by kernel_rfl) (by rw [hC]; rfl) fun K hK => ?_
 simp (maxSteps := 2000000) [F104r4]
 (repeat first | refine ⟨by first | kernel_rfl | (intros; omega) | assumption, ?_⟩ | refine ⟨by intros; exact callOK rfl hf, ?_⟩); refine hK _ ?_
 refine AWp.cond _ (by rfl) (fun h1 => ?_) (fun h1 => ?_)
 ·skip
  rw [if_pos h1]
  obtain ⟨l1, e1, n1, w1⟩ := wstr 120 (.inr rfl) u l e.name (by omega)
  have hbr := brackets_ok true l1 e.args (by omega) hW (by omega)
  rw [e1, List.append_assoc, ← e1] at hbr
  refine AWp.seq ?_
  refine AWp.regKL ops_mixed [[],[0],[0,1],[],[3],[0,1,2,3,4]] [0,3] [] F104r5 [{ r := .tup [ival e.name.size,.val .nilIface],us := [1000],bs := HB 120 true l1 }] (by kernel_rfl) (by rw [hC]; rfl) (by kernel_rfl) (by kernel_rfl) fun K hK => ?_
  simp (maxSteps := 2000000) [F104r5]
  (repeat first | refine ⟨by first | kernel_rfl | (intros; omega) | assumption, ?_⟩ | refine ⟨by intros; exact callB w1 (.cons .refl (.cons .refl .nil)) rfl rfl, ?_⟩); refine hK _ ?_
  refine AWp.regK [] [] F104r6 [{ r := .tup [],us := [1000],bs := HB 120 true (l ++ (bl e.name ++ brackT (e.args.map txtE))) }] (by kernel_rfl) (by rw [hC]; rfl) fun K hK => ?_
  simp (maxSteps := 2000000) [F104r6]
  (repeat first | refine ⟨by first | kernel_rfl | (intros; omega) | assumption, ?_⟩ | refine ⟨by intros; exact callB hbr (.cons .refl (.cons .refl (.cons .refl .nil))) rfl rfl, ?_⟩); refine hK _ ?_
  refine ⟨.inl rfl, ⟨[], rfl, .refl⟩, rfl, ?_⟩
  simp
 have h1 : ¬ function e.name = true := by simp [h1]
 rw [if_neg h1, List.length_map]
 refine AWp.seq ?_
 refine AWp.regK [0,3,38] [false,false,false,false,true] F104r7 [] (by kernel_rfl) (by rw [hC]; rfl) fun K hK => ?_
 simp (maxSteps := 2000000) [F104r7]
 refine hK _ ?_
 refine AWp.cond _ (by rfl) (fun h2 => ?_) (fun h2 => ?_)
 ·skip
  have h2 : e.args.length = 1 := by simpa using h2
  rw [if_pos h2]
  obtain ⟨x, hx⟩ : ∃ x, e.args = [x] := List.length_eq_one_iff.1 h2
  rw [hx] at hW hsz ⊢
  simp only [esizes] at hsz
  have hwx := hW x (List.mem_cons_self ..)
  have hct : cat [⟨#[40]⟩, e.name, ⟨#[32]⟩] = 40 :: (bl e.name ++ [32]) := by simp [cat]; rfl
  have htt := texts_ok u l [⟨#[40]⟩, e.name, ⟨#[32]⟩] (by simp) (by simp) (by rw [hct]; simp [hbl]; omega)
  rw [hct] at htt
  obtain ⟨l1, e1⟩ : ∃ l1, l1 = l ++ 40 :: (bl e.name ++ [32]) := ⟨_, rfl⟩
  have n1 : l1.length = l.length + e.name.size + 2 := by rw [e1]; simp [hbl]; omega
  rw [← e1] at htt
  have hex := hwx.2 true l1 (by omega)
  obtain ⟨l2, e2⟩ : ∃ l2, l2 = l1 ++ txtE x := ⟨_, rfl⟩
  rw [← e2] at hex
  have n2 : l2.length ≤ l1.length + 36 * esize x := by rw [e2, List.length_append]; omega
  obtain ⟨l3, e3, n3, w3⟩ := wbyte 120 (.inr rfl) true l2 41 (by omega)
  have w3 : ConM Tryz.prog 102 (HB 120 true l2) [.ptr 1000 0, uval 41] (.val .nilIface) (HB 120 true l3) := w3
  have hfin : l ++ ([40] ++ bl e.name ++ [32] ++ (List.map txtE [x]).headD [] ++ [41]) = l3 := by rw [e3, e2, e1]; simp
  rw [hfin]
  simp only [exprX, encE_eq] at hex
  refine AWp.seq ?_
  refine AWp.regK [0,3] [] F104r8 [{ r := .tup [],us := [1000],bs := HB 120 true l1 }] (by kernel_rfl) (by rw [hC]; rfl) fun K hK => ?_
  simp (maxSteps := 2000000) [F104r8]
  (repeat first | refine ⟨by first | kernel_rfl | (intros; omega) | assumption, ?_⟩ | refine ⟨by intros; exact callB htt (.cons .refl (.cons .own .nil)) rfl rfl, ?_⟩); refine hK _ ?_
  refine AWp.seq ?_
  refine AWp.regK [0] [] F104r9 [{ r := .tup [],us := [1000],bs := HB 120 true l2 }] (by kernel_rfl) (by rw [hC]; rfl) fun K hK => ?_
  simp (maxSteps := 2000000) [F104r9, hx]
  (repeat first | refine ⟨by first | kernel_rfl | (intros; omega) | assumption, ?_⟩ | refine ⟨by intros; exact callB hex (.cons .refl (.cons .refl .nil)) rfl rfl, ?_⟩); refine hK _ ?_
  refine AWp.regK [] [] F104r10 [{ r := .val .nilIface,us := [1000],bs := HB 120 true l3 }] (by kernel_rfl) (by rw [hC]; rfl) fun K hK => ?_
  simp (maxSteps := 2000000) [F104r10]
  (repeat first | refine ⟨by first | kernel_rfl | (intros; omega) | assumption, ?_⟩ | refine ⟨by intros; exact callB w3 (.cons .refl (.cons .refl .nil)) rfl rfl, ?_⟩); refine hK _ ?_
  refine ⟨.inl rfl, ⟨[], rfl, .refl⟩, rfl, ?_⟩
  simp
 have h2 : ¬ e.args.length = 1 := by simpa using h2
 rw [if_neg h2]
 obtain ⟨l1, e1, n1, w1⟩ := wbyte 120 (.inr rfl) u l 40 (by omega)
 have w1 : ConM Tryz.prog 102 (HB 120 u l) [.ptr 1000 0, uval 40] (.val .nilIface) (HB 120 true l1) := w1
 obtain ⟨sep, hsep⟩ : ∃ sep : ByteArray, sep = ⟨#[32]⟩ ++ e.name ++ ⟨#[32]⟩ := ⟨_, rfl⟩
 have hbs : bl sep = [32] ++ bl e.name ++ [32] := by rw [hsep]; unfold bl; simp
 have hss : sep.size = e.name.size + 2 := by rw [← bl_len, hbs]; simp [hbl]
 have hm2 : sep.size * e.args.length ≤ (e.name.size + 2) * 2 := by rw [hss]; exact Nat.mul_le_mul_left _ ha
 have hj := list_ok l1 e.args sep (by omega) hW (by omega)
 have hjl := sumW hW
 have hjl2 := joinT_len (bl sep) (e.args.map txtE)
 rw [bl_len, List.length_map] at hjl2
 obtain ⟨l2, e2⟩ : ∃ l2, l2 = l1 ++ joinT (bl sep) (e.args.map txtE) := ⟨_, rfl⟩
 rw [← e2] at hj
 obtain ⟨l3, e3, n3, w3⟩ := wbyte 120 (.inr rfl) true l2 41 (by rw [e2, List.length_append]; omega)
 have w3 : ConM Tryz.prog 102 (HB 120 true l2) [.ptr 1000 0, uval 41] (.val .nilIface) (HB 120 true l3) := w3
 have hfin : l ++ (40 :: (joinT ([32] ++ bl e.name ++ [32]) (e.args.map txtE) ++ [41])) = l3 := by rw [e3, e2, e1, hbs]; simp
 rw [hfin]
 refine AWp.seq ?_
 refine AWp.regK [0,3] [] F104r1 [{ r := .val .nilIface,us := [1000],bs := HB 120 true l1 }] (by kernel_rfl) (by rw [hC]; rfl) fun K hK => ?_
 simp (maxSteps := 2000000) [F104r1]
 (repeat first | refine ⟨by first | kernel_rfl | (intros; omega) | assumption, ?_⟩ | refine ⟨by intros; exact callB w1 (.cons .refl (.cons .refl .nil)) rfl rfl, ?_⟩); refine hK _ ?_
 refine AWp.seq ?_
 refine AWp.regK [0] [] F104r2 [{ r := .tup [],us := [1000],bs := HB 120 true l2 }] (by kernel_rfl) (by rw [hC]; rfl) fun K hK => ?_
 simp (maxSteps := 2000000) [F104r2, hsep.symm]
 (repeat first | refine ⟨by first | kernel_rfl | (intros; omega) | assumption, ?_⟩ | refine ⟨by intros; exact show 1 + e.name.size ≤ 4611686018427387904 by omega, ?_⟩ | refine ⟨by intros; exact show 1 + e.name.size + 1 ≤ 4611686018427387904 by omega, ?_⟩ | refine ⟨by intros; exact callB hj (.cons .refl (.cons .refl (.cons .refl (.cons .refl .nil)))) rfl rfl, ?_⟩); refine hK _ ?_
 refine AWp.regK [] [] F104r3 [{ r := .val .nilIface,us := [1000],bs := HB 120 true l3 }] (by kernel_rfl) (by rw [hC]; rfl) fun K hK => ?_
 simp (maxSteps := 2000000) [F104r3]
 (repeat first | refine ⟨by first | kernel_rfl | (intros; omega) | assumption, ?_⟩ | refine ⟨by intros; exact callB w3 (.cons .refl (.cons .refl .nil)) rfl rfl, ?_⟩); refine hK _ ?_
 refine ⟨.inl rfl, ⟨[], rfl, .refl⟩, rfl, ?_⟩
 simp
def ifW : List ByteArray := [⟨#[40, 105, 102, 32]⟩, ⟨#[32, 116, 104, 101, 110, 32]⟩, ⟨#[32, 101, 108, 115, 101, 32]⟩]
def WrE (e : ExprD) : Prop := (txtE e).length ≤ 36 * esize e ∧ ∀ (u : Bool) (b : List UInt8), b.length + 36 * esize e ≤ 549755813888 → ConM Tryz.prog 76 (HB 120 u b) [.ptr 1000 0, exprX e] (.tup []) (HB 120 true (b ++ txtE e))
theorem expr_ok : ∀ (n : Nat) (e : ExprD), esize e < n → esize e ≤ 4194304 → good false e = true → rangeE e → WrE e := by
 intro n
 induction n with
 | zero => intro e h; omega
 | succ n ih =>
  intro e hn hv hg hr
  have hsz := esize_eq e
  have hvs := vsize_eq e.v
  have hlen := esizes_len e.args
  have htl := txtE_len false e hg hr
  have hg' := hg
  rw [good_eq] at hg'
  simp only [Bool.and_eq_true] at hg'
  obtain ⟨⟨hgo, hgn⟩, hga⟩ := hg'
  rw [rangeE_eq] at hr
  have hW : WrL e.args := fun x hx => by
   have h1 := esize_mem hx
   have hgx : good false x = true := by rw [goods_all] at hga; exact List.all_eq_true.1 hga x hx
   exact ih x (by omega) (by omega) hgx (rangeEs_mem hr.2 x hx)
  refine ⟨by omega, fun u l hl => ?_⟩
  have htx := txtE_eq e
  have hbl := bl_len e.name
  unfold goodOwn at hgo
  refine ConM.of_code Tryz.func76 (by kernel_rfl) rfl (by simp [Tryz.ntmps76]) (by simp [Tryz.ntmps76]) (hand_of rfl) (more_of rfl) rfl (fun C hC hρ => ?_)
  refine AWp.seq ?_
  refine AWp.regK [0,3] [] F76r0 [] (by kernel_rfl) (by rw [hC]; rfl) fun K hK => ?_
  simp (maxSteps := 2000000) [F76r0]
  refine hK _ ?_
  refine AWp.seq ?_
  refine AWp.regK [0,3,7] [] F76r1 [] (by kernel_rfl) (by rw [hC]; rfl) fun K hK => ?_
  simp (maxSteps := 2000000) [F76r1]
  refine hK _ ?_
  refine AWp.block ?_
  refine AWp.seq ?_
  refine AWp.regK [0,3,7,8] [false,true] F76r2 [] (by kernel_rfl) (by rw [hC]; rfl) fun K hK => ?_
  simp (maxSteps := 2000000) [F76r2]
  refine hK _ ?_
  refine AWp.cond _ (by rfl) (fun h1 => ?_) (fun h1 => ?_)
  ·skip
   have h1 : e.kind = 1 := by simpa using h1
   rw [if_pos h1] at hgo htx
   simp only [Bool.and_eq_true, decide_eq_true_eq] at hgo
   have hs := Show_ok e.v ⟨hgo.1.1.1.1, hgo.1.1.1.2⟩ hgo.1.1.2 hr.1 (by omega)
   have hvl := txtV_len e.v hr.1
   obtain ⟨l1, e1, n1, w1⟩ := wstr 120 (.inr rfl) u l ⟨(txtV e.v).toArray⟩ (by show l.length + (txtV e.v).length ≤ _; omega)
   have hfin : l ++ txtE e = l1 := by rw [e1, htx]; rfl
   rw [hfin]
   refine AWp.regKL ops_mixed [[],[0],[0,1],[],[3],[3,4],[0,1,2,3,4,5]] [] [] F76r3 [{ r := sval ⟨(txtV e.v).toArray⟩ },{ r := .tup [ival (txtV e.v).length,.val .nilIface],us := [1000],bs := HB 120 true l1 }] (by kernel_rfl) (by rw [hC]; rfl) (by kernel_rfl) (by kernel_rfl) fun K hK => ?_
   simp (maxSteps := 2000000) [F76r3]
   (repeat first | refine ⟨by first | kernel_rfl | (intros; omega) | assumption, ?_⟩ | refine ⟨by intros; exact callOK rfl hs, ?_⟩ | refine ⟨by intros; exact callB w1 (.cons .refl (.cons .refl .nil)) rfl rfl, ?_⟩); refine hK _ ?_
   refine ⟨.inl rfl, ⟨[], rfl, .refl⟩, rfl, ?_⟩
   simp
  have h1 : ¬ e.kind = 1 := by simpa using h1
  rw [if_neg h1] at hgo htx
  refine AWp.seq ?_
  refine AWp.regK [0,3,7,17] [false,true] F76r4 [] (by kernel_rfl) (by rw [hC]; rfl) fun K hK => ?_
  simp (maxSteps := 2000000) [F76r4]
  refine hK _ ?_
  refine AWp.cond _ (by rfl) (fun h2 => ?_) (fun h2 => ?_)
  ·skip
   have h2 : e.kind = 2 := by simpa using h2
   rw [if_pos h2] at htx
   obtain ⟨l1, e1, n1, w1⟩ := wstr 120 (.inr rfl) u l e.name (by omega)
   have hfin : l ++ txtE e = l1 := by rw [e1, htx]
   rw [hfin]
   refine AWp.regKL ops_mixed [[],[0],[0,1],[],[3],[0,1,2,3,4]] [] [] F76r5 [{ r := .tup [ival e.name.size,.val .nilIface],us := [1000],bs := HB 120 true l1 }] (by kernel_rfl) (by rw [hC]; rfl) (by kernel_rfl) (by kernel_rfl) fun K hK => ?_
   simp (maxSteps := 2000000) [F76r5]
   (repeat first | refine ⟨by first | kernel_rfl | (intros; omega) | assumption, ?_⟩ | refine ⟨by intros; exact callB w1 (.cons .refl (.cons .refl .nil)) rfl rfl, ?_⟩); refine hK _ ?_
   refine ⟨.inl rfl, ⟨[], rfl, .refl⟩, rfl, ?_⟩
   simp
  have h2 : ¬ e.kind = 2 := by simpa using h2
  rw [if_neg h2] at hgo htx
  refine AWp.seq ?_
  refine AWp.regK [0,3,7,25] [false,true] F76r6 [] (by kernel_rfl) (by rw [hC]; rfl) fun K hK => ?_
  simp (maxSteps := 2000000) [F76r6]
  refine hK _ ?_
  refine AWp.cond _ (by rfl) (fun h3 => ?_) (fun h3 => ?_)
  ·skip
   have h3 : e.kind = 3 := by simpa using h3
   rw [if_pos h3] at htx
   obtain ⟨l1, e1, n1, w1⟩ := wbyte 120 (.inr rfl) u l 95 (by omega)
   have w1 : ConM Tryz.prog 102 (HB 120 u l) [.ptr 1000 0, uval 95] (.val .nilIface) (HB 120 true l1) := w1
   have hfin : l ++ txtE e = l1 := by rw [e1, htx]
   rw [hfin]
   refine AWp.regK [] [] F76r7 [{ r := .val .nilIface,us := [1000],bs := HB 120 true l1 }] (by kernel_rfl) (by rw [hC]; rfl) fun K hK => ?_
   simp (maxSteps := 2000000) [F76r7]
   (repeat first | refine ⟨by first | kernel_rfl | (intros; omega) | assumption, ?_⟩ | refine ⟨by intros; exact callB w1 (.cons .refl (.cons .refl .nil)) rfl rfl, ?_⟩); refine hK _ ?_
   refine ⟨.inl rfl, ⟨[], rfl, .refl⟩, rfl, ?_⟩
   simp
  have h3 : ¬ e.kind = 3 := by simpa using h3
  rw [if_neg h3] at hgo htx
  refine AWp.seq ?_
  refine AWp.regK [0,3,7,31] [false,true] F76r8 [] (by kernel_rfl) (by rw [hC]; rfl) fun K hK => ?_
  simp (maxSteps := 2000000) [F76r8]
  refine hK _ ?_
  refine AWp.cond _ (by rfl) (fun h4 => ?_) (fun h4 => ?_)
  ·skip
   have h4 : e.kind = 4 := by simpa using h4
   rw [if_pos h4] at hgo htx
   simp only [Bool.and_eq_true, decide_eq_true_eq] at hgo
   have hbr := brackets_ok u l e.args hgo.2 hW (by omega)
   rw [← htx] at hbr
   refine AWp.regK [] [] F76r9 [{ r := .tup [],us := [1000],bs := HB 120 true (l ++ txtE e) }] (by kernel_rfl) (by rw [hC]; rfl) fun K hK => ?_
   simp (maxSteps := 2000000) [F76r9]
   (repeat first | refine ⟨by first | kernel_rfl | (intros; omega) | assumption, ?_⟩ | refine ⟨by intros; exact callB hbr (.cons .refl (.cons .refl (.cons .refl .nil))) rfl rfl, ?_⟩); refine hK _ ?_
   refine ⟨.inl rfl, ⟨[], rfl, .refl⟩, rfl, ?_⟩
   simp
  have h4 : ¬ e.kind = 4 := by simpa using h4
  rw [if_neg h4] at hgo htx
  refine AWp.seq ?_
  refine AWp.regK [0,3,7,39] [false,true] F76r10 [] (by kernel_rfl) (by rw [hC]; rfl) fun K hK => ?_
  simp (maxSteps := 2000000) [F76r10]
  refine hK _ ?_
  refine AWp.cond _ (by rfl) (fun h5 => ?_) (fun h5 => ?_)
  ·skip
   have h5 : e.kind = 5 := by simpa using h5
   rw [if_pos h5] at hgo htx
   simp only [Bool.and_eq_true, decide_eq_true_eq] at hgo
   obtain ⟨l1, e1, n1, w1⟩ := wstr 120 (.inr rfl) u l e.name (by omega)
   refine AWp.seq ?_
   refine AWp.regKL ops_mixed [[],[0],[0,1],[],[3],[0,1,2,3,4]] [0,3] [] F76r11 [{ r := .tup [ival e.name.size,.val .nilIface],us := [1000],bs := HB 120 true l1 }] (by kernel_rfl) (by rw [hC]; rfl) (by kernel_rfl) (by kernel_rfl) fun K hK => ?_
   simp (maxSteps := 2000000) [F76r11]
   (repeat first | refine ⟨by first | kernel_rfl | (intros; omega) | assumption, ?_⟩ | refine ⟨by intros; exact callB w1 (.cons .refl (.cons .refl .nil)) rfl rfl, ?_⟩); refine hK _ ?_
   refine AWp.seq ?_
   refine AWp.regK [0,3,50] [] F76r12 [] (by kernel_rfl) (by rw [hC]; rfl) fun K hK => ?_
   simp (maxSteps := 2000000) [F76r12]
   refine hK _ ?_
   refine AWp.cond _ (by rfl) (fun h6 => ?_) (fun h6 => ?_)
   ·skip
    have h6 : 0 < e.args.length := by simpa using h6
    rw [if_neg (by omega)] at htx
    have hbr := brackets_ok true l1 e.args (by omega) hW (by omega)
    rw [e1, List.append_assoc, ← htx, ← e1] at hbr
    refine AWp.regK [] [] F76r13 [{ r := .tup [],us := [1000],bs := HB 120 true (l ++ txtE e) }] (by kernel_rfl) (by rw [hC]; rfl) fun K hK => ?_
    simp (maxSteps := 2000000) [F76r13]
    (repeat first | refine ⟨by first | kernel_rfl | (intros; omega) | assumption, ?_⟩ | refine ⟨by intros; exact callB hbr (.cons .refl (.cons .refl (.cons .refl .nil))) rfl rfl, ?_⟩); refine hK _ ?_
    refine ⟨.inl rfl, ⟨[], rfl, .refl⟩, rfl, ?_⟩
    simp
   have h6 : ¬ 0 < e.args.length := by simpa using h6
   rw [if_pos (by omega)] at htx
   rw [htx, ← e1]
   refine AWp.skip ?_
   refine ⟨.inl rfl, ⟨[], rfl, .refl⟩, rfl, ?_⟩
   simp
  have h5 : ¬ e.kind = 5 := by simpa using h5
  rw [if_neg h5] at hgo htx
  refine AWp.seq ?_
  refine AWp.regK [0,3,7,57] [false,true] F76r14 [] (by kernel_rfl) (by rw [hC]; rfl) fun K hK => ?_
  simp (maxSteps := 2000000) [F76r14]
  refine hK _ ?_
  refine AWp.cond _ (by rfl) (fun h6 => ?_) (fun h6 => ?_)
  ·skip
   have h6 : e.kind = 6 := by simpa using h6
   have hc := call_ok u l e h6 (good_arity hg h6) hW hl
   simp only [exprX, encE_eq] at hc
   refine AWp.regK [] [] F76r15 [{ r := .tup [],us := [1000],bs := HB 120 true (l ++ txtE e) }] (by kernel_rfl) (by rw [hC]; rfl) fun K hK => ?_
   simp (maxSteps := 2000000) [F76r15]
   (repeat first | refine ⟨by first | kernel_rfl | (intros; omega) | assumption, ?_⟩ | refine ⟨by intros; exact callB hc (.cons .refl (.cons .refl .nil)) rfl rfl, ?_⟩); refine hK _ ?_
   refine ⟨.inl rfl, ⟨[], rfl, .refl⟩, rfl, ?_⟩
   simp
  have h6 : ¬ e.kind = 6 := by simpa using h6
  rw [if_neg h6] at hgo htx
  refine AWp.seq ?_
  refine AWp.regK [0,3,7,62] [false,true] F76r16 [] (by kernel_rfl) (by rw [hC]; rfl) fun K hK => ?_
  simp (maxSteps := 2000000) [F76r16]
  refine hK _ ?_
  refine AWp.cond _ (by rfl) (fun h7 => ?_) (fun h7 => ?_)
  ·skip
   have h7 : e.kind = 7 := by simpa using h7
   rw [if_pos h7] at hgo
   simp only [Bool.and_eq_true, decide_eq_true_eq] at hgo
   have hc := field_ok u l e h7 hgo.2 hW hl
   simp only [exprX, encE_eq] at hc
   refine AWp.regK [] [] F76r17 [{ r := .tup [],us := [1000],bs := HB 120 true (l ++ txtE e) }] (by kernel_rfl) (by rw [hC]; rfl) fun K hK => ?_
   simp (maxSteps := 2000000) [F76r17]
   (repeat first | refine ⟨by first | kernel_rfl | (intros; omega) | assumption, ?_⟩ | refine ⟨by intros; exact callB hc (.cons .refl (.cons .refl .nil)) rfl rfl, ?_⟩); refine hK _ ?_
   refine ⟨.inl rfl, ⟨[], rfl, .refl⟩, rfl, ?_⟩
   simp
  have h7 : ¬ e.kind = 7 := by simpa using h7
  rw [if_neg h7] at hgo htx
  refine AWp.seq ?_
  refine AWp.regK [0,3,67] [false,true] F76r18 [] (by kernel_rfl) (by rw [hC]; rfl) fun K hK => ?_
  simp (maxSteps := 2000000) [F76r18]
  refine hK _ ?_
  refine AWp.cond _ (by rfl) (fun h8 => ?_) (fun h8 => ?_)
  ·skip
   have h8 : e.kind = 8 := by simpa using h8
   rw [if_pos h8] at hgo htx
   simp only [Bool.and_eq_true, decide_eq_true_eq] at hgo
   have ha3 : e.args.length = 3 := hgo.2
   obtain ⟨cur, hcur⟩ : ∃ cur : Nat → List UInt8, ∀ k, cur k = l ++ ((ifT.zip (e.args.map txtE)).take k).flatMap fun (p : List UInt8 × List UInt8) => p.1 ++ p.2 := ⟨_, fun _ => rfl⟩
   have hc0 : cur 0 = l := by rw [hcur]; simp
   have hwl : ifW.length = 3 := rfl
   have hzl : (ifT.zip (e.args.map txtE)).length = 3 := by simp [ha3, ifT]
   have hc3 : cur 3 ++ [41] = l ++ txtE e := by rw [hcur, htx, List.take_of_length_le (by omega), List.append_assoc]
   have hk1 : ∀ k, (h : k < ifW.length) → (h' : k < e.args.length) → cur (k + 1) = cur k ++ bl ifW[k] ++ txtE e.args[k] := by
    intro k h h'
    rw [hcur, hcur, List.take_succ_eq_append_getElem (by omega), List.flatMap_append]
    have : ∀ k, (h : k < ifW.length) → ifT[k]'(h) = bl ifW[k] := by decide
    simp [List.getElem_zip]
    exact this k h
   have hwb : ∀ k, (h : k < ifW.length) → ifW[k].size ≤ 6 := by decide
   have hcl : ∀ k, k ≤ 3 → (cur k).length ≤ l.length + 36 * esizes (e.args.take k) + 6 * k := by
    intro k
    induction k with
    | zero => intro _; rw [hc0]; simp
    | succ k ihk =>
     intro hk
     have i1 := ihk (by omega)
     have i2 := hk1 k (by omega) (by omega)
     have i3 := esizes_snoc e.args k (by omega)
     have i4 := (hW e.args[k] (List.getElem_mem _)).1
     have i5 := hwb k (by omega)
     have i6 := bl_len ifW[k]
     rw [i2]
     simp only [List.length_append]
     omega
   have hend : ∃ l3, l3 = l ++ txtE e ∧ ConM Tryz.prog 102 (HB 120 true (cur 3)) [.ptr 1000 0, uval 41] (.val .nilIface) (HB 120 true l3) := by
    have i1 := hcl 3 (by omega)
    have i2 := esizes_take_le e.args 3
    obtain ⟨l3, e3, _, w3⟩ := wbyte 120 (.inr rfl) true (cur 3) 41 (by omega)
    exact ⟨l3, by rw [e3, hc3], w3⟩
   obtain ⟨l3, e3, w3⟩ := hend
   rw [← e3]
   refine AWp.seq ?_
   refine AWp.seq ?_
   refine AWp.regK [0,3,69,70,71] [] F76r19 [] (by kernel_rfl) (by rw [hC]; rfl) fun K hK => ?_
   simp (maxSteps := 2000000) [F76r19]
   (repeat refine ⟨by first | omega | (intros; omega) | assumption, ?_⟩); refine hK _ ?_
   refine AWp.block ?_
   refine AWp.loopG (fun k : Nat => { tm := [(0, .ptr 1000 0), (3, .ptr 3 0), (69, .own 9 1 (texts ifW)), (70, ival 3), (71, ival k)], hp := HB 120 (u || decide (0 < k)) (cur k) ++ [(3, exprB e)] }) (fun k => k ≤ 3) (fun k => 3 - k) 0 (by omega) (by simp [hc0, ifW]; exact ⟨rfl, by cases u <;> rfl⟩) (fun k hk => ?_)
   generalize ifW = ws at hwl hk1 hwb ⊢
   refine AWp.seq ?_
   refine AWp.regK [0,3,69,70,71,72] [] F76r20 [] (by kernel_rfl) (by rw [hC]; rfl) fun K hK => ?_
   simp (maxSteps := 2000000) [F76r20]
   refine hK _ ?_
   refine AWp.seq ?_
   refine AWp.cond _ (by rfl) (fun hlt => ?_) (fun hge => ?_)
   ·skip
    have hlt : k < 3 := by
     have : (k : Int) < 3 := by simpa using hlt
     omega
    have hlt1 : k < ws.length := by omega
    have hlt2 : k < e.args.length := by omega
    have i2 := hk1 k hlt1 hlt2
    have i1 := hcl k (by omega)
    have i3 := esizes_snoc e.args k hlt2
    have i4 := esizes_take_le e.args (k + 1)
    have i5 := hwb k hlt1
    have hwe := hW e.args[k] (List.getElem_mem _)
    obtain ⟨l1, e1, n1, w1⟩ := wstr 120 (.inr rfl) (u || decide (0 < k)) (cur k) ws[k] (by omega)
    have hc := hwe.2 true l1 (by omega)
    rw [e1, ← i2, ← e1] at hc
    refine AWp.skip ?_
    refine AWp.seq ?_
    refine AWp.block ?_
    refine AWp.seq ?_
    refine AWp.regK [0,3,4,5,69,70,71] [true,false,false,true,true] F76r21 [] (by kernel_rfl) (by rw [hC]; rfl) fun K hK => ?_
    simp (maxSteps := 2000000) [F76r21, hlt1]
    (repeat refine ⟨by first | omega | (intros; omega) | assumption, ?_⟩); refine hK _ ?_
    refine AWp.seq ?_
    refine AWp.regK [0,3,4,69,70,71] [] F76r22 [{ r := .tup [ival ws[k].size,.val .nilIface],us := [1000],bs := HB 120 true l1 }] (by kernel_rfl) (by rw [hC]; rfl) fun K hK => ?_
    simp (maxSteps := 2000000) [F76r22]
    (repeat first | refine ⟨by first | kernel_rfl | (intros; omega) | assumption, ?_⟩ | refine ⟨by intros; exact callB w1 (.cons .refl (.cons .refl .nil)) rfl rfl, ?_⟩); refine hK _ ?_
    simp only [exprX, encE_eq] at hc
    refine AWp.regK [0,3,69,70,71] [] F76r23 [{ r := .tup [],us := [1000],bs := HB 120 true (cur (k + 1)) }] (by kernel_rfl) (by rw [hC]; rfl) fun K hK => ?_
    simp (maxSteps := 2000000) [F76r23, hlt2]
    (repeat first | refine ⟨by first | kernel_rfl | (intros; omega) | assumption, ?_⟩ | refine ⟨by intros; exact callB hc (.cons .refl (.cons .refl .nil)) rfl rfl, ?_⟩); refine hK _ ?_
    refine AWp.regK [0,3,69,70,71] [] F76r24 [] (by kernel_rfl) (by rw [hC]; rfl) fun K hK => ?_
    simp (maxSteps := 2000000) [F76r24]
    (repeat refine ⟨by first | omega | (intros; omega) | assumption, ?_⟩); refine hK _ ?_
    refine ⟨k + 1, by omega, by omega, ?_⟩
    simp [wrap_nat k (by omega)]
   have hge : ¬ k < 3 := by
    have : (3 : Int) ≤ k := by simpa using hge
    omega
   have hk' : k = 3 := by omega
   subst hk'
   refine AWp.exit ?_
   refine AWp.regK [] [] F76r25 [{ r := .val .nilIface,us := [1000],bs := HB 120 true l3 }] (by kernel_rfl) (by rw [hC]; rfl) fun K hK => ?_
   simp (maxSteps := 2000000) [F76r25]
   (repeat first | refine ⟨by first | kernel_rfl | (intros; omega) | assumption, ?_⟩ | refine ⟨by intros; exact callB w3 (.cons .refl (.cons .refl .nil)) rfl rfl, ?_⟩); refine hK _ ?_
   refine ⟨.inl rfl, ⟨[], rfl, .refl⟩, rfl, ?_⟩
   simp
  have h8 : ¬ e.kind = 8 := by simpa using h8
  rw [if_neg h8] at hgo
  cases hgo
end Go.Al
