/- The program: are two values, expressions, plans the same? Texts in lists. -/
import Derived.Test.YtdobngcdgkallaaGreatDoorAlL
import Derived.WalkKit
import Derived.BigCall
import Derived.BigGuard
import Derived.Test.YtdobngcdgkallaaGreatDoorChecked
set_option linter.unusedSimpArgs false
set_option linter.unusedVariables false
set_option linter.unusedSectionVars false
open Go Go.Aw Go.Proofs
namespace Go.Al
set_option maxRecDepth 20000
-- function 51: slices.EqualFunc[[]corollary/api.Value,[]corollary/api.Value,corollary/api.Value,corollary/api.Value]
def F51r0 : List ROp := [⟨some 6,.copy true (.const (.bool false)),[],none⟩]
def F51r1 : List ROp := [⟨some 10,.copy false (.tmp 0),[],none⟩,
 ⟨some 11,.len 0 (.tmp 10),[],none⟩,
 ⟨some 12,.copy false (.tmp 1),[],none⟩,
 ⟨some 13,.len 0 (.tmp 12),[],none⟩,
 ⟨some 14,.bin .neq (.tmp 11) (.tmp 13),[],none⟩]
def F51r2 : List ROp := [⟨some 6,.copy true (.const (.bool false)),[],none⟩]
def F51r3 : List ROp := [⟨some 15,.copy false (.tmp 0),[],none⟩,
 ⟨some 16,.len 0 (.tmp 15),[],none⟩,
 ⟨some 17,.copy false (.const (.int .i64 0)),[],none⟩]
def F51r4 : List ROp := [⟨some 18,.bin .lss (.tmp 17) (.tmp 16),[],none⟩]
def F51r5 : List ROp := [⟨some 19,.copy true (.tmp 17),[],none⟩,
 ⟨some 20,.iad 4 (.tmp 15) (.tmp 17),[],none⟩,
 ⟨some 21,.load 4 true false (.tmp 20),[],none⟩,
 ⟨some 8,.alloc 56 [Value.int .u8 0,Value.int .i64 0,Value.string ByteArray.empty,Value.slice none 0 0],[],none⟩,
 ⟨some 7,.copy true (.tmp 19),[],none⟩,
 ⟨none,.store 4 true (.tmp 8) (.tmp 21),[],none⟩]
def F51r6 : List ROp := [⟨some 22,.copy false (.tmp 1),[],none⟩,
 ⟨some 23,.copy false (.tmp 7),[],none⟩,
 ⟨some 24,.iad 4 (.tmp 22) (.tmp 23),[],none⟩,
 ⟨some 25,.load 4 true false (.tmp 24),[],none⟩,
 ⟨some 9,.alloc 56 [Value.int .u8 0,Value.int .i64 0,Value.string ByteArray.empty,Value.slice none 0 0],[],none⟩,
 ⟨none,.store 4 true (.tmp 9) (.tmp 25),[],none⟩]
def F51r7 : List ROp := [⟨some 26,.copy false (.tmp 2),[],none⟩,
 ⟨some 27,.load 4 true false (.tmp 8),[],none⟩,
 ⟨some 28,.load 4 true false (.tmp 9),[],none⟩,
 ⟨some 29,.call (.tmp 26) [.tmp 27,.tmp 28],[],none⟩,
 ⟨some 30,.un .not (.tmp 29),[],none⟩]
def F51r8 : List ROp := [⟨some 6,.copy true (.const (.bool false)),[],none⟩]
def F51r9 : List ROp := [⟨some 31,.bin .add (.tmp 17) (.const (.int .i64 1)),[],none⟩,
 ⟨some 17,.copy false (.tmp 31),[],none⟩]
def F51r10 : List ROp := [⟨some 6,.copy true (.const (.bool true)),[],none⟩]
-- function 18: slices.EqualFunc[[]corollary/api.Expr,[]corollary/api.Expr,corollary/api.Expr,corollary/api.Expr]
def F18r0 : List ROp := [⟨some 6,.copy true (.const (.bool false)),[],none⟩]
def F18r1 : List ROp := [⟨some 10,.copy false (.tmp 0),[],none⟩,
 ⟨some 11,.len 0 (.tmp 10),[],none⟩,
 ⟨some 12,.copy false (.tmp 1),[],none⟩,
 ⟨some 13,.len 0 (.tmp 12),[],none⟩,
 ⟨some 14,.bin .neq (.tmp 11) (.tmp 13),[],none⟩]
def F18r2 : List ROp := [⟨some 6,.copy true (.const (.bool false)),[],none⟩]
def F18r3 : List ROp := [⟨some 15,.copy false (.tmp 0),[],none⟩,
 ⟨some 16,.len 0 (.tmp 15),[],none⟩,
 ⟨some 17,.copy false (.const (.int .i64 0)),[],none⟩]
def F18r4 : List ROp := [⟨some 18,.bin .lss (.tmp 17) (.tmp 16),[],none⟩]
def F18r5 : List ROp := [⟨some 19,.copy true (.tmp 17),[],none⟩,
 ⟨some 20,.iad 9 (.tmp 15) (.tmp 17),[],none⟩,
 ⟨some 21,.load 9 true false (.tmp 20),[],none⟩,
 ⟨some 8,.alloc 58 [Value.int .u8 0,Value.int .i64 0,Value.int .i64 0,Value.string ByteArray.empty,Value.int .u8 0,Value.int .i64 0,Value.string ByteArray.empty,Value.slice none 0 0,Value.slice none 0 0],[],none⟩,
 ⟨some 7,.copy true (.tmp 19),[],none⟩,
 ⟨none,.store 9 true (.tmp 8) (.tmp 21),[],none⟩]
def F18r6 : List ROp := [⟨some 22,.copy false (.tmp 1),[],none⟩,
 ⟨some 23,.copy false (.tmp 7),[],none⟩,
 ⟨some 24,.iad 9 (.tmp 22) (.tmp 23),[],none⟩,
 ⟨some 25,.load 9 true false (.tmp 24),[],none⟩,
 ⟨some 9,.alloc 58 [Value.int .u8 0,Value.int .i64 0,Value.int .i64 0,Value.string ByteArray.empty,Value.int .u8 0,Value.int .i64 0,Value.string ByteArray.empty,Value.slice none 0 0,Value.slice none 0 0],[],none⟩,
 ⟨none,.store 9 true (.tmp 9) (.tmp 25),[],none⟩]
def F18r7 : List ROp := [⟨some 26,.copy false (.tmp 2),[],none⟩,
 ⟨some 27,.load 9 true false (.tmp 8),[],none⟩,
 ⟨some 28,.load 9 true false (.tmp 9),[],none⟩,
 ⟨some 29,.call (.tmp 26) [.tmp 27,.tmp 28],[],none⟩,
 ⟨some 30,.un .not (.tmp 29),[],none⟩]
def F18r8 : List ROp := [⟨some 6,.copy true (.const (.bool false)),[],none⟩]
def F18r9 : List ROp := [⟨some 31,.bin .add (.tmp 17) (.const (.int .i64 1)),[],none⟩,
 ⟨some 17,.copy false (.tmp 31),[],none⟩]
def F18r10 : List ROp := [⟨some 6,.copy true (.const (.bool true)),[],none⟩]
-- function 21: slices.EqualFunc[[]corollary/algebra.Plan,[]corollary/algebra.Plan,corollary/algebra.Plan,corollary/algebra.Plan]
def F21r0 : List ROp := [⟨some 6,.copy true (.const (.bool false)),[],none⟩]
def F21r1 : List ROp := [⟨some 10,.copy false (.tmp 0),[],none⟩,
 ⟨some 11,.len 0 (.tmp 10),[],none⟩,
 ⟨some 12,.copy false (.tmp 1),[],none⟩,
 ⟨some 13,.len 0 (.tmp 12),[],none⟩,
 ⟨some 14,.bin .neq (.tmp 11) (.tmp 13),[],none⟩]
def F21r2 : List ROp := [⟨some 6,.copy true (.const (.bool false)),[],none⟩]
def F21r3 : List ROp := [⟨some 15,.copy false (.tmp 0),[],none⟩,
 ⟨some 16,.len 0 (.tmp 15),[],none⟩,
 ⟨some 17,.copy false (.const (.int .i64 0)),[],none⟩]
def F21r4 : List ROp := [⟨some 18,.bin .lss (.tmp 17) (.tmp 16),[],none⟩]
def F21r5 : List ROp := [⟨some 19,.copy true (.tmp 17),[],none⟩,
 ⟨some 20,.iad 6 (.tmp 15) (.tmp 17),[],none⟩,
 ⟨some 21,.load 6 true false (.tmp 20),[],none⟩,
 ⟨some 8,.alloc 33 [Value.int .u8 0,Value.string ByteArray.empty,Value.string ByteArray.empty,Value.slice none 0 0,Value.slice none 0 0,Value.slice none 0 0],[],none⟩,
 ⟨some 7,.copy true (.tmp 19),[],none⟩,
 ⟨none,.store 6 true (.tmp 8) (.tmp 21),[],none⟩]
def F21r6 : List ROp := [⟨some 22,.copy false (.tmp 1),[],none⟩,
 ⟨some 23,.copy false (.tmp 7),[],none⟩,
 ⟨some 24,.iad 6 (.tmp 22) (.tmp 23),[],none⟩,
 ⟨some 25,.load 6 true false (.tmp 24),[],none⟩,
 ⟨some 9,.alloc 33 [Value.int .u8 0,Value.string ByteArray.empty,Value.string ByteArray.empty,Value.slice none 0 0,Value.slice none 0 0,Value.slice none 0 0],[],none⟩,
 ⟨none,.store 6 true (.tmp 9) (.tmp 25),[],none⟩]
def F21r7 : List ROp := [⟨some 26,.copy false (.tmp 2),[],none⟩,
 ⟨some 27,.load 6 true false (.tmp 8),[],none⟩,
 ⟨some 28,.load 6 true false (.tmp 9),[],none⟩,
 ⟨some 29,.call (.tmp 26) [.tmp 27,.tmp 28],[],none⟩,
 ⟨some 30,.un .not (.tmp 29),[],none⟩]
def F21r8 : List ROp := [⟨some 6,.copy true (.const (.bool false)),[],none⟩]
def F21r9 : List ROp := [⟨some 31,.bin .add (.tmp 17) (.const (.int .i64 1)),[],none⟩,
 ⟨some 17,.copy false (.tmp 31),[],none⟩]
def F21r10 : List ROp := [⟨some 6,.copy true (.const (.bool true)),[],none⟩]
-- function 20: slices.Equal[[]string,string]
def F20r0 : List ROp := [⟨some 4,.copy true (.const (.bool false)),[],none⟩]
def F20r1 : List ROp := [⟨some 6,.copy false (.tmp 0),[],none⟩,
 ⟨some 7,.len 0 (.tmp 6),[],none⟩,
 ⟨some 8,.copy false (.tmp 1),[],none⟩,
 ⟨some 9,.len 0 (.tmp 8),[],none⟩,
 ⟨some 10,.bin .neq (.tmp 7) (.tmp 9),[],none⟩]
def F20r2 : List ROp := [⟨some 4,.copy true (.const (.bool false)),[],none⟩]
def F20r3 : List ROp := [⟨some 11,.copy false (.tmp 0),[],none⟩,
 ⟨some 12,.len 0 (.tmp 11),[],none⟩,
 ⟨some 13,.copy false (.const (.int .i64 0)),[],none⟩]
def F20r4 : List ROp := [⟨some 14,.bin .lss (.tmp 13) (.tmp 12),[],none⟩]
def F20r5 : List ROp := [⟨some 15,.copy true (.tmp 13),[],none⟩,
 ⟨some 5,.copy true (.tmp 15),[],none⟩]
def F20r6 : List ROp := [⟨some 16,.copy false (.tmp 0),[],none⟩,
 ⟨some 17,.copy false (.tmp 5),[],none⟩,
 ⟨some 18,.iad 1 (.tmp 16) (.tmp 17),[0,1],none⟩,
 ⟨some 19,.load 1 false false (.tmp 18),[2],none⟩,
 ⟨some 20,.copy false (.tmp 1),[],none⟩,
 ⟨some 21,.copy false (.tmp 5),[],none⟩,
 ⟨some 22,.iad 1 (.tmp 20) (.tmp 21),[4,5],none⟩,
 ⟨some 23,.load 1 false false (.tmp 22),[6],none⟩,
 ⟨some 24,.bin .neq (.tmp 19) (.tmp 23),[3,7],none⟩]
def F20r7 : List ROp := [⟨some 4,.copy true (.const (.bool false)),[],none⟩]
def F20r8 : List ROp := [⟨some 25,.bin .add (.tmp 13) (.const (.int .i64 1)),[],none⟩,
 ⟨some 13,.copy false (.tmp 25),[],none⟩]
def F20r9 : List ROp := [⟨some 4,.copy true (.const (.bool true)),[],none⟩]
-- function 35: corollary/algebra.sameValue
def F35r0 : List ROp := [⟨some 2,.box 56 (.tmp 0),[],none⟩,
 ⟨some 3,.box 56 (.tmp 1),[],none⟩,
 ⟨some 4,.copy true (.const (.bool false)),[],none⟩]
def F35r1 : List ROp := [⟨some 5,.fad 0 (.tmp 2),[],none⟩,
 ⟨some 6,.load 1 false false (.tmp 5),[],none⟩,
 ⟨some 7,.fad 0 (.tmp 3),[],none⟩,
 ⟨some 8,.load 1 false false (.tmp 7),[],none⟩,
 ⟨some 9,.bin .eql (.tmp 6) (.tmp 8),[],none⟩,
 ⟨some 10,.copy false (.tmp 9),[],none⟩,
 ⟨some 11,.fad 1 (.tmp 2),[],some (10,true)⟩,
 ⟨some 12,.load 1 false false (.tmp 11),[],some (10,true)⟩,
 ⟨some 13,.fad 1 (.tmp 3),[],some (10,true)⟩,
 ⟨some 14,.load 1 false false (.tmp 13),[],some (10,true)⟩,
 ⟨some 15,.bin .eql (.tmp 12) (.tmp 14),[],some (10,true)⟩,
 ⟨some 16,.pick (.tmp 10) (.tmp 15) (.const (.bool false)),[],none⟩,
 ⟨some 17,.copy false (.tmp 16),[],none⟩,
 ⟨some 18,.fad 2 (.tmp 2),[],some (17,true)⟩,
 ⟨some 19,.load 1 false false (.tmp 18),[],some (17,true)⟩,
 ⟨some 20,.fad 2 (.tmp 3),[],some (17,true)⟩,
 ⟨some 21,.load 1 false false (.tmp 20),[],some (17,true)⟩,
 ⟨some 22,.bin .eql (.tmp 19) (.tmp 21),[],some (17,true)⟩,
 ⟨some 23,.pick (.tmp 17) (.tmp 22) (.const (.bool false)),[],none⟩,
 ⟨some 24,.copy false (.tmp 23),[],none⟩,
 ⟨some 25,.fad 3 (.tmp 2),[],some (24,true)⟩,
 ⟨some 26,.load 1 false false (.tmp 25),[],some (24,true)⟩,
 ⟨some 27,.fad 3 (.tmp 3),[],some (24,true)⟩,
 ⟨some 28,.load 1 false false (.tmp 27),[],some (24,true)⟩,
 ⟨some 29,.call (.func 51) [.tmp 26,.tmp 28,.func 35],[],some (24,true)⟩,
 ⟨some 30,.pick (.tmp 24) (.tmp 29) (.const (.bool false)),[],none⟩,
 ⟨some 4,.copy true (.tmp 30),[],none⟩]
-- function 19: corollary/algebra.sameExpr
def F19r0 : List ROp := [⟨some 2,.box 58 (.tmp 0),[],none⟩,
 ⟨some 3,.box 58 (.tmp 1),[],none⟩,
 ⟨some 4,.copy true (.const (.bool false)),[],none⟩]
def F19r1 : List ROp := [⟨some 5,.fad 0 (.tmp 2),[],none⟩,
 ⟨some 6,.load 1 false false (.tmp 5),[],none⟩,
 ⟨some 7,.fad 0 (.tmp 3),[],none⟩,
 ⟨some 8,.load 1 false false (.tmp 7),[],none⟩,
 ⟨some 9,.bin .eql (.tmp 6) (.tmp 8),[],none⟩,
 ⟨some 10,.copy false (.tmp 9),[],none⟩,
 ⟨some 11,.fad 3 (.tmp 2),[],some (10,true)⟩,
 ⟨some 12,.load 1 false false (.tmp 11),[],some (10,true)⟩,
 ⟨some 13,.fad 3 (.tmp 3),[],some (10,true)⟩,
 ⟨some 14,.load 1 false false (.tmp 13),[],some (10,true)⟩,
 ⟨some 15,.bin .eql (.tmp 12) (.tmp 14),[],some (10,true)⟩,
 ⟨some 16,.pick (.tmp 10) (.tmp 15) (.const (.bool false)),[],none⟩,
 ⟨some 17,.copy false (.tmp 16),[],none⟩,
 ⟨some 18,.fad 4 (.tmp 2),[],some (17,true)⟩,
 ⟨some 19,.load 4 true false (.tmp 18),[],some (17,true)⟩,
 ⟨some 20,.fad 4 (.tmp 3),[],some (17,true)⟩,
 ⟨some 21,.load 4 true false (.tmp 20),[],some (17,true)⟩,
 ⟨some 22,.call (.func 35) [.tmp 19,.tmp 21],[],some (17,true)⟩,
 ⟨some 23,.pick (.tmp 17) (.tmp 22) (.const (.bool false)),[],none⟩,
 ⟨some 24,.copy false (.tmp 23),[],none⟩,
 ⟨some 25,.fad 8 (.tmp 2),[],some (24,true)⟩,
 ⟨some 26,.load 1 false false (.tmp 25),[],some (24,true)⟩,
 ⟨some 27,.fad 8 (.tmp 3),[],some (24,true)⟩,
 ⟨some 28,.load 1 false false (.tmp 27),[],some (24,true)⟩,
 ⟨some 29,.call (.func 18) [.tmp 26,.tmp 28,.func 19],[],some (24,true)⟩,
 ⟨some 30,.pick (.tmp 24) (.tmp 29) (.const (.bool false)),[],none⟩,
 ⟨some 4,.copy true (.tmp 30),[],none⟩]
-- function 9: corollary/algebra.Same
def F9r0 : List ROp := [⟨some 2,.box 33 (.tmp 0),[],none⟩,
 ⟨some 3,.box 33 (.tmp 1),[],none⟩,
 ⟨some 4,.copy true (.const (.bool false)),[],none⟩]
def F9r1 : List ROp := [⟨some 5,.fad 0 (.tmp 2),[],none⟩,
 ⟨some 6,.load 1 false false (.tmp 5),[],none⟩,
 ⟨some 7,.fad 0 (.tmp 3),[],none⟩,
 ⟨some 8,.load 1 false false (.tmp 7),[],none⟩,
 ⟨some 9,.bin .eql (.tmp 6) (.tmp 8),[],none⟩,
 ⟨some 10,.copy false (.tmp 9),[],none⟩,
 ⟨some 11,.fad 1 (.tmp 2),[],some (10,true)⟩,
 ⟨some 12,.load 1 false false (.tmp 11),[],some (10,true)⟩,
 ⟨some 13,.fad 1 (.tmp 3),[],some (10,true)⟩,
 ⟨some 14,.load 1 false false (.tmp 13),[],some (10,true)⟩,
 ⟨some 15,.bin .eql (.tmp 12) (.tmp 14),[],some (10,true)⟩,
 ⟨some 16,.pick (.tmp 10) (.tmp 15) (.const (.bool false)),[],none⟩,
 ⟨some 17,.copy false (.tmp 16),[],none⟩,
 ⟨some 18,.fad 2 (.tmp 2),[],some (17,true)⟩,
 ⟨some 19,.load 1 false false (.tmp 18),[],some (17,true)⟩,
 ⟨some 20,.fad 2 (.tmp 3),[],some (17,true)⟩,
 ⟨some 21,.load 1 false false (.tmp 20),[],some (17,true)⟩,
 ⟨some 22,.bin .eql (.tmp 19) (.tmp 21),[],some (17,true)⟩,
 ⟨some 23,.pick (.tmp 17) (.tmp 22) (.const (.bool false)),[],none⟩,
 ⟨some 24,.copy false (.tmp 23),[],none⟩,
 ⟨some 25,.fad 3 (.tmp 2),[],some (24,true)⟩,
 ⟨some 26,.load 1 false false (.tmp 25),[],some (24,true)⟩,
 ⟨some 27,.fad 3 (.tmp 3),[],some (24,true)⟩,
 ⟨some 28,.load 1 false false (.tmp 27),[],some (24,true)⟩,
 ⟨some 29,.call (.func 18) [.tmp 26,.tmp 28,.func 19],[],some (24,true)⟩,
 ⟨some 30,.pick (.tmp 24) (.tmp 29) (.const (.bool false)),[],none⟩,
 ⟨some 31,.copy false (.tmp 30),[],none⟩,
 ⟨some 32,.fad 4 (.tmp 2),[],some (31,true)⟩,
 ⟨some 33,.load 1 false false (.tmp 32),[],some (31,true)⟩,
 ⟨some 34,.fad 4 (.tmp 3),[],some (31,true)⟩,
 ⟨some 35,.load 1 false false (.tmp 34),[],some (31,true)⟩,
 ⟨some 36,.call (.func 20) [.tmp 33,.tmp 35],[],some (31,true)⟩,
 ⟨some 37,.pick (.tmp 31) (.tmp 36) (.const (.bool false)),[],none⟩,
 ⟨some 38,.copy false (.tmp 37),[],none⟩,
 ⟨some 39,.fad 5 (.tmp 2),[],some (38,true)⟩,
 ⟨some 40,.load 1 false false (.tmp 39),[],some (38,true)⟩,
 ⟨some 41,.fad 5 (.tmp 3),[],some (38,true)⟩,
 ⟨some 42,.load 1 false false (.tmp 41),[],some (38,true)⟩,
 ⟨some 43,.call (.func 21) [.tmp 40,.tmp 42,.func 9],[],some (38,true)⟩,
 ⟨some 44,.pick (.tmp 38) (.tmp 43) (.const (.bool false)),[],none⟩,
 ⟨some 4,.copy true (.tmp 44),[],none⟩]
-- function 44: slices.Index[[]string,string]
def F44r0 : List ROp := [⟨some 4,.copy true (.const (.int .i64 0)),[],none⟩]
def F44r1 : List ROp := [⟨some 6,.copy false (.tmp 0),[],none⟩,
 ⟨some 7,.len 0 (.tmp 6),[],none⟩,
 ⟨some 8,.copy false (.const (.int .i64 0)),[],none⟩]
def F44r2 : List ROp := [⟨some 9,.bin .lss (.tmp 8) (.tmp 7),[],none⟩]
def F44r3 : List ROp := [⟨some 10,.copy true (.tmp 8),[],none⟩,
 ⟨some 5,.copy true (.tmp 10),[],none⟩]
def F44r4 : List ROp := [⟨some 11,.copy false (.tmp 1),[],none⟩,
 ⟨some 12,.copy false (.tmp 0),[],none⟩,
 ⟨some 13,.copy false (.tmp 5),[],none⟩,
 ⟨some 14,.iad 1 (.tmp 12) (.tmp 13),[],none⟩,
 ⟨some 15,.load 1 false false (.tmp 14),[],none⟩,
 ⟨some 16,.bin .eql (.tmp 11) (.tmp 15),[],none⟩]
def F44r5 : List ROp := [⟨some 17,.copy true (.tmp 5),[],none⟩,
 ⟨some 4,.copy true (.tmp 17),[],none⟩]
def F44r6 : List ROp := [⟨some 18,.bin .add (.tmp 8) (.const (.int .i64 1)),[],none⟩,
 ⟨some 8,.copy false (.tmp 18),[],none⟩]
def F44r7 : List ROp := [⟨some 4,.copy true (.const (.int .i64 (-1))),[],none⟩]
-- function 28: slices.Contains[[]string,string]
def F28r0 : List ROp := [⟨some 4,.copy true (.const (.bool false)),[],none⟩]
def F28r1 : List ROp := [⟨some 5,.copy false (.tmp 0),[],none⟩,
 ⟨some 6,.copy false (.tmp 1),[],none⟩,
 ⟨some 7,.call (.func 44) [.tmp 5,.tmp 6],[],none⟩,
 ⟨some 8,.bin .geq (.tmp 7) (.const (.int .i64 0)),[],none⟩,
 ⟨some 4,.copy true (.tmp 8),[],none⟩]
-- function 29: slices.Clip[[]string,string]
def F29r0 : List ROp := [⟨some 2,.copy true (.const (.slice none 0 0)),[],none⟩]
def F29r1 : List ROp := [⟨some 3,.copy false (.tmp 0),[],none⟩,
 ⟨some 4,.copy false (.tmp 0),[],none⟩,
 ⟨some 5,.len 0 (.tmp 4),[],none⟩,
 ⟨some 6,.copy false (.tmp 0),[],none⟩,
 ⟨some 7,.len 0 (.tmp 6),[],none⟩,
 ⟨some 8,.sub 1 (.tmp 3) none (some (.tmp 5)) (some (.tmp 7)),[],none⟩,
 ⟨some 2,.copy true (.tmp 8),[],none⟩]
-- function 14: slices.Clone[[]string,string]
def F14r0 : List ROp := [⟨some 2,.copy true (.const (.slice none 0 0)),[],none⟩]
def F14r1 : List ROp := [⟨some 3,.copy false (.tmp 0),[],none⟩,
 ⟨some 4,.x1 3 (.tmp 3),[],none⟩]
def F14r2 : List ROp := [⟨some 2,.copy true (.const (.slice none 0 0)),[],none⟩]
def F14r3 : List ROp := [⟨some 5,.bslice 9 1 [Value.string ByteArray.empty] 0 [],[],none⟩,
 ⟨some 6,.copy false (.tmp 0),[],none⟩,
 ⟨some 7,.app 9 1 16 (.tmp 5) (.tmp 6),[],none⟩,
 ⟨some 2,.copy true (.tmp 7),[],none⟩]
attribute [local simp] valX encV_eq exprX planX encE_eq encP_eq encPR encTR encT texts
attribute [local simp] encRow
theorem EqualFuncV_ok (g : FuncId) (l m : List ValD) (hl : l.length ≤ 4194304) (hm : m.length ≤ 4194304) (h : ∀ (i : Nat) (h1 : i < l.length) (h2 : i < m.length), Con Tryz.prog g [valX l[i], valX m[i]] (bval (sameV l[i] m[i]))) : Con Tryz.prog 51 [encRow l, encRow m, .val (.func (.func g) #[] #[])] (bval (sameVs l m)) := by
 refine Con.of_code Tryz.func51 (by kernel_rfl) rfl (by simp [Tryz.ntmps51]) fun C hC hM => ?_
 refine AWp.seq ?_
 refine AWp.regK [0,1,2] [true] F51r0 [] (by kernel_rfl) (by rw [hC]; rfl) fun K hK => ?_
 simp (maxSteps := 2000000) [F51r0]
 refine hK _ ?_
 refine AWp.seq ?_
 refine AWp.seq ?_
 refine AWp.regK [0,1,2,14] [] F51r1 [] (by kernel_rfl) (by rw [hC]; rfl) fun K hK => ?_
 simp (maxSteps := 2000000) [F51r1]
 refine hK _ ?_
 refine AWp.cond _ (by rfl) (fun hne => ?_) (fun heq => ?_)
 ·skip
  refine AWp.seq ?_
  refine AWp.regK [6] [true] F51r2 [] (by kernel_rfl) (by rw [hC]; rfl) fun K hK => ?_
  simp (maxSteps := 2000000) [F51r2]
  refine hK _ ?_
  repeat refine AWp.seq ?_
  refine AWp.ret ⟨.inr rfl, _, by simp [Tryz.results51] <;> rfl, ?_⟩
  refine .clos ?_ rfl
  rw [sameVs_ne (by simp at hne; omega)]; rfl
 have heq : l.length = m.length := by simp at heq; omega
 refine AWp.skip ?_
 refine AWp.seq ?_
 refine AWp.seq ?_
 refine AWp.regK [1,2,15,16,17] [] F51r3 [] (by kernel_rfl) (by rw [hC]; rfl) fun K hK => ?_
 simp (maxSteps := 2000000) [F51r3]
 refine hK _ ?_
 refine AWp.block ?_
 refine AWp.loopG (fun k : Nat => { tm := [(1, encRow m), (2, .val (.func (.func g) #[] #[])), (15, encRow l), (16, ival l.length), (17, ival k)], hp := [] }) (fun k => k ≤ l.length ∧ sameVs l m = sameVs (l.drop k) (m.drop k)) (fun k => l.length - k) 0 ⟨by omega, by simp⟩ (by simp) (fun k hk => ?_)
 obtain ⟨hk, hs⟩ := hk
 refine AWp.seq ?_
 refine AWp.regK [1,2,15,16,17,18] [] F51r4 [] (by kernel_rfl) (by rw [hC]; rfl) fun K hK => ?_
 simp (maxSteps := 2000000) [F51r4]
 refine hK _ ?_
 refine AWp.seq ?_
 refine AWp.cond _ (by rfl) (fun hlt => ?_) (fun hge => ?_)
 ·skip
  have hlt : k < l.length := by simpa using hlt
  have hlt2 : k < m.length := by omega
  have hc := h k hlt hlt2
  rw [sameVs_drop l m k hlt hlt2] at hs
  refine AWp.skip ?_
  refine AWp.seq ?_
  refine AWp.block ?_
  refine AWp.seq ?_
  refine AWp.regK [1,2,7,8,15,16,17] [true,false,false,false,true,true] F51r5 [] (by kernel_rfl) (by rw [hC]; rfl) fun K hK => ?_
  simp (maxSteps := 2000000) [F51r5, hlt, hlt2]
  (repeat refine ⟨by first | omega | (intros; omega) | assumption, ?_⟩); refine hK _ ?_
  refine AWp.seq ?_
  refine AWp.regK [1,2,8,9,15,16,17] [false,false,false,false,false,true] F51r6 [] (by kernel_rfl) (by rw [hC]; rfl) fun K hK => ?_
  simp (maxSteps := 2000000) [F51r6, hlt, hlt2]
  (repeat refine ⟨by first | omega | (intros; omega) | assumption, ?_⟩); refine hK _ ?_
  refine AWp.seq ?_
  refine AWp.regK [1,2,15,16,17,30] [] F51r7 [{ r := bval (sameV l[k] m[k]) }] (by kernel_rfl) (by rw [hC]; rfl) fun K hK => ?_
  simp (maxSteps := 2000000) [F51r7, hlt, hlt2]
  (repeat first | refine ⟨by first | kernel_rfl | (intros; omega) | assumption, ?_⟩ | refine ⟨by intros; exact callOK rfl hc, ?_⟩); refine hK _ ?_
  refine AWp.cond _ (by rfl) (fun hf => ?_) (fun ht => ?_)
  ·skip
   refine AWp.seq ?_
   refine AWp.regK [6] [true] F51r8 [] (by kernel_rfl) (by rw [hC]; rfl) fun K hK => ?_
   simp (maxSteps := 2000000) [F51r8]
   refine hK _ ?_
   repeat refine AWp.seq ?_
   refine AWp.ret ⟨.inr rfl, _, by simp [Tryz.results51] <;> rfl, ?_⟩
   refine .clos ?_ rfl
   rw [hs, show sameV l[k] m[k] = false by simpa using hf]; rfl
  refine AWp.skip ?_
  refine AWp.regK [1,2,15,16,17] [] F51r9 [] (by kernel_rfl) (by rw [hC]; rfl) fun K hK => ?_
  simp (maxSteps := 2000000) [F51r9]
  (repeat refine ⟨by first | omega | (intros; omega) | assumption, ?_⟩); refine hK _ ?_
  refine ⟨k + 1, ⟨by omega, ?_⟩, by omega, ?_⟩
  ·rw [hs, show sameV l[k] m[k] = true by simpa using ht]; rfl
  ·simp [wrap_nat k (by omega)]
 refine AWp.exit ?_
 refine AWp.seq ?_
 refine AWp.regK [6] [true] F51r10 [] (by kernel_rfl) (by rw [hC]; rfl) fun K hK => ?_
 simp (maxSteps := 2000000) [F51r10]
 refine hK _ ?_
 repeat refine AWp.seq ?_
 refine AWp.ret ⟨.inr rfl, _, by simp [Tryz.results51] <;> rfl, ?_⟩
 refine .clos ?_ rfl
 have hge : ¬ k < l.length := by simpa using hge
 rw [hs, List.drop_eq_nil_of_le (by omega), List.drop_eq_nil_of_le (by omega)]; rfl
theorem EqualFuncE_ok (g : FuncId) (l m : List ExprD) (hl : l.length ≤ 4194304) (hm : m.length ≤ 4194304) (h : ∀ (i : Nat) (h1 : i < l.length) (h2 : i < m.length), Con Tryz.prog g [exprX l[i], exprX m[i]] (bval (sameE l[i] m[i]))) : Con Tryz.prog 18 [encER l, encER m, .val (.func (.func g) #[] #[])] (bval (sameEs l m)) := by
 refine Con.of_code Tryz.func18 (by kernel_rfl) rfl (by simp [Tryz.ntmps18]) fun C hC hM => ?_
 refine AWp.seq ?_
 refine AWp.regK [0,1,2] [true] F18r0 [] (by kernel_rfl) (by rw [hC]; rfl) fun K hK => ?_
 simp (maxSteps := 2000000) [F18r0]
 refine hK _ ?_
 refine AWp.seq ?_
 refine AWp.seq ?_
 refine AWp.regK [0,1,2,14] [] F18r1 [] (by kernel_rfl) (by rw [hC]; rfl) fun K hK => ?_
 simp (maxSteps := 2000000) [F18r1]
 refine hK _ ?_
 refine AWp.cond _ (by rfl) (fun hne => ?_) (fun heq => ?_)
 ·skip
  refine AWp.seq ?_
  refine AWp.regK [6] [true] F18r2 [] (by kernel_rfl) (by rw [hC]; rfl) fun K hK => ?_
  simp (maxSteps := 2000000) [F18r2]
  refine hK _ ?_
  repeat refine AWp.seq ?_
  refine AWp.ret ⟨.inr rfl, _, by simp [Tryz.results18] <;> rfl, ?_⟩
  refine .clos ?_ rfl
  rw [sameEs_ne (by simp at hne; omega)]; rfl
 have heq : l.length = m.length := by simp at heq; omega
 refine AWp.skip ?_
 refine AWp.seq ?_
 refine AWp.seq ?_
 refine AWp.regK [1,2,15,16,17] [] F18r3 [] (by kernel_rfl) (by rw [hC]; rfl) fun K hK => ?_
 simp (maxSteps := 2000000) [F18r3]
 refine hK _ ?_
 refine AWp.block ?_
 refine AWp.loopG (fun k : Nat => { tm := [(1, encER m), (2, .val (.func (.func g) #[] #[])), (15, encER l), (16, ival l.length), (17, ival k)], hp := [] }) (fun k => k ≤ l.length ∧ sameEs l m = sameEs (l.drop k) (m.drop k)) (fun k => l.length - k) 0 ⟨by omega, by simp⟩ (by simp) (fun k hk => ?_)
 obtain ⟨hk, hs⟩ := hk
 refine AWp.seq ?_
 refine AWp.regK [1,2,15,16,17,18] [] F18r4 [] (by kernel_rfl) (by rw [hC]; rfl) fun K hK => ?_
 simp (maxSteps := 2000000) [F18r4]
 refine hK _ ?_
 refine AWp.seq ?_
 refine AWp.cond _ (by rfl) (fun hlt => ?_) (fun hge => ?_)
 ·skip
  have hlt : k < l.length := by simpa using hlt
  have hlt2 : k < m.length := by omega
  have hc := h k hlt hlt2
  rw [sameEs_drop l m k hlt hlt2] at hs
  refine AWp.skip ?_
  refine AWp.seq ?_
  refine AWp.block ?_
  refine AWp.seq ?_
  refine AWp.regK [1,2,7,8,15,16,17] [true,false,false,false,true,true] F18r5 [] (by kernel_rfl) (by rw [hC]; rfl) fun K hK => ?_
  simp (maxSteps := 2000000) [F18r5, hlt, hlt2]
  (repeat refine ⟨by first | omega | (intros; omega) | assumption, ?_⟩); refine hK _ ?_
  refine AWp.seq ?_
  refine AWp.regK [1,2,8,9,15,16,17] [false,false,false,false,false,true] F18r6 [] (by kernel_rfl) (by rw [hC]; rfl) fun K hK => ?_
  simp (maxSteps := 2000000) [F18r6, hlt, hlt2]
  (repeat refine ⟨by first | omega | (intros; omega) | assumption, ?_⟩); refine hK _ ?_
  refine AWp.seq ?_
  refine AWp.regK [1,2,15,16,17,30] [] F18r7 [{ r := bval (sameE l[k] m[k]) }] (by kernel_rfl) (by rw [hC]; rfl) fun K hK => ?_
  simp (maxSteps := 2000000) [F18r7, hlt, hlt2]
  (repeat first | refine ⟨by first | kernel_rfl | (intros; omega) | assumption, ?_⟩ | refine ⟨by intros; exact callOK rfl hc, ?_⟩); refine hK _ ?_
  refine AWp.cond _ (by rfl) (fun hf => ?_) (fun ht => ?_)
  ·skip
   refine AWp.seq ?_
   refine AWp.regK [6] [true] F18r8 [] (by kernel_rfl) (by rw [hC]; rfl) fun K hK => ?_
   simp (maxSteps := 2000000) [F18r8]
   refine hK _ ?_
   repeat refine AWp.seq ?_
   refine AWp.ret ⟨.inr rfl, _, by simp [Tryz.results18] <;> rfl, ?_⟩
   refine .clos ?_ rfl
   rw [hs, show sameE l[k] m[k] = false by simpa using hf]; rfl
  refine AWp.skip ?_
  refine AWp.regK [1,2,15,16,17] [] F18r9 [] (by kernel_rfl) (by rw [hC]; rfl) fun K hK => ?_
  simp (maxSteps := 2000000) [F18r9]
  (repeat refine ⟨by first | omega | (intros; omega) | assumption, ?_⟩); refine hK _ ?_
  refine ⟨k + 1, ⟨by omega, ?_⟩, by omega, ?_⟩
  ·rw [hs, show sameE l[k] m[k] = true by simpa using ht]; rfl
  ·simp [wrap_nat k (by omega)]
 refine AWp.exit ?_
 refine AWp.seq ?_
 refine AWp.regK [6] [true] F18r10 [] (by kernel_rfl) (by rw [hC]; rfl) fun K hK => ?_
 simp (maxSteps := 2000000) [F18r10]
 refine hK _ ?_
 repeat refine AWp.seq ?_
 refine AWp.ret ⟨.inr rfl, _, by simp [Tryz.results18] <;> rfl, ?_⟩
 refine .clos ?_ rfl
 have hge : ¬ k < l.length := by simpa using hge
 rw [hs, List.drop_eq_nil_of_le (by omega), List.drop_eq_nil_of_le (by omega)]; rfl
theorem EqualFuncP_ok (g : FuncId) (l m : List PlanD) (hl : l.length ≤ 4194304) (hm : m.length ≤ 4194304) (h : ∀ (i : Nat) (h1 : i < l.length) (h2 : i < m.length), Con Tryz.prog g [planX l[i], planX m[i]] (bval (sameP l[i] m[i]))) : Con Tryz.prog 21 [encPR l, encPR m, .val (.func (.func g) #[] #[])] (bval (samePs l m)) := by
 refine Con.of_code Tryz.func21 (by kernel_rfl) rfl (by simp [Tryz.ntmps21]) fun C hC hM => ?_
 refine AWp.seq ?_
 refine AWp.regK [0,1,2] [true] F21r0 [] (by kernel_rfl) (by rw [hC]; rfl) fun K hK => ?_
 simp (maxSteps := 2000000) [F21r0]
 refine hK _ ?_
 refine AWp.seq ?_
 refine AWp.seq ?_
 refine AWp.regK [0,1,2,14] [] F21r1 [] (by kernel_rfl) (by rw [hC]; rfl) fun K hK => ?_
 simp (maxSteps := 2000000) [F21r1]
 refine hK _ ?_
 refine AWp.cond _ (by rfl) (fun hne => ?_) (fun heq => ?_)
 ·skip
  refine AWp.seq ?_
  refine AWp.regK [6] [true] F21r2 [] (by kernel_rfl) (by rw [hC]; rfl) fun K hK => ?_
  simp (maxSteps := 2000000) [F21r2]
  refine hK _ ?_
  repeat refine AWp.seq ?_
  refine AWp.ret ⟨.inr rfl, _, by simp [Tryz.results21] <;> rfl, ?_⟩
  refine .clos ?_ rfl
  rw [samePs_ne (by simp at hne; omega)]; rfl
 have heq : l.length = m.length := by simp at heq; omega
 refine AWp.skip ?_
 refine AWp.seq ?_
 refine AWp.seq ?_
 refine AWp.regK [1,2,15,16,17] [] F21r3 [] (by kernel_rfl) (by rw [hC]; rfl) fun K hK => ?_
 simp (maxSteps := 2000000) [F21r3]
 refine hK _ ?_
 refine AWp.block ?_
 refine AWp.loopG (fun k : Nat => { tm := [(1, encPR m), (2, .val (.func (.func g) #[] #[])), (15, encPR l), (16, ival l.length), (17, ival k)], hp := [] }) (fun k => k ≤ l.length ∧ samePs l m = samePs (l.drop k) (m.drop k)) (fun k => l.length - k) 0 ⟨by omega, by simp⟩ (by simp) (fun k hk => ?_)
 obtain ⟨hk, hs⟩ := hk
 refine AWp.seq ?_
 refine AWp.regK [1,2,15,16,17,18] [] F21r4 [] (by kernel_rfl) (by rw [hC]; rfl) fun K hK => ?_
 simp (maxSteps := 2000000) [F21r4]
 refine hK _ ?_
 refine AWp.seq ?_
 refine AWp.cond _ (by rfl) (fun hlt => ?_) (fun hge => ?_)
 ·skip
  have hlt : k < l.length := by simpa using hlt
  have hlt2 : k < m.length := by omega
  have hc := h k hlt hlt2
  rw [samePs_drop l m k hlt hlt2] at hs
  refine AWp.skip ?_
  refine AWp.seq ?_
  refine AWp.block ?_
  refine AWp.seq ?_
  refine AWp.regK [1,2,7,8,15,16,17] [true,false,false,false,true,true] F21r5 [] (by kernel_rfl) (by rw [hC]; rfl) fun K hK => ?_
  simp (maxSteps := 2000000) [F21r5, hlt, hlt2]
  (repeat refine ⟨by first | omega | (intros; omega) | assumption, ?_⟩); refine hK _ ?_
  refine AWp.seq ?_
  refine AWp.regK [1,2,8,9,15,16,17] [false,false,false,false,false,true] F21r6 [] (by kernel_rfl) (by rw [hC]; rfl) fun K hK => ?_
  simp (maxSteps := 2000000) [F21r6, hlt, hlt2]
  (repeat refine ⟨by first | omega | (intros; omega) | assumption, ?_⟩); refine hK _ ?_
  refine AWp.seq ?_
  refine AWp.regK [1,2,15,16,17,30] [] F21r7 [{ r := bval (sameP l[k] m[k]) }] (by kernel_rfl) (by rw [hC]; rfl) fun K hK => ?_
  simp (maxSteps := 2000000) [F21r7, hlt, hlt2]
  (repeat first | refine ⟨by first | kernel_rfl | (intros; omega) | assumption, ?_⟩ | refine ⟨by intros; exact callOK rfl hc, ?_⟩); refine hK _ ?_
  refine AWp.cond _ (by rfl) (fun hf => ?_) (fun ht => ?_)
  ·skip
   refine AWp.seq ?_
   refine AWp.regK [6] [true] F21r8 [] (by kernel_rfl) (by rw [hC]; rfl) fun K hK => ?_
   simp (maxSteps := 2000000) [F21r8]
   refine hK _ ?_
   repeat refine AWp.seq ?_
   refine AWp.ret ⟨.inr rfl, _, by simp [Tryz.results21] <;> rfl, ?_⟩
   refine .clos ?_ rfl
   rw [hs, show sameP l[k] m[k] = false by simpa using hf]; rfl
  refine AWp.skip ?_
  refine AWp.regK [1,2,15,16,17] [] F21r9 [] (by kernel_rfl) (by rw [hC]; rfl) fun K hK => ?_
  simp (maxSteps := 2000000) [F21r9]
  (repeat refine ⟨by first | omega | (intros; omega) | assumption, ?_⟩); refine hK _ ?_
  refine ⟨k + 1, ⟨by omega, ?_⟩, by omega, ?_⟩
  ·rw [hs, show sameP l[k] m[k] = true by simpa using ht]; rfl
  ·simp [wrap_nat k (by omega)]
 refine AWp.exit ?_
 refine AWp.seq ?_
 refine AWp.regK [6] [true] F21r10 [] (by kernel_rfl) (by rw [hC]; rfl) fun K hK => ?_
 simp (maxSteps := 2000000) [F21r10]
 refine hK _ ?_
 repeat refine AWp.seq ?_
 refine AWp.ret ⟨.inr rfl, _, by simp [Tryz.results21] <;> rfl, ?_⟩
 refine .clos ?_ rfl
 have hge : ¬ k < l.length := by simpa using hge
 rw [hs, List.drop_eq_nil_of_le (by omega), List.drop_eq_nil_of_le (by omega)]; rfl
theorem EqualT_ok (l m : List ByteArray) (hl : l.length ≤ 4194304) (hm : m.length ≤ 4194304) : Con Tryz.prog 20 [encTR l, encTR m] (bval (sameTs l m)) := by
 refine Con.of_code Tryz.func20 (by kernel_rfl) rfl (by simp [Tryz.ntmps20]) fun C hC hM => ?_
 refine AWp.seq ?_
 refine AWp.regK [0,1] [true] F20r0 [] (by kernel_rfl) (by rw [hC]; rfl) fun K hK => ?_
 simp (maxSteps := 2000000) [F20r0]
 refine hK _ ?_
 refine AWp.seq ?_
 refine AWp.seq ?_
 refine AWp.regK [0,1,10] [] F20r1 [] (by kernel_rfl) (by rw [hC]; rfl) fun K hK => ?_
 simp (maxSteps := 2000000) [F20r1]
 refine hK _ ?_
 refine AWp.cond _ (by rfl) (fun hne => ?_) (fun heq => ?_)
 ·skip
  refine AWp.seq ?_
  refine AWp.regK [4] [true] F20r2 [] (by kernel_rfl) (by rw [hC]; rfl) fun K hK => ?_
  simp (maxSteps := 2000000) [F20r2]
  refine hK _ ?_
  repeat refine AWp.seq ?_
  refine AWp.ret ⟨.inr rfl, _, by simp [Tryz.results20] <;> rfl, ?_⟩
  refine .clos ?_ rfl
  rw [sameTs_ne (by simp at hne; omega)]; rfl
 have heq : l.length = m.length := by simp at heq; omega
 refine AWp.skip ?_
 refine AWp.seq ?_
 refine AWp.seq ?_
 refine AWp.regK [0,1,12,13] [] F20r3 [] (by kernel_rfl) (by rw [hC]; rfl) fun K hK => ?_
 simp (maxSteps := 2000000) [F20r3]
 refine hK _ ?_
 refine AWp.block ?_
 refine AWp.loopG (fun k : Nat => { tm := [(0, encTR l), (1, encTR m), (12, ival l.length), (13, ival k)], hp := [] }) (fun k => k ≤ l.length ∧ sameTs l m = sameTs (l.drop k) (m.drop k)) (fun k => l.length - k) 0 ⟨by omega, by simp⟩ (by simp) (fun k hk => ?_)
 obtain ⟨hk, hs⟩ := hk
 refine AWp.seq ?_
 refine AWp.regK [0,1,12,13,14] [] F20r4 [] (by kernel_rfl) (by rw [hC]; rfl) fun K hK => ?_
 simp (maxSteps := 2000000) [F20r4]
 refine hK _ ?_
 refine AWp.seq ?_
 refine AWp.cond _ (by rfl) (fun hlt => ?_) (fun hge => ?_)
 ·skip
  have hlt : k < l.length := by simpa using hlt
  have hlt2 : k < m.length := by omega
  rw [sameTs_drop l m k hlt hlt2] at hs
  refine AWp.skip ?_
  refine AWp.seq ?_
  refine AWp.block ?_
  refine AWp.seq ?_
  refine AWp.regK [0,1,5,12,13] [true,true] F20r5 [] (by kernel_rfl) (by rw [hC]; rfl) fun K hK => ?_
  simp (maxSteps := 2000000) [F20r5, hlt, hlt2]
  refine hK _ ?_
  refine AWp.seq ?_
  refine AWp.regKL ops_mixed [[],[],[0,1],[0,1,2],[],[],[4,5],[4,5,6],[0,1,2,3,4,5,6,7]] [0,1,12,13,24] [] F20r6 [] (by kernel_rfl) (by rw [hC]; rfl) (by kernel_rfl) (by kernel_rfl) fun K hK => ?_
  simp (maxSteps := 2000000) [F20r6, hlt, hlt2]
  (repeat refine ⟨by first | omega | (intros; omega) | assumption, ?_⟩); first | refine hK _ ?_ | refine ⟨by kernel_rfl, hK _ ?_⟩
  refine AWp.cond _ (by rfl) (fun hf => ?_) (fun ht => ?_)
  ·skip
   refine AWp.seq ?_
   refine AWp.regK [4] [true] F20r7 [] (by kernel_rfl) (by rw [hC]; rfl) fun K hK => ?_
   simp (maxSteps := 2000000) [F20r7]
   refine hK _ ?_
   repeat refine AWp.seq ?_
   refine AWp.ret ⟨.inr rfl, _, by simp [Tryz.results20] <;> rfl, ?_⟩
   refine .clos ?_ rfl
   rw [hs, show decide (l[k] = m[k]) = false by simpa using hf]; rfl
  refine AWp.skip ?_
  refine AWp.regK [0,1,12,13] [] F20r8 [] (by kernel_rfl) (by rw [hC]; rfl) fun K hK => ?_
  simp (maxSteps := 2000000) [F20r8]
  (repeat refine ⟨by first | omega | (intros; omega) | assumption, ?_⟩); refine hK _ ?_
  refine ⟨k + 1, ⟨by omega, ?_⟩, by omega, ?_⟩
  ·rw [hs, show decide (l[k] = m[k]) = true by simpa using ht]; rfl
  ·simp [wrap_nat k (by omega)]
 refine AWp.exit ?_
 refine AWp.seq ?_
 refine AWp.regK [4] [true] F20r9 [] (by kernel_rfl) (by rw [hC]; rfl) fun K hK => ?_
 simp (maxSteps := 2000000) [F20r9]
 refine hK _ ?_
 repeat refine AWp.seq ?_
 refine AWp.ret ⟨.inr rfl, _, by simp [Tryz.results20] <;> rfl, ?_⟩
 refine .clos ?_ rfl
 have hge : ¬ k < l.length := by simpa using hge
 rw [hs, List.drop_eq_nil_of_le (by omega), List.drop_eq_nil_of_le (by omega)]; rfl
theorem sameValue_ok : ∀ (n : Nat) (v w : ValD), vsize v < n → vsize v ≤ 4194304 → vsize w ≤ 4194304 → Con Tryz.prog 35 [valX v, valX w] (bval (sameV v w)) := by
 intro n
 induction n with
 | zero => intro v w h; omega
 | succ n ih =>
  intro v w hn hv hw
  have hsz := vsize_eq v
  have hsz2 := vsize_eq w
  have hlen := vsizes_len v.l
  have hlen2 := vsizes_len w.l
  have hc := EqualFuncV_ok 35 v.l w.l (by omega) (by omega) fun i h1 h2 => by have := vsize_mem (List.getElem_mem h1); have := vsize_mem (List.getElem_mem h2); exact ih v.l[i] w.l[i] (by omega) (by omega) (by omega)
  refine Con.of_code Tryz.func35 (by kernel_rfl) rfl (by simp [Tryz.ntmps35]) fun C hC hM => ?_
  refine AWp.seq ?_
  refine AWp.regK [2,3] [false,false,true] F35r0 [] (by kernel_rfl) (by rw [hC]; rfl) fun K hK => ?_
  simp (maxSteps := 2000000) [F35r0]
  refine hK _ ?_
  refine AWp.seq ?_
  refine AWp.regK [4] [false,false,false,false,false,false,false,false,false,false,false,false,false,false,false,false,false,false,false,false,false,false,false,false,false,false,true] F35r1 [{ r := bval (sameVs v.l w.l) }] (by kernel_rfl) (by rw [hC]; rfl) fun K hK => ?_
  simp (maxSteps := 2000000) [F35r1]
  (repeat first | refine ⟨by first | kernel_rfl | (intros; omega) | assumption, ?_⟩ | refine ⟨by intros; exact callOK rfl hc, ?_⟩); refine hK _ ?_
  repeat refine AWp.seq ?_
  refine AWp.ret ⟨.inr rfl, _, by simp [Tryz.results35] <;> rfl, ?_⟩
  refine .clos ?_ rfl
  rw [sameV_eq]
  simp [Bool.and_assoc]
theorem sameExpr_ok : ∀ (n : Nat) (v w : ExprD), esize v < n → esize v ≤ 4194304 → esize w ≤ 4194304 → Con Tryz.prog 19 [exprX v, exprX w] (bval (sameE v w)) := by
 intro n
 induction n with
 | zero => intro v w h; omega
 | succ n ih =>
  intro v w hn hv hw
  have hsz := esize_eq v
  have hsz2 := esize_eq w
  have hlen := esizes_len v.args
  have hlen2 := esizes_len w.args
  have hc := EqualFuncE_ok 19 v.args w.args (by omega) (by omega) fun i h1 h2 => by have := esize_mem (List.getElem_mem h1); have := esize_mem (List.getElem_mem h2); exact ih v.args[i] w.args[i] (by omega) (by omega) (by omega)
  have hcv := sameValue_ok _ v.v w.v (Nat.lt_succ_self _) (by omega) (by omega)
  refine Con.of_code Tryz.func19 (by kernel_rfl) rfl (by simp [Tryz.ntmps19]) fun C hC hM => ?_
  refine AWp.seq ?_
  refine AWp.regK [2,3] [false,false,true] F19r0 [] (by kernel_rfl) (by rw [hC]; rfl) fun K hK => ?_
  simp (maxSteps := 2000000) [F19r0]
  refine hK _ ?_
  refine AWp.seq ?_
  refine AWp.regK [4] [false,false,false,false,false,false,false,false,false,false,false,false,false,false,false,false,false,false,false,false,false,false,false,false,false,false,true] F19r1 [{ r := bval (sameV v.v w.v) },{ r := bval (sameEs v.args w.args) }] (by kernel_rfl) (by rw [hC]; rfl) fun K hK => ?_
  simp (maxSteps := 2000000) [F19r1]
  (repeat first | refine ⟨by first | kernel_rfl | (intros; omega) | assumption, ?_⟩ | refine ⟨by intros; exact callOK rfl hcv, ?_⟩ | refine ⟨by intros; exact callOK rfl hc, ?_⟩); refine hK _ ?_
  repeat refine AWp.seq ?_
  refine AWp.ret ⟨.inr rfl, _, by simp [Tryz.results19] <;> rfl, ?_⟩
  refine .clos ?_ rfl
  rw [sameE_eq]
  simp [Bool.and_assoc]
theorem sameExprs_ok (l m : List ExprD) (hl : esizes l ≤ 4194304) (hm : esizes m ≤ 4194304) : Con Tryz.prog 18 [encER l, encER m, .val (.func (.func 19) #[] #[])] (bval (sameEs l m)) :=
 EqualFuncE_ok _ l m (by have := esizes_len l; omega) (by have := esizes_len m; omega) fun i h1 h2 => sameExpr_ok _ _ _ (Nat.lt_succ_self _) (by have := esize_mem (List.getElem_mem h1); omega) (by have := esize_mem (List.getElem_mem h2); omega)
theorem SameP_ok : ∀ (n : Nat) (p q : PlanD), psize p < n → psize p ≤ 4194304 → psize q ≤ 4194304 → Con Tryz.prog 9 [planX p, planX q] (bval (sameP p q)) := by
 intro n
 induction n with
 | zero => intro p q h; omega
 | succ n ih =>
  intro p q hn hp hq
  have hsz := psize_eq p
  have hsz2 := psize_eq q
  have hlen := psizes_len p.ins
  have hlen2 := psizes_len q.ins
  have htl := tsizes_len p.aggs
  have htl2 := tsizes_len q.aggs
  have he := sameExprs_ok p.args q.args (by omega) (by omega)
  have ht := EqualT_ok p.aggs q.aggs (by omega) (by omega)
  have hi := EqualFuncP_ok 9 p.ins q.ins (by omega) (by omega) fun i h1 h2 => by have := psize_mem (List.getElem_mem h1); have := psize_mem (List.getElem_mem h2); exact ih p.ins[i] q.ins[i] (by omega) (by omega) (by omega)
  refine Con.of_code Tryz.func9 (by kernel_rfl) rfl (by simp [Tryz.ntmps9]) fun C hC hM => ?_
  refine AWp.seq ?_
  refine AWp.regK [2,3] [false,false,true] F9r0 [] (by kernel_rfl) (by rw [hC]; rfl) fun K hK => ?_
  simp (maxSteps := 2000000) [F9r0]
  refine hK _ ?_
  refine AWp.seq ?_
  refine AWp.regK [4] [false,false,false,false,false,false,false,false,false,false,false,false,false,false,false,false,false,false,false,false,false,false,false,false,false,false,false,false,false,false,false,false,false,false,false,false,false,false,false,false,true] F9r1 [{ r := bval (sameEs p.args q.args) },{ r := bval (sameTs p.aggs q.aggs) },{ r := bval (samePs p.ins q.ins) }] (by kernel_rfl) (by rw [hC]; rfl) fun K hK => ?_
  simp (maxSteps := 2000000) [F9r1]
  (repeat first | refine ⟨by first | kernel_rfl | (intros; omega) | assumption, ?_⟩ | refine ⟨by intros; exact callOK rfl he, ?_⟩ | refine ⟨by intros; exact callOK rfl ht, ?_⟩ | refine ⟨by intros; exact callOK rfl hi, ?_⟩); refine hK _ ?_
  repeat refine AWp.seq ?_
  refine AWp.ret ⟨.inr rfl, _, by simp [Tryz.results9] <;> rfl, ?_⟩
  refine .clos ?_ rfl
  rw [sameP_eq, sameTs_eq]
  simp [Bool.and_assoc]
theorem SameP'_ok (p q : PlanD) (hp : psize p ≤ 4194304) (hq : psize q ≤ 4194304) : Con Tryz.prog 9 [planX p, planX q] (bval (sameP p q)) := SameP_ok _ p q (Nat.lt_succ_self _) hp hq
theorem Index_t (l : List ByteArray) (s : ByteArray) (hl : l.length ≤ 4194304) : Con Tryz.prog 44 [encTR l, sval s] (ival (fid (fun x => decide (s = x)) l 0)) := by
 refine Con.of_code Tryz.func44 (by kernel_rfl) rfl (by simp [Tryz.ntmps44]) fun C hC hM => ?_
 refine AWp.seq ?_
 refine AWp.regK [0,1] [true] F44r0 [] (by kernel_rfl) (by rw [hC]; rfl) fun K hK => ?_
 simp (maxSteps := 2000000) [F44r0]
 refine hK _ ?_
 refine AWp.seq ?_
 refine AWp.seq ?_
 refine AWp.regK [0,1,7,8] [] F44r1 [] (by kernel_rfl) (by rw [hC]; rfl) fun K hK => ?_
 simp (maxSteps := 2000000) [F44r1]
 refine hK _ ?_
 refine AWp.block ?_
 refine AWp.loopG (fun k : Nat => { tm := [(0, encTR l), (1, sval s), (7, ival l.length), (8, ival k)], hp := [] }) (fun k => k ≤ l.length ∧ fid (fun x => decide (s = x)) l 0 = fid (fun x => decide (s = x)) (l.drop k) k) (fun k => l.length - k) 0 ⟨by omega, by simp⟩ (by simp) (fun k hk => ?_)
 obtain ⟨hk1, hk2⟩ := hk
 refine AWp.seq ?_
 refine AWp.regK [0,1,7,8,9] [] F44r2 [] (by kernel_rfl) (by rw [hC]; rfl) fun K hK => ?_
 simp (maxSteps := 2000000) [F44r2]
 refine hK _ ?_
 refine AWp.seq ?_
 refine AWp.cond _ (by rfl) (fun hlt => ?_) (fun hge => ?_)
 ·skip
  have hlt : k < l.length := by simpa using hlt
  have hd := fid_drop (fun x => decide (s = x)) l k hlt
  refine AWp.skip ?_
  refine AWp.seq ?_
  refine AWp.block ?_
  refine AWp.seq ?_
  refine AWp.regK [0,1,5,7,8] [true,true] F44r3 [] (by kernel_rfl) (by rw [hC]; rfl) fun K hK => ?_
  simp (maxSteps := 2000000) [F44r3, hlt]
  refine hK _ ?_
  refine AWp.seq ?_
  refine AWp.regK [0,1,5,7,8,16] [] F44r4 [] (by kernel_rfl) (by rw [hC]; rfl) fun K hK => ?_
  simp (maxSteps := 2000000) [F44r4, hlt]
  (repeat refine ⟨by first | omega | (intros; omega) | assumption, ?_⟩); refine hK _ ?_
  refine AWp.cond _ (by rfl) (fun hq => ?_) (fun hq => ?_)
  ·skip
   refine AWp.seq ?_
   refine AWp.regK [4] [true,true] F44r5 [] (by kernel_rfl) (by rw [hC]; rfl) fun K hK => ?_
   simp (maxSteps := 2000000) [F44r5]
   refine hK _ ?_
   repeat refine AWp.seq ?_
   refine AWp.ret ⟨.inr rfl, _, by simp [Tryz.results44] <;> rfl, ?_⟩
   refine .clos ?_ rfl
   rw [hk2, hd, if_pos hq]; rfl
  refine AWp.skip ?_
  refine AWp.regK [0,1,7,8] [] F44r6 [] (by kernel_rfl) (by rw [hC]; rfl) fun K hK => ?_
  simp (maxSteps := 2000000) [F44r6]
  (repeat refine ⟨by first | omega | (intros; omega) | assumption, ?_⟩); refine hK _ ?_
  refine ⟨k + 1, ⟨by omega, by rw [hk2, hd, if_neg (by simp [hq])]⟩, by omega, ?_⟩
  simp [wrap_nat k (by omega)]
 have hge : ¬ k < l.length := by simpa using hge
 refine AWp.exit ?_
 refine AWp.seq ?_
 refine AWp.regK [4] [true] F44r7 [] (by kernel_rfl) (by rw [hC]; rfl) fun K hK => ?_
 simp (maxSteps := 2000000) [F44r7]
 refine hK _ ?_
 repeat refine AWp.seq ?_
 refine AWp.ret ⟨.inr rfl, _, by simp [Tryz.results44] <;> rfl, ?_⟩
 refine .clos ?_ rfl
 rw [hk2, List.drop_eq_nil_of_le (by omega)]; rfl
theorem has_any (l : List ByteArray) (s : ByteArray) : (l.any fun x => decide (s = x)) = has l s := by
 unfold has
 congr 1
 funext x
 exact decide_eq_decide.2 ⟨Eq.symm, Eq.symm⟩
theorem Contains_t (l : List ByteArray) (s : ByteArray) (hl : l.length ≤ 4194304) : Con Tryz.prog 28 [encTR l, sval s] (bval (has l s)) := by
 have h1 := Index_t l s hl
 have h2 := fid_any (fun x => decide (s = x)) l 0
 refine Con.of_code Tryz.func28 (by kernel_rfl) rfl (by simp [Tryz.ntmps28]) fun C hC hM => ?_
 refine AWp.seq ?_
 refine AWp.regK [0,1] [true] F28r0 [] (by kernel_rfl) (by rw [hC]; rfl) fun K hK => ?_
 simp (maxSteps := 2000000) [F28r0]
 refine hK _ ?_
 refine AWp.seq ?_
 refine AWp.regK [4] [false,false,false,false,true] F28r1 [{ r := ival (fid (fun x => decide (s = x)) l 0) }] (by kernel_rfl) (by rw [hC]; rfl) fun K hK => ?_
 simp (maxSteps := 2000000) [F28r1]
 (repeat first | refine ⟨by first | kernel_rfl | (intros; omega) | assumption, ?_⟩ | refine ⟨by intros; exact callOK rfl h1, ?_⟩); refine hK _ ?_
 repeat refine AWp.seq ?_
 refine AWp.ret ⟨.inr rfl, _, by simp [Tryz.results28] <;> rfl, ?_⟩
 refine .clos ?_ rfl
 rw [← has_any, ← h2]; simp
theorem Clip_t (l : List ByteArray) (hl : l.length ≤ 4194304) : Con Tryz.prog 29 [encTR l] (.fx 1 (texts l)) := by
 refine Con.of_code Tryz.func29 (by kernel_rfl) rfl (by simp [Tryz.ntmps29]) fun C hC hM => ?_
 refine AWp.seq ?_
 refine AWp.regK [0] [true] F29r0 [] (by kernel_rfl) (by rw [hC]; rfl) fun K hK => ?_
 simp (maxSteps := 2000000) [F29r0]
 refine hK _ ?_
 refine AWp.seq ?_
 refine AWp.regK [2] [false,false,false,false,false,false,true] F29r1 [] (by kernel_rfl) (by rw [hC]; rfl) fun K hK => ?_
 simp (maxSteps := 2000000) [F29r1]
 (repeat refine ⟨by first | omega | (intros; omega) | assumption, ?_⟩); refine hK _ ?_
 repeat refine AWp.seq ?_
 refine AWp.ret ⟨.inr rfl, _, by simp [Tryz.results29] <;> rfl, ?_⟩
 refine .clos ?_ rfl
 simp
 exact List.take_of_length_le (by simp)
theorem Clone_some (s : ByteArray) (l : List ByteArray) (hl : (s :: l).length ≤ 4194304) : Con Tryz.prog 14 [encTR (s :: l)] (encTR (s :: l)) := by
 refine Con.of_code Tryz.func14 (by kernel_rfl) rfl (by simp [Tryz.ntmps14]) fun C hC hM => ?_
 refine AWp.seq ?_
 refine AWp.regK [0] [true] F14r0 [] (by kernel_rfl) (by rw [hC]; rfl) fun K hK => ?_
 simp (maxSteps := 2000000) [F14r0]
 refine hK _ ?_
 refine AWp.seq ?_
 refine AWp.seq ?_
 refine AWp.regK [0,4] [] F14r1 [] (by kernel_rfl) (by rw [hC]; rfl) fun K hK => ?_
 simp (maxSteps := 2000000) [F14r1]
 refine hK _ ?_
 refine AWp.cond false (by simp) (fun he => by cases he) (fun _ => ?_)
 have hl' : l.length + 1 ≤ 4194304 := by simpa using hl
 refine AWp.skip ?_
 refine AWp.seq ?_
 refine AWp.regK [2] [false,false,false,true] F14r3 [] (by kernel_rfl) (by rw [hC]; rfl) fun K hK => ?_
 simp (maxSteps := 2000000) [F14r3]
 (repeat refine ⟨by first | omega | (intros; omega) | assumption, ?_⟩); refine hK _ ?_
 repeat refine AWp.seq ?_
 refine AWp.ret ⟨.inr rfl, _, by simp [Tryz.results14] <;> rfl, ?_⟩
 exact .own
set_option maxHeartbeats 1000000 in
set_option maxRecDepth 100000 in
theorem Clone_raw (ad : Option Addr) (c : Nat) (w : World) : Calls Tryz.prog 14 #[.slice ad 0 c] w fun e w' => (∃ a n, e = .returned (.slice a 0 n)) ∧ Ext w w' := by
 have hq : (binOp BinOp.eql 23 (.slice ad 0 c) (.slice none 0 0)).run Tryz.prog w = .ok (.bool ad.isNone) w := by
  have h2 : ∀ d : Nat, (Op.equalIn (d + 1) 23 (.slice ad 0 c) (.slice none 0 0)).run Tryz.prog w = .ok ad.isNone w := by intro d; cases ad <;> simp [Op.equalIn, run_underlying Tryz.underlying23]
  simp [binOp, Op.equal, Op.maxDepth, h2 9999]
 cases ad with
 | none =>
  go_enter Tryz.func14, Tryz.ntmps14
  go_wp2
  go_ret
  exact ⟨⟨_, _, rfl⟩, Ext.refl _⟩
 | some a =>
  go_enter Tryz.func14, Tryz.ntmps14
  go_wp2
  go_ret
  exact ⟨⟨_, _, rfl⟩, Ext.alloc _ _⟩
theorem Clone_none : Con Tryz.prog 14 [encTR []] (encTR []) := by
 refine ⟨⟨_, Tryz.func14, by kernel_rfl, rfl⟩, fun fz w vs hok _ hvs => ?_⟩
 obtain ⟨ad, c, rfl⟩ : ∃ ad c, vs = #[.slice ad 0 c] := by
  simp only [HoldsL, encTR, texts, List.map_nil, Holds] at hvs
  obtain ⟨v, r, e, ⟨ad, c, rfl, _⟩, rfl⟩ := hvs
  exact ⟨ad, c, Array.toList_inj.1 (by simpa using e)⟩
 refine (Clone_raw ad c w).mono ?_
 rintro e w' ⟨⟨a, n, rfl⟩, hx⟩
 exact ⟨_, fz, rfl, hx, Fz.le_refl _, ⟨fun c o u hu => hx.cell (hok.1 c o u hu), fun c o ho => hx.heap (hok.2 c o ho)⟩, fun _ _ => ⟨fun _ => rfl, rfl⟩, by simp [Holds, encTR, texts], fun el wd rows hr => by cases hr⟩
theorem Clone_t (l : List ByteArray) (hl : l.length ≤ 4194304) : Con Tryz.prog 14 [encTR l] (encTR l) := by
 cases l with
 | nil => exact Clone_none
 | cons s l => exact Clone_some s l hl
