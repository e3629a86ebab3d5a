/- The program: how many arguments operators have; which expressions, and which patterns, may be. -/
import Derived.Test.YtdobngcdgkallaaGreatDoorAlO
import Derived.Test.YtdobngcdgkallaaGreatDoorAlN
set_option linter.unusedSimpArgs false
set_option linter.unusedVariables false
set_option linter.unusedSectionVars false
open Go Go.Aw Go.Proofs
namespace Go.Al
set_option maxRecDepth 20000
-- function 147: corollary/tree.arity
def F147r0 : List ROp := [⟨some 0,.copy true (.const (.map none)),[],none⟩]
def F147r1 : List ROp := [⟨some 4,.mkmap none,[],none⟩,
 ⟨none,.mupd 1 (.tmp 4) (.const (.string { data := #[110,111,116] })) (.const (.int .i64 1)),[],none⟩,
 ⟨none,.mupd 1 (.tmp 4) (.const (.string { data := #[110,101,103] })) (.const (.int .i64 1)),[],none⟩,
 ⟨none,.mupd 1 (.tmp 4) (.const (.string { data := #[108,101,110] })) (.const (.int .i64 1)),[],none⟩,
 ⟨none,.mupd 1 (.tmp 4) (.const (.string { data := #[98,105,103] })) (.const (.int .i64 1)),[],none⟩,
 ⟨none,.mupd 1 (.tmp 4) (.const (.string { data := #[105,110,116] })) (.const (.int .i64 1)),[],none⟩,
 ⟨some 5,.copy true (.tmp 4),[],none⟩,
 ⟨some 1,.copy true (.tmp 5),[],none⟩]
def F147r2 : List ROp := [⟨some 6,.bslice 9 1 [Value.string ByteArray.empty] 14 [(0,.const (.string { data := #[43] })),(1,.const (.string { data := #[45] })),(2,.const (.string { data := #[42] })),(3,.const (.string { data := #[47] })),(4,.const (.string { data := #[37] })),(5,.const (.string { data := #[43,43] })),(6,.const (.string { data := #[61,61] })),(7,.const (.string { data := #[33,61] })),(8,.const (.string { data := #[60] })),(9,.const (.string { data := #[60,61] })),(10,.const (.string { data := #[62] })),(11,.const (.string { data := #[62,61] })),(12,.const (.string { data := #[97,110,100] })),(13,.const (.string { data := #[111,114] }))],[],none⟩,
 ⟨some 7,.len 0 (.tmp 6),[],none⟩,
 ⟨some 8,.copy false (.const (.int .i64 0)),[],none⟩]
def F147r3 : List ROp := [⟨some 9,.bin .lss (.tmp 8) (.tmp 7),[],none⟩]
def F147r4 : List ROp := [⟨some 10,.iad 1 (.tmp 6) (.tmp 8),[],none⟩,
 ⟨some 11,.load 1 false false (.tmp 10),[],none⟩,
 ⟨some 3,.copy true (.tmp 11),[],none⟩]
def F147r5 : List ROp := [⟨some 12,.copy false (.tmp 1),[],none⟩,
 ⟨some 13,.copy false (.tmp 3),[],none⟩,
 ⟨none,.mupd 1 (.tmp 12) (.tmp 13) (.const (.int .i64 2)),[],none⟩]
def F147r6 : List ROp := [⟨some 14,.bin .add (.tmp 8) (.const (.int .i64 1)),[],none⟩,
 ⟨some 8,.copy false (.tmp 14),[],none⟩]
def F147r7 : List ROp := [⟨some 15,.copy true (.tmp 1),[],none⟩,
 ⟨some 0,.copy true (.tmp 15),[],none⟩]
-- function 149: corollary/tree.good$1
def F149r0 : List ROp := [⟨some 2,.box 58 (.tmp 0),[],none⟩,
 ⟨some 3,.copy true (.const (.bool false)),[],none⟩]
def F149r1 : List ROp := [⟨some 4,.load 9 true false (.tmp 2),[],none⟩,
 ⟨some 5,.load 1 false false (.tmp 1),[],none⟩,
 ⟨some 6,.call (.func 99) [.tmp 4,.tmp 5],[],none⟩,
 ⟨some 3,.copy true (.tmp 6),[],none⟩]
-- function 99: corollary/tree.good
def F99r0 : List ROp := [⟨some 2,.box 58 (.tmp 0),[],none⟩,
 ⟨some 3,.box 4 (.tmp 1),[],none⟩,
 ⟨some 4,.copy true (.const (.bool false)),[],none⟩]
def F99r1 : List ROp := [⟨some 9,.fad 8 (.tmp 2),[],none⟩,
 ⟨some 10,.load 1 false false (.tmp 9),[],none⟩,
 ⟨some 11,.len 0 (.tmp 10),[],none⟩,
 ⟨some 5,.copy true (.tmp 11),[],none⟩]
def F99r2 : List ROp := [⟨some 6,.copy true (.const (.bool false)),[],none⟩]
def F99r3 : List ROp := [⟨some 12,.fad 0 (.tmp 2),[],none⟩,
 ⟨some 13,.load 1 false false (.tmp 12),[],none⟩]
def F99r4 : List ROp := [⟨some 15,.bin .eql (.tmp 13) (.const (.int .u8 1)),[],none⟩,
 ⟨some 14,.copy true (.tmp 15),[],none⟩]
def F99r5 : List ROp := [⟨some 16,.fad 4 (.tmp 2),[],none⟩,
 ⟨some 17,.fad 0 (.tmp 16),[],none⟩,
 ⟨some 18,.load 1 false false (.tmp 17),[],none⟩,
 ⟨some 7,.copy true (.tmp 18),[],none⟩]
def F99r6 : List ROp := [⟨some 19,.copy false (.tmp 7),[],none⟩,
 ⟨some 20,.bin .geq (.tmp 19) (.const (.int .u8 1)),[],none⟩,
 ⟨some 21,.copy false (.tmp 20),[],none⟩,
 ⟨some 22,.copy false (.tmp 7),[],some (21,true)⟩,
 ⟨some 23,.bin .leq (.tmp 22) (.const (.int .u8 4)),[],some (21,true)⟩,
 ⟨some 24,.pick (.tmp 21) (.tmp 23) (.const (.bool false)),[],none⟩,
 ⟨some 25,.copy false (.tmp 24),[],none⟩,
 ⟨some 26,.fad 4 (.tmp 2),[],some (25,true)⟩,
 ⟨some 27,.load 4 true false (.tmp 26),[],some (25,true)⟩,
 ⟨some 28,.call (.func 146) [.tmp 27],[],some (25,true)⟩,
 ⟨some 29,.bin .eql (.tmp 28) (.const (.int .i64 0)),[],some (25,true)⟩,
 ⟨some 30,.pick (.tmp 25) (.tmp 29) (.const (.bool false)),[],none⟩,
 ⟨some 31,.copy false (.tmp 30),[],none⟩,
 ⟨some 32,.copy false (.tmp 5),[],some (31,true)⟩,
 ⟨some 33,.bin .eql (.tmp 32) (.const (.int .i64 0)),[],some (31,true)⟩,
 ⟨some 34,.pick (.tmp 31) (.tmp 33) (.const (.bool false)),[],none⟩,
 ⟨some 35,.copy false (.tmp 34),[],none⟩,
 ⟨some 36,.fad 3 (.tmp 2),[],some (35,true)⟩,
 ⟨some 37,.load 1 false false (.tmp 36),[],some (35,true)⟩,
 ⟨some 38,.bin .eql (.tmp 37) (.const (.string { data := #[] })),[],some (35,true)⟩,
 ⟨some 39,.pick (.tmp 35) (.tmp 38) (.const (.bool false)),[],none⟩,
 ⟨some 4,.copy true (.tmp 39),[],none⟩]
def F99r7 : List ROp := [⟨some 41,.bin .eql (.tmp 13) (.const (.int .u8 2)),[],none⟩,
 ⟨some 40,.copy true (.tmp 41),[],none⟩]
def F99r8 : List ROp := [⟨some 42,.fad 3 (.tmp 2),[],none⟩,
 ⟨some 43,.load 1 false false (.tmp 42),[],none⟩,
 ⟨some 44,.call (.func 145) [.tmp 43],[],none⟩,
 ⟨some 45,.copy false (.tmp 44),[],none⟩,
 ⟨some 46,.copy false (.tmp 5),[],some (45,true)⟩,
 ⟨some 47,.bin .eql (.tmp 46) (.const (.int .i64 0)),[],some (45,true)⟩,
 ⟨some 48,.pick (.tmp 45) (.tmp 47) (.const (.bool false)),[],none⟩,
 ⟨some 6,.copy true (.tmp 48),[],none⟩]
def F99r9 : List ROp := [⟨some 50,.bin .eql (.tmp 13) (.const (.int .u8 3)),[],none⟩,
 ⟨some 49,.copy true (.tmp 50),[],none⟩]
def F99r10 : List ROp := [⟨some 51,.load 1 false false (.tmp 3),[],none⟩,
 ⟨some 52,.copy false (.tmp 51),[],none⟩,
 ⟨some 53,.fad 3 (.tmp 2),[],some (52,true)⟩,
 ⟨some 54,.load 1 false false (.tmp 53),[],some (52,true)⟩,
 ⟨some 55,.bin .eql (.tmp 54) (.const (.string { data := #[] })),[],some (52,true)⟩,
 ⟨some 56,.pick (.tmp 52) (.tmp 55) (.const (.bool false)),[],none⟩,
 ⟨some 57,.copy false (.tmp 56),[],none⟩,
 ⟨some 58,.copy false (.tmp 5),[],some (57,true)⟩,
 ⟨some 59,.bin .eql (.tmp 58) (.const (.int .i64 0)),[],some (57,true)⟩,
 ⟨some 60,.pick (.tmp 57) (.tmp 59) (.const (.bool false)),[],none⟩,
 ⟨some 6,.copy true (.tmp 60),[],none⟩]
def F99r11 : List ROp := [⟨some 62,.bin .eql (.tmp 13) (.const (.int .u8 4)),[],none⟩,
 ⟨some 61,.copy true (.tmp 62),[],none⟩]
def F99r12 : List ROp := [⟨some 63,.fad 3 (.tmp 2),[],none⟩,
 ⟨some 64,.load 1 false false (.tmp 63),[],none⟩,
 ⟨some 65,.bin .eql (.tmp 64) (.const (.string { data := #[] })),[],none⟩,
 ⟨some 66,.copy false (.tmp 65),[],none⟩,
 ⟨some 67,.copy false (.tmp 5),[],some (66,true)⟩,
 ⟨some 68,.bin .neq (.tmp 67) (.const (.int .i64 1)),[],some (66,true)⟩,
 ⟨some 69,.pick (.tmp 66) (.tmp 68) (.const (.bool false)),[],none⟩,
 ⟨some 70,.copy false (.tmp 69),[],none⟩,
 ⟨some 71,.copy false (.tmp 5),[],some (70,true)⟩,
 ⟨some 72,.bin .leq (.tmp 71) (.const (.int .i64 16)),[],some (70,true)⟩,
 ⟨some 73,.pick (.tmp 70) (.tmp 72) (.const (.bool false)),[],none⟩,
 ⟨some 6,.copy true (.tmp 73),[],none⟩]
def F99r13 : List ROp := [⟨some 75,.bin .eql (.tmp 13) (.const (.int .u8 5)),[],none⟩,
 ⟨some 74,.copy true (.tmp 75),[],none⟩]
def F99r14 : List ROp := [⟨some 76,.fad 3 (.tmp 2),[],none⟩,
 ⟨some 77,.load 1 false false (.tmp 76),[],none⟩,
 ⟨some 78,.call (.func 137) [.tmp 77],[],none⟩,
 ⟨some 79,.copy false (.tmp 78),[],none⟩,
 ⟨some 80,.copy false (.tmp 5),[],some (79,true)⟩,
 ⟨some 81,.bin .leq (.tmp 80) (.const (.int .i64 8)),[],some (79,true)⟩,
 ⟨some 82,.pick (.tmp 79) (.tmp 81) (.const (.bool false)),[],none⟩,
 ⟨some 6,.copy true (.tmp 82),[],none⟩]
def F99r15 : List ROp := [⟨some 84,.bin .eql (.tmp 13) (.const (.int .u8 6)),[],none⟩,
 ⟨some 83,.copy true (.tmp 84),[],none⟩]
def F99r16 : List ROp := [⟨some 85,.call (.func 147) [],[],none⟩,
 ⟨some 86,.fad 3 (.tmp 2),[],none⟩,
 ⟨some 87,.load 1 false false (.tmp 86),[1],none⟩,
 ⟨some 88,.lkp 1 (Value.int .i64 0) false (.tmp 85) (.tmp 87),[0,2],none⟩,
 ⟨some 8,.copy true (.tmp 88),[3,0,0,1,2,3],none⟩]
def F99r17 : List ROp := [⟨some 89,.load 1 false false (.tmp 3),[],none⟩,
 ⟨some 90,.un .not (.tmp 89),[],none⟩,
 ⟨some 91,.copy false (.tmp 90),[],none⟩,
 ⟨some 92,.copy false (.tmp 8),[],some (91,true)⟩,
 ⟨some 93,.bin .gtr (.tmp 92) (.const (.int .i64 0)),[],some (91,true)⟩,
 ⟨some 94,.pick (.tmp 91) (.tmp 93) (.const (.bool false)),[],none⟩,
 ⟨some 95,.copy false (.tmp 94),[],none⟩,
 ⟨some 96,.copy false (.tmp 8),[],some (95,true)⟩,
 ⟨some 97,.copy false (.tmp 5),[],some (95,true)⟩,
 ⟨some 98,.bin .eql (.tmp 96) (.tmp 97),[],some (95,true)⟩,
 ⟨some 99,.pick (.tmp 95) (.tmp 98) (.const (.bool false)),[],none⟩,
 ⟨some 6,.copy true (.tmp 99),[],none⟩]
def F99r18 : List ROp := [⟨some 101,.bin .eql (.tmp 13) (.const (.int .u8 7)),[],none⟩,
 ⟨some 100,.copy true (.tmp 101),[],none⟩]
def F99r19 : List ROp := [⟨some 102,.load 1 false false (.tmp 3),[],none⟩,
 ⟨some 103,.un .not (.tmp 102),[],none⟩,
 ⟨some 104,.copy false (.tmp 103),[],none⟩,
 ⟨some 105,.fad 3 (.tmp 2),[],some (104,true)⟩,
 ⟨some 106,.load 1 false false (.tmp 105),[],some (104,true)⟩,
 ⟨some 107,.call (.func 79) [.tmp 106],[],some (104,true)⟩,
 ⟨some 108,.pick (.tmp 104) (.tmp 107) (.const (.bool false)),[],none⟩,
 ⟨some 109,.copy false (.tmp 108),[],none⟩,
 ⟨some 110,.copy false (.tmp 5),[],some (109,true)⟩,
 ⟨some 111,.bin .eql (.tmp 110) (.const (.int .i64 1)),[],some (109,true)⟩,
 ⟨some 112,.pick (.tmp 109) (.tmp 111) (.const (.bool false)),[],none⟩,
 ⟨some 6,.copy true (.tmp 112),[],none⟩]
def F99r20 : List ROp := [⟨some 114,.bin .eql (.tmp 13) (.const (.int .u8 8)),[],none⟩,
 ⟨some 113,.copy true (.tmp 114),[],none⟩]
def F99r21 : List ROp := [⟨some 115,.load 1 false false (.tmp 3),[],none⟩,
 ⟨some 116,.un .not (.tmp 115),[],none⟩,
 ⟨some 117,.copy false (.tmp 116),[],none⟩,
 ⟨some 118,.fad 3 (.tmp 2),[],some (117,true)⟩,
 ⟨some 119,.load 1 false false (.tmp 118),[],some (117,true)⟩,
 ⟨some 120,.bin .eql (.tmp 119) (.const (.string { data := #[] })),[],some (117,true)⟩,
 ⟨some 121,.pick (.tmp 117) (.tmp 120) (.const (.bool false)),[],none⟩,
 ⟨some 122,.copy false (.tmp 121),[],none⟩,
 ⟨some 123,.copy false (.tmp 5),[],some (122,true)⟩,
 ⟨some 124,.bin .eql (.tmp 123) (.const (.int .i64 3)),[],some (122,true)⟩,
 ⟨some 125,.pick (.tmp 122) (.tmp 124) (.const (.bool false)),[],none⟩,
 ⟨some 6,.copy true (.tmp 125),[],none⟩]
def F99r22 : List ROp := [⟨some 126,.copy false (.tmp 6),[],none⟩,
 ⟨some 127,.copy false (.tmp 126),[],none⟩,
 ⟨some 128,.fad 4 (.tmp 2),[],some (127,true)⟩,
 ⟨some 129,.load 4 true false (.tmp 128),[],some (127,true)⟩,
 ⟨some 130,.call (.func 148) [.tmp 129],[],some (127,true)⟩,
 ⟨some 131,.pick (.tmp 127) (.tmp 130) (.const (.bool false)),[],none⟩,
 ⟨some 132,.copy false (.tmp 131),[],none⟩,
 ⟨some 133,.fad 8 (.tmp 2),[],some (132,true)⟩,
 ⟨some 134,.load 1 false false (.tmp 133),[],some (132,true)⟩,
 ⟨some 135,.mkf (Go.Fn.func 149) [.tmp 3],[],some (132,true)⟩,
 ⟨some 136,.call (.func 138) [.tmp 134,.tmp 135],[],some (132,true)⟩,
 ⟨some 137,.pick (.tmp 132) (.tmp 136) (.const (.bool false)),[],none⟩,
 ⟨some 4,.copy true (.tmp 137),[],none⟩]
-- function 75: corollary/tree.expr
def F75r0 : List ROp := [⟨some 1,.box 58 (.tmp 0),[],none⟩,
 ⟨some 2,.copy true (.const (.bool false)),[],none⟩]
def F75r1 : List ROp := [⟨some 3,.load 9 true false (.tmp 1),[],none⟩,
 ⟨some 4,.call (.func 99) [.tmp 3,.const (.bool false)],[],none⟩,
 ⟨some 2,.copy true (.tmp 4),[],none⟩]
-- function 144: corollary/tree.pattern
def F144r0 : List ROp := [⟨some 1,.box 58 (.tmp 0),[],none⟩,
 ⟨some 2,.copy true (.const (.bool false)),[],none⟩]
def F144r1 : List ROp := [⟨some 3,.load 9 true false (.tmp 1),[],none⟩,
 ⟨some 4,.call (.func 99) [.tmp 3,.const (.bool true)],[],none⟩,
 ⟨some 2,.copy true (.tmp 4),[],none⟩]
def arL : List (ByteArray × Int) := [(⟨#[110, 111, 116]⟩, 1), (⟨#[110, 101, 103]⟩, 1), (⟨#[108, 101, 110]⟩, 1), (⟨#[98, 105, 103]⟩, 1), (⟨#[105, 110, 116]⟩, 1), (⟨#[43]⟩, 2), (⟨#[45]⟩, 2), (⟨#[42]⟩, 2), (⟨#[47]⟩, 2), (⟨#[37]⟩, 2), (⟨#[43, 43]⟩, 2), (⟨#[61, 61]⟩, 2), (⟨#[33, 61]⟩, 2), (⟨#[60]⟩, 2), (⟨#[60, 61]⟩, 2), (⟨#[62]⟩, 2), (⟨#[62, 61]⟩, 2), (⟨#[97, 110, 100]⟩, 2), (⟨#[111, 114]⟩, 2)]
def arN : Nat → List Value × List AV
 | 0 => ([], [])
 | k + 1 => kvSet (.string (arL.getD k (.empty, 0)).1) (ival (arL.getD k (.empty, 0)).2) (arN k).1 (arN k).2
attribute [local simp] valX encV_eq exprX encE_eq encTR encT texts exprB
def isS : Value → Bool
 | .string _ => true
 | _ => false
theorem arN_str : ∀ k, k < 20 → (arN k).1.all isS = true := by decide +kernel
theorem arN_same (k : Nat) (h : k < 20) (s : ByteArray) : ∀ a ∈ (arN k).1, sameKind (.string s) a = true := by
 intro a ha
 have := List.all_eq_true.1 (arN_str k h) a ha
 cases a <;> simp_all [isS, sameKind]
theorem arN_noref : ∀ k, k < 20 → norefL (arN k).2 = true := by decide +kernel
theorem arN_within (k : Nat) (h : k < 20) (l : List Nat) : withinL l (arN k).2 = true := withinL_of_noref l _ (arN_noref k h)
theorem arL_ops : ∀ k (h : k < 14), arL.getD (k + 5) (.empty, 0) = (ops[k]'h, 2) := by decide +kernel
theorem arN_all : (arN 19).1 = arL.map (fun p => Value.string p.1) ∧ (arN 19).2 = arL.map (fun p => ival p.2) := ⟨by rfl, by rfl⟩
theorem kvGet_list (s : ByteArray) : ∀ l : List (ByteArray × Int), kvGet (.string s) (l.map fun p => Value.string p.1) (l.map fun p => ival p.2) = ((l.find? fun p => decide (s = p.1)).map fun p => ival p.2)
 | [] => rfl
 | p :: l => by
  rw [List.map_cons, List.map_cons, kvGet, kvGet_list s l, List.find?_cons]
  simp only [keyEq]
  by_cases h : s = p.1 <;> simp [h]
theorem arity_list (s : ByteArray) : arity s = (((arL.find? fun p => decide (s = p.1)).map fun p => p.2).getD 0) := by
 by_cases h0 : s = ⟨#[110, 111, 116]⟩
 ·subst h0; decide +kernel
 by_cases h1 : s = ⟨#[110, 101, 103]⟩
 ·subst h1; decide +kernel
 by_cases h2 : s = ⟨#[108, 101, 110]⟩
 ·subst h2; decide +kernel
 by_cases h3 : s = ⟨#[98, 105, 103]⟩
 ·subst h3; decide +kernel
 by_cases h4 : s = ⟨#[105, 110, 116]⟩
 ·subst h4; decide +kernel
 by_cases h5 : s = ⟨#[43]⟩
 ·subst h5; decide +kernel
 by_cases h6 : s = ⟨#[45]⟩
 ·subst h6; decide +kernel
 by_cases h7 : s = ⟨#[42]⟩
 ·subst h7; decide +kernel
 by_cases h8 : s = ⟨#[47]⟩
 ·subst h8; decide +kernel
 by_cases h9 : s = ⟨#[37]⟩
 ·subst h9; decide +kernel
 by_cases h10 : s = ⟨#[43, 43]⟩
 ·subst h10; decide +kernel
 by_cases h11 : s = ⟨#[61, 61]⟩
 ·subst h11; decide +kernel
 by_cases h12 : s = ⟨#[33, 61]⟩
 ·subst h12; decide +kernel
 by_cases h13 : s = ⟨#[60]⟩
 ·subst h13; decide +kernel
 by_cases h14 : s = ⟨#[60, 61]⟩
 ·subst h14; decide +kernel
 by_cases h15 : s = ⟨#[62]⟩
 ·subst h15; decide +kernel
 by_cases h16 : s = ⟨#[62, 61]⟩
 ·subst h16; decide +kernel
 by_cases h17 : s = ⟨#[97, 110, 100]⟩
 ·subst h17; decide +kernel
 by_cases h18 : s = ⟨#[111, 114]⟩
 ·subst h18; decide +kernel
 have hf : (arL.find? fun p => decide (s = p.1)) = none := by
  simp [arL, h0, h1, h2, h3, h4, h5, h6, h7, h8, h9, h10, h11, h12, h13, h14, h15, h16, h17, h18]
 rw [hf]
 have ho : isOp s = false := by
  simp [isOp, ops, Ne.symm h5, Ne.symm h6, Ne.symm h7, Ne.symm h8, Ne.symm h9, Ne.symm h10, Ne.symm h11, Ne.symm h12, Ne.symm h13, Ne.symm h14, Ne.symm h15, Ne.symm h16, Ne.symm h17, Ne.symm h18]
 have hg : function s = false := by simp [function, tNeg, tLen, tBig, tInt, h1, h2, h3, h4]
 unfold arity
 rw [ho, hg]
 simp [tNot, h0]
theorem arity_pos (s : ByteArray) : 0 ≤ arity s ∧ arity s ≤ 2 := by
 unfold arity; split
 ·omega
 ·split <;> omega
def arX : AV := .rmap (arN 19).1 (arN 19).2
theorem arityT_ok : Con Tryz.prog 147 [] arX := by
 refine Con.of_code Tryz.func147 (by kernel_rfl) rfl (by simp [Tryz.ntmps147]) fun C hC hM => ?_
 refine AWp.seq ?_
 refine AWp.regK [] [true] F147r0 [] (by kernel_rfl) (by rw [hC]; rfl) fun K hK => ?_
 simp (maxSteps := 2000000) [F147r0]
 refine hK _ ?_
 refine AWp.seq ?_
 refine AWp.regK [1] [false,false,false,false,false,false,true,true] F147r1 [] (by kernel_rfl) (by rw [hC]; rfl) fun K hK => ?_
 simp (maxSteps := 2000000) [F147r1]
 (repeat first | refine ⟨by first | kernel_rfl | (intros; omega) | assumption, ?_⟩ | refine ⟨fun a ha => arN_same 1 (by omega) _ a ha, ?_⟩ | refine ⟨fun a ha => arN_same 2 (by omega) _ a ha, ?_⟩ | refine ⟨fun a ha => arN_same 3 (by omega) _ a ha, ?_⟩ | refine ⟨fun a ha => arN_same 4 (by omega) _ a ha, ?_⟩); refine hK _ ?_
 refine AWp.seq ?_
 refine AWp.seq ?_
 refine AWp.regK [1,6,7,8] [] F147r2 [] (by kernel_rfl) (by rw [hC]; rfl) fun K hK => ?_
 simp (maxSteps := 2000000) [F147r2]
 (repeat refine ⟨by first | omega | (intros; omega) | assumption, ?_⟩); refine hK _ ?_
 refine AWp.block ?_
 show AWp Tryz.prog C _ _ { tm := [(1, .mapr 4), (6, .own 9 1 (texts ops)), (7, ival 14), (8, ival 0)], hp := [(4, .map (arN 5).1 (arN 5).2)] }
 refine AWp.loopG (fun k : Nat => { tm := [(1, .mapr 4), (6, .own 9 1 (texts ops)), (7, ival 14), (8, ival k)], hp := [(4, .map (arN (k + 5)).1 (arN (k + 5)).2)] }) (fun k => k ≤ 14) (fun k => 14 - k) 0 (by omega) (by simp [arN_within 5 (by omega)]) (fun k hk => ?_)
 refine AWp.seq ?_
 refine AWp.regK [1,6,7,8,9] [] F147r3 [] (by kernel_rfl) (by rw [hC]; rfl) fun K hK => ?_
 simp (maxSteps := 2000000) [F147r3]
 refine hK _ ?_
 refine AWp.seq ?_
 refine AWp.cond _ (by rfl) (fun hlt => ?_) (fun hge => ?_)
 ·skip
  have hlt : k < 14 := by simp at hlt; omega
  have hs := arN_same (k + 5) (by omega) (ops[k]'hlt)
  have hol : ops.length = 14 := rfl
  refine AWp.skip ?_
  refine AWp.seq ?_
  refine AWp.block ?_
  refine AWp.seq ?_
  refine AWp.regK [1,3,6,7,8] [false,false,true] F147r4 [] (by kernel_rfl) (by rw [hC]; rfl) fun K hK => ?_
  simp (maxSteps := 2000000) [F147r4, hlt, hol]
  refine ⟨by omega, hK _ ?_⟩
  refine AWp.regK [1,6,7,8] [] F147r5 [] (by kernel_rfl) (by rw [hC]; rfl) fun K hK => ?_
  simp (maxSteps := 2000000) [F147r5, hlt, hol]
  (repeat first | refine ⟨by first | kernel_rfl | (intros; omega) | assumption, ?_⟩ | refine ⟨fun a ha => hs a ha, ?_⟩); refine hK _ ?_
  refine AWp.regK [1,6,7,8] [] F147r6 [] (by kernel_rfl) (by rw [hC]; rfl) fun K hK => ?_
  simp (maxSteps := 2000000) [F147r6]
  (repeat refine ⟨by first | omega | (intros; omega) | assumption, ?_⟩); refine hK _ ?_
  refine ⟨k + 1, by omega, by omega, ?_⟩
  have he : arN (k + 1 + 5) = kvSet (.string (ops[k]'hlt)) (ival 2) (arN (k + 5)).1 (arN (k + 5)).2 := by
   show kvSet (.string (arL.getD (k + 5) (.empty, 0)).1) (ival (arL.getD (k + 5) (.empty, 0)).2) (arN (k + 5)).1 (arN (k + 5)).2 = _
   rw [arL_ops k hlt]
  have hw := arN_within (k + 1 + 5) (by omega) [4]
  rw [he] at hw
  rw [he]
  simp [wrap_nat k (by omega)]
  exact ⟨⟨rfl, .inl rfl⟩, by simpa using hw⟩
 have hge : k = 14 := by simp at hge; omega
 subst hge
 refine AWp.exit ?_
 refine AWp.seq ?_
 refine AWp.regK [0] [true,true] F147r7 [] (by kernel_rfl) (by rw [hC]; rfl) fun K hK => ?_
 simp (maxSteps := 2000000) [F147r7]
 refine hK _ ?_
 repeat refine AWp.seq ?_
 refine AWp.ret ⟨.inr rfl, _, by simp [Tryz.results147] <;> rfl, ?_⟩
 exact .mapr rfl (RsvL.closed (arN_noref 19 (by omega)))
theorem kvGet_ar (s : ByteArray) : (kvGet (.string s) (arN 19).1 (arN 19).2 = none ∧ arity s = 0) ∨ kvGet (.string s) (arN 19).1 (arN 19).2 = some (ival (arity s)) := by
 rw [arN_all.1, arN_all.2, kvGet_list, arity_list]
 cases arL.find? fun p => decide (s = p.1) with
 | none => exact .inl ⟨rfl, rfl⟩
 | some p => exact .inr rfl
theorem goodF_ok (pat : Bool) (e : ExprD) (h : Con Tryz.prog 99 [exprX e, bval pat] (bval (good pat e))) : Con Tryz.prog 149 [exprX e, .elt 1 [[bval pat]] 0 0] (bval (good pat e)) := by
 refine Con.of_code Tryz.func149 (by kernel_rfl) rfl (by simp [Tryz.ntmps149]) fun C hC hM => ?_
 refine AWp.seq ?_
 refine AWp.regK [1,2] [false,true] F149r0 [] (by kernel_rfl) (by rw [hC]; rfl) fun K hK => ?_
 simp (maxSteps := 2000000) [F149r0]
 refine hK _ ?_
 refine AWp.seq ?_
 refine AWp.regK [3] [false,false,false,true] F149r1 [{ r := bval (good pat e) }] (by kernel_rfl) (by rw [hC]; rfl) fun K hK => ?_
 simp (maxSteps := 2000000) [F149r1]
 (repeat first | refine ⟨by first | kernel_rfl | (intros; omega) | assumption, ?_⟩ | refine ⟨by intros; exact callOK rfl h, ?_⟩); refine hK _ ?_
 repeat refine AWp.seq ?_
 refine AWp.ret ⟨.inr rfl, _, by simp [Tryz.results149] <;> rfl, ?_⟩
 exact .closed rfl
theorem goodT_ok (pat : Bool) : ∀ (n : Nat) (e : ExprD), esize e < n → esize e ≤ 4194304 → Con Tryz.prog 99 [exprX e, bval pat] (bval (good pat e)) := by
 intro n
 induction n with
 | zero => intro e h; omega
 | succ n ih =>
  intro e hn hv
  have hsz := esize_eq e
  have hlen := esizes_len e.args
  have hge := good_eq pat e
  have hvk := CheckP_ok e.v (by omega)
  have hnone := zeroT_ok e.v (by omega)
  have hall := allE_ok 149 [.elt 1 [[bval pat]] 0 0] (good pat) e.args (by omega) rfl fun x hx => goodF_ok pat x (by have := esize_mem hx; exact ih x (by omega) (by omega))
  rw [← goods_all] at hall
  refine Con.of_code Tryz.func99 (by kernel_rfl) rfl (by simp [Tryz.ntmps99]) fun C hC hM => ?_
  refine AWp.seq ?_
  refine AWp.regK [2,3] [false,false,true] F99r0 [] (by kernel_rfl) (by rw [hC]; rfl) fun K hK => ?_
  simp (maxSteps := 2000000) [F99r0]
  refine hK _ ?_
  refine AWp.seq ?_
  refine AWp.regK [2,3,5] [false,false,false,true] F99r1 [] (by kernel_rfl) (by rw [hC]; rfl) fun K hK => ?_
  simp (maxSteps := 2000000) [F99r1]
  refine hK _ ?_
  refine AWp.seq ?_
  refine AWp.regK [2,3,5,6] [true] F99r2 [] (by kernel_rfl) (by rw [hC]; rfl) fun K hK => ?_
  simp (maxSteps := 2000000) [F99r2]
  refine hK _ ?_
  refine AWp.seqJ (fun _ : Unit => { tm := [(2, .ptr 2 0), (3, .ptr 3 0), (6, bval (goodOwn e pat))], hp := [(2, exprB e), (3, .cells 4 [bval pat])] }) (fun _ => ¬ e.kind = 1) ?_ (fun hJ => ?_)
  ·skip
   rintro - hk1
   rw [decide_eq_false hk1, Bool.false_or] at hge
   rw [hge]
   refine AWp.seq ?_
   refine AWp.regK [4] [false,false,false,false,false,false,false,false,false,false,false,false,true] F99r22 [{ r := bval (noneV e.v) },{ r := bval (goods pat e.args),us := [3] }] (by kernel_rfl) (by rw [hC]; rfl) fun K hK => ?_
   simp (maxSteps := 2000000) [F99r22]
   (repeat first | refine ⟨by first | kernel_rfl | (intros; omega) | assumption, ?_⟩ | refine ⟨by intros; exact callOK rfl hnone, ?_⟩ | refine ⟨by intros; exact ⟨_, .cons (.closed rfl) (.cons (.clo (.cons (.ptr rfl (.cons (.closed rfl) .nil)) .nil)) .nil), hall⟩, ?_⟩); refine hK _ ?_
   repeat refine AWp.seq ?_
   refine AWp.ret ⟨.inr rfl, _, by simp [Tryz.results99] <;> rfl, ?_⟩
   refine .clos ?_ rfl
   simp [Bool.and_assoc]
  ·skip
   clear hnone hall
   refine AWp.seq ?_
   refine AWp.regK [2,3,5,6,13] [] F99r3 [] (by kernel_rfl) (by rw [hC]; rfl) fun K hK => ?_
   simp (maxSteps := 2000000) [F99r3]
   refine hK _ ?_
   refine AWp.block ?_
   refine AWp.seq ?_
   refine AWp.regK [2,3,5,6,13,14] [false,true] F99r4 [] (by kernel_rfl) (by rw [hC]; rfl) fun K hK => ?_
   simp (maxSteps := 2000000) [F99r4]
   refine hK _ ?_
   refine AWp.cond _ (by rfl) (fun h1 => ?_) (fun h1 => ?_)
   ·skip
    have h1 : e.kind = 1 := by simpa using h1
    refine AWp.seq ?_
    refine AWp.regK [2,5,7] [false,false,false,true] F99r5 [] (by kernel_rfl) (by rw [hC]; rfl) fun K hK => ?_
    simp (maxSteps := 2000000) [F99r5]
    refine hK _ ?_
    refine AWp.seq ?_
    refine AWp.regK [4] [false,false,false,false,false,false,false,false,false,false,false,false,false,false,false,false,false,false,false,false,false,true] F99r6 [{ r := ival (Check e.v) }] (by kernel_rfl) (by rw [hC]; rfl) fun K hK => ?_
    simp (maxSteps := 2000000) [F99r6]
    (repeat first | refine ⟨by first | kernel_rfl | (intros; omega) | assumption, ?_⟩ | refine ⟨by intros; exact callOK rfl hvk, ?_⟩); refine hK _ ?_
    repeat refine AWp.seq ?_
    refine AWp.ret ⟨.inr rfl, _, by simp [Tryz.results99] <;> rfl, ?_⟩
    refine .clos ?_ rfl
    rw [hge, decide_eq_true h1]
    have : goodOwn e pat = (decide (1 ≤ e.v.kind) && decide (e.v.kind ≤ 4) && decide (Check e.v = 0) && decide (e.args.length = 0) && decide (e.name = ⟨#[]⟩)) := by unfold goodOwn; rw [if_pos h1]
    rw [this]
    by_cases h0 : e.args.length = 0
    ·have hga : goods pat e.args = true := by rw [List.eq_nil_of_length_eq_zero h0]; rfl
     rw [hga]
     simp [Bool.and_assoc]
    ·have h0' : ¬ e.args = [] := by intro e0; exact h0 (by rw [e0]; rfl)
     simp [h0']
   have h1 : ¬ e.kind = 1 := by simpa using h1
   refine AWp.seq ?_
   refine AWp.regK [2,3,5,6,13,40] [false,true] F99r7 [] (by kernel_rfl) (by rw [hC]; rfl) fun K hK => ?_
   simp (maxSteps := 2000000) [F99r7]
   refine hK _ ?_
   refine AWp.cond _ (by rfl) (fun h2 => ?_) (fun h2 => ?_)
   ·skip
    have h2 : e.kind = 2 := by simpa using h2
    have hc := variableT_ok e.name (by omega)
    refine AWp.regK [2,3,6] [false,false,false,false,false,false,false,true] F99r8 [{ r := bval (varB e.name) }] (by kernel_rfl) (by rw [hC]; rfl) fun K hK => ?_
    simp (maxSteps := 2000000) [F99r8]
    (repeat first | refine ⟨by first | kernel_rfl | (intros; omega) | assumption, ?_⟩ | refine ⟨by intros; exact callOK rfl hc, ?_⟩); refine hK _ ?_
    refine hJ _ () h1 ?_
    have : goodOwn e pat = (varB e.name && decide (e.args.length = 0)) := by unfold goodOwn; rw [if_neg h1, if_pos h2]
    rw [this]
    simp [Bool.and_assoc]
   have h2 : ¬ e.kind = 2 := by simpa using h2
   refine AWp.seq ?_
   refine AWp.regK [2,3,5,6,13,49] [false,true] F99r9 [] (by kernel_rfl) (by rw [hC]; rfl) fun K hK => ?_
   simp (maxSteps := 2000000) [F99r9]
   refine hK _ ?_
   refine AWp.cond _ (by rfl) (fun h3 => ?_) (fun h3 => ?_)
   ·skip
    have h3 : e.kind = 3 := by simpa using h3
    refine AWp.regK [2,3,6] [false,false,false,false,false,false,false,false,false,false,true] F99r10 [] (by kernel_rfl) (by rw [hC]; rfl) fun K hK => ?_
    simp (maxSteps := 2000000) [F99r10]
    (repeat refine ⟨by first | omega | (intros; omega) | assumption, ?_⟩); refine hK _ ?_
    refine hJ _ () h1 ?_
    have : goodOwn e pat = (pat && decide (e.name = ⟨#[]⟩) && decide (e.args.length = 0)) := by unfold goodOwn; rw [if_neg h1, if_neg h2, if_pos h3]
    rw [this]
    simp [Bool.and_assoc]
   have h3 : ¬ e.kind = 3 := by simpa using h3
   refine AWp.seq ?_
   refine AWp.regK [2,3,5,6,13,61] [false,true] F99r11 [] (by kernel_rfl) (by rw [hC]; rfl) fun K hK => ?_
   simp (maxSteps := 2000000) [F99r11]
   refine hK _ ?_
   refine AWp.cond _ (by rfl) (fun h4 => ?_) (fun h4 => ?_)
   ·skip
    have h4 : e.kind = 4 := by simpa using h4
    refine AWp.regK [2,3,6] [false,false,false,false,false,false,false,false,false,false,false,true] F99r12 [] (by kernel_rfl) (by rw [hC]; rfl) fun K hK => ?_
    simp (maxSteps := 2000000) [F99r12]
    (repeat refine ⟨by first | omega | (intros; omega) | assumption, ?_⟩); refine hK _ ?_
    refine hJ _ () h1 ?_
    have : goodOwn e pat = (decide (e.name = ⟨#[]⟩) && !decide (e.args.length = 1) && decide (e.args.length ≤ 16)) := by unfold goodOwn; rw [if_neg h1, if_neg h2, if_neg h3, if_pos h4]
    rw [this]
    simp [Bool.and_assoc]
   have h4 : ¬ e.kind = 4 := by simpa using h4
   refine AWp.seq ?_
   refine AWp.regK [2,3,5,6,13,74] [false,true] F99r13 [] (by kernel_rfl) (by rw [hC]; rfl) fun K hK => ?_
   simp (maxSteps := 2000000) [F99r13]
   refine hK _ ?_
   refine AWp.cond _ (by rfl) (fun h5 => ?_) (fun h5 => ?_)
   ·skip
    have h5 : e.kind = 5 := by simpa using h5
    have hc := longT_ok e.name (by omega)
    refine AWp.regK [2,3,6] [false,false,false,false,false,false,false,true] F99r14 [{ r := bval (long e.name) }] (by kernel_rfl) (by rw [hC]; rfl) fun K hK => ?_
    simp (maxSteps := 2000000) [F99r14]
    (repeat first | refine ⟨by first | kernel_rfl | (intros; omega) | assumption, ?_⟩ | refine ⟨by intros; exact callOK rfl hc, ?_⟩); refine hK _ ?_
    refine hJ _ () h1 ?_
    have : goodOwn e pat = (long e.name && decide (e.args.length ≤ 8)) := by unfold goodOwn; rw [if_neg h1, if_neg h2, if_neg h3, if_neg h4, if_pos h5]
    rw [this]
    simp [Bool.and_assoc]
   have h5 : ¬ e.kind = 5 := by simpa using h5
   refine AWp.seq ?_
   refine AWp.regK [2,3,5,6,13,83] [false,true] F99r15 [] (by kernel_rfl) (by rw [hC]; rfl) fun K hK => ?_
   simp (maxSteps := 2000000) [F99r15]
   refine hK _ ?_
   refine AWp.cond _ (by rfl) (fun h6 => ?_) (fun h6 => ?_)
   ·skip
    have h6 : e.kind = 6 := by simpa using h6
    have hs := arN_same 19 (by omega) e.name
    have : goodOwn e pat = (!pat && decide (0 < arity e.name) && decide ((e.args.length : Int) = arity e.name)) := by unfold goodOwn; rw [if_neg h1, if_neg h2, if_neg h3, if_neg h4, if_neg h5, if_pos h6]
    rw [this] at hJ
    clear this
    rcases kvGet_ar e.name with ⟨hg, ha⟩ | hg
    ·skip
     rw [ha] at hJ
     refine AWp.seq ?_
     refine AWp.regKL ops_mixed [[],[],[1],[0,1,2],[0,1,2,3]] [2,3,5,8] [false,false,false,false,true] F99r16 [{ r := arX }] (by kernel_rfl) (by rw [hC]; rfl) (by kernel_rfl) (by kernel_rfl) fun K hK => ?_
     simp (maxSteps := 2000000) [F99r16, arX, hg]
     (repeat first | refine ⟨by first | kernel_rfl | (intros; omega) | assumption, ?_⟩ | refine ⟨by intros; exact callOK rfl arityT_ok, ?_⟩ | refine ⟨fun a ha => hs a ha, ?_⟩); refine hK _ ?_
     refine AWp.regK [2,3,6] [false,false,false,false,false,false,false,false,false,false,false,true] F99r17 [] (by kernel_rfl) (by rw [hC]; rfl) fun K hK => ?_
     simp (maxSteps := 2000000) [F99r17]
     (repeat refine ⟨by first | omega | (intros; omega) | assumption, ?_⟩); refine hK _ ?_
     refine hJ _ () h1 ?_
     simp
    ·skip
     generalize arity e.name = av at hg hJ
     refine AWp.seq ?_
     refine AWp.regKL ops_mixed [[],[],[1],[0,1,2],[0,1,2,3]] [2,3,5,8] [false,false,false,false,true] F99r16 [{ r := arX }] (by kernel_rfl) (by rw [hC]; rfl) (by kernel_rfl) (by kernel_rfl) fun K hK => ?_
     simp (maxSteps := 2000000) [F99r16, arX, hg]
     (repeat first | refine ⟨by first | kernel_rfl | (intros; omega) | assumption, ?_⟩ | refine ⟨by intros; exact callOK rfl arityT_ok, ?_⟩ | refine ⟨fun a ha => hs a ha, ?_⟩); refine hK _ ?_
     refine AWp.regK [2,3,6] [false,false,false,false,false,false,false,false,false,false,false,true] F99r17 [] (by kernel_rfl) (by rw [hC]; rfl) fun K hK => ?_
     simp (maxSteps := 2000000) [F99r17]
     (repeat refine ⟨by first | omega | (intros; omega) | assumption, ?_⟩); refine hK _ ?_
     refine hJ _ () h1 ?_
     simp [Bool.and_assoc, eq_comm]
   have h6 : ¬ e.kind = 6 := by simpa using h6
   refine AWp.seq ?_
   refine AWp.regK [2,3,5,6,13,100] [false,true] F99r18 [] (by kernel_rfl) (by rw [hC]; rfl) fun K hK => ?_
   simp (maxSteps := 2000000) [F99r18]
   refine hK _ ?_
   refine AWp.cond _ (by rfl) (fun h7 => ?_) (fun h7 => ?_)
   ·skip
    have h7 : e.kind = 7 := by simpa using h7
    have hc := nameT_ok e.name (by omega)
    refine AWp.regK [2,3,6] [false,false,false,false,false,false,false,false,false,false,false,true] F99r19 [{ r := bval (nameR e.name) }] (by kernel_rfl) (by rw [hC]; rfl) fun K hK => ?_
    simp (maxSteps := 2000000) [F99r19]
    (repeat first | refine ⟨by first | kernel_rfl | (intros; omega) | assumption, ?_⟩ | refine ⟨by intros; exact callOK rfl hc, ?_⟩); refine hK _ ?_
    refine hJ _ () h1 ?_
    have : goodOwn e pat = (!pat && nameR e.name && decide (e.args.length = 1)) := by unfold goodOwn; rw [if_neg h1, if_neg h2, if_neg h3, if_neg h4, if_neg h5, if_neg h6, if_pos h7]
    rw [this]
    simp [Bool.and_assoc]
   have h7 : ¬ e.kind = 7 := by simpa using h7
   refine AWp.seq ?_
   refine AWp.regK [2,3,5,6,113] [false,true] F99r20 [] (by kernel_rfl) (by rw [hC]; rfl) fun K hK => ?_
   simp (maxSteps := 2000000) [F99r20]
   refine hK _ ?_
   refine AWp.cond _ (by rfl) (fun h8 => ?_) (fun h8 => ?_)
   ·skip
    have h8 : e.kind = 8 := by simpa using h8
    refine AWp.regK [2,3,6] [false,false,false,false,false,false,false,false,false,false,false,true] F99r21 [] (by kernel_rfl) (by rw [hC]; rfl) fun K hK => ?_
    simp (maxSteps := 2000000) [F99r21]
    (repeat refine ⟨by first | omega | (intros; omega) | assumption, ?_⟩); refine hK _ ?_
    refine hJ _ () h1 ?_
    have : goodOwn e pat = (!pat && decide (e.name = ⟨#[]⟩) && decide (e.args.length = 3)) := by unfold goodOwn; rw [if_neg h1, if_neg h2, if_neg h3, if_neg h4, if_neg h5, if_neg h6, if_neg h7, if_pos h8]
    rw [this]
    simp [Bool.and_assoc]
   have h8 : ¬ e.kind = 8 := by simpa using h8
   refine AWp.skip ?_
   refine hJ _ () h1 ?_
   have : goodOwn e pat = false := by unfold goodOwn; rw [if_neg h1, if_neg h2, if_neg h3, if_neg h4, if_neg h5, if_neg h6, if_neg h7, if_neg h8]
   rw [this]
   simp
theorem goodT'_ok (pat : Bool) (e : ExprD) (h : esize e ≤ 4194304) : Con Tryz.prog 99 [exprX e, bval pat] (bval (good pat e)) := goodT_ok pat _ e (Nat.lt_succ_self _) h
theorem exprT_ok (e : ExprD) (h : esize e ≤ 4194304) : Con Tryz.prog 75 [exprX e] (bval (good false e)) := by
 have h1 := goodT'_ok false e h
 refine Con.of_code Tryz.func75 (by kernel_rfl) rfl (by simp [Tryz.ntmps75]) fun C hC hM => ?_
 refine AWp.seq ?_
 refine AWp.regK [1] [false,true] F75r0 [] (by kernel_rfl) (by rw [hC]; rfl) fun K hK => ?_
 simp (maxSteps := 2000000) [F75r0]
 refine hK _ ?_
 refine AWp.seq ?_
 refine AWp.regK [2] [false,false,true] F75r1 [{ r := bval (good false e) }] (by kernel_rfl) (by rw [hC]; rfl) fun K hK => ?_
 simp (maxSteps := 2000000) [F75r1]
 (repeat first | refine ⟨by first | kernel_rfl | (intros; omega) | assumption, ?_⟩ | refine ⟨by intros; exact callOK rfl h1, ?_⟩); refine hK _ ?_
 repeat refine AWp.seq ?_
 refine AWp.ret ⟨.inr rfl, _, by simp [Tryz.results75] <;> rfl, ?_⟩
 exact .closed rfl
theorem patternT_ok (e : ExprD) (h : esize e ≤ 4194304) : Con Tryz.prog 144 [exprX e] (bval (good true e)) := by
 have h1 := goodT'_ok true e h
 refine Con.of_code Tryz.func144 (by kernel_rfl) rfl (by simp [Tryz.ntmps144]) fun C hC hM => ?_
 refine AWp.seq ?_
 refine AWp.regK [1] [false,true] F144r0 [] (by kernel_rfl) (by rw [hC]; rfl) fun K hK => ?_
 simp (maxSteps := 2000000) [F144r0]
 refine hK _ ?_
 refine AWp.seq ?_
 refine AWp.regK [2] [false,false,true] F144r1 [{ r := bval (good true e) }] (by kernel_rfl) (by rw [hC]; rfl) fun K hK => ?_
 simp (maxSteps := 2000000) [F144r1]
 (repeat first | refine ⟨by first | kernel_rfl | (intros; omega) | assumption, ?_⟩ | refine ⟨by intros; exact callOK rfl h1, ?_⟩); refine hK _ ?_
 repeat refine AWp.seq ?_
 refine AWp.ret ⟨.inr rfl, _, by simp [Tryz.results144] <;> rfl, ?_⟩
 exact .closed rfl
