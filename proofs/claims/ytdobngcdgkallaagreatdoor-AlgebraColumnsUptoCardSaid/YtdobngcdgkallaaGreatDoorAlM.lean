/- The document: names, variables, operators. -/
import Derived.Test.YtdobngcdgkallaaGreatDoorAlB
import Derived.Test.YtdobngcdgkallaaGreatDoorAlJ
set_option linter.unusedSimpArgs false
set_option linter.unusedVariables false
set_option linter.unusedSectionVars false
open Go Go.Aw Go.Proofs
namespace Go.Al
set_option maxRecDepth 20000
-- function 73: corollary/corollaryref06.Reserved
def F73r0 : List ROp := [⟨some 2,.copy true (.const (.bool false)),[],none⟩]
def F73r1 : List ROp := [⟨some 5,.bslice 9 1 [Value.string ByteArray.empty] 26 [(0,.const (.string { data := #[109,111,100,117,108,101] })),(1,.const (.string { data := #[105,109,112,111,114,116] })),(2,.const (.string { data := #[112,117,98] })),(3,.const (.string { data := #[116,121,112,101] })),(4,.const (.string { data := #[105,110,112,117,116] })),(5,.const (.string { data := #[114,101,108] })),(6,.const (.string { data := #[110,101,118,101,114] })),(7,.const (.string { data := #[110,111,116] })),(8,.const (.string { data := #[97,110,100] })),(9,.const (.string { data := #[111,114] })),(10,.const (.string { data := #[105,102] })),(11,.const (.string { data := #[116,104,101,110] })),(12,.const (.string { data := #[101,108,115,101] })),(13,.const (.string { data := #[116,114,117,101] })),(14,.const (.string { data := #[102,97,108,115,101] })),(15,.const (.string { data := #[99,111,117,110,116] })),(16,.const (.string { data := #[115,117,109] })),(17,.const (.string { data := #[109,105,110] })),(18,.const (.string { data := #[109,97,120] })),(19,.const (.string { data := #[110,101,103] })),(20,.const (.string { data := #[108,101,110] })),(21,.const (.string { data := #[98,105,103] })),(22,.const (.string { data := #[105,110,116] })),(23,.const (.string { data := #[98,111,111,108] })),(24,.const (.string { data := #[116,101,120,116] })),(25,.const (.string { data := #[116,117,112,108,101] }))],[],none⟩,
 ⟨some 3,.copy true (.tmp 5),[],none⟩]
def F73r2 : List ROp := [⟨some 4,.copy true (.const (.int .i64 0)),[],none⟩]
def F73r3 : List ROp := [⟨some 6,.copy false (.tmp 4),[],none⟩,
 ⟨some 7,.copy false (.tmp 3),[],none⟩,
 ⟨some 8,.len 0 (.tmp 7),[],none⟩,
 ⟨some 9,.bin .lss (.tmp 6) (.tmp 8),[],none⟩]
def F73r4 : List ROp := [⟨some 10,.copy false (.tmp 4),[],none⟩,
 ⟨some 11,.bin .add (.tmp 10) (.const (.int .i64 1)),[],none⟩,
 ⟨some 4,.copy true (.tmp 11),[],none⟩]
def F73r5 : List ROp := [⟨some 12,.copy false (.tmp 3),[],none⟩,
 ⟨some 13,.copy false (.tmp 4),[],none⟩,
 ⟨some 14,.iad 1 (.tmp 12) (.tmp 13),[],none⟩,
 ⟨some 15,.load 1 false false (.tmp 14),[],none⟩,
 ⟨some 16,.copy false (.tmp 0),[],none⟩,
 ⟨some 17,.bin .eql (.tmp 15) (.tmp 16),[],none⟩]
def F73r6 : List ROp := [⟨some 2,.copy true (.const (.bool true)),[],none⟩]
def F73r7 : List ROp := [⟨some 2,.copy true (.const (.bool false)),[],none⟩]
-- function 61: corollary/corollaryref06.Name
def F61r0 : List ROp := [⟨some 2,.copy true (.const (.bool false)),[],none⟩]
def F61r1 : List ROp := [⟨some 3,.copy false (.tmp 0),[],none⟩,
 ⟨some 4,.call (.func 57) [.tmp 3],[],none⟩,
 ⟨some 5,.copy false (.tmp 4),[],none⟩,
 ⟨some 6,.copy false (.tmp 0),[],some (5,true)⟩,
 ⟨some 7,.call (.func 73) [.tmp 6],[],some (5,true)⟩,
 ⟨some 8,.un .not (.tmp 7),[],some (5,true)⟩,
 ⟨some 9,.pick (.tmp 5) (.tmp 8) (.const (.bool false)),[],none⟩,
 ⟨some 2,.copy true (.tmp 9),[],none⟩]
-- function 59: corollary/corollaryref06.Long
def F59r0 : List ROp := [⟨some 2,.copy true (.const (.bool false)),[],none⟩]
def F59r1 : List ROp := [⟨some 3,.copy true (.const (.int .i64 0)),[],none⟩]
def F59r2 : List ROp := [⟨some 4,.copy false (.tmp 3),[],none⟩,
 ⟨some 5,.copy false (.tmp 0),[],none⟩,
 ⟨some 6,.len 1 (.tmp 5),[],none⟩,
 ⟨some 7,.bin .lss (.tmp 4) (.tmp 6),[],none⟩]
def F59r3 : List ROp := [⟨some 8,.copy false (.tmp 3),[],none⟩,
 ⟨some 9,.bin .add (.tmp 8) (.const (.int .i64 1)),[],none⟩,
 ⟨some 3,.copy true (.tmp 9),[],none⟩]
def F59r4 : List ROp := [⟨some 10,.copy false (.tmp 0),[],none⟩,
 ⟨some 11,.copy false (.tmp 3),[],none⟩,
 ⟨some 12,.idxs (.tmp 10) (.tmp 11),[],none⟩,
 ⟨some 13,.bin .eql (.tmp 12) (.const (.int .u8 46)),[],none⟩]
def F59r5 : List ROp := [⟨some 14,.copy false (.tmp 0),[],none⟩,
 ⟨some 15,.copy false (.tmp 3),[],none⟩,
 ⟨some 16,.subs (.tmp 14) none (some (.tmp 15)),[],none⟩,
 ⟨some 17,.call (.func 61) [.tmp 16],[],none⟩,
 ⟨some 18,.copy false (.tmp 17),[],none⟩,
 ⟨some 19,.copy false (.tmp 0),[],some (18,true)⟩,
 ⟨some 20,.copy false (.tmp 3),[],some (18,true)⟩,
 ⟨some 21,.bin .add (.tmp 20) (.const (.int .i64 1)),[],some (18,true)⟩,
 ⟨some 22,.subs (.tmp 19) (some (.tmp 21)) none,[],some (18,true)⟩,
 ⟨some 23,.call (.func 61) [.tmp 22],[],some (18,true)⟩,
 ⟨some 24,.pick (.tmp 18) (.tmp 23) (.const (.bool false)),[],none⟩,
 ⟨some 2,.copy true (.tmp 24),[],none⟩]
def F59r6 : List ROp := [⟨some 25,.copy false (.tmp 0),[],none⟩,
 ⟨some 26,.call (.func 61) [.tmp 25],[],none⟩,
 ⟨some 2,.copy true (.tmp 26),[],none⟩]
-- function 47: corollary/corollaryref06.Variable
def F47r0 : List ROp := [⟨some 2,.copy true (.const (.bool false)),[],none⟩]
def F47r1 : List ROp := [⟨some 3,.copy false (.tmp 0),[],none⟩,
 ⟨some 4,.bin .eql (.tmp 3) (.const (.string { data := #[] })),[],none⟩,
 ⟨some 5,.copy false (.tmp 4),[],none⟩,
 ⟨some 6,.copy false (.tmp 0),[],some (5,false)⟩,
 ⟨some 7,.len 1 (.tmp 6),[],some (5,false)⟩,
 ⟨some 8,.bin .gtr (.tmp 7) (.const (.int .i64 32)),[],some (5,false)⟩,
 ⟨some 9,.pick (.tmp 5) (.const (.bool true)) (.tmp 8),[],none⟩,
 ⟨some 10,.copy false (.tmp 9),[],none⟩,
 ⟨some 11,.copy false (.tmp 0),[],some (10,false)⟩,
 ⟨some 12,.idxs (.tmp 11) (.const (.int .i64 0)),[],some (10,false)⟩,
 ⟨some 13,.bin .lss (.tmp 12) (.const (.int .u8 65)),[],some (10,false)⟩,
 ⟨some 14,.pick (.tmp 10) (.const (.bool true)) (.tmp 13),[],none⟩,
 ⟨some 15,.copy false (.tmp 14),[],none⟩,
 ⟨some 16,.copy false (.tmp 0),[],some (15,false)⟩,
 ⟨some 17,.idxs (.tmp 16) (.const (.int .i64 0)),[],some (15,false)⟩,
 ⟨some 18,.bin .gtr (.tmp 17) (.const (.int .u8 90)),[],some (15,false)⟩,
 ⟨some 19,.pick (.tmp 15) (.const (.bool true)) (.tmp 18),[],none⟩]
def F47r2 : List ROp := [⟨some 2,.copy true (.const (.bool false)),[],none⟩]
def F47r3 : List ROp := [⟨some 20,.copy false (.tmp 0),[],none⟩,
 ⟨some 21,.subs (.tmp 20) (some (.const (.int .i64 1))) none,[],none⟩,
 ⟨some 22,.bin .add (.const (.string { data := #[97] })) (.tmp 21),[],none⟩,
 ⟨some 23,.call (.func 57) [.tmp 22],[],none⟩,
 ⟨some 2,.copy true (.tmp 23),[],none⟩]
-- function 72: corollary/corollaryref06.Function
def F72r0 : List ROp := [⟨some 2,.copy true (.const (.bool false)),[],none⟩]
def F72r1 : List ROp := [⟨some 3,.copy false (.tmp 0),[],none⟩,
 ⟨some 4,.bin .eql (.tmp 3) (.const (.string { data := #[110,101,103] })),[],none⟩,
 ⟨some 5,.copy false (.tmp 4),[],none⟩,
 ⟨some 6,.copy false (.tmp 0),[],some (5,false)⟩,
 ⟨some 7,.bin .eql (.tmp 6) (.const (.string { data := #[108,101,110] })),[],some (5,false)⟩,
 ⟨some 8,.pick (.tmp 5) (.const (.bool true)) (.tmp 7),[],none⟩,
 ⟨some 9,.copy false (.tmp 8),[],none⟩,
 ⟨some 10,.copy false (.tmp 0),[],some (9,false)⟩,
 ⟨some 11,.bin .eql (.tmp 10) (.const (.string { data := #[98,105,103] })),[],some (9,false)⟩,
 ⟨some 12,.pick (.tmp 9) (.const (.bool true)) (.tmp 11),[],none⟩,
 ⟨some 13,.copy false (.tmp 12),[],none⟩,
 ⟨some 14,.copy false (.tmp 0),[],some (13,false)⟩,
 ⟨some 15,.bin .eql (.tmp 14) (.const (.string { data := #[105,110,116] })),[],some (13,false)⟩,
 ⟨some 16,.pick (.tmp 13) (.const (.bool true)) (.tmp 15),[],none⟩,
 ⟨some 2,.copy true (.tmp 16),[],none⟩]
-- function 60: corollary/corollaryref06.Arity
def F60r0 : List ROp := [⟨some 2,.copy true (.const (.int .i64 0)),[],none⟩]
def F60r1 : List ROp := [⟨some 5,.bslice 9 1 [Value.string ByteArray.empty] 14 [(0,.const (.string { data := #[43] })),(1,.const (.string { data := #[45] })),(2,.const (.string { data := #[42] })),(3,.const (.string { data := #[47] })),(4,.const (.string { data := #[37] })),(5,.const (.string { data := #[43,43] })),(6,.const (.string { data := #[61,61] })),(7,.const (.string { data := #[33,61] })),(8,.const (.string { data := #[60] })),(9,.const (.string { data := #[60,61] })),(10,.const (.string { data := #[62] })),(11,.const (.string { data := #[62,61] })),(12,.const (.string { data := #[97,110,100] })),(13,.const (.string { data := #[111,114] }))],[],none⟩,
 ⟨some 3,.copy true (.tmp 5),[],none⟩]
def F60r2 : List ROp := [⟨some 4,.copy true (.const (.int .i64 0)),[],none⟩]
def F60r3 : List ROp := [⟨some 6,.copy false (.tmp 4),[],none⟩,
 ⟨some 7,.copy false (.tmp 3),[],none⟩,
 ⟨some 8,.len 0 (.tmp 7),[],none⟩,
 ⟨some 9,.bin .lss (.tmp 6) (.tmp 8),[],none⟩]
def F60r4 : List ROp := [⟨some 10,.copy false (.tmp 4),[],none⟩,
 ⟨some 11,.bin .add (.tmp 10) (.const (.int .i64 1)),[],none⟩,
 ⟨some 4,.copy true (.tmp 11),[],none⟩]
def F60r5 : List ROp := [⟨some 12,.copy false (.tmp 3),[],none⟩,
 ⟨some 13,.copy false (.tmp 4),[],none⟩,
 ⟨some 14,.iad 1 (.tmp 12) (.tmp 13),[],none⟩,
 ⟨some 15,.load 1 false false (.tmp 14),[],none⟩,
 ⟨some 16,.copy false (.tmp 0),[],none⟩,
 ⟨some 17,.bin .eql (.tmp 15) (.tmp 16),[],none⟩]
def F60r6 : List ROp := [⟨some 2,.copy true (.const (.int .i64 2)),[],none⟩]
def F60r7 : List ROp := [⟨some 18,.copy false (.tmp 0),[],none⟩,
 ⟨some 19,.bin .eql (.tmp 18) (.const (.string { data := #[110,111,116] })),[],none⟩,
 ⟨some 20,.copy false (.tmp 19),[],none⟩,
 ⟨some 21,.copy false (.tmp 0),[],some (20,false)⟩,
 ⟨some 22,.call (.func 72) [.tmp 21],[],some (20,false)⟩,
 ⟨some 23,.pick (.tmp 20) (.const (.bool true)) (.tmp 22),[],none⟩]
def F60r8 : List ROp := [⟨some 2,.copy true (.const (.int .i64 1)),[],none⟩]
def F60r9 : List ROp := [⟨some 2,.copy true (.const (.int .i64 0)),[],none⟩]
-- function 62: corollary/corollaryref06.none
def F62r0 : List ROp := [⟨some 1,.box 56 (.tmp 0),[],none⟩,
 ⟨some 2,.copy true (.const (.bool false)),[],none⟩]
def F62r1 : List ROp := [⟨some 3,.load 4 true false (.tmp 1),[],none⟩,
 ⟨some 4,.build [Value.int .u8 0,Value.int .i64 0,Value.string ByteArray.empty,Value.slice none 0 0] [],[],none⟩,
 ⟨some 5,.call (.func 52) [.tmp 3,.tmp 4],[],none⟩,
 ⟨some 2,.copy true (.tmp 5),[],none⟩]
-- function 48: corollary/corollaryref06.Depth
def F48r0 : List ROp := [⟨some 1,.box 58 (.tmp 0),[],none⟩,
 ⟨some 2,.copy true (.const (.int .i64 0)),[],none⟩]
def F48r1 : List ROp := [⟨some 3,.copy true (.const (.int .i64 0)),[],none⟩]
def F48r2 : List ROp := [⟨some 4,.copy true (.const (.int .i64 0)),[],none⟩]
def F48r3 : List ROp := [⟨some 5,.copy false (.tmp 4),[],none⟩,
 ⟨some 6,.fad 8 (.tmp 1),[],none⟩,
 ⟨some 7,.load 1 false false (.tmp 6),[],none⟩,
 ⟨some 8,.len 0 (.tmp 7),[],none⟩,
 ⟨some 9,.bin .lss (.tmp 5) (.tmp 8),[],none⟩]
def F48r4 : List ROp := [⟨some 10,.copy false (.tmp 4),[],none⟩,
 ⟨some 11,.bin .add (.tmp 10) (.const (.int .i64 1)),[],none⟩,
 ⟨some 4,.copy true (.tmp 11),[],none⟩]
def F48r5 : List ROp := [⟨some 12,.copy false (.tmp 3),[],none⟩,
 ⟨some 13,.fad 8 (.tmp 1),[],none⟩,
 ⟨some 14,.load 1 false false (.tmp 13),[],none⟩,
 ⟨some 15,.copy false (.tmp 4),[],none⟩,
 ⟨some 16,.iad 9 (.tmp 14) (.tmp 15),[],none⟩,
 ⟨some 17,.load 9 true false (.tmp 16),[],none⟩,
 ⟨some 18,.call (.func 48) [.tmp 17],[],none⟩,
 ⟨some 19,.mm true (.tmp 12) (.tmp 18),[],none⟩,
 ⟨some 3,.copy true (.tmp 19),[],none⟩]
def F48r6 : List ROp := [⟨some 20,.copy false (.tmp 3),[],none⟩,
 ⟨some 21,.bin .add (.tmp 20) (.const (.int .i64 1)),[],none⟩,
 ⟨some 2,.copy true (.tmp 21),[],none⟩]
attribute [local simp] valX encV_eq exprX encE_eq encTR encT texts
def exprB (e : ExprD) : Blk := .cells 58 [uval e.kind, ival e.line, ival e.col, sval e.name, uval e.v.kind, ival e.v.n, sval e.v.s, .rd 4 (e.v.l.map encV), .rd 9 (e.args.map encE)]
attribute [local simp] exprB
theorem reserved_drop (l : List ByteArray) (s : ByteArray) (k : Nat) (h : k < l.length) : ((l.drop k).any fun w => decide (w = s)) = (decide (l[k] = s) || ((l.drop (k + 1)).any fun w => decide (w = s))) := by rw [List.drop_eq_getElem_cons h, List.any_cons]
theorem Reserved_ok (s : ByteArray) : Con Tryz.prog 73 [sval s] (bval (reserved s)) := by
 refine Con.of_code Tryz.func73 (by kernel_rfl) rfl (by simp [Tryz.ntmps73]) fun C hC hM => ?_
 refine AWp.seq ?_
 refine AWp.regK [0] [true] F73r0 [] (by kernel_rfl) (by rw [hC]; rfl) fun K hK => ?_
 simp (maxSteps := 2000000) [F73r0]
 refine hK _ ?_
 refine AWp.seq ?_
 refine AWp.regK [0,3] [false,true] F73r1 [] (by kernel_rfl) (by rw [hC]; rfl) fun K hK => ?_
 simp (maxSteps := 2000000) [F73r1]
 (repeat refine ⟨by first | omega | (intros; omega) | assumption, ?_⟩); refine hK _ ?_
 refine AWp.seq ?_
 refine AWp.seq ?_
 refine AWp.regK [0,3,4] [true] F73r2 [] (by kernel_rfl) (by rw [hC]; rfl) fun K hK => ?_
 simp (maxSteps := 2000000) [F73r2]
 refine hK _ ?_
 refine AWp.block ?_
 refine AWp.loopG (fun k : Nat => { tm := [(0, sval s), (3, .own 9 1 (texts words)), (4, ival k)], hp := [] }) (fun k => k ≤ words.length ∧ reserved s = (words.drop k).any fun w => decide (w = s)) (fun k => words.length - k) 0 ⟨by omega, by simp [reserved]⟩ (by simp [words, chunk]; rfl) (fun k hk => ?_)
 obtain ⟨hk1, hk2⟩ := hk
 have hwl : words.length = 26 := rfl
 generalize words = l at hk1 hk2 hwl ⊢
 refine AWp.seq ?_
 refine AWp.seq ?_
 refine AWp.regK [0,3,4,9] [] F73r3 [] (by kernel_rfl) (by rw [hC]; rfl) fun K hK => ?_
 simp (maxSteps := 2000000) [F73r3]
 refine hK _ ?_
 refine AWp.cond _ (by rfl) (fun hlt => ?_) (fun hge => ?_)
 ·skip
  have hlt : k < l.length := by simpa using hlt
  rw [reserved_drop l s k hlt] at hk2
  refine AWp.skip ?_
  refine AWp.seq ?_
  refine AWp.block ?_
  refine AWp.seq ?_
  refine AWp.regK [0,3,4,17] [] F73r5 [] (by kernel_rfl) (by rw [hC]; rfl) fun K hK => ?_
  simp (maxSteps := 2000000) [F73r5, hlt]
  (repeat refine ⟨by first | omega | (intros; omega) | assumption, ?_⟩); refine hK _ ?_
  refine AWp.cond _ (by rfl) (fun hq => ?_) (fun hq => ?_)
  ·skip
   refine AWp.seq ?_
   refine AWp.regK [2] [true] F73r6 [] (by kernel_rfl) (by rw [hC]; rfl) fun K hK => ?_
   simp (maxSteps := 2000000) [F73r6]
   refine hK _ ?_
   repeat refine AWp.seq ?_
   refine AWp.ret ⟨.inr rfl, _, by simp [Tryz.results73] <;> rfl, ?_⟩
   refine .clos ?_ rfl
   rw [hk2, hq]; rfl
  refine AWp.skip ?_
  refine AWp.regK [0,3,4] [false,false,true] F73r4 [] (by kernel_rfl) (by rw [hC]; rfl) fun K hK => ?_
  simp (maxSteps := 2000000) [F73r4]
  (repeat refine ⟨by first | omega | (intros; omega) | assumption, ?_⟩); refine hK _ ?_
  refine ⟨k + 1, ⟨by omega, by rw [hk2, show decide (l[k] = s) = false by simpa using hq]; rfl⟩, by omega, ?_⟩
  simp [wrap_nat k (by omega)]
 have hge : ¬ k < l.length := by simpa using hge
 refine AWp.exit ?_
 refine AWp.seq ?_
 refine AWp.regK [2] [true] F73r7 [] (by kernel_rfl) (by rw [hC]; rfl) fun K hK => ?_
 simp (maxSteps := 2000000) [F73r7]
 refine hK _ ?_
 repeat refine AWp.seq ?_
 refine AWp.ret ⟨.inr rfl, _, by simp [Tryz.results73] <;> rfl, ?_⟩
 refine .clos ?_ rfl
 rw [hk2, List.drop_eq_nil_of_le (by omega)]; rfl
theorem NameR_ok (s : ByteArray) (hs : s.size ≤ 4194304) : Con Tryz.prog 61 [sval s] (bval (nameR s)) := by
 have h1 := Name_ok s hs
 have h2 := Reserved_ok s
 refine Con.of_code Tryz.func61 (by kernel_rfl) rfl (by simp [Tryz.ntmps61]) fun C hC hM => ?_
 refine AWp.seq ?_
 refine AWp.regK [0] [true] F61r0 [] (by kernel_rfl) (by rw [hC]; rfl) fun K hK => ?_
 simp (maxSteps := 2000000) [F61r0]
 refine hK _ ?_
 refine AWp.seq ?_
 refine AWp.regK [2] [false,false,false,false,false,false,false,true] F61r1 [{ r := bval (Name s) },{ r := bval (reserved s) }] (by kernel_rfl) (by rw [hC]; rfl) fun K hK => ?_
 simp (maxSteps := 2000000) [F61r1]
 (repeat first | refine ⟨by first | kernel_rfl | (intros; omega) | assumption, ?_⟩ | refine ⟨by intros; exact callOK rfl h1, ?_⟩ | refine ⟨by intros; exact callOK rfl h2, ?_⟩); refine hK _ ?_
 repeat refine AWp.seq ?_
 refine AWp.ret ⟨.inr rfl, _, by simp [Tryz.results61] <;> rfl, ?_⟩
 exact .clos (by simp [nameR]) rfl
theorem Long_ok (s : ByteArray) (hs : s.size ≤ 4194304) : Con Tryz.prog 59 [sval s] (bval (long s)) := by
 unfold long
 refine Con.of_code Tryz.func59 (by kernel_rfl) rfl (by simp [Tryz.ntmps59]) fun C hC hM => ?_
 have hdl := dotFrom_le s s.size 0 (by omega)
 refine AWp.seq ?_
 refine AWp.regK [0] [true] F59r0 [] (by kernel_rfl) (by rw [hC]; rfl) fun K hK => ?_
 simp (maxSteps := 2000000) [F59r0]
 refine hK _ ?_
 refine AWp.seq ?_
 refine AWp.seq ?_
 refine AWp.regK [0,3] [true] F59r1 [] (by kernel_rfl) (by rw [hC]; rfl) fun K hK => ?_
 simp (maxSteps := 2000000) [F59r1]
 refine hK _ ?_
 refine AWp.block ?_
 refine AWp.loopG (fun k : Nat => { tm := [(0, sval s), (3, ival k)], hp := [] }) (fun k => k ≤ s.size ∧ dotFrom s 0 = dotFrom s k) (fun k => s.size - k) 0 ⟨by omega, rfl⟩ (by simp) (fun k hk => ?_)
 obtain ⟨hk1, hk2⟩ := hk
 refine AWp.seq ?_
 refine AWp.seq ?_
 refine AWp.regK [0,3,7] [] F59r2 [] (by kernel_rfl) (by rw [hC]; rfl) fun K hK => ?_
 simp (maxSteps := 2000000) [F59r2]
 refine hK _ ?_
 refine AWp.cond _ (by rfl) (fun hlt => ?_) (fun hge => ?_)
 ·skip
  have hlt : k < s.size := by simpa using hlt
  have hst := dotFrom_step s k hlt
  refine AWp.skip ?_
  refine AWp.seq ?_
  refine AWp.block ?_
  refine AWp.seq ?_
  refine AWp.regK [0,3,13] [] F59r4 [] (by kernel_rfl) (by rw [hC]; rfl) fun K hK => ?_
  simp (maxSteps := 2000000) [F59r4, hlt]
  (repeat refine ⟨by first | omega | (intros; omega) | (intros; exact sz_pos (by assumption)) | assumption, ?_⟩); refine hK _ ?_
  refine AWp.cond _ (by rfl) (fun hd => ?_) (fun hd => ?_)
  ·skip
   have hd : chr s k = 46 := by simpa using hd
   rw [if_pos hd] at hst
   rw [hk2, hst, if_pos hlt]
   have hn1 := NameR_ok (s.extract 0 k) (by rw [← bl_len, bl_extract, List.length_take, List.length_drop, bl_len]; omega)
   have hn2 := NameR_ok (s.extract (k + 1) s.size) (by rw [← bl_len, bl_extract, List.length_take, List.length_drop, bl_len]; omega)
   refine AWp.seq ?_
   refine AWp.regK [2] [false,false,false,false,false,false,false,false,false,false,false,true] F59r5 [{ r := bval (nameR (s.extract 0 k)) },{ r := bval (nameR (s.extract (k + 1) s.size)) }] (by kernel_rfl) (by rw [hC]; rfl) fun K hK => ?_
   simp (maxSteps := 2000000) [F59r5, wrap_nat k (by omega)]
   (repeat first | refine ⟨by first | kernel_rfl | (intros; omega) | assumption, ?_⟩ | refine ⟨by intros; exact callOK rfl hn1, ?_⟩ | refine ⟨by intros; exact callOK rfl hn2, ?_⟩); refine hK _ ?_
   repeat refine AWp.seq ?_
   refine AWp.ret ⟨.inr rfl, _, by simp [Tryz.results59] <;> rfl, ?_⟩
   exact .closed rfl
  have hd : ¬ chr s k = 46 := by simpa using hd
  rw [if_neg hd] at hst
  refine AWp.skip ?_
  refine AWp.regK [0,3] [false,false,true] F59r3 [] (by kernel_rfl) (by rw [hC]; rfl) fun K hK => ?_
  simp (maxSteps := 2000000) [F59r3]
  (repeat refine ⟨by first | omega | (intros; omega) | assumption, ?_⟩); refine hK _ ?_
  refine ⟨k + 1, ⟨by omega, by rw [hk2, hst]⟩, by omega, ?_⟩
  simp [wrap_nat k (by omega)]
 have hge : ¬ k < s.size := by simpa using hge
 have hn := NameR_ok s hs
 refine AWp.exit ?_
 rw [hk2, dotFrom_end s k (by omega), if_neg hge]
 refine AWp.seq ?_
 refine AWp.regK [2] [false,false,true] F59r6 [{ r := bval (nameR s) }] (by kernel_rfl) (by rw [hC]; rfl) fun K hK => ?_
 simp (maxSteps := 2000000) [F59r6]
 (repeat first | refine ⟨by first | kernel_rfl | (intros; omega) | assumption, ?_⟩ | refine ⟨by intros; exact callOK rfl hn, ?_⟩); refine hK _ ?_
 repeat refine AWp.seq ?_
 refine AWp.ret ⟨.inr rfl, _, by simp [Tryz.results59] <;> rfl, ?_⟩
 exact .closed rfl
theorem var_name (s : ByteArray) (h : 0 < s.size) (h32 : s.size ≤ 32) (hu : upB (chr s 0) = true) : Name (⟨#[97]⟩ ++ s.extract 1 s.size) = allFrom nameB s 0 := by
 have hb : bl (⟨#[97]⟩ ++ s.extract 1 s.size) = 97 :: (bl s).drop 1 := by
  have h1 : bl (⟨#[97]⟩ ++ s.extract 1 s.size) = 97 :: bl (s.extract 1 s.size) := by
   unfold bl
   simp [ByteArray.data_append]
  rw [h1, bl_extract, List.take_of_length_le (by rw [List.length_drop, bl_len]; omega)]
 have hsz : (⟨#[97]⟩ ++ s.extract 1 s.size : ByteArray).size = s.size := by
  rw [← bl_len, hb, List.length_cons, List.length_drop, bl_len]; omega
 have hc : chr (⟨#[97]⟩ ++ s.extract 1 s.size) 0 = 97 := by
  rw [chr_eq _ 0 (by rw [bl_len]; omega)]
  simp [hb]
 have hn : nameB (chr s 0) = true := by
  unfold upB at hu
  unfold nameB
  simp at hu ⊢
  omega
 have hne : ¬ (⟨#[97]⟩ ++ s.extract 1 s.size : ByteArray) = ⟨#[]⟩ := by rw [size_zero, hsz]; omega
 have ha : allFrom nameB (⟨#[97]⟩ ++ s.extract 1 s.size) 0 = allFrom nameB s 0 := by
  rw [allFrom_step nameB s 0 h, hn, Bool.true_and]
  unfold allFrom
  rw [hb, List.drop_zero, List.all_cons]
  rfl
 unfold Name
 rw [hsz, hc, ha]
 simp [hne, h32, letterB]
theorem varB_pos {s : ByteArray} (h : varB s = true) : 0 < s.size := by
 unfold varB at h
 simp only [Bool.and_eq_true, Bool.not_eq_true', decide_eq_false_iff_not] at h
 exact size_pos h.1.1.1
theorem Variable_ok (s : ByteArray) (hs : s.size ≤ 4194304) : Con Tryz.prog 47 [sval s] (bval (varB s)) := by
 have hx : (s.extract 1 s.size).size ≤ s.size := by rw [← bl_len, bl_extract, List.length_take, List.length_drop, bl_len]; omega
 refine Con.of_code Tryz.func47 (by kernel_rfl) rfl (by simp [Tryz.ntmps47]) fun C hC hM => ?_
 refine AWp.seq ?_
 refine AWp.regK [0] [true] F47r0 [] (by kernel_rfl) (by rw [hC]; rfl) fun K hK => ?_
 simp (maxSteps := 2000000) [F47r0]
 refine hK _ ?_
 refine AWp.seq ?_
 refine AWp.seq ?_
 refine AWp.regK [0,19] [] F47r1 [] (by kernel_rfl) (by rw [hC]; rfl) fun K hK => ?_
 simp (maxSteps := 2000000) [F47r1]
 (repeat first | refine ⟨by first | kernel_rfl | (intros; omega) | assumption, ?_⟩ | refine ⟨fun h _ => size_pos h, ?_⟩ | refine ⟨fun h _ _ => size_pos h, ?_⟩); refine hK _ ?_
 refine AWp.cond _ (by rfl) (fun h1 => ?_) (fun h1 => ?_)
 ·skip
  refine AWp.seq ?_
  refine AWp.regK [2] [true] F47r2 [] (by kernel_rfl) (by rw [hC]; rfl) fun K hK => ?_
  simp (maxSteps := 2000000) [F47r2]
  refine hK _ ?_
  repeat refine AWp.seq ?_
  refine AWp.ret ⟨.inr rfl, _, by simp [Tryz.results47] <;> rfl, ?_⟩
  refine .clos ?_ rfl
  have : varB s = false := by
   unfold varB
   by_cases a : s = ⟨#[]⟩
   ·simp [a]
   ·by_cases b : (32 : Int) < s.size
    ·simp [show ¬ s.size ≤ 32 by omega]
    ·simp [a, b] at h1
     have : upB (chr s 0) = false := by unfold upB; simp; omega
     simp [this]
  rw [this]; rfl
 have h2 : 0 < s.size ∧ s.size ≤ 32 ∧ upB (chr s 0) = true := by
  by_cases a : s = ⟨#[]⟩
  ·simp [a] at h1
  ·by_cases b : (32 : Int) < s.size
   ·simp [a, b] at h1
   ·simp [a, b] at h1
    refine ⟨size_pos a, by omega, ?_⟩
    unfold upB
    simp
    omega
 obtain ⟨h2, h3, h4⟩ := h2
 have hv : varB s = Name (⟨#[97]⟩ ++ s.extract 1 s.size) := by
  rw [var_name s h2 h3 h4]
  unfold varB
  simp [h3, h4, show ¬ s = ⟨#[]⟩ from fun e => by rw [size_zero.1 e] at h2; omega]
 rw [hv]
 have hsz : (⟨#[97]⟩ ++ s.extract 1 s.size : ByteArray).size ≤ 4194304 := by
  rw [ByteArray.size_append]
  show 1 + _ ≤ _
  omega
 have hz1 : (⟨#[97]⟩ : ByteArray).size + (s.size - 1) ≤ 4611686018427387904 := by
  show 1 + _ ≤ _
  omega
 have hn := Name_ok (⟨#[97]⟩ ++ s.extract 1 s.size) hsz
 refine AWp.skip ?_
 refine AWp.seq ?_
 refine AWp.regK [2] [false,false,false,false,true] F47r3 [{ r := bval (Name (⟨#[97]⟩ ++ s.extract 1 s.size)) }] (by kernel_rfl) (by rw [hC]; rfl) fun K hK => ?_
 simp (maxSteps := 2000000) [F47r3]
 (repeat first | refine ⟨by first | kernel_rfl | (intros; omega) | assumption, ?_⟩ | refine ⟨by intros; exact hz1, ?_⟩ | refine ⟨by intros; exact callOK rfl hn, ?_⟩); refine hK _ ?_
 repeat refine AWp.seq ?_
 refine AWp.ret ⟨.inr rfl, _, by simp [Tryz.results47] <;> rfl, ?_⟩
 exact .closed rfl
theorem Function_ok (s : ByteArray) : Con Tryz.prog 72 [sval s] (bval (function s)) := by
 refine Con.of_code Tryz.func72 (by kernel_rfl) rfl (by simp [Tryz.ntmps72]) fun C hC hM => ?_
 refine AWp.seq ?_
 refine AWp.regK [0] [true] F72r0 [] (by kernel_rfl) (by rw [hC]; rfl) fun K hK => ?_
 simp (maxSteps := 2000000) [F72r0]
 refine hK _ ?_
 refine AWp.seq ?_
 refine AWp.regK [2] [false,false,false,false,false,false,false,false,false,false,false,false,false,false,true] F72r1 [] (by kernel_rfl) (by rw [hC]; rfl) fun K hK => ?_
 simp (maxSteps := 2000000) [F72r1]
 (repeat refine ⟨by first | omega | (intros; omega) | assumption, ?_⟩); refine hK _ ?_
 repeat refine AWp.seq ?_
 refine AWp.ret ⟨.inr rfl, _, by simp [Tryz.results72] <;> rfl, ?_⟩
 refine .clos ?_ rfl
 unfold function tNeg tLen tBig tInt
 by_cases a1 : s = ⟨#[110, 101, 103]⟩ <;> by_cases a2 : s = ⟨#[108, 101, 110]⟩ <;> by_cases a3 : s = ⟨#[98, 105, 103]⟩ <;> by_cases a4 : s = ⟨#[105, 110, 116]⟩ <;> simp [a1, a2, a3, a4]
theorem ops_drop (l : List ByteArray) (s : ByteArray) (k : Nat) (h : k < l.length) : ((l.drop k).any fun w => decide (w = s)) = (decide (l[k] = s) || ((l.drop (k + 1)).any fun w => decide (w = s))) := by rw [List.drop_eq_getElem_cons h, List.any_cons]
theorem Arity_ok (s : ByteArray) : Con Tryz.prog 60 [sval s] (ival (arity s)) := by
 have hf := Function_ok s
 refine Con.of_code Tryz.func60 (by kernel_rfl) rfl (by simp [Tryz.ntmps60]) fun C hC hM => ?_
 refine AWp.seq ?_
 refine AWp.regK [0] [true] F60r0 [] (by kernel_rfl) (by rw [hC]; rfl) fun K hK => ?_
 simp (maxSteps := 2000000) [F60r0]
 refine hK _ ?_
 refine AWp.seq ?_
 refine AWp.regK [0,3] [false,true] F60r1 [] (by kernel_rfl) (by rw [hC]; rfl) fun K hK => ?_
 simp (maxSteps := 2000000) [F60r1]
 (repeat refine ⟨by first | omega | (intros; omega) | assumption, ?_⟩); refine hK _ ?_
 refine AWp.seq ?_
 refine AWp.seq ?_
 refine AWp.regK [0,3,4] [true] F60r2 [] (by kernel_rfl) (by rw [hC]; rfl) fun K hK => ?_
 simp (maxSteps := 2000000) [F60r2]
 refine hK _ ?_
 refine AWp.block ?_
 refine AWp.loopG (fun k : Nat => { tm := [(0, sval s), (3, .own 9 1 (texts ops)), (4, ival k)], hp := [] }) (fun k => k ≤ ops.length ∧ isOp s = (ops.drop k).any fun w => decide (w = s)) (fun k => ops.length - k) 0 ⟨by omega, by simp [isOp]⟩ (by simp [ops, chunk]; rfl) (fun k hk => ?_)
 obtain ⟨hk1, hk2⟩ := hk
 have hwl : ops.length = 14 := rfl
 have ha : arity s = if isOp s = true then 2 else if (decide (s = tNot) || function s) = true then 1 else 0 := rfl
 generalize arity s = r at ha ⊢
 generalize isOp s = io at hk2 ha
 generalize ops = l at hk1 hk2 hwl ⊢
 refine AWp.seq ?_
 refine AWp.seq ?_
 refine AWp.regK [0,3,4,9] [] F60r3 [] (by kernel_rfl) (by rw [hC]; rfl) fun K hK => ?_
 simp (maxSteps := 2000000) [F60r3]
 refine hK _ ?_
 refine AWp.cond _ (by rfl) (fun hlt => ?_) (fun hge => ?_)
 ·skip
  have hlt : k < l.length := by simpa using hlt
  rw [ops_drop l s k hlt] at hk2
  refine AWp.skip ?_
  refine AWp.seq ?_
  refine AWp.block ?_
  refine AWp.seq ?_
  refine AWp.regK [0,3,4,17] [] F60r5 [] (by kernel_rfl) (by rw [hC]; rfl) fun K hK => ?_
  simp (maxSteps := 2000000) [F60r5, hlt]
  (repeat refine ⟨by first | omega | (intros; omega) | assumption, ?_⟩); refine hK _ ?_
  refine AWp.cond _ (by rfl) (fun hq => ?_) (fun hq => ?_)
  ·skip
   refine AWp.seq ?_
   refine AWp.regK [2] [true] F60r6 [] (by kernel_rfl) (by rw [hC]; rfl) fun K hK => ?_
   simp (maxSteps := 2000000) [F60r6]
   refine hK _ ?_
   repeat refine AWp.seq ?_
   refine AWp.ret ⟨.inr rfl, _, by simp [Tryz.results60] <;> rfl, ?_⟩
   refine .clos ?_ rfl
   rw [ha, hk2, hq]; rfl
  refine AWp.skip ?_
  refine AWp.regK [0,3,4] [false,false,true] F60r4 [] (by kernel_rfl) (by rw [hC]; rfl) fun K hK => ?_
  simp (maxSteps := 2000000) [F60r4]
  (repeat refine ⟨by first | omega | (intros; omega) | assumption, ?_⟩); refine hK _ ?_
  refine ⟨k + 1, ⟨by omega, by rw [hk2, show decide (l[k] = s) = false by simpa using hq]; rfl⟩, by omega, ?_⟩
  simp [wrap_nat k (by omega)]
 have hge : ¬ k < l.length := by simpa using hge
 rw [List.drop_eq_nil_of_le (by omega)] at hk2
 refine AWp.exit ?_
 refine AWp.seq ?_
 refine AWp.seq ?_
 refine AWp.regK [23] [] F60r7 [{ r := bval (function s) }] (by kernel_rfl) (by rw [hC]; rfl) fun K hK => ?_
 simp (maxSteps := 2000000) [F60r7]
 (repeat first | refine ⟨by first | kernel_rfl | (intros; omega) | assumption, ?_⟩ | refine ⟨by intros; exact callOK rfl hf, ?_⟩); refine hK _ ?_
 refine AWp.cond _ (by rfl) (fun h1 => ?_) (fun h1 => ?_)
 ·skip
  refine AWp.seq ?_
  refine AWp.regK [2] [true] F60r8 [] (by kernel_rfl) (by rw [hC]; rfl) fun K hK => ?_
  simp (maxSteps := 2000000) [F60r8]
  refine hK _ ?_
  repeat refine AWp.seq ?_
  refine AWp.ret ⟨.inr rfl, _, by simp [Tryz.results60] <;> rfl, ?_⟩
  refine .clos ?_ rfl
  rw [ha, hk2]
  have : (decide (s = tNot) || function s) = true := by simp [tNot] at h1 ⊢; revert h1; by_cases a : s = ⟨#[110, 111, 116]⟩ <;> simp [a]
  rw [this]; rfl
 refine AWp.skip ?_
 refine AWp.seq ?_
 refine AWp.regK [2] [true] F60r9 [] (by kernel_rfl) (by rw [hC]; rfl) fun K hK => ?_
 simp (maxSteps := 2000000) [F60r9]
 refine hK _ ?_
 repeat refine AWp.seq ?_
 refine AWp.ret ⟨.inr rfl, _, by simp [Tryz.results60] <;> rfl, ?_⟩
 refine .clos ?_ rfl
 rw [ha, hk2]
 have : (decide (s = tNot) || function s) = false := by simp [tNot] at h1 ⊢; revert h1; by_cases a : s = ⟨#[110, 111, 116]⟩ <;> simp [a]
 rw [this]; rfl
theorem same_none (v : ValD) : sameV v (.mk 0 0 .empty []) = noneV v := by
 cases v with
 | mk k n s l =>
  rw [sameV_eq]
  cases l with
  | nil => simp [sameVs, noneV, ValD.kind, ValD.n, ValD.s, ValD.l]; rfl
  | cons a l => simp [sameVs, noneV, ValD.kind, ValD.n, ValD.s, ValD.l]
theorem none_ok (v : ValD) (hv : vsize v ≤ 4194304) : Con Tryz.prog 62 [valX v] (bval (noneV v)) := by
 have h := Same'_ok v (.mk 0 0 .empty []) hv (by decide)
 simp only [valX, ValD.kind, ValD.n, ValD.s, ValD.l, List.map_nil] at h
 have h2 : Con Tryz.prog 52 [valX v, .agg [uval 0, ival 0, sval .empty, .val (.slice none 0 0)]] (bval (sameV v (.mk 0 0 .empty []))) := h.args (.cons (.refl _) (.cons (.agg (.cons (.refl _) (.cons (.refl _) (.cons (.refl _) (.cons (.nil _) .nil))))) .nil))
 refine Con.of_code Tryz.func62 (by kernel_rfl) rfl (by simp [Tryz.ntmps62]) fun C hC hM => ?_
 refine AWp.seq ?_
 refine AWp.regK [1] [false,true] F62r0 [] (by kernel_rfl) (by rw [hC]; rfl) fun K hK => ?_
 simp (maxSteps := 2000000) [F62r0]
 refine hK _ ?_
 refine AWp.seq ?_
 refine AWp.regK [2] [false,false,false,true] F62r1 [{ r := bval (sameV v (.mk 0 0 .empty [])) }] (by kernel_rfl) (by rw [hC]; rfl) fun K hK => ?_
 simp (maxSteps := 2000000) [F62r1]
 (repeat first | refine ⟨by first | kernel_rfl | (intros; omega) | assumption, ?_⟩ | refine ⟨by intros; exact callOK rfl h2, ?_⟩); refine hK _ ?_
 repeat refine AWp.seq ?_
 refine AWp.ret ⟨.inr rfl, _, by simp [Tryz.results62] <;> rfl, ?_⟩
 exact .clos (by rw [same_none]; rfl) rfl
theorem Depth_e : ∀ (n : Nat) (e : ExprD), esize e < n → esize e ≤ 4194304 → Con Tryz.prog 48 [exprX e] (ival (depthE e)) := by
 intro n
 induction n with
 | zero => intro e h; omega
 | succ n ih =>
  intro e hn hv
  have hsz := esize_eq e
  have hlen := esizes_len e.args
  have hde := depthE_eq e
  refine Con.of_code Tryz.func48 (by kernel_rfl) rfl (by simp [Tryz.ntmps48]) fun C hC hM => ?_
  refine AWp.seq ?_
  refine AWp.regK [1] [false,true] F48r0 [] (by kernel_rfl) (by rw [hC]; rfl) fun K hK => ?_
  simp (maxSteps := 2000000) [F48r0]
  refine hK _ ?_
  refine AWp.seq ?_
  refine AWp.regK [1,3] [true] F48r1 [] (by kernel_rfl) (by rw [hC]; rfl) fun K hK => ?_
  simp (maxSteps := 2000000) [F48r1]
  refine hK _ ?_
  refine AWp.seq ?_
  refine AWp.seq ?_
  refine AWp.regK [1,3,4] [true] F48r2 [] (by kernel_rfl) (by rw [hC]; rfl) fun K hK => ?_
  simp (maxSteps := 2000000) [F48r2]
  refine hK _ ?_
  refine AWp.block ?_
  refine AWp.loopG (fun k : Nat => { tm := [(1, .ptr 1 0), (3, ival (depthsE (e.args.take k))), (4, ival k)], hp := [(1, exprB e)] }) (fun k => k ≤ e.args.length) (fun k => e.args.length - k) 0 (by omega) (by simp [depthsE]) (fun k hk => ?_)
  refine AWp.seq ?_
  refine AWp.seq ?_
  refine AWp.regK [1,3,4,9] [] F48r3 [] (by kernel_rfl) (by rw [hC]; rfl) fun K hK => ?_
  simp (maxSteps := 2000000) [F48r3]
  refine hK _ ?_
  refine AWp.cond _ (by rfl) (fun hlt => ?_) (fun hge => ?_)
  ·skip
   have hlt : k < e.args.length := by simpa using hlt
   have hm := esize_mem (List.getElem_mem hlt)
   have hc := ih e.args[k] (by omega) (by omega)
   refine AWp.skip ?_
   refine AWp.seq ?_
   refine AWp.block ?_
   refine AWp.regK [1,3,4] [false,false,false,false,false,false,false,false,true] F48r5 [{ r := ival (depthE e.args[k]) }] (by kernel_rfl) (by rw [hC]; rfl) fun K hK => ?_
   simp (maxSteps := 2000000) [F48r5, hlt]
   (repeat first | refine ⟨by first | kernel_rfl | (intros; omega) | assumption, ?_⟩ | refine ⟨by intros; exact callOK rfl hc, ?_⟩); refine hK _ ?_
   refine AWp.regK [1,3,4] [false,false,true] F48r4 [] (by kernel_rfl) (by rw [hC]; rfl) fun K hK => ?_
   simp (maxSteps := 2000000) [F48r4]
   (repeat refine ⟨by first | omega | (intros; omega) | assumption, ?_⟩); refine hK _ ?_
   refine ⟨k + 1, by omega, by omega, ?_⟩
   have hd := depthsE_take e.args k hlt
   generalize depthsE (List.take k e.args) = a at hd ⊢
   simp [wrap_nat k (by omega), hd]
   split <;> omega
  have hge : ¬ k < e.args.length := by simpa using hge
  have hdl := depthsE_le e.args
  refine AWp.exit ?_
  refine AWp.seq ?_
  refine AWp.regK [2] [false,false,true] F48r6 [] (by kernel_rfl) (by rw [hC]; rfl) fun K hK => ?_
  simp (maxSteps := 2000000) [F48r6]
  (repeat refine ⟨by first | omega | (intros; omega) | assumption, ?_⟩); refine hK _ ?_
  repeat refine AWp.seq ?_
  refine AWp.ret ⟨.inr rfl, _, by simp [Tryz.results48] <;> rfl, ?_⟩
  refine .clos ?_ rfl
  rw [List.take_of_length_le (by omega), hde]
  simp [wrap_nat (depthsE e.args) (by omega)]
