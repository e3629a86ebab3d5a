/- How much a plan weighs; copies. -/
import Derived.Test.YtdobngcdgkallaaGreatDoorAlA
import Derived.Test.YtdobngcdgkallaaGreatDoorAlSp
set_option linter.unusedSimpArgs false
set_option linter.unusedVariables false
set_option linter.unusedSectionVars false
open Go Go.Aw Go.Proofs
namespace Go.Al
set_option maxRecDepth 20000
-- function 23: corollary/corollarylaw19.values
def F23r0 : List ROp := [⟨some 2,.copy true (.const (.int .i64 0)),[],none⟩]
def F23r1 : List ROp := [⟨some 5,.copy false (.tmp 0),[],none⟩,
 ⟨some 6,.len 0 (.tmp 5),[],none⟩,
 ⟨some 3,.copy true (.tmp 6),[],none⟩]
def F23r2 : List ROp := [⟨some 4,.copy true (.const (.int .i64 0)),[],none⟩]
def F23r3 : List ROp := [⟨some 7,.copy false (.tmp 4),[],none⟩,
 ⟨some 8,.copy false (.tmp 0),[],none⟩,
 ⟨some 9,.len 0 (.tmp 8),[],none⟩,
 ⟨some 10,.bin .lss (.tmp 7) (.tmp 9),[],none⟩,
 ⟨some 11,.copy false (.tmp 10),[],none⟩,
 ⟨some 12,.copy false (.tmp 3),[],some (11,true)⟩,
 ⟨some 13,.bin .lss (.tmp 12) (.const (.int .i64 3000)),[],some (11,true)⟩,
 ⟨some 14,.pick (.tmp 11) (.tmp 13) (.const (.bool false)),[],none⟩]
def F23r4 : List ROp := [⟨some 15,.copy false (.tmp 4),[],none⟩,
 ⟨some 16,.bin .add (.tmp 15) (.const (.int .i64 1)),[],none⟩,
 ⟨some 4,.copy true (.tmp 16),[],none⟩]
def F23r5 : List ROp := [⟨some 17,.copy false (.tmp 3),[],none⟩,
 ⟨some 18,.copy false (.tmp 0),[],none⟩,
 ⟨some 19,.copy false (.tmp 4),[],none⟩,
 ⟨some 20,.iad 4 (.tmp 18) (.tmp 19),[1,2],none⟩,
 ⟨some 21,.fad 2 (.tmp 20),[3],none⟩,
 ⟨some 22,.load 1 false false (.tmp 21),[4],none⟩,
 ⟨some 23,.len 1 (.tmp 22),[5],none⟩,
 ⟨some 24,.bin .quo (.tmp 23) (.const (.int .i64 64)),[6],none⟩,
 ⟨some 25,.bin .add (.tmp 17) (.tmp 24),[0,7],none⟩,
 ⟨some 26,.copy false (.tmp 0),[],none⟩,
 ⟨some 27,.copy false (.tmp 4),[],none⟩,
 ⟨some 28,.iad 4 (.tmp 26) (.tmp 27),[9,10],none⟩,
 ⟨some 29,.fad 3 (.tmp 28),[11],none⟩,
 ⟨some 30,.load 1 false false (.tmp 29),[12],none⟩,
 ⟨some 31,.call (.func 23) [.tmp 30],[13],none⟩,
 ⟨some 32,.bin .add (.tmp 25) (.tmp 31),[8,14],none⟩,
 ⟨some 3,.copy true (.tmp 32),[15,14,0,1,2,3,4,5,6,7,8,9,10,11,12,13,14,15],none⟩]
def F23r6 : List ROp := [⟨some 33,.copy true (.tmp 3),[],none⟩,
 ⟨some 2,.copy true (.tmp 33),[],none⟩]
-- function 11: corollary/corollarylaw19.exprs
def F11r0 : List ROp := [⟨some 2,.copy true (.const (.int .i64 0)),[],none⟩]
def F11r1 : List ROp := [⟨some 5,.copy false (.tmp 0),[],none⟩,
 ⟨some 6,.len 0 (.tmp 5),[],none⟩,
 ⟨some 3,.copy true (.tmp 6),[],none⟩]
def F11r2 : List ROp := [⟨some 4,.copy true (.const (.int .i64 0)),[],none⟩]
def F11r3 : List ROp := [⟨some 7,.copy false (.tmp 4),[],none⟩,
 ⟨some 8,.copy false (.tmp 0),[],none⟩,
 ⟨some 9,.len 0 (.tmp 8),[],none⟩,
 ⟨some 10,.bin .lss (.tmp 7) (.tmp 9),[],none⟩,
 ⟨some 11,.copy false (.tmp 10),[],none⟩,
 ⟨some 12,.copy false (.tmp 3),[],some (11,true)⟩,
 ⟨some 13,.bin .lss (.tmp 12) (.const (.int .i64 1000)),[],some (11,true)⟩,
 ⟨some 14,.pick (.tmp 11) (.tmp 13) (.const (.bool false)),[],none⟩]
def F11r4 : List ROp := [⟨some 15,.copy false (.tmp 4),[],none⟩,
 ⟨some 16,.bin .add (.tmp 15) (.const (.int .i64 1)),[],none⟩,
 ⟨some 4,.copy true (.tmp 16),[],none⟩]
def F11r5 : List ROp := [⟨some 17,.copy false (.tmp 3),[],none⟩,
 ⟨some 18,.copy false (.tmp 0),[],none⟩,
 ⟨some 19,.copy false (.tmp 4),[],none⟩,
 ⟨some 20,.iad 9 (.tmp 18) (.tmp 19),[1,2],none⟩,
 ⟨some 21,.fad 8 (.tmp 20),[3],none⟩,
 ⟨some 22,.load 1 false false (.tmp 21),[4],none⟩,
 ⟨some 23,.call (.func 11) [.tmp 22],[5],none⟩,
 ⟨some 24,.bin .add (.tmp 17) (.tmp 23),[0,6],none⟩,
 ⟨some 25,.copy false (.tmp 0),[],none⟩,
 ⟨some 26,.copy false (.tmp 4),[],none⟩,
 ⟨some 27,.iad 9 (.tmp 25) (.tmp 26),[8,9],none⟩,
 ⟨some 28,.fad 4 (.tmp 27),[10],none⟩,
 ⟨some 29,.load 4 true false (.tmp 28),[11],none⟩,
 ⟨some 30,.bslice 56 4 [Value.int .u8 0,Value.int .i64 0,Value.string ByteArray.empty,Value.slice none 0 0] 1 [(0,.tmp 29)],[12],none⟩,
 ⟨some 31,.call (.func 23) [.tmp 30],[13,6],none⟩,
 ⟨some 32,.bin .add (.tmp 24) (.tmp 31),[7,14],none⟩,
 ⟨some 3,.copy true (.tmp 32),[15,14,0,1,2,3,4,5,6,7,8,9,10,11,12,13,14,15],none⟩]
def F11r6 : List ROp := [⟨some 33,.copy true (.tmp 3),[],none⟩,
 ⟨some 2,.copy true (.tmp 33),[],none⟩]
-- function 4: corollary/corollarylaw19.weight
def F4r0 : List ROp := [⟨some 1,.box 26 (.tmp 0),[],none⟩,
 ⟨some 2,.copy true (.const (.int .i64 0)),[],none⟩]
def F4r1 : List ROp := [⟨some 5,.fad 3 (.tmp 1),[],none⟩,
 ⟨some 6,.load 1 false false (.tmp 5),[0],none⟩,
 ⟨some 7,.call (.func 11) [.tmp 6],[1],none⟩,
 ⟨some 8,.bin .add (.const (.int .i64 1)) (.tmp 7),[2],none⟩,
 ⟨some 9,.fad 4 (.tmp 1),[],none⟩,
 ⟨some 10,.load 1 false false (.tmp 9),[4],none⟩,
 ⟨some 11,.len 0 (.tmp 10),[5],none⟩,
 ⟨some 12,.bin .add (.tmp 8) (.tmp 11),[3,6],none⟩,
 ⟨some 3,.copy true (.tmp 12),[7,2,0,1,2,3,4,5,6,7],none⟩]
def F4r2 : List ROp := [⟨some 4,.copy true (.const (.int .i64 0)),[],none⟩]
def F4r3 : List ROp := [⟨some 13,.copy false (.tmp 4),[],none⟩,
 ⟨some 14,.fad 5 (.tmp 1),[],none⟩,
 ⟨some 15,.load 1 false false (.tmp 14),[],none⟩,
 ⟨some 16,.len 0 (.tmp 15),[],none⟩,
 ⟨some 17,.bin .lss (.tmp 13) (.tmp 16),[],none⟩,
 ⟨some 18,.copy false (.tmp 17),[],none⟩,
 ⟨some 19,.copy false (.tmp 3),[],some (18,true)⟩,
 ⟨some 20,.bin .lss (.tmp 19) (.const (.int .i64 300)),[],some (18,true)⟩,
 ⟨some 21,.pick (.tmp 18) (.tmp 20) (.const (.bool false)),[],none⟩]
def F4r4 : List ROp := [⟨some 22,.copy false (.tmp 4),[],none⟩,
 ⟨some 23,.bin .add (.tmp 22) (.const (.int .i64 1)),[],none⟩,
 ⟨some 4,.copy true (.tmp 23),[],none⟩]
def F4r5 : List ROp := [⟨some 24,.copy false (.tmp 3),[],none⟩,
 ⟨some 25,.fad 5 (.tmp 1),[],none⟩,
 ⟨some 26,.load 1 false false (.tmp 25),[],none⟩,
 ⟨some 27,.copy false (.tmp 4),[],none⟩,
 ⟨some 28,.iad 6 (.tmp 26) (.tmp 27),[],none⟩,
 ⟨some 29,.load 6 true false (.tmp 28),[],none⟩,
 ⟨some 30,.call (.func 4) [.tmp 29],[],none⟩,
 ⟨some 31,.bin .add (.tmp 24) (.tmp 30),[],none⟩,
 ⟨some 3,.copy true (.tmp 31),[],none⟩]
def F4r6 : List ROp := [⟨some 32,.copy true (.tmp 3),[],none⟩,
 ⟨some 2,.copy true (.tmp 32),[],none⟩]
-- function 15: corollary/corollarylaw19.copied
def F15r0 : List ROp := [⟨some 2,.copy true (.const (.slice none 0 0)),[],none⟩]
def F15r1 : List ROp := [⟨some 3,.copy true (.const (.slice none 0 0)),[],none⟩]
def F15r2 : List ROp := [⟨some 4,.copy true (.const (.int .i64 0)),[],none⟩]
def F15r3 : List ROp := [⟨some 6,.copy false (.tmp 4),[],none⟩,
 ⟨some 7,.copy false (.tmp 0),[],none⟩,
 ⟨some 8,.len 0 (.tmp 7),[],none⟩,
 ⟨some 9,.bin .lss (.tmp 6) (.tmp 8),[],none⟩]
def F15r4 : List ROp := [⟨some 10,.copy false (.tmp 4),[],none⟩,
 ⟨some 11,.bin .add (.tmp 10) (.const (.int .i64 1)),[],none⟩,
 ⟨some 4,.copy true (.tmp 11),[],none⟩]
def F15r5 : List ROp := [⟨some 12,.copy false (.tmp 0),[],none⟩,
 ⟨some 13,.copy false (.tmp 4),[],none⟩,
 ⟨some 14,.iad 9 (.tmp 12) (.tmp 13),[],none⟩,
 ⟨some 15,.load 9 true false (.tmp 14),[],none⟩,
 ⟨some 5,.alloc 58 [Value.int .u8 0,Value.int .i64 0,Value.int .i64 0,Value.string ByteArray.empty,Value.int .u8 0,Value.int .i64 0,Value.string ByteArray.empty,Value.slice none 0 0,Value.slice none 0 0],[],none⟩,
 ⟨none,.store 9 true (.tmp 5) (.tmp 15),[],none⟩]
def F15r6 : List ROp := [⟨some 16,.copy false (.tmp 0),[],none⟩,
 ⟨some 17,.copy false (.tmp 4),[],none⟩,
 ⟨some 18,.iad 9 (.tmp 16) (.tmp 17),[],none⟩,
 ⟨some 19,.fad 8 (.tmp 18),[],none⟩,
 ⟨some 20,.load 1 false false (.tmp 19),[],none⟩,
 ⟨some 21,.call (.func 15) [.tmp 20],[],none⟩,
 ⟨some 22,.fad 8 (.tmp 5),[],none⟩,
 ⟨none,.store 1 true (.tmp 22) (.tmp 21),[],none⟩]
def F15r7 : List ROp := [⟨some 23,.copy true (.tmp 3),[],none⟩,
 ⟨some 24,.load 9 true false (.tmp 5),[],none⟩,
 ⟨some 25,.bslice 58 9 [Value.int .u8 0,Value.int .i64 0,Value.int .i64 0,Value.string ByteArray.empty,Value.int .u8 0,Value.int .i64 0,Value.string ByteArray.empty,Value.slice none 0 0,Value.slice none 0 0] 1 [(0,.tmp 24)],[],none⟩,
 ⟨some 26,.app 58 9 120 (.tmp 23) (.tmp 25),[],none⟩,
 ⟨some 3,.copy true (.tmp 26),[],none⟩]
def F15r8 : List ROp := [⟨some 27,.copy true (.tmp 3),[],none⟩,
 ⟨some 2,.copy true (.tmp 27),[],none⟩]
-- function 6: corollary/corollarylaw19.to
def F6r0 : List ROp := [⟨some 1,.box 26 (.tmp 0),[],none⟩,
 ⟨some 2,.alloc 33 [Value.int .u8 0,Value.string ByteArray.empty,Value.string ByteArray.empty,Value.slice none 0 0,Value.slice none 0 0,Value.slice none 0 0],[],none⟩]
def F6r1 : List ROp := [⟨some 5,.fad 0 (.tmp 1),[],none⟩,
 ⟨some 6,.load 1 false false (.tmp 5),[0],none⟩,
 ⟨some 7,.fad 1 (.tmp 1),[],none⟩,
 ⟨some 8,.load 1 false false (.tmp 7),[2],none⟩,
 ⟨some 9,.fad 2 (.tmp 1),[],none⟩,
 ⟨some 10,.load 1 false false (.tmp 9),[4],none⟩,
 ⟨some 11,.fad 3 (.tmp 1),[],none⟩,
 ⟨some 12,.load 1 false false (.tmp 11),[6],none⟩,
 ⟨some 13,.call (.func 15) [.tmp 12],[7],none⟩,
 ⟨some 14,.bslice 9 1 [Value.string ByteArray.empty] 0 [],[],none⟩,
 ⟨some 15,.fad 4 (.tmp 1),[],none⟩,
 ⟨some 16,.load 1 false false (.tmp 15),[10],none⟩,
 ⟨some 17,.app 9 1 16 (.tmp 14) (.tmp 16),[9,11,8],none⟩,
 ⟨some 18,.build [Value.int .u8 0,Value.string ByteArray.empty,Value.string ByteArray.empty,Value.slice none 0 0,Value.slice none 0 0,Value.slice none 0 0] [(0,1,.tmp 6),(1,1,.tmp 8),(2,1,.tmp 10),(3,1,.tmp 13),(4,1,.tmp 17)],[1,3,5,8,12],none⟩,
 ⟨some 3,.alloc 33 [Value.int .u8 0,Value.string ByteArray.empty,Value.string ByteArray.empty,Value.slice none 0 0,Value.slice none 0 0,Value.slice none 0 0],[],none⟩,
 ⟨none,.store 6 true (.tmp 3) (.tmp 18),[14,13,12,0,1,2,3,4,5,6,7,8,9,10,11,12,13,14],none⟩]
def F6r2 : List ROp := [⟨some 4,.copy true (.const (.int .i64 0)),[],none⟩]
def F6r3 : List ROp := [⟨some 19,.copy false (.tmp 4),[],none⟩,
 ⟨some 20,.fad 5 (.tmp 1),[],none⟩,
 ⟨some 21,.load 1 false false (.tmp 20),[],none⟩,
 ⟨some 22,.len 0 (.tmp 21),[],none⟩,
 ⟨some 23,.bin .lss (.tmp 19) (.tmp 22),[],none⟩]
def F6r4 : List ROp := [⟨some 24,.copy false (.tmp 4),[],none⟩,
 ⟨some 25,.bin .add (.tmp 24) (.const (.int .i64 1)),[],none⟩,
 ⟨some 4,.copy true (.tmp 25),[],none⟩]
def F6r5 : List ROp := [⟨some 26,.fad 5 (.tmp 3),[],none⟩,
 ⟨some 27,.load 1 false true (.tmp 26),[0],none⟩,
 ⟨some 28,.fad 5 (.tmp 1),[],none⟩,
 ⟨some 29,.load 1 false false (.tmp 28),[2],none⟩,
 ⟨some 30,.copy false (.tmp 4),[],none⟩,
 ⟨some 31,.iad 6 (.tmp 29) (.tmp 30),[3,4],none⟩,
 ⟨some 32,.load 6 true false (.tmp 31),[5],none⟩,
 ⟨some 33,.call (.func 6) [.tmp 32],[6],none⟩,
 ⟨some 34,.bslice 33 6 [Value.int .u8 0,Value.string ByteArray.empty,Value.string ByteArray.empty,Value.slice none 0 0,Value.slice none 0 0,Value.slice none 0 0] 1 [(0,.tmp 33)],[7],none⟩,
 ⟨some 35,.app 33 6 112 (.tmp 27) (.tmp 34),[1,8,7],none⟩,
 ⟨some 36,.fad 5 (.tmp 3),[0,1,2,3,4,5,6,7,8,9],none⟩,
 ⟨none,.store 1 true (.tmp 36) (.tmp 35),[10,9,9,0,1,2,3,4,5,6,7,8,9],none⟩]
def F6r6 : List ROp := [⟨some 37,.load 6 true false (.tmp 3),[],none⟩,
 ⟨none,.store 6 true (.tmp 2) (.tmp 37),[],none⟩]
attribute [local simp] valX encV_eq
theorem mtake {α β : Type} (f : α → β) (l : List α) (k : Nat) (h : k < l.length) : (l.map f).take (k + 1) = (l.map f).take k ++ [f l[k]] := by
 rw [← List.map_take, List.take_succ_eq_append_getElem h, List.map_append, ← List.map_take]; rfl
theorem mtake_all {α β : Type} (f : α → β) (l : List α) (k : Nat) (h : ¬ k < l.length) : (l.map f).take k = l.map f := List.take_of_length_le (by simp; omega)
theorem values_ok : ∀ (n : Nat) (l : List ValD), vsizes l < n → vsizes l ≤ 4194304 → Con Tryz.prog 23 [encRow l] (ival (valuesN l)) := by
 intro n
 induction n with
 | zero => intro l h; omega
 | succ n ih =>
  intro l hn hl
  have hlen := vsizes_len l
  have hle := valuesN_le l
  refine Con.of_code Tryz.func23 (by kernel_rfl) rfl (by simp [Tryz.ntmps23]) fun C hC hM => ?_
  refine AWp.seq ?_
  refine AWp.regK [0] [true] F23r0 [] (by kernel_rfl) (by rw [hC]; rfl) fun K hK => ?_
  simp (maxSteps := 2000000) [F23r0]
  refine hK _ ?_
  refine AWp.seq ?_
  refine AWp.regK [0,3] [false,false,true] F23r1 [] (by kernel_rfl) (by rw [hC]; rfl) fun K hK => ?_
  simp (maxSteps := 2000000) [F23r1]
  refine hK _ ?_
  refine AWp.seq ?_
  refine AWp.seq ?_
  refine AWp.regK [0,3,4] [true] F23r2 [] (by kernel_rfl) (by rw [hC]; rfl) fun K hK => ?_
  simp (maxSteps := 2000000) [F23r2]
  refine hK _ ?_
  refine AWp.block ?_
  refine AWp.loopG (fun x : Nat × Nat => { tm := [(0, encRow l), (3, ival x.2), (4, ival x.1)], hp := [] }) (fun x => x.1 ≤ l.length ∧ valuesN l = vNs (l.drop x.1) x.2) (fun x => l.length - x.1) (0, l.length) ⟨by omega, by simp [valuesN]⟩ (by simp) (fun x hk => ?_)
  obtain ⟨k, m⟩ := x
  obtain ⟨hk1, hk2⟩ := hk
  simp only at hk1 hk2
  have hge := vNs_ge (l.drop k) m
  refine AWp.seq ?_
  refine AWp.seq ?_
  refine AWp.regK [0,3,4,14] [] F23r3 [] (by kernel_rfl) (by rw [hC]; rfl) fun K hK => ?_
  simp (maxSteps := 2000000) [F23r3]
  (repeat refine ⟨by first | omega | (intros; omega) | assumption, ?_⟩); refine hK _ ?_
  refine AWp.cond _ (by rfl) (fun hlt => ?_) (fun hlt => ?_)
  ·skip
   have hlt2 : k < l.length ∧ m < 3000 := by simp at hlt; omega
   clear hlt
   obtain ⟨hlt, hm3⟩ := hlt2
   have hd := vNs_drop l k m hlt
   rw [if_pos hm3, vN_eq] at hd
   have hm := vsize_mem (List.getElem_mem hlt)
   have hsz := vsize_eq l[k]
   have hc := ih l[k].l (by omega) (by omega)
   have hcl := valuesN_le l[k].l
   have hw1 : IntKind.i64.wrap ((l[k].s.size : Int) / 64) = ((l[k].s.size / 64 : Nat) : Int) := by rw [wrap_in (by omega) (by omega)]; omega
   refine AWp.skip ?_
   refine AWp.seq ?_
   refine AWp.block ?_
   refine AWp.regKL ops_mixed [[],[],[],[1,2],[1,2,3],[1,2,3,4],[1,2,3,4,5],[1,2,3,4,5,6],[0,1,2,3,4,5,6,7],[],[],[9,10],[9,10,11],[9,10,11,12],[9,10,11,12,13],[0,1,2,3,4,5,6,7,8,9,10,11,12,13,14],[0,1,2,3,4,5,6,7,8,9,10,11,12,13,14,15]] [0,3,4] [false,false,false,false,false,false,false,false,false,false,false,false,false,false,false,false,true] F23r5 [{ r := ival (valuesN l[k].l) }] (by kernel_rfl) (by rw [hC]; rfl) (by kernel_rfl) (by kernel_rfl) fun K hK => ?_
   simp (maxSteps := 2000000) [F23r5, hlt, hw1]
   (repeat first | refine ⟨by first | kernel_rfl | (intros; omega) | assumption, ?_⟩ | refine ⟨by intros; exact callOK rfl hc, ?_⟩); refine hK _ ?_
   refine AWp.regK [0,3,4] [false,false,true] F23r4 [] (by kernel_rfl) (by rw [hC]; rfl) fun K hK => ?_
   simp (maxSteps := 2000000) [F23r4]
   (repeat refine ⟨by first | omega | (intros; omega) | assumption, ?_⟩); refine hK _ ?_
   refine ⟨(k + 1, m + l[k].s.size / 64 + valuesN l[k].l), ⟨by simp; omega, by rw [hk2, hd]; simp [valuesN, Nat.add_assoc]⟩, by simp; omega, ?_⟩
   have hw2 : IntKind.i64.wrap ((m : Int) + (l[k].s.size : Int) / 64) = ((m + l[k].s.size / 64 : Nat) : Int) := by rw [wrap_in (by omega) (by omega)]; omega
   have hw3 : IntKind.i64.wrap (((m + l[k].s.size / 64 : Nat) : Int) + (valuesN l[k].l : Int)) = ((m + l[k].s.size / 64 + valuesN l[k].l : Nat) : Int) := by rw [wrap_in (by omega) (by omega)]; omega
   simp only [hw2, hw3]
   simp [wrap_nat k (by omega)]
  refine AWp.exit ?_
  refine AWp.seq ?_
  refine AWp.regK [2] [true,true] F23r6 [] (by kernel_rfl) (by rw [hC]; rfl) fun K hK => ?_
  simp (maxSteps := 2000000) [F23r6]
  refine hK _ ?_
  repeat refine AWp.seq ?_
  refine AWp.ret ⟨.inr rfl, _, by simp [Tryz.results23] <;> rfl, ?_⟩
  refine .clos ?_ rfl
  rw [hk2]
  by_cases h : k < l.length
  ·rw [vNs_drop l k m h, if_neg (by simp [h] at hlt; omega)]; rfl
  ·rw [List.drop_eq_nil_of_le (by omega)]; rfl
theorem values'_ok (l : List ValD) (hl : vsizes l ≤ 4194304) : Con Tryz.prog 23 [encRow l] (ival (valuesN l)) := values_ok _ l (Nat.lt_succ_self _) hl
attribute [local simp] encE_eq
def encER (l : List ExprD) : AV := .rd 9 (l.map encE)
attribute [simp] encER
theorem exprs_ok : ∀ (n : Nat) (l : List ExprD), esizes l < n → esizes l ≤ 4194304 → Con Tryz.prog 11 [encER l] (ival (exprsN l)) := by
 intro n
 induction n with
 | zero => intro l h; omega
 | succ n ih =>
  intro l hn hl
  have hlen := esizes_len l
  have hle := exprsN_le l
  refine Con.of_code Tryz.func11 (by kernel_rfl) rfl (by simp [Tryz.ntmps11]) fun C hC hM => ?_
  refine AWp.seq ?_
  refine AWp.regK [0] [true] F11r0 [] (by kernel_rfl) (by rw [hC]; rfl) fun K hK => ?_
  simp (maxSteps := 2000000) [F11r0]
  refine hK _ ?_
  refine AWp.seq ?_
  refine AWp.regK [0,3] [false,false,true] F11r1 [] (by kernel_rfl) (by rw [hC]; rfl) fun K hK => ?_
  simp (maxSteps := 2000000) [F11r1]
  refine hK _ ?_
  refine AWp.seq ?_
  refine AWp.seq ?_
  refine AWp.regK [0,3,4] [true] F11r2 [] (by kernel_rfl) (by rw [hC]; rfl) fun K hK => ?_
  simp (maxSteps := 2000000) [F11r2]
  refine hK _ ?_
  refine AWp.block ?_
  refine AWp.loopG (fun x : Nat × Nat => { tm := [(0, encER l), (3, ival x.2), (4, ival x.1)], hp := [] }) (fun x => x.1 ≤ l.length ∧ exprsN l = eNs (l.drop x.1) x.2) (fun x => l.length - x.1) (0, l.length) ⟨by omega, by simp [exprsN]⟩ (by simp) (fun x hk => ?_)
  obtain ⟨k, m⟩ := x
  obtain ⟨hk1, hk2⟩ := hk
  simp only at hk1 hk2
  have hge := eNs_ge (l.drop k) m
  refine AWp.seq ?_
  refine AWp.seq ?_
  refine AWp.regK [0,3,4,14] [] F11r3 [] (by kernel_rfl) (by rw [hC]; rfl) fun K hK => ?_
  simp (maxSteps := 2000000) [F11r3]
  (repeat refine ⟨by first | omega | (intros; omega) | assumption, ?_⟩); refine hK _ ?_
  refine AWp.cond _ (by rfl) (fun hlt => ?_) (fun hlt => ?_)
  ·skip
   have hlt2 : k < l.length ∧ m < 1000 := by simp at hlt; omega
   clear hlt
   obtain ⟨hlt, hm3⟩ := hlt2
   have hd := eNs_drop l k m hlt
   rw [if_pos hm3, eN_eq] at hd
   have hm := esize_mem (List.getElem_mem hlt)
   have hsz := esize_eq l[k]
   have hvs : vsizes [l[k].v] = vsize l[k].v := by simp [vsizes]
   have hc := ih l[k].args (by omega) (by omega)
   have hcl := exprsN_le l[k].args
   have hv := values'_ok [l[k].v] (by omega)
   simp only [encRow, List.map_cons, List.map_nil, encV_eq, uval, ival, sval] at hv
   have hvl := valuesN_le [l[k].v]
   refine AWp.skip ?_
   refine AWp.seq ?_
   refine AWp.block ?_
   refine AWp.regKL ops_mixed [[],[],[],[1,2],[1,2,3],[1,2,3,4],[1,2,3,4,5],[0,1,2,3,4,5,6],[],[],[8,9],[8,9,10],[8,9,10,11],[8,9,10,11,12],[1,2,3,4,5,6,8,9,10,11,12,13],[0,1,2,3,4,5,6,7,8,9,10,11,12,13,14],[0,1,2,3,4,5,6,7,8,9,10,11,12,13,14,15]] [0,3,4] [false,false,false,false,false,false,false,false,false,false,false,false,false,false,false,false,true] F11r5 [{ r := ival (exprsN l[k].args) },{ r := ival (valuesN [l[k].v]) }] (by kernel_rfl) (by rw [hC]; rfl) (by kernel_rfl) (by kernel_rfl) fun K hK => ?_
   simp (maxSteps := 2000000) [F11r5, hlt]
   (repeat first | refine ⟨by first | kernel_rfl | (intros; omega) | assumption, ?_⟩ | refine ⟨by intros; exact callOK rfl hc, ?_⟩ | refine ⟨by intros; exact callWk rfl (by repeat (first | exact WkL.nil | refine WkL.cons (by first | exact Wk.refl _ | exact Wk.nil _ | exact Wk.own (WkR.refl _)) ?_)) hv, ?_⟩); refine hK _ ?_
   refine AWp.regK [0,3,4] [false,false,true] F11r4 [] (by kernel_rfl) (by rw [hC]; rfl) fun K hK => ?_
   simp (maxSteps := 2000000) [F11r4]
   (repeat refine ⟨by first | omega | (intros; omega) | assumption, ?_⟩); refine hK _ ?_
   refine ⟨(k + 1, m + (exprsN l[k].args + valuesN [l[k].v])), ⟨by simp; omega, by rw [hk2, hd]; simp [exprsN]⟩, by simp; omega, ?_⟩
   have hw2 : IntKind.i64.wrap ((m : Int) + (exprsN l[k].args : Int)) = ((m + exprsN l[k].args : Nat) : Int) := by rw [wrap_in (by omega) (by omega)]; omega
   have hw3 : IntKind.i64.wrap (((m + exprsN l[k].args : Nat) : Int) + (valuesN [l[k].v] : Int)) = ((m + (exprsN l[k].args + valuesN [l[k].v]) : Nat) : Int) := by rw [wrap_in (by omega) (by omega)]; omega
   simp only [hw2, hw3]
   simp [wrap_nat k (by omega)]
  refine AWp.exit ?_
  refine AWp.seq ?_
  refine AWp.regK [2] [true,true] F11r6 [] (by kernel_rfl) (by rw [hC]; rfl) fun K hK => ?_
  simp (maxSteps := 2000000) [F11r6]
  refine hK _ ?_
  repeat refine AWp.seq ?_
  refine AWp.ret ⟨.inr rfl, _, by simp [Tryz.results11] <;> rfl, ?_⟩
  refine .clos ?_ rfl
  rw [hk2]
  by_cases h : k < l.length
  ·rw [eNs_drop l k m h, if_neg (by simp [h] at hlt; omega)]; rfl
  ·rw [List.drop_eq_nil_of_le (by omega)]; rfl
theorem exprs'_ok (l : List ExprD) (hl : esizes l ≤ 4194304) : Con Tryz.prog 11 [encER l] (ival (exprsN l)) := exprs_ok _ l (Nat.lt_succ_self _) hl
def exprX (e : ExprD) : AV := .agg [uval e.kind, ival e.line, ival e.col, sval e.name, uval e.v.kind, ival e.v.n, sval e.v.s, .rd 4 (e.v.l.map encV), .rd 9 (e.args.map encE)]
def planX (p : PlanD) : AV := .agg [uval p.op, sval p.rel, sval p.name, .rd 9 (p.args.map encE), .rd 1 (texts p.aggs), .rd 6 (p.ins.map encP)]
attribute [local simp] exprX planX encP_eq
theorem weight_ok : ∀ (n : Nat) (p : PlanD), psize p < n → psize p ≤ 4194304 → Con Tryz.prog 4 [planX p] (ival (wN p)) := by
 intro n
 induction n with
 | zero => intro p h; omega
 | succ n ih =>
  intro p hn hl
  have hlen := psizes_len p.ins
  have hle := wN_le p
  have hsz := psize_eq p
  have hel := exprsN_le p.args
  have htl := tsizes_len p.aggs
  have he := exprs'_ok p.args (by omega)
  refine Con.of_code Tryz.func4 (by kernel_rfl) rfl (by simp [Tryz.ntmps4]) fun C hC hM => ?_
  refine AWp.seq ?_
  refine AWp.regK [1] [false,true] F4r0 [] (by kernel_rfl) (by rw [hC]; rfl) fun K hK => ?_
  simp (maxSteps := 2000000) [F4r0]
  refine hK _ ?_
  refine AWp.seq ?_
  refine AWp.regKL ops_mixed [[],[0],[0,1],[0,1,2],[],[4],[4,5],[0,1,2,3,4,5,6],[0,1,2,3,4,5,6,7]] [1,3] [false,false,false,false,false,false,false,false,true] F4r1 [{ r := ival (exprsN p.args) }] (by kernel_rfl) (by rw [hC]; rfl) (by kernel_rfl) (by kernel_rfl) fun K hK => ?_
  simp (maxSteps := 2000000) [F4r1]
  (repeat first | refine ⟨by first | kernel_rfl | (intros; omega) | assumption, ?_⟩ | refine ⟨by intros; exact callOK rfl he, ?_⟩); refine hK _ ?_
  refine AWp.seq ?_
  refine AWp.seq ?_
  refine AWp.regK [1,3,4] [true] F4r2 [] (by kernel_rfl) (by rw [hC]; rfl) fun K hK => ?_
  simp (maxSteps := 2000000) [F4r2]
  refine hK _ ?_
  refine AWp.block ?_
  have hw0 : IntKind.i64.wrap (1 + (exprsN p.args : Int)) = ((1 + exprsN p.args : Nat) : Int) := by rw [wrap_in (by omega) (by omega)]; omega
  have hw1 : IntKind.i64.wrap (((1 + exprsN p.args : Nat) : Int) + (p.aggs.length : Int)) = ((1 + exprsN p.args + p.aggs.length : Nat) : Int) := by rw [wrap_in (by omega) (by omega)]; omega
  have hw2 : IntKind.i64.wrap ((1 + (exprsN p.args : Int)) + (p.aggs.length : Int)) = ((1 + exprsN p.args + p.aggs.length : Nat) : Int) := by rw [wrap_in (by omega) (by omega)]; omega
  refine AWp.loopG (fun x : Nat × Nat => { tm := [(1, .ptr 1 0), (3, ival x.2), (4, ival x.1)], hp := [(1, .cells 26 [uval p.op, sval p.rel, sval p.name, .rd 9 (p.args.map encE), .rd 1 (texts p.aggs), .rd 6 (p.ins.map encP)])] }) (fun x => x.1 ≤ p.ins.length ∧ wN p = wNs (p.ins.drop x.1) x.2) (fun x => p.ins.length - x.1) (0, 1 + exprsN p.args + p.aggs.length) ⟨by omega, by simp [wN_eq]⟩ (by simp [hw0, hw2]) (fun x hk => ?_)
  obtain ⟨k, m⟩ := x
  obtain ⟨hk1, hk2⟩ := hk
  simp only at hk1 hk2
  have hge := wNs_ge (p.ins.drop k) m
  refine AWp.seq ?_
  refine AWp.seq ?_
  refine AWp.regK [1,3,4,21] [] F4r3 [] (by kernel_rfl) (by rw [hC]; rfl) fun K hK => ?_
  simp (maxSteps := 2000000) [F4r3]
  (repeat refine ⟨by first | omega | (intros; omega) | assumption, ?_⟩); refine hK _ ?_
  refine AWp.cond _ (by rfl) (fun hlt => ?_) (fun hlt => ?_)
  ·skip
   have hlt2 : k < p.ins.length ∧ m < 300 := by simp at hlt; omega
   clear hlt
   obtain ⟨hlt, hm3⟩ := hlt2
   have hd := wNs_drop p.ins k m hlt
   rw [if_pos hm3] at hd
   have hm := psize_mem (List.getElem_mem hlt)
   have hc := ih p.ins[k] (by omega) (by omega)
   have hcl := wN_le p.ins[k]
   refine AWp.skip ?_
   refine AWp.seq ?_
   refine AWp.block ?_
   refine AWp.regK [1,3,4] [false,false,false,false,false,false,false,false,true] F4r5 [{ r := ival (wN p.ins[k]) }] (by kernel_rfl) (by rw [hC]; rfl) fun K hK => ?_
   simp (maxSteps := 2000000) [F4r5, hlt]
   (repeat first | refine ⟨by first | kernel_rfl | (intros; omega) | assumption, ?_⟩ | refine ⟨by intros; exact callOK rfl hc, ?_⟩); refine hK _ ?_
   refine AWp.regK [1,3,4] [false,false,true] F4r4 [] (by kernel_rfl) (by rw [hC]; rfl) fun K hK => ?_
   simp (maxSteps := 2000000) [F4r4]
   (repeat refine ⟨by first | omega | (intros; omega) | assumption, ?_⟩); refine hK _ ?_
   refine ⟨(k + 1, m + wN p.ins[k]), ⟨by simp; omega, by rw [hk2, hd]⟩, by simp; omega, ?_⟩
   have hw2 : IntKind.i64.wrap ((m : Int) + (wN p.ins[k] : Int)) = ((m + wN p.ins[k] : Nat) : Int) := by rw [wrap_in (by omega) (by omega)]; omega
   simp only [hw2]
   simp [wrap_nat k (by omega)]
  refine AWp.exit ?_
  refine AWp.seq ?_
  refine AWp.regK [2] [true,true] F4r6 [] (by kernel_rfl) (by rw [hC]; rfl) fun K hK => ?_
  simp (maxSteps := 2000000) [F4r6]
  refine hK _ ?_
  repeat refine AWp.seq ?_
  refine AWp.ret ⟨.inr rfl, _, by simp [Tryz.results4] <;> rfl, ?_⟩
  refine .clos ?_ rfl
  rw [hk2]
  by_cases h : k < p.ins.length
  ·rw [wNs_drop p.ins k m h, if_neg (by simp [h] at hlt; omega)]; rfl
  ·rw [List.drop_eq_nil_of_le (by omega)]; rfl
theorem weight'_ok (p : PlanD) (hl : psize p ≤ 4194304) : Con Tryz.prog 4 [planX p] (ival (wN p)) := weight_ok _ p (Nat.lt_succ_self _) hl
attribute [local simp] encE_eq
theorem copied_ok : ∀ (n : Nat) (l : List ExprD), esizes l < n → esizes l ≤ 4194304 → Con Tryz.prog 15 [encER l] (encER l) := by
 intro n
 induction n with
 | zero => intro l h; omega
 | succ n ih =>
  intro l hn hl
  have hlen := esizes_len l
  refine Con.of_code Tryz.func15 (by kernel_rfl) rfl (by simp [Tryz.ntmps15]) fun C hC hM => ?_
  refine AWp.seq ?_
  refine AWp.regK [0] [true] F15r0 [] (by kernel_rfl) (by rw [hC]; rfl) fun K hK => ?_
  simp (maxSteps := 2000000) [F15r0]
  refine hK _ ?_
  refine AWp.seq ?_
  refine AWp.regK [0,3] [true] F15r1 [] (by kernel_rfl) (by rw [hC]; rfl) fun K hK => ?_
  simp (maxSteps := 2000000) [F15r1]
  refine hK _ ?_
  refine AWp.seq ?_
  refine AWp.seq ?_
  refine AWp.regK [0,3,4] [true] F15r2 [] (by kernel_rfl) (by rw [hC]; rfl) fun K hK => ?_
  simp (maxSteps := 2000000) [F15r2]
  refine hK _ ?_
  refine AWp.block ?_
  refine AWp.loopG (fun k : Nat => { tm := [(0, encER l), (3, .own 58 9 ((l.map encE).take k)), (4, ival k)], hp := [] }) (fun k => k ≤ l.length) (fun k => l.length - k) 0 (by omega) (by simp) (fun k hk => ?_)
  refine AWp.seq ?_
  refine AWp.seq ?_
  refine AWp.regK [0,3,4,9] [] F15r3 [] (by kernel_rfl) (by rw [hC]; rfl) fun K hK => ?_
  simp (maxSteps := 2000000) [F15r3]
  refine hK _ ?_
  refine AWp.cond _ (by rfl) (fun hlt => ?_) (fun hge => ?_)
  ·skip
   have hlt : k < l.length := by simpa using hlt
   have hm := esize_mem (List.getElem_mem hlt)
   have hsz := esize_eq l[k]
   have hc := ih l[k].args (by omega) (by omega)
   refine AWp.skip ?_
   refine AWp.seq ?_
   refine AWp.block ?_
   refine AWp.seq ?_
   refine AWp.regK [0,3,4,5] [false,false,false,false,false,true] F15r5 [] (by kernel_rfl) (by rw [hC]; rfl) fun K hK => ?_
   simp (maxSteps := 2000000) [F15r5, hlt]
   (repeat refine ⟨by first | omega | (intros; omega) | assumption, ?_⟩); refine hK _ ?_
   refine AWp.seq ?_
   refine AWp.regK [0,3,4,5] [false,false,false,false,false,false,false,true] F15r6 [{ r := encER l[k].args }] (by kernel_rfl) (by rw [hC]; rfl) fun K hK => ?_
   simp (maxSteps := 2000000) [F15r6, hlt]
   (repeat first | refine ⟨by first | kernel_rfl | (intros; omega) | assumption, ?_⟩ | refine ⟨by intros; exact callOK rfl hc, ?_⟩); refine hK _ ?_
   have hln : (List.take k (List.map encE l)).length ≤ 4194304 := by rw [List.length_take]; omega
   refine AWp.regK [0,3,4] [true,false,false,false,true] F15r7 [] (by kernel_rfl) (by rw [hC]; rfl) fun K hK => ?_
   simp (maxSteps := 2000000) [F15r7]
   (repeat refine ⟨by first | omega | (intros; omega) | assumption, ?_⟩); refine hK _ ?_
   refine AWp.regK [0,3,4] [false,false,true] F15r4 [] (by kernel_rfl) (by rw [hC]; rfl) fun K hK => ?_
   simp (maxSteps := 2000000) [F15r4]
   (repeat refine ⟨by first | omega | (intros; omega) | assumption, ?_⟩); refine hK _ ?_
   refine ⟨k + 1, by omega, by omega, ?_⟩
   rw [mtake encE l k hlt]
   generalize List.take k (List.map encE l) = cur
   simp [wrap_nat k (by omega)]
  have hge : ¬ k < l.length := by simpa using hge
  refine AWp.exit ?_
  refine AWp.seq ?_
  refine AWp.regK [2] [true,true] F15r8 [] (by kernel_rfl) (by rw [hC]; rfl) fun K hK => ?_
  simp (maxSteps := 2000000) [F15r8]
  refine hK _ ?_
  repeat refine AWp.seq ?_
  refine AWp.ret ⟨.inr rfl, _, by simp [Tryz.results15] <;> rfl, ?_⟩
  rw [mtake_all encE l k hge]
  exact .own
theorem copied'_ok (l : List ExprD) (hl : esizes l ≤ 4194304) : Con Tryz.prog 15 [encER l] (encER l) := copied_ok _ l (Nat.lt_succ_self _) hl
attribute [local simp] encP_eq
theorem to_ok : ∀ (n : Nat) (p : PlanD), psize p < n → psize p ≤ 4194304 → Con Tryz.prog 6 [planX p] (planX p) := by
 intro n
 induction n with
 | zero => intro p h; omega
 | succ n ih =>
  intro p hn hl
  have hlen := psizes_len p.ins
  have hsz := psize_eq p
  have htl := tsizes_len p.aggs
  have he := copied'_ok p.args (by omega)
  refine Con.of_code Tryz.func6 (by kernel_rfl) rfl (by simp [Tryz.ntmps6]) fun C hC hM => ?_
  refine AWp.seq ?_
  refine AWp.regK [1,2] [] F6r0 [] (by kernel_rfl) (by rw [hC]; rfl) fun K hK => ?_
  simp (maxSteps := 2000000) [F6r0]
  refine hK _ ?_
  refine AWp.seq ?_
  refine AWp.regKL ops_mixed [[],[0],[],[2],[],[4],[],[6],[6,7],[],[],[10],[6,7,8,9,10,11],[0,1,2,3,4,5,6,7,8,9,10,11,12],[],[0,1,2,3,4,5,6,7,8,9,10,11,12,13,14]] [1,2,3] [false,false,false,false,false,false,false,false,false,false,false,false,false,false,false,true] F6r1 [{ r := encER p.args }] (by kernel_rfl) (by rw [hC]; rfl) (by kernel_rfl) (by kernel_rfl) fun K hK => ?_
  simp (maxSteps := 2000000) [F6r1]
  (repeat first | refine ⟨by first | kernel_rfl | (intros; omega) | assumption, ?_⟩ | refine ⟨by intros; exact callOK rfl he, ?_⟩); refine hK _ ?_
  refine AWp.seq ?_
  refine AWp.seq ?_
  refine AWp.regK [1,2,3,4] [true] F6r2 [] (by kernel_rfl) (by rw [hC]; rfl) fun K hK => ?_
  simp (maxSteps := 2000000) [F6r2]
  refine hK _ ?_
  refine AWp.block ?_
  refine AWp.loopG (fun k : Nat => { tm := [(1, .ptr 1 0), (2, .ptr 2 0), (3, .ptr 3 0), (4, ival k)], hp := [(1, .cells 26 [uval p.op, sval p.rel, sval p.name, .rd 9 (p.args.map encE), .rd 1 (texts p.aggs), .rd 6 (p.ins.map encP)]), (2, .cells 33 [uval 0, sval .empty, sval .empty, .val (.slice none 0 0), .val (.slice none 0 0), .val (.slice none 0 0)]), (3, .cells 33 [uval p.op, sval p.rel, sval p.name, .rd 9 (p.args.map encE), .rd 1 (texts p.aggs), .own 33 6 ((p.ins.map encP).take k)])] }) (fun k => k ≤ p.ins.length) (fun k => p.ins.length - k) 0 (by omega) (by simp) (fun k hk => ?_)
  refine AWp.seq ?_
  refine AWp.seq ?_
  refine AWp.regK [1,2,3,4,23] [] F6r3 [] (by kernel_rfl) (by rw [hC]; rfl) fun K hK => ?_
  simp (maxSteps := 2000000) [F6r3]
  refine hK _ ?_
  refine AWp.cond _ (by rfl) (fun hlt => ?_) (fun hge => ?_)
  ·skip
   have hlt : k < p.ins.length := by simpa using hlt
   have hm := psize_mem (List.getElem_mem hlt)
   have hc := ih p.ins[k] (by omega) (by omega)
   have hln : (List.take k (List.map encP p.ins)).length ≤ 4194304 := by rw [List.length_take]; omega
   refine AWp.skip ?_
   refine AWp.seq ?_
   refine AWp.block ?_
   refine AWp.regKL ops_mixed [[],[0],[],[2],[],[2,3,4],[2,3,4,5],[2,3,4,5,6],[2,3,4,5,6,7],[0,1,2,3,4,5,6,7,8],[0,1,2,3,4,5,6,7,8,9],[0,1,2,3,4,5,6,7,8,9,10]] [1,2,3,4] [false,true,false,false,false,false,false,false,false,false,false,true] F6r5 [{ r := planX p.ins[k] }] (by kernel_rfl) (by rw [hC]; rfl) (by kernel_rfl) (by kernel_rfl) fun K hK => ?_
   simp (maxSteps := 2000000) [F6r5, hlt]
   (repeat first | refine ⟨by first | kernel_rfl | (intros; omega) | assumption, ?_⟩ | refine ⟨by intros; exact callOK rfl hc, ?_⟩); refine hK _ ?_
   refine AWp.regK [1,2,3,4] [false,false,true] F6r4 [] (by kernel_rfl) (by rw [hC]; rfl) fun K hK => ?_
   simp (maxSteps := 2000000) [F6r4]
   (repeat refine ⟨by first | omega | (intros; omega) | assumption, ?_⟩); refine hK _ ?_
   refine ⟨k + 1, by omega, by omega, ?_⟩
   rw [mtake encP p.ins k hlt]
   generalize List.take k (List.map encP p.ins) = cur
   simp [wrap_nat k (by omega)]
  have hge : ¬ k < p.ins.length := by simpa using hge
  refine AWp.exit ?_
  refine AWp.seq ?_
  refine AWp.regK [2] [false,true] F6r6 [] (by kernel_rfl) (by rw [hC]; rfl) fun K hK => ?_
  simp (maxSteps := 2000000) [F6r6]
  refine hK _ ?_
  repeat refine AWp.seq ?_
  refine AWp.ret ⟨.inr rfl, _, by simp [Tryz.results6] <;> rfl, ?_⟩
  have hT : (Tryz.prog.types[33]'(by decide +kernel)).size = 6 := by kernel_rfl
  refine .clos ?_ rfl
  rw [mtake_all encP p.ins k hge]
  simp only [hT, oneOf]
  rfl
theorem to'_ok (p : PlanD) (hl : psize p ≤ 4194304) : Con Tryz.prog 6 [planX p] (planX p) := to_ok _ p (Nat.lt_succ_self _) hl
