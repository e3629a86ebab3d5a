/- The program: depth of plans, variables. -/
import Derived.Test.YtdobngcdgkallaaGreatDoorAlY
import Derived.Test.YtdobngcdgkallaaGreatDoorAlSp
import Derived.Test.YtdobngcdgkallaaGreatDoorAlV
set_option linter.unusedSimpArgs false
set_option linter.unusedVariables false
set_option linter.unusedSectionVars false
open Go Go.Aw Go.Proofs
namespace Go.Al
set_option maxRecDepth 20000
-- function 25: corollary/algebra.deep$1
def F25r0 : List ROp := [⟨some 2,.box 33 (.tmp 0),[],none⟩,
 ⟨some 3,.copy true (.const (.bool false)),[],none⟩]
def F25r1 : List ROp := [⟨some 4,.load 6 true false (.tmp 2),[],none⟩,
 ⟨some 5,.load 1 false false (.tmp 1),[],none⟩,
 ⟨some 6,.bin .add (.tmp 5) (.const (.int .i64 1)),[],none⟩,
 ⟨some 7,.call (.func 12) [.tmp 4,.tmp 6],[],none⟩,
 ⟨some 3,.copy true (.tmp 7),[],none⟩]
-- function 12: corollary/algebra.deep
def F12r0 : List ROp := [⟨some 2,.box 33 (.tmp 0),[],none⟩,
 ⟨some 3,.box 3 (.tmp 1),[],none⟩,
 ⟨some 4,.copy true (.const (.bool false)),[],none⟩]
def F12r1 : List ROp := [⟨some 5,.load 1 false false (.tmp 3),[],none⟩,
 ⟨some 6,.bin .gtr (.tmp 5) (.const (.int .i64 64)),[],none⟩,
 ⟨some 7,.copy false (.tmp 6),[],none⟩,
 ⟨some 8,.fad 5 (.tmp 2),[],some (7,false)⟩,
 ⟨some 9,.load 1 false false (.tmp 8),[],some (7,false)⟩,
 ⟨some 10,.mkf (Go.Fn.func 25) [.tmp 3],[],some (7,false)⟩,
 ⟨some 11,.call (.func 24) [.tmp 9,.tmp 10],[],some (7,false)⟩,
 ⟨some 12,.pick (.tmp 7) (.const (.bool true)) (.tmp 11),[],none⟩,
 ⟨some 4,.copy true (.tmp 12),[],none⟩]
-- function 27: corollary/algebra.vars
def F27r0 : List ROp := [⟨some 2,.copy true (.const (.slice none 0 0)),[],none⟩]
def F27r1 : List ROp := [⟨some 3,.copy true (.const (.slice none 0 0)),[],none⟩]
def F27r2 : List ROp := [⟨some 8,.copy false (.tmp 0),[],none⟩,
 ⟨some 9,.len 0 (.tmp 8),[],none⟩,
 ⟨some 10,.copy false (.const (.int .i64 0)),[],none⟩]
def F27r3 : List ROp := [⟨some 11,.bin .lss (.tmp 10) (.tmp 9),[],none⟩]
def F27r4 : List ROp := [⟨some 12,.iad 9 (.tmp 8) (.tmp 10),[],none⟩,
 ⟨some 13,.load 9 true false (.tmp 12),[],none⟩,
 ⟨some 5,.alloc 58 [Value.int .u8 0,Value.int .i64 0,Value.int .i64 0,Value.string ByteArray.empty,Value.int .u8 0,Value.int .i64 0,Value.string ByteArray.empty,Value.slice none 0 0,Value.slice none 0 0],[],none⟩,
 ⟨none,.store 9 true (.tmp 5) (.tmp 13),[],none⟩]
def F27r5 : List ROp := [⟨some 14,.fad 0 (.tmp 5),[],none⟩,
 ⟨some 15,.load 1 false false (.tmp 14),[],none⟩,
 ⟨some 16,.bin .eql (.tmp 15) (.const (.int .u8 2)),[],none⟩,
 ⟨some 17,.copy false (.tmp 16),[],none⟩,
 ⟨some 18,.copy false (.tmp 3),[],some (17,true)⟩,
 ⟨some 19,.fad 3 (.tmp 5),[],some (17,true)⟩,
 ⟨some 20,.load 1 false false (.tmp 19),[],some (17,true)⟩,
 ⟨some 21,.call (.func 28) [.tmp 18,.tmp 20],[],some (17,true)⟩,
 ⟨some 22,.un .not (.tmp 21),[],some (17,true)⟩,
 ⟨some 23,.pick (.tmp 17) (.tmp 22) (.const (.bool false)),[],none⟩]
def F27r6 : List ROp := [⟨some 24,.copy true (.tmp 3),[],none⟩,
 ⟨some 25,.fad 3 (.tmp 5),[],none⟩,
 ⟨some 26,.load 1 false false (.tmp 25),[],none⟩,
 ⟨some 27,.bslice 9 1 [Value.string ByteArray.empty] 1 [(0,.tmp 26)],[],none⟩,
 ⟨some 28,.app 9 1 16 (.tmp 24) (.tmp 27),[],none⟩,
 ⟨some 3,.copy true (.tmp 28),[],none⟩]
def F27r7 : List ROp := [⟨some 29,.fad 8 (.tmp 5),[],none⟩,
 ⟨some 30,.load 1 false false (.tmp 29),[],none⟩,
 ⟨some 31,.call (.func 27) [.tmp 30],[],none⟩,
 ⟨some 32,.len 0 (.tmp 31),[],none⟩,
 ⟨some 33,.copy false (.const (.int .i64 0)),[],none⟩]
def F27r8 : List ROp := [⟨some 34,.bin .lss (.tmp 33) (.tmp 32),[],none⟩]
def F27r9 : List ROp := [⟨some 35,.iad 1 (.tmp 31) (.tmp 33),[],none⟩,
 ⟨some 36,.load 1 false false (.tmp 35),[],none⟩,
 ⟨some 7,.copy true (.tmp 36),[],none⟩]
def F27r10 : List ROp := [⟨some 37,.copy false (.tmp 3),[],none⟩,
 ⟨some 38,.copy false (.tmp 7),[],none⟩,
 ⟨some 39,.call (.func 28) [.tmp 37,.tmp 38],[],none⟩,
 ⟨some 40,.un .not (.tmp 39),[],none⟩]
def F27r11 : List ROp := [⟨some 41,.copy true (.tmp 3),[],none⟩,
 ⟨some 42,.copy false (.tmp 7),[],none⟩,
 ⟨some 43,.bslice 9 1 [Value.string ByteArray.empty] 1 [(0,.tmp 42)],[],none⟩,
 ⟨some 44,.app 9 1 16 (.tmp 41) (.tmp 43),[],none⟩,
 ⟨some 3,.copy true (.tmp 44),[],none⟩]
def F27r12 : List ROp := [⟨some 45,.bin .add (.tmp 33) (.const (.int .i64 1)),[],none⟩,
 ⟨some 33,.copy false (.tmp 45),[],none⟩]
def F27r13 : List ROp := [⟨some 46,.bin .add (.tmp 10) (.const (.int .i64 1)),[],none⟩,
 ⟨some 10,.copy false (.tmp 46),[],none⟩]
def F27r14 : List ROp := [⟨some 47,.copy true (.tmp 3),[],none⟩,
 ⟨some 2,.copy true (.tmp 47),[],none⟩]
attribute [local simp] valX encV_eq exprX encE_eq exprB
attribute [local simp] encP_eq encTR encT texts planX encS shapeX encSR encPR encER
theorem deep_ok : ∀ (n : Nat) (p : PlanD) (m : Nat), psize p < n → psize p ≤ 4194304 → m ≤ 4194304 → m + psize p ≤ 8388608 → Con Tryz.prog 12 [planX p, ival m] (bval (deepP p m)) := by
 intro n
 induction n with
 | zero => intro p m h; omega
 | succ n ih =>
  intro p m hn hp hm hmp
  have hsz := psize_eq p
  have hlen := psizes_len p.ins
  have hf : m ≤ 64 → ∀ q ∈ p.ins, Con Tryz.prog 25 [planX q, .elt 1 [[ival m]] 0 0] (bval (deepP q (m + 1))) := by
   intro hm64 q hq
   have hqs := psize_mem hq
   have h1 := ih q (m + 1) (by omega) (by omega) (by omega) (by omega)
   refine Con.of_code Tryz.func25 (by kernel_rfl) rfl (by simp [Tryz.ntmps25]) fun C hC hM => ?_
   refine AWp.seq ?_
   refine AWp.regK [1,2] [false,true] F25r0 [] (by kernel_rfl) (by rw [hC]; rfl) fun K hK => ?_
   simp (maxSteps := 2000000) [F25r0]
   refine hK _ ?_
   refine AWp.seq ?_
   refine AWp.regK [3] [false,false,false,false,true] F25r1 [{ r := bval (deepP q (m + 1)) }] (by kernel_rfl) (by rw [hC]; rfl) fun K hK => ?_
   simp (maxSteps := 2000000) [F25r1, wrap_nat m (by omega)]
   (repeat first | refine ⟨by first | kernel_rfl | (intros; omega) | assumption, ?_⟩ | refine ⟨by intros; exact callOK rfl h1, ?_⟩); refine hK _ ?_
   repeat refine AWp.seq ?_
   refine AWp.ret ⟨.inr rfl, _, by simp [Tryz.results25] <;> rfl, ?_⟩
   exact .closed rfl
  rw [deepP_eq, deepsP_any]
  have h2 : m ≤ 64 → Con Tryz.prog 24 [encPR p.ins, .clo (.func 25) [.elt 1 [[ival m]] 0 0]] (bval (p.ins.any fun q => deepP q (m + 1))) := fun hm64 =>
   ContainsFuncP_ok p.ins (by omega) _ _ rfl (fun q => deepP q (m + 1)) (hf hm64)
  refine Con.of_code Tryz.func12 (by kernel_rfl) rfl (by simp [Tryz.ntmps12]) fun C hC hM => ?_
  refine AWp.seq ?_
  refine AWp.regK [2,3] [false,false,true] F12r0 [] (by kernel_rfl) (by rw [hC]; rfl) fun K hK => ?_
  simp (maxSteps := 2000000) [F12r0]
  refine hK _ ?_
  refine AWp.seq ?_
  refine AWp.regK [4] [false,false,false,false,false,false,false,false,true] F12r1 [{ r := bval (p.ins.any fun q => deepP q (m + 1)),us := [3] }] (by kernel_rfl) (by rw [hC]; rfl) fun K hK => ?_
  simp (maxSteps := 2000000) [F12r1]
  (repeat first | refine ⟨by first | kernel_rfl | (intros; omega) | assumption, ?_⟩ | refine ⟨fun h => by exact ⟨[encPR p.ins, .clo (.func 25) [.elt 1 [[ival m]] 0 0]], .cons (.closed rfl) (.cons (.clo (.cons (.ptr rfl (.cons (.closed rfl) .nil)) .nil)) .nil), h2 (by omega)⟩, ?_⟩); refine hK _ ?_
  repeat refine AWp.seq ?_
  refine AWp.ret ⟨.inr rfl, _, by simp [Tryz.results12] <;> rfl, ?_⟩
  refine .clos ?_ rfl
  rw [show decide ((64 : Int) < m) = decide (64 < m) from decide_eq_decide.2 (by omega)]; rfl
mutual
theorem varsP_len : ∀ (e : ExprD) (acc : List ByteArray), (varsP acc e).length ≤ acc.length + esize e
 | .mk kind _ _ name _ args, acc => by
  have h1 := varsPs_len [] args
  simp only [varsP, esize]
  have h2 := addAll_len (varsPs [] args) (if kind = 2 then add acc name else acc)
  have h3 : (if kind = 2 then add acc name else acc).length ≤ acc.length + 1 := by
   split
   ·exact add_len acc name
   ·omega
  simp only [List.length_nil] at h1
  omega
theorem varsPs_len : ∀ (acc : List ByteArray) (l : List ExprD), (varsPs acc l).length ≤ acc.length + esizes l
 | acc, [] => by simp [varsPs]
 | acc, e :: l => by
  have h1 := varsP_len e acc
  have h2 := varsPs_len (varsP acc e) l
  simp only [varsPs, esizes]; omega
end
theorem vars_p : ∀ (n : Nat) (l : List ExprD), esizes l < n → esizes l ≤ 4194304 → Con Tryz.prog 27 [encER l] (encTR (varsPs [] l)) := by
 intro n
 induction n with
 | zero => intro l h; omega
 | succ n ih =>
  intro l hn hl
  have hlen := esizes_len l
  refine Con.of_code Tryz.func27 (by kernel_rfl) rfl (by simp [Tryz.ntmps27]) fun C hC hM => ?_
  refine AWp.seq ?_
  refine AWp.regK [0] [true] F27r0 [] (by kernel_rfl) (by rw [hC]; rfl) fun K hK => ?_
  simp (maxSteps := 2000000) [F27r0]
  refine hK _ ?_
  refine AWp.seq ?_
  refine AWp.regK [0,3] [true] F27r1 [] (by kernel_rfl) (by rw [hC]; rfl) fun K hK => ?_
  simp (maxSteps := 2000000) [F27r1]
  refine hK _ ?_
  refine AWp.seq ?_
  refine AWp.seq ?_
  refine AWp.regK [3,8,9,10] [] F27r2 [] (by kernel_rfl) (by rw [hC]; rfl) fun K hK => ?_
  simp (maxSteps := 2000000) [F27r2]
  refine hK _ ?_
  refine AWp.block ?_
  refine AWp.loopG (fun k : Nat => { tm := [(3, .own 9 1 (texts (varsPs [] (l.take k)))), (8, .rd 9 (l.map encE)), (9, ival l.length), (10, ival k)], hp := [] }) (fun k => k ≤ l.length) (fun k => l.length - k) 0 (by omega) (by simp [varsPs]) (fun k hk => ?_)
  have hvl : ∀ (acc : List ByteArray) (l : List ExprD), (varsPs acc l).length ≤ acc.length + esizes l := varsPs_len
  refine AWp.seq ?_
  refine AWp.regK [3,8,9,10,11] [] F27r3 [] (by kernel_rfl) (by rw [hC]; rfl) fun K hK => ?_
  simp (maxSteps := 2000000) [F27r3]
  refine hK _ ?_
  refine AWp.seq ?_
  refine AWp.cond _ (by rfl) (fun hlt => ?_) (fun hge => ?_)
  ·skip
   have hlt : k < l.length := by simpa using hlt
   have htk := varsPs_take [] l k hlt
   have hes := esizes_snoc l k hlt
   have hle := esizes_take_le l (k + 1)
   have hes2 := esize_eq l[k]
   have hv1 := hvl [] (l.take k)
   rw [varsP_eq] at htk
   have hi := ih l[k].args (by omega) (by omega)
   have hv2 := hvl [] l[k].args
   generalize varsPs [] (l.take k) = acc at hv1 htk ⊢
   simp only [List.length_nil] at hv1 hv2
   have hc1 := Contains_t acc l[k].name (by omega)
   refine AWp.skip ?_
   refine AWp.seq ?_
   refine AWp.block ?_
   refine AWp.seq ?_
   refine AWp.regK [3,5,8,9,10] [false,false,false,true] F27r4 [] (by kernel_rfl) (by rw [hC]; rfl) fun K hK => ?_
   simp (maxSteps := 2000000) [F27r4, hlt]
   (repeat refine ⟨by first | omega | (intros; omega) | assumption, ?_⟩); refine hK _ ?_
   generalize l[k] = e at hi hv2 hc1 htk hes hes2 ⊢
   have hal : (if e.kind = 2 then add acc e.name else acc).length ≤ acc.length + 1 := by
    split
    ·exact add_len acc e.name
    ·omega
   obtain ⟨acc2, ha2⟩ : ∃ acc2, acc2 = (if e.kind = 2 then add acc e.name else acc) := ⟨_, rfl⟩
   rw [← ha2] at htk hal
   refine AWp.seqJ (fun _ : Unit => { tm := [(3, .own 9 1 (texts acc2)), (5, .ptr 5 0), (8, .rd 9 (l.map encE)), (9, ival l.length), (10, ival k)], hp := [(5, exprB e)] }) (fun _ => True) ?_ (fun hJ => ?_)
   ·skip
    rintro - -
    obtain ⟨v, hv⟩ : ∃ v, v = varsPs [] e.args := ⟨_, rfl⟩
    rw [← hv] at hi hv2 htk
    refine AWp.seq ?_
    refine AWp.regK [3,8,9,10,31,32,33] [] F27r7 [{ r := encTR v }] (by kernel_rfl) (by rw [hC]; rfl) fun K hK => ?_
    simp (maxSteps := 2000000) [F27r7]
    (repeat first | refine ⟨by first | kernel_rfl | (intros; omega) | assumption, ?_⟩ | refine ⟨by intros; exact callOK rfl hi, ?_⟩); refine hK _ ?_
    refine AWp.block ?_
    refine AWp.loopG (fun i : Nat => { tm := [(3, .own 9 1 (texts (addAll acc2 (v.take i)))), (8, .rd 9 (l.map encE)), (9, ival l.length), (10, ival k), (31, encTR v), (32, ival v.length), (33, ival i)], hp := [] }) (fun i => i ≤ v.length) (fun i => v.length - i) 0 (by omega) (by simp [addAll]) (fun i hi2 => ?_)
    refine AWp.seq ?_
    refine AWp.regK [3,8,9,10,31,32,33,34] [] F27r8 [] (by kernel_rfl) (by rw [hC]; rfl) fun K hK => ?_
    simp (maxSteps := 2000000) [F27r8]
    refine hK _ ?_
    refine AWp.seq ?_
    refine AWp.cond _ (by rfl) (fun hi3 => ?_) (fun hi4 => ?_)
    ·skip
     have hi3 : i < v.length := by simpa using hi3
     have htk2 : addAll acc2 (v.take (i + 1)) = add (addAll acc2 (v.take i)) v[i] := by
      rw [List.take_succ_eq_append_getElem hi3, addAll_append]; rfl
     have hcl := addAll_len (v.take i) acc2
     rw [List.length_take] at hcl
     generalize addAll acc2 (v.take i) = cur at hcl htk2 ⊢
     have hc2 := Contains_t cur v[i] (by omega)
     refine AWp.skip ?_
     refine AWp.seq ?_
     refine AWp.block ?_
     refine AWp.seq ?_
     refine AWp.regK [3,7,8,9,10,31,32,33] [false,false,true] F27r9 [] (by kernel_rfl) (by rw [hC]; rfl) fun K hK => ?_
     simp (maxSteps := 2000000) [F27r9, hi3]
     (repeat refine ⟨by first | omega | (intros; omega) | assumption, ?_⟩); refine hK _ ?_
     refine AWp.seq ?_
     refine AWp.regK [3,7,8,9,10,31,32,33,40] [] F27r10 [{ r := bval (has cur v[i]) }] (by kernel_rfl) (by rw [hC]; rfl) fun K hK => ?_
     simp (maxSteps := 2000000) [F27r10]
     (repeat first | refine ⟨by first | kernel_rfl | (intros; omega) | assumption, ?_⟩ | refine ⟨by intros; exact callWk rfl (by repeat (first | exact WkL.nil | refine WkL.cons (by first | exact Wk.refl _ | exact Wk.nil _ | exact Wk.own (WkR.refl _)) ?_)) hc2, ?_⟩); refine hK _ ?_
     refine AWp.cond _ (by rfl) (fun h5 => ?_) (fun h5 => ?_)
     ·skip
      have h5 : has cur v[i] = false := by simpa using h5
      have hadd : add cur v[i] = cur ++ [v[i]] := by unfold add; rw [h5]; rfl
      refine AWp.regK [3,8,9,10,31,32,33] [true,false,false,false,true] F27r11 [] (by kernel_rfl) (by rw [hC]; rfl) fun K hK => ?_
      simp (maxSteps := 2000000) [F27r11]
      (repeat refine ⟨by first | omega | (intros; omega) | assumption, ?_⟩); refine hK _ ?_
      refine AWp.regK [3,8,9,10,31,32,33] [] F27r12 [] (by kernel_rfl) (by rw [hC]; rfl) fun K hK => ?_
      simp (maxSteps := 2000000) [F27r12]
      (repeat refine ⟨by first | omega | (intros; omega) | assumption, ?_⟩); refine hK _ ?_
      refine ⟨i + 1, by omega, by omega, ?_⟩
      rw [htk2, hadd]
      simp [wrap_nat i (by omega)]
     have h5 : has cur v[i] = true := by simpa using h5
     have hadd : add cur v[i] = cur := by unfold add; rw [h5]; rfl
     refine AWp.skip ?_
     refine AWp.regK [3,8,9,10,31,32,33] [] F27r12 [] (by kernel_rfl) (by rw [hC]; rfl) fun K hK => ?_
     simp (maxSteps := 2000000) [F27r12]
     (repeat refine ⟨by first | omega | (intros; omega) | assumption, ?_⟩); refine hK _ ?_
     refine ⟨i + 1, by omega, by omega, ?_⟩
     rw [htk2, hadd]
     simp [wrap_nat i (by omega)]
    have hi4 : ¬ i < v.length := by simpa using hi4
    rw [List.take_of_length_le (by omega), ← htk]
    refine AWp.exit ?_
    refine AWp.regK [3,8,9,10] [] F27r13 [] (by kernel_rfl) (by rw [hC]; rfl) fun K hK => ?_
    simp (maxSteps := 2000000) [F27r13]
    (repeat refine ⟨by first | omega | (intros; omega) | assumption, ?_⟩); refine hK _ ?_
    refine ⟨k + 1, by omega, by omega, ?_⟩
    simp [wrap_nat k (by omega)]
   ·skip
    refine AWp.seq ?_
    refine AWp.regK [3,5,8,9,10,23] [] F27r5 [{ r := bval (has acc e.name) }] (by kernel_rfl) (by rw [hC]; rfl) fun K hK => ?_
    simp (maxSteps := 2000000) [F27r5]
    (repeat first | refine ⟨by first | kernel_rfl | (intros; omega) | assumption, ?_⟩ | refine ⟨fun _ => callWk rfl (by repeat (first | exact WkL.nil | refine WkL.cons (by first | exact Wk.refl _ | exact Wk.nil _ | exact Wk.own (WkR.refl _)) ?_)) hc1, ?_⟩); refine hK _ ?_
    refine AWp.cond _ (by rfl) (fun h4 => ?_) (fun h4 => ?_)
    ·skip
     have h4 : e.kind = 2 ∧ has acc e.name = false := by simpa using h4
     have hadd : acc2 = acc ++ [e.name] := by rw [ha2, if_pos h4.1]; unfold add; rw [h4.2]; rfl
     refine AWp.regK [3,5,8,9,10] [true,false,false,false,false,true] F27r6 [] (by kernel_rfl) (by rw [hC]; rfl) fun K hK => ?_
     simp (maxSteps := 2000000) [F27r6]
     (repeat refine ⟨by first | omega | (intros; omega) | assumption, ?_⟩); refine hK _ ?_
     refine hJ _ () trivial ?_
     rw [hadd]
     simp
    have h4 : ¬ (e.kind = 2 ∧ has acc e.name = false) := by simpa using h4
    have hadd : acc2 = acc := by
     rw [ha2]
     split
     ·next hk2 =>
      have : has acc e.name = true := by cases hh : has acc e.name <;> simp_all
      unfold add; rw [if_pos this]
     ·rfl
    refine AWp.skip ?_
    refine hJ _ () trivial ?_
    rw [hadd]
    simp
  have hge : ¬ k < l.length := by simpa using hge
  rw [List.take_of_length_le (by omega)]
  refine AWp.exit ?_
  refine AWp.seq ?_
  refine AWp.regK [2] [true,true] F27r14 [] (by kernel_rfl) (by rw [hC]; rfl) fun K hK => ?_
  simp (maxSteps := 2000000) [F27r14]
  refine hK _ ?_
  repeat refine AWp.seq ?_
  refine AWp.ret ⟨.inr rfl, _, by simp [Tryz.results27] <;> rfl, ?_⟩
  exact .own
end Go.Al
