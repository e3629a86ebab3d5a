/- The document: the variables of expressions; places in lists; depths of plans. -/
import Derived.Test.YtdobngcdgkallaaGreatDoorAlM
import Derived.Test.YtdobngcdgkallaaGreatDoorAwZk
set_option linter.unusedSimpArgs false
set_option linter.unusedVariables false
set_option linter.unusedSectionVars false
open Go Go.Aw Go.Proofs
namespace Go.Al
set_option maxRecDepth 20000
-- function 63: corollary/corollaryref06.vars
def F63r0 : List ROp := [⟨some 3,.box 58 (.tmp 1),[],none⟩,
 ⟨some 4,.copy true (.const (.slice none 0 0)),[],none⟩]
def F63r1 : List ROp := [⟨some 7,.fad 0 (.tmp 3),[],none⟩,
 ⟨some 8,.load 1 false false (.tmp 7),[],none⟩,
 ⟨some 9,.bin .eql (.tmp 8) (.const (.int .u8 2)),[],none⟩]
def F63r2 : List ROp := [⟨some 5,.copy true (.const (.int .i64 0)),[],none⟩]
def F63r3 : List ROp := [⟨some 10,.copy false (.tmp 5),[],none⟩,
 ⟨some 11,.copy false (.tmp 0),[],none⟩,
 ⟨some 12,.len 0 (.tmp 11),[],none⟩,
 ⟨some 13,.bin .lss (.tmp 10) (.tmp 12),[],none⟩]
def F63r4 : List ROp := [⟨some 14,.copy false (.tmp 5),[],none⟩,
 ⟨some 15,.bin .add (.tmp 14) (.const (.int .i64 1)),[],none⟩,
 ⟨some 5,.copy true (.tmp 15),[],none⟩]
def F63r5 : List ROp := [⟨some 16,.copy false (.tmp 0),[],none⟩,
 ⟨some 17,.copy false (.tmp 5),[],none⟩,
 ⟨some 18,.iad 1 (.tmp 16) (.tmp 17),[0,1],none⟩,
 ⟨some 19,.load 1 false false (.tmp 18),[2],none⟩,
 ⟨some 20,.fad 3 (.tmp 3),[],none⟩,
 ⟨some 21,.load 1 false false (.tmp 20),[4],none⟩,
 ⟨some 22,.bin .eql (.tmp 19) (.tmp 21),[3,5],none⟩]
def F63r6 : List ROp := [⟨some 23,.copy true (.tmp 0),[],none⟩,
 ⟨some 4,.copy true (.tmp 23),[],none⟩]
def F63r7 : List ROp := [⟨some 24,.copy true (.tmp 0),[],none⟩,
 ⟨some 25,.fad 3 (.tmp 3),[],none⟩,
 ⟨some 26,.load 1 false false (.tmp 25),[],none⟩,
 ⟨some 27,.bslice 9 1 [Value.string ByteArray.empty] 1 [(0,.tmp 26)],[],none⟩,
 ⟨some 28,.app 9 1 16 (.tmp 24) (.tmp 27),[],none⟩,
 ⟨some 0,.copy true (.tmp 28),[],none⟩]
def F63r8 : List ROp := [⟨some 29,.copy true (.tmp 0),[],none⟩,
 ⟨some 4,.copy true (.tmp 29),[],none⟩]
def F63r9 : List ROp := [⟨some 6,.copy true (.const (.int .i64 0)),[],none⟩]
def F63r10 : List ROp := [⟨some 30,.copy false (.tmp 6),[],none⟩,
 ⟨some 31,.fad 8 (.tmp 3),[],none⟩,
 ⟨some 32,.load 1 false false (.tmp 31),[],none⟩,
 ⟨some 33,.len 0 (.tmp 32),[],none⟩,
 ⟨some 34,.bin .lss (.tmp 30) (.tmp 33),[],none⟩]
def F63r11 : List ROp := [⟨some 35,.copy false (.tmp 6),[],none⟩,
 ⟨some 36,.bin .add (.tmp 35) (.const (.int .i64 1)),[],none⟩,
 ⟨some 6,.copy true (.tmp 36),[],none⟩]
def F63r12 : List ROp := [⟨some 37,.copy true (.tmp 0),[],none⟩,
 ⟨some 38,.fad 8 (.tmp 3),[],none⟩,
 ⟨some 39,.load 1 false false (.tmp 38),[],none⟩,
 ⟨some 40,.copy false (.tmp 6),[],none⟩,
 ⟨some 41,.iad 9 (.tmp 39) (.tmp 40),[],none⟩,
 ⟨some 42,.load 9 true false (.tmp 41),[],none⟩,
 ⟨some 43,.call (.func 63) [.tmp 37,.tmp 42],[],none⟩,
 ⟨some 0,.copy true (.tmp 43),[],none⟩]
def F63r13 : List ROp := [⟨some 44,.copy true (.tmp 0),[],none⟩,
 ⟨some 4,.copy true (.tmp 44),[],none⟩]
-- function 50: corollary/corollaryref06.Vars
def F50r0 : List ROp := [⟨some 1,.box 58 (.tmp 0),[],none⟩,
 ⟨some 2,.copy true (.const (.slice none 0 0)),[],none⟩]
def F50r1 : List ROp := [⟨some 3,.load 9 true false (.tmp 1),[],none⟩,
 ⟨some 4,.call (.func 63) [.const (.slice none 0 0),.tmp 3],[],none⟩,
 ⟨some 2,.copy true (.tmp 4),[],none⟩]
-- function 33: corollary/corollaryref19.Vars
def F33r0 : List ROp := [⟨some 2,.copy true (.const (.slice none 0 0)),[],none⟩]
def F33r1 : List ROp := [⟨some 3,.copy false (.tmp 0),[],none⟩,
 ⟨some 4,.build [Value.int .u8 0,Value.int .i64 0,Value.int .i64 0,Value.string ByteArray.empty,Value.int .u8 0,Value.int .i64 0,Value.string ByteArray.empty,Value.slice none 0 0,Value.slice none 0 0] [(0,1,.const (.int .u8 4)),(8,1,.tmp 3)],[],none⟩,
 ⟨some 5,.call (.func 50) [.tmp 4],[],none⟩,
 ⟨some 2,.copy true (.tmp 5),[],none⟩]
-- function 34: corollary/corollaryref19.At
def F34r0 : List ROp := [⟨some 4,.copy true (.const (.int .i64 0)),[],none⟩]
def F34r1 : List ROp := [⟨some 5,.copy true (.const (.int .i64 0)),[],none⟩]
def F34r2 : List ROp := [⟨some 6,.copy false (.tmp 5),[],none⟩,
 ⟨some 7,.copy false (.tmp 0),[],none⟩,
 ⟨some 8,.len 0 (.tmp 7),[],none⟩,
 ⟨some 9,.bin .lss (.tmp 6) (.tmp 8),[],none⟩]
def F34r3 : List ROp := [⟨some 10,.copy false (.tmp 5),[],none⟩,
 ⟨some 11,.bin .add (.tmp 10) (.const (.int .i64 1)),[],none⟩,
 ⟨some 5,.copy true (.tmp 11),[],none⟩]
def F34r4 : List ROp := [⟨some 12,.copy false (.tmp 0),[],none⟩,
 ⟨some 13,.copy false (.tmp 5),[],none⟩,
 ⟨some 14,.iad 1 (.tmp 12) (.tmp 13),[],none⟩,
 ⟨some 15,.load 1 false false (.tmp 14),[],none⟩,
 ⟨some 16,.copy false (.tmp 1),[],none⟩,
 ⟨some 17,.bin .eql (.tmp 15) (.tmp 16),[],none⟩]
def F34r5 : List ROp := [⟨some 18,.copy true (.tmp 5),[],none⟩,
 ⟨some 4,.copy true (.tmp 18),[],none⟩]
def F34r6 : List ROp := [⟨some 4,.copy true (.const (.int .i64 (-1))),[],none⟩]
-- function 16: corollary/corollaryref19.Deep
def F16r0 : List ROp := [⟨some 1,.box 26 (.tmp 0),[],none⟩,
 ⟨some 2,.copy true (.const (.int .i64 0)),[],none⟩]
def F16r1 : List ROp := [⟨some 3,.copy true (.const (.int .i64 0)),[],none⟩]
def F16r2 : List ROp := [⟨some 4,.copy true (.const (.int .i64 0)),[],none⟩]
def F16r3 : List ROp := [⟨some 5,.copy false (.tmp 4),[],none⟩,
 ⟨some 6,.fad 5 (.tmp 1),[],none⟩,
 ⟨some 7,.load 1 false false (.tmp 6),[],none⟩,
 ⟨some 8,.len 0 (.tmp 7),[],none⟩,
 ⟨some 9,.bin .lss (.tmp 5) (.tmp 8),[],none⟩]
def F16r4 : List ROp := [⟨some 10,.copy false (.tmp 4),[],none⟩,
 ⟨some 11,.bin .add (.tmp 10) (.const (.int .i64 1)),[],none⟩,
 ⟨some 4,.copy true (.tmp 11),[],none⟩]
def F16r5 : List ROp := [⟨some 12,.copy false (.tmp 3),[],none⟩,
 ⟨some 13,.fad 5 (.tmp 1),[],none⟩,
 ⟨some 14,.load 1 false false (.tmp 13),[],none⟩,
 ⟨some 15,.copy false (.tmp 4),[],none⟩,
 ⟨some 16,.iad 6 (.tmp 14) (.tmp 15),[],none⟩,
 ⟨some 17,.load 6 true false (.tmp 16),[],none⟩,
 ⟨some 18,.call (.func 16) [.tmp 17],[],none⟩,
 ⟨some 19,.mm true (.tmp 12) (.tmp 18),[],none⟩,
 ⟨some 3,.copy true (.tmp 19),[],none⟩]
def F16r6 : List ROp := [⟨some 20,.copy false (.tmp 3),[],none⟩,
 ⟨some 21,.bin .add (.tmp 20) (.const (.int .i64 1)),[],none⟩,
 ⟨some 2,.copy true (.tmp 21),[],none⟩]
attribute [local simp] valX encV_eq exprX encE_eq encTR encT texts exprB
theorem add_len (l : List ByteArray) (s : ByteArray) : (add l s).length ≤ l.length + 1 := by
 unfold add; split
 ·omega
 ·simp
mutual
theorem varsD_len : ∀ (e : ExprD) (acc : List ByteArray), (varsD acc e).length ≤ acc.length + esize e
 | .mk kind _ _ name _ args, acc => by
  simp only [varsD, esize]
  split
  ·have := add_len acc name; omega
  ·have := varsDs_len args acc; omega
theorem varsDs_len : ∀ (l : List ExprD) (acc : List ByteArray), (varsDs acc l).length ≤ acc.length + esizes l
 | [], acc => by simp [varsDs]
 | e :: l, acc => by
  have h1 := varsD_len e acc
  have h2 := varsDs_len l (varsD acc e)
  simp only [varsDs, esizes]; omega
end
theorem vars_ok : ∀ (n : Nat) (e : ExprD) (acc : List ByteArray), esize e < n → acc.length + esize e ≤ 8388608 → ConO Tryz.prog 63 9 1 (texts acc) [exprX e] (texts (varsD acc e)) := by
 intro n
 induction n with
 | zero => intro e acc h; omega
 | succ n ih =>
  intro e acc hn hv
  have hsz := esize_eq e
  have hlen := esizes_len e.args
  rw [varsD_eq]
  refine ConO.of_code Tryz.func63 (by kernel_rfl) rfl (by simp [Tryz.ntmps63]) fun C hC => ?_
  refine AWp.seq ?_
  refine AWp.regK [0,3] [false,true] F63r0 [] (by kernel_rfl) (by rw [hC]; rfl) fun K hK => ?_
  simp (maxSteps := 2000000) [F63r0]
  refine hK _ ?_
  refine AWp.seq ?_
  refine AWp.seq ?_
  refine AWp.regK [0,3,9] [] F63r1 [] (by kernel_rfl) (by rw [hC]; rfl) fun K hK => ?_
  simp (maxSteps := 2000000) [F63r1]
  refine hK _ ?_
  refine AWp.cond _ (by rfl) (fun h1 => ?_) (fun h1 => ?_)
  ·skip
   have h1 : e.kind = 2 := by simpa using h1
   rw [if_pos h1]
   unfold add
   refine AWp.seq ?_
   refine AWp.seq ?_
   refine AWp.regK [0,3,5] [true] F63r2 [] (by kernel_rfl) (by rw [hC]; rfl) fun K hK => ?_
   simp (maxSteps := 2000000) [F63r2]
   refine hK _ ?_
   refine AWp.block ?_
   refine AWp.loopG (fun k : Nat => { tm := [(0, .own 9 1 (texts acc)), (3, .ptr 3 0), (5, ival k)], hp := [(3, exprB e)] }) (fun k => k ≤ acc.length ∧ has acc e.name = (acc.drop k).any fun w => decide (w = e.name)) (fun k => acc.length - k) 0 ⟨by omega, by simp [has]⟩ (by simp) (fun k hk => ?_)
   obtain ⟨hk1, hk2⟩ := hk
   refine AWp.seq ?_
   refine AWp.seq ?_
   refine AWp.regK [0,3,5,13] [] F63r3 [] (by kernel_rfl) (by rw [hC]; rfl) fun K hK => ?_
   simp (maxSteps := 2000000) [F63r3]
   refine hK _ ?_
   refine AWp.cond _ (by rfl) (fun hlt => ?_) (fun hge => ?_)
   ·skip
    have hlt : k < acc.length := by simpa using hlt
    rw [reserved_drop acc e.name k hlt] at hk2
    refine AWp.skip ?_
    refine AWp.seq ?_
    refine AWp.block ?_
    refine AWp.seq ?_
    refine AWp.regKL ops_mixed [[],[],[0,1],[0,1,2],[],[4],[0,1,2,3,4,5]] [0,3,5,22] [] F63r5 [] (by kernel_rfl) (by rw [hC]; rfl) (by kernel_rfl) (by kernel_rfl) fun K hK => ?_
    simp (maxSteps := 2000000) [F63r5, hlt]
    (repeat refine ⟨by first | omega | (intros; omega) | assumption, ?_⟩); first | refine hK _ ?_ | refine ⟨by kernel_rfl, hK _ ?_⟩
    refine AWp.cond _ (by rfl) (fun hq => ?_) (fun hq => ?_)
    ·skip
     rw [hk2, hq]
     refine AWp.seq ?_
     refine AWp.regK [4] [true,true] F63r6 [] (by kernel_rfl) (by rw [hC]; rfl) fun K hK => ?_
     simp (maxSteps := 2000000) [F63r6]
     refine hK _ ?_
     repeat refine AWp.seq ?_
     refine AWp.ret ⟨.inr rfl, _, by simp [Tryz.results63] <;> rfl, ?_⟩
     simp
    refine AWp.skip ?_
    refine AWp.regK [0,3,5] [false,false,true] F63r4 [] (by kernel_rfl) (by rw [hC]; rfl) fun K hK => ?_
    simp (maxSteps := 2000000) [F63r4]
    (repeat refine ⟨by first | omega | (intros; omega) | assumption, ?_⟩); refine hK _ ?_
    refine ⟨k + 1, ⟨by omega, by rw [hk2, show decide (acc[k] = e.name) = false by simpa using hq]; rfl⟩, by omega, ?_⟩
    simp [wrap_nat k (by omega)]
   have hge : ¬ k < acc.length := by simpa using hge
   rw [List.drop_eq_nil_of_le (by omega)] at hk2
   rw [hk2]
   have hal : acc.length ≤ 8388608 := by omega
   refine AWp.exit ?_
   refine AWp.seq ?_
   refine AWp.regK [0] [true,false,false,false,false,true] F63r7 [] (by kernel_rfl) (by rw [hC]; rfl) fun K hK => ?_
   simp (maxSteps := 2000000) [F63r7]
   (repeat refine ⟨by first | omega | (intros; omega) | assumption, ?_⟩); refine hK _ ?_
   refine AWp.seq ?_
   refine AWp.regK [4] [true,true] F63r8 [] (by kernel_rfl) (by rw [hC]; rfl) fun K hK => ?_
   simp (maxSteps := 2000000) [F63r8]
   refine hK _ ?_
   repeat refine AWp.seq ?_
   refine AWp.ret ⟨.inr rfl, _, by simp [Tryz.results63] <;> rfl, ?_⟩
   simp
  have h1 : ¬ e.kind = 2 := by simpa using h1
  rw [if_neg h1]
  refine AWp.skip ?_
  refine AWp.seq ?_
  refine AWp.seq ?_
  refine AWp.regK [0,3,6] [true] F63r9 [] (by kernel_rfl) (by rw [hC]; rfl) fun K hK => ?_
  simp (maxSteps := 2000000) [F63r9]
  refine hK _ ?_
  refine AWp.block ?_
  refine AWp.loopG (fun k : Nat => { tm := [(0, .own 9 1 (texts (varsDs acc (e.args.take k)))), (3, .ptr 3 0), (6, ival k)], hp := [(3, exprB e)] }) (fun k => k ≤ e.args.length) (fun k => e.args.length - k) 0 (by omega) (by simp [varsDs]) (fun k hk => ?_)
  refine AWp.seq ?_
  refine AWp.seq ?_
  refine AWp.regK [0,3,6,34] [] F63r10 [] (by kernel_rfl) (by rw [hC]; rfl) fun K hK => ?_
  simp (maxSteps := 2000000) [F63r10]
  refine hK _ ?_
  refine AWp.cond _ (by rfl) (fun hlt => ?_) (fun hge => ?_)
  ·skip
   have hlt : k < e.args.length := by simpa using hlt
   have hm := esize_mem (List.getElem_mem hlt)
   have hl1 := varsDs_len (e.args.take k) acc
   have hl2 := esizes_snoc e.args k hlt
   have hl3 := esizes_take_le e.args (k + 1)
   have hc := ih e.args[k] (varsDs acc (e.args.take k)) (by omega) (by omega)
   have hd := varsDs_drop acc e.args k hlt
   refine AWp.skip ?_
   refine AWp.seq ?_
   refine AWp.block ?_
   refine AWp.regK [0,3,6] [true,false,false,false,false,false,false,true] F63r12 [{ r := .own 9 1 (texts (varsD (varsDs acc (e.args.take k)) e.args[k])),ow := true }] (by kernel_rfl) (by rw [hC]; rfl) fun K hK => ?_
   simp (maxSteps := 2000000) [F63r12, hlt]
   (repeat first | refine ⟨by first | kernel_rfl | (intros; omega) | assumption, ?_⟩ | refine ⟨by intros; exact hc, ?_⟩); refine hK _ ?_
   refine AWp.regK [0,3,6] [false,false,true] F63r11 [] (by kernel_rfl) (by rw [hC]; rfl) fun K hK => ?_
   simp (maxSteps := 2000000) [F63r11]
   (repeat refine ⟨by first | omega | (intros; omega) | assumption, ?_⟩); refine hK _ ?_
   refine ⟨k + 1, by omega, by omega, ?_⟩
   rw [hd]
   simp [wrap_nat k (by omega)]
  have hge : ¬ k < e.args.length := by simpa using hge
  rw [List.take_of_length_le (by omega)]
  refine AWp.exit ?_
  refine AWp.seq ?_
  refine AWp.regK [4] [true,true] F63r13 [] (by kernel_rfl) (by rw [hC]; rfl) fun K hK => ?_
  simp (maxSteps := 2000000) [F63r13]
  refine hK _ ?_
  repeat refine AWp.seq ?_
  refine AWp.ret ⟨.inr rfl, _, by simp [Tryz.results63] <;> rfl, ?_⟩
  simp
theorem Vars_ok (e : ExprD) (he : esize e ≤ 4194304) : Con Tryz.prog 50 [exprX e] (encTR (varsD [] e)) := by
 have hc := vars_ok _ e [] (Nat.lt_succ_self _) (by simp; omega)
 refine Con.of_code Tryz.func50 (by kernel_rfl) rfl (by simp [Tryz.ntmps50]) fun C hC hM => ?_
 refine AWp.seq ?_
 refine AWp.regK [1] [false,true] F50r0 [] (by kernel_rfl) (by rw [hC]; rfl) fun K hK => ?_
 simp (maxSteps := 2000000) [F50r0]
 refine hK _ ?_
 refine AWp.seq ?_
 refine AWp.regK [2] [false,false,true] F50r1 [{ r := .own 9 1 (texts (varsD [] e)),ow := true }] (by kernel_rfl) (by rw [hC]; rfl) fun K hK => ?_
 simp (maxSteps := 2000000) [F50r1]
 (repeat first | refine ⟨by first | kernel_rfl | (intros; omega) | assumption, ?_⟩ | refine ⟨by intros; exact hc, ?_⟩); refine hK _ ?_
 repeat refine AWp.seq ?_
 refine AWp.ret ⟨.inr rfl, _, by simp [Tryz.results50] <;> rfl, ?_⟩
 exact .own
def tupE (l : List ExprD) : ExprD := .mk 4 0 0 .empty (.mk 0 0 .empty []) l
theorem tupE_size (l : List ExprD) : esize (tupE l) = 2 + esizes l := by
 simp only [tupE, esize, vsize, vsizes]
 show 1 + 0 + (1 + 0 + 0) + _ = _
 omega
theorem VarsL_ok (l : List ExprD) (hl : esizes l ≤ 4194300) : Con Tryz.prog 33 [encER l] (encTR (varsDs [] l)) := by
 have h := Vars_ok (tupE l) (by rw [tupE_size]; omega)
 have hv : varsD [] (tupE l) = varsDs [] l := by simp [tupE, varsD]
 rw [hv] at h
 have h2 : Con Tryz.prog 50 [.agg [uval 4, ival 0, ival 0, sval .empty, uval 0, ival 0, sval .empty, .val (.slice none 0 0), .rd 9 (l.map encE)]] (encTR (varsDs [] l)) := h.args (.cons (.agg (.cons (.refl _) (.cons (.refl _) (.cons (.refl _) (.cons (.refl _) (.cons (.refl _) (.cons (.refl _) (.cons (.refl _) (.cons (.nil _) (.cons (.refl _) .nil)))))))))) .nil)
 refine Con.of_code Tryz.func33 (by kernel_rfl) rfl (by simp [Tryz.ntmps33]) fun C hC hM => ?_
 refine AWp.seq ?_
 refine AWp.regK [0] [true] F33r0 [] (by kernel_rfl) (by rw [hC]; rfl) fun K hK => ?_
 simp (maxSteps := 2000000) [F33r0]
 refine hK _ ?_
 refine AWp.seq ?_
 refine AWp.regK [2] [false,false,false,true] F33r1 [{ r := encTR (varsDs [] l) }] (by kernel_rfl) (by rw [hC]; rfl) fun K hK => ?_
 simp (maxSteps := 2000000) [F33r1]
 (repeat first | refine ⟨by first | kernel_rfl | (intros; omega) | assumption, ?_⟩ | refine ⟨by intros; exact callOK rfl h2, ?_⟩); refine hK _ ?_
 repeat refine AWp.seq ?_
 refine AWp.ret ⟨.inr rfl, _, by simp [Tryz.results33] <;> rfl, ?_⟩
 exact .closed rfl
theorem At_ok (l : List ByteArray) (s : ByteArray) (hl : l.length ≤ 8388608) : Con Tryz.prog 34 [encTR l, sval s] (ival (fid (fun w => decide (w = s)) l 0)) := by
 refine Con.of_code Tryz.func34 (by kernel_rfl) rfl (by simp [Tryz.ntmps34]) fun C hC hM => ?_
 refine AWp.seq ?_
 refine AWp.regK [0,1] [true] F34r0 [] (by kernel_rfl) (by rw [hC]; rfl) fun K hK => ?_
 simp (maxSteps := 2000000) [F34r0]
 refine hK _ ?_
 refine AWp.seq ?_
 refine AWp.seq ?_
 refine AWp.regK [0,1,5] [true] F34r1 [] (by kernel_rfl) (by rw [hC]; rfl) fun K hK => ?_
 simp (maxSteps := 2000000) [F34r1]
 refine hK _ ?_
 refine AWp.block ?_
 refine AWp.loopG (fun k : Nat => { tm := [(0, encTR l), (1, sval s), (5, ival k)], hp := [] }) (fun k => k ≤ l.length ∧ fid (fun w => decide (w = s)) l 0 = fid (fun w => decide (w = s)) (l.drop k) k) (fun k => l.length - k) 0 ⟨by omega, by simp⟩ (by simp) (fun k hk => ?_)
 obtain ⟨hk1, hk2⟩ := hk
 refine AWp.seq ?_
 refine AWp.seq ?_
 refine AWp.regK [0,1,5,9] [] F34r2 [] (by kernel_rfl) (by rw [hC]; rfl) fun K hK => ?_
 simp (maxSteps := 2000000) [F34r2]
 refine hK _ ?_
 refine AWp.cond _ (by rfl) (fun hlt => ?_) (fun hge => ?_)
 ·skip
  have hlt : k < l.length := by simpa using hlt
  have hd := fid_drop (fun w => decide (w = s)) l k hlt
  refine AWp.skip ?_
  refine AWp.seq ?_
  refine AWp.block ?_
  refine AWp.seq ?_
  refine AWp.regK [0,1,5,17] [] F34r4 [] (by kernel_rfl) (by rw [hC]; rfl) fun K hK => ?_
  simp (maxSteps := 2000000) [F34r4, hlt]
  (repeat refine ⟨by first | omega | (intros; omega) | assumption, ?_⟩); refine hK _ ?_
  refine AWp.cond _ (by rfl) (fun hq => ?_) (fun hq => ?_)
  ·skip
   refine AWp.seq ?_
   refine AWp.regK [4] [true,true] F34r5 [] (by kernel_rfl) (by rw [hC]; rfl) fun K hK => ?_
   simp (maxSteps := 2000000) [F34r5]
   refine hK _ ?_
   repeat refine AWp.seq ?_
   refine AWp.ret ⟨.inr rfl, _, by simp [Tryz.results34] <;> rfl, ?_⟩
   refine .clos ?_ rfl
   rw [hk2, hd, if_pos hq]; rfl
  refine AWp.skip ?_
  refine AWp.regK [0,1,5] [false,false,true] F34r3 [] (by kernel_rfl) (by rw [hC]; rfl) fun K hK => ?_
  simp (maxSteps := 2000000) [F34r3]
  (repeat refine ⟨by first | omega | (intros; omega) | assumption, ?_⟩); refine hK _ ?_
  refine ⟨k + 1, ⟨by omega, by rw [hk2, hd, if_neg (by simp [hq])]⟩, by omega, ?_⟩
  simp [wrap_nat k (by omega)]
 have hge : ¬ k < l.length := by simpa using hge
 refine AWp.exit ?_
 refine AWp.seq ?_
 refine AWp.regK [4] [true] F34r6 [] (by kernel_rfl) (by rw [hC]; rfl) fun K hK => ?_
 simp (maxSteps := 2000000) [F34r6]
 refine hK _ ?_
 repeat refine AWp.seq ?_
 refine AWp.ret ⟨.inr rfl, _, by simp [Tryz.results34] <;> rfl, ?_⟩
 refine .clos ?_ rfl
 rw [hk2, List.drop_eq_nil_of_le (by omega)]; rfl
attribute [local simp] planX encP_eq planB
theorem Deep_ok : ∀ (n : Nat) (p : PlanD), psize p < n → psize p ≤ 4194304 → Con Tryz.prog 16 [planX p] (ival (depthP p)) := by
 intro n
 induction n with
 | zero => intro p h; omega
 | succ n ih =>
  intro p hn hv
  have hsz := psize_eq p
  have hlen := psizes_len p.ins
  have hde := depthP_eq p
  refine Con.of_code Tryz.func16 (by kernel_rfl) rfl (by simp [Tryz.ntmps16]) fun C hC hM => ?_
  refine AWp.seq ?_
  refine AWp.regK [1] [false,true] F16r0 [] (by kernel_rfl) (by rw [hC]; rfl) fun K hK => ?_
  simp (maxSteps := 2000000) [F16r0]
  refine hK _ ?_
  refine AWp.seq ?_
  refine AWp.regK [1,3] [true] F16r1 [] (by kernel_rfl) (by rw [hC]; rfl) fun K hK => ?_
  simp (maxSteps := 2000000) [F16r1]
  refine hK _ ?_
  refine AWp.seq ?_
  refine AWp.seq ?_
  refine AWp.regK [1,3,4] [true] F16r2 [] (by kernel_rfl) (by rw [hC]; rfl) fun K hK => ?_
  simp (maxSteps := 2000000) [F16r2]
  refine hK _ ?_
  refine AWp.block ?_
  refine AWp.loopG (fun k : Nat => { tm := [(1, .ptr 1 0), (3, ival (depthsP (p.ins.take k))), (4, ival k)], hp := [(1, planB p)] }) (fun k => k ≤ p.ins.length) (fun k => p.ins.length - k) 0 (by omega) (by simp [depthsP]) (fun k hk => ?_)
  refine AWp.seq ?_
  refine AWp.seq ?_
  refine AWp.regK [1,3,4,9] [] F16r3 [] (by kernel_rfl) (by rw [hC]; rfl) fun K hK => ?_
  simp (maxSteps := 2000000) [F16r3]
  refine hK _ ?_
  refine AWp.cond _ (by rfl) (fun hlt => ?_) (fun hge => ?_)
  ·skip
   have hlt : k < p.ins.length := by simpa using hlt
   have hm := psize_mem (List.getElem_mem hlt)
   have hc := ih p.ins[k] (by omega) (by omega)
   refine AWp.skip ?_
   refine AWp.seq ?_
   refine AWp.block ?_
   refine AWp.regK [1,3,4] [false,false,false,false,false,false,false,false,true] F16r5 [{ r := ival (depthP p.ins[k]) }] (by kernel_rfl) (by rw [hC]; rfl) fun K hK => ?_
   simp (maxSteps := 2000000) [F16r5, hlt]
   (repeat first | refine ⟨by first | kernel_rfl | (intros; omega) | assumption, ?_⟩ | refine ⟨by intros; exact callOK rfl hc, ?_⟩); refine hK _ ?_
   refine AWp.regK [1,3,4] [false,false,true] F16r4 [] (by kernel_rfl) (by rw [hC]; rfl) fun K hK => ?_
   simp (maxSteps := 2000000) [F16r4]
   (repeat refine ⟨by first | omega | (intros; omega) | assumption, ?_⟩); refine hK _ ?_
   refine ⟨k + 1, by omega, by omega, ?_⟩
   have hd := depthsP_take p.ins k hlt
   generalize depthsP (List.take k p.ins) = a at hd ⊢
   simp [wrap_nat k (by omega), hd]
   split <;> omega
  have hge : ¬ k < p.ins.length := by simpa using hge
  have hdl := depthsP_le p.ins
  refine AWp.exit ?_
  refine AWp.seq ?_
  refine AWp.regK [2] [false,false,true] F16r6 [] (by kernel_rfl) (by rw [hC]; rfl) fun K hK => ?_
  simp (maxSteps := 2000000) [F16r6]
  (repeat refine ⟨by first | omega | (intros; omega) | assumption, ?_⟩); refine hK _ ?_
  repeat refine AWp.seq ?_
  refine AWp.ret ⟨.inr rfl, _, by simp [Tryz.results16] <;> rfl, ?_⟩
  refine .clos ?_ rfl
  rw [List.take_of_length_le (by omega), hde]
  simp [wrap_nat (depthsP p.ins) (by omega)]
theorem Deep'_ok (p : PlanD) (h : psize p ≤ 4194304) : Con Tryz.prog 16 [planX p] (ival (depthP p)) := Deep_ok _ p (Nat.lt_succ_self _) h
