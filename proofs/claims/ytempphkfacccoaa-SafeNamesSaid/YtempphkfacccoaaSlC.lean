/- The order of a body. -/
import Derived.Test.YtempphkfacccoaaSlB
import Derived.Test.YtempphkfacccoaaSlSpP
set_option linter.unusedSimpArgs false
set_option linter.unusedVariables false
open Go Go.Aw Go.Proofs
namespace Go.Sl
-- function 10: corollary/safe.Order: 101 slots; results ['(Go.ResultVar.tmp 2)', '(Go.ResultVar.tmp 3)', '(Go.ResultVar.cell 4 28)', '(Go.ResultVar.tmp 5)']
def F10r0 : List ROp := [{ dst := some 2, op := .copy true (.const (.slice none 0 0)), after := [], guard := none },
  { dst := some 3, op := .copy true (.const (.slice none 0 0)), after := [0], guard := none },
  { dst := some 4, op := .alloc 28 [Value.int .i64 0, Value.int .i64 0], after := [], guard := none },
  { dst := some 5, op := .copy true (.const (.int .i64 0)), after := [1], guard := none }]
def F10r1 : List ROp := [{ dst := some 20, op := .copy false (.tmp 0), after := [], guard := none },
  { dst := some 21, op := .len 0 (.tmp 20), after := [0], guard := none },
  { dst := some 22, op := .mkmap (some (.tmp 21)), after := [1], guard := none },
  { dst := some 6, op := .copy true (.tmp 22), after := [2, 0, 1, 2], guard := none }]
def F10r2 : List ROp := [{ dst := some 23, op := .copy false (.tmp 0), after := [], guard := none },
  { dst := some 24, op := .len 0 (.tmp 23), after := [0], guard := none },
  { dst := some 25, op := .copy false (.const (.int .i64 0)), after := [], guard := none }]
def F10r3 : List ROp := [{ dst := some 26, op := .bin .lss (.tmp 25) (.tmp 24), after := [], guard := none }]
def F10r4 : List ROp := [{ dst := some 27, op := .copy true (.tmp 25), after := [], guard := none },
  { dst := some 7, op := .copy true (.tmp 27), after := [0, 0], guard := none }]
def F10r5 : List ROp := [{ dst := some 28, op := .copy false (.tmp 6), after := [], guard := none },
  { dst := some 29, op := .copy false (.tmp 7), after := [], guard := none },
  { dst := some 30, op := .lkp 0 (Value.int .i64 0) false (.tmp 28) (.tmp 29), after := [0, 1], guard := none },
  { dst := some 31, op := .bin .add (.tmp 30) (.const (.int .i64 1)), after := [2], guard := none },
  { dst := none, op := .mupd 0 (.tmp 28) (.tmp 29) (.tmp 31), after := [0, 1, 3, 0, 1, 2, 3], guard := none }]
def F10r6 : List ROp := [{ dst := some 32, op := .bin .add (.tmp 25) (.const (.int .i64 1)), after := [], guard := none },
  { dst := some 25, op := .copy false (.tmp 32), after := [0], guard := none }]
def F10r7 : List ROp := [{ dst := some 8, op := .copy true (.const (.slice none 0 0)), after := [], guard := none }]
def F10r8 : List ROp := [{ dst := some 9, op := .alloc 32 [Value.slice none 0 0], after := [], guard := none }]
def F10r9 : List ROp := [{ dst := some 33, op := .mkmap none, after := [], guard := none },
  { dst := some 10, op := .alloc 85 [Value.map none], after := [], guard := none },
  { dst := none, op := .store 1 true (.tmp 10) (.tmp 33), after := [1, 0, 0, 1], guard := none }]
def F10r10 : List ROp := [{ dst := some 34, op := .mkf (Go.Fn.func 31) [.tmp 10], after := [], guard := none },
  { dst := some 11, op := .copy true (.tmp 34), after := [0, 0], guard := none }]
def F10r11 : List ROp := [{ dst := some 35, op := .mkf (Go.Fn.func 32) [.tmp 10, .tmp 9], after := [], guard := none },
  { dst := some 12, op := .copy true (.tmp 35), after := [0, 0], guard := none }]
def F10r12 : List ROp := [{ dst := some 36, op := .copy false (.tmp 0), after := [], guard := none },
  { dst := some 37, op := .len 0 (.tmp 36), after := [0], guard := none },
  { dst := some 38, op := .copy false (.const (.int .i64 0)), after := [], guard := none }]
def F10r13 : List ROp := [{ dst := some 39, op := .bin .lss (.tmp 38) (.tmp 37), after := [], guard := none }]
def F10r14 : List ROp := [{ dst := some 40, op := .copy true (.tmp 38), after := [], guard := none },
  { dst := some 41, op := .iad 5 (.tmp 36) (.tmp 38), after := [], guard := none },
  { dst := some 42, op := .load 5 true false (.tmp 41), after := [1], guard := none },
  { dst := some 14, op := .alloc 31 [Value.int .u8 0, Value.int .i64 0, Value.int .i64 0, Value.string ByteArray.empty, Value.slice none 0 0], after := [], guard := none },
  { dst := some 13, op := .copy true (.tmp 40), after := [0, 0, 1, 2, 3], guard := none },
  { dst := none, op := .store 5 true (.tmp 14) (.tmp 42), after := [3, 2, 4, 0, 1, 2, 3, 4], guard := none }]
def F10r15 : List ROp := [{ dst := some 43, op := .fad 4 (.tmp 14), after := [], guard := none },
  { dst := some 44, op := .load 1 false false (.tmp 43), after := [0], guard := none },
  { dst := some 45, op := .call (.func 33) [.tmp 44], after := [1], guard := none },
  { dst := some 15, op := .copy true (.tmp 45), after := [2, 2, 0, 1, 2], guard := none }]
def F10r16 : List ROp := [{ dst := some 46, op := .copy false (.tmp 6), after := [], guard := none },
  { dst := some 47, op := .copy false (.tmp 13), after := [], guard := none },
  { dst := some 48, op := .lkp 0 (Value.int .i64 0) false (.tmp 46) (.tmp 47), after := [0, 1], guard := none },
  { dst := some 49, op := .bin .eql (.tmp 48) (.const (.int .i64 0)), after := [2], guard := none },
  { dst := some 50, op := .copy false (.tmp 49), after := [3], guard := none },
  { dst := some 51, op := .fad 0 (.tmp 14), after := [4], guard := some (50, false) },
  { dst := some 52, op := .load 1 false false (.tmp 51), after := [5, 4], guard := some (50, false) },
  { dst := some 53, op := .bin .neq (.tmp 52) (.const (.int .u8 1)), after := [6, 4], guard := some (50, false) },
  { dst := some 54, op := .copy false (.tmp 53), after := [7, 4, 4], guard := some (50, false) },
  { dst := some 55, op := .copy false (.tmp 15), after := [8], guard := some (54, true) },
  { dst := some 56, op := .copy false (.tmp 11), after := [8], guard := some (54, true) },
  { dst := some 57, op := .call (.func 34) [.tmp 55, .tmp 56], after := [9, 10, 8, 8], guard := some (54, true) },
  { dst := some 58, op := .pick (.tmp 54) (.tmp 57) (.const (.bool false)), after := [8, 11, 4], guard := some (50, false) },
  { dst := some 59, op := .pick (.tmp 50) (.const (.bool true)) (.tmp 58), after := [4, 12], guard := none }]
def F10r17 : List ROp := [{ dst := some 60, op := .copy false (.tmp 6), after := [], guard := none },
  { dst := some 61, op := .copy false (.tmp 13), after := [], guard := none },
  { dst := none, op := .del 0 (.tmp 60) (.tmp 61), after := [0, 1], guard := none }]
def F10r18 : List ROp := [{ dst := some 62, op := .copy true (.tmp 8), after := [], guard := none },
  { dst := some 63, op := .copy false (.tmp 13), after := [], guard := none },
  { dst := some 64, op := .bslice 3 1 [Value.int .i64 0] 1 [(0, .tmp 63)], after := [1], guard := none },
  { dst := some 65, op := .app 3 1 8 (.tmp 62) (.tmp 64), after := [0, 2], guard := none },
  { dst := some 8, op := .copy true (.tmp 65), after := [3, 3, 0, 1, 2, 3], guard := none }]
def F10r19 : List ROp := [{ dst := some 66, op := .fad 0 (.tmp 14), after := [], guard := none },
  { dst := some 67, op := .load 1 false false (.tmp 66), after := [0], guard := none },
  { dst := some 68, op := .bin .eql (.tmp 67) (.const (.int .u8 4)), after := [1], guard := none }]
def F10r20 : List ROp := [{ dst := some 69, op := .copy false (.tmp 12), after := [], guard := none },
  { dst := some 70, op := .fad 3 (.tmp 14), after := [], guard := none },
  { dst := some 71, op := .load 1 false false (.tmp 70), after := [1], guard := none },
  { dst := some 72, op := .call (.tmp 69) [.tmp 71], after := [0, 2], guard := none }]
def F10r21 : List ROp := [{ dst := some 73, op := .copy false (.tmp 15), after := [], guard := none },
  { dst := some 74, op := .len 0 (.tmp 73), after := [0], guard := none },
  { dst := some 75, op := .copy false (.const (.int .i64 0)), after := [], guard := none }]
def F10r22 : List ROp := [{ dst := some 76, op := .bin .lss (.tmp 75) (.tmp 74), after := [], guard := none }]
def F10r23 : List ROp := [{ dst := some 77, op := .iad 1 (.tmp 73) (.tmp 75), after := [], guard := none },
  { dst := some 78, op := .load 1 false false (.tmp 77), after := [0], guard := none },
  { dst := some 17, op := .copy true (.tmp 78), after := [1, 0, 1], guard := none }]
def F10r24 : List ROp := [{ dst := some 79, op := .copy false (.tmp 12), after := [], guard := none },
  { dst := some 80, op := .copy false (.tmp 17), after := [], guard := none },
  { dst := some 81, op := .call (.tmp 79) [.tmp 80], after := [0, 1], guard := none }]
def F10r25 : List ROp := [{ dst := some 82, op := .bin .add (.tmp 75) (.const (.int .i64 1)), after := [], guard := none },
  { dst := some 75, op := .copy false (.tmp 82), after := [0], guard := none }]
def F10r26 : List ROp := [{ dst := some 83, op := .bin .add (.tmp 38) (.const (.int .i64 1)), after := [], guard := none },
  { dst := some 38, op := .copy false (.tmp 83), after := [0], guard := none }]
def F10r27 : List ROp := [{ dst := some 84, op := .copy false (.tmp 0), after := [], guard := none },
  { dst := some 85, op := .len 0 (.tmp 84), after := [0], guard := none },
  { dst := some 86, op := .copy false (.const (.int .i64 0)), after := [], guard := none }]
def F10r28 : List ROp := [{ dst := some 87, op := .bin .lss (.tmp 86) (.tmp 85), after := [], guard := none }]
def F10r29 : List ROp := [{ dst := some 88, op := .copy true (.tmp 86), after := [], guard := none },
  { dst := some 89, op := .iad 5 (.tmp 84) (.tmp 86), after := [], guard := none },
  { dst := some 90, op := .load 5 true false (.tmp 89), after := [1], guard := none },
  { dst := some 19, op := .alloc 31 [Value.int .u8 0, Value.int .i64 0, Value.int .i64 0, Value.string ByteArray.empty, Value.slice none 0 0], after := [], guard := none },
  { dst := some 18, op := .copy true (.tmp 88), after := [0, 0, 1, 2, 3], guard := none },
  { dst := none, op := .store 5 true (.tmp 19) (.tmp 90), after := [3, 2, 4, 0, 1, 2, 3, 4], guard := none }]
def F10r30 : List ROp := [{ dst := some 91, op := .copy false (.tmp 6), after := [], guard := none },
  { dst := some 92, op := .copy false (.tmp 18), after := [], guard := none },
  { dst := some 93, op := .lkp 0 (Value.int .i64 0) false (.tmp 91) (.tmp 92), after := [0, 1], guard := none },
  { dst := some 94, op := .bin .gtr (.tmp 93) (.const (.int .i64 0)), after := [2], guard := none }]
def F10r31 : List ROp := [{ dst := some 95, op := .fad 1 (.tmp 19), after := [], guard := none },
  { dst := some 96, op := .load 2 true false (.tmp 95), after := [0], guard := none },
  { dst := some 2, op := .copy true (.const (.slice none 0 0)), after := [], guard := none },
  { dst := some 3, op := .copy true (.const (.slice none 0 0)), after := [2, 2], guard := none },
  { dst := none, op := .store 2 true (.tmp 4) (.tmp 96), after := [1, 3, 0, 1, 2, 3], guard := none },
  { dst := some 5, op := .copy true (.const (.int .i64 71)), after := [4, 0, 1, 2, 3, 4], guard := none }]
def F10r32 : List ROp := [{ dst := some 97, op := .bin .add (.tmp 86) (.const (.int .i64 1)), after := [], guard := none },
  { dst := some 86, op := .copy false (.tmp 97), after := [0], guard := none }]
def F10r33 : List ROp := [{ dst := some 98, op := .copy true (.tmp 8), after := [], guard := none },
  { dst := some 99, op := .load 1 false false (.tmp 9), after := [], guard := none },
  { dst := some 100, op := .build [Value.int .i64 0, Value.int .i64 0] [], after := [], guard := none },
  { dst := some 2, op := .copy true (.tmp 98), after := [0, 0], guard := none },
  { dst := some 3, op := .copy true (.tmp 99), after := [1, 3, 0, 1, 3], guard := none },
  { dst := none, op := .store 2 true (.tmp 4) (.tmp 100), after := [2, 4, 0, 1, 2, 3, 4], guard := none },
  { dst := some 5, op := .copy true (.const (.int .i64 0)), after := [5, 0, 1, 2, 3, 4, 5], guard := none }]
@[simp] theorem ag28 : isAggT Try.prog 28 = some true := by kernel_rfl
@[simp] theorem sz28 : szOf Try.prog 28 = some 2 := by kernel_rfl
@[simp] theorem ints_len (l : List Nat) : (ints l).length = l.length := by simp [ints]
theorem ints_snoc (l : List Nat) (i : Nat) : ints l ++ [[.val (.int .i64 (i : Int))]] = ints (l ++ [i]) := by simp [ints, encI]
def freeC : AV := .clo (.func 31) [.ptr 1002 0]
def stO (l : List LitD) (s : OSt) (ts : List (Nat × AV)) : AS :=
  { tm := [(0, .rd 5 (l.map encL)), (4, .ptr 4 0), (6, .mapr 22), (8, .own 3 1 (ints s.row)), (9, .ptr 1004 0), (10, .ptr 1002 0), (11, freeC), (12, bindC)] ++ ts, hp := [(4, .cells 28 [ival 0, ival 0]), (22, .mapd (keysI s.left) (ones s.left))] ++ HB s.names }
attribute [local simp] freeC bindC HB
theorem freeCall {g : Nat → Option Blk} {names v : List ByteArray} (hv : v.length ≤ 4194304) (h0 : g 1002 = some (.cells 85 [.mapr 1003])) (h1 : g 1003 = some (.map (keysT names) (ones names))) :
    ∃ ts, RsvL g [.rd 1 (texts v), .clo (.func 31) [.ptr 1002 0]] ts ∧ Con Try.prog 34 ts (bval (v.any fun s => !hasT names s)) :=
  ⟨_, .cons (.closed rfl) (.cons (.clo (.cons (.ptr h0 (.cons (.mapr h1 (RsvL.closed (ones_noref _))) .nil)) .nil)) .nil),
    ContainsFunc_ok v hv 31 [.elt 1 [[boundMap names]] 0 0] rfl _ fun x _ => free_ok names x⟩
def stI (l : List LitD) (k : Nat) : AS :=
  { tm := [(0, .rd 5 (l.map encL)), (4, .ptr 4 0), (6, .mapr 22), (24, ival l.length), (25, ival k)], hp := [(4, .cells 28 [ival 0, ival 0]), (22, .map (keysI (List.range k)) (ones (List.range k)))] }
def OJ (l : List LitD) (s : AS) : Prop := ∃ st, OInv l st ∧ s = stO l st []
def Oμ (s : AS) : Nat := match lk s.hp 22 with | some (.mapd ks _) => ks.length | _ => 0
theorem Oμ_st (l : List LitD) (s : OSt) (ts : List (Nat × AV)) : Oμ (stO l s ts) = s.left.length := by simp [Oμ, stO, lk, keysI]
set_option maxHeartbeats 4000000 in
/-- from the label on -/
theorem Order_round (l : List LitD) (hlen : l.length ≤ 4194304) (hw : wts l ≤ 4194304) {C : Ctx} (hC : C.N = 101) (J : AS → Prop) (st : OSt) (hi : OInv l st) (hJ : ∀ st', OInv l st' → st'.left.length < st.left.length → J (stO l st' [])) :
    AWp Try.prog C (codeAt [1, 0, 1, 1, 1, 1, 1, 1, 1, 1] (Try.f10.body.getD .skip)) (jumpQ 0 J fun e s => (e = .normal ∨ e = .ret) ∧ Aw.Ends Try.prog Try.f10.results.toList (encO (orderE l)) s) (stO l st []) := by
  have hrl := hi.row
  have hwt := hi.wt
  refine AWp.seq ?_
  refine AWp.seq ?_
  refine AWp.reg [] F10r12 [] (by kernel_rfl) (by rw [hC]; rfl) fun K hK => ?_
  simp [F10r12, stO]
  first | refine hK _ ?_ | refine ⟨by omega, hK _ ?_⟩ | refine ⟨by omega, by omega, hK _ ?_⟩ | refine ⟨by omega, by omega, by omega, hK _ ?_⟩ | refine ⟨by omega, by omega, by omega, by omega, hK _ ?_⟩
  refine AWp.block ?_
  refine AWp.loopG (fun i : Nat => stO l st [(36, .rd 5 (l.map encL)), (37, ival l.length), (38, ival i)]) (fun i => i ≤ l.length ∧ nextFrom l st.left st.names l 0 = nextFrom l st.left st.names (l.drop i) i) (fun i => l.length - i) 0 (by simp) (by simp [stO]) (fun i hk => ?_)
  obtain ⟨hk1, hk2⟩ := hk
  refine AWp.seq ?_
  refine AWp.reg [] F10r13 [] (by kernel_rfl) (by rw [hC]; rfl) fun K hK => ?_
  simp [F10r13, stO]
  first | refine hK _ ?_ | refine ⟨by omega, hK _ ?_⟩ | refine ⟨by omega, by omega, hK _ ?_⟩ | refine ⟨by omega, by omega, by omega, hK _ ?_⟩ | refine ⟨by omega, by omega, by omega, by omega, hK _ ?_⟩
  refine AWp.seq ?_
  refine AWp.cond (decide (i < l.length)) (by simp) (fun hlt => ?_) (fun hge => ?_)
  · skip
    have hlt : i < l.length := by simpa using hlt
    have hd := next_drop l st.left st.names i hlt
    have hget : l[i]? = some l[i] := by simp [hlt]
    have hwx : wtL l[i] ≤ wts l := wtL_le l i _ hget
    obtain ⟨x, hx⟩ : ∃ x, l[i] = x := ⟨_, rfl⟩
    rw [hx] at hd hget hwx
    have hvl := varsOf_len x.args
    have hwx2 : wtL x = 1 + sizes x.args := rfl
    have hv := vars_ok x.args (by omega)
    have hgI := kvGet_I i st.left
    refine AWp.skip ?_
    refine AWp.seq ?_
    refine AWp.block ?_
    refine AWp.seq ?_
    refine AWp.reg [true, false, false, false, true, true] F10r14 [] (by kernel_rfl) (by rw [hC]; rfl) fun K hK => ?_
    simp [F10r14, hlt, hx, encL]
    first | refine hK _ ?_ | refine ⟨by omega, hK _ ?_⟩ | refine ⟨by omega, by omega, hK _ ?_⟩ | refine ⟨by omega, by omega, by omega, hK _ ?_⟩ | refine ⟨by omega, by omega, by omega, by omega, hK _ ?_⟩
    refine AWp.seq ?_
    refine AWp.reg [false, false, false, true] F10r15 [{ r := .rd 1 (texts (varsOf x.args)) }] (by kernel_rfl) (by rw [hC]; rfl) fun K hK => ?_
    simp [F10r15, encL]
    refine ⟨callOK rfl hv, hK _ ?_⟩
    refine AWp.seqJ (fun _ : Unit => { stO l st [(36, .rd 5 (l.map encL)), (37, ival l.length), (38, ival i), (13, ival i), (14, .ptr 14 0), (15, .rd 1 (texts (varsOf x.args)))] with hp := (14, .cells 31 (encL x)) :: (stO l st []).hp }) (fun _ => ready l st.left st.names i x = true) ?_ (fun hJ => ?_)
    · skip
      rintro - hrd
      have hc : st.left.contains i = true := by simp only [ready, Bool.and_eq_true] at hrd; exact hrd.1
      have hm : i ∈ st.left := by simpa using hc
      have hn : nextFrom l st.left st.names l 0 = some (i, x) := by rw [hk2, hd, hrd]; rfl
      obtain ⟨hi', hlt'⟩ := hi.step hget hn hm
      have hdel := kvDel_I i st.left
      refine AWp.seq ?_
      refine AWp.reg [] F10r17 [] (by kernel_rfl) (by rw [hC]; rfl) fun K hK => ?_
      simp [F10r17, stO, encL, hdel, ints_snoc]
      first | refine hK _ ?_ | refine ⟨by omega, hK _ ?_⟩ | refine ⟨by omega, by omega, hK _ ?_⟩ | refine ⟨by omega, by omega, by omega, hK _ ?_⟩ | refine ⟨by omega, by omega, by omega, by omega, hK _ ?_⟩
      refine AWp.seq ?_
      refine AWp.reg [true, false, false, false, true] F10r18 [] (by kernel_rfl) (by rw [hC]; rfl) fun K hK => ?_
      simp [F10r18, stO, encL, hdel, ints_snoc]
      first | refine hK _ ?_ | refine ⟨by omega, hK _ ?_⟩ | refine ⟨by omega, by omega, hK _ ?_⟩ | refine ⟨by omega, by omega, by omega, hK _ ?_⟩ | refine ⟨by omega, by omega, by omega, by omega, hK _ ?_⟩
      have hbl : (if x.kind = 4 then addT st.names x.rel else st.names).length ≤ st.names.length + 1 := by
        split
        · exact addT_len _ _
        · omega
      refine AWp.seqJ (fun _ : Unit => stO l ⟨st.left.erase i, st.row ++ [i], if x.kind = 4 then addT st.names x.rel else st.names⟩ [(15, .rd 1 (texts (varsOf x.args)))]) (fun _ => True) ?_ (fun hJ => ?_)
      · skip
        rintro - -
        have hg : gain st.names x = (varsOf x.args).foldl addT (if x.kind = 4 then addT st.names x.rel else st.names) := rfl
        generalize (if x.kind = 4 then addT st.names x.rel else st.names) = n0 at *
        refine AWp.seq ?_
        refine AWp.seq ?_
        refine AWp.reg [] F10r21 [] (by kernel_rfl) (by rw [hC]; rfl) fun K hK => ?_
        simp [F10r21, stO]
        first | refine hK _ ?_ | refine ⟨by omega, hK _ ?_⟩ | refine ⟨by omega, by omega, hK _ ?_⟩ | refine ⟨by omega, by omega, by omega, hK _ ?_⟩ | refine ⟨by omega, by omega, by omega, by omega, hK _ ?_⟩
        refine AWp.block ?_
        refine AWp.loopG (fun c : Nat => stO l ⟨st.left.erase i, st.row ++ [i], ((varsOf x.args).take c).foldl addT n0⟩ [(73, .rd 1 (texts (varsOf x.args))), (74, ival (varsOf x.args).length), (75, ival c)]) (fun c => c ≤ (varsOf x.args).length) (fun c => (varsOf x.args).length - c) 0 (by simp) (by simp [stO]) (fun c hcc => ?_)
        have hl3 : (((varsOf x.args).take c).foldl addT n0).length ≤ n0.length + c := by
          have key : ∀ (v n : List ByteArray), (v.foldl addT n).length ≤ n.length + v.length := by
            intro v
            induction v with
            | nil => intro n; simp
            | cons a v ih => intro n; rw [List.foldl_cons, List.length_cons]; have := ih (addT n a); have := addT_len n a; omega
          have := key ((varsOf x.args).take c) n0
          simp only [List.length_take] at this
          omega
        refine AWp.seq ?_
        refine AWp.reg [] F10r22 [] (by kernel_rfl) (by rw [hC]; rfl) fun K hK => ?_
        simp [F10r22, stO]
        first | refine hK _ ?_ | refine ⟨by omega, hK _ ?_⟩ | refine ⟨by omega, by omega, hK _ ?_⟩ | refine ⟨by omega, by omega, by omega, hK _ ?_⟩ | refine ⟨by omega, by omega, by omega, by omega, hK _ ?_⟩
        refine AWp.seq ?_
        refine AWp.cond (decide (c < (varsOf x.args).length)) (by simp) (fun hltc => ?_) (fun hgec => ?_)
        · skip
          have hltc : c < (varsOf x.args).length := by simpa using hltc
          have hs3 : ((varsOf x.args).take (c + 1)).foldl addT n0 = addT (((varsOf x.args).take c).foldl addT n0) (varsOf x.args)[c] := by rw [List.take_succ_eq_append_getElem hltc, List.foldl_append]; rfl
          generalize ((varsOf x.args).take c).foldl addT n0 = n1 at *
          refine AWp.skip ?_
          refine AWp.seq ?_
          refine AWp.block ?_
          refine AWp.seq ?_
          refine AWp.reg [false, false, true] F10r23 [] (by kernel_rfl) (by rw [hC]; rfl) fun K hK => ?_
          simp [F10r23, hltc]
          first | refine hK _ ?_ | refine ⟨by omega, hK _ ?_⟩ | refine ⟨by omega, by omega, hK _ ?_⟩ | refine ⟨by omega, by omega, by omega, hK _ ?_⟩ | refine ⟨by omega, by omega, by omega, by omega, hK _ ?_⟩
          refine AWp.reg [] F10r24 [{ r := .tup [], us := [1002, 1003, 1004], bs := HB (addT n1 (varsOf x.args)[c]) }] (by kernel_rfl) (by rw [hC]; rfl) fun K hK => ?_
          simp [F10r24, hltc]
          refine ⟨bind_call (by omega) rfl rfl rfl, hK _ ?_⟩
          refine AWp.reg [] F10r25 [] (by kernel_rfl) (by rw [hC]; rfl) fun K hK => ?_
          simp [F10r25]
          first | refine hK _ ?_ | refine ⟨by omega, hK _ ?_⟩ | refine ⟨by omega, by omega, hK _ ?_⟩ | refine ⟨by omega, by omega, by omega, hK _ ?_⟩ | refine ⟨by omega, by omega, by omega, by omega, hK _ ?_⟩
          refine ⟨c + 1, by omega, by omega, ?_⟩
          simp only [stO, hs3]
          simp [wrap_nat c (by omega)]
        have hgec : ¬ c < (varsOf x.args).length := by simpa using hgec
        refine AWp.exit ?_
        refine AWp.forget (s' := stO l ⟨st.left.erase i, st.row ++ [i], gain st.names x⟩ []) ?_ ?_
        · rw [hg, List.take_of_length_le (show (varsOf x.args).length ≤ c by omega)]
          simp [stO]
        refine AWp.goto ?_
        exact ⟨rfl, hJ _ hi' hlt'⟩
      refine AWp.seq ?_
      refine AWp.reg [] F10r19 [] (by kernel_rfl) (by rw [hC]; rfl) fun K hK => ?_
      simp [F10r19, encL]
      first | refine hK _ ?_ | refine ⟨by omega, hK _ ?_⟩ | refine ⟨by omega, by omega, hK _ ?_⟩ | refine ⟨by omega, by omega, by omega, hK _ ?_⟩ | refine ⟨by omega, by omega, by omega, by omega, hK _ ?_⟩
      refine AWp.cond (x.kind == 4) (by simp) (fun h4 => ?_) (fun h4 => ?_)
      · skip
        have h4 : x.kind = 4 := by simpa using h4
        refine AWp.reg [] F10r20 [{ r := .tup [], us := [1002, 1003, 1004], bs := HB (addT st.names x.rel) }] (by kernel_rfl) (by rw [hC]; rfl) fun K hK => ?_
        simp [F10r20, encL]
        refine ⟨bind_call (by omega) rfl rfl rfl, hK _ ?_⟩
        exact hJ _ () trivial (by simp [stO, h4])
      have h4 : ¬ x.kind = 4 := by simpa using h4
      refine AWp.skip ?_
      exact hJ _ () trivial (by simp [stO, h4])
    cases hc : st.left.contains i with
    | false =>
      rw [hc] at hgI
      have hrd : ready l st.left st.names i x = false := by simp only [ready, hc, Bool.false_and]
      refine AWp.seq ?_
      refine AWp.reg [] F10r16 [{}] (by kernel_rfl) (by rw [hC]; rfl) fun K hK => ?_
      simp [F10r16, hgI]
      refine hK _ ?_
      refine AWp.cond true (by simp) (fun _ => ?_) (fun he => by cases he)
      refine AWp.exit ?_
      refine AWp.reg [] F10r26 [] (by kernel_rfl) (by rw [hC]; rfl) fun K hK => ?_
      simp [F10r26]
      first | refine hK _ ?_ | refine ⟨by omega, hK _ ?_⟩ | refine ⟨by omega, by omega, hK _ ?_⟩ | refine ⟨by omega, by omega, by omega, hK _ ?_⟩ | refine ⟨by omega, by omega, by omega, by omega, hK _ ?_⟩
      refine ⟨i + 1, ⟨by omega, by rw [hk2, hd, hrd]; rfl⟩, by omega, ?_⟩
      simp [stO, wrap_nat i (by omega)]
    | true =>
      rw [hc] at hgI
      cases hkd : (x.kind == 1) with
      | true =>
        have hkx : x.kind = 1 := by simpa using hkd
        have hrd : ready l st.left st.names i x = true := by simp only [ready, hc, Bool.true_and, hkx, decide_true, Bool.true_or]
        refine AWp.seq ?_
        refine AWp.reg [] F10r16 [{}] (by kernel_rfl) (by rw [hC]; rfl) fun K hK => ?_
        simp [F10r16, hgI, hkx]
        refine hK _ ?_
        refine AWp.cond false (by simp) (fun he => by cases he) (fun _ => ?_)
        refine AWp.skip ?_
        exact hJ _ () hrd (by simp [stO, encL, hkx])
      | false =>
        have hkx : ¬ x.kind = 1 := by simpa using hkd
        have hkn : (x.kind != 1) = true := by simpa using hkx
        have hrd : ready l st.left st.names i x = !((varsOf x.args).any fun s => !hasT st.names s) := by
          simp only [ready, hc, Bool.true_and, hkx, decide_false, Bool.false_or, lvars, List.all_eq_not_any_not]
        cases hf : (varsOf x.args).any fun s => !hasT st.names s with
        | true =>
          rw [hf] at hrd
          refine AWp.seq ?_
          refine AWp.reg [] F10r16 [{ r := bval true, us := [1002, 1003] }] (by kernel_rfl) (by rw [hC]; rfl) fun K hK => ?_
          simp [F10r16, hgI, hkn, hkx]
          refine ⟨hf ▸ freeCall (by omega) rfl rfl, hK _ ?_⟩
          refine AWp.cond true (by simp) (fun _ => ?_) (fun he => by cases he)
          refine AWp.exit ?_
          refine AWp.reg [] F10r26 [] (by kernel_rfl) (by rw [hC]; rfl) fun K hK => ?_
          simp [F10r26]
          first | refine hK _ ?_ | refine ⟨by omega, hK _ ?_⟩ | refine ⟨by omega, by omega, hK _ ?_⟩ | refine ⟨by omega, by omega, by omega, hK _ ?_⟩ | refine ⟨by omega, by omega, by omega, by omega, hK _ ?_⟩
          refine ⟨i + 1, ⟨by omega, by rw [hk2, hd, hrd]; rfl⟩, by omega, ?_⟩
          simp [stO, wrap_nat i (by omega)]
        | false =>
          rw [hf] at hrd
          refine AWp.seq ?_
          refine AWp.reg [] F10r16 [{ r := bval false, us := [1002, 1003] }] (by kernel_rfl) (by rw [hC]; rfl) fun K hK => ?_
          simp [F10r16, hgI, hkn, hkx]
          refine ⟨hf ▸ freeCall (by omega) rfl rfl, hK _ ?_⟩
          refine AWp.cond false (by simp) (fun he => by cases he) (fun _ => ?_)
          refine AWp.skip ?_
          exact hJ _ () hrd (by simp [stO, encL])
  have hge : ¬ i < l.length := by simpa using hge
  have hnone : nextFrom l st.left st.names l 0 = none := by rw [hk2, List.drop_eq_nil_of_le (by omega)]; rfl
  have hend := hi.done hnone
  refine AWp.exit ?_
  refine AWp.seq ?_
  refine AWp.seq ?_
  refine AWp.reg [] F10r27 [] (by kernel_rfl) (by rw [hC]; rfl) fun K hK => ?_
  simp [F10r27, stO]
  first | refine hK _ ?_ | refine ⟨by omega, hK _ ?_⟩ | refine ⟨by omega, by omega, hK _ ?_⟩ | refine ⟨by omega, by omega, by omega, hK _ ?_⟩ | refine ⟨by omega, by omega, by omega, by omega, hK _ ?_⟩
  refine AWp.block ?_
  refine AWp.loopG (fun i : Nat => stO l st [(84, .rd 5 (l.map encL)), (85, ival l.length), (86, ival i)]) (fun i => i ≤ l.length ∧ leftFrom st.left l 0 = leftFrom st.left (l.drop i) i) (fun i => l.length - i) 0 (by simp) (by simp [stO]) (fun i hk => ?_)
  obtain ⟨hk1, hk2⟩ := hk
  refine AWp.seq ?_
  refine AWp.reg [] F10r28 [] (by kernel_rfl) (by rw [hC]; rfl) fun K hK => ?_
  simp [F10r28, stO]
  first | refine hK _ ?_ | refine ⟨by omega, hK _ ?_⟩ | refine ⟨by omega, by omega, hK _ ?_⟩ | refine ⟨by omega, by omega, by omega, hK _ ?_⟩ | refine ⟨by omega, by omega, by omega, by omega, hK _ ?_⟩
  refine AWp.seq ?_
  refine AWp.cond (decide (i < l.length)) (by simp) (fun hlt => ?_) (fun hge2 => ?_)
  · skip
    have hlt : i < l.length := by simpa using hlt
    have hd := left_drop st.left l i hlt
    obtain ⟨x, hx⟩ : ∃ x, l[i] = x := ⟨_, rfl⟩
    rw [hx] at hd
    have hgI := kvGet_I i st.left
    cases hc : st.left.contains i with
    | true =>
      rw [hc] at hgI hd
      refine AWp.skip ?_
      refine AWp.seq ?_
      refine AWp.block ?_
      refine AWp.seq ?_
      refine AWp.reg [true, false, false, false, true, true] F10r29 [] (by kernel_rfl) (by rw [hC]; rfl) fun K hK => ?_
      simp [F10r29, hlt, hx, encL, hgI]
      first | refine hK _ ?_ | refine ⟨by omega, hK _ ?_⟩ | refine ⟨by omega, by omega, hK _ ?_⟩ | refine ⟨by omega, by omega, by omega, hK _ ?_⟩ | refine ⟨by omega, by omega, by omega, by omega, hK _ ?_⟩
      refine AWp.seq ?_
      refine AWp.reg [] F10r30 [] (by kernel_rfl) (by rw [hC]; rfl) fun K hK => ?_
      simp [F10r30, hlt, hx, encL, hgI]
      first | refine hK _ ?_ | refine ⟨by omega, hK _ ?_⟩ | refine ⟨by omega, by omega, hK _ ?_⟩ | refine ⟨by omega, by omega, by omega, hK _ ?_⟩ | refine ⟨by omega, by omega, by omega, by omega, hK _ ?_⟩
      refine AWp.cond true (by simp) (fun _ => ?_) (fun he => by cases he)
      refine AWp.seq ?_
      refine AWp.regD ops_mixed [false, false, true, true, true, true] F10r31 [] (by kernel_rfl) (by rw [hC]; rfl) rfl (fun K hK => ?_) (by simp [F10r31] <;> rfl)
      simp [F10r31]
      first | refine hK _ ?_ | refine ⟨by omega, hK _ ?_⟩ | refine ⟨by omega, by omega, hK _ ?_⟩ | refine ⟨by omega, by omega, by omega, hK _ ?_⟩ | refine ⟨by omega, by omega, by omega, by omega, hK _ ?_⟩
      repeat refine AWp.seq ?_
      refine AWp.ret ⟨.inr rfl, _, by simp [Try.results10] <;> rfl, ?_⟩
      have he : orderE l = ([], [], x.line, x.col, 71) := by simp only [orderE, hend]; rw [hk2, hd]; rfl
      rw [he]
      exact .tup (.cons .nil (.cons .nil (.cons (.closed rfl) (.cons (.closed rfl) .nil))))
    | false =>
      rw [hc] at hgI hd
      refine AWp.skip ?_
      refine AWp.seq ?_
      refine AWp.block ?_
      refine AWp.seq ?_
      refine AWp.reg [true, false, false, false, true, true] F10r29 [] (by kernel_rfl) (by rw [hC]; rfl) fun K hK => ?_
      simp [F10r29, hlt, hx, encL, hgI]
      first | refine hK _ ?_ | refine ⟨by omega, hK _ ?_⟩ | refine ⟨by omega, by omega, hK _ ?_⟩ | refine ⟨by omega, by omega, by omega, hK _ ?_⟩ | refine ⟨by omega, by omega, by omega, by omega, hK _ ?_⟩
      refine AWp.seq ?_
      refine AWp.reg [] F10r30 [] (by kernel_rfl) (by rw [hC]; rfl) fun K hK => ?_
      simp [F10r30, hlt, hx, encL, hgI]
      first | refine hK _ ?_ | refine ⟨by omega, hK _ ?_⟩ | refine ⟨by omega, by omega, hK _ ?_⟩ | refine ⟨by omega, by omega, by omega, hK _ ?_⟩ | refine ⟨by omega, by omega, by omega, by omega, hK _ ?_⟩
      refine AWp.cond false (by simp) (fun he => by cases he) (fun _ => ?_)
      refine AWp.skip ?_
      refine AWp.reg [] F10r32 [] (by kernel_rfl) (by rw [hC]; rfl) fun K hK => ?_
      simp [F10r32]
      first | refine hK _ ?_ | refine ⟨by omega, hK _ ?_⟩ | refine ⟨by omega, by omega, hK _ ?_⟩ | refine ⟨by omega, by omega, by omega, hK _ ?_⟩ | refine ⟨by omega, by omega, by omega, by omega, hK _ ?_⟩
      refine ⟨i + 1, ⟨by omega, by rw [hk2, hd]; rfl⟩, by omega, ?_⟩
      simp [stO, wrap_nat i (by omega)]
  have hge2 : ¬ i < l.length := by simpa using hge2
  refine AWp.exit ?_
  refine AWp.seq ?_
  refine AWp.regD ops_mixed [true, false, false, true, true, true, true] F10r33 [] (by kernel_rfl) (by rw [hC]; rfl) rfl (fun K hK => ?_) (by simp [F10r33, stO] <;> rfl)
  simp [F10r33, stO]
  first | refine hK _ ?_ | refine ⟨by omega, hK _ ?_⟩ | refine ⟨by omega, by omega, hK _ ?_⟩ | refine ⟨by omega, by omega, by omega, hK _ ?_⟩ | refine ⟨by omega, by omega, by omega, by omega, hK _ ?_⟩
  repeat refine AWp.seq ?_
  refine AWp.ret ⟨.inr rfl, _, by simp [Try.results10] <;> rfl, ?_⟩
  have he : orderE l = (st.row, st.names, 0, 0, 0) := by simp only [orderE, hend]; rw [hk2, List.drop_eq_nil_of_le (by omega)]; rfl
  rw [he]
  exact .tup (.cons .own (.cons (.closed rfl) (.cons (.closed rfl) (.cons (.closed rfl) .nil))))
set_option maxHeartbeats 4000000 in
theorem Order_ok (l : List LitD) (hl : wts l ≤ 4194304) : Con Try.prog 10 [.rd 5 (l.map encL)] (encO (orderE l)) := by
  have hlen : l.length ≤ wts l := by
    unfold wts
    have : ∀ l : List LitD, l.length ≤ (l.map wtL).sum := by
      intro l
      induction l with
      | nil => simp
      | cons x l ih => simp only [List.length_cons, List.map_cons, List.sum_cons, wtL]; omega
    exact this l
  refine Con.of_code Try.func10 (by kernel_rfl) rfl (by simp [Try.ntmps10]) fun C hC hM => ?_
  refine AWp.seq ?_
  refine AWp.reg [true, true, false, true] F10r0 [] (by kernel_rfl) (by rw [hC]; rfl) fun K hK => ?_
  simp [F10r0]
  first | refine hK _ ?_ | refine ⟨by omega, hK _ ?_⟩ | refine ⟨by omega, by omega, hK _ ?_⟩ | refine ⟨by omega, by omega, by omega, hK _ ?_⟩ | refine ⟨by omega, by omega, by omega, by omega, hK _ ?_⟩
  refine AWp.scope 0 (OJ l) Oμ rfl ?_ (fun s hs => ?_)
  · skip
    refine AWp.seq ?_
    refine AWp.reg [false, false, false, true] F10r1 [] (by kernel_rfl) (by rw [hC]; rfl) fun K hK => ?_
    simp [F10r1]
    first | refine hK _ ?_ | refine ⟨by omega, hK _ ?_⟩ | refine ⟨by omega, by omega, hK _ ?_⟩ | refine ⟨by omega, by omega, by omega, hK _ ?_⟩ | refine ⟨by omega, by omega, by omega, by omega, hK _ ?_⟩
    refine AWp.seq ?_
    refine AWp.seq ?_
    refine AWp.reg [] F10r2 [] (by kernel_rfl) (by rw [hC]; rfl) fun K hK => ?_
    simp [F10r2]
    first | refine hK _ ?_ | refine ⟨by omega, hK _ ?_⟩ | refine ⟨by omega, by omega, hK _ ?_⟩ | refine ⟨by omega, by omega, by omega, hK _ ?_⟩ | refine ⟨by omega, by omega, by omega, by omega, hK _ ?_⟩
    refine AWp.block ?_
    refine AWp.loopG (stI l) (fun k => k ≤ l.length) (fun k => l.length - k) 0 (by simp) (by simp [stI]) (fun k hk => ?_)
    refine AWp.seq ?_
    refine AWp.reg [] F10r3 [] (by kernel_rfl) (by rw [hC]; rfl) fun K hK => ?_
    simp [F10r3, stI]
    first | refine hK _ ?_ | refine ⟨by omega, hK _ ?_⟩ | refine ⟨by omega, by omega, hK _ ?_⟩ | refine ⟨by omega, by omega, by omega, hK _ ?_⟩ | refine ⟨by omega, by omega, by omega, by omega, hK _ ?_⟩
    refine AWp.seq ?_
    refine AWp.cond (decide (k < l.length)) (by simp) (fun hlt => ?_) (fun hge => ?_)
    · skip
      have hlt : k < l.length := by simpa using hlt
      have hc : (List.range k).contains k = false := by simp
      have hg := kvGet_I k (List.range k)
      rw [hc] at hg
      have hset := fun y hy => kvSet_I k y hy (List.range k) hc
      have hw : IntKind.i64.wrap 1 = 1 := rfl
      refine AWp.skip ?_
      refine AWp.seq ?_
      refine AWp.block ?_
      refine AWp.seq ?_
      refine AWp.reg [true, true] F10r4 [] (by kernel_rfl) (by rw [hC]; rfl) fun K hK => ?_
      simp [F10r4, hg, hset]
      first | refine hK _ ?_ | refine ⟨by omega, hK _ ?_⟩ | refine ⟨by omega, by omega, hK _ ?_⟩ | refine ⟨by omega, by omega, by omega, hK _ ?_⟩ | refine ⟨by omega, by omega, by omega, by omega, hK _ ?_⟩
      refine AWp.reg [] F10r5 [] (by kernel_rfl) (by rw [hC]; rfl) fun K hK => ?_
      simp [F10r5, hg, hset]
      first | refine hK _ ?_ | refine ⟨by omega, hK _ ?_⟩ | refine ⟨by omega, by omega, hK _ ?_⟩ | refine ⟨by omega, by omega, by omega, hK _ ?_⟩ | refine ⟨by omega, by omega, by omega, by omega, hK _ ?_⟩
      refine AWp.reg [] F10r6 [] (by kernel_rfl) (by rw [hC]; rfl) fun K hK => ?_
      simp [F10r6, hg, hset]
      first | refine hK _ ?_ | refine ⟨by omega, hK _ ?_⟩ | refine ⟨by omega, by omega, hK _ ?_⟩ | refine ⟨by omega, by omega, by omega, hK _ ?_⟩ | refine ⟨by omega, by omega, by omega, by omega, hK _ ?_⟩
      refine ⟨k + 1, by omega, by omega, ?_⟩
      rw [stI, List.range_succ]
      simp [hw, hset _ rfl, wrap_nat k (by omega)]
    have hge : ¬ k < l.length := by simpa using hge
    have hkl : k = l.length := by omega
    subst hkl
    refine AWp.exit ?_
    refine AWp.seq ?_
    refine AWp.reg [true] F10r7 [] (by kernel_rfl) (by rw [hC]; rfl) fun K hK => ?_
    simp [F10r7]
    first | refine hK _ ?_ | refine ⟨by omega, hK _ ?_⟩ | refine ⟨by omega, by omega, hK _ ?_⟩ | refine ⟨by omega, by omega, by omega, hK _ ?_⟩ | refine ⟨by omega, by omega, by omega, by omega, hK _ ?_⟩
    refine AWp.seq ?_
    refine AWp.reg [] F10r8 [] (by kernel_rfl) (by rw [hC]; rfl) fun K hK => ?_
    simp [F10r8]
    first | refine hK _ ?_ | refine ⟨by omega, hK _ ?_⟩ | refine ⟨by omega, by omega, hK _ ?_⟩ | refine ⟨by omega, by omega, by omega, hK _ ?_⟩ | refine ⟨by omega, by omega, by omega, by omega, hK _ ?_⟩
    refine AWp.seq ?_
    refine AWp.reg [false, false, true] F10r9 [] (by kernel_rfl) (by rw [hC]; rfl) fun K hK => ?_
    simp [F10r9]
    first | refine hK _ ?_ | refine ⟨by omega, hK _ ?_⟩ | refine ⟨by omega, by omega, hK _ ?_⟩ | refine ⟨by omega, by omega, by omega, hK _ ?_⟩ | refine ⟨by omega, by omega, by omega, by omega, hK _ ?_⟩
    refine AWp.seq ?_
    refine AWp.reg [false, true] F10r10 [] (by kernel_rfl) (by rw [hC]; rfl) fun K hK => ?_
    simp [F10r10]
    first | refine hK _ ?_ | refine ⟨by omega, hK _ ?_⟩ | refine ⟨by omega, by omega, hK _ ?_⟩ | refine ⟨by omega, by omega, by omega, hK _ ?_⟩ | refine ⟨by omega, by omega, by omega, by omega, hK _ ?_⟩
    refine AWp.seq ?_
    refine AWp.reg [false, true] F10r11 [] (by kernel_rfl) (by rw [hC]; rfl) fun K hK => ?_
    simp [F10r11]
    first | refine hK _ ?_ | refine ⟨by omega, hK _ ?_⟩ | refine ⟨by omega, by omega, hK _ ?_⟩ | refine ⟨by omega, by omega, by omega, hK _ ?_⟩ | refine ⟨by omega, by omega, by omega, by omega, hK _ ?_⟩
    refine AWp.seq ?_
    refine AWp.label ?_
    refine AWp.renP hM 9 1004 (by decide) (by simp) _ rfl ?_
    refine AWp.renP hM 10 1002 (by decide) (by simp) _ rfl ?_
    refine AWp.renP hM 33 1003 (by decide) (by simp) _ rfl ?_
    refine AWp.forget (s' := stO l ⟨List.range l.length, [], []⟩ []) (by simp [stO]) ?_
    exact Order_round l (by omega) hl hC _ _ (OInv.init l hl) fun st' h _ => ⟨st', h, rfl⟩
  · obtain ⟨st, hst, rfl⟩ := hs
    refine AWp.seq (AWp.skip ?_)
    exact Order_round l (by omega) hl hC _ st hst fun st' h hlt => ⟨⟨st', h, rfl⟩, by rw [Oμ_st, Oμ_st]; exact hlt⟩
end Go.Sl
