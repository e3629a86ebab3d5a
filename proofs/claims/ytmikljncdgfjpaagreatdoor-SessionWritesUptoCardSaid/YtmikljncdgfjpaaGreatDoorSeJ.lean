/- The program's session: its small functions. -/
import Derived.Test.YtmikljncdgfjpaaGreatDoorSeD
import Derived.Test.YtmikljncdgfjpaaGreatDoorSeH
import Derived.Test.YtmikljncdgfjpaaGreatDoorSeI
set_option linter.unusedSimpArgs false
set_option linter.unusedVariables false
open Go Go.Aw Go.Proofs
namespace Go.Se
set_option maxRecDepth 20000
-- function 90: corollary/session.count
def F90r0 : List ROp := [⟨some 2, .copy true (.const (.bool false)), [], none⟩]
def F90r1 : List ROp := [⟨some 3, .copy false (.tmp 0), [], none⟩,
  ⟨some 4, .bin .geq (.tmp 3) (.const (.int .i64 0)), [], none⟩,
  ⟨some 5, .copy false (.tmp 4), [], none⟩,
  ⟨some 6, .copy false (.tmp 0), [], some (5, true)⟩,
  ⟨some 7, .bin .leq (.tmp 6) (.const (.int .i64 2147483647)), [], some (5, true)⟩,
  ⟨some 8, .pick (.tmp 5) (.tmp 7) (.const (.bool false)), [], none⟩,
  ⟨some 2, .copy true (.tmp 8), [], none⟩]
-- function 93: corollary/session.changes
def F93r0 : List ROp := [⟨some 2, .copy true (.const (.bool false)), [], none⟩]
def F93r1 : List ROp := [⟨some 3, .copy false (.tmp 0), [], none⟩,
  ⟨some 4, .len 0 (.tmp 3), [], none⟩,
  ⟨some 5, .bin .leq (.tmp 4) (.const (.int .i64 100000)), [], none⟩,
  ⟨some 6, .copy false (.tmp 5), [], none⟩,
  ⟨some 7, .copy false (.tmp 0), [], some (6, true)⟩,
  ⟨some 8, .call (.func 115) [.tmp 7, .func 116], [], some (6, true)⟩,
  ⟨some 9, .un .not (.tmp 8), [], some (6, true)⟩,
  ⟨some 10, .pick (.tmp 6) (.tmp 9) (.const (.bool false)), [], none⟩,
  ⟨some 2, .copy true (.tmp 10), [], none⟩]
-- function 116: corollary/session.changes$1
def F116r0 : List ROp := [⟨some 1, .box 67 (.tmp 0), [], none⟩,
  ⟨some 2, .copy true (.const (.bool false)), [], none⟩]
def F116r1 : List ROp := [⟨some 3, .fad 2 (.tmp 1), [], none⟩,
  ⟨some 4, .load 1 false false (.tmp 3), [], none⟩,
  ⟨some 5, .bin .neq (.tmp 4) (.const (.int .i64 1)), [], none⟩,
  ⟨some 6, .copy false (.tmp 5), [], none⟩,
  ⟨some 7, .fad 2 (.tmp 1), [], some (6, true)⟩,
  ⟨some 8, .load 1 false false (.tmp 7), [], some (6, true)⟩,
  ⟨some 9, .bin .neq (.tmp 8) (.const (.int .i64 (-1))), [], some (6, true)⟩,
  ⟨some 10, .pick (.tmp 6) (.tmp 9) (.const (.bool false)), [], none⟩,
  ⟨some 11, .copy false (.tmp 10), [], none⟩,
  ⟨some 12, .fad 0 (.tmp 1), [], some (11, false)⟩,
  ⟨some 13, .fad 0 (.tmp 12), [], some (11, false)⟩,
  ⟨some 14, .load 1 false false (.tmp 13), [], some (11, false)⟩,
  ⟨some 15, .len 1 (.tmp 14), [], some (11, false)⟩,
  ⟨some 16, .bin .gtr (.tmp 15) (.const (.int .i64 65)), [], some (11, false)⟩,
  ⟨some 17, .pick (.tmp 11) (.const (.bool true)) (.tmp 16), [], none⟩,
  ⟨some 18, .copy false (.tmp 17), [], none⟩,
  ⟨some 19, .fad 0 (.tmp 1), [], some (18, false)⟩,
  ⟨some 20, .fad 1 (.tmp 19), [], some (18, false)⟩,
  ⟨some 21, .load 1 false false (.tmp 20), [], some (18, false)⟩,
  ⟨some 22, .call (.func 117) [.tmp 21], [], some (18, false)⟩,
  ⟨some 23, .un .not (.tmp 22), [], some (18, false)⟩,
  ⟨some 24, .pick (.tmp 18) (.const (.bool true)) (.tmp 23), [], none⟩,
  ⟨some 2, .copy true (.tmp 24), [], none⟩]
-- function 102: corollary/session.lists
def F102r0 : List ROp := [⟨some 2, .copy true (.const (.bool false)), [], none⟩]
def F102r1 : List ROp := [⟨some 3, .copy false (.tmp 0), [], none⟩,
  ⟨some 4, .len 0 (.tmp 3), [], none⟩,
  ⟨some 5, .bin .leq (.tmp 4) (.const (.int .i64 100000)), [], none⟩,
  ⟨some 6, .copy false (.tmp 5), [], none⟩,
  ⟨some 7, .copy false (.tmp 0), [], some (6, true)⟩,
  ⟨some 8, .call (.func 120) [.tmp 7, .func 121], [], some (6, true)⟩,
  ⟨some 9, .un .not (.tmp 8), [], some (6, true)⟩,
  ⟨some 10, .pick (.tmp 6) (.tmp 9) (.const (.bool false)), [], none⟩,
  ⟨some 2, .copy true (.tmp 10), [], none⟩]
-- function 121: corollary/session.lists$1
def F121r0 : List ROp := [⟨some 2, .copy true (.const (.bool false)), [], none⟩]
def F121r1 : List ROp := [⟨some 3, .copy false (.tmp 0), [], none⟩,
  ⟨some 4, .call (.func 117) [.tmp 3], [], none⟩,
  ⟨some 5, .un .not (.tmp 4), [], none⟩,
  ⟨some 2, .copy true (.tmp 5), [], none⟩]
-- function 92: (corollary/session.Command).fits$1
def F92r0 : List ROp := [⟨some 2, .copy true (.const (.bool false)), [], none⟩]
def F92r1 : List ROp := [⟨some 3, .copy false (.tmp 0), [], none⟩,
  ⟨some 4, .len 1 (.tmp 3), [], none⟩,
  ⟨some 5, .bin .gtr (.tmp 4) (.const (.int .i64 65536)), [], none⟩,
  ⟨some 2, .copy true (.tmp 5), [], none⟩]
-- function 54: corollary/session.putText
def F54r0 : List ROp := [⟨some 4, .copy true (.const (.slice none 0 0)), [], none⟩]
def F54r1 : List ROp := [⟨some 5, .copy false (.tmp 0), [], none⟩,
  ⟨some 6, .copy false (.tmp 1), [], none⟩,
  ⟨some 7, .call (.func 57) [.tmp 5, .tmp 6], [], none⟩,
  ⟨some 4, .copy true (.tmp 7), [], none⟩]
-- function 69: corollary/session.putRow
def F69r0 : List ROp := [⟨some 4, .copy true (.const (.slice none 0 0)), [], none⟩]
def F69r1 : List ROp := [⟨some 5, .copy false (.tmp 0), [], none⟩,
  ⟨some 6, .copy false (.tmp 1), [], none⟩,
  ⟨some 7, .call (.func 104) [.tmp 5, .tmp 6, .func 105], [], none⟩,
  ⟨some 4, .copy true (.tmp 7), [], none⟩]
-- function 56: corollary/session.putChange
def F56r0 : List ROp := [⟨some 3, .box 67 (.tmp 1), [], none⟩,
  ⟨some 4, .copy true (.const (.slice none 0 0)), [], none⟩]
def F56r1 : List ROp := [⟨some 5, .copy false (.tmp 0), [], none⟩,
  ⟨some 6, .fad 2 (.tmp 3), [], none⟩,
  ⟨some 7, .load 1 false false (.tmp 6), [1], none⟩,
  ⟨some 8, .bin .eql (.tmp 7) (.const (.int .i64 1)), [2], none⟩,
  ⟨some 9, .call (.func 58) [.tmp 5, .tmp 8], [0, 3], none⟩,
  ⟨some 10, .fad 0 (.tmp 3), [], none⟩,
  ⟨some 11, .fad 0 (.tmp 10), [5], none⟩,
  ⟨some 12, .load 1 false false (.tmp 11), [6], none⟩,
  ⟨some 13, .call (.func 57) [.tmp 9, .tmp 12], [4, 7, 4], none⟩,
  ⟨some 14, .fad 0 (.tmp 3), [], none⟩,
  ⟨some 15, .fad 1 (.tmp 14), [9], none⟩,
  ⟨some 16, .load 1 false false (.tmp 15), [10], none⟩,
  ⟨some 17, .call (.func 69) [.tmp 13, .tmp 16], [8, 11, 8], none⟩,
  ⟨some 4, .copy true (.tmp 17), [12, 12, 0, 1, 2, 3, 4, 5, 6, 7, 8, 9, 10, 11, 12], none⟩]
-- function 59: corollary/session.whole
def F59r0 : List ROp := [⟨some 2, .copy true (.const (.string { data := #[] })), [], none⟩,
  ⟨some 3, .copy true (.const (.int .i64 0)), [], none⟩]
def F59r1 : List ROp := [⟨some 4, .copy false (.tmp 0), [], none⟩,
  ⟨some 5, .len 0 (.tmp 4), [], none⟩,
  ⟨some 6, .bin .gtr (.tmp 5) (.const (.int .i64 65536)), [], none⟩]
def F59r2 : List ROp := [⟨some 2, .copy true (.const (.string { data := #[] })), [], none⟩,
  ⟨some 3, .copy true (.const (.int .i64 40)), [], none⟩]
def F59r3 : List ROp := [⟨some 7, .copy false (.tmp 0), [], none⟩,
  ⟨some 8, .x1 2 (.tmp 7), [], none⟩,
  ⟨some 2, .copy true (.tmp 8), [], none⟩,
  ⟨some 3, .copy true (.const (.int .i64 0)), [], none⟩]
attribute [local simp] valX encV_eq
-- function 114: slices.IndexFunc[[]string,string]
def F114r0 : List ROp := [⟨some 4, .copy true (.const (.int .i64 0)), [], none⟩]
def F114r1 : List ROp := [⟨some 6, .copy false (.tmp 0), [], none⟩,
  ⟨some 7, .len 0 (.tmp 6), [], none⟩,
  ⟨some 8, .copy false (.const (.int .i64 0)), [], none⟩]
def F114r2 : List ROp := [⟨some 9, .bin .lss (.tmp 8) (.tmp 7), [], none⟩]
def F114r3 : List ROp := [⟨some 10, .copy true (.tmp 8), [], none⟩,
  ⟨some 5, .copy true (.tmp 10), [], none⟩]
def F114r4 : List ROp := [⟨some 11, .copy false (.tmp 1), [], none⟩,
  ⟨some 12, .copy false (.tmp 0), [], none⟩,
  ⟨some 13, .copy false (.tmp 5), [], none⟩,
  ⟨some 14, .iad 1 (.tmp 12) (.tmp 13), [], none⟩,
  ⟨some 15, .load 1 false false (.tmp 14), [], none⟩,
  ⟨some 16, .call (.tmp 11) [.tmp 15], [], none⟩]
def F114r5 : List ROp := [⟨some 17, .copy true (.tmp 5), [], none⟩,
  ⟨some 4, .copy true (.tmp 17), [], none⟩]
def F114r6 : List ROp := [⟨some 18, .bin .add (.tmp 8) (.const (.int .i64 1)), [], none⟩,
  ⟨some 8, .copy false (.tmp 18), [], none⟩]
def F114r7 : List ROp := [⟨some 4, .copy true (.const (.int .i64 (-1))), [], none⟩]
-- function 91: slices.ContainsFunc[[]string,string]
def F91r0 : List ROp := [⟨some 4, .copy true (.const (.bool false)), [], none⟩]
def F91r1 : List ROp := [⟨some 5, .copy false (.tmp 0), [], none⟩,
  ⟨some 6, .copy false (.tmp 1), [], none⟩,
  ⟨some 7, .call (.func 114) [.tmp 5, .tmp 6], [], none⟩,
  ⟨some 8, .bin .geq (.tmp 7) (.const (.int .i64 0)), [], none⟩,
  ⟨some 4, .copy true (.tmp 8), [], none⟩]
theorem IndexFuncS_ok (l : List (ByteArray)) (g : Nat) (p : ByteArray → Bool) (hl : l.length ≤ 4194304) (h : ∀ x ∈ l, Con Tryz.prog g [sval x] (bval (p x))) :
    Con Tryz.prog 114 [.rd 1 (l.map encT), .val (.func (.func g) #[] #[])] (ival (fid p l 0)) := by
  refine Con.of_code Tryz.func114 (by kernel_rfl) rfl (by simp [Tryz.ntmps114]) fun C hC hM => ?_
  refine AWp.seq ?_
  refine AWp.regK [0, 1] [true] F114r0 [] (by kernel_rfl) (by rw [hC]; rfl) fun K hK => ?_
  simp (maxSteps := 2000000) [F114r0]
  refine hK _ ?_
  refine AWp.seq ?_
  refine AWp.seq ?_
  refine AWp.regK [0, 1, 7, 8] [] F114r1 [] (by kernel_rfl) (by rw [hC]; rfl) fun K hK => ?_
  simp (maxSteps := 2000000) [F114r1]
  refine hK _ ?_
  refine AWp.block ?_
  refine AWp.loopG (fun k : Nat => { tm := [(0, .rd 1 (l.map encT)), (1, .val (.func (.func g) #[] #[])), (7, ival l.length), (8, ival k)], hp := [] }) (fun k => k ≤ l.length ∧ fid p l 0 = fid p (l.drop k) k) (fun k => l.length - k) 0 ⟨by omega, by simp⟩ (by simp) (fun k hk => ?_)
  obtain ⟨hk1, hk2⟩ := hk
  refine AWp.seq ?_
  refine AWp.regK [0, 1, 7, 8, 9] [] F114r2 [] (by kernel_rfl) (by rw [hC]; rfl) fun K hK => ?_
  simp (maxSteps := 2000000) [F114r2]
  refine hK _ ?_
  refine AWp.seq ?_
  refine AWp.cond _ (by rfl) (fun hlt => ?_) (fun hge => ?_)
  · skip
    have hlt : k < l.length := by simpa using hlt
    have hd := fid_drop p l k hlt
    have hc := h l[k] (List.getElem_mem hlt)
    refine AWp.skip ?_
    refine AWp.seq ?_
    refine AWp.block ?_
    refine AWp.seq ?_
    refine AWp.regK [0, 1, 5, 7, 8] [true, true] F114r3 [] (by kernel_rfl) (by rw [hC]; rfl) fun K hK => ?_
    simp (maxSteps := 2000000) [F114r3, hlt]
    refine hK _ ?_
    refine AWp.seq ?_
    refine AWp.regK [0, 1, 5, 7, 8, 16] [] F114r4 [{ r := bval (p l[k]) }] (by kernel_rfl) (by rw [hC]; rfl) fun K hK => ?_
    simp (maxSteps := 2000000) [F114r4, hlt]
    (repeat first | refine ⟨by first | (show freeP _ _ _ = true; kernel_rfl) | omega | (intros; omega) | assumption, ?_⟩ | refine ⟨by intros; exact callOK rfl hc, ?_⟩); refine hK _ ?_
    refine AWp.cond _ (by rfl) (fun hp => ?_) (fun hp => ?_)
    · skip
      refine AWp.seq ?_
      refine AWp.regK [4] [true, true] F114r5 [] (by kernel_rfl) (by rw [hC]; rfl) fun K hK => ?_
      simp (maxSteps := 2000000) [F114r5]
      refine hK _ ?_
      repeat refine AWp.seq ?_
      refine AWp.ret ⟨.inr rfl, _, by simp [Tryz.results114] <;> rfl, ?_⟩
      refine .clos ?_ rfl
      rw [hk2, hd, if_pos hp]; rfl
    refine AWp.skip ?_
    refine AWp.regK [0, 1, 7, 8] [] F114r6 [] (by kernel_rfl) (by rw [hC]; rfl) fun K hK => ?_
    simp (maxSteps := 2000000) [F114r6]
    (repeat refine ⟨by first | omega | (intros; omega) | assumption, ?_⟩); refine hK _ ?_
    refine ⟨k + 1, ⟨by omega, by rw [hk2, hd, if_neg (by simp [hp])]⟩, by omega, ?_⟩
    simp [wrap_nat k (by omega)]
  have hge : ¬ k < l.length := by simpa using hge
  refine AWp.exit ?_
  refine AWp.seq ?_
  refine AWp.regK [4] [true] F114r7 [] (by kernel_rfl) (by rw [hC]; rfl) fun K hK => ?_
  simp (maxSteps := 2000000) [F114r7]
  refine hK _ ?_
  repeat refine AWp.seq ?_
  refine AWp.ret ⟨.inr rfl, _, by simp [Tryz.results114] <;> rfl, ?_⟩
  refine .clos ?_ rfl
  rw [hk2, List.drop_eq_nil_of_le (by omega)]; rfl
theorem ContainsFuncS_ok (l : List (ByteArray)) (g : Nat) (p : ByteArray → Bool) (hl : l.length ≤ 4194304) (h : ∀ x ∈ l, Con Tryz.prog g [sval x] (bval (p x))) :
    Con Tryz.prog 91 [.rd 1 (l.map encT), .val (.func (.func g) #[] #[])] (bval (l.any p)) := by
  have h1 := IndexFuncS_ok l g p hl h
  have h2 := fid_any p l 0
  refine Con.of_code Tryz.func91 (by kernel_rfl) rfl (by simp [Tryz.ntmps91]) fun C hC hM => ?_
  refine AWp.seq ?_
  refine AWp.regK [0, 1] [true] F91r0 [] (by kernel_rfl) (by rw [hC]; rfl) fun K hK => ?_
  simp (maxSteps := 2000000) [F91r0]
  refine hK _ ?_
  refine AWp.seq ?_
  refine AWp.regK [4] [false, false, false, false, true] F91r1 [{ r := ival (fid p l 0) }] (by kernel_rfl) (by rw [hC]; rfl) fun K hK => ?_
  simp (maxSteps := 2000000) [F91r1]
  (repeat first | refine ⟨by first | (show freeP _ _ _ = true; kernel_rfl) | omega | (intros; omega) | assumption, ?_⟩ | refine ⟨by intros; exact callOK rfl h1, ?_⟩); refine hK _ ?_
  repeat refine AWp.seq ?_
  refine AWp.ret ⟨.inr rfl, _, by simp [Tryz.results91] <;> rfl, ?_⟩
  refine .clos ?_ rfl
  rw [← h2]; simp
-- function 137: slices.IndexFunc[[]corollary/api.Change,corollary/api.Change]
def F137r0 : List ROp := [⟨some 4, .copy true (.const (.int .i64 0)), [], none⟩]
def F137r1 : List ROp := [⟨some 6, .copy false (.tmp 0), [], none⟩,
  ⟨some 7, .len 0 (.tmp 6), [], none⟩,
  ⟨some 8, .copy false (.const (.int .i64 0)), [], none⟩]
def F137r2 : List ROp := [⟨some 9, .bin .lss (.tmp 8) (.tmp 7), [], none⟩]
def F137r3 : List ROp := [⟨some 10, .copy true (.tmp 8), [], none⟩,
  ⟨some 5, .copy true (.tmp 10), [], none⟩]
def F137r4 : List ROp := [⟨some 11, .copy false (.tmp 1), [], none⟩,
  ⟨some 12, .copy false (.tmp 0), [], none⟩,
  ⟨some 13, .copy false (.tmp 5), [], none⟩,
  ⟨some 14, .iad 3 (.tmp 12) (.tmp 13), [], none⟩,
  ⟨some 15, .load 3 true false (.tmp 14), [], none⟩,
  ⟨some 16, .call (.tmp 11) [.tmp 15], [], none⟩]
def F137r5 : List ROp := [⟨some 17, .copy true (.tmp 5), [], none⟩,
  ⟨some 4, .copy true (.tmp 17), [], none⟩]
def F137r6 : List ROp := [⟨some 18, .bin .add (.tmp 8) (.const (.int .i64 1)), [], none⟩,
  ⟨some 8, .copy false (.tmp 18), [], none⟩]
def F137r7 : List ROp := [⟨some 4, .copy true (.const (.int .i64 (-1))), [], none⟩]
-- function 115: slices.ContainsFunc[[]corollary/api.Change,corollary/api.Change]
def F115r0 : List ROp := [⟨some 4, .copy true (.const (.bool false)), [], none⟩]
def F115r1 : List ROp := [⟨some 5, .copy false (.tmp 0), [], none⟩,
  ⟨some 6, .copy false (.tmp 1), [], none⟩,
  ⟨some 7, .call (.func 137) [.tmp 5, .tmp 6], [], none⟩,
  ⟨some 8, .bin .geq (.tmp 7) (.const (.int .i64 0)), [], none⟩,
  ⟨some 4, .copy true (.tmp 8), [], none⟩]
theorem IndexFuncC_ok (l : List (ChgD)) (g : Nat) (p : ChgD → Bool) (hl : l.length ≤ 4194304) (h : ∀ x ∈ l, Con Tryz.prog g [chgX x] (bval (p x))) :
    Con Tryz.prog 137 [.rd 3 (l.map encC), .val (.func (.func g) #[] #[])] (ival (fid p l 0)) := by
  refine Con.of_code Tryz.func137 (by kernel_rfl) rfl (by simp [Tryz.ntmps137]) fun C hC hM => ?_
  refine AWp.seq ?_
  refine AWp.regK [0, 1] [true] F137r0 [] (by kernel_rfl) (by rw [hC]; rfl) fun K hK => ?_
  simp (maxSteps := 2000000) [F137r0]
  refine hK _ ?_
  refine AWp.seq ?_
  refine AWp.seq ?_
  refine AWp.regK [0, 1, 7, 8] [] F137r1 [] (by kernel_rfl) (by rw [hC]; rfl) fun K hK => ?_
  simp (maxSteps := 2000000) [F137r1]
  refine hK _ ?_
  refine AWp.block ?_
  refine AWp.loopG (fun k : Nat => { tm := [(0, .rd 3 (l.map encC)), (1, .val (.func (.func g) #[] #[])), (7, ival l.length), (8, ival k)], hp := [] }) (fun k => k ≤ l.length ∧ fid p l 0 = fid p (l.drop k) k) (fun k => l.length - k) 0 ⟨by omega, by simp⟩ (by simp) (fun k hk => ?_)
  obtain ⟨hk1, hk2⟩ := hk
  refine AWp.seq ?_
  refine AWp.regK [0, 1, 7, 8, 9] [] F137r2 [] (by kernel_rfl) (by rw [hC]; rfl) fun K hK => ?_
  simp (maxSteps := 2000000) [F137r2]
  refine hK _ ?_
  refine AWp.seq ?_
  refine AWp.cond _ (by rfl) (fun hlt => ?_) (fun hge => ?_)
  · skip
    have hlt : k < l.length := by simpa using hlt
    have hd := fid_drop p l k hlt
    have hc := h l[k] (List.getElem_mem hlt)
    refine AWp.skip ?_
    refine AWp.seq ?_
    refine AWp.block ?_
    refine AWp.seq ?_
    refine AWp.regK [0, 1, 5, 7, 8] [true, true] F137r3 [] (by kernel_rfl) (by rw [hC]; rfl) fun K hK => ?_
    simp (maxSteps := 2000000) [F137r3, hlt]
    refine hK _ ?_
    refine AWp.seq ?_
    refine AWp.regK [0, 1, 5, 7, 8, 16] [] F137r4 [{ r := bval (p l[k]) }] (by kernel_rfl) (by rw [hC]; rfl) fun K hK => ?_
    simp (maxSteps := 2000000) [F137r4, hlt]
    (repeat first | refine ⟨by first | (show freeP _ _ _ = true; kernel_rfl) | omega | (intros; omega) | assumption, ?_⟩ | refine ⟨by intros; exact callOK rfl hc, ?_⟩); refine hK _ ?_
    refine AWp.cond _ (by rfl) (fun hp => ?_) (fun hp => ?_)
    · skip
      refine AWp.seq ?_
      refine AWp.regK [4] [true, true] F137r5 [] (by kernel_rfl) (by rw [hC]; rfl) fun K hK => ?_
      simp (maxSteps := 2000000) [F137r5]
      refine hK _ ?_
      repeat refine AWp.seq ?_
      refine AWp.ret ⟨.inr rfl, _, by simp [Tryz.results137] <;> rfl, ?_⟩
      refine .clos ?_ rfl
      rw [hk2, hd, if_pos hp]; rfl
    refine AWp.skip ?_
    refine AWp.regK [0, 1, 7, 8] [] F137r6 [] (by kernel_rfl) (by rw [hC]; rfl) fun K hK => ?_
    simp (maxSteps := 2000000) [F137r6]
    (repeat refine ⟨by first | omega | (intros; omega) | assumption, ?_⟩); refine hK _ ?_
    refine ⟨k + 1, ⟨by omega, by rw [hk2, hd, if_neg (by simp [hp])]⟩, by omega, ?_⟩
    simp [wrap_nat k (by omega)]
  have hge : ¬ k < l.length := by simpa using hge
  refine AWp.exit ?_
  refine AWp.seq ?_
  refine AWp.regK [4] [true] F137r7 [] (by kernel_rfl) (by rw [hC]; rfl) fun K hK => ?_
  simp (maxSteps := 2000000) [F137r7]
  refine hK _ ?_
  repeat refine AWp.seq ?_
  refine AWp.ret ⟨.inr rfl, _, by simp [Tryz.results137] <;> rfl, ?_⟩
  refine .clos ?_ rfl
  rw [hk2, List.drop_eq_nil_of_le (by omega)]; rfl
theorem ContainsFuncC_ok (l : List (ChgD)) (g : Nat) (p : ChgD → Bool) (hl : l.length ≤ 4194304) (h : ∀ x ∈ l, Con Tryz.prog g [chgX x] (bval (p x))) :
    Con Tryz.prog 115 [.rd 3 (l.map encC), .val (.func (.func g) #[] #[])] (bval (l.any p)) := by
  have h1 := IndexFuncC_ok l g p hl h
  have h2 := fid_any p l 0
  refine Con.of_code Tryz.func115 (by kernel_rfl) rfl (by simp [Tryz.ntmps115]) fun C hC hM => ?_
  refine AWp.seq ?_
  refine AWp.regK [0, 1] [true] F115r0 [] (by kernel_rfl) (by rw [hC]; rfl) fun K hK => ?_
  simp (maxSteps := 2000000) [F115r0]
  refine hK _ ?_
  refine AWp.seq ?_
  refine AWp.regK [4] [false, false, false, false, true] F115r1 [{ r := ival (fid p l 0) }] (by kernel_rfl) (by rw [hC]; rfl) fun K hK => ?_
  simp (maxSteps := 2000000) [F115r1]
  (repeat first | refine ⟨by first | (show freeP _ _ _ = true; kernel_rfl) | omega | (intros; omega) | assumption, ?_⟩ | refine ⟨by intros; exact callOK rfl h1, ?_⟩); refine hK _ ?_
  repeat refine AWp.seq ?_
  refine AWp.ret ⟨.inr rfl, _, by simp [Tryz.results115] <;> rfl, ?_⟩
  refine .clos ?_ rfl
  rw [← h2]; simp
-- function 140: slices.IndexFunc[[][]corollary/api.Value,[]corollary/api.Value]
def F140r0 : List ROp := [⟨some 4, .copy true (.const (.int .i64 0)), [], none⟩]
def F140r1 : List ROp := [⟨some 6, .copy false (.tmp 0), [], none⟩,
  ⟨some 7, .len 0 (.tmp 6), [], none⟩,
  ⟨some 8, .copy false (.const (.int .i64 0)), [], none⟩]
def F140r2 : List ROp := [⟨some 9, .bin .lss (.tmp 8) (.tmp 7), [], none⟩]
def F140r3 : List ROp := [⟨some 10, .copy true (.tmp 8), [], none⟩,
  ⟨some 5, .copy true (.tmp 10), [], none⟩]
def F140r4 : List ROp := [⟨some 11, .copy false (.tmp 1), [], none⟩,
  ⟨some 12, .copy false (.tmp 0), [], none⟩,
  ⟨some 13, .copy false (.tmp 5), [], none⟩,
  ⟨some 14, .iad 1 (.tmp 12) (.tmp 13), [], none⟩,
  ⟨some 15, .load 1 false false (.tmp 14), [], none⟩,
  ⟨some 16, .call (.tmp 11) [.tmp 15], [], none⟩]
def F140r5 : List ROp := [⟨some 17, .copy true (.tmp 5), [], none⟩,
  ⟨some 4, .copy true (.tmp 17), [], none⟩]
def F140r6 : List ROp := [⟨some 18, .bin .add (.tmp 8) (.const (.int .i64 1)), [], none⟩,
  ⟨some 8, .copy false (.tmp 18), [], none⟩]
def F140r7 : List ROp := [⟨some 4, .copy true (.const (.int .i64 (-1))), [], none⟩]
-- function 120: slices.ContainsFunc[[][]corollary/api.Value,[]corollary/api.Value]
def F120r0 : List ROp := [⟨some 4, .copy true (.const (.bool false)), [], none⟩]
def F120r1 : List ROp := [⟨some 5, .copy false (.tmp 0), [], none⟩,
  ⟨some 6, .copy false (.tmp 1), [], none⟩,
  ⟨some 7, .call (.func 140) [.tmp 5, .tmp 6], [], none⟩,
  ⟨some 8, .bin .geq (.tmp 7) (.const (.int .i64 0)), [], none⟩,
  ⟨some 4, .copy true (.tmp 8), [], none⟩]
theorem IndexFuncL_ok (l : List (List ValD)) (g : Nat) (p : List ValD → Bool) (hl : l.length ≤ 4194304) (h : ∀ x ∈ l, Con Tryz.prog g [encRow x] (bval (p x))) :
    Con Tryz.prog 140 [.rd 1 (l.map encL), .val (.func (.func g) #[] #[])] (ival (fid p l 0)) := by
  refine Con.of_code Tryz.func140 (by kernel_rfl) rfl (by simp [Tryz.ntmps140]) fun C hC hM => ?_
  refine AWp.seq ?_
  refine AWp.regK [0, 1] [true] F140r0 [] (by kernel_rfl) (by rw [hC]; rfl) fun K hK => ?_
  simp (maxSteps := 2000000) [F140r0]
  refine hK _ ?_
  refine AWp.seq ?_
  refine AWp.seq ?_
  refine AWp.regK [0, 1, 7, 8] [] F140r1 [] (by kernel_rfl) (by rw [hC]; rfl) fun K hK => ?_
  simp (maxSteps := 2000000) [F140r1]
  refine hK _ ?_
  refine AWp.block ?_
  refine AWp.loopG (fun k : Nat => { tm := [(0, .rd 1 (l.map encL)), (1, .val (.func (.func g) #[] #[])), (7, ival l.length), (8, ival k)], hp := [] }) (fun k => k ≤ l.length ∧ fid p l 0 = fid p (l.drop k) k) (fun k => l.length - k) 0 ⟨by omega, by simp⟩ (by simp) (fun k hk => ?_)
  obtain ⟨hk1, hk2⟩ := hk
  refine AWp.seq ?_
  refine AWp.regK [0, 1, 7, 8, 9] [] F140r2 [] (by kernel_rfl) (by rw [hC]; rfl) fun K hK => ?_
  simp (maxSteps := 2000000) [F140r2]
  refine hK _ ?_
  refine AWp.seq ?_
  refine AWp.cond _ (by rfl) (fun hlt => ?_) (fun hge => ?_)
  · skip
    have hlt : k < l.length := by simpa using hlt
    have hd := fid_drop p l k hlt
    have hc := h l[k] (List.getElem_mem hlt)
    refine AWp.skip ?_
    refine AWp.seq ?_
    refine AWp.block ?_
    refine AWp.seq ?_
    refine AWp.regK [0, 1, 5, 7, 8] [true, true] F140r3 [] (by kernel_rfl) (by rw [hC]; rfl) fun K hK => ?_
    simp (maxSteps := 2000000) [F140r3, hlt]
    refine hK _ ?_
    refine AWp.seq ?_
    refine AWp.regK [0, 1, 5, 7, 8, 16] [] F140r4 [{ r := bval (p l[k]) }] (by kernel_rfl) (by rw [hC]; rfl) fun K hK => ?_
    simp (maxSteps := 2000000) [F140r4, hlt]
    (repeat first | refine ⟨by first | (show freeP _ _ _ = true; kernel_rfl) | omega | (intros; omega) | assumption, ?_⟩ | refine ⟨by intros; exact callOK rfl hc, ?_⟩); refine hK _ ?_
    refine AWp.cond _ (by rfl) (fun hp => ?_) (fun hp => ?_)
    · skip
      refine AWp.seq ?_
      refine AWp.regK [4] [true, true] F140r5 [] (by kernel_rfl) (by rw [hC]; rfl) fun K hK => ?_
      simp (maxSteps := 2000000) [F140r5]
      refine hK _ ?_
      repeat refine AWp.seq ?_
      refine AWp.ret ⟨.inr rfl, _, by simp [Tryz.results140] <;> rfl, ?_⟩
      refine .clos ?_ rfl
      rw [hk2, hd, if_pos hp]; rfl
    refine AWp.skip ?_
    refine AWp.regK [0, 1, 7, 8] [] F140r6 [] (by kernel_rfl) (by rw [hC]; rfl) fun K hK => ?_
    simp (maxSteps := 2000000) [F140r6]
    (repeat refine ⟨by first | omega | (intros; omega) | assumption, ?_⟩); refine hK _ ?_
    refine ⟨k + 1, ⟨by omega, by rw [hk2, hd, if_neg (by simp [hp])]⟩, by omega, ?_⟩
    simp [wrap_nat k (by omega)]
  have hge : ¬ k < l.length := by simpa using hge
  refine AWp.exit ?_
  refine AWp.seq ?_
  refine AWp.regK [4] [true] F140r7 [] (by kernel_rfl) (by rw [hC]; rfl) fun K hK => ?_
  simp (maxSteps := 2000000) [F140r7]
  refine hK _ ?_
  repeat refine AWp.seq ?_
  refine AWp.ret ⟨.inr rfl, _, by simp [Tryz.results140] <;> rfl, ?_⟩
  refine .clos ?_ rfl
  rw [hk2, List.drop_eq_nil_of_le (by omega)]; rfl
theorem ContainsFuncL_ok (l : List (List ValD)) (g : Nat) (p : List ValD → Bool) (hl : l.length ≤ 4194304) (h : ∀ x ∈ l, Con Tryz.prog g [encRow x] (bval (p x))) :
    Con Tryz.prog 120 [.rd 1 (l.map encL), .val (.func (.func g) #[] #[])] (bval (l.any p)) := by
  have h1 := IndexFuncL_ok l g p hl h
  have h2 := fid_any p l 0
  refine Con.of_code Tryz.func120 (by kernel_rfl) rfl (by simp [Tryz.ntmps120]) fun C hC hM => ?_
  refine AWp.seq ?_
  refine AWp.regK [0, 1] [true] F120r0 [] (by kernel_rfl) (by rw [hC]; rfl) fun K hK => ?_
  simp (maxSteps := 2000000) [F120r0]
  refine hK _ ?_
  refine AWp.seq ?_
  refine AWp.regK [4] [false, false, false, false, true] F120r1 [{ r := ival (fid p l 0) }] (by kernel_rfl) (by rw [hC]; rfl) fun K hK => ?_
  simp (maxSteps := 2000000) [F120r1]
  (repeat first | refine ⟨by first | (show freeP _ _ _ = true; kernel_rfl) | omega | (intros; omega) | assumption, ?_⟩ | refine ⟨by intros; exact callOK rfl h1, ?_⟩); refine hK _ ?_
  repeat refine AWp.seq ?_
  refine AWp.ret ⟨.inr rfl, _, by simp [Tryz.results120] <;> rfl, ?_⟩
  refine .clos ?_ rfl
  rw [← h2]; simp
theorem any_not {α : Type} (p : α → Bool) : ∀ l : List α, (l.any fun x => !p x) = !l.all p
  | [] => rfl
  | x :: l => by simp only [List.any_cons, List.all_cons, any_not p l]; cases p x <;> simp
theorem count_ok (n : Int) : Con Tryz.prog 90 [ival n] (bval (countB n)) := by
  refine Con.of_code Tryz.func90 (by kernel_rfl) rfl (by simp [Tryz.ntmps90]) fun C hC hM => ?_
  refine AWp.seq ?_
  refine AWp.regK [0] [true] F90r0 [] (by kernel_rfl) (by rw [hC]; rfl) fun K hK => ?_
  simp (maxSteps := 2000000) [F90r0]
  refine hK _ ?_
  refine AWp.seq ?_
  refine AWp.regK [2] [false, false, false, false, false, false, true] F90r1 [] (by kernel_rfl) (by rw [hC]; rfl) fun K hK => ?_
  simp (maxSteps := 2000000) [F90r1]
  (repeat refine ⟨by first | omega | (intros; omega) | assumption, ?_⟩); refine hK _ ?_
  repeat refine AWp.seq ?_
  refine AWp.ret ⟨.inr rfl, _, by simp [Tryz.results90] <;> rfl, ?_⟩
  exact .clos (by simp [countB]) rfl
theorem chL_ok (c : ChgD) (hv : csize c ≤ 4194304) : Con Tryz.prog 116 [chgX c] (bval (!chOk c)) := by
  have h1 := row_ok c.l (by unfold csize at hv; omega)
  refine Con.of_code Tryz.func116 (by kernel_rfl) rfl (by simp [Tryz.ntmps116]) fun C hC hM => ?_
  refine AWp.seq ?_
  refine AWp.regK [1] [false, true] F116r0 [] (by kernel_rfl) (by rw [hC]; rfl) fun K hK => ?_
  simp (maxSteps := 2000000) [F116r0]
  refine hK _ ?_
  refine AWp.seq ?_
  refine AWp.regK [2] [false, false, false, false, false, false, false, false, false, false, false, false, false, false, false, false, false, false, false, false, false, false, true] F116r1 [{ r := bval (rowOk c.l) }] (by kernel_rfl) (by rw [hC]; rfl) fun K hK => ?_
  simp (maxSteps := 2000000) [F116r1]
  (repeat first | refine ⟨by first | (show freeP _ _ _ = true; kernel_rfl) | omega | (intros; omega) | assumption, ?_⟩ | refine ⟨by intros; exact callOK rfl h1, ?_⟩); refine hK _ ?_
  repeat refine AWp.seq ?_
  refine AWp.ret ⟨.inr rfl, _, by simp [Tryz.results116] <;> rfl, ?_⟩
  refine .clos ?_ rfl
  have e : decide ((65 : Int) < c.rel.size) = !decide (c.rel.size ≤ 65) := by rw [← decide_not]; exact decide_eq_decide.2 (by omega)
  simp only [chOk, e]
  cases decide (c.n = 1) <;> cases decide (c.n = -1) <;> cases decide (c.rel.size ≤ 65) <;> cases rowOk c.l <;> rfl
theorem len_le (n : Nat) (k : Nat) : decide ((n : Int) ≤ (k : Int)) = decide (n ≤ k) := decide_eq_decide.2 (by omega)
theorem changesP_ok (l : List ChgD) (hl : csizes l ≤ 4194304) : Con Tryz.prog 93 [.rd 3 (l.map encC)] (bval (changesOk l)) := by
  have hlen := csizes_len l
  have h1 := ContainsFuncC_ok l 116 (fun c => !chOk c) (by omega) (fun v hv => chL_ok v (by have := csize_mem hv; omega))
  rw [any_not] at h1
  refine Con.of_code Tryz.func93 (by kernel_rfl) rfl (by simp [Tryz.ntmps93]) fun C hC hM => ?_
  refine AWp.seq ?_
  refine AWp.regK [0] [true] F93r0 [] (by kernel_rfl) (by rw [hC]; rfl) fun K hK => ?_
  simp (maxSteps := 2000000) [F93r0]
  refine hK _ ?_
  refine AWp.seq ?_
  refine AWp.regK [2] [false, false, false, false, false, false, false, false, true] F93r1 [{ r := bval (!l.all chOk) }] (by kernel_rfl) (by rw [hC]; rfl) fun K hK => ?_
  simp (maxSteps := 2000000) [F93r1]
  (repeat first | refine ⟨by first | (show freeP _ _ _ = true; kernel_rfl) | omega | (intros; omega) | assumption, ?_⟩ | refine ⟨by intros; exact callOK rfl h1, ?_⟩); refine hK _ ?_
  repeat refine AWp.seq ?_
  refine AWp.ret ⟨.inr rfl, _, by simp [Tryz.results93] <;> rfl, ?_⟩
  refine .clos ?_ rfl
  have e : decide ((l.length : Int) ≤ 100000) = decide (l.length ≤ 100000) := decide_eq_decide.2 (by omega)
  simp [changesOk, e]
theorem listsL_ok (l : List ValD) (hv : vsizes l ≤ 4194304) : Con Tryz.prog 121 [encRow l] (bval (!rowOk l)) := by
  have h1 := row_ok l hv
  refine Con.of_code Tryz.func121 (by kernel_rfl) rfl (by simp [Tryz.ntmps121]) fun C hC hM => ?_
  refine AWp.seq ?_
  refine AWp.regK [0] [true] F121r0 [] (by kernel_rfl) (by rw [hC]; rfl) fun K hK => ?_
  simp (maxSteps := 2000000) [F121r0]
  refine hK _ ?_
  refine AWp.seq ?_
  refine AWp.regK [2] [false, false, false, true] F121r1 [{ r := bval (rowOk l) }] (by kernel_rfl) (by rw [hC]; rfl) fun K hK => ?_
  simp (maxSteps := 2000000) [F121r1]
  (repeat first | refine ⟨by first | (show freeP _ _ _ = true; kernel_rfl) | omega | (intros; omega) | assumption, ?_⟩ | refine ⟨by intros; exact callOK rfl h1, ?_⟩); refine hK _ ?_
  repeat refine AWp.seq ?_
  refine AWp.ret ⟨.inr rfl, _, by simp [Tryz.results121] <;> rfl, ?_⟩
  exact .closed rfl
theorem listsP_ok (l : List (List ValD)) (hl : rsizes l ≤ 4194304) : Con Tryz.prog 102 [.rd 1 (l.map encL)] (bval (rowsOk l)) := by
  have hlen := rsizes_len l
  have h1 := ContainsFuncL_ok l 121 (fun c => !rowOk c) (by omega) (fun v hv => listsL_ok v (by have := rsize_mem hv; omega))
  rw [any_not] at h1
  refine Con.of_code Tryz.func102 (by kernel_rfl) rfl (by simp [Tryz.ntmps102]) fun C hC hM => ?_
  refine AWp.seq ?_
  refine AWp.regK [0] [true] F102r0 [] (by kernel_rfl) (by rw [hC]; rfl) fun K hK => ?_
  simp (maxSteps := 2000000) [F102r0]
  refine hK _ ?_
  refine AWp.seq ?_
  refine AWp.regK [2] [false, false, false, false, false, false, false, false, true] F102r1 [{ r := bval (!l.all rowOk) }] (by kernel_rfl) (by rw [hC]; rfl) fun K hK => ?_
  simp (maxSteps := 2000000) [F102r1]
  (repeat first | refine ⟨by first | (show freeP _ _ _ = true; kernel_rfl) | omega | (intros; omega) | assumption, ?_⟩ | refine ⟨by intros; exact callOK rfl h1, ?_⟩); refine hK _ ?_
  repeat refine AWp.seq ?_
  refine AWp.ret ⟨.inr rfl, _, by simp [Tryz.results102] <;> rfl, ?_⟩
  refine .clos ?_ rfl
  have e : decide ((l.length : Int) ≤ 100000) = decide (l.length ≤ 100000) := decide_eq_decide.2 (by omega)
  simp [rowsOk, e]
theorem fitsL_ok (s : ByteArray) : Con Tryz.prog 92 [sval s] (bval (!decide (s.size ≤ 65536))) := by
  refine Con.of_code Tryz.func92 (by kernel_rfl) rfl (by simp [Tryz.ntmps92]) fun C hC hM => ?_
  refine AWp.seq ?_
  refine AWp.regK [0] [true] F92r0 [] (by kernel_rfl) (by rw [hC]; rfl) fun K hK => ?_
  simp (maxSteps := 2000000) [F92r0]
  refine hK _ ?_
  refine AWp.seq ?_
  refine AWp.regK [2] [false, false, false, true] F92r1 [] (by kernel_rfl) (by rw [hC]; rfl) fun K hK => ?_
  simp (maxSteps := 2000000) [F92r1]
  refine hK _ ?_
  repeat refine AWp.seq ?_
  refine AWp.ret ⟨.inr rfl, _, by simp [Tryz.results92] <;> rfl, ?_⟩
  refine .clos ?_ rfl
  have e : decide ((65536 : Int) < s.size) = !decide (s.size ≤ 65536) := by rw [← decide_not]; exact decide_eq_decide.2 (by omega)
  simp only [← e]; rfl
theorem textsP_ok (l : List ByteArray) (hl : tsizes l ≤ 4194304) : Con Tryz.prog 91 [.rd 1 (l.map encT), .val (.func (.func 92) #[] #[])] (bval (!l.all fun s => decide (s.size ≤ 65536))) := by
  have hlen := tsizes_len l
  have h1 := ContainsFuncS_ok l 92 (fun s => !decide (s.size ≤ 65536)) (by omega) (fun v _ => fitsL_ok v)
  rw [any_not] at h1
  exact h1
-- function 104: corollary/session.put[corollary/api.Value]
def F104r0 : List ROp := [⟨some 6, .copy true (.const (.slice none 0 0)), [], none⟩]
def F104r1 : List ROp := [⟨some 9, .copy false (.tmp 0), [], none⟩,
  ⟨some 10, .copy false (.tmp 1), [], none⟩,
  ⟨some 11, .len 0 (.tmp 10), [], none⟩,
  ⟨some 12, .call (.func 53) [.tmp 9, .tmp 11], [], none⟩,
  ⟨some 0, .copy true (.tmp 12), [], none⟩]
def F104r2 : List ROp := [⟨some 13, .copy false (.tmp 1), [], none⟩,
  ⟨some 14, .len 0 (.tmp 13), [], none⟩,
  ⟨some 15, .copy false (.const (.int .i64 0)), [], none⟩]
def F104r3 : List ROp := [⟨some 16, .bin .lss (.tmp 15) (.tmp 14), [], none⟩]
def F104r4 : List ROp := [⟨some 17, .iad 4 (.tmp 13) (.tmp 15), [], none⟩,
  ⟨some 18, .load 4 true false (.tmp 17), [], none⟩,
  ⟨some 8, .alloc 114 [Value.int .u8 0, Value.int .i64 0, Value.string ByteArray.empty, Value.slice none 0 0], [], none⟩,
  ⟨none, .store 4 true (.tmp 8) (.tmp 18), [], none⟩]
def F104r5 : List ROp := [⟨some 19, .copy true (.tmp 0), [], none⟩,
  ⟨some 20, .copy false (.tmp 2), [], none⟩,
  ⟨some 21, .load 4 true false (.tmp 8), [], none⟩,
  ⟨some 22, .call (.tmp 20) [.const (.slice none 0 0), .tmp 21], [], none⟩,
  ⟨some 23, .app 5 1 1 (.tmp 19) (.tmp 22), [], none⟩,
  ⟨some 0, .copy true (.tmp 23), [], none⟩]
def F104r6 : List ROp := [⟨some 24, .bin .add (.tmp 15) (.const (.int .i64 1)), [], none⟩,
  ⟨some 15, .copy false (.tmp 24), [], none⟩]
def F104r7 : List ROp := [⟨some 25, .copy true (.tmp 0), [], none⟩,
  ⟨some 6, .copy true (.tmp 25), [], none⟩]
theorem putV_ok {b : AV} {pre : List Int} (hb : IsB b pre) (l : List (ValD)) (g : Nat) (e : ValD → List Int) (hl : l.length ≤ 4194304) (hM : pre.length + (manyE e l).length ≤ 200000000) (h : ∀ x ∈ l, Con Tryz.prog g [nilA, valX x] (oB (e x))) :
    Con Tryz.prog 104 [b, .rd 4 (l.map encV), .val (.func (.func g) #[] #[])] (oB (pre ++ (cntE l.length ++ manyE e l))) := by
  have h1 := Count_ok hb l.length (by omega)
  have hcl := cntE_len l.length
  rcases hb with ⟨rfl, hne⟩ | ⟨rfl, hne⟩
  all_goals
    refine Con.of_code Tryz.func104 (by kernel_rfl) rfl (by simp [Tryz.ntmps104]) fun C hC hM => ?_
    refine AWp.seq ?_
    refine AWp.regK [0, 1, 2] [true] F104r0 [] (by kernel_rfl) (by rw [hC]; rfl) fun K hK => ?_
    simp (maxSteps := 2000000) [F104r0, nilA]
    refine hK _ ?_
    refine AWp.seq ?_
    refine AWp.regK [0, 1, 2] [false, false, false, false, true] F104r1 [{ r := oB (pre ++ cntE l.length) }] (by kernel_rfl) (by rw [hC]; rfl) fun K hK => ?_
    simp (maxSteps := 2000000) [F104r1, nilA]
    (repeat first | refine ⟨by first | (show freeP _ _ _ = true; kernel_rfl) | omega | (intros; omega) | assumption, ?_⟩ | refine ⟨by intros; exact callOK rfl h1, ?_⟩); refine hK _ ?_
    refine AWp.seq ?_
    refine AWp.seq ?_
    refine AWp.regK [0, 2, 13, 14, 15] [] F104r2 [] (by kernel_rfl) (by rw [hC]; rfl) fun K hK => ?_
    simp (maxSteps := 2000000) [F104r2]
    refine hK _ ?_
    refine AWp.block ?_
    refine AWp.loopG (fun k : Nat => { tm := [(0, oB (pre ++ (cntE l.length ++ manyE e (l.take k)))), (2, .val (.func (.func g) #[] #[])), (13, .rd 4 (l.map encV)), (14, ival l.length), (15, ival k)], hp := [] }) (fun k => k ≤ l.length) (fun k => l.length - k) 0 (by omega) (by simp [manyE]) (fun k hk => ?_)
    have htl := manyE_take_le e l k
    have hcu : (pre ++ (cntE l.length ++ manyE e (l.take k))).length ≤ pre.length + 9 + (manyE e l).length := by simp only [List.length_append]; omega
    refine AWp.seq ?_
    refine AWp.regK [0, 2, 13, 14, 15, 16] [] F104r3 [] (by kernel_rfl) (by rw [hC]; rfl) fun K hK => ?_
    simp (maxSteps := 2000000) [F104r3]
    refine hK _ ?_
    refine AWp.seq ?_
    refine AWp.cond _ (by rfl) (fun hlt => ?_) (fun hge => ?_)
    · skip
      have hlt : k < l.length := by simpa using hlt
      have hc := h l[k] (List.getElem_mem hlt)
      have hst : pre ++ (cntE l.length ++ manyE e (l.take (k + 1))) = pre ++ (cntE l.length ++ manyE e (l.take k)) ++ e l[k] := by rw [manyE_take e l k hlt]; simp
      have hel := manyE_take_le e l (k + 1)
      rw [manyE_take e l k hlt, List.length_append] at hel
      generalize pre ++ (cntE l.length ++ manyE e (l.take k)) = cur at *
      refine AWp.skip ?_
      refine AWp.seq ?_
      refine AWp.block ?_
      refine AWp.seq ?_
      refine AWp.regK [0, 2, 8, 13, 14, 15] [false, false, false, true] F104r4 [] (by kernel_rfl) (by rw [hC]; rfl) fun K hK => ?_
      simp (maxSteps := 2000000) [F104r4, hlt]
      (repeat refine ⟨by first | omega | (intros; omega) | assumption, ?_⟩); refine hK _ ?_
      refine AWp.regK [0, 2, 13, 14, 15] [true, false, false, false, false, true] F104r5 [{ r := oB (e l[k]) }] (by kernel_rfl) (by rw [hC]; rfl) fun K hK => ?_
      simp (maxSteps := 2000000) [F104r5, hlt]
      (repeat first | refine ⟨by first | (show freeP _ _ _ = true; kernel_rfl) | omega | (intros; omega) | assumption, ?_⟩ | refine ⟨by intros; exact callOK rfl hc, ?_⟩); refine hK _ ?_
      refine AWp.regK [0, 2, 13, 14, 15] [] F104r6 [] (by kernel_rfl) (by rw [hC]; rfl) fun K hK => ?_
      simp (maxSteps := 2000000) [F104r6]
      (repeat refine ⟨by first | omega | (intros; omega) | assumption, ?_⟩); refine hK _ ?_
      refine ⟨k + 1, by omega, by omega, ?_⟩
      rw [hst]
      simp [wrap_nat k (by omega), bt]
    have hge : ¬ k < l.length := by simpa using hge
    refine AWp.exit ?_
    refine AWp.seq ?_
    refine AWp.regK [6] [true, true] F104r7 [] (by kernel_rfl) (by rw [hC]; rfl) fun K hK => ?_
    simp (maxSteps := 2000000) [F104r7]
    refine hK _ ?_
    repeat refine AWp.seq ?_
    refine AWp.ret ⟨.inr rfl, _, by simp [Tryz.results104] <;> rfl, ?_⟩
    rw [List.take_of_length_le (by omega)]
    exact .closed rfl
-- function 52: corollary/session.put[string]
def F52r0 : List ROp := [⟨some 6, .copy true (.const (.slice none 0 0)), [], none⟩]
def F52r1 : List ROp := [⟨some 9, .copy false (.tmp 0), [], none⟩,
  ⟨some 10, .copy false (.tmp 1), [], none⟩,
  ⟨some 11, .len 0 (.tmp 10), [], none⟩,
  ⟨some 12, .call (.func 53) [.tmp 9, .tmp 11], [], none⟩,
  ⟨some 0, .copy true (.tmp 12), [], none⟩]
def F52r2 : List ROp := [⟨some 13, .copy false (.tmp 1), [], none⟩,
  ⟨some 14, .len 0 (.tmp 13), [], none⟩,
  ⟨some 15, .copy false (.const (.int .i64 0)), [], none⟩]
def F52r3 : List ROp := [⟨some 16, .bin .lss (.tmp 15) (.tmp 14), [], none⟩]
def F52r4 : List ROp := [⟨some 17, .iad 1 (.tmp 13) (.tmp 15), [], none⟩,
  ⟨some 18, .load 1 false false (.tmp 17), [], none⟩,
  ⟨some 8, .copy true (.tmp 18), [], none⟩]
def F52r5 : List ROp := [⟨some 19, .copy true (.tmp 0), [], none⟩,
  ⟨some 20, .copy false (.tmp 2), [], none⟩,
  ⟨some 21, .copy false (.tmp 8), [], none⟩,
  ⟨some 22, .call (.tmp 20) [.const (.slice none 0 0), .tmp 21], [], none⟩,
  ⟨some 23, .app 5 1 1 (.tmp 19) (.tmp 22), [], none⟩,
  ⟨some 0, .copy true (.tmp 23), [], none⟩]
def F52r6 : List ROp := [⟨some 24, .bin .add (.tmp 15) (.const (.int .i64 1)), [], none⟩,
  ⟨some 15, .copy false (.tmp 24), [], none⟩]
def F52r7 : List ROp := [⟨some 25, .copy true (.tmp 0), [], none⟩,
  ⟨some 6, .copy true (.tmp 25), [], none⟩]
theorem putS_ok {b : AV} {pre : List Int} (hb : IsB b pre) (l : List (ByteArray)) (g : Nat) (e : ByteArray → List Int) (hl : l.length ≤ 4194304) (hM : pre.length + (manyE e l).length ≤ 200000000) (h : ∀ x ∈ l, Con Tryz.prog g [nilA, sval x] (oB (e x))) :
    Con Tryz.prog 52 [b, .rd 1 (l.map encT), .val (.func (.func g) #[] #[])] (oB (pre ++ (cntE l.length ++ manyE e l))) := by
  have h1 := Count_ok hb l.length (by omega)
  have hcl := cntE_len l.length
  rcases hb with ⟨rfl, hne⟩ | ⟨rfl, hne⟩
  all_goals
    refine Con.of_code Tryz.func52 (by kernel_rfl) rfl (by simp [Tryz.ntmps52]) fun C hC hM => ?_
    refine AWp.seq ?_
    refine AWp.regK [0, 1, 2] [true] F52r0 [] (by kernel_rfl) (by rw [hC]; rfl) fun K hK => ?_
    simp (maxSteps := 2000000) [F52r0, nilA]
    refine hK _ ?_
    refine AWp.seq ?_
    refine AWp.regK [0, 1, 2] [false, false, false, false, true] F52r1 [{ r := oB (pre ++ cntE l.length) }] (by kernel_rfl) (by rw [hC]; rfl) fun K hK => ?_
    simp (maxSteps := 2000000) [F52r1, nilA]
    (repeat first | refine ⟨by first | (show freeP _ _ _ = true; kernel_rfl) | omega | (intros; omega) | assumption, ?_⟩ | refine ⟨by intros; exact callOK rfl h1, ?_⟩); refine hK _ ?_
    refine AWp.seq ?_
    refine AWp.seq ?_
    refine AWp.regK [0, 2, 13, 14, 15] [] F52r2 [] (by kernel_rfl) (by rw [hC]; rfl) fun K hK => ?_
    simp (maxSteps := 2000000) [F52r2]
    refine hK _ ?_
    refine AWp.block ?_
    refine AWp.loopG (fun k : Nat => { tm := [(0, oB (pre ++ (cntE l.length ++ manyE e (l.take k)))), (2, .val (.func (.func g) #[] #[])), (13, .rd 1 (l.map encT)), (14, ival l.length), (15, ival k)], hp := [] }) (fun k => k ≤ l.length) (fun k => l.length - k) 0 (by omega) (by simp [manyE]) (fun k hk => ?_)
    have htl := manyE_take_le e l k
    have hcu : (pre ++ (cntE l.length ++ manyE e (l.take k))).length ≤ pre.length + 9 + (manyE e l).length := by simp only [List.length_append]; omega
    refine AWp.seq ?_
    refine AWp.regK [0, 2, 13, 14, 15, 16] [] F52r3 [] (by kernel_rfl) (by rw [hC]; rfl) fun K hK => ?_
    simp (maxSteps := 2000000) [F52r3]
    refine hK _ ?_
    refine AWp.seq ?_
    refine AWp.cond _ (by rfl) (fun hlt => ?_) (fun hge => ?_)
    · skip
      have hlt : k < l.length := by simpa using hlt
      have hc := h l[k] (List.getElem_mem hlt)
      have hst : pre ++ (cntE l.length ++ manyE e (l.take (k + 1))) = pre ++ (cntE l.length ++ manyE e (l.take k)) ++ e l[k] := by rw [manyE_take e l k hlt]; simp
      have hel := manyE_take_le e l (k + 1)
      rw [manyE_take e l k hlt, List.length_append] at hel
      generalize pre ++ (cntE l.length ++ manyE e (l.take k)) = cur at *
      refine AWp.skip ?_
      refine AWp.seq ?_
      refine AWp.block ?_
      refine AWp.seq ?_
      refine AWp.regK [0, 2, 8, 13, 14, 15] [false, false, true] F52r4 [] (by kernel_rfl) (by rw [hC]; rfl) fun K hK => ?_
      simp (maxSteps := 2000000) [F52r4, hlt]
      (repeat refine ⟨by first | omega | (intros; omega) | assumption, ?_⟩); refine hK _ ?_
      refine AWp.regK [0, 2, 13, 14, 15] [true, false, false, false, false, true] F52r5 [{ r := oB (e l[k]) }] (by kernel_rfl) (by rw [hC]; rfl) fun K hK => ?_
      simp (maxSteps := 2000000) [F52r5, hlt]
      (repeat first | refine ⟨by first | (show freeP _ _ _ = true; kernel_rfl) | omega | (intros; omega) | assumption, ?_⟩ | refine ⟨by intros; exact callOK rfl hc, ?_⟩); refine hK _ ?_
      refine AWp.regK [0, 2, 13, 14, 15] [] F52r6 [] (by kernel_rfl) (by rw [hC]; rfl) fun K hK => ?_
      simp (maxSteps := 2000000) [F52r6]
      (repeat refine ⟨by first | omega | (intros; omega) | assumption, ?_⟩); refine hK _ ?_
      refine ⟨k + 1, by omega, by omega, ?_⟩
      rw [hst]
      simp [wrap_nat k (by omega), bt]
    have hge : ¬ k < l.length := by simpa using hge
    refine AWp.exit ?_
    refine AWp.seq ?_
    refine AWp.regK [6] [true, true] F52r7 [] (by kernel_rfl) (by rw [hC]; rfl) fun K hK => ?_
    simp (maxSteps := 2000000) [F52r7]
    refine hK _ ?_
    repeat refine AWp.seq ?_
    refine AWp.ret ⟨.inr rfl, _, by simp [Tryz.results52] <;> rfl, ?_⟩
    rw [List.take_of_length_le (by omega)]
    exact .closed rfl
-- function 55: corollary/session.put[corollary/api.Change]
def F55r0 : List ROp := [⟨some 6, .copy true (.const (.slice none 0 0)), [], none⟩]
def F55r1 : List ROp := [⟨some 9, .copy false (.tmp 0), [], none⟩,
  ⟨some 10, .copy false (.tmp 1), [], none⟩,
  ⟨some 11, .len 0 (.tmp 10), [], none⟩,
  ⟨some 12, .call (.func 53) [.tmp 9, .tmp 11], [], none⟩,
  ⟨some 0, .copy true (.tmp 12), [], none⟩]
def F55r2 : List ROp := [⟨some 13, .copy false (.tmp 1), [], none⟩,
  ⟨some 14, .len 0 (.tmp 13), [], none⟩,
  ⟨some 15, .copy false (.const (.int .i64 0)), [], none⟩]
def F55r3 : List ROp := [⟨some 16, .bin .lss (.tmp 15) (.tmp 14), [], none⟩]
def F55r4 : List ROp := [⟨some 17, .iad 3 (.tmp 13) (.tmp 15), [], none⟩,
  ⟨some 18, .load 3 true false (.tmp 17), [], none⟩,
  ⟨some 8, .alloc 67 [Value.string ByteArray.empty, Value.slice none 0 0, Value.int .i64 0], [], none⟩,
  ⟨none, .store 3 true (.tmp 8) (.tmp 18), [], none⟩]
def F55r5 : List ROp := [⟨some 19, .copy true (.tmp 0), [], none⟩,
  ⟨some 20, .copy false (.tmp 2), [], none⟩,
  ⟨some 21, .load 3 true false (.tmp 8), [], none⟩,
  ⟨some 22, .call (.tmp 20) [.const (.slice none 0 0), .tmp 21], [], none⟩,
  ⟨some 23, .app 5 1 1 (.tmp 19) (.tmp 22), [], none⟩,
  ⟨some 0, .copy true (.tmp 23), [], none⟩]
def F55r6 : List ROp := [⟨some 24, .bin .add (.tmp 15) (.const (.int .i64 1)), [], none⟩,
  ⟨some 15, .copy false (.tmp 24), [], none⟩]
def F55r7 : List ROp := [⟨some 25, .copy true (.tmp 0), [], none⟩,
  ⟨some 6, .copy true (.tmp 25), [], none⟩]
theorem putC_ok {b : AV} {pre : List Int} (hb : IsB b pre) (l : List (ChgD)) (g : Nat) (e : ChgD → List Int) (hl : l.length ≤ 4194304) (hM : pre.length + (manyE e l).length ≤ 200000000) (h : ∀ x ∈ l, Con Tryz.prog g [nilA, chgX x] (oB (e x))) :
    Con Tryz.prog 55 [b, .rd 3 (l.map encC), .val (.func (.func g) #[] #[])] (oB (pre ++ (cntE l.length ++ manyE e l))) := by
  have h1 := Count_ok hb l.length (by omega)
  have hcl := cntE_len l.length
  rcases hb with ⟨rfl, hne⟩ | ⟨rfl, hne⟩
  all_goals
    refine Con.of_code Tryz.func55 (by kernel_rfl) rfl (by simp [Tryz.ntmps55]) fun C hC hM => ?_
    refine AWp.seq ?_
    refine AWp.regK [0, 1, 2] [true] F55r0 [] (by kernel_rfl) (by rw [hC]; rfl) fun K hK => ?_
    simp (maxSteps := 2000000) [F55r0, nilA]
    refine hK _ ?_
    refine AWp.seq ?_
    refine AWp.regK [0, 1, 2] [false, false, false, false, true] F55r1 [{ r := oB (pre ++ cntE l.length) }] (by kernel_rfl) (by rw [hC]; rfl) fun K hK => ?_
    simp (maxSteps := 2000000) [F55r1, nilA]
    (repeat first | refine ⟨by first | (show freeP _ _ _ = true; kernel_rfl) | omega | (intros; omega) | assumption, ?_⟩ | refine ⟨by intros; exact callOK rfl h1, ?_⟩); refine hK _ ?_
    refine AWp.seq ?_
    refine AWp.seq ?_
    refine AWp.regK [0, 2, 13, 14, 15] [] F55r2 [] (by kernel_rfl) (by rw [hC]; rfl) fun K hK => ?_
    simp (maxSteps := 2000000) [F55r2]
    refine hK _ ?_
    refine AWp.block ?_
    refine AWp.loopG (fun k : Nat => { tm := [(0, oB (pre ++ (cntE l.length ++ manyE e (l.take k)))), (2, .val (.func (.func g) #[] #[])), (13, .rd 3 (l.map encC)), (14, ival l.length), (15, ival k)], hp := [] }) (fun k => k ≤ l.length) (fun k => l.length - k) 0 (by omega) (by simp [manyE]) (fun k hk => ?_)
    have htl := manyE_take_le e l k
    have hcu : (pre ++ (cntE l.length ++ manyE e (l.take k))).length ≤ pre.length + 9 + (manyE e l).length := by simp only [List.length_append]; omega
    refine AWp.seq ?_
    refine AWp.regK [0, 2, 13, 14, 15, 16] [] F55r3 [] (by kernel_rfl) (by rw [hC]; rfl) fun K hK => ?_
    simp (maxSteps := 2000000) [F55r3]
    refine hK _ ?_
    refine AWp.seq ?_
    refine AWp.cond _ (by rfl) (fun hlt => ?_) (fun hge => ?_)
    · skip
      have hlt : k < l.length := by simpa using hlt
      have hc := h l[k] (List.getElem_mem hlt)
      have hst : pre ++ (cntE l.length ++ manyE e (l.take (k + 1))) = pre ++ (cntE l.length ++ manyE e (l.take k)) ++ e l[k] := by rw [manyE_take e l k hlt]; simp
      have hel := manyE_take_le e l (k + 1)
      rw [manyE_take e l k hlt, List.length_append] at hel
      generalize pre ++ (cntE l.length ++ manyE e (l.take k)) = cur at *
      refine AWp.skip ?_
      refine AWp.seq ?_
      refine AWp.block ?_
      refine AWp.seq ?_
      refine AWp.regK [0, 2, 8, 13, 14, 15] [false, false, false, true] F55r4 [] (by kernel_rfl) (by rw [hC]; rfl) fun K hK => ?_
      simp (maxSteps := 2000000) [F55r4, hlt]
      (repeat refine ⟨by first | omega | (intros; omega) | assumption, ?_⟩); refine hK _ ?_
      refine AWp.regK [0, 2, 13, 14, 15] [true, false, false, false, false, true] F55r5 [{ r := oB (e l[k]) }] (by kernel_rfl) (by rw [hC]; rfl) fun K hK => ?_
      simp (maxSteps := 2000000) [F55r5, hlt]
      (repeat first | refine ⟨by first | (show freeP _ _ _ = true; kernel_rfl) | omega | (intros; omega) | assumption, ?_⟩ | refine ⟨by intros; exact callOK rfl hc, ?_⟩); refine hK _ ?_
      refine AWp.regK [0, 2, 13, 14, 15] [] F55r6 [] (by kernel_rfl) (by rw [hC]; rfl) fun K hK => ?_
      simp (maxSteps := 2000000) [F55r6]
      (repeat refine ⟨by first | omega | (intros; omega) | assumption, ?_⟩); refine hK _ ?_
      refine ⟨k + 1, by omega, by omega, ?_⟩
      rw [hst]
      simp [wrap_nat k (by omega), bt]
    have hge : ¬ k < l.length := by simpa using hge
    refine AWp.exit ?_
    refine AWp.seq ?_
    refine AWp.regK [6] [true, true] F55r7 [] (by kernel_rfl) (by rw [hC]; rfl) fun K hK => ?_
    simp (maxSteps := 2000000) [F55r7]
    refine hK _ ?_
    repeat refine AWp.seq ?_
    refine AWp.ret ⟨.inr rfl, _, by simp [Tryz.results55] <;> rfl, ?_⟩
    rw [List.take_of_length_le (by omega)]
    exact .closed rfl
-- function 68: corollary/session.put[[]corollary/api.Value]
def F68r0 : List ROp := [⟨some 6, .copy true (.const (.slice none 0 0)), [], none⟩]
def F68r1 : List ROp := [⟨some 9, .copy false (.tmp 0), [], none⟩,
  ⟨some 10, .copy false (.tmp 1), [], none⟩,
  ⟨some 11, .len 0 (.tmp 10), [], none⟩,
  ⟨some 12, .call (.func 53) [.tmp 9, .tmp 11], [], none⟩,
  ⟨some 0, .copy true (.tmp 12), [], none⟩]
def F68r2 : List ROp := [⟨some 13, .copy false (.tmp 1), [], none⟩,
  ⟨some 14, .len 0 (.tmp 13), [], none⟩,
  ⟨some 15, .copy false (.const (.int .i64 0)), [], none⟩]
def F68r3 : List ROp := [⟨some 16, .bin .lss (.tmp 15) (.tmp 14), [], none⟩]
def F68r4 : List ROp := [⟨some 17, .iad 1 (.tmp 13) (.tmp 15), [], none⟩,
  ⟨some 18, .load 1 false false (.tmp 17), [], none⟩,
  ⟨some 8, .copy true (.tmp 18), [], none⟩]
def F68r5 : List ROp := [⟨some 19, .copy true (.tmp 0), [], none⟩,
  ⟨some 20, .copy false (.tmp 2), [], none⟩,
  ⟨some 21, .copy false (.tmp 8), [], none⟩,
  ⟨some 22, .call (.tmp 20) [.const (.slice none 0 0), .tmp 21], [], none⟩,
  ⟨some 23, .app 5 1 1 (.tmp 19) (.tmp 22), [], none⟩,
  ⟨some 0, .copy true (.tmp 23), [], none⟩]
def F68r6 : List ROp := [⟨some 24, .bin .add (.tmp 15) (.const (.int .i64 1)), [], none⟩,
  ⟨some 15, .copy false (.tmp 24), [], none⟩]
def F68r7 : List ROp := [⟨some 25, .copy true (.tmp 0), [], none⟩,
  ⟨some 6, .copy true (.tmp 25), [], none⟩]
theorem putL_ok {b : AV} {pre : List Int} (hb : IsB b pre) (l : List (List ValD)) (g : Nat) (e : List ValD → List Int) (hl : l.length ≤ 4194304) (hM : pre.length + (manyE e l).length ≤ 200000000) (h : ∀ x ∈ l, Con Tryz.prog g [nilA, encRow x] (oB (e x))) :
    Con Tryz.prog 68 [b, .rd 1 (l.map encL), .val (.func (.func g) #[] #[])] (oB (pre ++ (cntE l.length ++ manyE e l))) := by
  have h1 := Count_ok hb l.length (by omega)
  have hcl := cntE_len l.length
  rcases hb with ⟨rfl, hne⟩ | ⟨rfl, hne⟩
  all_goals
    refine Con.of_code Tryz.func68 (by kernel_rfl) rfl (by simp [Tryz.ntmps68]) fun C hC hM => ?_
    refine AWp.seq ?_
    refine AWp.regK [0, 1, 2] [true] F68r0 [] (by kernel_rfl) (by rw [hC]; rfl) fun K hK => ?_
    simp (maxSteps := 2000000) [F68r0, nilA]
    refine hK _ ?_
    refine AWp.seq ?_
    refine AWp.regK [0, 1, 2] [false, false, false, false, true] F68r1 [{ r := oB (pre ++ cntE l.length) }] (by kernel_rfl) (by rw [hC]; rfl) fun K hK => ?_
    simp (maxSteps := 2000000) [F68r1, nilA]
    (repeat first | refine ⟨by first | (show freeP _ _ _ = true; kernel_rfl) | omega | (intros; omega) | assumption, ?_⟩ | refine ⟨by intros; exact callOK rfl h1, ?_⟩); refine hK _ ?_
    refine AWp.seq ?_
    refine AWp.seq ?_
    refine AWp.regK [0, 2, 13, 14, 15] [] F68r2 [] (by kernel_rfl) (by rw [hC]; rfl) fun K hK => ?_
    simp (maxSteps := 2000000) [F68r2]
    refine hK _ ?_
    refine AWp.block ?_
    refine AWp.loopG (fun k : Nat => { tm := [(0, oB (pre ++ (cntE l.length ++ manyE e (l.take k)))), (2, .val (.func (.func g) #[] #[])), (13, .rd 1 (l.map encL)), (14, ival l.length), (15, ival k)], hp := [] }) (fun k => k ≤ l.length) (fun k => l.length - k) 0 (by omega) (by simp [manyE]) (fun k hk => ?_)
    have htl := manyE_take_le e l k
    have hcu : (pre ++ (cntE l.length ++ manyE e (l.take k))).length ≤ pre.length + 9 + (manyE e l).length := by simp only [List.length_append]; omega
    refine AWp.seq ?_
    refine AWp.regK [0, 2, 13, 14, 15, 16] [] F68r3 [] (by kernel_rfl) (by rw [hC]; rfl) fun K hK => ?_
    simp (maxSteps := 2000000) [F68r3]
    refine hK _ ?_
    refine AWp.seq ?_
    refine AWp.cond _ (by rfl) (fun hlt => ?_) (fun hge => ?_)
    · skip
      have hlt : k < l.length := by simpa using hlt
      have hc := h l[k] (List.getElem_mem hlt)
      have hst : pre ++ (cntE l.length ++ manyE e (l.take (k + 1))) = pre ++ (cntE l.length ++ manyE e (l.take k)) ++ e l[k] := by rw [manyE_take e l k hlt]; simp
      have hel := manyE_take_le e l (k + 1)
      rw [manyE_take e l k hlt, List.length_append] at hel
      generalize pre ++ (cntE l.length ++ manyE e (l.take k)) = cur at *
      refine AWp.skip ?_
      refine AWp.seq ?_
      refine AWp.block ?_
      refine AWp.seq ?_
      refine AWp.regK [0, 2, 8, 13, 14, 15] [false, false, true] F68r4 [] (by kernel_rfl) (by rw [hC]; rfl) fun K hK => ?_
      simp (maxSteps := 2000000) [F68r4, hlt]
      (repeat refine ⟨by first | omega | (intros; omega) | assumption, ?_⟩); refine hK _ ?_
      refine AWp.regK [0, 2, 13, 14, 15] [true, false, false, false, false, true] F68r5 [{ r := oB (e l[k]) }] (by kernel_rfl) (by rw [hC]; rfl) fun K hK => ?_
      simp (maxSteps := 2000000) [F68r5, hlt]
      (repeat first | refine ⟨by first | (show freeP _ _ _ = true; kernel_rfl) | omega | (intros; omega) | assumption, ?_⟩ | refine ⟨by intros; exact callOK rfl hc, ?_⟩); refine hK _ ?_
      refine AWp.regK [0, 2, 13, 14, 15] [] F68r6 [] (by kernel_rfl) (by rw [hC]; rfl) fun K hK => ?_
      simp (maxSteps := 2000000) [F68r6]
      (repeat refine ⟨by first | omega | (intros; omega) | assumption, ?_⟩); refine hK _ ?_
      refine ⟨k + 1, by omega, by omega, ?_⟩
      rw [hst]
      simp [wrap_nat k (by omega), bt]
    have hge : ¬ k < l.length := by simpa using hge
    refine AWp.exit ?_
    refine AWp.seq ?_
    refine AWp.regK [6] [true, true] F68r7 [] (by kernel_rfl) (by rw [hC]; rfl) fun K hK => ?_
    simp (maxSteps := 2000000) [F68r7]
    refine hK _ ?_
    repeat refine AWp.seq ?_
    refine AWp.ret ⟨.inr rfl, _, by simp [Tryz.results68] <;> rfl, ?_⟩
    rw [List.take_of_length_le (by omega)]
    exact .closed rfl
theorem putText_ok {b : AV} {pre : List Int} (hb : IsB b pre) (s : ByteArray) (hs : s.size ≤ 4194304) (hl : pre.length ≤ 200000000) : Con Tryz.prog 54 [b, sval s] (oB (pre ++ txtE s)) := by
  have h1 := Str_ok hb s hs (by omega)
  rcases hb with ⟨rfl, hne⟩ | ⟨rfl, hne⟩
  all_goals
    refine Con.of_code Tryz.func54 (by kernel_rfl) rfl (by simp [Tryz.ntmps54]) fun C hC hM => ?_
    refine AWp.seq ?_
    refine AWp.regK [0, 1] [true] F54r0 [] (by kernel_rfl) (by rw [hC]; rfl) fun K hK => ?_
    simp (maxSteps := 2000000) [F54r0]
    refine hK _ ?_
    refine AWp.seq ?_
    refine AWp.regK [4] [false, false, false, true] F54r1 [{ r := oB (pre ++ txtE s) }] (by kernel_rfl) (by rw [hC]; rfl) fun K hK => ?_
    simp (maxSteps := 2000000) [F54r1, nilA]
    (repeat first | refine ⟨by first | (show freeP _ _ _ = true; kernel_rfl) | omega | (intros; omega) | assumption, ?_⟩ | refine ⟨by intros; exact callOK rfl h1, ?_⟩); refine hK _ ?_
    repeat refine AWp.seq ?_
    refine AWp.ret ⟨.inr rfl, _, by simp [Tryz.results54] <;> rfl, ?_⟩
    exact .closed rfl
theorem putRow_ok {b : AV} {pre : List Int} (hb : IsB b pre) (l : List ValD) (hr : rngs l) (hv : vsizes l ≤ 4194304) (hl : pre.length ≤ 100000000) : Con Tryz.prog 69 [b, encRow l] (oB (pre ++ rowE l)) := by
  have hlen := vsizes_len l
  have hvl := vals_len l hr hv
  have h1 := putV_ok hb l 105 valP (by omega) (by omega) (fun x hx => by
    have := Value_ok (b := nilA) (l := []) (.inl ⟨rfl, rfl⟩) x (by have := vsize_mem hx; omega) (rngs_mem hx hr) (by simp)
    simpa using this)
  have he : pre ++ (cntE l.length ++ manyE valP l) = pre ++ rowE l := rfl
  rw [he] at h1
  generalize pre ++ rowE l = fin at *
  rcases hb with ⟨rfl, hne⟩ | ⟨rfl, hne⟩
  all_goals
    refine Con.of_code Tryz.func69 (by kernel_rfl) rfl (by simp [Tryz.ntmps69]) fun C hC hM => ?_
    refine AWp.seq ?_
    refine AWp.regK [0, 1] [true] F69r0 [] (by kernel_rfl) (by rw [hC]; rfl) fun K hK => ?_
    simp (maxSteps := 2000000) [F69r0]
    refine hK _ ?_
    refine AWp.seq ?_
    refine AWp.regK [4] [false, false, false, true] F69r1 [{ r := oB fin }] (by kernel_rfl) (by rw [hC]; rfl) fun K hK => ?_
    simp (maxSteps := 2000000) [F69r1, nilA]
    (repeat first | refine ⟨by first | (show freeP _ _ _ = true; kernel_rfl) | omega | (intros; omega) | assumption, ?_⟩ | refine ⟨by intros; exact callOK rfl h1, ?_⟩); refine hK _ ?_
    repeat refine AWp.seq ?_
    refine AWp.ret ⟨.inr rfl, _, by simp [Tryz.results69] <;> rfl, ?_⟩
    exact .closed rfl
theorem putChange_ok {b : AV} {pre : List Int} (hb : IsB b pre) (c : ChgD) (hr : crng c) (hv : csize c ≤ 4194304) (hl : pre.length ≤ 50000000) : Con Tryz.prog 56 [b, chgX c] (oB (pre ++ chE c)) := by
  have hcs : csize c = 1 + c.rel.size + vsizes c.l := rfl
  have htl := txtE_len c.rel
  have hfl := flagE_len (decide (c.n = 1))
  have h1 := Flag_ok hb (decide (c.n = 1)) (by omega)
  have hf1 : flagE (decide (c.n = 1)) ≠ [] := fun h => by rw [h] at hfl; simp at hfl
  have h2 := Str_ok (IsB.own (l := pre) hf1) c.rel (by omega) (by simp; omega)
  have hf2 : txtE c.rel ≠ [] := by simp [txtE]
  have h3 := putRow_ok (IsB.own (l := pre ++ flagE (decide (c.n = 1))) hf2) c.l hr.2 (by omega) (by simp; omega)
  have he : pre ++ flagE (decide (c.n = 1)) ++ txtE c.rel ++ rowE c.l = pre ++ chE c := by simp [chE]
  rw [he] at h3
  generalize pre ++ chE c = fin at *
  generalize pre ++ flagE (decide (c.n = 1)) ++ txtE c.rel = mid2 at *
  generalize pre ++ flagE (decide (c.n = 1)) = mid at *
  rcases hb with ⟨rfl, hne⟩ | ⟨rfl, hne⟩
  all_goals
    refine Con.of_code Tryz.func56 (by kernel_rfl) rfl (by simp [Tryz.ntmps56]) fun C hC hM => ?_
    refine AWp.seq ?_
    refine AWp.regK [0, 3] [false, true] F56r0 [] (by kernel_rfl) (by rw [hC]; rfl) fun K hK => ?_
    simp (maxSteps := 2000000) [F56r0]
    refine hK _ ?_
    refine AWp.seq ?_
    refine AWp.regKL ops_mixed [[], [], [1], [1, 2], [0, 1, 2, 3], [], [5], [5, 6], [0, 1, 2, 3, 4, 5, 6, 7], [], [9], [9, 10], [0, 1, 2, 3, 4, 5, 6, 7, 8, 9, 10, 11], [0, 1, 2, 3, 4, 5, 6, 7, 8, 9, 10, 11, 12]] [4] [false, false, false, false, false, false, false, false, false, false, false, false, false, true] F56r1 [{ r := oB mid }, { r := oB mid2 }, { r := oB fin }] (by kernel_rfl) (by rw [hC]; rfl) (by kernel_rfl) (by kernel_rfl) fun K hK => ?_
    simp (maxSteps := 2000000) [F56r1, nilA]
    (repeat first | refine ⟨by first | (show freeP _ _ _ = true; kernel_rfl) | omega | (intros; omega) | assumption, ?_⟩ | refine ⟨by intros; exact callOK rfl h1, ?_⟩ | refine ⟨by intros; exact callWk rfl (by repeat (first | exact WkL.nil | refine WkL.cons (by first | exact Wk.refl _ | exact Wk.nil _ | exact Wk.own (WkR.refl _)) ?_)) h2, ?_⟩ | refine ⟨by intros; exact callWk rfl (by repeat (first | exact WkL.nil | refine WkL.cons (by first | exact Wk.refl _ | exact Wk.nil _ | exact Wk.own (WkR.refl _)) ?_)) h3, ?_⟩); refine hK _ ?_
    repeat refine AWp.seq ?_
    refine AWp.ret ⟨.inr rfl, _, by simp [Tryz.results56] <;> rfl, ?_⟩
    exact .closed rfl
theorem numsA_bt : ∀ l : List Int, numsA (bt l) = some l
  | [] => rfl
  | c :: l => by
    have := numsA_bt l
    simp only [bt, List.map_cons, uval, numsA] at this ⊢
    rw [this]; rfl
theorem wholeP_ok (l : List Int) (hl : l.length ≤ 268435456) : Con Tryz.prog 59 [rB l] (wholeA l) := by
  refine Con.of_code Tryz.func59 (by kernel_rfl) rfl (by simp [Tryz.ntmps59]) fun C hC hM => ?_
  refine AWp.seq ?_
  refine AWp.regK [0] [true, true] F59r0 [] (by kernel_rfl) (by rw [hC]; rfl) fun K hK => ?_
  simp (maxSteps := 2000000) [F59r0]
  refine hK _ ?_
  refine AWp.seq ?_
  refine AWp.seq ?_
  refine AWp.regK [0, 6] [] F59r1 [] (by kernel_rfl) (by rw [hC]; rfl) fun K hK => ?_
  simp (maxSteps := 2000000) [F59r1]
  refine hK _ ?_
  refine AWp.cond _ (by rfl) (fun h => ?_) (fun h => ?_)
  · skip
    have h : 65536 < l.length := by simp at h; omega
    refine AWp.seq ?_
    refine AWp.regK [2, 3] [true, true] F59r2 [] (by kernel_rfl) (by rw [hC]; rfl) fun K hK => ?_
    simp (maxSteps := 2000000) [F59r2]
    refine hK _ ?_
    repeat refine AWp.seq ?_
    refine AWp.ret ⟨.inr rfl, _, by simp [Tryz.results59] <;> rfl, ?_⟩
    refine .clos ?_ ?_
    · unfold wholeA; rw [if_neg (by omega)]; rfl
    · unfold wholeA; rw [if_neg (by omega)]; rfl
  have h : ¬ 65536 < l.length := by simp at h; omega
  refine AWp.skip ?_
  refine AWp.seq ?_
  refine AWp.regK [2, 3] [false, false, true, true] F59r3 [] (by kernel_rfl) (by rw [hC]; rfl) fun K hK => ?_
  simp (maxSteps := 2000000) [F59r3, numsA_bt]
  refine hK _ ?_
  repeat refine AWp.seq ?_
  refine AWp.ret ⟨.inr rfl, _, by simp [Tryz.results59] <;> rfl, ?_⟩
  refine .clos ?_ ?_
  · unfold wholeA; rw [if_pos (by omega)]; rfl
  · unfold wholeA; rw [if_pos (by omega)]; rfl
end Go.Se
