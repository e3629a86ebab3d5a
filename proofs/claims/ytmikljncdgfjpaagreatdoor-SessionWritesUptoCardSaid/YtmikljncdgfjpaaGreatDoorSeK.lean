/- The document's session: its small functions. -/
import Derived.Test.YtmikljncdgfjpaaGreatDoorSeH
import Derived.Test.YtmikljncdgfjpaaGreatDoorSeI
set_option linter.unusedSimpArgs false
set_option linter.unusedVariables false
open Go Go.Aw Go.Proofs
namespace Go.Se
set_option maxRecDepth 20000
-- function 98: corollary/corollaryref31.count
def F98r0 : List ROp := [⟨some 2, .copy true (.const (.bool false)), [], none⟩]
def F98r1 : List ROp := [⟨some 3, .copy false (.tmp 0), [], none⟩,
  ⟨some 4, .bin .geq (.tmp 3) (.const (.int .i64 0)), [], none⟩,
  ⟨some 5, .copy false (.tmp 4), [], none⟩,
  ⟨some 6, .copy false (.tmp 0), [], some (5, true)⟩,
  ⟨some 7, .bin .leq (.tmp 6) (.const (.int .i64 2147483647)), [], some (5, true)⟩,
  ⟨some 8, .pick (.tmp 5) (.tmp 7) (.const (.bool false)), [], none⟩,
  ⟨some 2, .copy true (.tmp 8), [], none⟩]
-- function 99: corollary/corollaryref31.changes
def F99r0 : List ROp := [⟨some 2, .copy true (.const (.bool false)), [], none⟩]
def F99r1 : List ROp := [⟨some 4, .copy false (.tmp 0), [], none⟩,
  ⟨some 5, .len 0 (.tmp 4), [], none⟩,
  ⟨some 6, .bin .gtr (.tmp 5) (.const (.int .i64 100000)), [], none⟩]
def F99r2 : List ROp := [⟨some 2, .copy true (.const (.bool false)), [], none⟩]
def F99r3 : List ROp := [⟨some 3, .copy true (.const (.int .i64 0)), [], none⟩]
def F99r4 : List ROp := [⟨some 7, .copy false (.tmp 3), [], none⟩,
  ⟨some 8, .copy false (.tmp 0), [], none⟩,
  ⟨some 9, .len 0 (.tmp 8), [], none⟩,
  ⟨some 10, .bin .lss (.tmp 7) (.tmp 9), [], none⟩]
def F99r5 : List ROp := [⟨some 11, .copy false (.tmp 3), [], none⟩,
  ⟨some 12, .bin .add (.tmp 11) (.const (.int .i64 1)), [], none⟩,
  ⟨some 3, .copy true (.tmp 12), [], none⟩]
def F99r6 : List ROp := [⟨some 13, .copy false (.tmp 0), [], none⟩,
  ⟨some 14, .copy false (.tmp 3), [], none⟩,
  ⟨some 15, .iad 3 (.tmp 13) (.tmp 14), [], none⟩,
  ⟨some 16, .fad 2 (.tmp 15), [], none⟩,
  ⟨some 17, .load 1 false false (.tmp 16), [], none⟩,
  ⟨some 18, .bin .neq (.tmp 17) (.const (.int .i64 1)), [], none⟩,
  ⟨some 19, .copy false (.tmp 18), [], none⟩,
  ⟨some 20, .copy false (.tmp 0), [], some (19, true)⟩,
  ⟨some 21, .copy false (.tmp 3), [], some (19, true)⟩,
  ⟨some 22, .iad 3 (.tmp 20) (.tmp 21), [], some (19, true)⟩,
  ⟨some 23, .fad 2 (.tmp 22), [], some (19, true)⟩,
  ⟨some 24, .load 1 false false (.tmp 23), [], some (19, true)⟩,
  ⟨some 25, .bin .neq (.tmp 24) (.const (.int .i64 (-1))), [], some (19, true)⟩,
  ⟨some 26, .pick (.tmp 19) (.tmp 25) (.const (.bool false)), [], none⟩,
  ⟨some 27, .copy false (.tmp 26), [], none⟩,
  ⟨some 28, .copy false (.tmp 0), [], some (27, false)⟩,
  ⟨some 29, .copy false (.tmp 3), [], some (27, false)⟩,
  ⟨some 30, .iad 3 (.tmp 28) (.tmp 29), [], some (27, false)⟩,
  ⟨some 31, .fad 0 (.tmp 30), [], some (27, false)⟩,
  ⟨some 32, .fad 0 (.tmp 31), [], some (27, false)⟩,
  ⟨some 33, .load 1 false false (.tmp 32), [], some (27, false)⟩,
  ⟨some 34, .len 1 (.tmp 33), [], some (27, false)⟩,
  ⟨some 35, .bin .gtr (.tmp 34) (.const (.int .i64 65)), [], some (27, false)⟩,
  ⟨some 36, .pick (.tmp 27) (.const (.bool true)) (.tmp 35), [], none⟩,
  ⟨some 37, .copy false (.tmp 36), [], none⟩,
  ⟨some 38, .copy false (.tmp 0), [], some (37, false)⟩,
  ⟨some 39, .copy false (.tmp 3), [], some (37, false)⟩,
  ⟨some 40, .iad 3 (.tmp 38) (.tmp 39), [], some (37, false)⟩,
  ⟨some 41, .fad 0 (.tmp 40), [], some (37, false)⟩,
  ⟨some 42, .fad 1 (.tmp 41), [], some (37, false)⟩,
  ⟨some 43, .load 1 false false (.tmp 42), [], some (37, false)⟩,
  ⟨some 44, .len 0 (.tmp 43), [], some (37, false)⟩,
  ⟨some 45, .bin .gtr (.tmp 44) (.const (.int .i64 8)), [], some (37, false)⟩,
  ⟨some 46, .pick (.tmp 37) (.const (.bool true)) (.tmp 45), [], none⟩,
  ⟨some 47, .copy false (.tmp 46), [], none⟩,
  ⟨some 48, .copy false (.tmp 0), [], some (47, false)⟩,
  ⟨some 49, .copy false (.tmp 3), [], some (47, false)⟩,
  ⟨some 50, .iad 3 (.tmp 48) (.tmp 49), [], some (47, false)⟩,
  ⟨some 51, .fad 0 (.tmp 50), [], some (47, false)⟩,
  ⟨some 52, .fad 1 (.tmp 51), [], some (47, false)⟩,
  ⟨some 53, .load 1 false false (.tmp 52), [], some (47, false)⟩,
  ⟨some 54, .call (.func 119) [.tmp 53], [], some (47, false)⟩,
  ⟨some 55, .un .not (.tmp 54), [], some (47, false)⟩,
  ⟨some 56, .pick (.tmp 47) (.const (.bool true)) (.tmp 55), [], none⟩]
def F99r7 : List ROp := [⟨some 2, .copy true (.const (.bool false)), [], none⟩]
def F99r8 : List ROp := [⟨some 2, .copy true (.const (.bool true)), [], none⟩]
-- function 106: corollary/corollaryref31.rows
def F106r0 : List ROp := [⟨some 2, .copy true (.const (.bool false)), [], none⟩]
def F106r1 : List ROp := [⟨some 4, .copy false (.tmp 0), [], none⟩,
  ⟨some 5, .len 0 (.tmp 4), [], none⟩,
  ⟨some 6, .bin .gtr (.tmp 5) (.const (.int .i64 100000)), [], none⟩]
def F106r2 : List ROp := [⟨some 2, .copy true (.const (.bool false)), [], none⟩]
def F106r3 : List ROp := [⟨some 3, .copy true (.const (.int .i64 0)), [], none⟩]
def F106r4 : List ROp := [⟨some 7, .copy false (.tmp 3), [], none⟩,
  ⟨some 8, .copy false (.tmp 0), [], none⟩,
  ⟨some 9, .len 0 (.tmp 8), [], none⟩,
  ⟨some 10, .bin .lss (.tmp 7) (.tmp 9), [], none⟩]
def F106r5 : List ROp := [⟨some 11, .copy false (.tmp 3), [], none⟩,
  ⟨some 12, .bin .add (.tmp 11) (.const (.int .i64 1)), [], none⟩,
  ⟨some 3, .copy true (.tmp 12), [], none⟩]
def F106r6 : List ROp := [⟨some 13, .copy false (.tmp 0), [], none⟩,
  ⟨some 14, .copy false (.tmp 3), [], none⟩,
  ⟨some 15, .iad 1 (.tmp 13) (.tmp 14), [], none⟩,
  ⟨some 16, .load 1 false false (.tmp 15), [], none⟩,
  ⟨some 17, .len 0 (.tmp 16), [], none⟩,
  ⟨some 18, .bin .gtr (.tmp 17) (.const (.int .i64 8)), [], none⟩,
  ⟨some 19, .copy false (.tmp 18), [], none⟩,
  ⟨some 20, .copy false (.tmp 0), [], some (19, false)⟩,
  ⟨some 21, .copy false (.tmp 3), [], some (19, false)⟩,
  ⟨some 22, .iad 1 (.tmp 20) (.tmp 21), [], some (19, false)⟩,
  ⟨some 23, .load 1 false false (.tmp 22), [], some (19, false)⟩,
  ⟨some 24, .call (.func 119) [.tmp 23], [], some (19, false)⟩,
  ⟨some 25, .un .not (.tmp 24), [], some (19, false)⟩,
  ⟨some 26, .pick (.tmp 19) (.const (.bool true)) (.tmp 25), [], none⟩]
def F106r7 : List ROp := [⟨some 2, .copy true (.const (.bool false)), [], none⟩]
def F106r8 : List ROp := [⟨some 2, .copy true (.const (.bool true)), [], none⟩]
-- function 72: corollary/corollaryref31.row
def F72r0 : List ROp := [⟨some 4, .copy true (.const (.slice none 0 0)), [], none⟩]
def F72r1 : List ROp := [⟨some 6, .copy false (.tmp 0), [], none⟩,
  ⟨some 7, .copy false (.tmp 1), [], none⟩,
  ⟨some 8, .len 0 (.tmp 7), [], none⟩,
  ⟨some 9, .call (.func 61) [.tmp 6, .tmp 8], [], none⟩,
  ⟨some 0, .copy true (.tmp 9), [], none⟩]
def F72r2 : List ROp := [⟨some 5, .copy true (.const (.int .i64 0)), [], none⟩]
def F72r3 : List ROp := [⟨some 10, .copy false (.tmp 5), [], none⟩,
  ⟨some 11, .copy false (.tmp 1), [], none⟩,
  ⟨some 12, .len 0 (.tmp 11), [], none⟩,
  ⟨some 13, .bin .lss (.tmp 10) (.tmp 12), [], none⟩]
def F72r4 : List ROp := [⟨some 14, .copy false (.tmp 5), [], none⟩,
  ⟨some 15, .bin .add (.tmp 14) (.const (.int .i64 1)), [], none⟩,
  ⟨some 5, .copy true (.tmp 15), [], none⟩]
def F72r5 : List ROp := [⟨some 16, .copy false (.tmp 0), [], none⟩,
  ⟨some 17, .copy false (.tmp 1), [], none⟩,
  ⟨some 18, .copy false (.tmp 5), [], none⟩,
  ⟨some 19, .iad 4 (.tmp 17) (.tmp 18), [], none⟩,
  ⟨some 20, .load 4 true false (.tmp 19), [], none⟩,
  ⟨some 21, .call (.func 107) [.tmp 16, .tmp 20], [], none⟩,
  ⟨some 0, .copy true (.tmp 21), [], none⟩]
def F72r6 : List ROp := [⟨some 22, .copy true (.tmp 0), [], none⟩,
  ⟨some 4, .copy true (.tmp 22), [], none⟩]
-- function 63: corollary/corollaryref31.list
def F63r0 : List ROp := [⟨some 4, .copy true (.const (.slice none 0 0)), [], none⟩]
def F63r1 : List ROp := [⟨some 6, .copy false (.tmp 0), [], none⟩,
  ⟨some 7, .copy false (.tmp 1), [], none⟩,
  ⟨some 8, .len 0 (.tmp 7), [], none⟩,
  ⟨some 9, .call (.func 61) [.tmp 6, .tmp 8], [], none⟩,
  ⟨some 0, .copy true (.tmp 9), [], none⟩]
def F63r2 : List ROp := [⟨some 5, .copy true (.const (.int .i64 0)), [], none⟩]
def F63r3 : List ROp := [⟨some 10, .copy false (.tmp 5), [], none⟩,
  ⟨some 11, .copy false (.tmp 1), [], none⟩,
  ⟨some 12, .len 0 (.tmp 11), [], none⟩,
  ⟨some 13, .bin .lss (.tmp 10) (.tmp 12), [], none⟩]
def F63r4 : List ROp := [⟨some 14, .copy false (.tmp 5), [], none⟩,
  ⟨some 15, .bin .add (.tmp 14) (.const (.int .i64 1)), [], none⟩,
  ⟨some 5, .copy true (.tmp 15), [], none⟩]
def F63r5 : List ROp := [⟨some 16, .copy false (.tmp 0), [], none⟩,
  ⟨some 17, .copy false (.tmp 1), [], none⟩,
  ⟨some 18, .copy false (.tmp 5), [], none⟩,
  ⟨some 19, .iad 3 (.tmp 17) (.tmp 18), [], none⟩,
  ⟨some 20, .fad 2 (.tmp 19), [], none⟩,
  ⟨some 21, .load 1 false false (.tmp 20), [], none⟩,
  ⟨some 22, .bin .eql (.tmp 21) (.const (.int .i64 1)), [], none⟩,
  ⟨some 23, .call (.func 64) [.tmp 16, .tmp 22], [], none⟩,
  ⟨some 0, .copy true (.tmp 23), [], none⟩]
def F63r6 : List ROp := [⟨some 24, .copy false (.tmp 0), [], none⟩,
  ⟨some 25, .copy false (.tmp 1), [], none⟩,
  ⟨some 26, .copy false (.tmp 5), [], none⟩,
  ⟨some 27, .iad 3 (.tmp 25) (.tmp 26), [], none⟩,
  ⟨some 28, .fad 0 (.tmp 27), [], none⟩,
  ⟨some 29, .fad 0 (.tmp 28), [], none⟩,
  ⟨some 30, .load 1 false false (.tmp 29), [], none⟩,
  ⟨some 31, .call (.func 62) [.tmp 24, .tmp 30], [], none⟩,
  ⟨some 0, .copy true (.tmp 31), [], none⟩]
def F63r7 : List ROp := [⟨some 32, .copy false (.tmp 0), [], none⟩,
  ⟨some 33, .copy false (.tmp 1), [], none⟩,
  ⟨some 34, .copy false (.tmp 5), [], none⟩,
  ⟨some 35, .iad 3 (.tmp 33) (.tmp 34), [], none⟩,
  ⟨some 36, .fad 0 (.tmp 35), [], none⟩,
  ⟨some 37, .fad 1 (.tmp 36), [], none⟩,
  ⟨some 38, .load 1 false false (.tmp 37), [], none⟩,
  ⟨some 39, .call (.func 72) [.tmp 32, .tmp 38], [], none⟩,
  ⟨some 0, .copy true (.tmp 39), [], none⟩]
def F63r8 : List ROp := [⟨some 40, .copy true (.tmp 0), [], none⟩,
  ⟨some 4, .copy true (.tmp 40), [], none⟩]
-- function 65: corollary/corollaryref31.whole
def F65r0 : List ROp := [⟨some 2, .copy true (.const (.string { data := #[] })), [], none⟩,
  ⟨some 3, .copy true (.const (.int .i64 0)), [], none⟩]
def F65r1 : List ROp := [⟨some 4, .copy false (.tmp 0), [], none⟩,
  ⟨some 5, .len 0 (.tmp 4), [], none⟩,
  ⟨some 6, .bin .gtr (.tmp 5) (.const (.int .i64 65536)), [], none⟩]
def F65r2 : List ROp := [⟨some 2, .copy true (.const (.string { data := #[] })), [], none⟩,
  ⟨some 3, .copy true (.const (.int .i64 40)), [], none⟩]
def F65r3 : List ROp := [⟨some 7, .copy false (.tmp 0), [], none⟩,
  ⟨some 8, .x1 2 (.tmp 7), [], none⟩,
  ⟨some 2, .copy true (.tmp 8), [], none⟩,
  ⟨some 3, .copy true (.const (.int .i64 0)), [], none⟩]
attribute [local simp] valX encV_eq
theorem countR_ok (n : Int) : Con Tryz.prog 98 [ival n] (bval (countB n)) := by
  refine Con.of_code Tryz.func98 (by kernel_rfl) rfl (by simp [Tryz.ntmps98]) fun C hC hM => ?_
  refine AWp.seq ?_
  refine AWp.regK [0] [true] F98r0 [] (by kernel_rfl) (by rw [hC]; rfl) fun K hK => ?_
  simp (maxSteps := 2000000) [F98r0]
  refine hK _ ?_
  refine AWp.seq ?_
  refine AWp.regK [2] [false, false, false, false, false, false, true] F98r1 [] (by kernel_rfl) (by rw [hC]; rfl) fun K hK => ?_
  simp (maxSteps := 2000000) [F98r1]
  (repeat refine ⟨by first | omega | (intros; omega) | assumption, ?_⟩); refine hK _ ?_
  repeat refine AWp.seq ?_
  refine AWp.ret ⟨.inr rfl, _, by simp [Tryz.results98] <;> rfl, ?_⟩
  exact .clos (by simp [countB]) rfl
theorem all_drop {α : Type} (p : α → Bool) (l : List α) (k : Nat) (h : k < l.length) : (l.drop k).all p = (p l[k] && (l.drop (k + 1)).all p) := by rw [List.drop_eq_getElem_cons h, List.all_cons]
theorem changesR_ok (l : List ChgD) (hl : csizes l ≤ 4194304) : Con Tryz.prog 99 [.rd 3 (l.map encC)] (bval (changesOk l)) := by
  have hlen := csizes_len l
  refine Con.of_code Tryz.func99 (by kernel_rfl) rfl (by simp [Tryz.ntmps99]) fun C hC hM => ?_
  refine AWp.seq ?_
  refine AWp.regK [0] [true] F99r0 [] (by kernel_rfl) (by rw [hC]; rfl) fun K hK => ?_
  simp (maxSteps := 2000000) [F99r0]
  refine hK _ ?_
  refine AWp.seq ?_
  refine AWp.seq ?_
  refine AWp.regK [0, 6] [] F99r1 [] (by kernel_rfl) (by rw [hC]; rfl) fun K hK => ?_
  simp (maxSteps := 2000000) [F99r1]
  refine hK _ ?_
  refine AWp.cond _ (by rfl) (fun h => ?_) (fun h => ?_)
  · skip
    have h : ¬ l.length ≤ 100000 := by simp at h; omega
    refine AWp.seq ?_
    refine AWp.regK [2] [true] F99r2 [] (by kernel_rfl) (by rw [hC]; rfl) fun K hK => ?_
    simp (maxSteps := 2000000) [F99r2]
    refine hK _ ?_
    repeat refine AWp.seq ?_
    refine AWp.ret ⟨.inr rfl, _, by simp [Tryz.results99] <;> rfl, ?_⟩
    refine .clos ?_ rfl
    simp [changesOk, h]
  have h : l.length ≤ 100000 := by simp at h; omega
  have h2 : changesOk l = l.all chOk := by simp [changesOk, h]
  rw [h2]
  refine AWp.skip ?_
  refine AWp.seq ?_
  refine AWp.seq ?_
  refine AWp.regK [0, 3] [true] F99r3 [] (by kernel_rfl) (by rw [hC]; rfl) fun K hK => ?_
  simp (maxSteps := 2000000) [F99r3]
  refine hK _ ?_
  refine AWp.block ?_
  refine AWp.loopG (fun k : Nat => { tm := [(0, .rd 3 (l.map encC)), (3, ival k)], hp := [] }) (fun k => k ≤ l.length ∧ l.all chOk = (l.drop k).all chOk) (fun k => l.length - k) 0 ⟨by omega, by simp⟩ (by simp) (fun k hk => ?_)
  obtain ⟨hk1, hk2⟩ := hk
  refine AWp.seq ?_
  refine AWp.seq ?_
  refine AWp.regK [0, 3, 10] [] F99r4 [] (by kernel_rfl) (by rw [hC]; rfl) fun K hK => ?_
  simp (maxSteps := 2000000) [F99r4]
  refine hK _ ?_
  refine AWp.cond _ (by rfl) (fun hlt => ?_) (fun hge => ?_)
  · skip
    have hlt : k < l.length := by simpa using hlt
    have hd := all_drop chOk l k hlt
    have hm := csize_mem (List.getElem_mem hlt)
    have hcs : csize l[k] = 1 + l[k].rel.size + vsizes l[k].l := rfl
    have hc := Row_ok l[k].l (by omega)
    have e1 : decide ((65 : Int) < l[k].rel.size) = !decide (l[k].rel.size ≤ 65) := by rw [← decide_not]; exact decide_eq_decide.2 (by omega)
    have e3 : decide ((l[k].rel.size : Int) ≤ 65) = decide (l[k].rel.size ≤ 65) := decide_eq_decide.2 (by omega)
    have e4 : decide ((l[k].l.length : Int) ≤ 8) = decide (l[k].l.length ≤ 8) := decide_eq_decide.2 (by omega)
    have e2 : decide ((8 : Int) < l[k].l.length) = !decide (l[k].l.length ≤ 8) := by rw [← decide_not]; exact decide_eq_decide.2 (by omega)
    refine AWp.skip ?_
    refine AWp.seq ?_
    refine AWp.block ?_
    refine AWp.seq ?_
    refine AWp.regK [0, 3, 56] [] F99r6 [{ r := bval (Row l[k].l) }] (by kernel_rfl) (by rw [hC]; rfl) fun K hK => ?_
    simp (maxSteps := 2000000) [F99r6, hlt]
    (repeat first | refine ⟨by first | (show freeP _ _ _ = true; kernel_rfl) | omega | (intros; omega) | assumption, ?_⟩ | refine ⟨by intros; exact callOK rfl hc, ?_⟩); refine hK _ ?_
    refine AWp.cond _ (by rfl) (fun hn => ?_) (fun hn => ?_)
    · skip
      have hn : chOk l[k] = false := by
        unfold chOk rowOk
        simp only [e1, e2, e3, e4] at hn
        revert hn
        cases decide (l[k].n = 1) <;> cases decide (l[k].n = -1) <;> cases decide (l[k].rel.size ≤ 65) <;> cases decide (l[k].l.length ≤ 8) <;> cases Row l[k].l <;> simp
      refine AWp.seq ?_
      refine AWp.regK [2] [true] F99r7 [] (by kernel_rfl) (by rw [hC]; rfl) fun K hK => ?_
      simp (maxSteps := 2000000) [F99r7]
      refine hK _ ?_
      repeat refine AWp.seq ?_
      refine AWp.ret ⟨.inr rfl, _, by simp [Tryz.results99] <;> rfl, ?_⟩
      rw [hk2, hd, hn]
      exact .closed rfl
    have hn : chOk l[k] = true := by
      unfold chOk rowOk
      simp only [e1, e2, e3, e4] at hn
      revert hn
      cases decide (l[k].n = 1) <;> cases decide (l[k].n = -1) <;> cases decide (l[k].rel.size ≤ 65) <;> cases decide (l[k].l.length ≤ 8) <;> cases Row l[k].l <;> simp
    refine AWp.skip ?_
    refine AWp.regK [0, 3] [false, false, true] F99r5 [] (by kernel_rfl) (by rw [hC]; rfl) fun K hK => ?_
    simp (maxSteps := 2000000) [F99r5]
    (repeat refine ⟨by first | omega | (intros; omega) | assumption, ?_⟩); refine hK _ ?_
    refine ⟨k + 1, ⟨by omega, by rw [hk2, hd, hn]; rfl⟩, by omega, ?_⟩
    simp [wrap_nat k (by omega)]
  have hge : ¬ k < l.length := by simpa using hge
  refine AWp.exit ?_
  refine AWp.seq ?_
  refine AWp.regK [2] [true] F99r8 [] (by kernel_rfl) (by rw [hC]; rfl) fun K hK => ?_
  simp (maxSteps := 2000000) [F99r8]
  refine hK _ ?_
  repeat refine AWp.seq ?_
  refine AWp.ret ⟨.inr rfl, _, by simp [Tryz.results99] <;> rfl, ?_⟩
  rw [hk2, List.drop_eq_nil_of_le (by omega)]
  exact .closed rfl
theorem rowsR_ok (l : List (List ValD)) (hl : rsizes l ≤ 4194304) : Con Tryz.prog 106 [.rd 1 (l.map encL)] (bval (rowsOk l)) := by
  have hlen := rsizes_len l
  refine Con.of_code Tryz.func106 (by kernel_rfl) rfl (by simp [Tryz.ntmps106]) fun C hC hM => ?_
  refine AWp.seq ?_
  refine AWp.regK [0] [true] F106r0 [] (by kernel_rfl) (by rw [hC]; rfl) fun K hK => ?_
  simp (maxSteps := 2000000) [F106r0]
  refine hK _ ?_
  refine AWp.seq ?_
  refine AWp.seq ?_
  refine AWp.regK [0, 6] [] F106r1 [] (by kernel_rfl) (by rw [hC]; rfl) fun K hK => ?_
  simp (maxSteps := 2000000) [F106r1]
  refine hK _ ?_
  refine AWp.cond _ (by rfl) (fun h => ?_) (fun h => ?_)
  · skip
    have h : ¬ l.length ≤ 100000 := by simp at h; omega
    refine AWp.seq ?_
    refine AWp.regK [2] [true] F106r2 [] (by kernel_rfl) (by rw [hC]; rfl) fun K hK => ?_
    simp (maxSteps := 2000000) [F106r2]
    refine hK _ ?_
    repeat refine AWp.seq ?_
    refine AWp.ret ⟨.inr rfl, _, by simp [Tryz.results106] <;> rfl, ?_⟩
    refine .clos ?_ rfl
    simp [rowsOk, h]
  have h : l.length ≤ 100000 := by simp at h; omega
  have h2 : rowsOk l = l.all rowOk := by simp [rowsOk, h]
  rw [h2]
  refine AWp.skip ?_
  refine AWp.seq ?_
  refine AWp.seq ?_
  refine AWp.regK [0, 3] [true] F106r3 [] (by kernel_rfl) (by rw [hC]; rfl) fun K hK => ?_
  simp (maxSteps := 2000000) [F106r3]
  refine hK _ ?_
  refine AWp.block ?_
  refine AWp.loopG (fun k : Nat => { tm := [(0, .rd 1 (l.map encL)), (3, ival k)], hp := [] }) (fun k => k ≤ l.length ∧ l.all rowOk = (l.drop k).all rowOk) (fun k => l.length - k) 0 ⟨by omega, by simp⟩ (by simp) (fun k hk => ?_)
  obtain ⟨hk1, hk2⟩ := hk
  refine AWp.seq ?_
  refine AWp.seq ?_
  refine AWp.regK [0, 3, 10] [] F106r4 [] (by kernel_rfl) (by rw [hC]; rfl) fun K hK => ?_
  simp (maxSteps := 2000000) [F106r4]
  refine hK _ ?_
  refine AWp.cond _ (by rfl) (fun hlt => ?_) (fun hge => ?_)
  · skip
    have hlt : k < l.length := by simpa using hlt
    have hd := all_drop rowOk l k hlt
    have hm := rsize_mem (List.getElem_mem hlt)
    have hc := Row_ok l[k] (by omega)
    have e4 : decide ((l[k].length : Int) ≤ 8) = decide (l[k].length ≤ 8) := decide_eq_decide.2 (by omega)
    have e2 : decide ((8 : Int) < l[k].length) = !decide (l[k].length ≤ 8) := by rw [← decide_not]; exact decide_eq_decide.2 (by omega)
    refine AWp.skip ?_
    refine AWp.seq ?_
    refine AWp.block ?_
    refine AWp.seq ?_
    refine AWp.regK [0, 3, 26] [] F106r6 [{ r := bval (Row l[k]) }] (by kernel_rfl) (by rw [hC]; rfl) fun K hK => ?_
    simp (maxSteps := 2000000) [F106r6, hlt]
    (repeat first | refine ⟨by first | (show freeP _ _ _ = true; kernel_rfl) | omega | (intros; omega) | assumption, ?_⟩ | refine ⟨by intros; exact callOK rfl hc, ?_⟩); refine hK _ ?_
    refine AWp.cond _ (by rfl) (fun hn => ?_) (fun hn => ?_)
    · skip
      have hn : rowOk l[k] = false := by
        unfold rowOk
        simp only [e2, e4] at hn
        revert hn
        cases decide (l[k].length ≤ 8) <;> cases Row l[k] <;> simp
      refine AWp.seq ?_
      refine AWp.regK [2] [true] F106r7 [] (by kernel_rfl) (by rw [hC]; rfl) fun K hK => ?_
      simp (maxSteps := 2000000) [F106r7]
      refine hK _ ?_
      repeat refine AWp.seq ?_
      refine AWp.ret ⟨.inr rfl, _, by simp [Tryz.results106] <;> rfl, ?_⟩
      rw [hk2, hd, hn]
      exact .closed rfl
    have hn : rowOk l[k] = true := by
      unfold rowOk
      simp only [e2, e4] at hn
      revert hn
      cases decide (l[k].length ≤ 8) <;> cases Row l[k] <;> simp
    refine AWp.skip ?_
    refine AWp.regK [0, 3] [false, false, true] F106r5 [] (by kernel_rfl) (by rw [hC]; rfl) fun K hK => ?_
    simp (maxSteps := 2000000) [F106r5]
    (repeat refine ⟨by first | omega | (intros; omega) | assumption, ?_⟩); refine hK _ ?_
    refine ⟨k + 1, ⟨by omega, by rw [hk2, hd, hn]; rfl⟩, by omega, ?_⟩
    simp [wrap_nat k (by omega)]
  have hge : ¬ k < l.length := by simpa using hge
  refine AWp.exit ?_
  refine AWp.seq ?_
  refine AWp.regK [2] [true] F106r8 [] (by kernel_rfl) (by rw [hC]; rfl) fun K hK => ?_
  simp (maxSteps := 2000000) [F106r8]
  refine hK _ ?_
  repeat refine AWp.seq ?_
  refine AWp.ret ⟨.inr rfl, _, by simp [Tryz.results106] <;> rfl, ?_⟩
  rw [hk2, List.drop_eq_nil_of_le (by omega)]
  exact .closed rfl
theorem rowR_ok (pre : List Int) (l : List ValD) (hr : rngs l) (hv : vsizes l ≤ 4194304) (hl : pre.length ≤ 100000000) : Con Tryz.prog 72 [rB pre, encRow l] (rB (pre ++ rowE l)) := by
  have hlen := vsizes_len l
  have hvl := vals_len l hr hv
  have h1 := CountR_ok pre l.length (by omega)
  have hcl := cntE_len l.length
  refine Con.of_code Tryz.func72 (by kernel_rfl) rfl (by simp [Tryz.ntmps72]) fun C hC hM => ?_
  refine AWp.seq ?_
  refine AWp.regK [0, 1] [true] F72r0 [] (by kernel_rfl) (by rw [hC]; rfl) fun K hK => ?_
  simp (maxSteps := 2000000) [F72r0]
  refine hK _ ?_
  refine AWp.seq ?_
  refine AWp.regK [0, 1] [false, false, false, false, true] F72r1 [{ r := oB (pre ++ cntE l.length) }] (by kernel_rfl) (by rw [hC]; rfl) fun K hK => ?_
  simp (maxSteps := 2000000) [F72r1]
  (repeat first | refine ⟨by first | (show freeP _ _ _ = true; kernel_rfl) | omega | (intros; omega) | assumption, ?_⟩ | refine ⟨by intros; exact callOK rfl h1, ?_⟩); refine hK _ ?_
  refine AWp.seq ?_
  refine AWp.seq ?_
  refine AWp.regK [0, 1, 5] [true] F72r2 [] (by kernel_rfl) (by rw [hC]; rfl) fun K hK => ?_
  simp (maxSteps := 2000000) [F72r2]
  refine hK _ ?_
  refine AWp.block ?_
  refine AWp.loopG (fun k : Nat => { tm := [(0, rB (pre ++ (cntE l.length ++ manyE valP (l.take k)))), (1, encRow l), (5, ival k)], hp := [] }) (fun k => k ≤ l.length) (fun k => l.length - k) 0 (by omega) (by simp [manyE]) (fun k hk => ?_)
  have htl := manyE_take_le valP l k
  have hcu : (pre ++ (cntE l.length ++ manyE valP (l.take k))).length ≤ pre.length + 9 + (manyE valP l).length := by simp only [List.length_append]; omega
  refine AWp.seq ?_
  refine AWp.seq ?_
  refine AWp.regK [0, 1, 5, 13] [] F72r3 [] (by kernel_rfl) (by rw [hC]; rfl) fun K hK => ?_
  simp (maxSteps := 2000000) [F72r3]
  refine hK _ ?_
  refine AWp.cond _ (by rfl) (fun hlt => ?_) (fun hge => ?_)
  · skip
    have hlt : k < l.length := by simpa using hlt
    have hst : pre ++ (cntE l.length ++ manyE valP (l.take (k + 1))) = pre ++ (cntE l.length ++ manyE valP (l.take k)) ++ valP l[k] := by rw [manyE_take valP l k hlt]; simp
    generalize pre ++ (cntE l.length ++ manyE valP (l.take k)) = cur at *
    have hm := List.getElem_mem hlt
    have hc := ValueR_ok cur l[k] (by have := vsize_mem hm; omega) (rngs_mem hm hr) (by omega)
    rw [← hst] at hc
    generalize hnx : pre ++ (cntE l.length ++ manyE valP (l.take (k + 1))) = nxt at *
    refine AWp.skip ?_
    refine AWp.seq ?_
    refine AWp.block ?_
    refine AWp.regK [0, 1, 5] [false, false, false, false, false, false, true] F72r5 [{ r := oB nxt }] (by kernel_rfl) (by rw [hC]; rfl) fun K hK => ?_
    simp (maxSteps := 2000000) [F72r5, hlt]
    (repeat first | refine ⟨by first | (show freeP _ _ _ = true; kernel_rfl) | omega | (intros; omega) | assumption, ?_⟩ | refine ⟨by intros; exact callOK rfl hc, ?_⟩); refine hK _ ?_
    refine AWp.regK [0, 1, 5] [false, false, true] F72r4 [] (by kernel_rfl) (by rw [hC]; rfl) fun K hK => ?_
    simp (maxSteps := 2000000) [F72r4]
    (repeat refine ⟨by first | omega | (intros; omega) | assumption, ?_⟩); refine hK _ ?_
    refine ⟨k + 1, by omega, by omega, ?_⟩
    rw [hnx]
    simp [wrap_nat k (by omega)]
  have hge : ¬ k < l.length := by simpa using hge
  refine AWp.exit ?_
  rw [List.take_of_length_le (by omega)]
  refine AWp.seq ?_
  refine AWp.regK [4] [true, true] F72r6 [] (by kernel_rfl) (by rw [hC]; rfl) fun K hK => ?_
  simp (maxSteps := 2000000) [F72r6]
  refine hK _ ?_
  repeat refine AWp.seq ?_
  refine AWp.ret ⟨.inr rfl, _, by simp [Tryz.results72] <;> rfl, ?_⟩
  exact .closed rfl
theorem listR_ok (pre : List Int) (l : List ChgD) (hr : crngs l) (hv : csizes l ≤ 4194304) (hl : pre.length ≤ 10000000) : Con Tryz.prog 63 [rB pre, .rd 3 (l.map encC)] (rB (pre ++ (cntE l.length ++ manyE chE l))) := by
  have hlen := csizes_len l
  have hvl := chs_len l hr hv
  have h1 := CountR_ok pre l.length (by omega)
  have hcl := cntE_len l.length
  refine Con.of_code Tryz.func63 (by kernel_rfl) rfl (by simp [Tryz.ntmps63]) fun C hC hM => ?_
  refine AWp.seq ?_
  refine AWp.regK [0, 1] [true] F63r0 [] (by kernel_rfl) (by rw [hC]; rfl) fun K hK => ?_
  simp (maxSteps := 2000000) [F63r0]
  refine hK _ ?_
  refine AWp.seq ?_
  refine AWp.regK [0, 1] [false, false, false, false, true] F63r1 [{ r := oB (pre ++ cntE l.length) }] (by kernel_rfl) (by rw [hC]; rfl) fun K hK => ?_
  simp (maxSteps := 2000000) [F63r1]
  (repeat first | refine ⟨by first | (show freeP _ _ _ = true; kernel_rfl) | omega | (intros; omega) | assumption, ?_⟩ | refine ⟨by intros; exact callOK rfl h1, ?_⟩); refine hK _ ?_
  refine AWp.seq ?_
  refine AWp.seq ?_
  refine AWp.regK [0, 1, 5] [true] F63r2 [] (by kernel_rfl) (by rw [hC]; rfl) fun K hK => ?_
  simp (maxSteps := 2000000) [F63r2]
  refine hK _ ?_
  refine AWp.block ?_
  refine AWp.loopG (fun k : Nat => { tm := [(0, rB (pre ++ (cntE l.length ++ manyE chE (l.take k)))), (1, .rd 3 (l.map encC)), (5, ival k)], hp := [] }) (fun k => k ≤ l.length) (fun k => l.length - k) 0 (by omega) (by simp [manyE]) (fun k hk => ?_)
  have htl := manyE_take_le chE l k
  have hcu : (pre ++ (cntE l.length ++ manyE chE (l.take k))).length ≤ pre.length + 9 + (manyE chE l).length := by simp only [List.length_append]; omega
  refine AWp.seq ?_
  refine AWp.seq ?_
  refine AWp.regK [0, 1, 5, 13] [] F63r3 [] (by kernel_rfl) (by rw [hC]; rfl) fun K hK => ?_
  simp (maxSteps := 2000000) [F63r3]
  refine hK _ ?_
  refine AWp.cond _ (by rfl) (fun hlt => ?_) (fun hge => ?_)
  · skip
    have hlt : k < l.length := by simpa using hlt
    have hst : pre ++ (cntE l.length ++ manyE chE (l.take (k + 1))) = pre ++ (cntE l.length ++ manyE chE (l.take k)) ++ flagE (decide (l[k].n = 1)) ++ txtE l[k].rel ++ rowE l[k].l := by rw [manyE_take chE l k hlt]; simp [chE]
    generalize pre ++ (cntE l.length ++ manyE chE (l.take k)) = cur at *
    have hm := List.getElem_mem hlt
    have hcm := csize_mem hm
    have hcs : csize l[k] = 1 + l[k].rel.size + vsizes l[k].l := rfl
    have htx := txtE_len l[k].rel
    have hfl := flagE_len (decide (l[k].n = 1))
    have hc1 := FlagR_ok cur (decide (l[k].n = 1)) (by omega)
    have hc2 := StrR_ok (cur ++ flagE (decide (l[k].n = 1))) l[k].rel (by omega) (by simp; omega)
    have hc3 := rowR_ok (cur ++ flagE (decide (l[k].n = 1)) ++ txtE l[k].rel) l[k].l (crngs_mem hm hr).2 (by omega) (by simp; omega)
    rw [← hst] at hc3
    generalize hnx : pre ++ (cntE l.length ++ manyE chE (l.take (k + 1))) = nxt at *
    generalize cur ++ flagE (decide (l[k].n = 1)) ++ txtE l[k].rel = mid2 at *
    generalize cur ++ flagE (decide (l[k].n = 1)) = mid at *
    refine AWp.skip ?_
    refine AWp.seq ?_
    refine AWp.block ?_
    refine AWp.seq ?_
    refine AWp.regK [0, 1, 5] [false, false, false, false, false, false, false, false, true] F63r5 [{ r := rB mid }] (by kernel_rfl) (by rw [hC]; rfl) fun K hK => ?_
    simp (maxSteps := 2000000) [F63r5, hlt]
    (repeat first | refine ⟨by first | (show freeP _ _ _ = true; kernel_rfl) | omega | (intros; omega) | assumption, ?_⟩ | refine ⟨by intros; exact callOK rfl (hc1.res (.own (WkR.refl _)) rfl), ?_⟩); refine hK _ ?_
    refine AWp.seq ?_
    refine AWp.regK [0, 1, 5] [false, false, false, false, false, false, false, false, true] F63r6 [{ r := rB mid2 }] (by kernel_rfl) (by rw [hC]; rfl) fun K hK => ?_
    simp (maxSteps := 2000000) [F63r6, hlt]
    (repeat first | refine ⟨by first | (show freeP _ _ _ = true; kernel_rfl) | omega | (intros; omega) | assumption, ?_⟩ | refine ⟨by intros; exact callOK rfl (hc2.res (.own (WkR.refl _)) rfl), ?_⟩); refine hK _ ?_
    refine AWp.regK [0, 1, 5] [false, false, false, false, false, false, false, false, true] F63r7 [{ r := rB nxt }] (by kernel_rfl) (by rw [hC]; rfl) fun K hK => ?_
    simp (maxSteps := 2000000) [F63r7, hlt]
    (repeat first | refine ⟨by first | (show freeP _ _ _ = true; kernel_rfl) | omega | (intros; omega) | assumption, ?_⟩ | refine ⟨by intros; exact callOK rfl hc3, ?_⟩); refine hK _ ?_
    refine AWp.regK [0, 1, 5] [false, false, true] F63r4 [] (by kernel_rfl) (by rw [hC]; rfl) fun K hK => ?_
    simp (maxSteps := 2000000) [F63r4]
    (repeat refine ⟨by first | omega | (intros; omega) | assumption, ?_⟩); refine hK _ ?_
    refine ⟨k + 1, by omega, by omega, ?_⟩
    rw [hnx]
    simp [wrap_nat k (by omega)]
  have hge : ¬ k < l.length := by simpa using hge
  refine AWp.exit ?_
  rw [List.take_of_length_le (by omega)]
  refine AWp.seq ?_
  refine AWp.regK [4] [true, true] F63r8 [] (by kernel_rfl) (by rw [hC]; rfl) fun K hK => ?_
  simp (maxSteps := 2000000) [F63r8]
  refine hK _ ?_
  repeat refine AWp.seq ?_
  refine AWp.ret ⟨.inr rfl, _, by simp [Tryz.results63] <;> rfl, ?_⟩
  exact .closed rfl
theorem numsA_btR : ∀ l : List Int, numsA (bt l) = some l
  | [] => rfl
  | c :: l => by
    have := numsA_btR l
    simp only [bt, List.map_cons, uval, numsA] at this ⊢
    rw [this]; rfl
theorem wholeR_ok (l : List Int) (hl : l.length ≤ 268435456) : Con Tryz.prog 65 [rB l] (wholeA l) := by
  refine Con.of_code Tryz.func65 (by kernel_rfl) rfl (by simp [Tryz.ntmps65]) fun C hC hM => ?_
  refine AWp.seq ?_
  refine AWp.regK [0] [true, true] F65r0 [] (by kernel_rfl) (by rw [hC]; rfl) fun K hK => ?_
  simp (maxSteps := 2000000) [F65r0]
  refine hK _ ?_
  refine AWp.seq ?_
  refine AWp.seq ?_
  refine AWp.regK [0, 6] [] F65r1 [] (by kernel_rfl) (by rw [hC]; rfl) fun K hK => ?_
  simp (maxSteps := 2000000) [F65r1]
  refine hK _ ?_
  refine AWp.cond _ (by rfl) (fun h => ?_) (fun h => ?_)
  · skip
    have h : 65536 < l.length := by simp at h; omega
    refine AWp.seq ?_
    refine AWp.regK [2, 3] [true, true] F65r2 [] (by kernel_rfl) (by rw [hC]; rfl) fun K hK => ?_
    simp (maxSteps := 2000000) [F65r2]
    refine hK _ ?_
    repeat refine AWp.seq ?_
    refine AWp.ret ⟨.inr rfl, _, by simp [Tryz.results65] <;> rfl, ?_⟩
    refine .clos ?_ ?_
    · unfold wholeA; rw [if_neg (by omega)]; rfl
    · unfold wholeA; rw [if_neg (by omega)]; rfl
  have h : ¬ 65536 < l.length := by simp at h; omega
  refine AWp.skip ?_
  refine AWp.seq ?_
  refine AWp.regK [2, 3] [false, false, true, true] F65r3 [] (by kernel_rfl) (by rw [hC]; rfl) fun K hK => ?_
  simp (maxSteps := 2000000) [F65r3, numsA_btR]
  refine hK _ ?_
  repeat refine AWp.seq ?_
  refine AWp.ret ⟨.inr rfl, _, by simp [Tryz.results65] <;> rfl, ?_⟩
  refine .clos ?_ ?_
  · unfold wholeA; rw [if_pos (by omega)]; rfl
  · unfold wholeA; rw [if_pos (by omega)]; rfl
end Go.Se
