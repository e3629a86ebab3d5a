/- What a command has: the program's and the document's. -/
import Derived.Test.YtmikljncdgfjpaaGreatDoorSeJ
import Derived.Test.YtmikljncdgfjpaaGreatDoorSeK
set_option linter.unusedSimpArgs false
set_option linter.unusedVariables false
open Go Go.Aw Go.Proofs
namespace Go.Se
set_option maxRecDepth 20000
set_option maxHeartbeats 2000000
-- function 51: (corollary/session.Command).fits
def F51r0 : List ROp := [⟨some 1, .box 25 (.tmp 0), [], none⟩,
  ⟨some 2, .copy true (.const (.bool false)), [], none⟩]
def F51r1 : List ROp := [⟨some 7, .fad 0 (.tmp 1), [], none⟩,
  ⟨some 8, .load 1 false false (.tmp 7), [0], none⟩,
  ⟨some 9, .bin .eql (.tmp 8) (.const (.int .u8 1)), [1], none⟩,
  ⟨some 10, .fad 0 (.tmp 1), [], none⟩,
  ⟨some 11, .load 1 false false (.tmp 10), [3], none⟩,
  ⟨some 12, .bin .eql (.tmp 11) (.const (.int .u8 2)), [4], none⟩,
  ⟨some 13, .fad 0 (.tmp 1), [], none⟩,
  ⟨some 14, .load 1 false false (.tmp 13), [6], none⟩,
  ⟨some 15, .bin .geq (.tmp 14) (.const (.int .u8 3)), [7], none⟩,
  ⟨some 16, .fad 0 (.tmp 1), [], none⟩,
  ⟨some 17, .load 1 false false (.tmp 16), [9], none⟩,
  ⟨some 18, .bin .eql (.tmp 17) (.const (.int .u8 4)), [10], none⟩,
  ⟨some 19, .copy false (.tmp 18), [11], none⟩,
  ⟨some 20, .fad 0 (.tmp 1), [12], some (19, false)⟩,
  ⟨some 21, .load 1 false false (.tmp 20), [13, 12], some (19, false)⟩,
  ⟨some 22, .bin .eql (.tmp 21) (.const (.int .u8 5)), [14, 12], some (19, false)⟩,
  ⟨some 23, .pick (.tmp 19) (.const (.bool true)) (.tmp 22), [12, 15], none⟩,
  ⟨some 3, .copy true (.tmp 9), [2, 12, 0, 1, 2], none⟩,
  ⟨some 4, .copy true (.tmp 12), [5, 17, 0, 1, 2, 3, 4, 5, 17], none⟩,
  ⟨some 5, .copy true (.tmp 15), [8, 18, 0, 1, 2, 3, 4, 5, 6, 7, 8, 17, 18], none⟩,
  ⟨some 6, .copy true (.tmp 23), [16, 19, 0, 1, 2, 3, 4, 5, 6, 7, 8, 9, 10, 11, 12, 13, 14, 15, 16, 17, 18, 19], none⟩]
def F51r2 : List ROp := [⟨some 25, .copy false (.tmp 3), [], none⟩,
  ⟨some 26, .un .not (.tmp 25), [], none⟩,
  ⟨some 27, .copy false (.tmp 26), [], none⟩,
  ⟨some 28, .fad 1 (.tmp 1), [], some (27, true)⟩,
  ⟨some 29, .load 1 false false (.tmp 28), [], some (27, true)⟩,
  ⟨some 30, .bin .neq (.tmp 29) (.const (.int .i64 0)), [], some (27, true)⟩,
  ⟨some 31, .copy false (.tmp 30), [], some (27, true)⟩,
  ⟨some 32, .fad 2 (.tmp 1), [], some (31, false)⟩,
  ⟨some 33, .load 1 false false (.tmp 32), [], some (31, false)⟩,
  ⟨some 34, .len 0 (.tmp 33), [], some (31, false)⟩,
  ⟨some 35, .bin .gtr (.tmp 34) (.const (.int .i64 0)), [], some (31, false)⟩,
  ⟨some 36, .pick (.tmp 31) (.const (.bool true)) (.tmp 35), [], some (27, true)⟩,
  ⟨some 37, .pick (.tmp 27) (.tmp 36) (.const (.bool false)), [], none⟩,
  ⟨some 38, .copy false (.tmp 37), [], none⟩,
  ⟨some 39, .copy false (.tmp 4), [], some (38, false)⟩,
  ⟨some 40, .un .not (.tmp 39), [], some (38, false)⟩,
  ⟨some 41, .copy false (.tmp 40), [], some (38, false)⟩,
  ⟨some 42, .fad 3 (.tmp 1), [], some (41, true)⟩,
  ⟨some 43, .load 1 false false (.tmp 42), [], some (41, true)⟩,
  ⟨some 44, .len 0 (.tmp 43), [], some (41, true)⟩,
  ⟨some 45, .bin .gtr (.tmp 44) (.const (.int .i64 0)), [], some (41, true)⟩,
  ⟨some 46, .pick (.tmp 41) (.tmp 45) (.const (.bool false)), [], some (38, false)⟩,
  ⟨some 47, .pick (.tmp 38) (.const (.bool true)) (.tmp 46), [], none⟩,
  ⟨some 48, .copy false (.tmp 47), [], none⟩,
  ⟨some 49, .copy false (.tmp 5), [], some (48, false)⟩,
  ⟨some 50, .un .not (.tmp 49), [], some (48, false)⟩,
  ⟨some 51, .copy false (.tmp 50), [], some (48, false)⟩,
  ⟨some 52, .fad 4 (.tmp 1), [], some (51, true)⟩,
  ⟨some 53, .load 1 false false (.tmp 52), [], some (51, true)⟩,
  ⟨some 54, .bin .neq (.tmp 53) (.const (.string { data := #[] })), [], some (51, true)⟩,
  ⟨some 55, .pick (.tmp 51) (.tmp 54) (.const (.bool false)), [], some (48, false)⟩,
  ⟨some 56, .pick (.tmp 48) (.const (.bool true)) (.tmp 55), [], none⟩,
  ⟨some 57, .copy false (.tmp 56), [], none⟩,
  ⟨some 58, .copy false (.tmp 6), [], some (57, false)⟩,
  ⟨some 59, .un .not (.tmp 58), [], some (57, false)⟩,
  ⟨some 60, .copy false (.tmp 59), [], some (57, false)⟩,
  ⟨some 61, .fad 5 (.tmp 1), [], some (60, true)⟩,
  ⟨some 62, .load 1 false false (.tmp 61), [], some (60, true)⟩,
  ⟨some 63, .copy false (.tmp 62), [], some (60, true)⟩,
  ⟨some 64, .fad 6 (.tmp 1), [], some (63, false)⟩,
  ⟨some 65, .load 1 false false (.tmp 64), [], some (63, false)⟩,
  ⟨some 66, .bin .neq (.tmp 65) (.const (.string { data := #[] })), [], some (63, false)⟩,
  ⟨some 67, .pick (.tmp 63) (.const (.bool true)) (.tmp 66), [], some (60, true)⟩,
  ⟨some 68, .pick (.tmp 60) (.tmp 67) (.const (.bool false)), [], some (57, false)⟩,
  ⟨some 69, .pick (.tmp 57) (.const (.bool true)) (.tmp 68), [], none⟩,
  ⟨some 24, .copy true (.tmp 69), [], none⟩]
def F51r3 : List ROp := [⟨some 2, .copy true (.const (.bool false)), [], none⟩]
def F51r4 : List ROp := [⟨some 71, .fad 1 (.tmp 1), [], none⟩,
  ⟨some 72, .load 1 false false (.tmp 71), [], none⟩,
  ⟨some 73, .call (.func 90) [.tmp 72], [], none⟩,
  ⟨some 74, .un .not (.tmp 73), [], none⟩,
  ⟨some 75, .copy false (.tmp 74), [], none⟩,
  ⟨some 76, .fad 2 (.tmp 1), [], some (75, false)⟩,
  ⟨some 77, .load 1 false false (.tmp 76), [], some (75, false)⟩,
  ⟨some 78, .len 0 (.tmp 77), [], some (75, false)⟩,
  ⟨some 79, .bin .gtr (.tmp 78) (.const (.int .i64 8)), [], some (75, false)⟩,
  ⟨some 80, .pick (.tmp 75) (.const (.bool true)) (.tmp 79), [], none⟩,
  ⟨some 81, .copy false (.tmp 80), [], none⟩,
  ⟨some 82, .fad 2 (.tmp 1), [], some (81, false)⟩,
  ⟨some 83, .load 1 false false (.tmp 82), [], some (81, false)⟩,
  ⟨some 84, .call (.func 91) [.tmp 83, .func 92], [], some (81, false)⟩,
  ⟨some 85, .pick (.tmp 81) (.const (.bool true)) (.tmp 84), [], none⟩,
  ⟨some 70, .copy true (.tmp 85), [], none⟩]
def F51r5 : List ROp := [⟨some 2, .copy true (.const (.bool false)), [], none⟩]
def F51r6 : List ROp := [⟨some 86, .fad 3 (.tmp 1), [], none⟩,
  ⟨some 87, .load 1 false false (.tmp 86), [], none⟩,
  ⟨some 88, .call (.func 93) [.tmp 87], [], none⟩,
  ⟨some 89, .copy false (.tmp 88), [], none⟩,
  ⟨some 90, .fad 4 (.tmp 1), [], some (89, true)⟩,
  ⟨some 91, .load 1 false false (.tmp 90), [], some (89, true)⟩,
  ⟨some 92, .len 1 (.tmp 91), [], some (89, true)⟩,
  ⟨some 93, .bin .leq (.tmp 92) (.const (.int .i64 65)), [], some (89, true)⟩,
  ⟨some 94, .pick (.tmp 89) (.tmp 93) (.const (.bool false)), [], none⟩,
  ⟨some 2, .copy true (.tmp 94), [], none⟩]
-- function 60: corollary/corollaryref31.fits
def F60r0 : List ROp := [⟨some 1, .box 29 (.tmp 0), [], none⟩,
  ⟨some 2, .copy true (.const (.bool false)), [], none⟩]
def F60r1 : List ROp := [⟨some 4, .fad 0 (.tmp 1), [], none⟩,
  ⟨some 5, .load 1 false false (.tmp 4), [], none⟩,
  ⟨some 6, .bin .neq (.tmp 5) (.const (.int .u8 1)), [], none⟩,
  ⟨some 7, .copy false (.tmp 6), [], none⟩,
  ⟨some 8, .fad 1 (.tmp 1), [], some (7, true)⟩,
  ⟨some 9, .load 1 false false (.tmp 8), [], some (7, true)⟩,
  ⟨some 10, .bin .neq (.tmp 9) (.const (.int .i64 0)), [], some (7, true)⟩,
  ⟨some 11, .copy false (.tmp 10), [], some (7, true)⟩,
  ⟨some 12, .fad 2 (.tmp 1), [], some (11, false)⟩,
  ⟨some 13, .load 1 false false (.tmp 12), [], some (11, false)⟩,
  ⟨some 14, .len 0 (.tmp 13), [], some (11, false)⟩,
  ⟨some 15, .bin .gtr (.tmp 14) (.const (.int .i64 0)), [], some (11, false)⟩,
  ⟨some 16, .pick (.tmp 11) (.const (.bool true)) (.tmp 15), [], some (7, true)⟩,
  ⟨some 17, .pick (.tmp 7) (.tmp 16) (.const (.bool false)), [], none⟩,
  ⟨some 18, .copy false (.tmp 17), [], none⟩,
  ⟨some 19, .fad 0 (.tmp 1), [], some (18, false)⟩,
  ⟨some 20, .load 1 false false (.tmp 19), [], some (18, false)⟩,
  ⟨some 21, .bin .neq (.tmp 20) (.const (.int .u8 2)), [], some (18, false)⟩,
  ⟨some 22, .copy false (.tmp 21), [], some (18, false)⟩,
  ⟨some 23, .fad 3 (.tmp 1), [], some (22, true)⟩,
  ⟨some 24, .load 1 false false (.tmp 23), [], some (22, true)⟩,
  ⟨some 25, .len 0 (.tmp 24), [], some (22, true)⟩,
  ⟨some 26, .bin .gtr (.tmp 25) (.const (.int .i64 0)), [], some (22, true)⟩,
  ⟨some 27, .pick (.tmp 22) (.tmp 26) (.const (.bool false)), [], some (18, false)⟩,
  ⟨some 28, .pick (.tmp 18) (.const (.bool true)) (.tmp 27), [], none⟩,
  ⟨some 29, .copy false (.tmp 28), [], none⟩,
  ⟨some 30, .fad 0 (.tmp 1), [], some (29, false)⟩,
  ⟨some 31, .load 1 false false (.tmp 30), [], some (29, false)⟩,
  ⟨some 32, .bin .lss (.tmp 31) (.const (.int .u8 3)), [], some (29, false)⟩,
  ⟨some 33, .copy false (.tmp 32), [], some (29, false)⟩,
  ⟨some 34, .fad 4 (.tmp 1), [], some (33, true)⟩,
  ⟨some 35, .load 1 false false (.tmp 34), [], some (33, true)⟩,
  ⟨some 36, .bin .neq (.tmp 35) (.const (.string { data := #[] })), [], some (33, true)⟩,
  ⟨some 37, .pick (.tmp 33) (.tmp 36) (.const (.bool false)), [], some (29, false)⟩,
  ⟨some 38, .pick (.tmp 29) (.const (.bool true)) (.tmp 37), [], none⟩,
  ⟨some 39, .copy false (.tmp 38), [], none⟩,
  ⟨some 40, .fad 0 (.tmp 1), [], some (39, false)⟩,
  ⟨some 41, .load 1 false false (.tmp 40), [], some (39, false)⟩,
  ⟨some 42, .bin .neq (.tmp 41) (.const (.int .u8 4)), [], some (39, false)⟩,
  ⟨some 43, .copy false (.tmp 42), [], some (39, false)⟩,
  ⟨some 44, .fad 0 (.tmp 1), [], some (43, true)⟩,
  ⟨some 45, .load 1 false false (.tmp 44), [], some (43, true)⟩,
  ⟨some 46, .bin .neq (.tmp 45) (.const (.int .u8 5)), [], some (43, true)⟩,
  ⟨some 47, .pick (.tmp 43) (.tmp 46) (.const (.bool false)), [], some (39, false)⟩,
  ⟨some 48, .copy false (.tmp 47), [], some (39, false)⟩,
  ⟨some 49, .fad 5 (.tmp 1), [], some (48, true)⟩,
  ⟨some 50, .load 1 false false (.tmp 49), [], some (48, true)⟩,
  ⟨some 51, .copy false (.tmp 50), [], some (48, true)⟩,
  ⟨some 52, .fad 6 (.tmp 1), [], some (51, false)⟩,
  ⟨some 53, .load 1 false false (.tmp 52), [], some (51, false)⟩,
  ⟨some 54, .bin .neq (.tmp 53) (.const (.string { data := #[] })), [], some (51, false)⟩,
  ⟨some 55, .pick (.tmp 51) (.const (.bool true)) (.tmp 54), [], some (48, true)⟩,
  ⟨some 56, .pick (.tmp 48) (.tmp 55) (.const (.bool false)), [], some (39, false)⟩,
  ⟨some 57, .pick (.tmp 39) (.const (.bool true)) (.tmp 56), [], none⟩]
def F60r2 : List ROp := [⟨some 2, .copy true (.const (.bool false)), [], none⟩]
def F60r3 : List ROp := [⟨some 58, .fad 1 (.tmp 1), [], none⟩,
  ⟨some 59, .load 1 false false (.tmp 58), [], none⟩,
  ⟨some 60, .call (.func 98) [.tmp 59], [], none⟩,
  ⟨some 61, .un .not (.tmp 60), [], none⟩,
  ⟨some 62, .copy false (.tmp 61), [], none⟩,
  ⟨some 63, .fad 2 (.tmp 1), [], some (62, false)⟩,
  ⟨some 64, .load 1 false false (.tmp 63), [], some (62, false)⟩,
  ⟨some 65, .len 0 (.tmp 64), [], some (62, false)⟩,
  ⟨some 66, .bin .gtr (.tmp 65) (.const (.int .i64 8)), [], some (62, false)⟩,
  ⟨some 67, .pick (.tmp 62) (.const (.bool true)) (.tmp 66), [], none⟩,
  ⟨some 68, .copy false (.tmp 67), [], none⟩,
  ⟨some 69, .fad 4 (.tmp 1), [], some (68, false)⟩,
  ⟨some 70, .load 1 false false (.tmp 69), [], some (68, false)⟩,
  ⟨some 71, .len 1 (.tmp 70), [], some (68, false)⟩,
  ⟨some 72, .bin .gtr (.tmp 71) (.const (.int .i64 65)), [], some (68, false)⟩,
  ⟨some 73, .pick (.tmp 68) (.const (.bool true)) (.tmp 72), [], none⟩,
  ⟨some 74, .copy false (.tmp 73), [], none⟩,
  ⟨some 75, .fad 3 (.tmp 1), [], some (74, false)⟩,
  ⟨some 76, .load 1 false false (.tmp 75), [], some (74, false)⟩,
  ⟨some 77, .call (.func 99) [.tmp 76], [], some (74, false)⟩,
  ⟨some 78, .un .not (.tmp 77), [], some (74, false)⟩,
  ⟨some 79, .pick (.tmp 74) (.const (.bool true)) (.tmp 78), [], none⟩]
def F60r4 : List ROp := [⟨some 2, .copy true (.const (.bool false)), [], none⟩]
def F60r5 : List ROp := [⟨some 3, .copy true (.const (.int .i64 0)), [], none⟩]
def F60r6 : List ROp := [⟨some 80, .copy false (.tmp 3), [], none⟩,
  ⟨some 81, .fad 2 (.tmp 1), [], none⟩,
  ⟨some 82, .load 1 false false (.tmp 81), [], none⟩,
  ⟨some 83, .len 0 (.tmp 82), [], none⟩,
  ⟨some 84, .bin .lss (.tmp 80) (.tmp 83), [], none⟩]
def F60r7 : List ROp := [⟨some 85, .copy false (.tmp 3), [], none⟩,
  ⟨some 86, .bin .add (.tmp 85) (.const (.int .i64 1)), [], none⟩,
  ⟨some 3, .copy true (.tmp 86), [], none⟩]
def F60r8 : List ROp := [⟨some 87, .fad 2 (.tmp 1), [], none⟩,
  ⟨some 88, .load 1 false false (.tmp 87), [], none⟩,
  ⟨some 89, .copy false (.tmp 3), [], none⟩,
  ⟨some 90, .iad 1 (.tmp 88) (.tmp 89), [], none⟩,
  ⟨some 91, .load 1 false false (.tmp 90), [], none⟩,
  ⟨some 92, .len 1 (.tmp 91), [], none⟩,
  ⟨some 93, .bin .gtr (.tmp 92) (.const (.int .i64 65536)), [], none⟩]
def F60r9 : List ROp := [⟨some 2, .copy true (.const (.bool false)), [], none⟩]
def F60r10 : List ROp := [⟨some 2, .copy true (.const (.bool true)), [], none⟩]
def cmdsize (c : CmdD) : Nat := tsizes c.texts + csizes c.changes + c.rel.size + c.text.size
theorem fits_P (c : CmdD) (hc : cmdsize c ≤ 4194304) : Con Tryz.prog 51 [cmdX c] (bval (fitsC c)) := by
  unfold cmdsize at hc
  have h1 := count_ok c.limit
  have h2 := textsP_ok c.texts (by omega)
  have h3 := changesP_ok c.changes (by omega)
  have e1 : decide ((8 : Int) < c.texts.length) = !decide (c.texts.length ≤ 8) := by rw [← decide_not]; exact decide_eq_decide.2 (by omega)
  have e2 : decide ((c.texts.length : Int) ≤ 8) = decide (c.texts.length ≤ 8) := decide_eq_decide.2 (by omega)
  have e3 : decide ((c.rel.size : Int) ≤ 65) = decide (c.rel.size ≤ 65) := decide_eq_decide.2 (by omega)
  refine Con.of_code Tryz.func51 (by kernel_rfl) rfl (by simp [Tryz.ntmps51]) fun C hC hM => ?_
  refine AWp.seq ?_
  refine AWp.regK [1] [false, true] F51r0 [] (by kernel_rfl) (by rw [hC]; rfl) fun K hK => ?_
  simp (maxSteps := 2000000) [F51r0]
  refine hK _ ?_
  refine AWp.seq ?_
  refine AWp.regKL ops_mixed [[], [0], [0, 1], [], [3], [3, 4], [], [6], [6, 7], [], [9], [9, 10], [9, 10, 11], [9, 10, 11, 12], [9, 10, 11, 12, 13], [9, 10, 11, 12, 13, 14], [9, 10, 11, 12, 13, 14, 15], [0, 1, 2, 9, 10, 11, 12], [0, 1, 2, 3, 4, 5, 9, 10, 11, 12, 17], [0, 1, 2, 3, 4, 5, 6, 7, 8, 9, 10, 11, 12, 17, 18], [0, 1, 2, 3, 4, 5, 6, 7, 8, 9, 10, 11, 12, 13, 14, 15, 16, 17, 18, 19]] [1, 3, 4, 5, 6] [false, false, false, false, false, false, false, false, false, false, false, false, false, false, false, false, false, true, true, true, true] F51r1 [] (by kernel_rfl) (by rw [hC]; rfl) (by kernel_rfl) (by kernel_rfl) fun K hK => ?_
  simp (maxSteps := 2000000) [F51r1]
  (repeat refine ⟨by first | omega | (intros; omega) | assumption, ?_⟩); first | refine hK _ ?_ | refine ⟨by kernel_rfl, hK _ ?_⟩
  refine AWp.seq ?_
  refine AWp.block ?_
  refine AWp.seq ?_
  refine AWp.regK [1, 24] [false, false, false, false, false, false, false, false, false, false, false, false, false, false, false, false, false, false, false, false, false, false, false, false, false, false, false, false, false, false, false, false, false, false, false, false, false, false, false, false, false, false, false, false, false, true] F51r2 [] (by kernel_rfl) (by rw [hC]; rfl) fun K hK => ?_
  simp (maxSteps := 2000000) [F51r2]
  (repeat refine ⟨by first | omega | (intros; omega) | assumption, ?_⟩); refine hK _ ?_
  refine AWp.cond _ (by rfl) (fun hs => ?_) (fun hs => ?_)
  · skip
    refine AWp.seq ?_
    refine AWp.regK [2] [true] F51r3 [] (by kernel_rfl) (by rw [hC]; rfl) fun K hK => ?_
    simp (maxSteps := 2000000) [F51r3]
    refine hK _ ?_
    repeat refine AWp.seq ?_
    refine AWp.ret ⟨.inr rfl, _, by simp [Tryz.results51] <;> rfl, ?_⟩
    refine .clos ?_ rfl
    have hb : shapeC c = false := by
      revert hs
      unfold shapeC
      simp only [len_pos, lt3]
      generalize decide (c.kind = 1) = a1; generalize decide (c.kind = 2) = a2; generalize decide (3 ≤ c.kind) = a3; generalize decide (c.kind = 4) = a4; generalize decide (c.kind = 5) = a5; generalize decide (c.limit = 0) = a6; generalize decide (c.texts = []) = a7; generalize decide (c.changes = []) = a8; generalize decide (c.rel = ⟨#[]⟩) = a9; generalize decide (c.text = ⟨#[]⟩) = a10; generalize c.comes = a11
      revert a1 a2 a3 a4 a5 a6 a7 a8 a9 a10 a11
      decide +kernel
    simp [fitsC, hb]
  have hb : shapeC c = true := by
    revert hs
    unfold shapeC
    simp only [len_pos, lt3]
    generalize decide (c.kind = 1) = a1; generalize decide (c.kind = 2) = a2; generalize decide (3 ≤ c.kind) = a3; generalize decide (c.kind = 4) = a4; generalize decide (c.kind = 5) = a5; generalize decide (c.limit = 0) = a6; generalize decide (c.texts = []) = a7; generalize decide (c.changes = []) = a8; generalize decide (c.rel = ⟨#[]⟩) = a9; generalize decide (c.text = ⟨#[]⟩) = a10; generalize c.comes = a11
    revert a1 a2 a3 a4 a5 a6 a7 a8 a9 a10 a11
    decide +kernel
  clear hs
  refine AWp.seq ?_
  refine AWp.regK [1, 70] [false, false, false, false, false, false, false, false, false, false, false, false, false, false, false, true] F51r4 [{ r := bval (countB c.limit) }, { r := bval (!c.texts.all fun s => decide (s.size ≤ 65536)) }] (by kernel_rfl) (by rw [hC]; rfl) fun K hK => ?_
  simp (maxSteps := 2000000) [F51r4]
  (repeat first | refine ⟨by first | (show freeP _ _ _ = true; kernel_rfl) | omega | (intros; omega) | assumption, ?_⟩ | refine ⟨by intros; exact callOK rfl h1, ?_⟩ | refine ⟨by intros; exact callOK rfl h2, ?_⟩); refine hK _ ?_
  refine AWp.cond _ (by rfl) (fun ht => ?_) (fun ht => ?_)
  · skip
    refine AWp.seq ?_
    refine AWp.regK [2] [true] F51r5 [] (by kernel_rfl) (by rw [hC]; rfl) fun K hK => ?_
    simp (maxSteps := 2000000) [F51r5]
    refine hK _ ?_
    repeat refine AWp.seq ?_
    refine AWp.ret ⟨.inr rfl, _, by simp [Tryz.results51] <;> rfl, ?_⟩
    refine .clos ?_ rfl
    have hr : restC c = false := by
      revert ht
      unfold restC
      simp only [e1, e2]
      generalize countB c.limit = a1; generalize decide (c.texts.length ≤ 8) = a2; generalize (c.texts.all fun s => decide (s.size ≤ 65536)) = a3; generalize decide (c.rel.size ≤ 65) = a4; generalize changesOk c.changes = a5
      revert a1 a2 a3 a4 a5
      decide +kernel
    simp [fitsC, hr]
  refine AWp.skip ?_
  refine AWp.seq ?_
  refine AWp.regK [2] [false, false, false, false, false, false, false, false, false, true] F51r6 [{ r := bval (changesOk c.changes) }] (by kernel_rfl) (by rw [hC]; rfl) fun K hK => ?_
  simp (maxSteps := 2000000) [F51r6]
  (repeat first | refine ⟨by first | (show freeP _ _ _ = true; kernel_rfl) | omega | (intros; omega) | assumption, ?_⟩ | refine ⟨by intros; exact callOK rfl h3, ?_⟩); refine hK _ ?_
  repeat refine AWp.seq ?_
  refine AWp.ret ⟨.inr rfl, _, by simp [Tryz.results51] <;> rfl, ?_⟩
  refine .clos ?_ rfl
  have hr : (changesOk c.changes && decide ((c.rel.size : Int) ≤ 65)) = restC c := by
    revert ht
    unfold restC
    simp only [e1, e2, e3]
    generalize countB c.limit = a1; generalize decide (c.texts.length ≤ 8) = a2; generalize (c.texts.all fun s => decide (s.size ≤ 65536)) = a3; generalize decide (c.rel.size ≤ 65) = a4; generalize changesOk c.changes = a5
    revert a1 a2 a3 a4 a5
    decide +kernel
  rw [hr]
  simp [fitsC, hb]
theorem fits_R (c : CmdD) (hc : cmdsize c ≤ 4194304) : Con Tryz.prog 60 [cmdX c] (bval (fitsC c)) := by
  unfold cmdsize at hc
  have hlen := tsizes_len c.texts
  have h1 := countR_ok c.limit
  have h3 := changesR_ok c.changes (by omega)
  have e1 : decide ((8 : Int) < c.texts.length) = !decide (c.texts.length ≤ 8) := by rw [← decide_not]; exact decide_eq_decide.2 (by omega)
  have e2 : decide ((c.texts.length : Int) ≤ 8) = decide (c.texts.length ≤ 8) := decide_eq_decide.2 (by omega)
  have e3 : decide ((c.rel.size : Int) ≤ 65) = decide (c.rel.size ≤ 65) := decide_eq_decide.2 (by omega)
  have e4 : decide ((65 : Int) < c.rel.size) = !decide (c.rel.size ≤ 65) := by rw [← decide_not]; exact decide_eq_decide.2 (by omega)
  refine Con.of_code Tryz.func60 (by kernel_rfl) rfl (by simp [Tryz.ntmps60]) fun C hC hM => ?_
  refine AWp.seq ?_
  refine AWp.regK [1] [false, true] F60r0 [] (by kernel_rfl) (by rw [hC]; rfl) fun K hK => ?_
  simp (maxSteps := 2000000) [F60r0]
  refine hK _ ?_
  refine AWp.seq ?_
  refine AWp.seq ?_
  refine AWp.regK [1, 57] [] F60r1 [] (by kernel_rfl) (by rw [hC]; rfl) fun K hK => ?_
  simp (maxSteps := 2000000) [F60r1]
  (repeat refine ⟨by first | omega | (intros; omega) | assumption, ?_⟩); refine hK _ ?_
  refine AWp.cond _ (by rfl) (fun hs => ?_) (fun hs => ?_)
  · skip
    refine AWp.seq ?_
    refine AWp.regK [2] [true] F60r2 [] (by kernel_rfl) (by rw [hC]; rfl) fun K hK => ?_
    simp (maxSteps := 2000000) [F60r2]
    refine hK _ ?_
    repeat refine AWp.seq ?_
    refine AWp.ret ⟨.inr rfl, _, by simp [Tryz.results60] <;> rfl, ?_⟩
    refine .clos ?_ rfl
    have hb : shapeC c = false := by
      revert hs
      unfold shapeC
      simp only [len_pos, lt3]
      generalize decide (c.kind = 1) = a1; generalize decide (c.kind = 2) = a2; generalize decide (3 ≤ c.kind) = a3; generalize decide (c.kind = 4) = a4; generalize decide (c.kind = 5) = a5; generalize decide (c.limit = 0) = a6; generalize decide (c.texts = []) = a7; generalize decide (c.changes = []) = a8; generalize decide (c.rel = ⟨#[]⟩) = a9; generalize decide (c.text = ⟨#[]⟩) = a10; generalize c.comes = a11
      revert a1 a2 a3 a4 a5 a6 a7 a8 a9 a10 a11
      decide +kernel
    simp [fitsC, hb]
  have hb : shapeC c = true := by
    revert hs
    unfold shapeC
    simp only [len_pos, lt3]
    generalize decide (c.kind = 1) = a1; generalize decide (c.kind = 2) = a2; generalize decide (3 ≤ c.kind) = a3; generalize decide (c.kind = 4) = a4; generalize decide (c.kind = 5) = a5; generalize decide (c.limit = 0) = a6; generalize decide (c.texts = []) = a7; generalize decide (c.changes = []) = a8; generalize decide (c.rel = ⟨#[]⟩) = a9; generalize decide (c.text = ⟨#[]⟩) = a10; generalize c.comes = a11
    revert a1 a2 a3 a4 a5 a6 a7 a8 a9 a10 a11
    decide +kernel
  clear hs
  refine AWp.skip ?_
  refine AWp.seq ?_
  refine AWp.seq ?_
  refine AWp.regK [1, 79] [] F60r3 [{ r := bval (countB c.limit) }, { r := bval (changesOk c.changes) }] (by kernel_rfl) (by rw [hC]; rfl) fun K hK => ?_
  simp (maxSteps := 2000000) [F60r3]
  (repeat first | refine ⟨by first | (show freeP _ _ _ = true; kernel_rfl) | omega | (intros; omega) | assumption, ?_⟩ | refine ⟨by intros; exact callOK rfl h1, ?_⟩ | refine ⟨by intros; exact callOK rfl h3, ?_⟩); refine hK _ ?_
  refine AWp.cond _ (by rfl) (fun ht => ?_) (fun ht => ?_)
  · skip
    refine AWp.seq ?_
    refine AWp.regK [2] [true] F60r4 [] (by kernel_rfl) (by rw [hC]; rfl) fun K hK => ?_
    simp (maxSteps := 2000000) [F60r4]
    refine hK _ ?_
    repeat refine AWp.seq ?_
    refine AWp.ret ⟨.inr rfl, _, by simp [Tryz.results60] <;> rfl, ?_⟩
    refine .clos ?_ rfl
    have hr : restC c = false := by
      revert ht
      unfold restC
      simp only [e1, e2, e3, e4]
      generalize countB c.limit = a1; generalize decide (c.texts.length ≤ 8) = a2; generalize (c.texts.all fun s => decide (s.size ≤ 65536)) = a3; generalize decide (c.rel.size ≤ 65) = a4; generalize changesOk c.changes = a5
      revert a1 a2 a3 a4 a5
      decide +kernel
    simp [fitsC, hr]
  have hr : fitsC c = c.texts.all fun s => decide (s.size ≤ 65536) := by
    unfold fitsC
    rw [hb]
    revert ht
    unfold restC
    simp only [e1, e2, e3, e4]
    generalize countB c.limit = a1; generalize decide (c.texts.length ≤ 8) = a2; generalize (c.texts.all fun s => decide (s.size ≤ 65536)) = a3; generalize decide (c.rel.size ≤ 65) = a4; generalize changesOk c.changes = a5
    revert a1 a2 a3 a4 a5
    decide +kernel
  rw [hr]
  clear hr hb ht e1 e2 e3 e4
  refine AWp.skip ?_
  refine AWp.seq ?_
  refine AWp.seq ?_
  refine AWp.regK [1, 3] [true] F60r5 [] (by kernel_rfl) (by rw [hC]; rfl) fun K hK => ?_
  simp (maxSteps := 2000000) [F60r5]
  refine hK _ ?_
  refine AWp.block ?_
  refine AWp.loopG (fun k : Nat => { tm := [(1, .ptr 1 0), (3, ival k)], hp := [(1, .cells 29 (encCmd c))] }) (fun k => k ≤ c.texts.length ∧ c.texts.all (fun s => decide (s.size ≤ 65536)) = (c.texts.drop k).all (fun s => decide (s.size ≤ 65536))) (fun k => c.texts.length - k) 0 ⟨by omega, by simp⟩ (by simp) (fun k hk => ?_)
  obtain ⟨hk1, hk2⟩ := hk
  refine AWp.seq ?_
  refine AWp.seq ?_
  refine AWp.regK [1, 3, 84] [] F60r6 [] (by kernel_rfl) (by rw [hC]; rfl) fun K hK => ?_
  simp (maxSteps := 2000000) [F60r6]
  refine hK _ ?_
  refine AWp.cond _ (by rfl) (fun hlt => ?_) (fun hge => ?_)
  · skip
    have hlt : k < c.texts.length := by simpa using hlt
    have hd := all_drop (fun s : ByteArray => decide (s.size ≤ 65536)) c.texts k hlt
    refine AWp.skip ?_
    refine AWp.seq ?_
    refine AWp.block ?_
    refine AWp.seq ?_
    refine AWp.regK [1, 3, 93] [] F60r8 [] (by kernel_rfl) (by rw [hC]; rfl) fun K hK => ?_
    simp (maxSteps := 2000000) [F60r8, hlt]
    (repeat refine ⟨by first | omega | (intros; omega) | assumption, ?_⟩); refine hK _ ?_
    refine AWp.cond _ (by rfl) (fun hn => ?_) (fun hn => ?_)
    · skip
      have hn : ¬ c.texts[k].size ≤ 65536 := by simp at hn; omega
      refine AWp.seq ?_
      refine AWp.regK [2] [true] F60r9 [] (by kernel_rfl) (by rw [hC]; rfl) fun K hK => ?_
      simp (maxSteps := 2000000) [F60r9]
      refine hK _ ?_
      repeat refine AWp.seq ?_
      refine AWp.ret ⟨.inr rfl, _, by simp [Tryz.results60] <;> rfl, ?_⟩
      rw [hk2, hd, decide_eq_false hn]
      exact .closed rfl
    have hn : c.texts[k].size ≤ 65536 := by simp at hn; omega
    refine AWp.skip ?_
    refine AWp.regK [1, 3] [false, false, true] F60r7 [] (by kernel_rfl) (by rw [hC]; rfl) fun K hK => ?_
    simp (maxSteps := 2000000) [F60r7]
    (repeat refine ⟨by first | omega | (intros; omega) | assumption, ?_⟩); refine hK _ ?_
    refine ⟨k + 1, ⟨by omega, by rw [hk2, hd, decide_eq_true hn]; rfl⟩, by omega, ?_⟩
    simp [wrap_nat k (by omega)]
  have hge : ¬ k < c.texts.length := by simpa using hge
  refine AWp.exit ?_
  refine AWp.seq ?_
  refine AWp.regK [2] [true] F60r10 [] (by kernel_rfl) (by rw [hC]; rfl) fun K hK => ?_
  simp (maxSteps := 2000000) [F60r10]
  refine hK _ ?_
  repeat refine AWp.seq ?_
  refine AWp.ret ⟨.inr rfl, _, by simp [Tryz.results60] <;> rfl, ?_⟩
  rw [hk2, List.drop_eq_nil_of_le (by omega)]
  exact .closed rfl
end Go.Se
