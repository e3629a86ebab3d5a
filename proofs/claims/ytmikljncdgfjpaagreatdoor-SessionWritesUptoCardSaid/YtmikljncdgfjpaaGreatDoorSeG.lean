/- The pen writes values; bytes behind bytes. -/
import Derived.Test.YtmikljncdgfjpaaGreatDoorSeF
set_option linter.unusedSimpArgs false
set_option linter.unusedVariables false
open Go Go.Aw Go.Proofs
namespace Go.Se
set_option maxRecDepth 20000
-- function 141: (*corollary/code.pen).truth
def F141r0 : List ROp := [⟨some 3, .box 114 (.tmp 1), [], none⟩]
def F141r1 : List ROp := [⟨some 4, .copy false (.tmp 0), [], none⟩,
  ⟨some 5, .fad 1 (.tmp 3), [], none⟩,
  ⟨some 6, .load 1 false false (.tmp 5), [], none⟩,
  ⟨some 7, .conv .u8 (.tmp 6), [], none⟩,
  ⟨some 8, .bslice 5 1 [Value.int .u8 0] 1 [(0, .tmp 7)], [], none⟩,
  ⟨some 9, .call (.func 97) [.tmp 4, .tmp 8], [], none⟩]
-- function 142: (*corollary/code.pen).whole
def F142r0 : List ROp := [⟨some 3, .box 114 (.tmp 1), [], none⟩]
def F142r1 : List ROp := [⟨some 4, .copy false (.tmp 0), [], none⟩,
  ⟨some 5, .fad 1 (.tmp 3), [], none⟩,
  ⟨some 6, .load 1 false false (.tmp 5), [], none⟩,
  ⟨some 7, .call (.func 103) [.tmp 4, .tmp 6], [], none⟩]
-- function 143: (*corollary/code.pen).big
def F143r0 : List ROp := [⟨some 3, .box 114 (.tmp 1), [], none⟩]
def F143r1 : List ROp := [⟨some 7, .fad 2 (.tmp 3), [], none⟩,
  ⟨some 8, .load 1 false false (.tmp 7), [], none⟩,
  ⟨some 9, .call (.func 154) [.tmp 8, .const (.string { data := #[45] })], [], none⟩,
  ⟨some 6, .copy false (.tmp 9), [], none⟩,
  ⟨some 10, .ext (.tmp 6) 0, [], none⟩,
  ⟨some 11, .ext (.tmp 6) 1, [], none⟩,
  ⟨some 4, .copy true (.tmp 10), [], none⟩,
  ⟨some 5, .copy true (.tmp 11), [], none⟩]
def F143r2 : List ROp := [⟨some 12, .copy false (.tmp 0), [], none⟩,
  ⟨some 13, .copy false (.tmp 5), [], none⟩,
  ⟨some 14, .call (.func 122) [.tmp 12, .tmp 13], [], none⟩]
def F143r3 : List ROp := [⟨some 15, .copy false (.tmp 0), [], none⟩,
  ⟨some 16, .bslice 5 1 [Value.int .u8 0] 1 [(0, .const (.int .u8 128))], [], none⟩,
  ⟨some 17, .call (.func 97) [.tmp 15, .tmp 16], [], none⟩]
def F143r4 : List ROp := [⟨some 18, .copy false (.tmp 0), [], none⟩,
  ⟨some 19, .copy false (.tmp 4), [], none⟩,
  ⟨some 20, .len 1 (.tmp 19), [], none⟩,
  ⟨some 21, .conv .u64 (.tmp 20), [], none⟩,
  ⟨some 22, .call (.func 95) [.tmp 18, .const (.int .u8 0), .tmp 21], [], none⟩]
def F143r5 : List ROp := [⟨some 23, .copy false (.tmp 0), [], none⟩,
  ⟨some 24, .copy false (.tmp 4), [], none⟩,
  ⟨some 25, .x1 1 (.tmp 24), [], none⟩,
  ⟨some 26, .call (.func 97) [.tmp 23, .tmp 25], [], none⟩]
def F143r6 : List ROp := [⟨some 27, .copy false (.tmp 0), [], none⟩,
  ⟨some 28, .copy false (.tmp 5), [], none⟩,
  ⟨some 29, .call (.func 122) [.tmp 27, .tmp 28], [], none⟩]
-- function 144: (*corollary/code.pen).words
def F144r0 : List ROp := [⟨some 3, .box 114 (.tmp 1), [], none⟩]
def F144r1 : List ROp := [⟨some 4, .copy false (.tmp 0), [], none⟩,
  ⟨some 5, .fad 2 (.tmp 3), [], none⟩,
  ⟨some 6, .load 1 false false (.tmp 5), [], none⟩,
  ⟨some 7, .call (.func 96) [.tmp 4, .tmp 6], [], none⟩]
-- function 145: (*corollary/code.pen).list
def F145r0 : List ROp := [⟨some 3, .box 114 (.tmp 1), [], none⟩]
def F145r1 : List ROp := [⟨some 6, .fad 3 (.tmp 3), [], none⟩,
  ⟨some 7, .load 1 false false (.tmp 6), [], none⟩,
  ⟨some 8, .len 0 (.tmp 7), [], none⟩,
  ⟨some 9, .copy false (.const (.int .i64 0)), [], none⟩]
def F145r2 : List ROp := [⟨some 10, .bin .lss (.tmp 9) (.tmp 8), [], none⟩]
def F145r3 : List ROp := [⟨some 11, .iad 4 (.tmp 7) (.tmp 9), [], none⟩,
  ⟨some 12, .load 4 true false (.tmp 11), [], none⟩,
  ⟨some 5, .alloc 114 [Value.int .u8 0, Value.int .i64 0, Value.string ByteArray.empty, Value.slice none 0 0], [], none⟩,
  ⟨none, .store 4 true (.tmp 5) (.tmp 12), [], none⟩]
def F145r4 : List ROp := [⟨some 13, .copy false (.tmp 0), [], none⟩,
  ⟨some 14, .bslice 5 1 [Value.int .u8 0] 1 [(0, .const (.int .u8 1))], [], none⟩,
  ⟨some 15, .call (.func 97) [.tmp 13, .tmp 14], [], none⟩]
def F145r5 : List ROp := [⟨some 16, .copy false (.tmp 0), [], none⟩,
  ⟨some 17, .load 4 true false (.tmp 5), [], none⟩,
  ⟨some 18, .call (.func 123) [.tmp 16, .tmp 17], [], none⟩]
def F145r6 : List ROp := [⟨some 19, .bin .add (.tmp 9) (.const (.int .i64 1)), [], none⟩,
  ⟨some 9, .copy false (.tmp 19), [], none⟩]
def F145r7 : List ROp := [⟨some 20, .copy false (.tmp 0), [], none⟩,
  ⟨some 21, .bslice 5 1 [Value.int .u8 0] 1 [(0, .const (.int .u8 0))], [], none⟩,
  ⟨some 22, .call (.func 97) [.tmp 20, .tmp 21], [], none⟩]
-- function 146: (*corollary/code.pen).cons
def F146r0 : List ROp := [⟨some 3, .box 114 (.tmp 1), [], none⟩]
def F146r1 : List ROp := [⟨some 4, .copy false (.tmp 0), [], none⟩,
  ⟨some 5, .fad 2 (.tmp 3), [], none⟩,
  ⟨some 6, .load 1 false false (.tmp 5), [], none⟩,
  ⟨some 7, .call (.func 96) [.tmp 4, .tmp 6], [], none⟩]
def F146r2 : List ROp := [⟨some 8, .copy false (.tmp 0), [], none⟩,
  ⟨some 9, .load 4 true false (.tmp 3), [], none⟩,
  ⟨some 10, .call (.func 145) [.tmp 8, .tmp 9], [], none⟩]
-- function 123: (*corollary/code.pen).value
def F123r0 : List ROp := [⟨some 3, .box 114 (.tmp 1), [], none⟩]
def F123r1 : List ROp := [⟨some 5, .build [Value.nilFunc, Value.nilFunc, Value.nilFunc, Value.nilFunc, Value.nilFunc, Value.nilFunc, Value.nilFunc] [(1, 1, .func 141), (2, 1, .func 142), (3, 1, .func 143), (4, 1, .func 144), (5, 1, .func 145), (6, 1, .func 146)], [], none⟩,
  ⟨some 4, .alloc 163 [Value.nilFunc, Value.nilFunc, Value.nilFunc, Value.nilFunc, Value.nilFunc, Value.nilFunc, Value.nilFunc], [], none⟩,
  ⟨none, .store 7 true (.tmp 4) (.tmp 5), [], none⟩]
def F123r2 : List ROp := [⟨some 6, .copy false (.tmp 0), [], none⟩,
  ⟨some 7, .fad 0 (.tmp 3), [], none⟩,
  ⟨some 8, .load 1 false false (.tmp 7), [], none⟩,
  ⟨some 9, .bslice 5 1 [Value.int .u8 0] 1 [(0, .tmp 8)], [], none⟩,
  ⟨some 10, .call (.func 97) [.tmp 6, .tmp 9], [], none⟩]
def F123r3 : List ROp := [⟨some 11, .fad 0 (.tmp 3), [], none⟩,
  ⟨some 12, .load 1 false false (.tmp 11), [0], none⟩,
  ⟨some 13, .iada 7 1 (.tmp 4) (.tmp 12), [1], none⟩,
  ⟨some 14, .load 1 false false (.tmp 13), [2], none⟩,
  ⟨some 15, .copy false (.tmp 0), [], none⟩,
  ⟨some 16, .load 4 true false (.tmp 3), [], none⟩,
  ⟨some 17, .call (.tmp 14) [.tmp 15, .tmp 16], [3, 4, 5], none⟩]
-- function 67: corollary/code.Num
def F67r0 : List ROp := [⟨some 4, .copy true (.const (.slice none 0 0)), [], none⟩]
def F67r1 : List ROp := [⟨some 6, .copy false (.tmp 0), [], none⟩,
  ⟨some 7, .call (.func 94) [.tmp 6], [], none⟩,
  ⟨some 5, .copy true (.tmp 7), [], none⟩]
def F67r2 : List ROp := [⟨some 8, .copy false (.tmp 5), [], none⟩,
  ⟨some 9, .copy false (.tmp 1), [], none⟩,
  ⟨some 10, .call (.func 103) [.tmp 8, .tmp 9], [], none⟩]
def F67r3 : List ROp := [⟨some 11, .copy false (.tmp 5), [], none⟩,
  ⟨some 12, .x1 0 (.tmp 11), [], none⟩,
  ⟨some 13, .fad 0 (.tmp 12), [], none⟩,
  ⟨some 14, .load 1 false true (.tmp 13), [], none⟩,
  ⟨some 4, .copy true (.tmp 14), [], none⟩]
-- function 53: corollary/code.Count
def F53r0 : List ROp := [⟨some 4, .copy true (.const (.slice none 0 0)), [], none⟩]
def F53r1 : List ROp := [⟨some 6, .copy false (.tmp 0), [], none⟩,
  ⟨some 7, .call (.func 94) [.tmp 6], [], none⟩,
  ⟨some 5, .copy true (.tmp 7), [], none⟩]
def F53r2 : List ROp := [⟨some 8, .copy false (.tmp 1), [], none⟩,
  ⟨some 9, .bin .geq (.tmp 8) (.const (.int .i64 0)), [], none⟩,
  ⟨some 10, .copy false (.tmp 9), [], none⟩,
  ⟨some 11, .copy false (.tmp 1), [], some (10, true)⟩,
  ⟨some 12, .bin .leq (.tmp 11) (.const (.int .i64 2147483647)), [], some (10, true)⟩,
  ⟨some 13, .pick (.tmp 10) (.tmp 12) (.const (.bool false)), [], none⟩]
def F53r3 : List ROp := [⟨some 14, .copy false (.tmp 5), [], none⟩,
  ⟨some 15, .copy false (.tmp 1), [], none⟩,
  ⟨some 16, .conv .u64 (.tmp 15), [], none⟩,
  ⟨some 17, .call (.func 95) [.tmp 14, .const (.int .u8 0), .tmp 16], [], none⟩]
def F53r4 : List ROp := [⟨some 18, .copy false (.tmp 5), [], none⟩,
  ⟨some 19, .x1 0 (.tmp 18), [], none⟩,
  ⟨some 20, .fad 0 (.tmp 19), [], none⟩,
  ⟨some 21, .load 1 false true (.tmp 20), [], none⟩,
  ⟨some 4, .copy true (.tmp 21), [], none⟩]
-- function 57: corollary/code.Str
def F57r0 : List ROp := [⟨some 4, .copy true (.const (.slice none 0 0)), [], none⟩]
def F57r1 : List ROp := [⟨some 6, .copy false (.tmp 0), [], none⟩,
  ⟨some 7, .call (.func 94) [.tmp 6], [], none⟩,
  ⟨some 5, .copy true (.tmp 7), [], none⟩]
def F57r2 : List ROp := [⟨some 8, .copy false (.tmp 5), [], none⟩,
  ⟨some 9, .copy false (.tmp 1), [], none⟩,
  ⟨some 10, .call (.func 96) [.tmp 8, .tmp 9], [], none⟩]
def F57r3 : List ROp := [⟨some 11, .copy false (.tmp 5), [], none⟩,
  ⟨some 12, .x1 0 (.tmp 11), [], none⟩,
  ⟨some 13, .fad 0 (.tmp 12), [], none⟩,
  ⟨some 14, .load 1 false true (.tmp 13), [], none⟩,
  ⟨some 4, .copy true (.tmp 14), [], none⟩]
-- function 58: corollary/code.Flag
def F58r0 : List ROp := [⟨some 4, .copy true (.const (.slice none 0 0)), [], none⟩]
def F58r1 : List ROp := [⟨some 6, .copy false (.tmp 0), [], none⟩,
  ⟨some 7, .call (.func 94) [.tmp 6], [], none⟩,
  ⟨some 5, .copy true (.tmp 7), [], none⟩]
def F58r2 : List ROp := [⟨some 8, .copy false (.tmp 1), [], none⟩]
def F58r3 : List ROp := [⟨some 9, .copy false (.tmp 5), [], none⟩,
  ⟨some 10, .bslice 5 1 [Value.int .u8 0] 1 [(0, .const (.int .u8 1))], [], none⟩,
  ⟨some 11, .call (.func 97) [.tmp 9, .tmp 10], [], none⟩]
def F58r4 : List ROp := [⟨some 12, .copy false (.tmp 5), [], none⟩,
  ⟨some 13, .bslice 5 1 [Value.int .u8 0] 1 [(0, .const (.int .u8 0))], [], none⟩,
  ⟨some 14, .call (.func 97) [.tmp 12, .tmp 13], [], none⟩]
def F58r5 : List ROp := [⟨some 15, .copy false (.tmp 5), [], none⟩,
  ⟨some 16, .x1 0 (.tmp 15), [], none⟩,
  ⟨some 17, .fad 0 (.tmp 16), [], none⟩,
  ⟨some 18, .load 1 false true (.tmp 17), [], none⟩,
  ⟨some 4, .copy true (.tmp 18), [], none⟩]
-- function 105: corollary/code.Value
def F105r0 : List ROp := [⟨some 3, .box 114 (.tmp 1), [], none⟩,
  ⟨some 4, .copy true (.const (.slice none 0 0)), [], none⟩]
def F105r1 : List ROp := [⟨some 6, .copy false (.tmp 0), [], none⟩,
  ⟨some 7, .call (.func 94) [.tmp 6], [], none⟩,
  ⟨some 5, .copy true (.tmp 7), [], none⟩]
def F105r2 : List ROp := [⟨some 8, .load 4 true false (.tmp 3), [], none⟩,
  ⟨some 9, .call (.func 109) [.tmp 8], [], none⟩,
  ⟨some 10, .bin .eql (.tmp 9) (.const (.int .i64 0)), [], none⟩]
def F105r3 : List ROp := [⟨some 11, .copy false (.tmp 5), [], none⟩,
  ⟨some 12, .load 4 true false (.tmp 3), [], none⟩,
  ⟨some 13, .call (.func 123) [.tmp 11, .tmp 12], [], none⟩]
def F105r4 : List ROp := [⟨some 14, .copy false (.tmp 5), [], none⟩,
  ⟨some 15, .x1 0 (.tmp 14), [], none⟩,
  ⟨some 16, .fad 0 (.tmp 15), [], none⟩,
  ⟨some 17, .load 1 false true (.tmp 16), [], none⟩,
  ⟨some 4, .copy true (.tmp 17), [], none⟩]
attribute [local simp] HP penB valX encV_eq
theorem one_enc {c : Int} (h : isB c) : enc 0 [c] = [c] := enc_0 (areB_cons h areB_nil)
theorem truth_ok (l : List Int) (v : ValD) (h : v.n = 0 ∨ v.n = 1) (hl : l.length ≤ 549755813888) : ConM Tryz.prog 141 (HP l 0) [.ptr 1000 0, valX v] (.tup []) (HP (l ++ [v.n]) 0) := by
  have hp := put_ok l [v.n] 0 (by simp; omega) (by simp)
  rw [one_enc (by unfold isB; omega)] at hp
  have hw : IntKind.u8.wrap v.n = v.n := by rw [IntKind.wrap_u8]; omega
  refine ConM.of_code Tryz.func141 (by kernel_rfl) rfl (by simp [Tryz.ntmps141]) (by simp [Tryz.ntmps141]) (hand_of rfl) (more_of rfl) rfl (fun C hC hρ => ?_)
  refine AWp.seq ?_
  refine AWp.regK [0, 3] [] F141r0 [] (by kernel_rfl) (by rw [hC]; rfl) fun K hK => ?_
  simp (maxSteps := 2000000) [F141r0]
  refine hK _ ?_
  refine AWp.regK [] [] F141r1 [{ r := .tup [], us := [1000], bs := HP (l ++ [v.n]) 0 }] (by kernel_rfl) (by rw [hC]; rfl) fun K hK => ?_
  simp (maxSteps := 2000000) [F141r1, hw]
  (repeat first | refine ⟨by first | (show freeP _ _ _ = true; kernel_rfl) | omega | (intros; omega) | assumption, ?_⟩ | refine ⟨by intros; exact callP hp (.cons .refl (.cons .own .nil)) rfl rfl, ?_⟩); refine hK _ ?_
  refine ⟨.inl rfl, ⟨[], rfl, .refl⟩, rfl, ?_⟩
  simp
theorem whole_ok (l : List Int) (v : ValD) (hr : rng v) (hl : l.length ≤ 549755813888) : ConM Tryz.prog 142 (HP l 0) [.ptr 1000 0, valX v] (.tup []) (HP (l ++ numI v.n) 0) := by
  rw [rng_eq] at hr
  have hp := num_ok l v.n hr.1.1 hr.1.2 hl
  refine ConM.of_code Tryz.func142 (by kernel_rfl) rfl (by simp [Tryz.ntmps142]) (by simp [Tryz.ntmps142]) (hand_of rfl) (more_of rfl) rfl (fun C hC hρ => ?_)
  refine AWp.seq ?_
  refine AWp.regK [0, 3] [] F142r0 [] (by kernel_rfl) (by rw [hC]; rfl) fun K hK => ?_
  simp (maxSteps := 2000000) [F142r0]
  refine hK _ ?_
  refine AWp.regK [] [] F142r1 [{ r := .tup [], us := [1000], bs := HP (l ++ numI v.n) 0 }] (by kernel_rfl) (by rw [hC]; rfl) fun K hK => ?_
  simp (maxSteps := 2000000) [F142r1]
  (repeat first | refine ⟨by first | (show freeP _ _ _ = true; kernel_rfl) | omega | (intros; omega) | assumption, ?_⟩ | refine ⟨by intros; exact callP hp (.cons .refl (.cons .refl .nil)) rfl rfl, ?_⟩); refine hK _ ?_
  refine ⟨.inl rfl, ⟨[], rfl, .refl⟩, rfl, ?_⟩
  simp
theorem words_ok (l : List Int) (v : ValD) (hs : v.s.size ≤ 4194304) (hl : l.length ≤ 549755813888) : ConM Tryz.prog 144 (HP l 0) [.ptr 1000 0, valX v] (.tup []) (HP (l ++ txtE v.s) 0) := by
  have hp := text_ok l v.s hs hl
  refine ConM.of_code Tryz.func144 (by kernel_rfl) rfl (by simp [Tryz.ntmps144]) (by simp [Tryz.ntmps144]) (hand_of rfl) (more_of rfl) rfl (fun C hC hρ => ?_)
  refine AWp.seq ?_
  refine AWp.regK [0, 3] [] F144r0 [] (by kernel_rfl) (by rw [hC]; rfl) fun K hK => ?_
  simp (maxSteps := 2000000) [F144r0]
  refine hK _ ?_
  refine AWp.regK [] [] F144r1 [{ r := .tup [], us := [1000], bs := HP (l ++ txtE v.s) 0 }] (by kernel_rfl) (by rw [hC]; rfl) fun K hK => ?_
  simp (maxSteps := 2000000) [F144r1]
  (repeat first | refine ⟨by first | (show freeP _ _ _ = true; kernel_rfl) | omega | (intros; omega) | assumption, ?_⟩ | refine ⟨by intros; exact callP hp (.cons .refl (.cons .refl .nil)) rfl rfl, ?_⟩); refine hK _ ?_
  refine ⟨.inl rfl, ⟨[], rfl, .refl⟩, rfl, ?_⟩
  simp
theorem byteRows_bt (s : ByteArray) : byteRows s = bt (byL s) := by simp [byteRows, bt, byL, bl]
theorem big_ok (l : List Int) (v : ValD) (hN : Number v.s = true) (hs : v.s.size ≤ 4194304) (hl : l.length ≤ 274877906944) : ConM Tryz.prog 143 (HP l 0) [.ptr 1000 0, valX v] (.tup []) (HP (l ++ bigE v.s) 0) := by
  have hpos := Number_pos hN
  have hc := CutPrefix_ok v.s tMinus hs (by decide)
  have hx1 : xorI .u8 0 255 = 255 := by decide
  have hx2 : xorI .u8 255 255 = 0 := by decide
  have hpre := pre_minus v.s
  obtain ⟨b, t, d, hb, hd, hds, hf1, hf2, hE⟩ : ∃ (b : Bool) (t : Int) (d : ByteArray), hasPre v.s tMinus = b ∧ trimPre v.s tMinus = d ∧ d.size ≤ v.s.size ∧ flipT 0 b = t ∧ flipT t b = 0 ∧ enc t (bigU d) = bigE v.s := by
    by_cases hm : chr v.s 0 = 45
    · refine ⟨true, 255, v.s.extract 1 v.s.size, by rw [hpre]; simp [hpos, hm], ?_, ext1_le _, by simp [flipT, hx1], by simp [flipT, hx2], ?_⟩
      · unfold trimPre; rw [hpre, if_pos (by simp [hpos, hm])]; rfl
      · unfold bigE; rw [if_pos hm, enc_255 (bigU_areB _ (by have := ext1_le v.s; omega))]
    · refine ⟨false, 0, v.s, by rw [hpre]; simp [hm], ?_, Nat.le_refl _, by simp [flipT], by simp [flipT], ?_⟩
      · unfold trimPre; rw [hpre, if_neg (by simp [hm])]
      · unfold bigE; rw [if_neg hm, enc_0 (bigU_areB _ (by omega))]
  rw [hb, hd] at hc
  have hlen := numE_len 0 d.size (by omega)
  have hu : IntKind.u64.wrap (d.size : Int) = (d.size : Int) := by rw [IntKind.wrap_u64]; omega
  have h1 := flip_ok l 0 b
  rw [hf1] at h1
  have h2 := put_ok l [128] t (by simp; omega) (by simp)
  have h3 := number_ok' (l ++ enc t [128]) t 0 d.size (by omega) (by omega) (by omega) (by simp; omega)
  have h4 := put_ok (l ++ enc t [128] ++ enc t (numE 0 d.size)) (byL d) t (by simp [byL_len]; omega) (by rw [byL_len]; omega)
  have h5 := flip_ok (l ++ enc t [128] ++ enc t (numE 0 d.size) ++ enc t (byL d)) t b
  rw [hf2] at h5
  have hfin : l ++ enc t [128] ++ enc t (numE 0 d.size) ++ enc t (byL d) = l ++ bigE v.s := by
    rw [← hE]; simp [bigU, enc]
  rw [hfin] at h4 h5
  generalize l ++ bigE v.s = l4 at *
  generalize l ++ enc t [128] ++ enc t (numE 0 d.size) = l3 at *
  generalize l ++ enc t [128] = l2 at *
  refine ConM.of_code Tryz.func143 (by kernel_rfl) rfl (by simp [Tryz.ntmps143]) (by simp [Tryz.ntmps143]) (hand_of rfl) (more_of rfl) rfl (fun C hC hρ => ?_)
  refine AWp.seq ?_
  refine AWp.regK [0, 3] [] F143r0 [] (by kernel_rfl) (by rw [hC]; rfl) fun K hK => ?_
  simp (maxSteps := 2000000) [F143r0]
  refine hK _ ?_
  refine AWp.seq ?_
  refine AWp.regK [0, 4, 5] [false, false, false, false, false, false, true, true] F143r1 [{ r := .tup [sval d, bval b] }] (by kernel_rfl) (by rw [hC]; rfl) fun K hK => ?_
  simp (maxSteps := 2000000) [F143r1]
  (repeat first | refine ⟨by first | (show freeP _ _ _ = true; kernel_rfl) | omega | (intros; omega) | assumption, ?_⟩ | refine ⟨by intros; exact callOK rfl hc, ?_⟩); refine hK _ ?_
  refine AWp.seq ?_
  refine AWp.regK [0, 4, 5] [] F143r2 [{ r := .tup [], us := [1000], bs := HP l t }] (by kernel_rfl) (by rw [hC]; rfl) fun K hK => ?_
  simp (maxSteps := 2000000) [F143r2]
  (repeat first | refine ⟨by first | (show freeP _ _ _ = true; kernel_rfl) | omega | (intros; omega) | assumption, ?_⟩ | refine ⟨by intros; exact callP h1 (.cons .refl (.cons .refl .nil)) rfl rfl, ?_⟩); refine hK _ ?_
  refine AWp.seq ?_
  refine AWp.regK [0, 4, 5] [] F143r3 [{ r := .tup [], us := [1000], bs := HP l2 t }] (by kernel_rfl) (by rw [hC]; rfl) fun K hK => ?_
  simp (maxSteps := 2000000) [F143r3]
  (repeat first | refine ⟨by first | (show freeP _ _ _ = true; kernel_rfl) | omega | (intros; omega) | assumption, ?_⟩ | refine ⟨by intros; exact callP h2 (.cons .refl (.cons .own .nil)) rfl rfl, ?_⟩); refine hK _ ?_
  refine AWp.seq ?_
  refine AWp.regK [0, 4, 5] [] F143r4 [{ r := .tup [], us := [1000], bs := HP l3 t }] (by kernel_rfl) (by rw [hC]; rfl) fun K hK => ?_
  simp (maxSteps := 2000000) [F143r4, hu]
  (repeat first | refine ⟨by first | (show freeP _ _ _ = true; kernel_rfl) | omega | (intros; omega) | assumption, ?_⟩ | refine ⟨by intros; exact callP h3 (.cons .refl (.cons .refl (.cons .refl .nil))) rfl rfl, ?_⟩); refine hK _ ?_
  refine AWp.seq ?_
  refine AWp.regK [0, 5] [] F143r5 [{ r := .tup [], us := [1000], bs := HP l4 t }] (by kernel_rfl) (by rw [hC]; rfl) fun K hK => ?_
  simp (maxSteps := 2000000) [F143r5, byteRows_bt]
  (repeat first | refine ⟨by first | (show freeP _ _ _ = true; kernel_rfl) | omega | (intros; omega) | assumption, ?_⟩ | refine ⟨by intros; exact callP h4 (.cons .refl (.cons .refl .nil)) rfl rfl, ?_⟩); refine hK _ ?_
  refine AWp.regK [] [] F143r6 [{ r := .tup [], us := [1000], bs := HP l4 0 }] (by kernel_rfl) (by rw [hC]; rfl) fun K hK => ?_
  simp (maxSteps := 2000000) [F143r6]
  (repeat first | refine ⟨by first | (show freeP _ _ _ = true; kernel_rfl) | omega | (intros; omega) | assumption, ?_⟩ | refine ⟨by intros; exact callP h5 (.cons .refl (.cons .refl .nil)) rfl rfl, ?_⟩); refine hK _ ?_
  refine ⟨.inl rfl, ⟨[], rfl, .refl⟩, rfl, ?_⟩
  simp
def VOK (v : ValD) : Prop := ∀ l : List Int, l.length + 12 * vsize v ≤ 274877906944 → ConM Tryz.prog 123 (HP l 0) [.ptr 1000 0, valX v] (.tup []) (HP (l ++ valE v) 0)
theorem rngs_take : ∀ (l : List ValD) (k : Nat), rngs l → rngs (l.take k)
  | [], k, _ => by simp [rngs]
  | x :: l, 0, _ => by simp [rngs]
  | x :: l, k + 1, h => by simp only [rngs] at h; simp only [List.take_succ_cons, rngs]; exact ⟨h.1, rngs_take l k h.2⟩
theorem list_ok (v : ValD) (l : List Int) (hr : rngs v.l) (hv : vsizes v.l ≤ 4194304) (hl : l.length + 12 * vsizes v.l + 1 ≤ 274877906944) (hx : ∀ x ∈ v.l, VOK x) :
    ConM Tryz.prog 145 (HP l 0) [.ptr 1000 0, valX v] (.tup []) (HP (l ++ (valsE v.l ++ [0])) 0) := by
  have hlen := vsizes_len v.l
  refine ConM.of_code Tryz.func145 (by kernel_rfl) rfl (by simp [Tryz.ntmps145]) (by simp [Tryz.ntmps145]) (hand_of rfl) (more_of rfl) rfl (fun C hC hρ => ?_)
  refine AWp.seq ?_
  refine AWp.regK [0, 3] [] F145r0 [] (by kernel_rfl) (by rw [hC]; rfl) fun K hK => ?_
  simp (maxSteps := 2000000) [F145r0]
  refine hK _ ?_
  refine AWp.seq ?_
  refine AWp.seq ?_
  refine AWp.regK [0, 7, 8, 9] [] F145r1 [] (by kernel_rfl) (by rw [hC]; rfl) fun K hK => ?_
  simp (maxSteps := 2000000) [F145r1]
  refine hK _ ?_
  refine AWp.block ?_
  refine AWp.loopG (fun k : Nat => { tm := [(0, .ptr 1000 0), (7, .rd 4 (v.l.map encV)), (8, ival v.l.length), (9, ival k)], hp := HP (l ++ valsE (v.l.take k)) 0 }) (fun k => k ≤ v.l.length) (fun k => v.l.length - k) 0 (by omega) (by simp [valsE]) (fun k hk => ?_)
  have hvl := valsE_len (v.l.take k) (rngs_take _ _ hr) (by have := vsizes_take_le v.l k; omega)
  have htl := vsizes_take_le v.l k
  have hcl : (l ++ valsE (v.l.take k)).length ≤ l.length + 12 * vsizes (v.l.take k) := by simp; omega
  refine AWp.seq ?_
  refine AWp.regK [0, 7, 8, 9, 10] [] F145r2 [] (by kernel_rfl) (by rw [hC]; rfl) fun K hK => ?_
  simp (maxSteps := 2000000) [F145r2]
  refine hK _ ?_
  refine AWp.seq ?_
  refine AWp.cond _ (by rfl) (fun hlt => ?_) (fun hge => ?_)
  · skip
    have hlt : k < v.l.length := by simpa using hlt
    have hsn := vsizes_snoc v.l k hlt
    have htl2 := vsizes_take_le v.l (k + 1)
    have hst : l ++ valsE (v.l.take (k + 1)) = l ++ valsE (v.l.take k) ++ [1] ++ valE v.l[k] := by rw [valsE_take v.l k hlt]; simp
    generalize l ++ valsE (v.l.take k) = cur at *
    have h1 := put_ok cur [1] 0 (by simp; omega) (by simp)
    rw [one_enc (by unfold isB; omega)] at h1
    have h2 := hx v.l[k] (List.getElem_mem hlt) (cur ++ [1]) (by simp; omega)
    rw [← hst] at h2
    generalize hnx : l ++ valsE (v.l.take (k + 1)) = nxt at *
    generalize cur ++ [1] = mid at *
    refine AWp.skip ?_
    refine AWp.seq ?_
    refine AWp.block ?_
    refine AWp.seq ?_
    refine AWp.regK [0, 5, 7, 8, 9] [false, false, false, true] F145r3 [] (by kernel_rfl) (by rw [hC]; rfl) fun K hK => ?_
    simp (maxSteps := 2000000) [F145r3, hlt]
    (repeat refine ⟨by first | omega | (intros; omega) | assumption, ?_⟩); refine hK _ ?_
    refine AWp.seq ?_
    refine AWp.regK [0, 5, 7, 8, 9] [] F145r4 [{ r := .tup [], us := [1000], bs := HP mid 0 }] (by kernel_rfl) (by rw [hC]; rfl) fun K hK => ?_
    simp (maxSteps := 2000000) [F145r4]
    (repeat first | refine ⟨by first | (show freeP _ _ _ = true; kernel_rfl) | omega | (intros; omega) | assumption, ?_⟩ | refine ⟨by intros; exact callP h1 (.cons .refl (.cons .own .nil)) rfl rfl, ?_⟩); refine hK _ ?_
    refine AWp.regK [0, 7, 8, 9] [] F145r5 [{ r := .tup [], us := [1000], bs := HP nxt 0 }] (by kernel_rfl) (by rw [hC]; rfl) fun K hK => ?_
    simp (maxSteps := 2000000) [F145r5]
    (repeat first | refine ⟨by first | (show freeP _ _ _ = true; kernel_rfl) | omega | (intros; omega) | assumption, ?_⟩ | refine ⟨by intros; exact callP h2 (.cons .refl (.cons .refl .nil)) rfl rfl, ?_⟩); refine hK _ ?_
    refine AWp.regK [0, 7, 8, 9] [] F145r6 [] (by kernel_rfl) (by rw [hC]; rfl) fun K hK => ?_
    simp (maxSteps := 2000000) [F145r6]
    (repeat refine ⟨by first | omega | (intros; omega) | assumption, ?_⟩); refine hK _ ?_
    refine ⟨k + 1, by omega, by omega, ?_⟩
    rw [hnx]
    simp [wrap_nat k (by omega)]
  have hge : ¬ k < v.l.length := by simpa using hge
  refine AWp.exit ?_
  rw [List.take_of_length_le (show v.l.length ≤ k by omega)] at hcl hvl ⊢
  have h1 := put_ok (l ++ valsE v.l) [0] 0 (by simp; omega) (by simp)
  rw [one_enc (by unfold isB; omega), List.append_assoc] at h1
  generalize l ++ (valsE v.l ++ [0]) = fin at *
  generalize l ++ valsE v.l = cur at *
  refine AWp.regK [] [] F145r7 [{ r := .tup [], us := [1000], bs := HP fin 0 }] (by kernel_rfl) (by rw [hC]; rfl) fun K hK => ?_
  simp (maxSteps := 2000000) [F145r7]
  (repeat first | refine ⟨by first | (show freeP _ _ _ = true; kernel_rfl) | omega | (intros; omega) | assumption, ?_⟩ | refine ⟨by intros; exact callP h1 (.cons .refl (.cons .own .nil)) rfl rfl, ?_⟩); refine hK _ ?_
  refine ⟨.inl rfl, ⟨[], rfl, .refl⟩, rfl, ?_⟩
  simp
theorem cons_ok (v : ValD) (l : List Int) (hr : rngs v.l) (hv : vsize v ≤ 4194304) (hl : l.length + 12 * vsize v ≤ 274877906945) (hx : ∀ x ∈ v.l, VOK x) :
    ConM Tryz.prog 146 (HP l 0) [.ptr 1000 0, valX v] (.tup []) (HP (l ++ (txtE v.s ++ (valsE v.l ++ [0]))) 0) := by
  have hsz := vsize_eq v
  have htl := txtE_len v.s
  have h1 := text_ok l v.s (by omega) (by omega)
  have h2 := list_ok v (l ++ txtE v.s) hr (by omega) (by simp; omega) hx
  rw [List.append_assoc] at h2
  generalize l ++ (txtE v.s ++ (valsE v.l ++ [0])) = fin at *
  generalize l ++ txtE v.s = mid at *
  refine ConM.of_code Tryz.func146 (by kernel_rfl) rfl (by simp [Tryz.ntmps146]) (by simp [Tryz.ntmps146]) (hand_of rfl) (more_of rfl) rfl (fun C hC hρ => ?_)
  refine AWp.seq ?_
  refine AWp.regK [0, 3] [] F146r0 [] (by kernel_rfl) (by rw [hC]; rfl) fun K hK => ?_
  simp (maxSteps := 2000000) [F146r0]
  refine hK _ ?_
  refine AWp.seq ?_
  refine AWp.regK [0, 3] [] F146r1 [{ r := .tup [], us := [1000], bs := HP mid 0 }] (by kernel_rfl) (by rw [hC]; rfl) fun K hK => ?_
  simp (maxSteps := 2000000) [F146r1]
  (repeat first | refine ⟨by first | (show freeP _ _ _ = true; kernel_rfl) | omega | (intros; omega) | assumption, ?_⟩ | refine ⟨by intros; exact callP h1 (.cons .refl (.cons .refl .nil)) rfl rfl, ?_⟩); refine hK _ ?_
  refine AWp.regK [] [] F146r2 [{ r := .tup [], us := [1000], bs := HP fin 0 }] (by kernel_rfl) (by rw [hC]; rfl) fun K hK => ?_
  simp (maxSteps := 2000000) [F146r2]
  (repeat first | refine ⟨by first | (show freeP _ _ _ = true; kernel_rfl) | omega | (intros; omega) | assumption, ?_⟩ | refine ⟨by intros; exact callP h2 (.cons .refl (.cons .refl .nil)) rfl rfl, ?_⟩); refine hK _ ?_
  refine ⟨.inl rfl, ⟨[], rfl, .refl⟩, rfl, ?_⟩
  simp
theorem value_ok : ∀ (n : Nat) (v : ValD), vsize v < n → vsize v ≤ 4194304 → form v = true → rng v → VOK v := by
  intro n
  induction n with
  | zero => intro v h; omega
  | succ n ih =>
    intro v hn hv hf hr l hl
    have hsz := vsize_eq v
    have hk := form_kind hf
    have hff := hf
    rw [form_eq, Bool.and_eq_true] at hff
    have hrr := hr
    rw [rng_eq] at hrr
    have hx : ∀ x ∈ v.l, VOK x := fun x hx => by
      have := vsize_mem hx
      exact ih x (by omega) (by omega) (forms_mem hx hff.2) (rngs_mem hx hrr.2)
    have h0 := put_ok l [v.kind] 0 (by simp; omega) (by simp)
    rw [one_enc (by unfold isB; omega)] at h0
    have hml : (l ++ [v.kind]).length = l.length + 1 := by simp
    have hvE : l ++ valE v = (l ++ [v.kind]) ++ (if v.kind = 1 then [v.n] else if v.kind = 2 then numI v.n else if v.kind = 3 then bigE v.s else if v.kind = 4 then txtE v.s else if v.kind = 5 then valsE v.l ++ [0] else txtE v.s ++ (valsE v.l ++ [0])) := by
      rw [valE_eq]; simp
    rw [hvE]
    clear hvE
    generalize l ++ [v.kind] = mid at *
    refine ConM.of_code Tryz.func123 (by kernel_rfl) rfl (by simp [Tryz.ntmps123]) (by simp [Tryz.ntmps123]) (hand_of rfl) (more_of rfl) rfl (fun C hC hρ => ?_)
    refine AWp.seq ?_
    refine AWp.regK [0, 3] [] F123r0 [] (by kernel_rfl) (by rw [hC]; rfl) fun K hK => ?_
    simp (maxSteps := 2000000) [F123r0]
    refine hK _ ?_
    refine AWp.seq ?_
    refine AWp.regK [0, 3, 4] [false, false, true] F123r1 [] (by kernel_rfl) (by rw [hC]; rfl) fun K hK => ?_
    simp (maxSteps := 2000000) [F123r1]
    refine hK _ ?_
    refine AWp.seq ?_
    refine AWp.regK [0, 3, 4] [] F123r2 [{ r := .tup [], us := [1000], bs := HP mid 0 }] (by kernel_rfl) (by rw [hC]; rfl) fun K hK => ?_
    simp (maxSteps := 2000000) [F123r2]
    (repeat first | refine ⟨by first | (show freeP _ _ _ = true; kernel_rfl) | omega | (intros; omega) | assumption, ?_⟩ | refine ⟨by intros; exact callP h0 (.cons .refl (.cons .own .nil)) rfl rfl, ?_⟩); refine hK _ ?_
    have h123456 : v.kind = 1 ∨ v.kind = 2 ∨ v.kind = 3 ∨ v.kind = 4 ∨ v.kind = 5 ∨ v.kind = 6 := by omega
    rcases h123456 with h | h | h | h | h | h
    · have hc := truth_ok mid v (form_bool hf h) (by omega)
      simp only [h, Int.reduceEq, if_true, if_false]
      generalize mid ++ [v.n] = fin at *
      refine AWp.regKL ops_mixed [[], [0], [0, 1], [0, 1, 2], [], [], [0, 1, 2, 3, 4, 5]] [] [] F123r3 [{ r := .tup [], us := [1000], bs := HP fin 0 }] (by kernel_rfl) (by rw [hC]; rfl) (by kernel_rfl) (by kernel_rfl) fun K hK => ?_
      simp (maxSteps := 2000000) [F123r3, h]
      (repeat first | refine ⟨by first | (show freeP _ _ _ = true; kernel_rfl) | omega | (intros; omega) | assumption, ?_⟩ | refine ⟨by intros; exact callP hc (by simp [h]; exact .cons .refl (.cons .refl .nil)) rfl rfl, ?_⟩); refine hK _ ?_
      refine ⟨.inl rfl, ⟨[], rfl, .refl⟩, rfl, ?_⟩
      simp
    · have hc := whole_ok mid v hr (by omega)
      simp only [h, Int.reduceEq, if_true, if_false]
      generalize mid ++ numI v.n = fin at *
      refine AWp.regKL ops_mixed [[], [0], [0, 1], [0, 1, 2], [], [], [0, 1, 2, 3, 4, 5]] [] [] F123r3 [{ r := .tup [], us := [1000], bs := HP fin 0 }] (by kernel_rfl) (by rw [hC]; rfl) (by kernel_rfl) (by kernel_rfl) fun K hK => ?_
      simp (maxSteps := 2000000) [F123r3, h]
      (repeat first | refine ⟨by first | (show freeP _ _ _ = true; kernel_rfl) | omega | (intros; omega) | assumption, ?_⟩ | refine ⟨by intros; exact callP hc (by simp [h]; exact .cons .refl (.cons .refl .nil)) rfl rfl, ?_⟩); refine hK _ ?_
      refine ⟨.inl rfl, ⟨[], rfl, .refl⟩, rfl, ?_⟩
      simp
    · have hc := big_ok mid v (form_big hf h) (by omega) (by omega)
      simp only [h, Int.reduceEq, if_true, if_false]
      generalize mid ++ bigE v.s = fin at *
      refine AWp.regKL ops_mixed [[], [0], [0, 1], [0, 1, 2], [], [], [0, 1, 2, 3, 4, 5]] [] [] F123r3 [{ r := .tup [], us := [1000], bs := HP fin 0 }] (by kernel_rfl) (by rw [hC]; rfl) (by kernel_rfl) (by kernel_rfl) fun K hK => ?_
      simp (maxSteps := 2000000) [F123r3, h]
      (repeat first | refine ⟨by first | (show freeP _ _ _ = true; kernel_rfl) | omega | (intros; omega) | assumption, ?_⟩ | refine ⟨by intros; exact callP hc (by simp [h]; exact .cons .refl (.cons .refl .nil)) rfl rfl, ?_⟩); refine hK _ ?_
      refine ⟨.inl rfl, ⟨[], rfl, .refl⟩, rfl, ?_⟩
      simp
    · have hc := words_ok mid v (by omega) (by omega)
      simp only [h, Int.reduceEq, if_true, if_false]
      generalize mid ++ txtE v.s = fin at *
      refine AWp.regKL ops_mixed [[], [0], [0, 1], [0, 1, 2], [], [], [0, 1, 2, 3, 4, 5]] [] [] F123r3 [{ r := .tup [], us := [1000], bs := HP fin 0 }] (by kernel_rfl) (by rw [hC]; rfl) (by kernel_rfl) (by kernel_rfl) fun K hK => ?_
      simp (maxSteps := 2000000) [F123r3, h]
      (repeat first | refine ⟨by first | (show freeP _ _ _ = true; kernel_rfl) | omega | (intros; omega) | assumption, ?_⟩ | refine ⟨by intros; exact callP hc (by simp [h]; exact .cons .refl (.cons .refl .nil)) rfl rfl, ?_⟩); refine hK _ ?_
      refine ⟨.inl rfl, ⟨[], rfl, .refl⟩, rfl, ?_⟩
      simp
    · have hc := list_ok v mid hrr.2 (by omega) (by omega) hx
      simp only [h, Int.reduceEq, if_true, if_false]
      generalize mid ++ (valsE v.l ++ [0]) = fin at *
      refine AWp.regKL ops_mixed [[], [0], [0, 1], [0, 1, 2], [], [], [0, 1, 2, 3, 4, 5]] [] [] F123r3 [{ r := .tup [], us := [1000], bs := HP fin 0 }] (by kernel_rfl) (by rw [hC]; rfl) (by kernel_rfl) (by kernel_rfl) fun K hK => ?_
      simp (maxSteps := 2000000) [F123r3, h]
      (repeat first | refine ⟨by first | (show freeP _ _ _ = true; kernel_rfl) | omega | (intros; omega) | assumption, ?_⟩ | refine ⟨by intros; exact callP hc (by simp [h]; exact .cons .refl (.cons .refl .nil)) rfl rfl, ?_⟩); refine hK _ ?_
      refine ⟨.inl rfl, ⟨[], rfl, .refl⟩, rfl, ?_⟩
      simp
    · have hc := cons_ok v mid hrr.2 hv (by omega) hx
      simp only [h, Int.reduceEq, if_true, if_false]
      generalize mid ++ (txtE v.s ++ (valsE v.l ++ [0])) = fin at *
      refine AWp.regKL ops_mixed [[], [0], [0, 1], [0, 1, 2], [], [], [0, 1, 2, 3, 4, 5]] [] [] F123r3 [{ r := .tup [], us := [1000], bs := HP fin 0 }] (by kernel_rfl) (by rw [hC]; rfl) (by kernel_rfl) (by kernel_rfl) fun K hK => ?_
      simp (maxSteps := 2000000) [F123r3, h]
      (repeat first | refine ⟨by first | (show freeP _ _ _ = true; kernel_rfl) | omega | (intros; omega) | assumption, ?_⟩ | refine ⟨by intros; exact callP hc (by simp [h]; exact .cons .refl (.cons .refl .nil)) rfl rfl, ?_⟩); refine hK _ ?_
      refine ⟨.inl rfl, ⟨[], rfl, .refl⟩, rfl, ?_⟩
      simp
-- behind bytes
theorem callB {f : Nat} {g : Nat → Option Blk} {vs ts : List AV} {r : AV} {k : Blk} (hc : ConM Tryz.prog f [] ts r [(6, k)]) (hlt : LtL vs ts) (hg : g 6 = none) (hwt : withinL [] ts = true) :
    ∃ H ts, CallM Tryz.prog f g [6] vs r [(6, k)] H ts := by
  refine ⟨[], ts, fun b k' hb => ?_, fun b k' hb => ?_, fun b k' hb _ => ?_, fun b k' hb => ?_, fun b k' hb => ?_, hwt, hlt, hc⟩
  · simp only [lk] at hb; split at hb
    · rename_i e; subst e; rfl
    · cases hb
  · cases hb
  · simp only [lk] at hb; split at hb
    · rename_i e; subst e; exact ⟨hg, by omega⟩
    · cases hb
  · cases hb
  · cases hb
theorem IsB.own {l l' : List Int} (h : l' ≠ []) : IsB (.rd 1 (bt (l ++ l'))) (l ++ l') := .inr ⟨rfl, by simp [h]⟩
theorem IsB.within {b : AV} {l : List Int} (h : IsB b l) (ids : List Nat) : within ids b = true := by rcases h with ⟨rfl, _⟩ | ⟨rfl, _⟩ <;> rfl
attribute [local simp] nilA
theorem Num_ok {b : AV} {l : List Int} (hb : IsB b l) (n : Int) (h0 : -9223372036854775808 ≤ n) (h1 : n ≤ 9223372036854775807) (hl : l.length ≤ 268435456) : Con Tryz.prog 67 [b, ival n] (.own 5 1 (bt (l ++ numI n))) := by
  have hbe := behind_ok hb hl
  have hn := num_ok l n h0 h1 (by omega)
  generalize l ++ numI n = fin at *
  rcases hb with ⟨rfl, hne⟩ | ⟨rfl, hne⟩
  all_goals
    refine Con.of_code Tryz.func67 (by kernel_rfl) rfl (by simp [Tryz.ntmps67]) fun C hC hM => ?_
    refine AWp.seq ?_
    refine AWp.regK [0, 1] [true] F67r0 [] (by kernel_rfl) (by rw [hC]; rfl) fun K hK => ?_
    simp (maxSteps := 2000000) [F67r0]
    refine hK _ ?_
    refine AWp.seq ?_
    refine AWp.regK [1, 5] [false, false, true] F67r1 [{ r := .ptr 6 0, us := [6], bs := [(6, penB l 0)] }] (by kernel_rfl) (by rw [hC]; rfl) fun K hK => ?_
    simp (maxSteps := 2000000) [F67r1]
    (repeat first | refine ⟨by first | (show freeP _ _ _ = true; kernel_rfl) | omega | (intros; omega) | assumption, ?_⟩ | refine ⟨by intros; exact callB hbe (.cons .refl .nil) rfl (by simp), ?_⟩); refine hK _ ?_
    refine AWp.renP hM 6 1000 (by decide) (by simp) _ rfl ?_
    refine AWp.seq ?_
    refine AWp.regK [5] [] F67r2 [{ r := .tup [], us := [1000], bs := HP fin 0 }] (by kernel_rfl) (by rw [hC]; rfl) fun K hK => ?_
    simp (maxSteps := 2000000) [F67r2]
    (repeat first | refine ⟨by first | (show freeP _ _ _ = true; kernel_rfl) | omega | (intros; omega) | assumption, ?_⟩ | refine ⟨by intros; exact callP hn (.cons .refl (.cons .refl .nil)) rfl rfl, ?_⟩); refine hK _ ?_
    refine AWp.seq ?_
    refine AWp.regK [4] [false, false, false, true, true] F67r3 [] (by kernel_rfl) (by rw [hC]; rfl) fun K hK => ?_
    simp (maxSteps := 2000000) [F67r3]
    refine hK _ ?_
    repeat refine AWp.seq ?_
    refine AWp.ret ⟨.inr rfl, _, by simp [Tryz.results67] <;> rfl, ?_⟩
    exact .closed rfl
theorem Count_ok {b : AV} {l : List Int} (hb : IsB b l) (n : Int) (hl : l.length ≤ 268435456) : Con Tryz.prog 53 [b, ival n] (.own 5 1 (bt (l ++ cntE n))) := by
  have hbe := behind_ok hb hl
  by_cases h : 0 ≤ n ∧ n ≤ 2147483647
  · obtain ⟨u, hu0⟩ : ∃ u : Nat, n = (u : Int) := ⟨n.toNat, by omega⟩
    have hn := number_ok' l 0 0 u (by omega) (by omega) (by omega) (by omega)
    have hce : l ++ cntE n = l ++ enc 0 (numE 0 u) := by unfold cntE; rw [if_pos h, enc_0 (numE_areB (by omega) (by omega) (by omega)), hu0]; rfl
    rw [hce]
    subst hu0
    have hw : IntKind.u64.wrap (u : Int) = (u : Int) := by rw [IntKind.wrap_u64]; omega
    generalize l ++ enc 0 (numE 0 u) = fin at *
    rcases hb with ⟨rfl, hne⟩ | ⟨rfl, hne⟩
    all_goals
      refine Con.of_code Tryz.func53 (by kernel_rfl) rfl (by simp [Tryz.ntmps53]) fun C hC hM => ?_
      refine AWp.seq ?_
      refine AWp.regK [0, 1] [true] F53r0 [] (by kernel_rfl) (by rw [hC]; rfl) fun K hK => ?_
      simp (maxSteps := 2000000) [F53r0]
      refine hK _ ?_
      refine AWp.seq ?_
      refine AWp.regK [1, 5] [false, false, true] F53r1 [{ r := .ptr 6 0, us := [6], bs := [(6, penB l 0)] }] (by kernel_rfl) (by rw [hC]; rfl) fun K hK => ?_
      simp (maxSteps := 2000000) [F53r1]
      (repeat first | refine ⟨by first | (show freeP _ _ _ = true; kernel_rfl) | omega | (intros; omega) | assumption, ?_⟩ | refine ⟨by intros; exact callB hbe (.cons .refl .nil) rfl (by simp), ?_⟩); refine hK _ ?_
      refine AWp.renP hM 6 1000 (by decide) (by simp) _ rfl ?_
      refine AWp.seq ?_
      refine AWp.seq ?_
      refine AWp.regK [1, 5, 13] [] F53r2 [] (by kernel_rfl) (by rw [hC]; rfl) fun K hK => ?_
      simp (maxSteps := 2000000) [F53r2]
      (repeat refine ⟨by first | omega | (intros; omega) | assumption, ?_⟩); refine hK _ ?_
      refine AWp.cond true (by simp; omega) (fun _ => ?_) (fun he => by cases he)
      refine AWp.regK [5] [] F53r3 [{ r := .tup [], us := [1000], bs := HP fin 0 }] (by kernel_rfl) (by rw [hC]; rfl) fun K hK => ?_
      simp (maxSteps := 2000000) [F53r3, hw]
      (repeat first | refine ⟨by first | (show freeP _ _ _ = true; kernel_rfl) | omega | (intros; omega) | assumption, ?_⟩ | refine ⟨by intros; exact callP hn (.cons .refl (.cons .refl (.cons .refl .nil))) rfl rfl, ?_⟩); refine hK _ ?_
      refine AWp.seq ?_
      refine AWp.regK [4] [false, false, false, true, true] F53r4 [] (by kernel_rfl) (by rw [hC]; rfl) fun K hK => ?_
      simp (maxSteps := 2000000) [F53r4]
      refine hK _ ?_
      repeat refine AWp.seq ?_
      refine AWp.ret ⟨.inr rfl, _, by simp [Tryz.results53] <;> rfl, ?_⟩
      exact .closed rfl
  · have hce : l ++ cntE n = l := by unfold cntE; rw [if_neg h, List.append_nil]
    rw [hce]
    rcases hb with ⟨rfl, hne⟩ | ⟨rfl, hne⟩
    all_goals
      refine Con.of_code Tryz.func53 (by kernel_rfl) rfl (by simp [Tryz.ntmps53]) fun C hC hM => ?_
      refine AWp.seq ?_
      refine AWp.regK [0, 1] [true] F53r0 [] (by kernel_rfl) (by rw [hC]; rfl) fun K hK => ?_
      simp (maxSteps := 2000000) [F53r0]
      refine hK _ ?_
      refine AWp.seq ?_
      refine AWp.regK [1, 5] [false, false, true] F53r1 [{ r := .ptr 6 0, us := [6], bs := [(6, penB l 0)] }] (by kernel_rfl) (by rw [hC]; rfl) fun K hK => ?_
      simp (maxSteps := 2000000) [F53r1]
      (repeat first | refine ⟨by first | (show freeP _ _ _ = true; kernel_rfl) | omega | (intros; omega) | assumption, ?_⟩ | refine ⟨by intros; exact callB hbe (.cons .refl .nil) rfl (by simp), ?_⟩); refine hK _ ?_
      refine AWp.seq ?_
      refine AWp.seq ?_
      refine AWp.regK [1, 5, 13] [] F53r2 [] (by kernel_rfl) (by rw [hC]; rfl) fun K hK => ?_
      simp (maxSteps := 2000000) [F53r2]
      (repeat refine ⟨by first | omega | (intros; omega) | assumption, ?_⟩); refine hK _ ?_
      refine AWp.cond false (by simp; omega) (fun he => by cases he) (fun _ => ?_)
      refine AWp.skip ?_
      refine AWp.seq ?_
      refine AWp.regK [4] [false, false, false, true, true] F53r4 [] (by kernel_rfl) (by rw [hC]; rfl) fun K hK => ?_
      simp (maxSteps := 2000000) [F53r4]
      refine hK _ ?_
      repeat refine AWp.seq ?_
      refine AWp.ret ⟨.inr rfl, _, by simp [Tryz.results53] <;> rfl, ?_⟩
      exact .closed rfl
theorem Str_ok {b : AV} {l : List Int} (hb : IsB b l) (s : ByteArray) (hs : s.size ≤ 4194304) (hl : l.length ≤ 268435456) : Con Tryz.prog 57 [b, sval s] (.own 5 1 (bt (l ++ txtE s))) := by
  have hbe := behind_ok hb hl
  have hn := text_ok l s hs (by omega)
  generalize l ++ txtE s = fin at *
  rcases hb with ⟨rfl, hne⟩ | ⟨rfl, hne⟩
  all_goals
    refine Con.of_code Tryz.func57 (by kernel_rfl) rfl (by simp [Tryz.ntmps57]) fun C hC hM => ?_
    refine AWp.seq ?_
    refine AWp.regK [0, 1] [true] F57r0 [] (by kernel_rfl) (by rw [hC]; rfl) fun K hK => ?_
    simp (maxSteps := 2000000) [F57r0]
    refine hK _ ?_
    refine AWp.seq ?_
    refine AWp.regK [1, 5] [false, false, true] F57r1 [{ r := .ptr 6 0, us := [6], bs := [(6, penB l 0)] }] (by kernel_rfl) (by rw [hC]; rfl) fun K hK => ?_
    simp (maxSteps := 2000000) [F57r1]
    (repeat first | refine ⟨by first | (show freeP _ _ _ = true; kernel_rfl) | omega | (intros; omega) | assumption, ?_⟩ | refine ⟨by intros; exact callB hbe (.cons .refl .nil) rfl (by simp), ?_⟩); refine hK _ ?_
    refine AWp.renP hM 6 1000 (by decide) (by simp) _ rfl ?_
    refine AWp.seq ?_
    refine AWp.regK [5] [] F57r2 [{ r := .tup [], us := [1000], bs := HP fin 0 }] (by kernel_rfl) (by rw [hC]; rfl) fun K hK => ?_
    simp (maxSteps := 2000000) [F57r2]
    (repeat first | refine ⟨by first | (show freeP _ _ _ = true; kernel_rfl) | omega | (intros; omega) | assumption, ?_⟩ | refine ⟨by intros; exact callP hn (.cons .refl (.cons .refl .nil)) rfl rfl, ?_⟩); refine hK _ ?_
    refine AWp.seq ?_
    refine AWp.regK [4] [false, false, false, true, true] F57r3 [] (by kernel_rfl) (by rw [hC]; rfl) fun K hK => ?_
    simp (maxSteps := 2000000) [F57r3]
    refine hK _ ?_
    repeat refine AWp.seq ?_
    refine AWp.ret ⟨.inr rfl, _, by simp [Tryz.results57] <;> rfl, ?_⟩
    exact .closed rfl
theorem Flag_ok {b : AV} {l : List Int} (hb : IsB b l) (f : Bool) (hl : l.length ≤ 268435456) : Con Tryz.prog 58 [b, bval f] (.own 5 1 (bt (l ++ flagE f))) := by
  have hbe := behind_ok hb hl
  have h1 := put_ok l [1] 0 (by simp; omega) (by simp)
  have h2 := put_ok l [0] 0 (by simp; omega) (by simp)
  rw [one_enc (by unfold isB; omega)] at h1 h2
  rcases hb with ⟨rfl, hne⟩ | ⟨rfl, hne⟩
  all_goals
    refine Con.of_code Tryz.func58 (by kernel_rfl) rfl (by simp [Tryz.ntmps58]) fun C hC hM => ?_
    refine AWp.seq ?_
    refine AWp.regK [0, 1] [true] F58r0 [] (by kernel_rfl) (by rw [hC]; rfl) fun K hK => ?_
    simp (maxSteps := 2000000) [F58r0]
    refine hK _ ?_
    refine AWp.seq ?_
    refine AWp.regK [1, 5] [false, false, true] F58r1 [{ r := .ptr 6 0, us := [6], bs := [(6, penB l 0)] }] (by kernel_rfl) (by rw [hC]; rfl) fun K hK => ?_
    simp (maxSteps := 2000000) [F58r1]
    (repeat first | refine ⟨by first | (show freeP _ _ _ = true; kernel_rfl) | omega | (intros; omega) | assumption, ?_⟩ | refine ⟨by intros; exact callB hbe (.cons .refl .nil) rfl (by simp), ?_⟩); refine hK _ ?_
    refine AWp.renP hM 6 1000 (by decide) (by simp) _ rfl ?_
    refine AWp.seq ?_
    refine AWp.seq ?_
    refine AWp.regK [5, 8] [] F58r2 [] (by kernel_rfl) (by rw [hC]; rfl) fun K hK => ?_
    simp (maxSteps := 2000000) [F58r2]
    refine hK _ ?_
    refine AWp.cond _ (by rfl) (fun h => ?_) (fun h => ?_)
    · skip
      refine AWp.regK [5] [] F58r3 [{ r := .tup [], us := [1000], bs := HP (l ++ [1]) 0 }] (by kernel_rfl) (by rw [hC]; rfl) fun K hK => ?_
      simp (maxSteps := 2000000) [F58r3]
      (repeat first | refine ⟨by first | (show freeP _ _ _ = true; kernel_rfl) | omega | (intros; omega) | assumption, ?_⟩ | refine ⟨by intros; exact callP h1 (.cons .refl (.cons .own .nil)) rfl rfl, ?_⟩); refine hK _ ?_
      refine AWp.seq ?_
      refine AWp.regK [4] [false, false, false, true, true] F58r5 [] (by kernel_rfl) (by rw [hC]; rfl) fun K hK => ?_
      simp (maxSteps := 2000000) [F58r5]
      refine hK _ ?_
      repeat refine AWp.seq ?_
      refine AWp.ret ⟨.inr rfl, _, by simp [Tryz.results58] <;> rfl, ?_⟩
      exact .clos (by simp [flagE, h]) rfl
    refine AWp.regK [5] [] F58r4 [{ r := .tup [], us := [1000], bs := HP (l ++ [0]) 0 }] (by kernel_rfl) (by rw [hC]; rfl) fun K hK => ?_
    simp (maxSteps := 2000000) [F58r4]
    (repeat first | refine ⟨by first | (show freeP _ _ _ = true; kernel_rfl) | omega | (intros; omega) | assumption, ?_⟩ | refine ⟨by intros; exact callP h2 (.cons .refl (.cons .own .nil)) rfl rfl, ?_⟩); refine hK _ ?_
    refine AWp.seq ?_
    refine AWp.regK [4] [false, false, false, true, true] F58r5 [] (by kernel_rfl) (by rw [hC]; rfl) fun K hK => ?_
    simp (maxSteps := 2000000) [F58r5]
    refine hK _ ?_
    repeat refine AWp.seq ?_
    refine AWp.ret ⟨.inr rfl, _, by simp [Tryz.results58] <;> rfl, ?_⟩
    exact .clos (by simp [flagE, h]) rfl
theorem Value_ok {b : AV} {l : List Int} (hb : IsB b l) (v : ValD) (hv : vsize v ≤ 4194304) (hr : rng v) (hl : l.length ≤ 268435456) : Con Tryz.prog 105 [b, valX v] (.own 5 1 (bt (l ++ valP v))) := by
  have hbe := behind_ok hb hl
  have hCk := CheckP_ok v hv
  by_cases h : Check v = 0
  · have hn := value_ok _ v (Nat.lt_succ_self _) hv (Check_form h) hr l (by omega)
    have hce : l ++ valP v = l ++ valE v := by unfold valP; rw [if_pos h]
    rw [hce]
    generalize l ++ valE v = fin at *
    rcases hb with ⟨rfl, hne⟩ | ⟨rfl, hne⟩
    all_goals
      refine Con.of_code Tryz.func105 (by kernel_rfl) rfl (by simp [Tryz.ntmps105]) fun C hC hM => ?_
      refine AWp.seq ?_
      refine AWp.regK [0, 3] [false, true] F105r0 [] (by kernel_rfl) (by rw [hC]; rfl) fun K hK => ?_
      simp (maxSteps := 2000000) [F105r0]
      refine hK _ ?_
      refine AWp.seq ?_
      refine AWp.regK [3, 5] [false, false, true] F105r1 [{ r := .ptr 6 0, us := [6], bs := [(6, penB l 0)] }] (by kernel_rfl) (by rw [hC]; rfl) fun K hK => ?_
      simp (maxSteps := 2000000) [F105r1]
      (repeat first | refine ⟨by first | (show freeP _ _ _ = true; kernel_rfl) | omega | (intros; omega) | assumption, ?_⟩ | refine ⟨by intros; exact callB hbe (.cons .refl .nil) rfl (by simp), ?_⟩); refine hK _ ?_
      refine AWp.renP hM 6 1000 (by decide) (by simp) _ rfl ?_
      refine AWp.seq ?_
      refine AWp.seq ?_
      refine AWp.regK [3, 5, 10] [] F105r2 [{ r := ival (Check v) }] (by kernel_rfl) (by rw [hC]; rfl) fun K hK => ?_
      simp (maxSteps := 2000000) [F105r2]
      (repeat first | refine ⟨by first | (show freeP _ _ _ = true; kernel_rfl) | omega | (intros; omega) | assumption, ?_⟩ | refine ⟨by intros; exact callOK rfl hCk, ?_⟩); refine hK _ ?_
      refine AWp.cond true (by simp [h]) (fun _ => ?_) (fun he => by cases he)
      refine AWp.regK [5] [] F105r3 [{ r := .tup [], us := [1000], bs := HP fin 0 }] (by kernel_rfl) (by rw [hC]; rfl) fun K hK => ?_
      simp (maxSteps := 2000000) [F105r3]
      (repeat first | refine ⟨by first | (show freeP _ _ _ = true; kernel_rfl) | omega | (intros; omega) | assumption, ?_⟩ | refine ⟨by intros; exact callP hn (.cons .refl (.cons .refl .nil)) rfl rfl, ?_⟩); refine hK _ ?_
      refine AWp.seq ?_
      refine AWp.regK [4] [false, false, false, true, true] F105r4 [] (by kernel_rfl) (by rw [hC]; rfl) fun K hK => ?_
      simp (maxSteps := 2000000) [F105r4]
      refine hK _ ?_
      repeat refine AWp.seq ?_
      refine AWp.ret ⟨.inr rfl, _, by simp [Tryz.results105] <;> rfl, ?_⟩
      exact .closed rfl
  · have hce : l ++ valP v = l := by unfold valP; rw [if_neg h, List.append_nil]
    rw [hce]
    rcases hb with ⟨rfl, hne⟩ | ⟨rfl, hne⟩
    all_goals
      refine Con.of_code Tryz.func105 (by kernel_rfl) rfl (by simp [Tryz.ntmps105]) fun C hC hM => ?_
      refine AWp.seq ?_
      refine AWp.regK [0, 3] [false, true] F105r0 [] (by kernel_rfl) (by rw [hC]; rfl) fun K hK => ?_
      simp (maxSteps := 2000000) [F105r0]
      refine hK _ ?_
      refine AWp.seq ?_
      refine AWp.regK [3, 5] [false, false, true] F105r1 [{ r := .ptr 6 0, us := [6], bs := [(6, penB l 0)] }] (by kernel_rfl) (by rw [hC]; rfl) fun K hK => ?_
      simp (maxSteps := 2000000) [F105r1]
      (repeat first | refine ⟨by first | (show freeP _ _ _ = true; kernel_rfl) | omega | (intros; omega) | assumption, ?_⟩ | refine ⟨by intros; exact callB hbe (.cons .refl .nil) rfl (by simp), ?_⟩); refine hK _ ?_
      refine AWp.seq ?_
      refine AWp.seq ?_
      refine AWp.regK [3, 5, 10] [] F105r2 [{ r := ival (Check v) }] (by kernel_rfl) (by rw [hC]; rfl) fun K hK => ?_
      simp (maxSteps := 2000000) [F105r2]
      (repeat first | refine ⟨by first | (show freeP _ _ _ = true; kernel_rfl) | omega | (intros; omega) | assumption, ?_⟩ | refine ⟨by intros; exact callOK rfl hCk, ?_⟩); refine hK _ ?_
      refine AWp.cond false (by simp [h]) (fun he => by cases he) (fun _ => ?_)
      refine AWp.skip ?_
      refine AWp.seq ?_
      refine AWp.regK [4] [false, false, false, true, true] F105r4 [] (by kernel_rfl) (by rw [hC]; rfl) fun K hK => ?_
      simp (maxSteps := 2000000) [F105r4]
      refine hK _ ?_
      repeat refine AWp.seq ?_
      refine AWp.ret ⟨.inr rfl, _, by simp [Tryz.results105] <;> rfl, ?_⟩
      exact .closed rfl
end Go.Se
