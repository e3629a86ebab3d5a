/- The pen writes. -/
import Derived.Test.YtmikljncdgfjpaaGreatDoorSeE
import Derived.Test.YtmikljncdgfjpaaGreatDoorSeSpB
set_option linter.unusedSimpArgs false
set_option linter.unusedVariables false
open Go Go.Aw Go.Proofs
namespace Go.Se
set_option maxRecDepth 20000
-- function 97: (*corollary/code.pen).put
def F97r0 : List ROp := [⟨some 6, .copy false (.tmp 1), [], none⟩,
  ⟨some 7, .len 0 (.tmp 6), [], none⟩,
  ⟨some 8, .copy false (.const (.int .i64 0)), [], none⟩]
def F97r1 : List ROp := [⟨some 9, .bin .lss (.tmp 8) (.tmp 7), [], none⟩]
def F97r2 : List ROp := [⟨some 10, .iad 1 (.tmp 6) (.tmp 8), [], none⟩,
  ⟨some 11, .load 1 false false (.tmp 10), [], none⟩,
  ⟨some 5, .copy true (.tmp 11), [], none⟩]
def F97r3 : List ROp := [⟨some 12, .copy false (.tmp 0), [], none⟩,
  ⟨some 13, .copy false (.tmp 0), [], none⟩,
  ⟨some 14, .x1 0 (.tmp 13), [1], none⟩,
  ⟨some 15, .fad 0 (.tmp 14), [2], none⟩,
  ⟨some 16, .load 1 false true (.tmp 15), [3], none⟩,
  ⟨some 17, .copy false (.tmp 5), [], none⟩,
  ⟨some 18, .copy false (.tmp 0), [], none⟩,
  ⟨some 19, .x1 0 (.tmp 18), [6], none⟩,
  ⟨some 20, .fad 1 (.tmp 19), [7], none⟩,
  ⟨some 21, .load 1 false false (.tmp 20), [8], none⟩,
  ⟨some 22, .bin .xor (.tmp 17) (.tmp 21), [5, 9], none⟩,
  ⟨some 23, .bslice 5 1 [Value.int .u8 0] 1 [(0, .tmp 22)], [10], none⟩,
  ⟨some 24, .app 5 1 1 (.tmp 16) (.tmp 23), [4, 11], none⟩,
  ⟨some 25, .x1 0 (.tmp 12), [0, 0, 1, 2, 3, 4, 5, 6, 7, 8, 9, 10, 11, 12], none⟩,
  ⟨some 26, .fad 0 (.tmp 25), [13, 0, 1, 2, 3, 4, 5, 6, 7, 8, 9, 10, 11, 12], none⟩,
  ⟨none, .store 1 true (.tmp 26) (.tmp 24), [14, 12, 12, 0, 1, 2, 3, 4, 5, 6, 7, 8, 9, 10, 11, 12], none⟩]
def F97r4 : List ROp := [⟨some 27, .bin .add (.tmp 8) (.const (.int .i64 1)), [], none⟩,
  ⟨some 8, .copy false (.tmp 27), [], none⟩]
-- function 122: (*corollary/code.pen).flip
def F122r0 : List ROp := [⟨some 4, .copy false (.tmp 1), [], none⟩]
def F122r1 : List ROp := [⟨some 5, .copy false (.tmp 0), [], none⟩,
  ⟨some 6, .x1 0 (.tmp 5), [], none⟩,
  ⟨some 7, .fad 1 (.tmp 6), [], none⟩,
  ⟨some 8, .load 1 false false (.tmp 7), [], none⟩,
  ⟨some 9, .bin .xor (.tmp 8) (.const (.int .u8 255)), [], none⟩,
  ⟨some 10, .x1 0 (.tmp 5), [], none⟩,
  ⟨some 11, .fad 1 (.tmp 10), [], none⟩,
  ⟨none, .store 1 true (.tmp 11) (.tmp 9), [], none⟩]
-- function 95: (*corollary/code.pen).number
def F95r0 : List ROp := [⟨some 7, .copy false (.tmp 2), [], none⟩,
  ⟨some 8, .call (.func 118) [.tmp 7], [], none⟩,
  ⟨some 9, .bin .add (.tmp 8) (.const (.int .i64 7)), [], none⟩,
  ⟨some 10, .bin .quo (.tmp 9) (.const (.int .i64 8)), [], none⟩,
  ⟨some 6, .copy true (.tmp 10), [], none⟩]
def F95r1 : List ROp := [⟨some 11, .copy false (.tmp 0), [], none⟩,
  ⟨some 12, .copy false (.tmp 1), [], none⟩,
  ⟨some 13, .copy false (.tmp 6), [], none⟩,
  ⟨some 14, .conv .u8 (.tmp 13), [], none⟩,
  ⟨some 15, .bin .add (.tmp 12) (.tmp 14), [], none⟩,
  ⟨some 16, .bslice 5 1 [Value.int .u8 0] 1 [(0, .tmp 15)], [], none⟩,
  ⟨some 17, .call (.func 97) [.tmp 11, .tmp 16], [], none⟩]
def F95r2 : List ROp := [⟨some 18, .copy false (.tmp 6), [], none⟩,
  ⟨some 19, .bin .gtr (.tmp 18) (.const (.int .i64 0)), [], none⟩]
def F95r3 : List ROp := [⟨some 20, .copy false (.tmp 6), [], none⟩,
  ⟨some 21, .bin .sub (.tmp 20) (.const (.int .i64 1)), [], none⟩,
  ⟨some 6, .copy true (.tmp 21), [], none⟩]
def F95r4 : List ROp := [⟨some 22, .copy false (.tmp 0), [], none⟩,
  ⟨some 23, .copy false (.tmp 2), [], none⟩,
  ⟨some 24, .copy false (.tmp 6), [], none⟩,
  ⟨some 25, .bin .sub (.tmp 24) (.const (.int .i64 1)), [], none⟩,
  ⟨some 26, .bin .mul (.const (.int .i64 8)) (.tmp 25), [], none⟩,
  ⟨some 27, .bin .shr (.tmp 23) (.tmp 26), [], none⟩,
  ⟨some 28, .conv .u8 (.tmp 27), [], none⟩,
  ⟨some 29, .bslice 5 1 [Value.int .u8 0] 1 [(0, .tmp 28)], [], none⟩,
  ⟨some 30, .call (.func 97) [.tmp 22, .tmp 29], [], none⟩]
-- function 103: (*corollary/code.pen).num
def F103r0 : List ROp := [⟨some 5, .copy false (.tmp 1), [], none⟩,
  ⟨some 6, .bin .lss (.tmp 5) (.const (.int .i64 0)), [], none⟩,
  ⟨some 4, .copy true (.tmp 6), [], none⟩]
def F103r1 : List ROp := [⟨some 7, .copy false (.tmp 4), [], none⟩]
def F103r2 : List ROp := [⟨some 8, .copy false (.tmp 1), [], none⟩,
  ⟨some 9, .un .xor (.tmp 8), [], none⟩,
  ⟨some 1, .copy true (.tmp 9), [], none⟩]
def F103r3 : List ROp := [⟨some 10, .copy false (.tmp 0), [], none⟩,
  ⟨some 11, .copy false (.tmp 4), [], none⟩,
  ⟨some 12, .call (.func 122) [.tmp 10, .tmp 11], [], none⟩]
def F103r4 : List ROp := [⟨some 13, .copy false (.tmp 0), [], none⟩,
  ⟨some 14, .copy false (.tmp 1), [], none⟩,
  ⟨some 15, .conv .u64 (.tmp 14), [], none⟩,
  ⟨some 16, .call (.func 95) [.tmp 13, .const (.int .u8 128), .tmp 15], [], none⟩]
def F103r5 : List ROp := [⟨some 17, .copy false (.tmp 0), [], none⟩,
  ⟨some 18, .copy false (.tmp 4), [], none⟩,
  ⟨some 19, .call (.func 122) [.tmp 17, .tmp 18], [], none⟩]
-- function 96: (*corollary/code.pen).text
def F96r0 : List ROp := [⟨some 5, .copy false (.tmp 1), [], none⟩,
  ⟨some 6, .len 1 (.tmp 5), [], none⟩,
  ⟨some 7, .copy false (.const (.int .i64 0)), [], none⟩]
def F96r1 : List ROp := [⟨some 8, .bin .lss (.tmp 7) (.tmp 6), [], none⟩]
def F96r2 : List ROp := [⟨some 9, .copy true (.tmp 7), [], none⟩,
  ⟨some 4, .copy true (.tmp 9), [], none⟩]
def F96r3 : List ROp := [⟨some 10, .copy false (.tmp 0), [], none⟩,
  ⟨some 11, .copy false (.tmp 1), [], none⟩,
  ⟨some 12, .copy false (.tmp 4), [], none⟩,
  ⟨some 13, .idxs (.tmp 11) (.tmp 12), [], none⟩,
  ⟨some 14, .bslice 5 1 [Value.int .u8 0] 1 [(0, .tmp 13)], [], none⟩,
  ⟨some 15, .call (.func 97) [.tmp 10, .tmp 14], [], none⟩]
def F96r4 : List ROp := [⟨some 16, .copy false (.tmp 1), [], none⟩,
  ⟨some 17, .copy false (.tmp 4), [], none⟩,
  ⟨some 18, .idxs (.tmp 16) (.tmp 17), [], none⟩,
  ⟨some 19, .bin .eql (.tmp 18) (.const (.int .u8 0)), [], none⟩]
def F96r5 : List ROp := [⟨some 20, .copy false (.tmp 0), [], none⟩,
  ⟨some 21, .bslice 5 1 [Value.int .u8 0] 1 [(0, .const (.int .u8 255))], [], none⟩,
  ⟨some 22, .call (.func 97) [.tmp 20, .tmp 21], [], none⟩]
def F96r6 : List ROp := [⟨some 23, .bin .add (.tmp 7) (.const (.int .i64 1)), [], none⟩,
  ⟨some 7, .copy false (.tmp 23), [], none⟩]
def F96r7 : List ROp := [⟨some 24, .copy false (.tmp 0), [], none⟩,
  ⟨some 25, .bslice 5 1 [Value.int .u8 0] 2 [(0, .const (.int .u8 0)), (1, .const (.int .u8 0))], [], none⟩,
  ⟨some 26, .call (.func 97) [.tmp 24, .tmp 25], [], none⟩]
def HP (l : List Int) (t : Int) : List (Nat × Blk) := [(1000, penB l t)]
theorem callP {f : Nat} {g : Nat → Option Blk} {vs ts : List AV} {r : AV} {l l' : List Int} {t t' : Int} (hc : ConM Tryz.prog f (HP l t) ts r (HP l' t')) (hlt : LtL vs ts) (hg : g 1000 = some (penB l t)) (hwt : withinL [1000] ts = true) :
    ∃ H ts, CallM Tryz.prog f g [1000] vs r (HP l' t') H ts :=
  callM_same hc hlt rfl rfl (by simp [HP, hg]) (by simp [HP, penB]) (by simpa [HP] using hwt)
attribute [local simp] HP penB
theorem put_ok (l xs : List Int) (t : Int) (hl : l.length + xs.length ≤ 1099511627776) (hx : xs.length ≤ 4294967296) : ConM Tryz.prog 97 (HP l t) [.ptr 1000 0, .rd 1 (bt xs)] (.tup []) (HP (l ++ enc t xs) t) := by
  refine ConM.of_code Tryz.func97 (by kernel_rfl) rfl (by simp [Tryz.ntmps97]) (by simp [Tryz.ntmps97]) (hand_of rfl) (more_of rfl) rfl (fun C hC hρ => ?_)
  refine AWp.seq ?_
  refine AWp.regK [0, 6, 7, 8] [] F97r0 [] (by kernel_rfl) (by rw [hC]; rfl) fun K hK => ?_
  simp (maxSteps := 2000000) [F97r0]
  refine hK _ ?_
  refine AWp.block ?_
  refine AWp.loopG (fun k : Nat => { tm := [(0, .ptr 1000 0), (6, .rd 1 (bt xs)), (7, ival xs.length), (8, ival k)], hp := HP (l ++ enc t (xs.take k)) t }) (fun k => k ≤ xs.length) (fun k => xs.length - k) 0 (by omega) (by simp) (fun k hk => ?_)
  refine AWp.seq ?_
  refine AWp.regK [0, 6, 7, 8, 9] [] F97r1 [] (by kernel_rfl) (by rw [hC]; rfl) fun K hK => ?_
  simp (maxSteps := 2000000) [F97r1]
  refine hK _ ?_
  refine AWp.seq ?_
  refine AWp.cond _ (by rfl) (fun hlt => ?_) (fun hge => ?_)
  · skip
    have hlt : k < xs.length := by simpa using hlt
    refine AWp.skip ?_
    refine AWp.seq ?_
    refine AWp.block ?_
    refine AWp.seq ?_
    refine AWp.regK [0, 5, 6, 7, 8] [false, false, true] F97r2 [] (by kernel_rfl) (by rw [hC]; rfl) fun K hK => ?_
    simp (maxSteps := 2000000) [F97r2, hlt, bt]
    (repeat refine ⟨by first | omega | (intros; omega) | assumption, ?_⟩); refine hK _ ?_
    refine AWp.regKL ops_mixed [[], [], [1], [1, 2], [1, 2, 3], [], [], [6], [6, 7], [6, 7, 8], [5, 6, 7, 8, 9], [5, 6, 7, 8, 9, 10], [1, 2, 3, 4, 5, 6, 7, 8, 9, 10, 11], [0, 1, 2, 3, 4, 5, 6, 7, 8, 9, 10, 11, 12], [0, 1, 2, 3, 4, 5, 6, 7, 8, 9, 10, 11, 12, 13], [0, 1, 2, 3, 4, 5, 6, 7, 8, 9, 10, 11, 12, 13, 14]] [0, 6, 7, 8] [false, false, false, false, true, false, false, false, false, false, false, false, false, false, false, true] F97r3 [] (by kernel_rfl) (by rw [hC]; rfl) (by kernel_rfl) (by kernel_rfl) fun K hK => ?_
    simp (maxSteps := 2000000) [F97r3, hlt, bt]
    (repeat refine ⟨by first | omega | (intros; omega) | assumption, ?_⟩); first | refine hK _ ?_ | refine ⟨by kernel_rfl, hK _ ?_⟩
    refine AWp.regK [0, 6, 7, 8] [] F97r4 [] (by kernel_rfl) (by rw [hC]; rfl) fun K hK => ?_
    simp (maxSteps := 2000000) [F97r4, hlt, bt]
    (repeat refine ⟨by first | omega | (intros; omega) | assumption, ?_⟩); refine hK _ ?_
    have htk : enc t (xs.take (k + 1)) = enc t (xs.take k) ++ [trn t xs[k]] := by rw [List.take_succ_eq_append_getElem hlt, enc_app]; rfl
    refine ⟨k + 1, by omega, by omega, ?_⟩
    rw [htk]
    generalize enc t (xs.take k) = ys
    simp [wrap_nat k (by omega), bt, trn]
  have hge : ¬ k < xs.length := by simpa using hge
  refine AWp.exit ?_
  refine ⟨.inl rfl, ⟨[], rfl, .refl⟩, rfl, ?_⟩
  rw [List.take_of_length_le (show xs.length ≤ k by omega)]
  simp
def flipT (t : Int) (b : Bool) : Int := if b = true then xorI .u8 t 255 else t
theorem flip_ok (l : List Int) (t : Int) (b : Bool) : ConM Tryz.prog 122 (HP l t) [.ptr 1000 0, bval b] (.tup []) (HP l (flipT t b)) := by
  refine ConM.of_code Tryz.func122 (by kernel_rfl) rfl (by simp [Tryz.ntmps122]) (by simp [Tryz.ntmps122]) (hand_of rfl) (more_of rfl) rfl (fun C hC hρ => ?_)
  refine AWp.seq ?_
  refine AWp.regK [0, 4] [] F122r0 [] (by kernel_rfl) (by rw [hC]; rfl) fun K hK => ?_
  simp (maxSteps := 2000000) [F122r0]
  refine hK _ ?_
  refine AWp.cond _ (by rfl) (fun h => ?_) (fun h => ?_)
  · skip
    refine AWp.regK [] [false, false, false, false, false, false, false, true] F122r1 [] (by kernel_rfl) (by rw [hC]; rfl) fun K hK => ?_
    simp (maxSteps := 2000000) [F122r1]
    refine hK _ ?_
    refine ⟨.inl rfl, ⟨[], rfl, .refl⟩, rfl, ?_⟩
    simp [flipT, h]
  refine AWp.skip ?_
  refine ⟨.inl rfl, ⟨[], rfl, .refl⟩, rfl, ?_⟩
  simp [flipT, h]
theorem Len64_ok (u : Nat) (h : u < 18446744073709551616) : Con Tryz.prog 118 [.val (.int .u64 u)] (ival (Lib.bitLen u)) := by
  have := Con.lib (P := Tryz.prog) (f := 118) [.int .u64 u] (.int .i64 (Lib.bitLen (u : Int).toNat)) ⟨_, Tryz.func118, by kernel_rfl, rfl⟩ fun w => (Tryz.bits_Len64 u w (by omega) (by omega)).mono (by rintro e w' ⟨rfl, rfl⟩; exact ⟨rfl, Ext.refl _⟩)
  simpa using this
theorem nb_wrap (u : Nat) (h : u < 18446744073709551616) : IntKind.i64.wrap ((IntKind.i64.wrap ((Lib.bitLen u : Int) + 7)).tdiv 8) = (nb u : Int) := by
  have := Lib.bitLen_le u 64 (Nat.le_refl _) (by simpa using h)
  rw [wrap_in (n := (Lib.bitLen u : Int) + 7) (by omega) (by omega), Int.tdiv_eq_ediv_of_nonneg (by omega)]
  have e : ((Lib.bitLen u : Int) + 7) / 8 = (nb u : Int) := by unfold nb; omega
  have := nb_le u h
  rw [e, wrap_in (by omega) (by omega)]
theorem byte_wrap (u j : Nat) (hj : j < 8) : IntKind.u8.wrap (shrI .u64 u (8 * (j : Int))) = ((u / 256 ^ j % 256 : Nat) : Int) := by
  rw [IntKind.wrap_u8, shrI]
  have e : min (8 * (j : Int)).toNat IntKind.u64.bits = 8 * j := by
    have : IntKind.u64.bits = 64 := rfl
    rw [this]; omega
  have e2 : (2 : Int) ^ (8 * j) = ((256 ^ j : Nat) : Int) := by rw [show (256 : Nat) = 2 ^ 8 from rfl, ← Nat.pow_mul]; push_cast; rfl
  rw [e, e2]
  omega
theorem number_ok' (l : List Int) (t first : Int) (u : Nat) (h0 : 0 ≤ first) (h1 : first ≤ 128) (h : u < 18446744073709551616) (hl : l.length ≤ 549755813888) :
    ConM Tryz.prog 95 (HP l t) [.ptr 1000 0, uval first, .val (.int .u64 u)] (.tup []) (HP (l ++ enc t (numE first u)) t) := by
  have hL := Len64_ok u h
  have hnb := nb_le u h
  have hw := nb_wrap u h
  have hu8 : IntKind.u8.wrap (first + IntKind.u8.wrap (nb u)) = first + nb u := by rw [IntKind.wrap_u8, IntKind.wrap_u8]; omega
  refine ConM.of_code Tryz.func95 (by kernel_rfl) rfl (by simp [Tryz.ntmps95]) (by simp [Tryz.ntmps95]) (hand_of rfl) (more_of rfl) rfl (fun C hC hρ => ?_)
  refine AWp.seq ?_
  refine AWp.regK [0, 1, 2, 6] [false, false, false, false, true] F95r0 [{ r := ival (Lib.bitLen u) }] (by kernel_rfl) (by rw [hC]; rfl) fun K hK => ?_
  simp (maxSteps := 2000000) [F95r0, hw]
  (repeat first | refine ⟨by first | (show freeP _ _ _ = true; kernel_rfl) | omega | (intros; omega) | assumption, ?_⟩ | refine ⟨by intros; exact callOK rfl hL, ?_⟩); refine hK _ ?_
  have hp0 := put_ok l [first + nb u] t (by simp; omega) (by simp)
  refine AWp.seq ?_
  refine AWp.regK [0, 2, 6] [] F95r1 [{ r := .tup [], us := [1000], bs := HP (l ++ enc t [first + nb u]) t }] (by kernel_rfl) (by rw [hC]; rfl) fun K hK => ?_
  simp (maxSteps := 2000000) [F95r1, hu8]
  (repeat first | refine ⟨by first | (show freeP _ _ _ = true; kernel_rfl) | omega | (intros; omega) | assumption, ?_⟩ | refine ⟨by intros; exact callP hp0 (.cons .refl (.cons .own .nil)) rfl rfl, ?_⟩); refine hK _ ?_
  refine AWp.block ?_
  refine AWp.loopG (fun x : Nat × List Int => { tm := [(0, .ptr 1000 0), (2, .val (.int .u64 u)), (6, ival x.1)], hp := HP x.2 t }) (fun x => x.1 ≤ nb u ∧ x.2 ++ enc t (digs u x.1) = l ++ enc t (numE first u)) (fun x => x.1) (nb u, l ++ enc t [first + nb u]) ⟨Nat.le_refl _, by simp [numE, digits, enc]⟩ (by simp) (fun x hk => ?_)
  obtain ⟨j, cur⟩ := x
  obtain ⟨hk1, hk2⟩ := hk
  simp only at hk1 hk2
  have hcl : cur.length ≤ l.length + 9 := by
    have h2 := congrArg List.length hk2
    have h3 := numE_len first u h
    simp only [List.length_append, enc_len] at h2
    omega
  refine AWp.seq ?_
  refine AWp.seq ?_
  refine AWp.regK [0, 2, 6, 19] [] F95r2 [] (by kernel_rfl) (by rw [hC]; rfl) fun K hK => ?_
  simp (maxSteps := 2000000) [F95r2]
  refine hK _ ?_
  refine AWp.cond _ (by rfl) (fun hlt => ?_) (fun hge => ?_)
  · skip
    cases j with
    | zero => simp at hlt
    | succ j =>
      have hb := byte_wrap u j (by omega)
      have hw8 : IntKind.i64.wrap (8 * IntKind.i64.wrap (j : Int)) = 8 * (j : Int) := by rw [wrap_in (n := (j : Int)) (by omega) (by omega), wrap_in (by omega) (by omega)]
      have hd := digs_head j u
      generalize ((u / 256 ^ j % 256 : Nat) : Int) = d at *
      have hp := put_ok cur [d] t (by simp; omega) (by simp)
      refine AWp.skip ?_
      refine AWp.seq ?_
      refine AWp.block ?_
      refine AWp.regK [0, 2, 6] [] F95r4 [{ r := .tup [], us := [1000], bs := HP (cur ++ enc t [d]) t }] (by kernel_rfl) (by rw [hC]; rfl) fun K hK => ?_
      simp (maxSteps := 2000000) [F95r4, hw8, hb]
      (repeat first | refine ⟨by first | (show freeP _ _ _ = true; kernel_rfl) | omega | (intros; omega) | assumption, ?_⟩ | refine ⟨by intros; exact callP hp (.cons .refl (.cons .own .nil)) rfl rfl, ?_⟩); refine hK _ ?_
      refine AWp.regK [0, 2, 6] [false, false, true] F95r3 [] (by kernel_rfl) (by rw [hC]; rfl) fun K hK => ?_
      simp (maxSteps := 2000000) [F95r3]
      refine hK _ ?_
      refine ⟨(j, cur ++ enc t [d]), ⟨by simp; omega, ?_⟩, by simp, ?_⟩
      · rw [← hk2, hd]; simp [enc]
      · simp
        exact wrap_in (by omega) (by omega)
  have hge : j = 0 := by simp at hge; omega
  subst hge
  refine AWp.exit ?_
  refine ⟨.inl rfl, ⟨[], rfl, .refl⟩, rfl, ?_⟩
  simp only [digs, enc_nil, List.append_nil] at hk2
  rw [← hk2]
  simp
theorem compl_i64 (n : Int) (h0 : -9223372036854775808 ≤ n) (h1 : n ≤ 9223372036854775807) : complI .i64 n = -n - 1 := by
  show IntKind.i64.wrap ((BitVec.ofInt 64 (-1) ^^^ BitVec.ofInt 64 n).toNat : Nat) = _
  have h : BitVec.ofInt 64 (-1) = BitVec.allOnes 64 := by decide
  rw [h, BitVec.allOnes_xor, BitVec.toNat_not, BitVec.toNat_ofInt, IntKind.wrap_i64]
  omega
theorem num_ok (l : List Int) (n : Int) (h0 : -9223372036854775808 ≤ n) (h1 : n ≤ 9223372036854775807) (hl : l.length ≤ 549755813888) :
    ConM Tryz.prog 103 (HP l 0) [.ptr 1000 0, ival n] (.tup []) (HP (l ++ numI n) 0) := by
  have hx1 : xorI .u8 0 255 = 255 := by decide
  have hx2 : xorI .u8 255 255 = 0 := by decide
  have hc := compl_i64 n h0 h1
  refine ConM.of_code Tryz.func103 (by kernel_rfl) rfl (by simp [Tryz.ntmps103]) (by simp [Tryz.ntmps103]) (hand_of rfl) (more_of rfl) rfl (fun C hC hρ => ?_)
  refine AWp.seq ?_
  refine AWp.regK [0, 1, 4] [false, false, true] F103r0 [] (by kernel_rfl) (by rw [hC]; rfl) fun K hK => ?_
  simp (maxSteps := 2000000) [F103r0]
  refine hK _ ?_
  refine AWp.seq ?_
  refine AWp.seq ?_
  refine AWp.regK [0, 1, 4, 7] [] F103r1 [] (by kernel_rfl) (by rw [hC]; rfl) fun K hK => ?_
  simp (maxSteps := 2000000) [F103r1]
  refine hK _ ?_
  by_cases hn : n < 0
  · obtain ⟨u, hu0⟩ : ∃ u : Nat, (u : Int) = -n - 1 := ⟨(-n - 1).toNat, by omega⟩
    have hf1 := flip_ok l 0 true
    have hn1 := number_ok' l 255 128 u (by omega) (by omega) (by omega) hl
    have hf2 := flip_ok (l ++ enc 255 (numE 128 u)) 255 true
    simp only [flipT, hx1, hx2, if_true] at hf1 hf2
    have hu : IntKind.u64.wrap (-n - 1) = (u : Int) := by rw [IntKind.wrap_u64]; omega
    have hfin : l ++ enc 255 (numE 128 u) = l ++ numI n := by rw [numI, if_pos hn, enc_255 (numE_areB (by omega) (by omega) (by omega)), show (-n - 1).toNat = u by omega]
    refine AWp.cond true (by simp [hn]) (fun _ => ?_) (fun he => by cases he)
    refine AWp.regK [0, 1, 4] [false, false, true] F103r2 [] (by kernel_rfl) (by rw [hC]; rfl) fun K hK => ?_
    simp (maxSteps := 2000000) [F103r2, hc]
    refine hK _ ?_
    refine AWp.seq ?_
    refine AWp.regK [0, 1, 4] [] F103r3 [{ r := .tup [], us := [1000], bs := HP l 255 }] (by kernel_rfl) (by rw [hC]; rfl) fun K hK => ?_
    simp (maxSteps := 2000000) [F103r3, hn]
    (repeat first | refine ⟨by first | (show freeP _ _ _ = true; kernel_rfl) | omega | (intros; omega) | assumption, ?_⟩ | refine ⟨by intros; exact callP hf1 (.cons .refl (.cons .refl .nil)) rfl rfl, ?_⟩); refine hK _ ?_
    refine AWp.seq ?_
    refine AWp.regK [0, 4] [] F103r4 [{ r := .tup [], us := [1000], bs := HP (l ++ enc 255 (numE 128 u)) 255 }] (by kernel_rfl) (by rw [hC]; rfl) fun K hK => ?_
    simp (maxSteps := 2000000) [F103r4, hu, hn]
    (repeat first | refine ⟨by first | (show freeP _ _ _ = true; kernel_rfl) | omega | (intros; omega) | assumption, ?_⟩ | refine ⟨by intros; exact callP hn1 (.cons .refl (.cons .refl (.cons .refl .nil))) rfl rfl, ?_⟩); refine hK _ ?_
    refine AWp.regK [] [] F103r5 [{ r := .tup [], us := [1000], bs := HP (l ++ enc 255 (numE 128 u)) 0 }] (by kernel_rfl) (by rw [hC]; rfl) fun K hK => ?_
    simp (maxSteps := 2000000) [F103r5, hn]
    (repeat first | refine ⟨by first | (show freeP _ _ _ = true; kernel_rfl) | omega | (intros; omega) | assumption, ?_⟩ | refine ⟨by intros; exact callP hf2 (.cons .refl (.cons .refl .nil)) rfl rfl, ?_⟩); refine hK _ ?_
    refine ⟨.inl rfl, ⟨[], rfl, .refl⟩, rfl, ?_⟩
    rw [hfin]
    simp
  · obtain ⟨u, hu0⟩ : ∃ u : Nat, (u : Int) = n := ⟨n.toNat, by omega⟩
    have hf1 := flip_ok l 0 false
    have hn1 := number_ok' l 0 128 u (by omega) (by omega) (by omega) hl
    have hf2 := flip_ok (l ++ enc 0 (numE 128 u)) 0 false
    simp only [flipT, Bool.false_eq_true, if_false] at hf1 hf2
    have hu : IntKind.u64.wrap n = (u : Int) := by rw [IntKind.wrap_u64]; omega
    have hfin : l ++ enc 0 (numE 128 u) = l ++ numI n := by rw [numI, if_neg hn, enc_0 (numE_areB (by omega) (by omega) (by omega)), show n.toNat = u by omega]
    refine AWp.cond false (by simp [hn]) (fun he => by cases he) (fun _ => ?_)
    refine AWp.skip ?_
    refine AWp.seq ?_
    refine AWp.regK [0, 1, 4] [] F103r3 [{ r := .tup [], us := [1000], bs := HP l 0 }] (by kernel_rfl) (by rw [hC]; rfl) fun K hK => ?_
    simp (maxSteps := 2000000) [F103r3, hn]
    (repeat first | refine ⟨by first | (show freeP _ _ _ = true; kernel_rfl) | omega | (intros; omega) | assumption, ?_⟩ | refine ⟨by intros; exact callP hf1 (.cons .refl (.cons .refl .nil)) rfl rfl, ?_⟩); refine hK _ ?_
    refine AWp.seq ?_
    refine AWp.regK [0, 4] [] F103r4 [{ r := .tup [], us := [1000], bs := HP (l ++ enc 0 (numE 128 u)) 0 }] (by kernel_rfl) (by rw [hC]; rfl) fun K hK => ?_
    simp (maxSteps := 2000000) [F103r4, hu, hn]
    (repeat first | refine ⟨by first | (show freeP _ _ _ = true; kernel_rfl) | omega | (intros; omega) | assumption, ?_⟩ | refine ⟨by intros; exact callP hn1 (.cons .refl (.cons .refl (.cons .refl .nil))) rfl rfl, ?_⟩); refine hK _ ?_
    refine AWp.regK [] [] F103r5 [{ r := .tup [], us := [1000], bs := HP (l ++ enc 0 (numE 128 u)) 0 }] (by kernel_rfl) (by rw [hC]; rfl) fun K hK => ?_
    simp (maxSteps := 2000000) [F103r5, hn]
    (repeat first | refine ⟨by first | (show freeP _ _ _ = true; kernel_rfl) | omega | (intros; omega) | assumption, ?_⟩ | refine ⟨by intros; exact callP hf2 (.cons .refl (.cons .refl .nil)) rfl rfl, ?_⟩); refine hK _ ?_
    refine ⟨.inl rfl, ⟨[], rfl, .refl⟩, rfl, ?_⟩
    rw [hfin]
    simp
theorem text_ok (l : List Int) (s : ByteArray) (hs : s.size ≤ 4194304) (hl : l.length ≤ 549755813888) :
    ConM Tryz.prog 96 (HP l 0) [.ptr 1000 0, sval s] (.tup []) (HP (l ++ txtE s) 0) := by
  refine ConM.of_code Tryz.func96 (by kernel_rfl) rfl (by simp [Tryz.ntmps96]) (by simp [Tryz.ntmps96]) (hand_of rfl) (more_of rfl) rfl (fun C hC hρ => ?_)
  refine AWp.seq ?_
  refine AWp.seq ?_
  refine AWp.regK [0, 1, 6, 7] [] F96r0 [] (by kernel_rfl) (by rw [hC]; rfl) fun K hK => ?_
  simp (maxSteps := 2000000) [F96r0]
  refine hK _ ?_
  refine AWp.block ?_
  refine AWp.loopG (fun k : Nat => { tm := [(0, .ptr 1000 0), (1, sval s), (6, ival s.size), (7, ival k)], hp := HP (l ++ escL ((byL s).take k)) 0 }) (fun k => k ≤ s.size) (fun k => s.size - k) 0 (by omega) (by simp [escL]) (fun k hk => ?_)
  have hel : (escL ((byL s).take k)).length ≤ 2 * s.size := by
    have := escL_len ((byL s).take k)
    rw [List.length_take, byL_len] at this; omega
  refine AWp.seq ?_
  refine AWp.regK [0, 1, 6, 7, 8] [] F96r1 [] (by kernel_rfl) (by rw [hC]; rfl) fun K hK => ?_
  simp (maxSteps := 2000000) [F96r1]
  refine hK _ ?_
  refine AWp.seq ?_
  refine AWp.cond _ (by rfl) (fun hlt => ?_) (fun hge => ?_)
  · skip
    have hlt : k < s.size := by simpa using hlt
    have hr := chr_range s k
    have htk := byL_take s k hlt
    have he1 : enc 0 [chr s k] = [chr s k] := enc_0 (areB_cons hr areB_nil)
    have he2 : enc 0 [255] = [255] := enc_0 (areB_cons (by unfold isB; omega) areB_nil)
    have hst : l ++ escL ((byL s).take (k + 1)) = l ++ escL ((byL s).take k) ++ esc1 (chr s k) := by rw [htk, escL_app]; simp [escL]
    have hcl : (l ++ escL ((byL s).take k)).length ≤ l.length + 2 * s.size := by simp; omega
    generalize l ++ escL ((byL s).take k) = cur at *
    have hp := put_ok cur [chr s k] 0 (by simp; omega) (by simp)
    have hp2 := put_ok (cur ++ [chr s k]) [255] 0 (by simp; omega) (by simp)
    rw [he1] at hp
    rw [he2, List.append_assoc] at hp2
    refine AWp.skip ?_
    refine AWp.seq ?_
    refine AWp.block ?_
    refine AWp.seq ?_
    refine AWp.regK [0, 1, 4, 6, 7] [true, true] F96r2 [] (by kernel_rfl) (by rw [hC]; rfl) fun K hK => ?_
    simp (maxSteps := 2000000) [F96r2, hlt]
    refine hK _ ?_
    refine AWp.seq ?_
    refine AWp.regK [0, 1, 4, 6, 7] [] F96r3 [{ r := .tup [], us := [1000], bs := HP (cur ++ [chr s k]) 0 }] (by kernel_rfl) (by rw [hC]; rfl) fun K hK => ?_
    simp (maxSteps := 2000000) [F96r3, hlt]
    (repeat first | refine ⟨by first | (show freeP _ _ _ = true; kernel_rfl) | omega | (intros; omega) | assumption, ?_⟩ | refine ⟨by intros; exact callP hp (.cons .refl (.cons .own .nil)) rfl rfl, ?_⟩); refine hK _ ?_
    refine AWp.seq ?_
    refine AWp.regK [0, 1, 6, 7, 19] [] F96r4 [] (by kernel_rfl) (by rw [hC]; rfl) fun K hK => ?_
    simp (maxSteps := 2000000) [F96r4, hlt]
    (repeat refine ⟨by first | omega | (intros; omega) | (intros; exact sz_pos (by assumption)) | assumption, ?_⟩); refine hK _ ?_
    refine AWp.cond _ (by rfl) (fun h0 => ?_) (fun h0 => ?_)
    · skip
      have h0 : chr s k = 0 := by simpa using h0
      refine AWp.regK [0, 1, 6, 7] [] F96r5 [{ r := .tup [], us := [1000], bs := HP (cur ++ [chr s k, 255]) 0 }] (by kernel_rfl) (by rw [hC]; rfl) fun K hK => ?_
      simp (maxSteps := 2000000) [F96r5]
      (repeat first | refine ⟨by first | (show freeP _ _ _ = true; kernel_rfl) | omega | (intros; omega) | assumption, ?_⟩ | refine ⟨by intros; exact callP hp2 (.cons .refl (.cons .own .nil)) rfl rfl, ?_⟩); refine hK _ ?_
      refine AWp.regK [0, 1, 6, 7] [] F96r6 [] (by kernel_rfl) (by rw [hC]; rfl) fun K hK => ?_
      simp (maxSteps := 2000000) [F96r6]
      (repeat refine ⟨by first | omega | (intros; omega) | assumption, ?_⟩); refine hK _ ?_
      refine ⟨k + 1, by omega, by omega, ?_⟩
      rw [hst]
      simp [wrap_nat k (by omega), esc1, h0]
    have h0 : ¬ chr s k = 0 := by simpa using h0
    refine AWp.skip ?_
    refine AWp.regK [0, 1, 6, 7] [] F96r6 [] (by kernel_rfl) (by rw [hC]; rfl) fun K hK => ?_
    simp (maxSteps := 2000000) [F96r6]
    (repeat refine ⟨by first | omega | (intros; omega) | assumption, ?_⟩); refine hK _ ?_
    refine ⟨k + 1, by omega, by omega, ?_⟩
    rw [hst]
    simp [wrap_nat k (by omega), esc1, h0]
  have hge : ¬ k < s.size := by simpa using hge
  refine AWp.exit ?_
  have he : enc 0 [0, 0] = [0, 0] := enc_0 (areB_cons (by unfold isB; omega) (areB_cons (by unfold isB; omega) areB_nil))
  have hp := put_ok (l ++ escL ((byL s).take k)) [0, 0] 0 (by simp; omega) (by simp)
  rw [he, List.take_of_length_le (by rw [byL_len]; omega), List.append_assoc] at hp
  rw [List.take_of_length_le (by rw [byL_len]; omega)]
  refine AWp.regK [] [] F96r7 [{ r := .tup [], us := [1000], bs := HP (l ++ (escL (byL s) ++ [0, 0])) 0 }] (by kernel_rfl) (by rw [hC]; rfl) fun K hK => ?_
  simp (maxSteps := 2000000) [F96r7]
  (repeat first | refine ⟨by first | (show freeP _ _ _ = true; kernel_rfl) | omega | (intros; omega) | assumption, ?_⟩ | refine ⟨by intros; exact callP hp (.cons .refl (.cons .own .nil)) rfl rfl, ?_⟩); refine hK _ ?_
  refine ⟨.inl rfl, ⟨[], rfl, .refl⟩, rfl, ?_⟩
  simp [txtE]
end Go.Se
