/- SafeAny: any order of the literals. -/
import Derived.Test.YtempphkfacccoaaSlG
import Derived.Test.YtempphkfacccoaaSlSpH
set_option linter.unusedSimpArgs false
set_option linter.unusedVariables false
open Go Go.Aw Go.Proofs
namespace Go.Sl
-- function 3: corollary/corollarylaw14.SafeAny: 101 slots; results ['(Go.ResultVar.tmp 4)']
def F3r0 : List ROp := [{ dst := some 4, op := .copy true (.const (.bool false)), after := [], guard := none }]
def F3r1 : List ROp := [{ dst := some 18, op := .copy false (.tmp 0), after := [], guard := none },
  { dst := some 19, op := .call (.func 8) [.tmp 18], after := [0], guard := none },
  { dst := some 20, op := .copy false (.tmp 19), after := [1, 1], guard := none },
  { dst := some 21, op := .call (.func 9) [], after := [2, 2], guard := some (20, false) },
  { dst := some 22, op := .un .not (.tmp 21), after := [3, 2], guard := some (20, false) },
  { dst := some 23, op := .pick (.tmp 20) (.const (.bool true)) (.tmp 22), after := [2, 4], guard := none }]
def F3r2 : List ROp := [{ dst := some 24, op := .call (.func 9) [], after := [], guard := none },
  { dst := some 4, op := .copy true (.tmp 24), after := [0, 0, 0], guard := none }]
def F3r3 : List ROp := [{ dst := some 5, op := .copy true (.const (.slice none 0 0)), after := [], guard := none }]
def F3r4 : List ROp := [{ dst := some 25, op := .bslice 31 5 [Value.int .u8 0, Value.int .i64 0, Value.int .i64 0, Value.string ByteArray.empty, Value.slice none 0 0] 0 [], after := [], guard := none },
  { dst := some 26, op := .copy false (.tmp 0), after := [], guard := none },
  { dst := some 27, op := .app 31 5 64 (.tmp 25) (.tmp 26), after := [0, 1], guard := none },
  { dst := some 6, op := .copy true (.tmp 27), after := [2, 2, 0, 1, 2], guard := none }]
def F3r5 : List ROp := [{ dst := some 7, op := .copy true (.const (.int .i64 0)), after := [], guard := none }]
def F3r6 : List ROp := [{ dst := some 28, op := .copy false (.tmp 6), after := [], guard := none },
  { dst := some 29, op := .len 0 (.tmp 28), after := [0], guard := none },
  { dst := some 30, op := .bin .gtr (.tmp 29) (.const (.int .i64 0)), after := [1], guard := none }]
def F3r7 : List ROp := [{ dst := some 31, op := .copy false (.tmp 7), after := [], guard := none },
  { dst := some 32, op := .bin .add (.tmp 31) (.const (.int .i64 1)), after := [0], guard := none },
  { dst := some 7, op := .copy true (.tmp 32), after := [1, 0, 1], guard := none }]
def F3r8 : List ROp := [{ dst := some 8, op := .copy true (.const (.int .i64 0)), after := [], guard := none }]
def F3r9 : List ROp := [{ dst := some 33, op := .copy false (.tmp 7), after := [], guard := none },
  { dst := some 34, op := .copy false (.tmp 1), after := [], guard := none },
  { dst := some 35, op := .len 0 (.tmp 34), after := [1], guard := none },
  { dst := some 36, op := .bin .lss (.tmp 33) (.tmp 35), after := [0, 2], guard := none }]
def F3r10 : List ROp := [{ dst := some 37, op := .copy false (.tmp 1), after := [], guard := none },
  { dst := some 38, op := .copy false (.tmp 7), after := [], guard := none },
  { dst := some 39, op := .iad 1 (.tmp 37) (.tmp 38), after := [0, 1], guard := none },
  { dst := some 40, op := .load 1 false false (.tmp 39), after := [2], guard := none },
  { dst := some 41, op := .conv .u64 (.tmp 40), after := [3], guard := none },
  { dst := some 42, op := .copy false (.tmp 6), after := [], guard := none },
  { dst := some 43, op := .len 0 (.tmp 42), after := [5], guard := none },
  { dst := some 44, op := .conv .u64 (.tmp 43), after := [6], guard := none },
  { dst := some 45, op := .bin .rem (.tmp 41) (.tmp 44), after := [4, 7], guard := none },
  { dst := some 46, op := .conv .i64 (.tmp 45), after := [8], guard := none },
  { dst := some 8, op := .copy true (.tmp 46), after := [9, 0, 1, 2, 3, 4, 5, 6, 7, 8, 9], guard := none }]
def F3r11 : List ROp := [{ dst := some 47, op := .copy true (.tmp 5), after := [], guard := none },
  { dst := some 48, op := .copy false (.tmp 6), after := [], guard := none },
  { dst := some 49, op := .copy false (.tmp 8), after := [], guard := none },
  { dst := some 50, op := .iad 5 (.tmp 48) (.tmp 49), after := [1, 2], guard := none },
  { dst := some 51, op := .load 5 true false (.tmp 50), after := [3], guard := none },
  { dst := some 52, op := .bslice 31 5 [Value.int .u8 0, Value.int .i64 0, Value.int .i64 0, Value.string ByteArray.empty, Value.slice none 0 0] 1 [(0, .tmp 51)], after := [4], guard := none },
  { dst := some 53, op := .app 31 5 64 (.tmp 47) (.tmp 52), after := [0, 5], guard := none },
  { dst := some 5, op := .copy true (.tmp 53), after := [6, 6, 0, 1, 2, 3, 4, 5, 6], guard := none }]
def F3r12 : List ROp := [{ dst := some 54, op := .bslice 31 5 [Value.int .u8 0, Value.int .i64 0, Value.int .i64 0, Value.string ByteArray.empty, Value.slice none 0 0] 0 [], after := [], guard := none },
  { dst := some 55, op := .copy false (.tmp 6), after := [], guard := none },
  { dst := some 56, op := .copy false (.tmp 8), after := [], guard := none },
  { dst := some 57, op := .sub 5 (.tmp 55) none (some (.tmp 56)) none, after := [1, 2], guard := none },
  { dst := some 58, op := .app 31 5 64 (.tmp 54) (.tmp 57), after := [0, 3], guard := none },
  { dst := some 59, op := .copy false (.tmp 6), after := [], guard := none },
  { dst := some 60, op := .copy false (.tmp 8), after := [], guard := none },
  { dst := some 61, op := .bin .add (.tmp 60) (.const (.int .i64 1)), after := [6], guard := none },
  { dst := some 62, op := .sub 5 (.tmp 59) (some (.tmp 61)) none none, after := [5, 7], guard := none },
  { dst := some 63, op := .app 31 5 64 (.tmp 58) (.tmp 62), after := [4, 8, 4], guard := none },
  { dst := some 6, op := .copy true (.tmp 63), after := [9, 9, 0, 1, 2, 3, 4, 5, 6, 7, 8, 9], guard := none }]
def F3r13 : List ROp := [{ dst := some 65, op := .copy false (.tmp 0), after := [], guard := none },
  { dst := some 66, op := .call (.func 10) [.tmp 65], after := [0], guard := none },
  { dst := some 64, op := .copy false (.tmp 66), after := [1], guard := none },
  { dst := some 67, op := .ext (.tmp 64) 0, after := [2], guard := none },
  { dst := some 68, op := .ext (.tmp 64) 1, after := [2], guard := none },
  { dst := some 69, op := .ext (.tmp 64) 2, after := [2], guard := none },
  { dst := some 70, op := .ext (.tmp 64) 3, after := [2], guard := none },
  { dst := some 11, op := .alloc 28 [Value.int .i64 0, Value.int .i64 0], after := [], guard := none },
  { dst := some 9, op := .copy true (.tmp 67), after := [3, 1, 0, 1, 2, 3, 7], guard := none },
  { dst := some 10, op := .copy true (.tmp 68), after := [4, 8, 0, 1, 2, 3, 4, 7, 8], guard := none },
  { dst := none, op := .store 2 true (.tmp 11) (.tmp 69), after := [7, 5, 9, 0, 1, 2, 3, 4, 5, 7, 8, 9], guard := none },
  { dst := some 12, op := .copy true (.tmp 70), after := [6, 10, 0, 1, 2, 3, 4, 5, 6, 7, 8, 9, 10], guard := none }]
def F3r14 : List ROp := [{ dst := some 72, op := .copy false (.tmp 5), after := [], guard := none },
  { dst := some 73, op := .call (.func 10) [.tmp 72], after := [0], guard := none },
  { dst := some 71, op := .copy false (.tmp 73), after := [1], guard := none },
  { dst := some 74, op := .ext (.tmp 71) 0, after := [2], guard := none },
  { dst := some 75, op := .ext (.tmp 71) 1, after := [2], guard := none },
  { dst := some 76, op := .ext (.tmp 71) 2, after := [2], guard := none },
  { dst := some 77, op := .ext (.tmp 71) 3, after := [2], guard := none },
  { dst := some 15, op := .alloc 28 [Value.int .i64 0, Value.int .i64 0], after := [], guard := none },
  { dst := some 13, op := .copy true (.tmp 74), after := [3, 1, 0, 1, 2, 3, 7], guard := none },
  { dst := some 14, op := .copy true (.tmp 75), after := [4, 8, 0, 1, 2, 3, 4, 7, 8], guard := none },
  { dst := none, op := .store 2 true (.tmp 15) (.tmp 76), after := [7, 5, 9, 0, 1, 2, 3, 4, 5, 7, 8, 9], guard := none },
  { dst := some 16, op := .copy true (.tmp 77), after := [6, 10, 0, 1, 2, 3, 4, 5, 6, 7, 8, 9, 10], guard := none }]
def F3r15 : List ROp := [{ dst := some 78, op := .copy false (.tmp 12), after := [], guard := none },
  { dst := some 79, op := .copy false (.tmp 16), after := [], guard := none },
  { dst := some 80, op := .bin .neq (.tmp 78) (.tmp 79), after := [0, 1], guard := none },
  { dst := some 81, op := .copy false (.tmp 80), after := [2], guard := none },
  { dst := some 82, op := .copy false (.tmp 10), after := [3], guard := some (81, false) },
  { dst := some 83, op := .len 0 (.tmp 82), after := [4, 3], guard := some (81, false) },
  { dst := some 84, op := .copy false (.tmp 14), after := [3], guard := some (81, false) },
  { dst := some 85, op := .len 0 (.tmp 84), after := [6, 3], guard := some (81, false) },
  { dst := some 86, op := .bin .neq (.tmp 83) (.tmp 85), after := [5, 7, 3], guard := some (81, false) },
  { dst := some 87, op := .pick (.tmp 81) (.const (.bool true)) (.tmp 86), after := [3, 8], guard := none }]
def F3r16 : List ROp := [{ dst := some 4, op := .copy true (.const (.bool false)), after := [], guard := none }]
def F3r17 : List ROp := [{ dst := some 17, op := .copy true (.const (.int .i64 0)), after := [], guard := none }]
def F3r18 : List ROp := [{ dst := some 88, op := .copy false (.tmp 17), after := [], guard := none },
  { dst := some 89, op := .copy false (.tmp 10), after := [], guard := none },
  { dst := some 90, op := .len 0 (.tmp 89), after := [1], guard := none },
  { dst := some 91, op := .bin .lss (.tmp 88) (.tmp 90), after := [0, 2], guard := none }]
def F3r19 : List ROp := [{ dst := some 92, op := .copy false (.tmp 17), after := [], guard := none },
  { dst := some 93, op := .bin .add (.tmp 92) (.const (.int .i64 1)), after := [0], guard := none },
  { dst := some 17, op := .copy true (.tmp 93), after := [1, 0, 1], guard := none }]
def F3r20 : List ROp := [{ dst := some 94, op := .copy false (.tmp 14), after := [], guard := none },
  { dst := some 95, op := .copy false (.tmp 10), after := [], guard := none },
  { dst := some 96, op := .copy false (.tmp 17), after := [], guard := none },
  { dst := some 97, op := .iad 1 (.tmp 95) (.tmp 96), after := [1, 2], guard := none },
  { dst := some 98, op := .load 1 false false (.tmp 97), after := [3], guard := none },
  { dst := some 99, op := .call (.func 11) [.tmp 94, .tmp 98], after := [0, 4], guard := none },
  { dst := some 100, op := .un .not (.tmp 99), after := [5], guard := none }]
def F3r21 : List ROp := [{ dst := some 4, op := .copy true (.const (.bool false)), after := [], guard := none }]
def F3r22 : List ROp := [{ dst := some 4, op := .copy true (.const (.bool true)), after := [], guard := none }]
def stAny (l : List LitD) (picks : AV) (p : Nat × List LitD × List LitD) : AS :=
  { tm := [(0, .rd 5 (l.map encL)), (1, picks), (5, .own 31 5 (p.2.1.map encL)), (6, .own 31 5 (p.2.2.map encL)), (7, ival p.1)], hp := [] }
def encPicks (l : List Int) : AV := .rd 1 (l.map fun n => [ival n])
@[simp] theorem picks_within (ids : List Nat) (l : List Int) : within ids (encPicks l) = true := rfl
theorem any_ok (l : List LitD) (picks : List Int) (hl : l.length ≤ 4194304) (hs : ∀ x ∈ l, sizes x.args ≤ 4194304) (hp : picks.length ≤ 4194304) : Con Try.prog 3 [.rd 5 (l.map encL), encPicks picks] (bval true) := by
  have hh := heavy_ok l hl hs
  refine Con.of_code Try.func3 (by kernel_rfl) rfl (by simp [Try.ntmps3]) fun C hC hM => ?_
  refine AWp.seq ?_
  refine AWp.reg [true] F3r0 [] (by kernel_rfl) (by rw [hC]; rfl) fun K hK => ?_
  simp [F3r0, encPicks]
  first | refine hK _ ?_ | refine ⟨by omega, hK _ ?_⟩ | refine ⟨by omega, by omega, hK _ ?_⟩ | refine ⟨by omega, by omega, by omega, hK _ ?_⟩ | refine ⟨by omega, by omega, by omega, by omega, hK _ ?_⟩
  refine AWp.seq ?_
  refine AWp.seq ?_
  cases hv : heavyE l with
  | true =>
    rw [hv] at hh
    refine AWp.reg [] F3r1 [{ r := bval true }] (by kernel_rfl) (by rw [hC]; rfl) fun K hK => ?_
    simp [F3r1]
    refine ⟨callOK rfl hh, hK _ ?_⟩
    refine AWp.cond true (by simp) (fun _ => ?_) (fun he => by cases he)
    refine AWp.seq ?_
    refine AWp.reg [false, true] F3r2 [{ r := bval true }] (by kernel_rfl) (by rw [hC]; rfl) fun K hK => ?_
    simp [F3r2]
    refine ⟨callOK rfl awake_ok, hK _ ?_⟩
    repeat refine AWp.seq ?_
    refine AWp.ret ⟨.inr rfl, _, by simp [Try.results3] <;> rfl, ?_⟩
    exact .closed rfl
  | false =>
    rw [hv] at hh
    have hw := light hv
    refine AWp.reg [] F3r1 [{ r := bval false }, { r := bval true }] (by kernel_rfl) (by rw [hC]; rfl) fun K hK => ?_
    simp [F3r1]
    refine ⟨callOK rfl hh, callOK rfl awake_ok, hK _ ?_⟩
    refine AWp.cond false (by simp) (fun he => by cases he) (fun _ => ?_)
    refine AWp.skip ?_
    refine AWp.seq ?_
    refine AWp.reg [true] F3r3 [] (by kernel_rfl) (by rw [hC]; rfl) fun K hK => ?_
    simp [F3r3]
    first | refine hK _ ?_ | refine ⟨by omega, hK _ ?_⟩ | refine ⟨by omega, by omega, hK _ ?_⟩ | refine ⟨by omega, by omega, by omega, hK _ ?_⟩ | refine ⟨by omega, by omega, by omega, by omega, hK _ ?_⟩
    refine AWp.seq ?_
    refine AWp.reg [false, false, false, true] F3r4 [] (by kernel_rfl) (by rw [hC]; rfl) fun K hK => ?_
    simp [F3r4]
    first | refine hK _ ?_ | refine ⟨by omega, hK _ ?_⟩ | refine ⟨by omega, by omega, hK _ ?_⟩ | refine ⟨by omega, by omega, by omega, hK _ ?_⟩ | refine ⟨by omega, by omega, by omega, by omega, hK _ ?_⟩
    refine AWp.seq ?_
    refine AWp.seq ?_
    refine AWp.reg [true] F3r5 [] (by kernel_rfl) (by rw [hC]; rfl) fun K hK => ?_
    simp [F3r5]
    first | refine hK _ ?_ | refine ⟨by omega, hK _ ?_⟩ | refine ⟨by omega, by omega, hK _ ?_⟩ | refine ⟨by omega, by omega, by omega, hK _ ?_⟩ | refine ⟨by omega, by omega, by omega, by omega, hK _ ?_⟩
    refine AWp.block ?_
    refine AWp.loopG (stAny l (encPicks picks)) (fun p => p.1 = p.2.1.length ∧ p.2.1.length + p.2.2.length = l.length ∧ wts p.2.1 + wts p.2.2 = wts l ∧ ∀ x, x ∈ l ↔ x ∈ p.2.1 ∨ x ∈ p.2.2) (fun p => p.2.2.length) (0, [], l) (by simp [wts]) (by simp [stAny, encPicks]) (fun p hpp => ?_)
    obtain ⟨i, other, left⟩ := p
    obtain ⟨hi, hol, hwt, hmem⟩ := hpp
    simp only at hi hol hwt hmem
    refine AWp.seq ?_
    refine AWp.seq ?_
    refine AWp.reg [] F3r6 [] (by kernel_rfl) (by rw [hC]; rfl) fun K hK => ?_
    simp [F3r6, stAny]
    first | refine hK _ ?_ | refine ⟨by omega, hK _ ?_⟩ | refine ⟨by omega, by omega, hK _ ?_⟩ | refine ⟨by omega, by omega, by omega, hK _ ?_⟩ | refine ⟨by omega, by omega, by omega, by omega, hK _ ?_⟩
    refine AWp.cond (decide (left.length > 0)) (by simp) (fun hlt => ?_) (fun hge => ?_)
    · skip
      have hlt : 0 < left.length := by simpa using hlt
      refine AWp.skip ?_
      refine AWp.seq ?_
      refine AWp.block ?_
      refine AWp.seq ?_
      refine AWp.reg [true] F3r8 [] (by kernel_rfl) (by rw [hC]; rfl) fun K hK => ?_
      simp [F3r8]
      first | refine hK _ ?_ | refine ⟨by omega, hK _ ?_⟩ | refine ⟨by omega, by omega, hK _ ?_⟩ | refine ⟨by omega, by omega, by omega, hK _ ?_⟩ | refine ⟨by omega, by omega, by omega, by omega, hK _ ?_⟩
      refine AWp.seqJ (fun k : Nat => { stAny l (encPicks picks) (i, other, left) with tm := (8, ival k) :: (stAny l (encPicks picks) (i, other, left)).tm }) (fun k => k < left.length) ?_ (fun hJ => ?_)
      · skip
        rintro k hk
        obtain ⟨x, hx⟩ : ∃ x, left[k] = x := ⟨_, rfl⟩
        have hwk := wrap_nat k (by omega)
        have hk' : k + 1 ≤ left.length := by omega
        refine AWp.seq ?_
        refine AWp.reg [true, false, false, false, false, false, false, true] F3r11 [] (by kernel_rfl) (by rw [hC]; rfl) fun K hK => ?_
        simp [F3r11, stAny, hk, hx, encL, hwk]
        first | refine hK _ ?_ | refine ⟨by omega, hK _ ?_⟩ | refine ⟨by omega, by omega, hK _ ?_⟩ | refine ⟨by omega, by omega, by omega, hK _ ?_⟩ | refine ⟨by omega, by omega, by omega, by omega, hK _ ?_⟩
        refine AWp.regD ops_mixed [false, false, false, false, false, false, false, false, false, false, true] F3r12 [] (by kernel_rfl) (by rw [hC]; rfl) rfl (fun K hK => ?_) (by simp [F3r12, stAny, hk, hx, encL, hwk] <;> rfl)
        simp [F3r12, stAny, hk, hx, encL, hwk]
        first | refine hK _ ?_ | refine ⟨by omega, hK _ ?_⟩ | refine ⟨by omega, by omega, hK _ ?_⟩ | refine ⟨by omega, by omega, by omega, hK _ ?_⟩ | refine ⟨by omega, by omega, by omega, by omega, hK _ ?_⟩
        refine AWp.reg [false, false, true] F3r7 [] (by kernel_rfl) (by rw [hC]; rfl) fun K hK => ?_
        simp [F3r7, stAny, hk, hx, encL, hwk]
        first | refine hK _ ?_ | refine ⟨by omega, hK _ ?_⟩ | refine ⟨by omega, by omega, hK _ ?_⟩ | refine ⟨by omega, by omega, by omega, hK _ ?_⟩ | refine ⟨by omega, by omega, by omega, by omega, hK _ ?_⟩
        have hlen : (left.take k ++ left.drop (k + 1)).length + 1 = left.length := by simp; omega
        refine ⟨(i + 1, other ++ [x], left.take k ++ left.drop (k + 1)), ⟨by simp only [List.length_append, List.length_cons, List.length_nil]; omega, by simp only [List.length_append, List.length_cons, List.length_nil] at hlen ⊢; omega, by have h1 := wts_cut hk; rw [hx] at h1; simp only [wts_append, wts_one] at h1 ⊢; omega, fun y => ?_⟩, by simp only; omega, ?_⟩
        · rw [hmem y, mem_cut hk y, hx]
          simp only [List.mem_append, List.mem_singleton]
          constructor
          · rintro (h | h | h)
            · exact .inl (.inl h)
            · exact .inl (.inr h)
            · exact .inr h
          · rintro ((h | h) | h)
            · exact .inl h
            · exact .inr (.inl h)
            · exact .inr (.inr h)
        · simp [stAny, hwk, wrap_nat i (by omega), encL, List.map_take, List.map_drop]
      refine AWp.seq ?_
      refine AWp.reg [] F3r9 [] (by kernel_rfl) (by rw [hC]; rfl) fun K hK => ?_
      simp [F3r9, encPicks]
      first | refine hK _ ?_ | refine ⟨by omega, hK _ ?_⟩ | refine ⟨by omega, by omega, hK _ ?_⟩ | refine ⟨by omega, by omega, by omega, hK _ ?_⟩ | refine ⟨by omega, by omega, by omega, by omega, hK _ ?_⟩
      refine AWp.cond (decide (i < picks.length)) (by simp) (fun hip => ?_) (fun hip => ?_)
      · skip
        have hip : i < picks.length := by simpa using hip
        obtain ⟨hz, k, hk, hkw⟩ := draw_ok picks[i] left.length hlt (by omega)
        refine AWp.reg [false, false, false, false, false, false, false, false, false, false, true] F3r10 [] (by kernel_rfl) (by rw [hC]; rfl) fun K hK => ?_
        simp [F3r10, hip, encPicks]
        refine ⟨hz, hK _ ?_⟩
        exact hJ _ k hk (by simp [stAny, encPicks, hkw])
      refine AWp.skip ?_
      exact hJ _ 0 hlt (by simp [stAny, encPicks])
    have hge0 : ¬ left.length > 0 := by simpa using hge
    have hge : left = [] := List.eq_nil_of_length_eq_zero (by omega)
    subst hge
    have hmem' : ∀ x, x ∈ l ↔ x ∈ other := fun x => by rw [hmem]; simp
    have hall := order_any hmem'
    have hw0 : wts ([] : List LitD) = 0 := rfl
    have hwo : wts other ≤ 4194304 := by omega
    have ho1 := Order_ok l (by omega)
    have ho2 := Order_ok other hwo
    have hn1 : (orderE l).2.1.length ≤ 4194304 := Nat.le_trans (order_len l) (by omega)
    generalize orderE l = A at *
    generalize orderE other = B at *
    obtain ⟨ra, na, la, ca, ea⟩ := A
    obtain ⟨rb, nb, lb, cb, eb⟩ := B
    obtain ⟨he, hln, hin⟩ := hall
    simp only at he hln hin hn1
    refine AWp.exit ?_
    refine AWp.seq ?_
    refine AWp.reg [false, false, false, false, false, false, false, false, true, true, true, true] F3r13 [{ r := encO (ra, na, la, ca, ea) }] (by kernel_rfl) (by rw [hC]; rfl) fun K hK => ?_
    simp [F3r13, encO]
    refine ⟨callOK rfl ho1, hK _ ?_⟩
    refine AWp.seq ?_
    refine AWp.reg [false, false, false, false, false, false, false, false, true, true, true, true] F3r14 [{ r := encO (rb, nb, lb, cb, eb) }] (by kernel_rfl) (by rw [hC]; rfl) fun K hK => ?_
    simp [F3r14, encO]
    refine ⟨callOK rfl ho2, hK _ ?_⟩
    refine AWp.seq ?_
    refine AWp.seq ?_
    refine AWp.reg [] F3r15 [] (by kernel_rfl) (by rw [hC]; rfl) fun K hK => ?_
    simp [F3r15, he, hln]
    first | refine hK _ ?_ | refine ⟨by omega, hK _ ?_⟩ | refine ⟨by omega, by omega, hK _ ?_⟩ | refine ⟨by omega, by omega, by omega, hK _ ?_⟩ | refine ⟨by omega, by omega, by omega, by omega, hK _ ?_⟩
    refine AWp.cond false (by simp) (fun he => by cases he) (fun _ => ?_)
    refine AWp.skip ?_
    refine AWp.seq ?_
    refine AWp.seq ?_
    refine AWp.reg [true] F3r17 [] (by kernel_rfl) (by rw [hC]; rfl) fun K hK => ?_
    simp [F3r17]
    first | refine hK _ ?_ | refine ⟨by omega, hK _ ?_⟩ | refine ⟨by omega, by omega, hK _ ?_⟩ | refine ⟨by omega, by omega, by omega, hK _ ?_⟩ | refine ⟨by omega, by omega, by omega, by omega, hK _ ?_⟩
    refine AWp.block ?_
    refine AWp.loopG (fun k : Nat => { tm := [(10, .rd 1 (texts na)), (14, .rd 1 (texts nb)), (17, ival k)], hp := [] }) (fun k => k ≤ na.length) (fun k => na.length - k) 0 (by simp) (by simp) (fun k hk => ?_)
    refine AWp.seq ?_
    refine AWp.seq ?_
    refine AWp.reg [] F3r18 [] (by kernel_rfl) (by rw [hC]; rfl) fun K hK => ?_
    simp [F3r18]
    first | refine hK _ ?_ | refine ⟨by omega, hK _ ?_⟩ | refine ⟨by omega, by omega, hK _ ?_⟩ | refine ⟨by omega, by omega, by omega, hK _ ?_⟩ | refine ⟨by omega, by omega, by omega, by omega, hK _ ?_⟩
    refine AWp.cond (decide (k < na.length)) (by simp) (fun hlt => ?_) (fun hge => ?_)
    · skip
      have hlt : k < na.length := by simpa using hlt
      have hin' := in_ok nb na[k] (by omega)
      rw [(hasT_iff _ _).2 (hin _ (List.getElem_mem hlt))] at hin'
      refine AWp.skip ?_
      refine AWp.seq ?_
      refine AWp.block ?_
      refine AWp.seq ?_
      refine AWp.reg [] F3r20 [{ r := bval true }] (by kernel_rfl) (by rw [hC]; rfl) fun K hK => ?_
      simp [F3r20, hlt]
      refine ⟨callOK rfl hin', hK _ ?_⟩
      refine AWp.cond false (by simp) (fun he => by cases he) (fun _ => ?_)
      refine AWp.skip ?_
      refine AWp.reg [false, false, true] F3r19 [] (by kernel_rfl) (by rw [hC]; rfl) fun K hK => ?_
      simp [F3r19]
      first | refine hK _ ?_ | refine ⟨by omega, hK _ ?_⟩ | refine ⟨by omega, by omega, hK _ ?_⟩ | refine ⟨by omega, by omega, by omega, hK _ ?_⟩ | refine ⟨by omega, by omega, by omega, by omega, hK _ ?_⟩
      refine ⟨k + 1, by omega, by omega, ?_⟩
      simp [wrap_nat k (by omega)]
    refine AWp.exit ?_
    refine AWp.seq ?_
    refine AWp.reg [true] F3r22 [] (by kernel_rfl) (by rw [hC]; rfl) fun K hK => ?_
    simp [F3r22]
    first | refine hK _ ?_ | refine ⟨by omega, hK _ ?_⟩ | refine ⟨by omega, by omega, hK _ ?_⟩ | refine ⟨by omega, by omega, by omega, hK _ ?_⟩ | refine ⟨by omega, by omega, by omega, by omega, hK _ ?_⟩
    repeat refine AWp.seq ?_
    refine AWp.ret ⟨.inr rfl, _, by simp [Try.results3] <;> rfl, ?_⟩
    exact .closed rfl
end Go.Sl
