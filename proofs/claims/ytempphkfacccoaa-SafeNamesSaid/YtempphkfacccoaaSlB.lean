/- The order of a body: what is free, what is bound. -/
import Derived.Test.YtempphkfacccoaaSlA
import Derived.Test.YtempphkfacccoaaSlSpO
set_option linter.unusedSimpArgs false
set_option linter.unusedVariables false
open Go Go.Aw Go.Proofs
namespace Go.Sl
-- function 31: corollary/safe.Order$1: 8 slots; results ['(Go.ResultVar.tmp 3)']
def F31r0 : List ROp := [{ dst := some 3, op := .copy true (.const (.bool false)), after := [], guard := none }]
def F31r1 : List ROp := [{ dst := some 4, op := .load 1 false false (.tmp 1), after := [], guard := none },
  { dst := some 5, op := .copy false (.tmp 0), after := [], guard := none },
  { dst := some 6, op := .lkp 1 (Value.int .i64 0) false (.tmp 4) (.tmp 5), after := [0, 1], guard := none },
  { dst := some 7, op := .bin .eql (.tmp 6) (.const (.int .i64 0)), after := [2], guard := none },
  { dst := some 3, op := .copy true (.tmp 7), after := [3, 0, 1, 2, 3], guard := none }]
-- function 32: corollary/safe.Order$2: 16 slots; results []
def F32r0 : List ROp := [{ dst := some 4, op := .load 1 false false (.tmp 1), after := [], guard := none },
  { dst := some 5, op := .copy false (.tmp 0), after := [], guard := none },
  { dst := some 6, op := .lkp 1 (Value.int .i64 0) false (.tmp 4) (.tmp 5), after := [0, 1], guard := none },
  { dst := some 7, op := .bin .eql (.tmp 6) (.const (.int .i64 0)), after := [2], guard := none }]
def F32r1 : List ROp := [{ dst := some 8, op := .load 1 false false (.tmp 1), after := [], guard := none },
  { dst := some 9, op := .copy false (.tmp 0), after := [], guard := none },
  { dst := some 10, op := .lkp 1 (Value.int .i64 0) false (.tmp 8) (.tmp 9), after := [0, 1], guard := none },
  { dst := some 11, op := .bin .add (.tmp 10) (.const (.int .i64 1)), after := [2], guard := none },
  { dst := none, op := .mupd 1 (.tmp 8) (.tmp 9) (.tmp 11), after := [0, 1, 3, 0, 1, 2, 3], guard := none }]
def F32r2 : List ROp := [{ dst := some 12, op := .load 1 false true (.tmp 2), after := [], guard := none },
  { dst := some 13, op := .copy false (.tmp 0), after := [], guard := none },
  { dst := some 14, op := .bslice 9 1 [Value.string ByteArray.empty] 1 [(0, .tmp 13)], after := [1], guard := none },
  { dst := some 15, op := .app 9 1 16 (.tmp 12) (.tmp 14), after := [0, 2], guard := none },
  { dst := none, op := .store 1 true (.tmp 2) (.tmp 15), after := [3, 3, 0, 1, 2, 3], guard := none }]
def boundMap (names : List ByteArray) : AV := .rmap (keysT names) (ones names)
theorem free_ok (names : List ByteArray) (s : ByteArray) : Con Try.prog 31 [sval s, .elt 1 [[boundMap names]] 0 0] (bval (!hasT names s)) := by
  have hg := kvGet_T s names
  refine Con.of_code Try.func31 (by kernel_rfl) rfl (by simp [Try.ntmps31]) fun C hC hM => ?_
  cases hh : hasT names s with
  | true =>
    rw [hh] at hg
    refine AWp.seq ?_
    refine AWp.reg [true] F31r0 [] (by kernel_rfl) (by rw [hC]; rfl) fun K hK => ?_
    simp [F31r0, boundMap, hg]
    first | refine hK _ ?_ | refine ⟨by omega, hK _ ?_⟩ | refine ⟨by omega, by omega, hK _ ?_⟩ | refine ⟨by omega, by omega, by omega, hK _ ?_⟩ | refine ⟨by omega, by omega, by omega, by omega, hK _ ?_⟩
    refine AWp.seq ?_
    refine AWp.reg [false, false, false, false, true] F31r1 [] (by kernel_rfl) (by rw [hC]; rfl) fun K hK => ?_
    simp [F31r1, boundMap, hg]
    first | refine hK _ ?_ | refine ⟨by omega, hK _ ?_⟩ | refine ⟨by omega, by omega, hK _ ?_⟩ | refine ⟨by omega, by omega, by omega, hK _ ?_⟩ | refine ⟨by omega, by omega, by omega, by omega, hK _ ?_⟩
    repeat refine AWp.seq ?_
    refine AWp.ret ⟨.inr rfl, _, by simp [Try.results31] <;> rfl, ?_⟩
    exact .closed rfl
  | false =>
    rw [hh] at hg
    refine AWp.seq ?_
    refine AWp.reg [true] F31r0 [] (by kernel_rfl) (by rw [hC]; rfl) fun K hK => ?_
    simp [F31r0, boundMap, hg]
    first | refine hK _ ?_ | refine ⟨by omega, hK _ ?_⟩ | refine ⟨by omega, by omega, hK _ ?_⟩ | refine ⟨by omega, by omega, by omega, hK _ ?_⟩ | refine ⟨by omega, by omega, by omega, by omega, hK _ ?_⟩
    refine AWp.seq ?_
    refine AWp.reg [false, false, false, false, true] F31r1 [] (by kernel_rfl) (by rw [hC]; rfl) fun K hK => ?_
    simp [F31r1, boundMap, hg]
    first | refine hK _ ?_ | refine ⟨by omega, hK _ ?_⟩ | refine ⟨by omega, by omega, hK _ ?_⟩ | refine ⟨by omega, by omega, by omega, hK _ ?_⟩ | refine ⟨by omega, by omega, by omega, by omega, hK _ ?_⟩
    repeat refine AWp.seq ?_
    refine AWp.ret ⟨.inr rfl, _, by simp [Try.results31] <;> rfl, ?_⟩
    exact .closed rfl
def HB (names : List ByteArray) : List (Nat × Blk) := [(1002, .cells 85 [.mapr 1003]), (1003, .map (keysT names) (ones names)), (1004, .cells 32 [.own 9 1 (texts names)])]
def bindC : AV := .clo (.func 32) [.ptr 1002 0, .ptr 1004 0]
theorem bind_ok (names : List ByteArray) (s : ByteArray) (hl : names.length ≤ 8388608) : ConM Try.prog 32 (HB names) [sval s, .ptr 1002 0, .ptr 1004 0] (.tup []) (HB (addT names s)) := by
  have hg := kvGet_T s names
  refine ConM.of_code Try.func32 (by kernel_rfl) rfl (by simp [Try.ntmps32]) (by simp [Try.ntmps32]) (hand_of rfl) (more_of rfl) rfl (fun C hC hρ => ?_)
  cases hh : hasT names s with
  | true =>
    rw [hh] at hg
    refine AWp.seq ?_
    refine AWp.reg [] F32r0 [] (by kernel_rfl) (by rw [hC]; rfl) fun K hK => ?_
    simp [F32r0, HB, hg]
    first | refine hK _ ?_ | refine ⟨by omega, hK _ ?_⟩ | refine ⟨by omega, by omega, hK _ ?_⟩ | refine ⟨by omega, by omega, by omega, hK _ ?_⟩ | refine ⟨by omega, by omega, by omega, by omega, hK _ ?_⟩
    refine AWp.cond false (by simp) (fun he => by cases he) (fun _ => ?_)
    refine AWp.skip ?_
    refine ⟨.inl rfl, ⟨[], rfl, .refl⟩, rfl, ?_⟩
    rw [addT, hh]
    simp [HB]
  | false =>
    have hset := fun y hy => kvSet_T s y hy names hh
    rw [hh] at hg
    refine AWp.seq ?_
    refine AWp.reg [] F32r0 [] (by kernel_rfl) (by rw [hC]; rfl) fun K hK => ?_
    simp [F32r0, HB, hg]
    first | refine hK _ ?_ | refine ⟨by omega, hK _ ?_⟩ | refine ⟨by omega, by omega, hK _ ?_⟩ | refine ⟨by omega, by omega, by omega, hK _ ?_⟩ | refine ⟨by omega, by omega, by omega, by omega, hK _ ?_⟩
    refine AWp.cond true (by simp) (fun _ => ?_) (fun he => by cases he)
    refine AWp.seq ?_
    refine AWp.reg [] F32r1 [] (by kernel_rfl) (by rw [hC]; rfl) fun K hK => ?_
    simp [F32r1, hg, hset]
    first | refine hK _ ?_ | refine ⟨by omega, hK _ ?_⟩ | refine ⟨by omega, by omega, hK _ ?_⟩ | refine ⟨by omega, by omega, by omega, hK _ ?_⟩ | refine ⟨by omega, by omega, by omega, by omega, hK _ ?_⟩
    refine AWp.reg [true, false, false, false, true] F32r2 [] (by kernel_rfl) (by rw [hC]; rfl) fun K hK => ?_
    simp [F32r2, hg, hset]
    first | refine hK _ ?_ | refine ⟨by omega, hK _ ?_⟩ | refine ⟨by omega, by omega, hK _ ?_⟩ | refine ⟨by omega, by omega, by omega, hK _ ?_⟩ | refine ⟨by omega, by omega, by omega, by omega, hK _ ?_⟩
    refine ⟨.inl rfl, ⟨[], rfl, .refl⟩, rfl, ?_⟩
    have hw : IntKind.i64.wrap 1 = 1 := rfl
    rw [addT, hh]
    simp [HB, texts_snoc, hw, hset _ rfl]
theorem bind_call {g : Nat → Option Blk} {names : List ByteArray} {s : ByteArray} (hl : names.length ≤ 8388608) (h0 : g 1002 = some (.cells 85 [.mapr 1003])) (h1 : g 1003 = some (.map (keysT names) (ones names)))
    (h2 : g 1004 = some (.cells 32 [.own 9 1 (texts names)])) : ∃ H ts, CallM Try.prog 32 g [1002, 1003, 1004] [sval s, .ptr 1002 0, .ptr 1004 0] (.tup []) (HB (addT names s)) H ts :=
  callM_same (bind_ok names s hl) .rfl' rfl rfl (by simp [HB, h0, h1, h2]) (by simp [HB]) (by simp [HB])
end Go.Sl
