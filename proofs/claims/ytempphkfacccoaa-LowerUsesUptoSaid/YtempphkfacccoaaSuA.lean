/- Plans: how many nodes; the document's as the program's; the document's uses. -/
import Derived.Test.YtempphkfacccoaaAwZf
import Derived.Test.YtempphkfacccoaaSlA
import Derived.Test.YtempphkfacccoaaSuSp
set_option linter.unusedSimpArgs false
set_option linter.unusedVariables false
open Go Go.Aw Go.Proofs
namespace Go.Sl
-- function 18: corollary/corollarylaw20.nodes: 31 slots; results ['(Go.ResultVar.tmp 4)']
def F18r0 : List ROp := [{ dst := some 2, op := .box 66 (.tmp 0), after := [], guard := none },
  { dst := some 4, op := .copy true (.const (.int .i64 0)), after := [], guard := none }]
def F18r1 : List ROp := [{ dst := some 5, op := .copy true (.const (.int .i64 1)), after := [], guard := none }]
def F18r2 : List ROp := [{ dst := some 6, op := .copy true (.const (.int .i64 0)), after := [], guard := none }]
def F18r3 : List ROp := [{ dst := some 7, op := .copy false (.tmp 6), after := [], guard := none },
  { dst := some 8, op := .fad 5 (.tmp 2), after := [], guard := none },
  { dst := some 9, op := .load 1 false false (.tmp 8), after := [1], guard := none },
  { dst := some 10, op := .len 0 (.tmp 9), after := [2], guard := none },
  { dst := some 11, op := .bin .lss (.tmp 7) (.tmp 10), after := [0, 3], guard := none },
  { dst := some 12, op := .copy false (.tmp 11), after := [4], guard := none },
  { dst := some 13, op := .copy false (.tmp 5), after := [5], guard := some (12, true) },
  { dst := some 14, op := .copy false (.tmp 1), after := [5], guard := some (12, true) },
  { dst := some 15, op := .bin .lss (.tmp 13) (.tmp 14), after := [6, 7, 5], guard := some (12, true) },
  { dst := some 16, op := .pick (.tmp 12) (.tmp 15) (.const (.bool false)), after := [5, 8], guard := none }]
def F18r4 : List ROp := [{ dst := some 17, op := .copy false (.tmp 6), after := [], guard := none },
  { dst := some 18, op := .bin .add (.tmp 17) (.const (.int .i64 1)), after := [0], guard := none },
  { dst := some 6, op := .copy true (.tmp 18), after := [1, 0, 1], guard := none }]
def F18r5 : List ROp := [{ dst := some 19, op := .copy false (.tmp 5), after := [], guard := none },
  { dst := some 20, op := .fad 5 (.tmp 2), after := [], guard := none },
  { dst := some 21, op := .load 1 false false (.tmp 20), after := [1], guard := none },
  { dst := some 22, op := .copy false (.tmp 6), after := [], guard := none },
  { dst := some 23, op := .iad 6 (.tmp 21) (.tmp 22), after := [2, 3], guard := none },
  { dst := some 24, op := .load 6 true false (.tmp 23), after := [4], guard := none },
  { dst := some 25, op := .copy false (.tmp 1), after := [], guard := none },
  { dst := some 26, op := .copy false (.tmp 5), after := [], guard := none },
  { dst := some 27, op := .bin .sub (.tmp 25) (.tmp 26), after := [6, 7], guard := none },
  { dst := some 28, op := .call (.func 18) [.tmp 24, .tmp 27], after := [5, 8], guard := none },
  { dst := some 29, op := .bin .add (.tmp 19) (.tmp 28), after := [0, 9], guard := none },
  { dst := some 5, op := .copy true (.tmp 29), after := [10, 9, 0, 1, 2, 3, 4, 5, 6, 7, 8, 9, 10], guard := none }]
def F18r6 : List ROp := [{ dst := some 30, op := .copy true (.tmp 5), after := [], guard := none },
  { dst := some 4, op := .copy true (.tmp 30), after := [0, 0], guard := none }]
-- function 22: corollary/corollarylaw20.given: 37 slots; results ['(Go.ResultVar.cell 2 72)']
def F22r0 : List ROp := [{ dst := some 1, op := .box 66 (.tmp 0), after := [], guard := none },
  { dst := some 2, op := .alloc 72 [Value.int .u8 0, Value.string ByteArray.empty, Value.string ByteArray.empty, Value.slice none 0 0, Value.slice none 0 0, Value.slice none 0 0], after := [], guard := none }]
def F22r1 : List ROp := [{ dst := some 5, op := .fad 0 (.tmp 1), after := [], guard := none },
  { dst := some 6, op := .load 1 false false (.tmp 5), after := [0], guard := none },
  { dst := some 7, op := .fad 1 (.tmp 1), after := [], guard := none },
  { dst := some 8, op := .load 1 false false (.tmp 7), after := [2], guard := none },
  { dst := some 9, op := .fad 2 (.tmp 1), after := [], guard := none },
  { dst := some 10, op := .load 1 false false (.tmp 9), after := [4], guard := none },
  { dst := some 11, op := .fad 3 (.tmp 1), after := [], guard := none },
  { dst := some 12, op := .load 1 false false (.tmp 11), after := [6], guard := none },
  { dst := some 13, op := .bslice 9 1 [Value.string ByteArray.empty] 0 [], after := [], guard := none },
  { dst := some 14, op := .fad 4 (.tmp 1), after := [], guard := none },
  { dst := some 15, op := .load 1 false false (.tmp 14), after := [9], guard := none },
  { dst := some 16, op := .app 9 1 16 (.tmp 13) (.tmp 15), after := [8, 10], guard := none },
  { dst := some 17, op := .build [Value.int .u8 0, Value.string ByteArray.empty, Value.string ByteArray.empty, Value.slice none 0 0, Value.slice none 0 0, Value.slice none 0 0] [(0, 1, .tmp 6), (1, 1, .tmp 8), (2, 1, .tmp 10), (3, 1, .tmp 12), (4, 1, .tmp 16)], after := [1, 3, 5, 7, 11], guard := none },
  { dst := some 3, op := .alloc 72 [Value.int .u8 0, Value.string ByteArray.empty, Value.string ByteArray.empty, Value.slice none 0 0, Value.slice none 0 0, Value.slice none 0 0], after := [], guard := none },
  { dst := none, op := .store 6 true (.tmp 3) (.tmp 17), after := [13, 12, 11, 0, 1, 2, 3, 4, 5, 6, 7, 8, 9, 10, 11, 12, 13], guard := none }]
def F22r2 : List ROp := [{ dst := some 4, op := .copy true (.const (.int .i64 0)), after := [], guard := none }]
def F22r3 : List ROp := [{ dst := some 18, op := .copy false (.tmp 4), after := [], guard := none },
  { dst := some 19, op := .fad 5 (.tmp 1), after := [], guard := none },
  { dst := some 20, op := .load 1 false false (.tmp 19), after := [1], guard := none },
  { dst := some 21, op := .len 0 (.tmp 20), after := [2], guard := none },
  { dst := some 22, op := .bin .lss (.tmp 18) (.tmp 21), after := [0, 3], guard := none }]
def F22r4 : List ROp := [{ dst := some 23, op := .copy false (.tmp 4), after := [], guard := none },
  { dst := some 24, op := .bin .add (.tmp 23) (.const (.int .i64 1)), after := [0], guard := none },
  { dst := some 4, op := .copy true (.tmp 24), after := [1, 0, 1], guard := none }]
def F22r5 : List ROp := [{ dst := some 25, op := .fad 5 (.tmp 3), after := [], guard := none },
  { dst := some 26, op := .load 1 false true (.tmp 25), after := [0], guard := none },
  { dst := some 27, op := .fad 5 (.tmp 1), after := [], guard := none },
  { dst := some 28, op := .load 1 false false (.tmp 27), after := [2], guard := none },
  { dst := some 29, op := .copy false (.tmp 4), after := [], guard := none },
  { dst := some 30, op := .iad 6 (.tmp 28) (.tmp 29), after := [3, 4], guard := none },
  { dst := some 31, op := .load 6 true false (.tmp 30), after := [5], guard := none },
  { dst := some 32, op := .call (.func 22) [.tmp 31], after := [6], guard := none },
  { dst := some 33, op := .bslice 72 6 [Value.int .u8 0, Value.string ByteArray.empty, Value.string ByteArray.empty, Value.slice none 0 0, Value.slice none 0 0, Value.slice none 0 0] 1 [(0, .tmp 32)], after := [7], guard := none },
  { dst := some 34, op := .app 72 6 112 (.tmp 26) (.tmp 33), after := [1, 8, 7], guard := none },
  { dst := some 35, op := .fad 5 (.tmp 3), after := [0, 1, 2, 3, 4, 5, 6, 7, 8, 9], guard := none },
  { dst := none, op := .store 1 true (.tmp 35) (.tmp 34), after := [10, 9, 9, 0, 1, 2, 3, 4, 5, 6, 7, 8, 9], guard := none }]
def F22r6 : List ROp := [{ dst := some 36, op := .load 6 true false (.tmp 3), after := [], guard := none },
  { dst := none, op := .store 6 true (.tmp 2) (.tmp 36), after := [0, 0], guard := none }]
theorem nodes_ok : ∀ (n : Nat) (p : PlanD) (most : Nat), psize p < n → n ≤ 4194304 → 1 ≤ most → most ≤ 4194304 → Con Try.prog 18 [encPX p, ival most] (ival (ndN p most)) := by
  intro n
  induction n with
  | zero => intro p most hn; omega
  | succ n ih =>
    intro p most hn hn4 hm1 hmost
    have hsz := psize_eq p
    have hil := psizes_len p.ins
    refine Con.of_code Try.func18 (by kernel_rfl) rfl (by simp [Try.ntmps18]) fun C hC hM => ?_
    refine AWp.seq ?_
    refine AWp.reg [false, true] F18r0 [] (by kernel_rfl) (by rw [hC]; rfl) fun K hK => ?_
    simp [F18r0, encPX, encP_eq]
    first | refine hK _ ?_ | refine ⟨by omega, hK _ ?_⟩ | refine ⟨by omega, by omega, hK _ ?_⟩ | refine ⟨by omega, by omega, by omega, hK _ ?_⟩ | refine ⟨by omega, by omega, by omega, by omega, hK _ ?_⟩
    refine AWp.seq ?_
    refine AWp.reg [true] F18r1 [] (by kernel_rfl) (by rw [hC]; rfl) fun K hK => ?_
    simp [F18r1, encPX, encP_eq]
    first | refine hK _ ?_ | refine ⟨by omega, hK _ ?_⟩ | refine ⟨by omega, by omega, hK _ ?_⟩ | refine ⟨by omega, by omega, by omega, hK _ ?_⟩ | refine ⟨by omega, by omega, by omega, by omega, hK _ ?_⟩
    refine AWp.seq ?_
    refine AWp.seq ?_
    refine AWp.reg [true] F18r2 [] (by kernel_rfl) (by rw [hC]; rfl) fun K hK => ?_
    simp [F18r2, encPX, encP_eq]
    first | refine hK _ ?_ | refine ⟨by omega, hK _ ?_⟩ | refine ⟨by omega, by omega, hK _ ?_⟩ | refine ⟨by omega, by omega, by omega, hK _ ?_⟩ | refine ⟨by omega, by omega, by omega, by omega, hK _ ?_⟩
    refine AWp.block ?_
    refine AWp.loopG (fun i : Nat => { tm := [(1, ival most), (2, .ptr 2 0), (5, ival (ndL (p.ins.take i) most)), (6, ival i)], hp := [(2, .cells 66 (encP p))] }) (fun i => i ≤ p.ins.length) (fun i => p.ins.length - i) 0 (by simp) (by simp [ndL, pns, encP_eq, show min 1 most = 1 by omega]) (fun i hi => ?_)
    have hle : ndL (p.ins.take i) most ≤ most := Nat.min_le_right _ _
    have hge : 1 ≤ ndL (p.ins.take i) most := by simp only [ndL]; omega
    by_cases hlt : i < p.ins.length
    · by_cases hm : ndL (p.ins.take i) most < most
      · have hst := ndL_step p.ins i most hlt hm
        have hsz2 : psize p.ins[i] < n := by
          have h1 := psizes_snoc p.ins i hlt
          have h3 := psizes_take_le p.ins (i + 1)
          omega
        have hcall := ih p.ins[i] (most - ndL (p.ins.take i) most) hsz2 (by omega) (by omega) (by omega)
        have hb : ndN p.ins[i] (most - ndL (p.ins.take i) most) ≤ most := by simp only [ndN]; omega
        generalize ndL (p.ins.take i) most = c at *
        have hw2 : IntKind.i64.wrap ((most : Int) - (c : Int)) = ((most - c : Nat) : Int) := by rw [wrap_in (by omega) (by omega)]; omega
        refine AWp.seq ?_
        refine AWp.seq ?_
        refine AWp.reg [] F18r3 [] (by kernel_rfl) (by rw [hC]; rfl) fun K hK => ?_
        simp [F18r3, encP_eq, hlt, hm]
        first | refine hK _ ?_ | refine ⟨by omega, hK _ ?_⟩ | refine ⟨by omega, by omega, hK _ ?_⟩ | refine ⟨by omega, by omega, by omega, hK _ ?_⟩ | refine ⟨by omega, by omega, by omega, by omega, hK _ ?_⟩
        refine AWp.cond true (by simp) (fun _ => ?_) (fun he => by cases he)
        refine AWp.skip ?_
        refine AWp.seq ?_
        refine AWp.block ?_
        refine AWp.reg [false, false, false, false, false, false, false, false, false, false, false, true] F18r5 [{ r := ival (ndN p.ins[i] (most - c)) }] (by kernel_rfl) (by rw [hC]; rfl) fun K hK => ?_
        simp [F18r5, hlt, hw2, encP_eq]
        refine ⟨callOK rfl (by simpa [encPX, encP_eq] using hcall), hK _ ?_⟩
        refine AWp.reg [false, false, true] F18r4 [] (by kernel_rfl) (by rw [hC]; rfl) fun K hK => ?_
        simp [F18r4]
        first | refine hK _ ?_ | refine ⟨by omega, hK _ ?_⟩ | refine ⟨by omega, by omega, hK _ ?_⟩ | refine ⟨by omega, by omega, by omega, hK _ ?_⟩ | refine ⟨by omega, by omega, by omega, by omega, hK _ ?_⟩
        refine ⟨i + 1, by omega, by omega, ?_⟩
        have hw3 : IntKind.i64.wrap ((c : Int) + (ndN p.ins[i] (most - c) : Int)) = ((ndL (p.ins.take (i + 1)) most : Nat) : Int) := by rw [wrap_in (by omega) (by omega)]; omega
        simp [hw3, wrap_nat i (by omega), encP_eq]
      · skip
        refine AWp.seq ?_
        refine AWp.seq ?_
        refine AWp.reg [] F18r3 [] (by kernel_rfl) (by rw [hC]; rfl) fun K hK => ?_
        simp [F18r3, encP_eq, hlt, hm]
        first | refine hK _ ?_ | refine ⟨by omega, hK _ ?_⟩ | refine ⟨by omega, by omega, hK _ ?_⟩ | refine ⟨by omega, by omega, by omega, hK _ ?_⟩ | refine ⟨by omega, by omega, by omega, by omega, hK _ ?_⟩
        refine AWp.cond false (by simp) (fun he => by cases he) (fun _ => ?_)
        refine AWp.exit ?_
        refine AWp.seq ?_
        refine AWp.reg [true, true] F18r6 [] (by kernel_rfl) (by rw [hC]; rfl) fun K hK => ?_
        simp [F18r6]
        first | refine hK _ ?_ | refine ⟨by omega, hK _ ?_⟩ | refine ⟨by omega, by omega, hK _ ?_⟩ | refine ⟨by omega, by omega, by omega, hK _ ?_⟩ | refine ⟨by omega, by omega, by omega, by omega, hK _ ?_⟩
        repeat refine AWp.seq ?_
        refine AWp.ret ⟨.inr rfl, _, by simp [Try.results18] <;> rfl, ?_⟩
        rw [ndL_done p i most (.inr (by omega))]
        exact .closed rfl
    · skip
      refine AWp.seq ?_
      refine AWp.seq ?_
      refine AWp.reg [] F18r3 [] (by kernel_rfl) (by rw [hC]; rfl) fun K hK => ?_
      simp [F18r3, encP_eq, hlt]
      first | refine hK _ ?_ | refine ⟨by omega, hK _ ?_⟩ | refine ⟨by omega, by omega, hK _ ?_⟩ | refine ⟨by omega, by omega, by omega, hK _ ?_⟩ | refine ⟨by omega, by omega, by omega, by omega, hK _ ?_⟩
      refine AWp.cond false (by simp) (fun he => by cases he) (fun _ => ?_)
      refine AWp.exit ?_
      refine AWp.seq ?_
      refine AWp.reg [true, true] F18r6 [] (by kernel_rfl) (by rw [hC]; rfl) fun K hK => ?_
      simp [F18r6]
      first | refine hK _ ?_ | refine ⟨by omega, hK _ ?_⟩ | refine ⟨by omega, by omega, hK _ ?_⟩ | refine ⟨by omega, by omega, by omega, hK _ ?_⟩ | refine ⟨by omega, by omega, by omega, by omega, hK _ ?_⟩
      repeat refine AWp.seq ?_
      refine AWp.ret ⟨.inr rfl, _, by simp [Try.results18] <;> rfl, ?_⟩
      rw [ndL_done p i most (.inl (by omega))]
      exact .closed rfl
def insO : List PlanD → AV
  | [] => .val (.slice none 0 0)
  | x :: l => .own 72 6 ((x :: l).map encP)
@[simp] theorem insO_within (ids : List Nat) (l : List PlanD) : within ids (insO l) = true := by cases l <;> rfl
@[simp] theorem insO_noref (l : List PlanD) : noref (insO l) = true := by cases l <;> rfl
theorem insO_snoc (l : List PlanD) (x : PlanD) : insO (l ++ [x]) = .own 72 6 (l.map encP ++ [encP x]) := by
  cases l with
  | nil => rfl
  | cons y l => simp [insO]
def outCells (p : PlanD) (l : List PlanD) : List AV := [uval p.op, sval p.rel, sval p.name, .rd 9 (p.args.map encE), .rd 1 (texts p.aggs), insO l]
def zeroPlan : List AV := [uval 0, sval ByteArray.empty, sval ByteArray.empty, .val (.slice none 0 0), .val (.slice none 0 0), .val (.slice none 0 0)]
@[simp] theorem ag72 : isAggT Try.prog 72 = some true := by kernel_rfl
@[simp] theorem sz72 : szOf Try.prog 72 = some 6 := by kernel_rfl
theorem given_ok : ∀ (n : Nat) (p : PlanD), psize p < n → n ≤ 4194304 → Con Try.prog 22 [encPX p] (encPX p) := by
  intro n
  induction n with
  | zero => intro p hn; omega
  | succ n ih =>
    intro p hn hb
    have hsz := psize_eq p
    have hil := psizes_len p.ins
    refine Con.of_code Try.func22 (by kernel_rfl) rfl (by simp [Try.ntmps22]) fun C hC hM => ?_
    refine AWp.seq ?_
    refine AWp.reg [] F22r0 [] (by kernel_rfl) (by rw [hC]; rfl) fun K hK => ?_
    simp [F22r0, encPX, encP_eq]
    first | refine hK _ ?_ | refine ⟨by omega, hK _ ?_⟩ | refine ⟨by omega, by omega, hK _ ?_⟩ | refine ⟨by omega, by omega, by omega, hK _ ?_⟩ | refine ⟨by omega, by omega, by omega, by omega, hK _ ?_⟩
    refine AWp.seq ?_
    refine AWp.regD ops_mixed [false, false, false, false, false, false, false, false, false, false, false, false, false, false, true] F22r1 [] (by kernel_rfl) (by rw [hC]; rfl) rfl (fun K hK => ?_) (by simp [F22r1, encPX, encP_eq] <;> rfl)
    simp [F22r1, encPX, encP_eq]
    first | refine hK _ ?_ | refine ⟨by omega, hK _ ?_⟩ | refine ⟨by omega, by omega, hK _ ?_⟩ | refine ⟨by omega, by omega, by omega, hK _ ?_⟩ | refine ⟨by omega, by omega, by omega, by omega, hK _ ?_⟩
    refine AWp.seq ?_
    refine AWp.seq ?_
    refine AWp.reg [true] F22r2 [] (by kernel_rfl) (by rw [hC]; rfl) fun K hK => ?_
    simp [F22r2, encPX, encP_eq]
    first | refine hK _ ?_ | refine ⟨by omega, hK _ ?_⟩ | refine ⟨by omega, by omega, hK _ ?_⟩ | refine ⟨by omega, by omega, by omega, hK _ ?_⟩ | refine ⟨by omega, by omega, by omega, by omega, hK _ ?_⟩
    refine AWp.block ?_
    refine AWp.loopG (fun i : Nat => { tm := [(1, .ptr 1 0), (2, .ptr 2 0), (3, .ptr 3 0), (4, ival i)], hp := [(1, .cells 66 (encP p)), (2, .cells 72 zeroPlan), (3, .cells 72 (outCells p (p.ins.take i)))] }) (fun i => i ≤ p.ins.length) (fun i => p.ins.length - i) 0 (by simp) (by simp [encP_eq, zeroPlan, outCells, insO]) (fun i hi => ?_)
    refine AWp.seq ?_
    refine AWp.seq ?_
    refine AWp.reg [] F22r3 [] (by kernel_rfl) (by rw [hC]; rfl) fun K hK => ?_
    simp [F22r3, encP_eq]
    first | refine hK _ ?_ | refine ⟨by omega, hK _ ?_⟩ | refine ⟨by omega, by omega, hK _ ?_⟩ | refine ⟨by omega, by omega, by omega, hK _ ?_⟩ | refine ⟨by omega, by omega, by omega, by omega, hK _ ?_⟩
    refine AWp.cond (decide (i < p.ins.length)) (by simp) (fun hlt => ?_) (fun hge => ?_)
    · skip
      have hlt : i < p.ins.length := by simpa using hlt
      have hsz2 : psize p.ins[i] < n := by
        have h1 := psizes_snoc p.ins i hlt
        have h3 := psizes_take_le p.ins (i + 1)
        omega
      have hcall := ih p.ins[i] hsz2 (by omega)
      have htk : p.ins.take (i + 1) = p.ins.take i ++ [p.ins[i]] := List.take_succ_eq_append_getElem hlt
      have hlen : (p.ins.take i).length = i := by simp; omega
      generalize p.ins.take i = done at *
      cases done with
      | nil =>
        refine AWp.skip ?_
        refine AWp.seq ?_
        refine AWp.block ?_
        refine AWp.regD ops_mixed [false, true, false, false, false, false, false, false, false, false, false, true] F22r5 [{ r := encPX p.ins[i] }] (by kernel_rfl) (by rw [hC]; rfl) rfl (fun K hK => ?_) (by simp [F22r5, hlt, encP_eq, outCells, insO, encPX] <;> rfl)
        simp [F22r5, hlt, encP_eq, outCells, insO, encPX]
        refine ⟨callOK rfl (by simpa [encPX, encP_eq] using hcall), hK _ ?_⟩
        refine AWp.reg [false, false, true] F22r4 [] (by kernel_rfl) (by rw [hC]; rfl) fun K hK => ?_
        simp [F22r4]
        first | refine hK _ ?_ | refine ⟨by omega, hK _ ?_⟩ | refine ⟨by omega, by omega, hK _ ?_⟩ | refine ⟨by omega, by omega, by omega, hK _ ?_⟩ | refine ⟨by omega, by omega, by omega, by omega, hK _ ?_⟩
        refine ⟨i + 1, by omega, by omega, ?_⟩
        rw [htk]
        simp [encP_eq, zeroPlan, outCells, insO, wrap_nat i (by omega)]
      | cons x l =>
        have hl4 : l.length ≤ 4194304 := by simp at hlen; omega
        refine AWp.skip ?_
        refine AWp.seq ?_
        refine AWp.block ?_
        refine AWp.regD ops_mixed [false, true, false, false, false, false, false, false, false, false, false, true] F22r5 [{ r := encPX p.ins[i] }] (by kernel_rfl) (by rw [hC]; rfl) rfl (fun K hK => ?_) (by simp [F22r5, hlt, encP_eq, outCells, insO, encPX] <;> rfl)
        simp [F22r5, hlt, encP_eq, outCells, insO, encPX]
        refine ⟨callOK rfl (by simpa [encPX, encP_eq] using hcall), ⟨by omega, by omega⟩, hK _ ?_⟩
        refine AWp.reg [false, false, true] F22r4 [] (by kernel_rfl) (by rw [hC]; rfl) fun K hK => ?_
        simp [F22r4]
        first | refine hK _ ?_ | refine ⟨by omega, hK _ ?_⟩ | refine ⟨by omega, by omega, hK _ ?_⟩ | refine ⟨by omega, by omega, by omega, hK _ ?_⟩ | refine ⟨by omega, by omega, by omega, by omega, hK _ ?_⟩
        refine ⟨i + 1, by omega, by omega, ?_⟩
        rw [htk]
        simp [encP_eq, zeroPlan, outCells, insO, wrap_nat i (by omega)]
    have hge : ¬ i < p.ins.length := by simpa using hge
    have hall : p.ins.take i = p.ins := List.take_of_length_le (by omega)
    rw [hall]
    cases hci : p.ins with
    | nil =>
      rw [hci] at hall
      refine AWp.exit ?_
      refine AWp.seq ?_
      refine AWp.reg [false, true] F22r6 [] (by kernel_rfl) (by rw [hC]; rfl) fun K hK => ?_
      simp [F22r6, outCells, insO, hci, zeroPlan]
      first | refine hK _ ?_ | refine ⟨by omega, hK _ ?_⟩ | refine ⟨by omega, by omega, hK _ ?_⟩ | refine ⟨by omega, by omega, by omega, hK _ ?_⟩ | refine ⟨by omega, by omega, by omega, by omega, hK _ ?_⟩
      repeat refine AWp.seq ?_
      refine AWp.ret ⟨.inr rfl, _, by simp [Try.results22] <;> rfl, ?_⟩
      simp only [encPX, encP_eq, hci, List.map_cons]
      exact .agg (.cons (.closed rfl) (.cons (.closed rfl) (.cons (.closed rfl) (.cons (.closed rfl) (.cons (.closed rfl) (.cons .nil .nil))))))
    | cons x l =>
      refine AWp.exit ?_
      refine AWp.seq ?_
      refine AWp.reg [false, true] F22r6 [] (by kernel_rfl) (by rw [hC]; rfl) fun K hK => ?_
      simp [F22r6, outCells, insO, hci, zeroPlan]
      first | refine hK _ ?_ | refine ⟨by omega, hK _ ?_⟩ | refine ⟨by omega, by omega, hK _ ?_⟩ | refine ⟨by omega, by omega, by omega, hK _ ?_⟩ | refine ⟨by omega, by omega, by omega, by omega, hK _ ?_⟩
      repeat refine AWp.seq ?_
      refine AWp.ret ⟨.inr rfl, _, by simp [Try.results22] <;> rfl, ?_⟩
      simp only [encPX, encP_eq, hci, List.map_cons]
      exact .agg (.cons (.closed rfl) (.cons (.closed rfl) (.cons (.closed rfl) (.cons (.closed rfl) (.cons (.closed rfl) (.cons (.closed rfl) .nil))))))
end Go.Sl
