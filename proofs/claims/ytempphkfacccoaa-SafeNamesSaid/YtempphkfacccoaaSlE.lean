/- Which rules go round. -/
import Derived.Test.YtempphkfacccoaaSlD
import Derived.Test.YtempphkfacccoaaSlSpE
set_option linter.unusedSimpArgs false
set_option linter.unusedVariables false
open Go Go.Aw Go.Proofs
namespace Go.Sl
-- function 60: slices.IndexFunc[[]corollary/api.Literal,corollary/api.Literal]: 19 slots; results ['(Go.ResultVar.tmp 4)']
def F60r0 : List ROp := [{ dst := some 4, op := .copy true (.const (.int .i64 0)), after := [], guard := none }]
def F60r1 : List ROp := [{ dst := some 6, op := .copy false (.tmp 0), after := [], guard := none },
  { dst := some 7, op := .len 0 (.tmp 6), after := [0], guard := none },
  { dst := some 8, op := .copy false (.const (.int .i64 0)), after := [], guard := none }]
def F60r2 : List ROp := [{ dst := some 9, op := .bin .lss (.tmp 8) (.tmp 7), after := [], guard := none }]
def F60r3 : List ROp := [{ dst := some 10, op := .copy true (.tmp 8), after := [], guard := none },
  { dst := some 5, op := .copy true (.tmp 10), after := [0, 0], guard := none }]
def F60r4 : List ROp := [{ dst := some 11, op := .copy false (.tmp 1), after := [], guard := none },
  { dst := some 12, op := .copy false (.tmp 0), after := [], guard := none },
  { dst := some 13, op := .copy false (.tmp 5), after := [], guard := none },
  { dst := some 14, op := .iad 5 (.tmp 12) (.tmp 13), after := [1, 2], guard := none },
  { dst := some 15, op := .load 5 true false (.tmp 14), after := [3], guard := none },
  { dst := some 16, op := .call (.tmp 11) [.tmp 15], after := [0, 4], guard := none }]
def F60r5 : List ROp := [{ dst := some 17, op := .copy true (.tmp 5), after := [], guard := none },
  { dst := some 4, op := .copy true (.tmp 17), after := [0, 0], guard := none }]
def F60r6 : List ROp := [{ dst := some 18, op := .bin .add (.tmp 8) (.const (.int .i64 1)), after := [], guard := none },
  { dst := some 8, op := .copy false (.tmp 18), after := [0], guard := none }]
def F60r7 : List ROp := [{ dst := some 4, op := .copy true (.const (.int .i64 (-1))), after := [], guard := none }]
-- function 49: slices.ContainsFunc[[]corollary/api.Literal,corollary/api.Literal]: 9 slots; results ['(Go.ResultVar.tmp 4)']
def F49r0 : List ROp := [{ dst := some 4, op := .copy true (.const (.bool false)), after := [], guard := none }]
def F49r1 : List ROp := [{ dst := some 5, op := .copy false (.tmp 0), after := [], guard := none },
  { dst := some 6, op := .copy false (.tmp 1), after := [], guard := none },
  { dst := some 7, op := .call (.func 60) [.tmp 5, .tmp 6], after := [0, 1], guard := none },
  { dst := some 8, op := .bin .geq (.tmp 7) (.const (.int .i64 0)), after := [2], guard := none },
  { dst := some 4, op := .copy true (.tmp 8), after := [3, 2, 0, 1, 2, 3], guard := none }]
-- function 50: corollary/safe.Rounds$1: 24 slots; results ['(Go.ResultVar.tmp 4)']
def F50r0 : List ROp := [{ dst := some 3, op := .box 31 (.tmp 0), after := [], guard := none },
  { dst := some 4, op := .copy true (.const (.bool false)), after := [], guard := none }]
def F50r1 : List ROp := [{ dst := some 5, op := .load 5 true false (.tmp 3), after := [], guard := none },
  { dst := some 6, op := .call (.func 51) [.tmp 5], after := [0], guard := none },
  { dst := some 7, op := .copy false (.tmp 6), after := [1, 1], guard := none },
  { dst := some 8, op := .fad 3 (.tmp 3), after := [2], guard := some (7, true) },
  { dst := some 9, op := .load 1 false false (.tmp 8), after := [3, 2], guard := some (7, true) },
  { dst := some 10, op := .fad 2 (.tmp 1), after := [2], guard := some (7, true) },
  { dst := some 11, op := .load 1 false false (.tmp 10), after := [5, 2], guard := some (7, true) },
  { dst := some 12, op := .bin .eql (.tmp 9) (.tmp 11), after := [4, 6, 2], guard := some (7, true) },
  { dst := some 13, op := .copy false (.tmp 12), after := [7, 2, 2], guard := some (7, true) },
  { dst := some 14, op := .load 1 false false (.tmp 2), after := [8], guard := some (13, false) },
  { dst := some 15, op := .fad 3 (.tmp 3), after := [8], guard := some (13, false) },
  { dst := some 16, op := .load 1 false false (.tmp 15), after := [10, 8], guard := some (13, false) },
  { dst := some 17, op := .lkp 1 (Value.map none) false (.tmp 14) (.tmp 16), after := [9, 11, 8], guard := some (13, false) },
  { dst := some 18, op := .fad 2 (.tmp 1), after := [8], guard := some (13, false) },
  { dst := some 19, op := .load 1 false false (.tmp 18), after := [13, 8], guard := some (13, false) },
  { dst := some 20, op := .lkp 1 (Value.int .i64 0) false (.tmp 17) (.tmp 19), after := [12, 14, 8], guard := some (13, false) },
  { dst := some 21, op := .bin .gtr (.tmp 20) (.const (.int .i64 0)), after := [15, 8], guard := some (13, false) },
  { dst := some 22, op := .pick (.tmp 13) (.const (.bool true)) (.tmp 21), after := [8, 16, 2], guard := some (7, true) },
  { dst := some 23, op := .pick (.tmp 7) (.tmp 22) (.const (.bool false)), after := [2, 17], guard := none },
  { dst := some 4, op := .copy true (.tmp 23), after := [18, 8, 0, 1, 2, 3, 4, 5, 6, 7, 8, 9, 10, 11, 12, 13, 14, 15, 16, 17, 18], guard := none }]
-- function 29: corollary/safe.Rounds: 25 slots; results ['(Go.ResultVar.tmp 2)']
def F29r0 : List ROp := [{ dst := some 1, op := .box 52 (.tmp 0), after := [], guard := none },
  { dst := some 2, op := .copy true (.const (.slice none 0 0)), after := [], guard := none }]
def F29r1 : List ROp := [{ dst := some 7, op := .load 6 true false (.tmp 1), after := [], guard := none },
  { dst := some 8, op := .call (.func 48) [.tmp 7], after := [0], guard := none },
  { dst := some 3, op := .alloc 98 [Value.map none], after := [], guard := none },
  { dst := none, op := .store 1 true (.tmp 3) (.tmp 8), after := [2, 1, 1, 0, 1, 2], guard := none }]
def F29r2 : List ROp := [{ dst := some 4, op := .copy true (.const (.slice none 0 0)), after := [], guard := none }]
def F29r3 : List ROp := [{ dst := some 9, op := .fad 4 (.tmp 1), after := [], guard := none },
  { dst := some 10, op := .load 1 false false (.tmp 9), after := [0], guard := none },
  { dst := some 11, op := .len 0 (.tmp 10), after := [1], guard := none },
  { dst := some 12, op := .copy false (.const (.int .i64 0)), after := [], guard := none }]
def F29r4 : List ROp := [{ dst := some 13, op := .bin .lss (.tmp 12) (.tmp 11), after := [], guard := none }]
def F29r5 : List ROp := [{ dst := some 14, op := .iad 6 (.tmp 10) (.tmp 12), after := [], guard := none },
  { dst := some 15, op := .load 6 true false (.tmp 14), after := [0], guard := none },
  { dst := some 6, op := .alloc 54 [Value.int .i64 0, Value.int .i64 0, Value.string ByteArray.empty, Value.slice none 0 0, Value.slice none 0 0, Value.slice none 0 0], after := [], guard := none },
  { dst := none, op := .store 6 true (.tmp 6) (.tmp 15), after := [2, 1, 0, 1, 2], guard := none }]
def F29r6 : List ROp := [{ dst := some 16, op := .copy true (.tmp 4), after := [], guard := none },
  { dst := some 17, op := .fad 5 (.tmp 6), after := [], guard := none },
  { dst := some 18, op := .load 1 false false (.tmp 17), after := [1], guard := none },
  { dst := some 19, op := .mkf (Go.Fn.func 50) [.tmp 6, .tmp 3], after := [], guard := none },
  { dst := some 20, op := .call (.func 49) [.tmp 18, .tmp 19], after := [2, 3], guard := none },
  { dst := some 21, op := .bslice 4 1 [Value.bool false] 1 [(0, .tmp 20)], after := [4], guard := none },
  { dst := some 22, op := .app 4 1 1 (.tmp 16) (.tmp 21), after := [0, 5, 4], guard := none },
  { dst := some 4, op := .copy true (.tmp 22), after := [6, 6, 0, 1, 2, 3, 4, 5, 6], guard := none }]
def F29r7 : List ROp := [{ dst := some 23, op := .bin .add (.tmp 12) (.const (.int .i64 1)), after := [], guard := none },
  { dst := some 12, op := .copy false (.tmp 23), after := [0], guard := none }]
def F29r8 : List ROp := [{ dst := some 24, op := .copy true (.tmp 4), after := [], guard := none },
  { dst := some 2, op := .copy true (.tmp 24), after := [0, 0], guard := none }]
def stIL (l : List LitD) (y : AV) (k : Nat) : AS := { tm := [(0, .rd 5 (l.map encL)), (1, y), (7, ival l.length), (8, ival k)], hp := [] }
theorem IndexFuncL_ok (l : List LitD) (hl : l.length ≤ 4194304) (f : FuncId) (caps : List AV) (hc : norefL caps = true) (p : LitD → Bool) (hp : ∀ x ∈ l, Con Try.prog f (.agg (encL x) :: caps) (bval (p x))) :
    Con Try.prog 60 [.rd 5 (l.map encL), .clo (.func f) caps] (ival (idxL p l 0)) := by
  have hw : withinL [] caps = true := withinL_of_noref [] caps hc
  refine Con.of_code Try.func60 (by kernel_rfl) rfl (by simp [Try.ntmps60]) fun C hC hM => ?_
  refine AWp.seq ?_
  refine AWp.reg [true] F60r0 [] (by kernel_rfl) (by rw [hC]; rfl) fun K hK => ?_
  simp [F60r0]
  first | refine hK _ ?_ | refine ⟨by omega, hK _ ?_⟩ | refine ⟨by omega, by omega, hK _ ?_⟩ | refine ⟨by omega, by omega, by omega, hK _ ?_⟩ | refine ⟨by omega, by omega, by omega, by omega, hK _ ?_⟩
  refine AWp.seq ?_
  refine AWp.seq ?_
  refine AWp.reg [] F60r1 [] (by kernel_rfl) (by rw [hC]; rfl) fun K hK => ?_
  simp [F60r1]
  first | refine hK _ ?_ | refine ⟨by omega, hK _ ?_⟩ | refine ⟨by omega, by omega, hK _ ?_⟩ | refine ⟨by omega, by omega, by omega, hK _ ?_⟩ | refine ⟨by omega, by omega, by omega, by omega, hK _ ?_⟩
  refine AWp.block ?_
  refine AWp.loopG (stIL l (.clo (.func f) caps)) (fun k => k ≤ l.length ∧ idxL p l 0 = idxL p (l.drop k) k) (fun k => l.length - k) 0 (by simp) (by simp [stIL, hw]) (fun k hk => ?_)
  obtain ⟨hk1, hk2⟩ := hk
  refine AWp.seq ?_
  refine AWp.reg [] F60r2 [] (by kernel_rfl) (by rw [hC]; rfl) fun K hK => ?_
  simp [F60r2, stIL]
  first | refine hK _ ?_ | refine ⟨by omega, hK _ ?_⟩ | refine ⟨by omega, by omega, hK _ ?_⟩ | refine ⟨by omega, by omega, by omega, hK _ ?_⟩ | refine ⟨by omega, by omega, by omega, by omega, hK _ ?_⟩
  refine AWp.seq ?_
  refine AWp.cond (decide (k < l.length)) (by simp) (fun hlt => ?_) (fun hge => ?_)
  · skip
    have hlt : k < l.length := by simpa using hlt
    have hd := idxL_drop p l k hlt
    have hpk := hp l[k] (List.getElem_mem hlt)
    refine AWp.skip ?_
    refine AWp.seq ?_
    refine AWp.block ?_
    refine AWp.seq ?_
    refine AWp.reg [true, true] F60r3 [] (by kernel_rfl) (by rw [hC]; rfl) fun K hK => ?_
    simp [F60r3, hlt]
    first | refine hK _ ?_ | refine ⟨by omega, hK _ ?_⟩ | refine ⟨by omega, by omega, hK _ ?_⟩ | refine ⟨by omega, by omega, by omega, hK _ ?_⟩ | refine ⟨by omega, by omega, by omega, by omega, hK _ ?_⟩
    refine AWp.seq ?_
    refine AWp.reg [] F60r4 [{ r := bval (p l[k]) }] (by kernel_rfl) (by rw [hC]; rfl) fun K hK => ?_
    simp [F60r4, hlt, encL]
    refine ⟨callOK (by simpa [norefL, noref] using hc) hpk, hK _ ?_⟩
    refine AWp.cond (p l[k]) (by simp) (fun heq => ?_) (fun hne => ?_)
    · skip
      refine AWp.seq ?_
      refine AWp.reg [true, true] F60r5 [] (by kernel_rfl) (by rw [hC]; rfl) fun K hK => ?_
      simp [F60r5]
      first | refine hK _ ?_ | refine ⟨by omega, hK _ ?_⟩ | refine ⟨by omega, by omega, hK _ ?_⟩ | refine ⟨by omega, by omega, by omega, hK _ ?_⟩ | refine ⟨by omega, by omega, by omega, by omega, hK _ ?_⟩
      repeat refine AWp.seq ?_
      refine AWp.ret ⟨.inr rfl, _, by simp [Try.results60] <;> rfl, ?_⟩
      rw [hk2, hd, if_pos heq]
      exact .closed rfl
    refine AWp.skip ?_
    refine AWp.reg [] F60r6 [] (by kernel_rfl) (by rw [hC]; rfl) fun K hK => ?_
    simp [F60r6]
    first | refine hK _ ?_ | refine ⟨by omega, hK _ ?_⟩ | refine ⟨by omega, by omega, hK _ ?_⟩ | refine ⟨by omega, by omega, by omega, hK _ ?_⟩ | refine ⟨by omega, by omega, by omega, by omega, hK _ ?_⟩
    refine ⟨k + 1, ⟨by omega, by rw [hk2, hd, if_neg (by simp [hne])]⟩, by omega, ?_⟩
    simp [stIL, hw, wrap_nat k (by omega)]
  have hge : ¬ k < l.length := by simpa using hge
  refine AWp.exit ?_
  refine AWp.seq ?_
  refine AWp.reg [true] F60r7 [] (by kernel_rfl) (by rw [hC]; rfl) fun K hK => ?_
  simp [F60r7]
  first | refine hK _ ?_ | refine ⟨by omega, hK _ ?_⟩ | refine ⟨by omega, by omega, hK _ ?_⟩ | refine ⟨by omega, by omega, by omega, hK _ ?_⟩ | refine ⟨by omega, by omega, by omega, by omega, hK _ ?_⟩
  repeat refine AWp.seq ?_
  refine AWp.ret ⟨.inr rfl, _, by simp [Try.results60] <;> rfl, ?_⟩
  rw [hk2, List.drop_eq_nil_of_le (by omega)]
  exact .closed rfl
theorem ContainsFuncL_ok (l : List LitD) (hl : l.length ≤ 4194304) (f : FuncId) (caps : List AV) (hc : norefL caps = true) (p : LitD → Bool) (hp : ∀ x ∈ l, Con Try.prog f (.agg (encL x) :: caps) (bval (p x))) :
    Con Try.prog 49 [.rd 5 (l.map encL), .clo (.func f) caps] (bval (l.any p)) := by
  refine Con.of_code Try.func49 (by kernel_rfl) rfl (by simp [Try.ntmps49]) fun C hC hM => ?_
  refine AWp.seq ?_
  refine AWp.reg [true] F49r0 [] (by kernel_rfl) (by rw [hC]; rfl) fun K hK => ?_
  simp [F49r0]
  first | refine hK _ ?_ | refine ⟨by omega, hK _ ?_⟩ | refine ⟨by omega, by omega, hK _ ?_⟩ | refine ⟨by omega, by omega, by omega, hK _ ?_⟩ | refine ⟨by omega, by omega, by omega, by omega, hK _ ?_⟩
  refine AWp.seq ?_
  refine AWp.reg [false, false, false, false, true] F49r1 [{ r := ival (idxL p l 0) }] (by kernel_rfl) (by rw [hC]; rfl) fun K hK => ?_
  simp [F49r1]
  refine ⟨callOK (by simpa using hc) (IndexFuncL_ok l hl f caps hc p hp), hK _ ?_⟩
  repeat refine AWp.seq ?_
  refine AWp.ret ⟨.inr rfl, _, by simp [Try.results49] <;> rfl, ?_⟩
  rw [← idxL_any p l 0]
  exact .closed rfl
theorem back_ok (rules : List RuleD) (r : RuleD) (x : LitD) : Con Try.prog 50 [.agg (encL x), .elt 6 [encR r] 0 0, .elt 1 [[onA rules]] 0 0] (bval (backL rules r x)) := by
  have hrel := related_ok x
  have hk := kvGet_T' x.rel (fun a => .kset (keysT (reachL rules a)) (.int .i64 1)) (onOf rules).keys
  have ha := keysT_any r.rel (reachL rules x.rel)
  refine Con.of_code Try.func50 (by kernel_rfl) rfl (by simp [Try.ntmps50]) fun C hC hM => ?_
  refine AWp.seq ?_
  refine AWp.reg [false, true] F50r0 [] (by kernel_rfl) (by rw [hC]; rfl) fun K hK => ?_
  simp [F50r0, encL, encR, onA]
  first | refine hK _ ?_ | refine ⟨by omega, hK _ ?_⟩ | refine ⟨by omega, by omega, hK _ ?_⟩ | refine ⟨by omega, by omega, by omega, hK _ ?_⟩ | refine ⟨by omega, by omega, by omega, by omega, hK _ ?_⟩
  refine AWp.seq ?_
  cases hr : related x with
  | false =>
    rw [hr] at hrel
    refine AWp.reg [false, false, false, false, false, false, false, false, false, false, false, false, false, false, false, false, false, false, false, true] F50r1 [{ r := bval false }] (by kernel_rfl) (by rw [hC]; rfl) fun K hK => ?_
    simp [F50r1]
    refine ⟨callOK rfl hrel, hK _ ?_⟩
    repeat refine AWp.seq ?_
    refine AWp.ret ⟨.inr rfl, _, by simp [Try.results50] <;> rfl, ?_⟩
    rw [show backL rules r x = false by simp [backL, hr]]
    exact .closed rfl
  | true =>
    rw [hr] at hrel
    by_cases he : x.rel = r.rel
    · skip
      refine AWp.reg [false, false, false, false, false, false, false, false, false, false, false, false, false, false, false, false, false, false, false, true] F50r1 [{ r := bval true }] (by kernel_rfl) (by rw [hC]; rfl) fun K hK => ?_
      simp [F50r1, he]
      refine ⟨callOK rfl (by simpa [encL, he] using hrel), hK _ ?_⟩
      repeat refine AWp.seq ?_
      refine AWp.ret ⟨.inr rfl, _, by simp [Try.results50] <;> rfl, ?_⟩
      rw [show backL rules r x = true by simp [backL, hr, he]]
      exact .closed rfl
    · cases hh : hasT (onOf rules).keys x.rel with
      | false =>
        rw [hh] at hk
        refine AWp.reg [false, false, false, false, false, false, false, false, false, false, false, false, false, false, false, false, false, false, false, true] F50r1 [{ r := bval true }] (by kernel_rfl) (by rw [hC]; rfl) fun K hK => ?_
        simp [F50r1, he, hk, kvGet]
        refine ⟨callOK rfl hrel, hK _ ?_⟩
        repeat refine AWp.seq ?_
        refine AWp.ret ⟨.inr rfl, _, by simp [Try.results50] <;> rfl, ?_⟩
        rw [show backL rules r x = false by simp [backL, hr, he, reach_none hh]]
        exact .closed rfl
      | true =>
        rw [hh] at hk
        cases hb : hasT (reachL rules x.rel) r.rel with
        | false =>
          rw [hb] at ha
          refine AWp.reg [false, false, false, false, false, false, false, false, false, false, false, false, false, false, false, false, false, false, false, true] F50r1 [{ r := bval true }] (by kernel_rfl) (by rw [hC]; rfl) fun K hK => ?_
          simp [F50r1, he, hk, ha]
          refine ⟨callOK rfl hrel, hK _ ?_⟩
          repeat refine AWp.seq ?_
          refine AWp.ret ⟨.inr rfl, _, by simp [Try.results50] <;> rfl, ?_⟩
          rw [show backL rules r x = false by simp [backL, hr, he, hb]]
          exact .closed rfl
        | true =>
          rw [hb] at ha
          refine AWp.reg [false, false, false, false, false, false, false, false, false, false, false, false, false, false, false, false, false, false, false, true] F50r1 [{ r := bval true }] (by kernel_rfl) (by rw [hC]; rfl) fun K hK => ?_
          simp [F50r1, he, hk, ha]
          refine ⟨callOK rfl hrel, hK _ ?_⟩
          repeat refine AWp.seq ?_
          refine AWp.ret ⟨.inr rfl, _, by simp [Try.results50] <;> rfl, ?_⟩
          rw [show backL rules r x = true by simp [backL, hr, he, hb]]
          exact .closed rfl
theorem backCall {g : Nat → Option Blk} {rules : List RuleD} {r : RuleD} (hb : r.body.length ≤ 4194304) (h0 : g 6 = some (.cells 54 (encR r))) (h1 : g 3 = some (.cells 98 [onA rules])) :
    ∃ ts, RsvL g [.rd 5 (r.body.map encL), .clo (.func 50) [.ptr 6 0, .ptr 3 0]] ts ∧ Con Try.prog 49 ts (bval (r.body.any (backL rules r))) :=
  ⟨_, .cons (.closed rfl) (.cons (.clo (.cons (.ptr h0 (RsvL.closed rfl)) (.cons (.ptr h1 (.cons (.closed (onA_noref rules)) .nil)) .nil))) .nil),
    ContainsFuncL_ok r.body hb 50 [.elt 6 [encR r] 0 0, .elt 1 [[onA rules]] 0 0] rfl _ fun x _ => back_ok rules r x⟩
noncomputable def stRo (m : ModD) (i : Nat) : AS :=
  { tm := [(1, .ptr 1 0), (3, .ptr 3 0), (4, .own 4 1 (bools ((roundsE m.rules).take i))), (10, .rd 6 (m.rules.map encR)), (11, ival m.rules.length), (12, ival i)], hp := [(1, .cells 52 (modC m)), (3, .cells 98 [onA m.rules])] }
@[simp] theorem onA_within (ids : List Nat) (rules : List RuleD) : within ids (onA rules) = true := within_of_noref ids _ (onA_noref rules)
theorem Rounds_ok (m : ModD) (hm : m.rules.length ≤ 900) (hb : ∀ r ∈ m.rules, r.body.length ≤ 1048576) : Con Try.prog 29 [encM m] (.rd 1 (bools (roundsE m.rules))) := by
  have hon := rests_ok m hm hb
  refine Con.of_code Try.func29 (by kernel_rfl) rfl (by simp [Try.ntmps29]) fun C hC hM => ?_
  refine AWp.seq ?_
  refine AWp.reg [false, true] F29r0 [] (by kernel_rfl) (by rw [hC]; rfl) fun K hK => ?_
  simp [F29r0, encM, modC]
  first | refine hK _ ?_ | refine ⟨by omega, hK _ ?_⟩ | refine ⟨by omega, by omega, hK _ ?_⟩ | refine ⟨by omega, by omega, by omega, hK _ ?_⟩ | refine ⟨by omega, by omega, by omega, by omega, hK _ ?_⟩
  refine AWp.seq ?_
  refine AWp.reg [false, false, false, true] F29r1 [{ r := onA m.rules }] (by kernel_rfl) (by rw [hC]; rfl) fun K hK => ?_
  simp [F29r1, encM, modC, onA]
  refine ⟨callOK rfl hon, hK _ ?_⟩
  refine AWp.seq ?_
  refine AWp.reg [true] F29r2 [] (by kernel_rfl) (by rw [hC]; rfl) fun K hK => ?_
  simp [F29r2]
  first | refine hK _ ?_ | refine ⟨by omega, hK _ ?_⟩ | refine ⟨by omega, by omega, hK _ ?_⟩ | refine ⟨by omega, by omega, by omega, hK _ ?_⟩ | refine ⟨by omega, by omega, by omega, by omega, hK _ ?_⟩
  refine AWp.seq ?_
  refine AWp.seq ?_
  refine AWp.reg [] F29r3 [] (by kernel_rfl) (by rw [hC]; rfl) fun K hK => ?_
  simp [F29r3]
  first | refine hK _ ?_ | refine ⟨by omega, hK _ ?_⟩ | refine ⟨by omega, by omega, hK _ ?_⟩ | refine ⟨by omega, by omega, by omega, hK _ ?_⟩ | refine ⟨by omega, by omega, by omega, by omega, hK _ ?_⟩
  refine AWp.block ?_
  refine AWp.loopG (stRo m) (fun i => i ≤ m.rules.length) (fun i => m.rules.length - i) 0 (by simp) (by simp [stRo, modC, onA, bools]) (fun i hi => ?_)
  refine AWp.seq ?_
  refine AWp.reg [] F29r4 [] (by kernel_rfl) (by rw [hC]; rfl) fun K hK => ?_
  simp [F29r4, stRo]
  first | refine hK _ ?_ | refine ⟨by omega, hK _ ?_⟩ | refine ⟨by omega, by omega, hK _ ?_⟩ | refine ⟨by omega, by omega, by omega, hK _ ?_⟩ | refine ⟨by omega, by omega, by omega, by omega, hK _ ?_⟩
  refine AWp.seq ?_
  refine AWp.cond (decide (i < m.rules.length)) (by simp) (fun hlt => ?_) (fun hge => ?_)
  · skip
    have hlt : i < m.rules.length := by simpa using hlt
    have hrl : i < (roundsE m.rules).length := by simpa [roundsE] using hlt
    have hstep : (roundsE m.rules).take (i + 1) = (roundsE m.rules).take i ++ [(roundsE m.rules)[i]] := List.take_succ_eq_append_getElem hrl
    have hre : (roundsE m.rules)[i] = m.rules[i].body.any (backL m.rules m.rules[i]) := by simp [roundsE]
    have hbr := hb _ (List.getElem_mem hlt)
    obtain ⟨r, hr⟩ : ∃ r, m.rules[i] = r := ⟨_, rfl⟩
    rw [hr] at hre hbr
    refine AWp.skip ?_
    refine AWp.seq ?_
    refine AWp.block ?_
    refine AWp.seq ?_
    refine AWp.reg [false, false, false, true] F29r5 [] (by kernel_rfl) (by rw [hC]; rfl) fun K hK => ?_
    simp [F29r5, hlt, hr, encR]
    first | refine hK _ ?_ | refine ⟨by omega, hK _ ?_⟩ | refine ⟨by omega, by omega, hK _ ?_⟩ | refine ⟨by omega, by omega, by omega, hK _ ?_⟩ | refine ⟨by omega, by omega, by omega, by omega, hK _ ?_⟩
    refine AWp.reg [true, false, false, false, false, false, false, true] F29r6 [{ r := bval (r.body.any (backL m.rules r)), us := [6, 3] }] (by kernel_rfl) (by rw [hC]; rfl) fun K hK => ?_
    simp [F29r6, encR]
    refine ⟨backCall (by omega) rfl rfl, ⟨by omega, by omega⟩, hK _ ?_⟩
    refine AWp.reg [] F29r7 [] (by kernel_rfl) (by rw [hC]; rfl) fun K hK => ?_
    simp [F29r7]
    first | refine hK _ ?_ | refine ⟨by omega, hK _ ?_⟩ | refine ⟨by omega, by omega, hK _ ?_⟩ | refine ⟨by omega, by omega, by omega, hK _ ?_⟩ | refine ⟨by omega, by omega, by omega, by omega, hK _ ?_⟩
    refine ⟨i + 1, by omega, by omega, ?_⟩
    simp [stRo, hstep, hre, bools_snoc, wrap_nat i (by omega)]
  have hge : ¬ i < m.rules.length := by simpa using hge
  refine AWp.exit ?_
  refine AWp.seq ?_
  refine AWp.reg [true, true] F29r8 [] (by kernel_rfl) (by rw [hC]; rfl) fun K hK => ?_
  simp [F29r8]
  first | refine hK _ ?_ | refine ⟨by omega, hK _ ?_⟩ | refine ⟨by omega, by omega, hK _ ?_⟩ | refine ⟨by omega, by omega, by omega, hK _ ?_⟩ | refine ⟨by omega, by omega, by omega, by omega, hK _ ?_⟩
  repeat refine AWp.seq ?_
  refine AWp.ret ⟨.inr rfl, _, by simp [Try.results29] <;> rfl, ?_⟩
  rw [List.take_of_length_le (show (roundsE m.rules).length ≤ i by simp [roundsE]; omega)]
  exact .own
end Go.Sl
