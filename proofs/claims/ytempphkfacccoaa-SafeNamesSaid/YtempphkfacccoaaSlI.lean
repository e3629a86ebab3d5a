/- Whether a program is taken. -/
import Derived.Test.YtempphkfacccoaaSlG
import Derived.Test.YtempphkfacccoaaSlSpI
set_option linter.unusedSimpArgs false
set_option linter.unusedVariables false
open Go Go.Aw Go.Proofs
namespace Go.Sl
-- function 54: corollary/safe.old$1: 15 slots; results ['(Go.ResultVar.tmp 3)']
def F54r0 : List ROp := [{ dst := some 2, op := .box 31 (.tmp 0), after := [], guard := none },
  { dst := some 3, op := .copy true (.const (.bool false)), after := [], guard := none }]
def F54r1 : List ROp := [{ dst := some 4, op := .fad 0 (.tmp 2), after := [], guard := none },
  { dst := some 5, op := .load 1 false false (.tmp 4), after := [0], guard := none },
  { dst := some 6, op := .bin .eql (.tmp 5) (.const (.int .u8 1)), after := [1], guard := none },
  { dst := some 7, op := .copy false (.tmp 6), after := [2], guard := none },
  { dst := some 8, op := .fad 4 (.tmp 2), after := [3], guard := some (7, true) },
  { dst := some 9, op := .load 1 false false (.tmp 8), after := [4, 3], guard := some (7, true) },
  { dst := some 10, op := .call (.func 33) [.tmp 9], after := [5, 3, 3], guard := some (7, true) },
  { dst := some 11, op := .fad 3 (.tmp 1), after := [3], guard := some (7, true) },
  { dst := some 12, op := .load 1 false false (.tmp 11), after := [7, 3], guard := some (7, true) },
  { dst := some 13, op := .call (.func 36) [.tmp 10, .tmp 12], after := [6, 8, 6, 3], guard := some (7, true) },
  { dst := some 14, op := .pick (.tmp 7) (.tmp 13) (.const (.bool false)), after := [3, 9], guard := none },
  { dst := some 3, op := .copy true (.tmp 14), after := [10, 9, 0, 1, 2, 3, 4, 5, 6, 7, 8, 9, 10], guard := none }]
-- function 37: corollary/safe.old: 36 slots; results ['(Go.ResultVar.tmp 4)']
def F37r0 : List ROp := [{ dst := some 2, op := .box 54 (.tmp 0), after := [], guard := none },
  { dst := some 4, op := .copy true (.const (.bool false)), after := [], guard := none }]
def F37r1 : List ROp := [{ dst := some 6, op := .fad 3 (.tmp 2), after := [], guard := none },
  { dst := some 7, op := .load 1 false false (.tmp 6), after := [0], guard := none },
  { dst := some 8, op := .copy false (.tmp 1), after := [], guard := none },
  { dst := some 9, op := .iad 9 (.tmp 7) (.tmp 8), after := [1, 2], guard := none },
  { dst := some 10, op := .load 9 true false (.tmp 9), after := [3], guard := none },
  { dst := some 5, op := .alloc 42 [Value.int .u8 0, Value.int .i64 0, Value.int .i64 0, Value.string ByteArray.empty, Value.int .u8 0, Value.int .i64 0, Value.string ByteArray.empty, Value.slice none 0 0, Value.slice none 0 0], after := [], guard := none },
  { dst := none, op := .store 9 true (.tmp 5) (.tmp 10), after := [5, 4, 0, 1, 2, 3, 4, 5], guard := none }]
def F37r2 : List ROp := [{ dst := some 12, op := .copy false (.tmp 1), after := [], guard := none },
  { dst := some 13, op := .fad 4 (.tmp 2), after := [], guard := none },
  { dst := some 14, op := .load 1 false false (.tmp 13), after := [1], guard := none },
  { dst := some 15, op := .len 0 (.tmp 14), after := [2], guard := none },
  { dst := some 16, op := .bin .lss (.tmp 12) (.tmp 15), after := [0, 3], guard := none },
  { dst := some 17, op := .copy false (.tmp 16), after := [4], guard := none },
  { dst := some 18, op := .fad 4 (.tmp 2), after := [5], guard := some (17, true) },
  { dst := some 19, op := .load 1 false false (.tmp 18), after := [6, 5], guard := some (17, true) },
  { dst := some 20, op := .copy false (.tmp 1), after := [5], guard := some (17, true) },
  { dst := some 21, op := .iad 1 (.tmp 19) (.tmp 20), after := [7, 8, 5], guard := some (17, true) },
  { dst := some 22, op := .load 1 false false (.tmp 21), after := [9, 5], guard := some (17, true) },
  { dst := some 23, op := .bin .neq (.tmp 22) (.const (.string { data := #[] })), after := [10, 5], guard := some (17, true) },
  { dst := some 24, op := .pick (.tmp 17) (.tmp 23) (.const (.bool false)), after := [5, 11], guard := none },
  { dst := some 11, op := .copy true (.tmp 24), after := [12, 5], guard := none }]
def F37r3 : List ROp := [{ dst := some 25, op := .fad 0 (.tmp 5), after := [], guard := none },
  { dst := some 26, op := .load 1 false false (.tmp 25), after := [0], guard := none },
  { dst := some 27, op := .bin .eql (.tmp 26) (.const (.int .u8 1)), after := [1], guard := none },
  { dst := some 11, op := .copy true (.tmp 27), after := [2], guard := none }]
def F37r4 : List ROp := [{ dst := some 4, op := .copy true (.const (.bool true)), after := [], guard := none }]
def F37r5 : List ROp := [{ dst := some 29, op := .fad 0 (.tmp 5), after := [], guard := none },
  { dst := some 30, op := .load 1 false false (.tmp 29), after := [0], guard := none },
  { dst := some 31, op := .bin .neq (.tmp 30) (.const (.int .u8 2)), after := [1], guard := none },
  { dst := some 28, op := .copy true (.tmp 31), after := [2], guard := none }]
def F37r6 : List ROp := [{ dst := some 4, op := .copy true (.const (.bool false)), after := [], guard := none }]
def F37r7 : List ROp := [{ dst := some 32, op := .fad 5 (.tmp 2), after := [], guard := none },
  { dst := some 33, op := .load 1 false false (.tmp 32), after := [0], guard := none },
  { dst := some 34, op := .mkf (Go.Fn.func 54) [.tmp 5], after := [], guard := none },
  { dst := some 35, op := .call (.func 49) [.tmp 33, .tmp 34], after := [1, 2], guard := none },
  { dst := some 4, op := .copy true (.tmp 35), after := [3, 3, 0, 1, 2, 3], guard := none }]
-- function 35: corollary/safe.Check$1: 8 slots; results ['(Go.ResultVar.tmp 3)']
def F35r0 : List ROp := [{ dst := some 3, op := .copy true (.const (.bool false)), after := [], guard := none }]
def F35r1 : List ROp := [{ dst := some 4, op := .load 1 false false (.tmp 1), after := [], guard := none },
  { dst := some 5, op := .copy false (.tmp 0), after := [], guard := none },
  { dst := some 6, op := .call (.func 36) [.tmp 4, .tmp 5], after := [0, 1], guard := none },
  { dst := some 7, op := .un .not (.tmp 6), after := [2], guard := none },
  { dst := some 3, op := .copy true (.tmp 7), after := [3, 2, 0, 1, 2, 3], guard := none }]
theorem inAtom_ok (x : LitD) (a : ExprD) (hs : sizes x.args ≤ 4194303) : Con Try.prog 54 [.agg (encL x), .elt 9 [encE a] 0 0] (bval (x.kind == 1 && hasT (varsOf x.args) a.name)) := by
  have hv := vars_ok x.args hs
  have hl := varsOf_len x.args
  have hc := Contains_ok (varsOf x.args) a.name (by omega)
  refine Con.of_code Try.func54 (by kernel_rfl) rfl (by simp [Try.ntmps54]) fun C hC hM => ?_
  refine AWp.seq ?_
  refine AWp.reg [false, true] F54r0 [] (by kernel_rfl) (by rw [hC]; rfl) fun K hK => ?_
  simp [F54r0, encL, encE_eq]
  first | refine hK _ ?_ | refine ⟨by omega, hK _ ?_⟩ | refine ⟨by omega, by omega, hK _ ?_⟩ | refine ⟨by omega, by omega, by omega, hK _ ?_⟩ | refine ⟨by omega, by omega, by omega, by omega, hK _ ?_⟩
  refine AWp.seq ?_
  by_cases hk : x.kind = 1
  · skip
    refine AWp.regD ops_mixed [false, false, false, false, false, false, false, false, false, false, false, true] F54r1 [{ r := .rd 1 (texts (varsOf x.args)) }, { r := bval (hasT (varsOf x.args) a.name) }] (by kernel_rfl) (by rw [hC]; rfl) rfl (fun K hK => ?_) (by simp [F54r1, hk, encE_eq] <;> rfl)
    simp [F54r1, hk, encE_eq]
    refine ⟨callOK rfl hv, callOK rfl hc, hK _ ?_⟩
    repeat refine AWp.seq ?_
    refine AWp.ret ⟨.inr rfl, _, by simp [Try.results54] <;> rfl, ?_⟩
    simp only [hk]
    exact .closed rfl
  · have hk' : (x.kind == 1) = false := by simpa using hk
    refine AWp.regD ops_mixed [false, false, false, false, false, false, false, false, false, false, false, true] F54r1 [] (by kernel_rfl) (by rw [hC]; rfl) rfl (fun K hK => ?_) (by simp [F54r1, hk, hk', encE_eq] <;> rfl)
    simp [F54r1, hk, hk', encE_eq]
    refine hK _ ?_
    repeat refine AWp.seq ?_
    refine AWp.ret ⟨.inr rfl, _, by simp [Try.results54] <;> rfl, ?_⟩
    simp only [hk']
    exact .closed rfl
theorem oldIn {g : Nat → Option Blk} {l : List LitD} {a : ExprD} {ea : List AV} (he : ea = encE a) (hl : wts l ≤ 4194304) (hb : l.length ≤ 4194304) (h0 : g 5 = some (.cells 42 ea)) :
    ∃ ts, RsvL g [.rd 5 (l.map encL), .clo (.func 54) [.ptr 5 0]] ts ∧ Con Try.prog 49 ts (bval (inAtoms l a.name)) := by
  subst he
  exact ⟨_, .cons (.closed rfl) (.cons (.clo (.cons (.ptr h0 (RsvL.closed (encE_noref a))) .nil)) .nil),
    ContainsFuncL_ok l hb 54 [.elt (encE a).length [encE a] 0 0] rfl _ fun x hx => by
      rw [encE_len]
      refine inAtom_ok x a ?_
      obtain ⟨i, hi⟩ := List.mem_iff_getElem?.1 hx
      have := wtL_le l i x hi
      simp only [wtL] at this; omega⟩
theorem old_ok (r : RuleD) (k : Nat) (a : ExprD) (ha : r.args[k]? = some a) (hl : wts r.body ≤ 4194304) (hb : r.body.length ≤ 4194304) : Con Try.prog 37 [.agg (encR r), ival k] (bval (oldE r k a)) := by
  have hka : k < r.args.length := (List.getElem?_eq_some_iff.1 ha).1
  have hke : r.args[k] = a := (List.getElem?_eq_some_iff.1 ha).2
  refine Con.of_code Try.func37 (by kernel_rfl) rfl (by simp [Try.ntmps37]) fun C hC hM => ?_
  refine AWp.seq ?_
  refine AWp.reg [false, true] F37r0 [] (by kernel_rfl) (by rw [hC]; rfl) fun K hK => ?_
  simp [F37r0, encR, hka, hke, encE_eq]
  first | refine hK _ ?_ | refine ⟨by omega, hK _ ?_⟩ | refine ⟨by omega, by omega, hK _ ?_⟩ | refine ⟨by omega, by omega, by omega, hK _ ?_⟩ | refine ⟨by omega, by omega, by omega, by omega, hK _ ?_⟩
  refine AWp.seq ?_
  refine AWp.reg [false, false, false, false, false, false, true] F37r1 [] (by kernel_rfl) (by rw [hC]; rfl) fun K hK => ?_
  simp [F37r1, encR, hka, hke, encE_eq]
  first | refine hK _ ?_ | refine ⟨by omega, hK _ ?_⟩ | refine ⟨by omega, by omega, hK _ ?_⟩ | refine ⟨by omega, by omega, by omega, hK _ ?_⟩ | refine ⟨by omega, by omega, by omega, by omega, hK _ ?_⟩
  refine AWp.seq ?_
  refine AWp.block ?_
  refine AWp.seqJ (fun _ : Unit => { tm := [(2, .ptr 2 0), (5, .ptr 5 0), (11, bval (aggAt r k || a.kind == 1))], hp := [(2, .cells 54 (encR r)), (5, .cells 42 (encE a))] }) (fun _ => True) ?_ (fun hJ => ?_)
  · skip
    rintro - -
    have hold : oldE r k a = ((aggAt r k || a.kind == 1) || (a.kind == 2 && inAtoms r.body a.name)) := rfl
    cases hc : (aggAt r k || a.kind == 1) with
    | true =>
      refine AWp.cond true (by simp) (fun _ => ?_) (fun he => by cases he)
      refine AWp.seq ?_
      refine AWp.reg [true] F37r4 [] (by kernel_rfl) (by rw [hC]; rfl) fun K hK => ?_
      simp [F37r4]
      first | refine hK _ ?_ | refine ⟨by omega, hK _ ?_⟩ | refine ⟨by omega, by omega, hK _ ?_⟩ | refine ⟨by omega, by omega, by omega, hK _ ?_⟩ | refine ⟨by omega, by omega, by omega, by omega, hK _ ?_⟩
      repeat refine AWp.seq ?_
      refine AWp.ret ⟨.inr rfl, _, by simp [Try.results37] <;> rfl, ?_⟩
      rw [hold, hc]
      exact .closed rfl
    | false =>
      refine AWp.cond false (by simp) (fun he => by cases he) (fun _ => ?_)
      by_cases hk2 : a.kind = 2
      · skip
        refine AWp.seq ?_
        refine AWp.reg [false, false, false, true] F37r5 [] (by kernel_rfl) (by rw [hC]; rfl) fun K hK => ?_
        simp [F37r5, encE_eq, hk2]
        first | refine hK _ ?_ | refine ⟨by omega, hK _ ?_⟩ | refine ⟨by omega, by omega, hK _ ?_⟩ | refine ⟨by omega, by omega, by omega, hK _ ?_⟩ | refine ⟨by omega, by omega, by omega, by omega, hK _ ?_⟩
        refine AWp.cond false (by simp) (fun he => by cases he) (fun _ => ?_)
        refine AWp.skip ?_
        refine AWp.seq ?_
        refine AWp.reg [false, false, false, false, true] F37r7 [{ r := bval (inAtoms r.body a.name), us := [5] }] (by kernel_rfl) (by rw [hC]; rfl) fun K hK => ?_
        simp [F37r7, encR]
        refine ⟨oldIn (by rw [encE_eq, hk2]; rfl) hl hb rfl, hK _ ?_⟩
        repeat refine AWp.seq ?_
        refine AWp.ret ⟨.inr rfl, _, by simp [Try.results37] <;> rfl, ?_⟩
        rw [hold, hc, hk2]
        exact .closed rfl
      · have hk3 : (a.kind == 2) = false := by simpa using hk2
        refine AWp.seq ?_
        refine AWp.reg [false, false, false, true] F37r5 [] (by kernel_rfl) (by rw [hC]; rfl) fun K hK => ?_
        simp [F37r5, encE_eq, hk2]
        first | refine hK _ ?_ | refine ⟨by omega, hK _ ?_⟩ | refine ⟨by omega, by omega, hK _ ?_⟩ | refine ⟨by omega, by omega, by omega, hK _ ?_⟩ | refine ⟨by omega, by omega, by omega, by omega, hK _ ?_⟩
        refine AWp.cond true (by simp [hk2]) (fun _ => ?_) (fun he => by cases he)
        refine AWp.seq ?_
        refine AWp.reg [true] F37r6 [] (by kernel_rfl) (by rw [hC]; rfl) fun K hK => ?_
        simp [F37r6]
        first | refine hK _ ?_ | refine ⟨by omega, hK _ ?_⟩ | refine ⟨by omega, by omega, hK _ ?_⟩ | refine ⟨by omega, by omega, by omega, hK _ ?_⟩ | refine ⟨by omega, by omega, by omega, by omega, hK _ ?_⟩
        repeat refine AWp.seq ?_
        refine AWp.ret ⟨.inr rfl, _, by simp [Try.results37] <;> rfl, ?_⟩
        rw [hold, hc, hk3]
        exact .closed rfl
  by_cases hk : k < r.aggs.length
  · obtain ⟨t, ht⟩ : ∃ t, r.aggs[k] = t := ⟨_, rfl⟩
    have hag : aggAt r k = !decide (t = ⟨#[]⟩) := by simp only [aggAt, List.getElem?_eq_getElem hk, ht]
    by_cases hte : t = ⟨#[]⟩
    · have hag1 : aggAt r k = false := by rw [hag, decide_eq_true hte]; rfl
      subst hte
      refine AWp.seq ?_
      refine AWp.reg [false, false, false, false, false, false, false, false, false, false, false, false, false, true] F37r2 [] (by kernel_rfl) (by rw [hC]; rfl) fun K hK => ?_
      simp [F37r2, encR, hk, ht]
      first | refine hK _ ?_ | refine ⟨by omega, hK _ ?_⟩ | refine ⟨by omega, by omega, hK _ ?_⟩ | refine ⟨by omega, by omega, by omega, hK _ ?_⟩ | refine ⟨by omega, by omega, by omega, by omega, hK _ ?_⟩
      refine AWp.cond false (by simp) (fun he => by cases he) (fun _ => ?_)
      refine AWp.reg [false, false, false, true] F37r3 [] (by kernel_rfl) (by rw [hC]; rfl) fun K hK => ?_
      simp [F37r3, encE_eq]
      first | refine hK _ ?_ | refine ⟨by omega, hK _ ?_⟩ | refine ⟨by omega, by omega, hK _ ?_⟩ | refine ⟨by omega, by omega, by omega, hK _ ?_⟩ | refine ⟨by omega, by omega, by omega, by omega, hK _ ?_⟩
      refine hJ _ () trivial ?_
      rw [hag1]
      simp [encE_eq, encR]
    · have hag1 : aggAt r k = true := by rw [hag, decide_eq_false hte]; rfl
      refine AWp.seq ?_
      refine AWp.reg [false, false, false, false, false, false, false, false, false, false, false, false, false, true] F37r2 [] (by kernel_rfl) (by rw [hC]; rfl) fun K hK => ?_
      simp [F37r2, encR, hk, ht]
      first | refine hK _ ?_ | refine ⟨by omega, hK _ ?_⟩ | refine ⟨by omega, by omega, hK _ ?_⟩ | refine ⟨by omega, by omega, by omega, hK _ ?_⟩ | refine ⟨by omega, by omega, by omega, by omega, hK _ ?_⟩
      refine AWp.cond true (by simp; exact hte) (fun _ => ?_) (fun he => by cases he)
      refine AWp.skip ?_
      refine hJ _ () trivial ?_
      rw [hag1]
      simp [encE_eq, encR]
      exact hte
  · have hag : aggAt r k = false := by simp only [aggAt, List.getElem?_eq_none (Nat.le_of_not_lt hk)]
    refine AWp.seq ?_
    refine AWp.reg [false, false, false, false, false, false, false, false, false, false, false, false, false, true] F37r2 [] (by kernel_rfl) (by rw [hC]; rfl) fun K hK => ?_
    simp [F37r2, encR, hk]
    first | refine hK _ ?_ | refine ⟨by omega, hK _ ?_⟩ | refine ⟨by omega, by omega, hK _ ?_⟩ | refine ⟨by omega, by omega, by omega, hK _ ?_⟩ | refine ⟨by omega, by omega, by omega, by omega, hK _ ?_⟩
    refine AWp.cond false (by simp) (fun he => by cases he) (fun _ => ?_)
    refine AWp.reg [false, false, false, true] F37r3 [] (by kernel_rfl) (by rw [hC]; rfl) fun K hK => ?_
    simp [F37r3, encE_eq]
    first | refine hK _ ?_ | refine ⟨by omega, hK _ ?_⟩ | refine ⟨by omega, by omega, hK _ ?_⟩ | refine ⟨by omega, by omega, by omega, hK _ ?_⟩ | refine ⟨by omega, by omega, by omega, by omega, hK _ ?_⟩
    refine hJ _ () trivial ?_
    rw [hag]
    simp [encE_eq, encR]
theorem unbound_ok (names : List ByteArray) (s : ByteArray) (hn : names.length ≤ 4194304) : Con Try.prog 35 [sval s, .elt 1 [[.rd 1 (texts names)]] 0 0] (bval (!hasT names s)) := by
  have hc := Contains_ok names s hn
  refine Con.of_code Try.func35 (by kernel_rfl) rfl (by simp [Try.ntmps35]) fun C hC hM => ?_
  refine AWp.seq ?_
  refine AWp.reg [true] F35r0 [] (by kernel_rfl) (by rw [hC]; rfl) fun K hK => ?_
  simp [F35r0]
  first | refine hK _ ?_ | refine ⟨by omega, hK _ ?_⟩ | refine ⟨by omega, by omega, hK _ ?_⟩ | refine ⟨by omega, by omega, by omega, hK _ ?_⟩ | refine ⟨by omega, by omega, by omega, by omega, hK _ ?_⟩
  refine AWp.seq ?_
  refine AWp.reg [false, false, false, false, true] F35r1 [{ r := bval (hasT names s) }] (by kernel_rfl) (by rw [hC]; rfl) fun K hK => ?_
  simp [F35r1]
  refine ⟨callOK rfl hc, hK _ ?_⟩
  repeat refine AWp.seq ?_
  refine AWp.ret ⟨.inr rfl, _, by simp [Try.results35] <;> rfl, ?_⟩
  exact .closed rfl
theorem unbIn {g : Nat → Option Blk} {names v : List ByteArray} (hn : names.length ≤ 4194304) (hv : v.length ≤ 4194304) (h0 : g 7 = some (.cells 32 [.rd 1 (texts names)])) :
    ∃ ts, RsvL g [.rd 1 (texts v), .clo (.func 35) [.ptr 7 0]] ts ∧ Con Try.prog 34 ts (bval (v.any fun s => !hasT names s)) :=
  ⟨_, .cons (.closed rfl) (.cons (.clo (.cons (.ptr h0 (.cons (.closed rfl) .nil)) .nil)) .nil),
    ContainsFunc_ok v hv 35 [.elt 1 [[.rd 1 (texts names)]] 0 0] rfl _ fun x _ => unbound_ok names x hn⟩
end Go.Sl
