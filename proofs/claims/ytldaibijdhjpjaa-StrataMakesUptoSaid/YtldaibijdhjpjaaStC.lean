/- corollaryref15: Closed. -/
import Derived.Test.YtldaibijdhjpjaaStB
import Derived.Test.YtldaibijdhjpjaaStSpC
set_option linter.unusedSimpArgs false
set_option linter.unusedVariables false
open Go Go.Aw Go.Proofs
namespace Go.St
-- function 23: corollary/corollaryref15.Closed: 111 slots; results ['(Go.ResultVar.tmp 2)']
def F23r0 : List ROp := [{ dst := some 1, op := .box 28 (.tmp 0), after := [], guard := none },
  { dst := some 2, op := .copy true (.const (.slice none 0 0)), after := [], guard := none }]
def F23r1 : List ROp := [{ dst := some 10, op := .fad 3 (.tmp 1), after := [], guard := none },
  { dst := some 11, op := .load 1 false false (.tmp 10), after := [0], guard := none },
  { dst := some 12, op := .len 0 (.tmp 11), after := [1], guard := none },
  { dst := some 3, op := .copy true (.tmp 12), after := [2, 0, 1, 2], guard := none }]
def F23r2 : List ROp := [{ dst := some 13, op := .copy false (.tmp 3), after := [], guard := none },
  { dst := some 14, op := .copy false (.tmp 3), after := [], guard := none },
  { dst := some 15, op := .bin .mul (.tmp 13) (.tmp 14), after := [0, 1], guard := none },
  { dst := some 16, op := .mksl 4 1 1 [Value.bool false] (.tmp 15) (.tmp 15), after := [2, 2], guard := none },
  { dst := some 4, op := .copy true (.tmp 16), after := [3, 0, 1, 2, 3], guard := none }]
def F23r3 : List ROp := [{ dst := some 5, op := .copy true (.const (.int .i64 0)), after := [], guard := none }]
def F23r4 : List ROp := [{ dst := some 17, op := .copy false (.tmp 5), after := [], guard := none },
  { dst := some 18, op := .fad 4 (.tmp 1), after := [], guard := none },
  { dst := some 19, op := .load 1 false false (.tmp 18), after := [1], guard := none },
  { dst := some 20, op := .len 0 (.tmp 19), after := [2], guard := none },
  { dst := some 21, op := .bin .lss (.tmp 17) (.tmp 20), after := [0, 3], guard := none }]
def F23r5 : List ROp := [{ dst := some 22, op := .copy false (.tmp 5), after := [], guard := none },
  { dst := some 23, op := .bin .add (.tmp 22) (.const (.int .i64 1)), after := [0], guard := none },
  { dst := some 5, op := .copy true (.tmp 23), after := [1, 0, 1], guard := none }]
def F23r6 : List ROp := [{ dst := some 6, op := .copy true (.const (.int .i64 0)), after := [], guard := none }]
def F23r7 : List ROp := [{ dst := some 24, op := .copy false (.tmp 6), after := [], guard := none },
  { dst := some 25, op := .fad 4 (.tmp 1), after := [], guard := none },
  { dst := some 26, op := .load 1 false false (.tmp 25), after := [1], guard := none },
  { dst := some 27, op := .copy false (.tmp 5), after := [], guard := none },
  { dst := some 28, op := .iad 6 (.tmp 26) (.tmp 27), after := [2, 3], guard := none },
  { dst := some 29, op := .fad 5 (.tmp 28), after := [4], guard := none },
  { dst := some 30, op := .load 1 false false (.tmp 29), after := [5], guard := none },
  { dst := some 31, op := .len 0 (.tmp 30), after := [6], guard := none },
  { dst := some 32, op := .bin .lss (.tmp 24) (.tmp 31), after := [0, 7], guard := none }]
def F23r8 : List ROp := [{ dst := some 33, op := .copy false (.tmp 6), after := [], guard := none },
  { dst := some 34, op := .bin .add (.tmp 33) (.const (.int .i64 1)), after := [0], guard := none },
  { dst := some 6, op := .copy true (.tmp 34), after := [1, 0, 1], guard := none }]
def F23r9 : List ROp := [{ dst := some 35, op := .fad 4 (.tmp 1), after := [], guard := none },
  { dst := some 36, op := .load 1 false false (.tmp 35), after := [0], guard := none },
  { dst := some 37, op := .copy false (.tmp 5), after := [], guard := none },
  { dst := some 38, op := .iad 6 (.tmp 36) (.tmp 37), after := [1, 2], guard := none },
  { dst := some 39, op := .fad 5 (.tmp 38), after := [3], guard := none },
  { dst := some 40, op := .load 1 false false (.tmp 39), after := [4], guard := none },
  { dst := some 41, op := .copy false (.tmp 6), after := [], guard := none },
  { dst := some 42, op := .iad 5 (.tmp 40) (.tmp 41), after := [5, 6], guard := none },
  { dst := some 43, op := .load 5 true false (.tmp 42), after := [7], guard := none },
  { dst := some 44, op := .call (.func 18) [.tmp 43], after := [8], guard := none }]
def F23r10 : List ROp := [{ dst := some 45, op := .copy false (.tmp 4), after := [], guard := none },
  { dst := some 46, op := .load 6 true false (.tmp 1), after := [], guard := none },
  { dst := some 47, op := .fad 4 (.tmp 1), after := [], guard := none },
  { dst := some 48, op := .load 1 false false (.tmp 47), after := [2], guard := none },
  { dst := some 49, op := .copy false (.tmp 5), after := [], guard := none },
  { dst := some 50, op := .iad 6 (.tmp 48) (.tmp 49), after := [3, 4], guard := none },
  { dst := some 51, op := .fad 2 (.tmp 50), after := [5], guard := none },
  { dst := some 52, op := .load 1 false false (.tmp 51), after := [6], guard := none },
  { dst := some 53, op := .call (.func 17) [.tmp 46, .tmp 52], after := [1, 7], guard := none },
  { dst := some 54, op := .copy false (.tmp 3), after := [], guard := none },
  { dst := some 55, op := .bin .mul (.tmp 53) (.tmp 54), after := [8, 9], guard := none },
  { dst := some 56, op := .load 6 true false (.tmp 1), after := [], guard := none },
  { dst := some 57, op := .fad 4 (.tmp 1), after := [], guard := none },
  { dst := some 58, op := .load 1 false false (.tmp 57), after := [12], guard := none },
  { dst := some 59, op := .copy false (.tmp 5), after := [], guard := none },
  { dst := some 60, op := .iad 6 (.tmp 58) (.tmp 59), after := [13, 14], guard := none },
  { dst := some 61, op := .fad 5 (.tmp 60), after := [15], guard := none },
  { dst := some 62, op := .load 1 false false (.tmp 61), after := [16], guard := none },
  { dst := some 63, op := .copy false (.tmp 6), after := [], guard := none },
  { dst := some 64, op := .iad 5 (.tmp 62) (.tmp 63), after := [17, 18], guard := none },
  { dst := some 65, op := .fad 3 (.tmp 64), after := [19], guard := none },
  { dst := some 66, op := .load 1 false false (.tmp 65), after := [20], guard := none },
  { dst := some 67, op := .call (.func 17) [.tmp 56, .tmp 66], after := [11, 21, 8], guard := none },
  { dst := some 68, op := .bin .add (.tmp 55) (.tmp 67), after := [10, 22], guard := none },
  { dst := some 69, op := .iad 1 (.tmp 45) (.tmp 68), after := [0, 23, 0, 1, 2, 3, 4, 5, 6, 7, 8, 9, 10, 11, 12, 13, 14, 15, 16, 17, 18, 19, 20, 21, 22, 23], guard := none },
  { dst := none, op := .store 1 true (.tmp 69) (.const (.bool true)), after := [24, 22, 0, 1, 2, 3, 4, 5, 6, 7, 8, 9, 10, 11, 12, 13, 14, 15, 16, 17, 18, 19, 20, 21, 22, 23], guard := none }]
def F23r11 : List ROp := [{ dst := some 7, op := .copy true (.const (.int .i64 0)), after := [], guard := none }]
def F23r12 : List ROp := [{ dst := some 70, op := .copy false (.tmp 7), after := [], guard := none },
  { dst := some 71, op := .copy false (.tmp 3), after := [], guard := none },
  { dst := some 72, op := .bin .lss (.tmp 70) (.tmp 71), after := [0, 1], guard := none }]
def F23r13 : List ROp := [{ dst := some 73, op := .copy false (.tmp 7), after := [], guard := none },
  { dst := some 74, op := .bin .add (.tmp 73) (.const (.int .i64 1)), after := [0], guard := none },
  { dst := some 7, op := .copy true (.tmp 74), after := [1, 0, 1], guard := none }]
def F23r14 : List ROp := [{ dst := some 8, op := .copy true (.const (.int .i64 0)), after := [], guard := none }]
def F23r15 : List ROp := [{ dst := some 75, op := .copy false (.tmp 8), after := [], guard := none },
  { dst := some 76, op := .copy false (.tmp 3), after := [], guard := none },
  { dst := some 77, op := .bin .lss (.tmp 75) (.tmp 76), after := [0, 1], guard := none }]
def F23r16 : List ROp := [{ dst := some 78, op := .copy false (.tmp 8), after := [], guard := none },
  { dst := some 79, op := .bin .add (.tmp 78) (.const (.int .i64 1)), after := [0], guard := none },
  { dst := some 8, op := .copy true (.tmp 79), after := [1, 0, 1], guard := none }]
def F23r17 : List ROp := [{ dst := some 9, op := .copy true (.const (.int .i64 0)), after := [], guard := none }]
def F23r18 : List ROp := [{ dst := some 80, op := .copy false (.tmp 9), after := [], guard := none },
  { dst := some 81, op := .copy false (.tmp 3), after := [], guard := none },
  { dst := some 82, op := .bin .lss (.tmp 80) (.tmp 81), after := [0, 1], guard := none }]
def F23r19 : List ROp := [{ dst := some 83, op := .copy false (.tmp 9), after := [], guard := none },
  { dst := some 84, op := .bin .add (.tmp 83) (.const (.int .i64 1)), after := [0], guard := none },
  { dst := some 9, op := .copy true (.tmp 84), after := [1, 0, 1], guard := none }]
def F23r20 : List ROp := [{ dst := some 85, op := .copy false (.tmp 4), after := [], guard := none },
  { dst := some 86, op := .copy false (.tmp 8), after := [], guard := none },
  { dst := some 87, op := .copy false (.tmp 3), after := [], guard := none },
  { dst := some 88, op := .bin .mul (.tmp 86) (.tmp 87), after := [1, 2], guard := none },
  { dst := some 89, op := .copy false (.tmp 7), after := [], guard := none },
  { dst := some 90, op := .bin .add (.tmp 88) (.tmp 89), after := [3, 4], guard := none },
  { dst := some 91, op := .iad 1 (.tmp 85) (.tmp 90), after := [0, 5], guard := none },
  { dst := some 92, op := .load 1 false false (.tmp 91), after := [6], guard := none },
  { dst := some 93, op := .copy false (.tmp 92), after := [7], guard := none },
  { dst := some 94, op := .copy false (.tmp 4), after := [8], guard := some (93, true) },
  { dst := some 95, op := .copy false (.tmp 7), after := [8], guard := some (93, true) },
  { dst := some 96, op := .copy false (.tmp 3), after := [8], guard := some (93, true) },
  { dst := some 97, op := .bin .mul (.tmp 95) (.tmp 96), after := [10, 11, 8], guard := some (93, true) },
  { dst := some 98, op := .copy false (.tmp 9), after := [8], guard := some (93, true) },
  { dst := some 99, op := .bin .add (.tmp 97) (.tmp 98), after := [12, 13, 8], guard := some (93, true) },
  { dst := some 100, op := .iad 1 (.tmp 94) (.tmp 99), after := [9, 14, 8], guard := some (93, true) },
  { dst := some 101, op := .load 1 false false (.tmp 100), after := [15, 8], guard := some (93, true) },
  { dst := some 102, op := .pick (.tmp 93) (.tmp 101) (.const (.bool false)), after := [8, 16], guard := none }]
def F23r21 : List ROp := [{ dst := some 103, op := .copy false (.tmp 4), after := [], guard := none },
  { dst := some 104, op := .copy false (.tmp 8), after := [], guard := none },
  { dst := some 105, op := .copy false (.tmp 3), after := [], guard := none },
  { dst := some 106, op := .bin .mul (.tmp 104) (.tmp 105), after := [1, 2], guard := none },
  { dst := some 107, op := .copy false (.tmp 9), after := [], guard := none },
  { dst := some 108, op := .bin .add (.tmp 106) (.tmp 107), after := [3, 4], guard := none },
  { dst := some 109, op := .iad 1 (.tmp 103) (.tmp 108), after := [0, 5, 0, 1, 2, 3, 4, 5], guard := none },
  { dst := none, op := .store 1 true (.tmp 109) (.const (.bool true)), after := [6, 0, 1, 2, 3, 4, 5], guard := none }]
def F23r22 : List ROp := [{ dst := some 110, op := .copy true (.tmp 4), after := [], guard := none },
  { dst := some 2, op := .copy true (.tmp 110), after := [0, 0], guard := none }]
def bvals (l : List Bool) : List AV := l.map fun b => .val (.bool b)
def st23 (m : MMod) (N : Nat) (out : List Bool) (ts : List (Nat × AV)) : AS := { tm := [(1, .ptr 1 0), (3, ival m.rels.length), (4, .vec 16 1 0 N N)] ++ ts, hp := [(1, .cells 28 (modCells m)), (16, .cells 4 (bvals out))] }
attribute [simp] bvals
theorem Closed_ok (m : MMod) (hm : m.ok) (hg : Good m) : Con Try.prog 23 [encMod m] (.rd 1 ((closed m).map fun b => [.val (.bool b)])) := by
  have hn := hg.small
  have h2 := hm.rules
  have hnn : m.rels.length * m.rels.length ≤ 900 := Nat.mul_le_mul hn hn
  have hlen0 := base_len m
  have hbase : base m = m.rules.foldl (ruleStep m) (List.replicate (m.rels.length * m.rels.length) false) := rfl
  have hcl : closed m = itr (wV m.rels.length) m.rels.length (base m) := rfl
  obtain ⟨N, hN⟩ : ∃ N, N = m.rels.length * m.rels.length := ⟨_, rfl⟩
  rw [← hN] at hnn hlen0 hbase
  have hz : (List.replicate N false).length = N := by simp
  refine Con.of_code Try.func23 (by kernel_rfl) rfl (by simp [Try.ntmps23]) fun C hC hM => ?_
  repeat refine AWp.seq ?_
  refine AWp.reg [false, true] F23r0 [] (by kernel_rfl) (by rw [hC]; rfl) fun K hK => ?_
  simp [F23r0]
  refine hK _ ?_
  repeat refine AWp.seq ?_
  refine AWp.reg [false, false, false, true] F23r1 [] (by kernel_rfl) (by rw [hC]; rfl) fun K hK => ?_
  simp [F23r1]
  refine hK _ ?_
  repeat refine AWp.seq ?_
  refine AWp.reg [false, false, false, false, true] F23r2 [] (by kernel_rfl) (by rw [hC]; rfl) fun K hK => ?_
  simp [F23r2, wrap_mulE hN (by omega)]
  refine ⟨by omega, hK _ ?_⟩
  repeat refine AWp.seq ?_
  refine AWp.reg [true] F23r3 [] (by kernel_rfl) (by rw [hC]; rfl) fun K hK => ?_
  simp [F23r3]
  refine hK _ ?_
  refine AWp.block ?_
  refine AWp.loopG (fun k => st23 m N (itl (ruleStep m) m.rules k (List.replicate N false)) [(5, ival k)]) (fun k => k ≤ m.rules.length) (fun k => m.rules.length - k) 0 (by simp) (by simp [st23, itl]) (fun k hk1 => ?_)
  have hL := itl_inv (p := fun x => x.length = N) (ruleStep_len (m := m)) k (List.replicate N false) hz
  have hsucc := fun h => itl_succ (ruleStep m) m.rules k (List.replicate N false) h
  have hall := fun h => itl_all (ruleStep m) m.rules k (List.replicate N false) h
  revert hL hsucc hall
  generalize itl (ruleStep m) m.rules k (List.replicate N false) = out
  intro hL hsucc hall
  repeat refine AWp.seq ?_
  refine AWp.reg [] F23r4 [] (by kernel_rfl) (by rw [hC]; rfl) fun K hK => ?_
  simp [F23r4, st23]
  refine hK _ ?_
  refine AWp.cond (decide (k < m.rules.length)) (by simp) (fun hlt => ?_) (fun hge => ?_)
  · have hlt : k < m.rules.length := by simpa using hlt
    have hrm : m.rules[k] ∈ m.rules := List.getElem_mem hlt
    have hb := hm.bodies _ hrm
    have hhd := hg.heads _ hrm
    have hlit := hg.lits _ hrm
    have hst : ruleStep m out m.rules[k] = m.rules[k].body.foldl (litStep m m.rules[k]) out := rfl
    refine AWp.skip ?_
    repeat refine AWp.seq ?_
    refine AWp.block ?_
    repeat refine AWp.seq ?_
    refine AWp.reg [true] F23r6 [] (by kernel_rfl) (by rw [hC]; rfl) fun K hK => ?_
    simp [F23r6]
    refine hK _ ?_
    refine AWp.block ?_
    refine AWp.loopG (fun j => st23 m N (itl (litStep m m.rules[k]) m.rules[k].body j out) [(5, ival k), (6, ival j)]) (fun j => j ≤ m.rules[k].body.length) (fun j => m.rules[k].body.length - j) 0 (by simp) (by simp [st23, itl]) (fun j hj1 => ?_)
    have hL2 := itl_inv (p := fun x => x.length = N) (litStep_len (m := m) (r := m.rules[k])) j out hL
    have hsucc2 := fun (h : j < m.rules[k].body.length) => itl_succ (litStep m m.rules[k]) m.rules[k].body j out h
    have hall2 := fun (h : m.rules[k].body.length ≤ j) => itl_all (litStep m m.rules[k]) m.rules[k].body j out h
    revert hL2 hsucc2 hall2
    generalize itl (litStep m m.rules[k]) m.rules[k].body j out = out2
    intro hL2 hsucc2 hall2
    repeat refine AWp.seq ?_
    refine AWp.reg [] F23r7 [] (by kernel_rfl) (by rw [hC]; rfl) fun K hK => ?_
    simp [F23r7, st23, hlt]
    refine hK _ ?_
    refine AWp.cond (decide (j < m.rules[k].body.length)) (by simp) (fun hlt2 => ?_) (fun hge2 => ?_)
    · have hlt2 : j < m.rules[k].body.length := by simpa using hlt2
      refine AWp.skip ?_
      repeat refine AWp.seq ?_
      refine AWp.block ?_
      have hlead := Leads_ok m.rules[k].body[j]
      repeat refine AWp.seq ?_
      refine AWp.reg [] F23r9 [{ r := bval (leads m.rules[k].body[j]) }] (by kernel_rfl) (by rw [hC]; rfl) fun K hK => ?_
      simp [F23r9, hlt, hlt2]
      refine ⟨callOK rfl hlead, hK _ ?_⟩
      refine AWp.cond (leads m.rules[k].body[j]) (by simp) (fun hq => ?_) (fun hq => ?_)
      · have hx := hlit _ (List.getElem_mem hlt2) hq
        have ha1 := At_ok m m.rules[k].rel hm
        have ha2 := At_ok m m.rules[k].body[j].rel hm
        rw [At_idx hhd] at ha1
        rw [At_idx hx] at ha2
        have hi1 := idx_lt hhd
        have hi2 := idx_lt hx
        have hsq := sq_lt hi1 hi2
        have hls : litStep m m.rules[k] out2 m.rules[k].body[j] = out2.set (idx m m.rules[k].rel * m.rels.length + idx m m.rules[k].body[j].rel) true := by unfold litStep; rw [if_pos hq]
        rw [← hN] at hsq
        revert ha1 ha2 hi1 hi2 hsq hls
        generalize idx m m.rules[k].rel = a
        generalize idx m m.rules[k].body[j].rel = b
        intro ha1 ha2 hi1 hi2 hsq hls
        obtain ⟨p, hp⟩ : ∃ p, p = a * m.rels.length := ⟨_, rfl⟩
        rw [← hp] at hsq hls
        obtain ⟨q, hqq⟩ : ∃ q, q = p + b := ⟨_, rfl⟩
        rw [← hqq] at hsq hls
        have hsq' : q + 1 ≤ N := hsq
        repeat refine AWp.seq ?_
        refine AWp.regD ops_mixed [false, false, false, false, false, false, false, false, false, false, false, false, false, false, false, false, false, false, false, false, false, false, false, false, false, true] F23r10 [{ r := ival a }, { r := ival b }] (by kernel_rfl) (by rw [hC]; rfl) rfl (fun K hK => ?_) (by simp [F23r10, hlt, hlt2, wrap_mulE hp (by omega), wrap_addE hqq (by omega), hL2, hsq, hsq'] <;> rfl)
        simp [F23r10, hlt, hlt2, wrap_mulE hp (by omega), wrap_addE hqq (by omega), hL2, hsq, hsq']
        refine ⟨callOK rfl ha1, callOK rfl ha2, hK _ ?_⟩
        repeat refine AWp.seq ?_
        refine AWp.reg [false, false, true] F23r8 [] (by kernel_rfl) (by rw [hC]; rfl) fun K hK => ?_
        simp [F23r8]
        refine hK _ ⟨j + 1, by omega, by omega, ?_⟩
        rw [hsucc2 hlt2, hls]
        simp [st23, wrap_nat j (by omega), hL2, hsq, hsq']
      · refine AWp.skip ?_
        repeat refine AWp.seq ?_
        refine AWp.reg [false, false, true] F23r8 [] (by kernel_rfl) (by rw [hC]; rfl) fun K hK => ?_
        simp [F23r8]
        refine hK _ ⟨j + 1, by omega, by omega, ?_⟩
        rw [hsucc2 hlt2, show litStep m m.rules[k] out2 m.rules[k].body[j] = out2 by unfold litStep; rw [if_neg (by simp [hq])]]
        simp [st23, wrap_nat j (by omega)]
    have hge2 : ¬ j < m.rules[k].body.length := by simpa using hge2
    refine AWp.exit ?_
    repeat refine AWp.seq ?_
    refine AWp.reg [false, false, true] F23r5 [] (by kernel_rfl) (by rw [hC]; rfl) fun K hK => ?_
    simp [F23r5]
    refine hK _ ⟨k + 1, by omega, by omega, ?_⟩
    rw [hsucc hlt, hst, ← hall2 (by omega)]
    simp [st23, wrap_nat k (by omega)]
  have hge : ¬ k < m.rules.length := by simpa using hge
  have hbo : out = base m := by rw [hbase, hall (by omega)]
  subst hbo
  refine AWp.exit ?_
  repeat refine AWp.seq ?_
  refine AWp.reg [true] F23r11 [] (by kernel_rfl) (by rw [hC]; rfl) fun K hK => ?_
  simp [F23r11]
  refine hK _ ?_
  refine AWp.block ?_
  refine AWp.loopG (fun v => st23 m N (itr (wV m.rels.length) v (base m)) [(7, ival v)]) (fun v => v ≤ m.rels.length) (fun v => m.rels.length - v) 0 (by simp) (by simp [st23, itr]) (fun v hv1 => ?_)
  have hL3 := wW_len m.rels.length N v (base m) hL
  have hsucc3 : itr (wV m.rels.length) (v + 1) (base m) = wV m.rels.length v (itr (wV m.rels.length) v (base m)) := rfl
  have hall3 : v = m.rels.length → itr (wV m.rels.length) v (base m) = closed m := by intro e; rw [e, hcl]
  revert hL3 hsucc3 hall3
  generalize itr (wV m.rels.length) v (base m) = out1
  intro hL3 hsucc3 hall3
  repeat refine AWp.seq ?_
  refine AWp.reg [] F23r12 [] (by kernel_rfl) (by rw [hC]; rfl) fun K hK => ?_
  simp [F23r12, st23]
  refine hK _ ?_
  refine AWp.cond (decide (v < m.rels.length)) (by simp) (fun hlt => ?_) (fun hge => ?_)
  · have hlt : v < m.rels.length := by simpa using hlt
    refine AWp.skip ?_
    repeat refine AWp.seq ?_
    refine AWp.block ?_
    repeat refine AWp.seq ?_
    refine AWp.reg [true] F23r14 [] (by kernel_rfl) (by rw [hC]; rfl) fun K hK => ?_
    simp [F23r14]
    refine hK _ ?_
    refine AWp.block ?_
    refine AWp.loopG (fun a => st23 m N (itr (wA m.rels.length v) a out1) [(7, ival v), (8, ival a)]) (fun a => a ≤ m.rels.length) (fun a => m.rels.length - a) 0 (by simp) (by simp [st23, itr]) (fun a ha1 => ?_)
    have hL4 := wV_len m.rels.length v N a out1 hL3
    have hsucc4 : itr (wA m.rels.length v) (a + 1) out1 = wA m.rels.length v a (itr (wA m.rels.length v) a out1) := rfl
    have hall4 : a = m.rels.length → itr (wA m.rels.length v) a out1 = wV m.rels.length v out1 := by intro e; rw [e]; rfl
    revert hL4 hsucc4 hall4
    generalize itr (wA m.rels.length v) a out1 = out2
    intro hL4 hsucc4 hall4
    repeat refine AWp.seq ?_
    refine AWp.reg [] F23r15 [] (by kernel_rfl) (by rw [hC]; rfl) fun K hK => ?_
    simp [F23r15, st23]
    refine hK _ ?_
    refine AWp.cond (decide (a < m.rels.length)) (by simp) (fun hlt2 => ?_) (fun hge2 => ?_)
    · have hlt2 : a < m.rels.length := by simpa using hlt2
      refine AWp.skip ?_
      repeat refine AWp.seq ?_
      refine AWp.block ?_
      repeat refine AWp.seq ?_
      refine AWp.reg [true] F23r17 [] (by kernel_rfl) (by rw [hC]; rfl) fun K hK => ?_
      simp [F23r17]
      refine hK _ ?_
      refine AWp.block ?_
      refine AWp.loopG (fun b => st23 m N (itr (wStep m.rels.length v a) b out2) [(7, ival v), (8, ival a), (9, ival b)]) (fun b => b ≤ m.rels.length) (fun b => m.rels.length - b) 0 (by simp) (by simp [st23, itr]) (fun b hb1 => ?_)
      have hL5 := wA_len m.rels.length v a N b out2 hL4
      have hsucc5 : itr (wStep m.rels.length v a) (b + 1) out2 = wStep m.rels.length v a b (itr (wStep m.rels.length v a) b out2) := rfl
      have hall5 : b = m.rels.length → itr (wStep m.rels.length v a) b out2 = wA m.rels.length v a out2 := by intro e; rw [e]; rfl
      revert hL5 hsucc5 hall5
      generalize itr (wStep m.rels.length v a) b out2 = out
      intro hL5 hsucc5 hall5
      repeat refine AWp.seq ?_
      refine AWp.reg [] F23r18 [] (by kernel_rfl) (by rw [hC]; rfl) fun K hK => ?_
      simp [F23r18, st23]
      refine hK _ ?_
      refine AWp.cond (decide (b < m.rels.length)) (by simp) (fun hlt3 => ?_) (fun hge3 => ?_)
      · have hlt3 : b < m.rels.length := by simpa using hlt3
        refine AWp.skip ?_
        repeat refine AWp.seq ?_
        refine AWp.block ?_
        have e1 := sq_lt hlt2 hlt
        have e2 := sq_lt hlt hlt3
        have e3 := sq_lt hlt2 hlt3
        rw [← hN] at e1 e2 e3
        have hw : wStep m.rels.length v a b out = if out.getD (a * m.rels.length + v) false && out.getD (v * m.rels.length + b) false then out.set (a * m.rels.length + b) true else out := rfl
        obtain ⟨p1, hp1⟩ : ∃ p, p = a * m.rels.length := ⟨_, rfl⟩
        obtain ⟨p2, hp2⟩ : ∃ p, p = v * m.rels.length := ⟨_, rfl⟩
        rw [← hp1] at e1 e3 hw
        rw [← hp2] at e2 hw
        obtain ⟨q1, hq1⟩ : ∃ p, p = p1 + v := ⟨_, rfl⟩
        obtain ⟨q2, hq2⟩ : ∃ p, p = p2 + b := ⟨_, rfl⟩
        obtain ⟨q3, hq3⟩ : ∃ p, p = p1 + b := ⟨_, rfl⟩
        rw [← hq1] at e1 hw
        rw [← hq2] at e2 hw
        rw [← hq3] at e3 hw
        have e3' : q3 + 1 ≤ N := e3
        obtain ⟨b1, hb1⟩ : ∃ c, out[q1]? = some c := ⟨_, List.getElem?_eq_getElem (by omega)⟩
        obtain ⟨b2, hb2⟩ : ∃ c, out[q2]? = some c := ⟨_, List.getElem?_eq_getElem (by omega)⟩
        rw [List.getD_eq_getElem?_getD, hb1, List.getD_eq_getElem?_getD, hb2] at hw
        simp only [Option.getD_some] at hw
        cases b1 with
        | true =>
          repeat refine AWp.seq ?_
          refine AWp.reg [] F23r20 [] (by kernel_rfl) (by rw [hC]; rfl) fun K hK => ?_
          simp [F23r20, wrap_mulE hp1 (by omega), wrap_addE hq1 (by omega), wrap_mulE hp2 (by omega), wrap_addE hq2 (by omega), hb1, hb2]
          refine ⟨by omega, by omega, hK _ ?_⟩
          cases b2 with
          | true =>
            refine AWp.cond true (by simp) (fun _ => ?_) (fun he => by cases he)
            repeat refine AWp.seq ?_
            refine AWp.reg [false, false, false, false, false, false, false, true] F23r21 [] (by kernel_rfl) (by rw [hC]; rfl) fun K hK => ?_
            simp [F23r21, wrap_mulE hp1 (by omega), wrap_addE hq3 (by omega), hL5, e3, e3']
            refine hK _ ?_
            repeat refine AWp.seq ?_
            refine AWp.reg [false, false, true] F23r19 [] (by kernel_rfl) (by rw [hC]; rfl) fun K hK => ?_
            simp [F23r19]
            refine hK _ ⟨b + 1, by omega, by omega, ?_⟩
            rw [hsucc5, hw]
            simp [st23, wrap_nat b (by omega), hL5, e3, e3']
          | false =>
            refine AWp.cond false (by simp) (fun he => by cases he) (fun _ => ?_)
            refine AWp.skip ?_
            repeat refine AWp.seq ?_
            refine AWp.reg [false, false, true] F23r19 [] (by kernel_rfl) (by rw [hC]; rfl) fun K hK => ?_
            simp [F23r19]
            refine hK _ ⟨b + 1, by omega, by omega, ?_⟩
            rw [hsucc5, hw]
            simp [st23, wrap_nat b (by omega)]
        | false =>
          repeat refine AWp.seq ?_
          refine AWp.reg [] F23r20 [] (by kernel_rfl) (by rw [hC]; rfl) fun K hK => ?_
          simp [F23r20, wrap_mulE hp1 (by omega), wrap_addE hq1 (by omega), hb1]
          refine ⟨by omega, hK _ ?_⟩
          refine AWp.cond false (by simp) (fun he => by cases he) (fun _ => ?_)
          refine AWp.skip ?_
          repeat refine AWp.seq ?_
          refine AWp.reg [false, false, true] F23r19 [] (by kernel_rfl) (by rw [hC]; rfl) fun K hK => ?_
          simp [F23r19]
          refine hK _ ⟨b + 1, by omega, by omega, ?_⟩
          rw [hsucc5, hw]
          simp [st23, wrap_nat b (by omega)]
      have hge3 : ¬ b < m.rels.length := by simpa using hge3
      refine AWp.exit ?_
      repeat refine AWp.seq ?_
      refine AWp.reg [false, false, true] F23r16 [] (by kernel_rfl) (by rw [hC]; rfl) fun K hK => ?_
      simp [F23r16]
      refine hK _ ⟨a + 1, by omega, by omega, ?_⟩
      rw [hsucc4, ← hall5 (by omega)]
      simp [st23, wrap_nat a (by omega)]
    have hge2 : ¬ a < m.rels.length := by simpa using hge2
    refine AWp.exit ?_
    repeat refine AWp.seq ?_
    refine AWp.reg [false, false, true] F23r13 [] (by kernel_rfl) (by rw [hC]; rfl) fun K hK => ?_
    simp [F23r13]
    refine hK _ ⟨v + 1, by omega, by omega, ?_⟩
    rw [hsucc3, ← hall4 (by omega)]
    simp [st23, wrap_nat v (by omega)]
  have hge : ¬ v < m.rels.length := by simpa using hge
  refine AWp.exit ?_
  repeat refine AWp.seq ?_
  refine AWp.reg [true, true] F23r22 [] (by kernel_rfl) (by rw [hC]; rfl) fun K hK => ?_
  simp [F23r22]
  refine hK _ ?_
  repeat refine AWp.seq ?_
  refine AWp.ret ⟨.inr rfl, _, by simp [Try.results23] <;> rfl, ?_⟩
  rw [← hall3 (by omega)]
  have hr := Rsv.vec1 (g := lk (st23 m N out1 []).hp) (b := 16) (n := N) (e := 4) (cs := bvals out1) rfl (by simp) (by simp [hL3])
  simp only [bvals, List.map_map, Function.comp_def] at hr
  exact hr
end Go.St
