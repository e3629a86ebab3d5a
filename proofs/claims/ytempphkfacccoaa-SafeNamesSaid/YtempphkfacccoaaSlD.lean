/- What rests on what. -/
import Derived.Test.YtempphkfacccoaaSlC
import Derived.Test.YtempphkfacccoaaSlSpW
set_option linter.unusedSimpArgs false
set_option linter.unusedVariables false
open Go Go.Aw Go.Proofs
namespace Go.Sl
-- function 51: corollary/safe.related: 11 slots; results ['(Go.ResultVar.tmp 2)']
def F51r0 : List ROp := [{ dst := some 1, op := .box 31 (.tmp 0), after := [], guard := none },
  { dst := some 2, op := .copy true (.const (.bool false)), after := [], guard := none }]
def F51r1 : List ROp := [{ dst := some 3, op := .fad 0 (.tmp 1), after := [], guard := none },
  { dst := some 4, op := .load 1 false false (.tmp 3), after := [0], guard := none },
  { dst := some 5, op := .bin .eql (.tmp 4) (.const (.int .u8 1)), after := [1], guard := none },
  { dst := some 6, op := .copy false (.tmp 5), after := [2], guard := none },
  { dst := some 7, op := .fad 0 (.tmp 1), after := [3], guard := some (6, false) },
  { dst := some 8, op := .load 1 false false (.tmp 7), after := [4, 3], guard := some (6, false) },
  { dst := some 9, op := .bin .eql (.tmp 8) (.const (.int .u8 2)), after := [5, 3], guard := some (6, false) },
  { dst := some 10, op := .pick (.tmp 6) (.const (.bool true)) (.tmp 9), after := [3, 6], guard := none },
  { dst := some 2, op := .copy true (.tmp 10), after := [7, 3, 0, 1, 2, 3, 4, 5, 6, 7], guard := none }]
-- function 48: corollary/safe.rests: 73 slots; results ['(Go.ResultVar.tmp 2)']
def F48r0 : List ROp := [{ dst := some 1, op := .box 52 (.tmp 0), after := [], guard := none },
  { dst := some 2, op := .copy true (.const (.map none)), after := [], guard := none }]
def F48r1 : List ROp := [{ dst := some 12, op := .mkmap none, after := [], guard := none },
  { dst := some 3, op := .copy true (.tmp 12), after := [0, 0], guard := none }]
def F48r2 : List ROp := [{ dst := some 13, op := .fad 4 (.tmp 1), after := [], guard := none },
  { dst := some 14, op := .load 1 false false (.tmp 13), after := [0], guard := none },
  { dst := some 15, op := .len 0 (.tmp 14), after := [1], guard := none },
  { dst := some 16, op := .copy false (.const (.int .i64 0)), after := [], guard := none }]
def F48r3 : List ROp := [{ dst := some 17, op := .bin .lss (.tmp 16) (.tmp 15), after := [], guard := none }]
def F48r4 : List ROp := [{ dst := some 18, op := .iad 6 (.tmp 14) (.tmp 16), after := [], guard := none },
  { dst := some 19, op := .load 6 true false (.tmp 18), after := [0], guard := none },
  { dst := some 5, op := .alloc 54 [Value.int .i64 0, Value.int .i64 0, Value.string ByteArray.empty, Value.slice none 0 0, Value.slice none 0 0, Value.slice none 0 0], after := [], guard := none },
  { dst := none, op := .store 6 true (.tmp 5) (.tmp 19), after := [2, 1, 0, 1, 2], guard := none }]
def F48r5 : List ROp := [{ dst := some 20, op := .copy false (.tmp 3), after := [], guard := none },
  { dst := some 21, op := .fad 2 (.tmp 5), after := [], guard := none },
  { dst := some 22, op := .load 1 false false (.tmp 21), after := [1], guard := none },
  { dst := some 23, op := .lkp 1 (Value.map none) false (.tmp 20) (.tmp 22), after := [0, 2], guard := none },
  { dst := some 24, op := .isnil false (.tmp 23), after := [3], guard := none }]
def F48r6 : List ROp := [{ dst := some 25, op := .copy false (.tmp 3), after := [], guard := none },
  { dst := some 26, op := .fad 2 (.tmp 5), after := [], guard := none },
  { dst := some 27, op := .load 1 false false (.tmp 26), after := [1], guard := none },
  { dst := some 28, op := .mkmap none, after := [], guard := none },
  { dst := none, op := .mupd 1 (.tmp 25) (.tmp 27) (.tmp 28), after := [0, 2, 3, 0, 1, 2, 3], guard := none }]
def F48r7 : List ROp := [{ dst := some 29, op := .fad 5 (.tmp 5), after := [], guard := none },
  { dst := some 30, op := .load 1 false false (.tmp 29), after := [0], guard := none },
  { dst := some 31, op := .len 0 (.tmp 30), after := [1], guard := none },
  { dst := some 32, op := .copy false (.const (.int .i64 0)), after := [], guard := none }]
def F48r8 : List ROp := [{ dst := some 33, op := .bin .lss (.tmp 32) (.tmp 31), after := [], guard := none }]
def F48r9 : List ROp := [{ dst := some 34, op := .iad 5 (.tmp 30) (.tmp 32), after := [], guard := none },
  { dst := some 35, op := .load 5 true false (.tmp 34), after := [0], guard := none },
  { dst := some 7, op := .alloc 31 [Value.int .u8 0, Value.int .i64 0, Value.int .i64 0, Value.string ByteArray.empty, Value.slice none 0 0], after := [], guard := none },
  { dst := none, op := .store 5 true (.tmp 7) (.tmp 35), after := [2, 1, 0, 1, 2], guard := none }]
def F48r10 : List ROp := [{ dst := some 36, op := .load 5 true false (.tmp 7), after := [], guard := none },
  { dst := some 37, op := .call (.func 51) [.tmp 36], after := [0], guard := none }]
def F48r11 : List ROp := [{ dst := some 38, op := .copy false (.tmp 3), after := [], guard := none },
  { dst := some 39, op := .fad 2 (.tmp 5), after := [], guard := none },
  { dst := some 40, op := .load 1 false false (.tmp 39), after := [1], guard := none },
  { dst := some 41, op := .lkp 1 (Value.map none) false (.tmp 38) (.tmp 40), after := [0, 2], guard := none },
  { dst := some 42, op := .fad 3 (.tmp 7), after := [], guard := none },
  { dst := some 43, op := .load 1 false false (.tmp 42), after := [4], guard := none },
  { dst := none, op := .mupd 1 (.tmp 41) (.tmp 43) (.const (.int .i64 1)), after := [3, 5, 0, 1, 2, 3, 4, 5], guard := none }]
def F48r12 : List ROp := [{ dst := some 44, op := .bin .add (.tmp 32) (.const (.int .i64 1)), after := [], guard := none },
  { dst := some 32, op := .copy false (.tmp 44), after := [0], guard := none }]
def F48r13 : List ROp := [{ dst := some 45, op := .bin .add (.tmp 16) (.const (.int .i64 1)), after := [], guard := none },
  { dst := some 16, op := .copy false (.tmp 45), after := [0], guard := none }]
def F48r14 : List ROp := [{ dst := some 46, op := .copy false (.tmp 3), after := [], guard := none }]
def F48r15 : List ROp := []
def F48r16 : List ROp := []
def F48r17 : List ROp := [{ dst := some 52, op := .copy false (.tmp 3), after := [], guard := none }]
def F48r18 : List ROp := []
def F48r19 : List ROp := []
def F48r20 : List ROp := [{ dst := some 58, op := .copy false (.tmp 10), after := [], guard := none },
  { dst := some 59, op := .copy false (.tmp 8), after := [], guard := none },
  { dst := some 60, op := .lkp 1 (Value.int .i64 0) false (.tmp 58) (.tmp 59), after := [0, 1], guard := none },
  { dst := some 61, op := .bin .eql (.tmp 60) (.const (.int .i64 0)), after := [2], guard := none }]
def F48r21 : List ROp := [{ dst := some 62, op := .copy false (.tmp 3), after := [], guard := none },
  { dst := some 63, op := .copy false (.tmp 8), after := [], guard := none },
  { dst := some 64, op := .lkp 1 (Value.map none) false (.tmp 62) (.tmp 63), after := [0, 1], guard := none }]
def F48r22 : List ROp := []
def F48r23 : List ROp := []
def F48r24 : List ROp := [{ dst := some 70, op := .copy false (.tmp 10), after := [], guard := none },
  { dst := some 71, op := .copy false (.tmp 11), after := [], guard := none },
  { dst := none, op := .mupd 1 (.tmp 70) (.tmp 71) (.const (.int .i64 1)), after := [0, 1, 0, 1], guard := none }]
def F48r25 : List ROp := [{ dst := some 72, op := .copy true (.tmp 3), after := [], guard := none },
  { dst := some 2, op := .copy true (.tmp 72), after := [0, 0], guard := none }]
theorem related_ok (x : LitD) : Con Try.prog 51 [.agg (encL x)] (bval (related x)) := by
  refine Con.of_code Try.func51 (by kernel_rfl) rfl (by simp [Try.ntmps51]) fun C hC hM => ?_
  by_cases h1 : x.kind = 1
  · skip
    refine AWp.seq ?_
    refine AWp.reg [false, true] F51r0 [] (by kernel_rfl) (by rw [hC]; rfl) fun K hK => ?_
    simp [F51r0, encL, h1]
    first | refine hK _ ?_ | refine ⟨by omega, hK _ ?_⟩ | refine ⟨by omega, by omega, hK _ ?_⟩ | refine ⟨by omega, by omega, by omega, hK _ ?_⟩ | refine ⟨by omega, by omega, by omega, by omega, hK _ ?_⟩
    refine AWp.seq ?_
    refine AWp.reg [false, false, false, false, false, false, false, false, true] F51r1 [] (by kernel_rfl) (by rw [hC]; rfl) fun K hK => ?_
    simp [F51r1, encL, h1]
    first | refine hK _ ?_ | refine ⟨by omega, hK _ ?_⟩ | refine ⟨by omega, by omega, hK _ ?_⟩ | refine ⟨by omega, by omega, by omega, hK _ ?_⟩ | refine ⟨by omega, by omega, by omega, by omega, hK _ ?_⟩
    repeat refine AWp.seq ?_
    refine AWp.ret ⟨.inr rfl, _, by simp [Try.results51] <;> rfl, ?_⟩
    simp only [related, h1]
    exact .closed rfl
  · have h1' : (x.kind == 1) = false := by simpa using h1
    refine AWp.seq ?_
    refine AWp.reg [false, true] F51r0 [] (by kernel_rfl) (by rw [hC]; rfl) fun K hK => ?_
    simp [F51r0, encL, h1, h1']
    first | refine hK _ ?_ | refine ⟨by omega, hK _ ?_⟩ | refine ⟨by omega, by omega, hK _ ?_⟩ | refine ⟨by omega, by omega, by omega, hK _ ?_⟩ | refine ⟨by omega, by omega, by omega, by omega, hK _ ?_⟩
    refine AWp.seq ?_
    refine AWp.reg [false, false, false, false, false, false, false, false, true] F51r1 [] (by kernel_rfl) (by rw [hC]; rfl) fun K hK => ?_
    simp [F51r1, encL, h1, h1']
    first | refine hK _ ?_ | refine ⟨by omega, hK _ ?_⟩ | refine ⟨by omega, by omega, hK _ ?_⟩ | refine ⟨by omega, by omega, by omega, hK _ ?_⟩ | refine ⟨by omega, by omega, by omega, by omega, hK _ ?_⟩
    repeat refine AWp.seq ?_
    refine AWp.ret ⟨.inr rfl, _, by simp [Try.results51] <;> rfl, ?_⟩
    rw [show related x = (x.kind == 2) by simp [related, h1']]
    exact .closed rfl
def stR (m : ModD) (s : OnSt) (ts : List (Nat × AV)) (ls : List (Nat × Blk)) : AS :=
  { tm := [(1, .ptr 1 0), (3, .mapr 1000)] ++ ts, hp := (1, .cells 52 (modC m)) :: (1000, .map (keysT s.keys) (inner s.keys.length)) :: zipB (rowsB s.rows) ls }
theorem stR_le {m : ModD} {s : OnSt} {ts : List (Nat × AV)} {ls : List (Nat × Blk)} {a : AS} (h1 : lk a.hp 1 = some (.cells 52 (modC m))) (h2 : lk a.hp 1000 = some (.map (keysT s.keys) (inner s.keys.length))) (h3 : ∀ i (hi : i < s.rows.length), lk a.hp (1001 + i) = some (blkR s.rows[i])) (hl : s.rows.length = s.keys.length)
    (ht : withinTm ((stR m s ts ls).hp.map (·.1)) a (stR m s ts ls).tm) (hls : withinHp ((stR m s ts ls).hp.map (·.1)) a ls) : (stR m s ts ls).le a := by
  refine ⟨ht, ?_⟩
  show withinHp _ a ((1, _) :: (1000, _) :: zipB (rowsB s.rows) ls)
  simp only [withinHp]
  refine ⟨?_, rfl, ?_, ?_, withinHp_zip h3 hls⟩
  · rw [h1]; simp
  · rw [h2]; simp
  · simp only [Blk.within]
    refine inner_within fun i hi => ?_
    have := zip_names s.rows ls i (by rw [hl]; exact hi)
    show List.contains (1 :: 1000 :: (zipB (rowsB s.rows) ls).map (·.1)) _ = true
    simp only [List.contains_cons, Bool.or_eq_true]
    exact .inr (.inr this)
attribute [local simp] encR encL ins_zip_lt lk_zip_lt ne_lit renHp_zip inner_ren renL_append
set_option maxHeartbeats 4000000 in
theorem rests_ok (m : ModD) (hm : m.rules.length ≤ 900) (hb : ∀ r ∈ m.rules, r.body.length ≤ 1048576) : Con Try.prog 48 [encM m] (onA m.rules) := by
  refine Con.of_code Try.func48 (by kernel_rfl) rfl (by simp [Try.ntmps48]) fun C hC hM => ?_
  refine AWp.seq ?_
  refine AWp.reg [false, true] F48r0 [] (by kernel_rfl) (by rw [hC]; rfl) fun K hK => ?_
  simp [F48r0, encM, modC]
  first | refine hK _ ?_ | refine ⟨by omega, hK _ ?_⟩ | refine ⟨by omega, by omega, hK _ ?_⟩ | refine ⟨by omega, by omega, by omega, hK _ ?_⟩ | refine ⟨by omega, by omega, by omega, by omega, hK _ ?_⟩
  refine AWp.seq ?_
  refine AWp.reg [false, true] F48r1 [] (by kernel_rfl) (by rw [hC]; rfl) fun K hK => ?_
  simp [F48r1, encM, modC]
  first | refine hK _ ?_ | refine ⟨by omega, hK _ ?_⟩ | refine ⟨by omega, by omega, hK _ ?_⟩ | refine ⟨by omega, by omega, by omega, hK _ ?_⟩ | refine ⟨by omega, by omega, by omega, by omega, hK _ ?_⟩
  refine AWp.seq ?_
  refine AWp.seq ?_
  refine AWp.reg [] F48r2 [] (by kernel_rfl) (by rw [hC]; rfl) fun K hK => ?_
  simp [F48r2, encM, modC]
  first | refine hK _ ?_ | refine ⟨by omega, hK _ ?_⟩ | refine ⟨by omega, by omega, hK _ ?_⟩ | refine ⟨by omega, by omega, by omega, hK _ ?_⟩ | refine ⟨by omega, by omega, by omega, by omega, hK _ ?_⟩
  refine AWp.block ?_
  refine AWp.renP hM 12 1000 (by decide) (by simp) _ rfl ?_
  refine AWp.loopG (fun i : Nat => stR m ((m.rules.take i).foldl ruleOn ⟨[], []⟩) [(14, .rd 6 (m.rules.map encR)), (15, ival m.rules.length), (16, ival i)] []) (fun i => i ≤ m.rules.length) (fun i => m.rules.length - i) 0 (by simp) (by simp [stR, modC, zipB, rowsB, zipFrom, inner]) (fun i hi => ?_)
  have hsl := onFold_len (m.rules.take i) ⟨[], []⟩
  have hse := onFold_eqlen (m.rules.take i) ⟨[], []⟩ rfl
  refine AWp.seq ?_
  refine AWp.reg [] F48r3 [] (by kernel_rfl) (by rw [hC]; rfl) fun K hK => ?_
  simp [F48r3, stR]
  first | refine hK _ ?_ | refine ⟨by omega, hK _ ?_⟩ | refine ⟨by omega, by omega, hK _ ?_⟩ | refine ⟨by omega, by omega, by omega, hK _ ?_⟩ | refine ⟨by omega, by omega, by omega, by omega, hK _ ?_⟩
  refine AWp.seq ?_
  refine AWp.cond (decide (i < m.rules.length)) (by simp) (fun hlt => ?_) (fun hge => ?_)
  · skip
    have hlt : i < m.rules.length := by simpa using hlt
    have hstep : (m.rules.take (i + 1)).foldl ruleOn ⟨[], []⟩ = ruleOn ((m.rules.take i).foldl ruleOn ⟨[], []⟩) m.rules[i] := by rw [List.take_succ_eq_append_getElem hlt, List.foldl_append]; rfl
    have hbr := hb _ (List.getElem_mem hlt)
    obtain ⟨r, hr⟩ : ∃ r, m.rules[i] = r := ⟨_, rfl⟩
    rw [hr] at hstep hbr
    have hsl' : ((m.rules.take i).foldl ruleOn ⟨[], []⟩).keys.length ≤ 900 := by simp at hsl; omega
    generalize (m.rules.take i).foldl ruleOn ⟨[], []⟩ = s0 at *
    have hkv := kvGet_inner r.rel s0.keys
    have hal := addRow_len s0 r.rel
    have hae := addRow_eqlen hse r.rel
    refine AWp.skip ?_
    refine AWp.seq ?_
    refine AWp.block ?_
    refine AWp.seq ?_
    refine AWp.reg [false, false, false, true] F48r4 [] (by kernel_rfl) (by rw [hC]; rfl) fun K hK => ?_
    simp [F48r4, hlt, hr]
    first | refine hK _ ?_ | refine ⟨by omega, hK _ ?_⟩ | refine ⟨by omega, by omega, hK _ ?_⟩ | refine ⟨by omega, by omega, by omega, hK _ ?_⟩ | refine ⟨by omega, by omega, by omega, by omega, hK _ ?_⟩
    refine AWp.seqJ (fun _ : Unit => stR m (addRow s0 r.rel) [(14, .rd 6 (m.rules.map encR)), (15, ival m.rules.length), (16, ival i), (5, .ptr 5 0)] [(5, .cells 54 (encR r))]) (fun _ => True) ?_ (fun hJ => ?_)
    · skip
      rintro - -
      have hmem : r.rel ∈ (addRow s0 r.rel).keys := by
        unfold addRow
        cases hx : idxT r.rel s0.keys 0 with
        | some j => obtain ⟨_, _, h3⟩ := idxT_some hx; exact List.mem_of_getElem? (by simpa using h3)
        | none => simp
      obtain ⟨j, hj, hjl, hjk⟩ := idxT_mem hmem
      have hru : ruleOn s0 r = r.body.foldl (addDep r.rel) (addRow s0 r.rel) := rfl
      generalize addRow s0 r.rel = s1 at *
      refine AWp.seq ?_
      refine AWp.reg [] F48r7 [] (by kernel_rfl) (by rw [hC]; rfl) fun K hK => ?_
      simp [F48r7, stR]
      first | refine hK _ ?_ | refine ⟨by omega, hK _ ?_⟩ | refine ⟨by omega, by omega, hK _ ?_⟩ | refine ⟨by omega, by omega, by omega, hK _ ?_⟩ | refine ⟨by omega, by omega, by omega, by omega, hK _ ?_⟩
      refine AWp.block ?_
      refine AWp.loopG (fun c : Nat => stR m ((r.body.take c).foldl (addDep r.rel) s1) [(14, .rd 6 (m.rules.map encR)), (15, ival m.rules.length), (16, ival i), (5, .ptr 5 0), (30, .rd 5 (r.body.map encL)), (31, ival r.body.length), (32, ival c)] [(5, .cells 54 (encR r))]) (fun c => c ≤ r.body.length) (fun c => r.body.length - c) 0 (by simp) ?_ (fun c hcc => ?_)
      · exact stR_le (by simp) (by simp) (fun i hi => by simp at hi; simp [lk_zip_in, rowsB_get, hi]) (by simpa using hae) (by simp [stR]) (by simp [stR])
      have hkeys := body_keys r.rel (r.body.take c) s1
      have hlens := body_len r.rel (r.body.take c) s1
      refine AWp.seq ?_
      refine AWp.reg [] F48r8 [] (by kernel_rfl) (by rw [hC]; rfl) fun K hK => ?_
      simp [F48r8, stR]
      first | refine hK _ ?_ | refine ⟨by omega, hK _ ?_⟩ | refine ⟨by omega, by omega, hK _ ?_⟩ | refine ⟨by omega, by omega, by omega, hK _ ?_⟩ | refine ⟨by omega, by omega, by omega, by omega, hK _ ?_⟩
      refine AWp.seq ?_
      refine AWp.cond (decide (c < r.body.length)) (by simp) (fun hltc => ?_) (fun hgec => ?_)
      · skip
        have hltc : c < r.body.length := by simpa using hltc
        have hstep2 : (r.body.take (c + 1)).foldl (addDep r.rel) s1 = addDep r.rel ((r.body.take c).foldl (addDep r.rel) s1) r.body[c] := by rw [List.take_succ_eq_append_getElem hltc, List.foldl_append]; rfl
        generalize (r.body.take c).foldl (addDep r.rel) s1 = s2 at *
        obtain ⟨x, hx⟩ : ∃ x, r.body[c] = x := ⟨_, rfl⟩
        rw [hx] at hstep2
        have hrel := related_ok x
        refine AWp.skip ?_
        refine AWp.seq ?_
        refine AWp.block ?_
        refine AWp.seq ?_
        refine AWp.reg [false, false, false, true] F48r9 [] (by kernel_rfl) (by rw [hC]; rfl) fun K hK => ?_
        simp [F48r9, hltc, hx]
        first | refine hK _ ?_ | refine ⟨by omega, hK _ ?_⟩ | refine ⟨by omega, by omega, hK _ ?_⟩ | refine ⟨by omega, by omega, by omega, hK _ ?_⟩ | refine ⟨by omega, by omega, by omega, by omega, hK _ ?_⟩
        refine AWp.seq ?_
        cases hq : related x with
        | false =>
          rw [hq] at hrel
          have hs3 : addDep r.rel s2 x = s2 := by unfold addDep; rw [hq]; rfl
          refine AWp.reg [] F48r10 [{ r := bval false }] (by kernel_rfl) (by rw [hC]; rfl) fun K hK => ?_
          simp [F48r10]
          refine ⟨callOK rfl hrel, hK _ ?_⟩
          refine AWp.cond false (by simp) (fun he => by cases he) (fun _ => ?_)
          refine AWp.skip ?_
          refine AWp.reg [] F48r12 [] (by kernel_rfl) (by rw [hC]; rfl) fun K hK => ?_
          simp [F48r12]
          first | refine hK _ ?_ | refine ⟨by omega, hK _ ?_⟩ | refine ⟨by omega, by omega, hK _ ?_⟩ | refine ⟨by omega, by omega, by omega, hK _ ?_⟩ | refine ⟨by omega, by omega, by omega, by omega, hK _ ?_⟩
          refine ⟨c + 1, by omega, by omega, ?_⟩
          rw [hstep2, hs3]
          exact stR_le (by simp) (by simp) (fun i hi => by simp [lk_zip_in, rowsB_get, hi]) (by rw [hkeys, hlens]; exact hae) (by simp [stR, wrap_nat c (by omega)]) (by simp [stR])
        | true =>
          rw [hq] at hrel
          have hj2 : idxT r.rel s2.keys 0 = some j := by rw [hkeys]; exact hj
          have hjr : j < s2.rows.length := by rw [hlens, hae]; exact hjl
          have hs3 : addDep r.rel s2 x = ⟨s2.keys, s2.rows.set j (addT (s2.rows.getD j []) x.rel)⟩ := by unfold addDep; rw [hq, hj2]; rfl
          have hkv := kvGet_inner r.rel s2.keys
          rw [hj2] at hkv
          obtain ⟨row, hrow⟩ : ∃ row, s2.rows.getD j [] = row := ⟨_, rfl⟩
          have hlk : ∀ l, lk (zipB (rowsB s2.rows) l) (1001 + j) = some (.map (keysT row) (ones row)) := fun l => by rw [lk_row hjr, hrow]
          rw [hrow] at hs3
          have hadd := kvSet_add x.rel row
          refine AWp.reg [] F48r10 [{ r := bval true }] (by kernel_rfl) (by rw [hC]; rfl) fun K hK => ?_
          simp [F48r10]
          refine ⟨callOK rfl hrel, hK _ ?_⟩
          refine AWp.cond true (by simp) (fun _ => ?_) (fun he => by cases he)
          refine AWp.reg [] F48r11 [] (by kernel_rfl) (by rw [hC]; rfl) fun K hK => ?_
          simp [F48r11, hkv, hlk, hjr, hadd, ins_row]
          first | refine hK _ ?_ | refine ⟨by omega, hK _ ?_⟩ | refine ⟨by omega, by omega, hK _ ?_⟩ | refine ⟨by omega, by omega, by omega, hK _ ?_⟩ | refine ⟨by omega, by omega, by omega, by omega, hK _ ?_⟩
          refine AWp.reg [] F48r12 [] (by kernel_rfl) (by rw [hC]; rfl) fun K hK => ?_
          simp [F48r12, hkv, hlk, hjr, hadd, ins_row]
          first | refine hK _ ?_ | refine ⟨by omega, hK _ ?_⟩ | refine ⟨by omega, by omega, hK _ ?_⟩ | refine ⟨by omega, by omega, by omega, hK _ ?_⟩ | refine ⟨by omega, by omega, by omega, by omega, hK _ ?_⟩
          refine ⟨c + 1, by omega, by omega, ?_⟩
          rw [hstep2, hs3]
          exact stR_le (by simp) (by simp) (fun i hi => by simp at hi; simp [lk_zip_in, rowsB_get, hi]) (by simp [hkeys, hlens, hae]) (by simp [stR, wrap_nat c (by omega)]) (by simp [stR])
      have hgec : ¬ c < r.body.length := by simpa using hgec
      refine AWp.exit ?_
      refine AWp.reg [] F48r13 [] (by kernel_rfl) (by rw [hC]; rfl) fun K hK => ?_
      simp [F48r13]
      first | refine hK _ ?_ | refine ⟨by omega, hK _ ?_⟩ | refine ⟨by omega, by omega, hK _ ?_⟩ | refine ⟨by omega, by omega, by omega, hK _ ?_⟩ | refine ⟨by omega, by omega, by omega, by omega, hK _ ?_⟩
      refine ⟨i + 1, by omega, by omega, ?_⟩
      rw [hstep, hru]
      rw [List.take_of_length_le (show r.body.length ≤ c by omega)] at *
      exact stR_le (by simp) (by simp) (fun i hi => by simp [lk_zip_in, rowsB_get, hi]) (by rw [hkeys, hlens]; exact hae) (by simp [stR, wrap_nat i (by omega)]) (by simp [stR])
    cases hx : idxT r.rel s0.keys 0 with
    | some j =>
      have hs1 : addRow s0 r.rel = s0 := by simp only [addRow, hx]
      rw [hx] at hkv
      refine AWp.seq ?_
      refine AWp.reg [] F48r5 [] (by kernel_rfl) (by rw [hC]; rfl) fun K hK => ?_
      simp [F48r5, hkv]
      first | refine hK _ ?_ | refine ⟨by omega, hK _ ?_⟩ | refine ⟨by omega, by omega, hK _ ?_⟩ | refine ⟨by omega, by omega, by omega, hK _ ?_⟩ | refine ⟨by omega, by omega, by omega, by omega, hK _ ?_⟩
      refine AWp.cond false (by simp) (fun he => by cases he) (fun _ => ?_)
      refine AWp.skip ?_
      refine hJ _ () trivial ?_
      rw [hs1]
      exact stR_le (by simp) (by simp) (fun i hi => by simp [lk_zip_in, rowsB_get, hi]) hse (by simp [stR]) (by simp [stR])
    | none =>
      have hs1 : addRow s0 r.rel = ⟨s0.keys ++ [r.rel], s0.rows ++ [[]]⟩ := by simp only [addRow, hx]
      rw [hx] at hkv
      have hset := fun y => kvSet_on r.rel y s0.keys (inner s0.keys.length) (by simp [inner]) (idxT_none hx)
      refine AWp.seq ?_
      refine AWp.reg [] F48r5 [] (by kernel_rfl) (by rw [hC]; rfl) fun K hK => ?_
      simp [F48r5, hkv]
      first | refine hK _ ?_ | refine ⟨by omega, hK _ ?_⟩ | refine ⟨by omega, by omega, hK _ ?_⟩ | refine ⟨by omega, by omega, by omega, hK _ ?_⟩ | refine ⟨by omega, by omega, by omega, by omega, hK _ ?_⟩
      refine AWp.cond true (by simp) (fun _ => ?_) (fun he => by cases he)
      refine AWp.reg [] F48r6 [] (by kernel_rfl) (by rw [hC]; rfl) fun K hK => ?_
      simp [F48r6, hset]
      first | refine hK _ ?_ | refine ⟨by omega, hK _ ?_⟩ | refine ⟨by omega, by omega, hK _ ?_⟩ | refine ⟨by omega, by omega, by omega, hK _ ?_⟩ | refine ⟨by omega, by omega, by omega, by omega, hK _ ?_⟩
      show AWp Try.prog C _ _ _
      refine AWp.renP hM 28 (1001 + s0.rows.length) (by omega) ?_ _ rfl ?_
      · simp
        exact lk_row_none (by simp [lk])
      refine hJ _ () trivial ?_
      rw [hs1]
      refine stR_le (by simp) (by simp [inner_succ, hse]) (fun q hq => ?_) (by simp [hse]) (by simp [stR]) (by simp [stR])
      by_cases hql : q < s0.rows.length
      · simp [lk_zip_in, rowsB_get, hql]
      · have hqe : q = s0.rows.length := by simp at hq; omega
        subst hqe
        simp [lk_zip_last, blkR]
  have hge : ¬ i < m.rules.length := by simpa using hge
  have hon : (m.rules.take i).foldl ruleOn ⟨[], []⟩ = onOf m.rules := by rw [List.take_of_length_le (by omega)]; rfl
  refine AWp.exit ?_
  have hC0 := hC
  have hnd := (onOf_ok m.rules).nd
  have hRV := RowsVia.init m.rules
  have hse' := (onOf_ok m.rules).len
  have hKl : (onOf m.rules).keys.length ≤ 900 := by rw [hon] at hsl; simp at hsl; omega
  rw [hon]
  refine AWp.forget (s' := stR m (onOf m.rules) [] []) (stR_le (by simp) (by simp) (fun i hi => by simp [lk_zip_in, rowsB_get, hi]) hse' (by simp [stR]) (by simp [stR])) ?_
  refine AWp.seq ?_
  refine AWp.seqT (AWpX.range 1 [] F48r14 [] (by rfl) rfl (by kernel_rfl) (by rw [hC]; rfl) Try.underlying98 (by rw [hC]; decide) fun KK hK => ?_)
  simp [F48r14, stR]
  refine hK _ ⟨1000, _, _, rfl, rfl, by decide, fun C1 x hsub hN1 hB hI => ?_⟩
  refine AWpTo.block ?_
  refine AWpTo.forget (s' := stR m (onOf m.rules) [(47, .val (.pointer (some ⟨x, 0, none⟩)))] []) (stR_le (by simp [AS.put]) (by simp [AS.put]) (fun i hi => by simp [AS.put, lk_zip_in, rowsB_get, hi]) hse' (by simp [stR, AS.put]) (by simp [stR])) ?_
  refine AWp.loopNext (by rw [hN1, hC]; decide) hsub hN1 hB (by decide) hI (fun seen s => ∃ Ms, RowsVia m.rules (onOf m.rules).keys (SeenK (onOf m.rules).keys seen) Ms ∧ s = stR m ⟨(onOf m.rules).keys, Ms⟩ [(47, .val (.pointer (some ⟨x, 0, none⟩)))] []) ?_ ?_ (fun C2 seen s hN2 hi hall => ?_) (fun C2 seen s j hN2 hi hj hjs hI2 => ?_)
  · exact ⟨(onOf m.rules).rows, hRV.congr fun c => by simp [SeenK], rfl⟩
  · rintro seen s ⟨Ms, _, rfl⟩
    exact ⟨rfl, _, _, rfl, rfl⟩
  · obtain ⟨Ms, hMs, rfl⟩ := hi
    have hC : C2.N = _ := hN2.trans (hN1.trans hC)
    refine AWp.seq ?_
    refine AWp.cond false (by simp [stR]) (fun he => by cases he) (fun _ => ?_)
    refine AWp.exit ?_
    have hC := hC0
    refine AWp.freezeM _ _ (on_frz hMs (fun j hj => hall j (by simpa [keysT] using hj)) rfl rfl (fun i hi => by simp [AS.put, stR, lk_zip_in, rowsB_get, hi])) ?_
    refine AWp.seq ?_
    refine AWp.reg [true, true] F48r25 [] (by kernel_rfl) (by rw [hC]; rfl) fun K hK => ?_
    simp [F48r25]
    first | refine hK _ ?_ | refine ⟨by omega, hK _ ?_⟩ | refine ⟨by omega, by omega, hK _ ?_⟩ | refine ⟨by omega, by omega, by omega, hK _ ?_⟩ | refine ⟨by omega, by omega, by omega, by omega, hK _ ?_⟩
    repeat refine AWp.seq ?_
    refine AWp.ret ⟨.inr rfl, _, by simp [Try.results48] <;> rfl, ?_⟩
    exact .closed (onA_noref m.rules)
  · obtain ⟨Ms, hMs, rfl⟩ := hi
    have hC : C2.N = _ := hN2.trans (hN1.trans hC)
    have hMl : Ms.length = (onOf m.rules).keys.length := hMs.1
    have hjK : j < (onOf m.rules).keys.length := by simpa [keysT] using hj
    obtain ⟨mid, hmid⟩ : ∃ mid, (onOf m.rules).keys[j]? = some mid := ⟨_, List.getElem?_eq_getElem hjK⟩
    refine AWp.seq ?_
    refine AWp.cond true (by simp [stR]) (fun _ => ?_) (fun he => by cases he)
    refine AWp.skip ?_
    refine AWp.block ?_
    refine AWp.seq ?_
    refine AWp.entry 0 (by rw [hC]; decide) hI2 rfl rfl rfl (k := .string mid) (v := .mapr (1001 + j)) (by simp [keysT, hmid]) (by simp [inner, hjK]) ?_
    refine AWp.forget (s' := stR m ⟨(onOf m.rules).keys, Ms⟩ [(47, .val (.pointer (some ⟨x, 0, none⟩))), (8, sval mid)] []) (stR_le (by simp [AS.put, stR]) (by simp [AS.put, stR]) (fun i hi => by simp at hi; simp [AS.put, stR, lk_zip_in, rowsB_get, hi]) hMl (by simp [stR, AS.put]) (by simp [stR])) ?_
    refine AWp.seqT (AWpX.range 1 [] F48r17 [] (by rfl) rfl (by kernel_rfl) (by rw [hC]; rfl) Try.underlying98 (by rw [hC]; decide) fun KK hK => ?_)
    simp [F48r17, stR]
    refine hK _ ⟨1000, _, _, rfl, rfl, by decide, fun C3 x2 hsub3 hN3 hB3 hI3 => ?_⟩
    refine AWpTo.block ?_
    refine AWpTo.forget (s' := stR m ⟨(onOf m.rules).keys, Ms⟩ [(47, .val (.pointer (some ⟨x, 0, none⟩))), (8, sval mid), (53, .val (.pointer (some ⟨x2, 0, none⟩)))] []) (stR_le (by simp [AS.put, stR]) (by simp [AS.put, stR]) (fun i hi => by simp at hi; simp [AS.put, stR, lk_zip_in, rowsB_get, hi]) hMl (by simp [stR, AS.put]) (by simp [stR])) ?_
    refine AWp.loopNext (by rw [hN3, hC]; decide) hsub3 hN3 hB3 (by decide) hI3 (fun seen2 s => ∃ Ml, MidInv (onOf m.rules).keys mid j Ms seen2 Ml ∧ s = stR m ⟨(onOf m.rules).keys, Ml⟩ [(47, .val (.pointer (some ⟨x, 0, none⟩))), (8, sval mid), (53, .val (.pointer (some ⟨x2, 0, none⟩)))] []) ?_ ?_ (fun C4 seen2 s hN4 hi hall2 => ?_) (fun C4 seen2 s p hN4 hi hp hps hI4 => ?_)
    · exact ⟨Ms, .init hMl, rfl⟩
    · rintro seen2 s ⟨Ml, _, rfl⟩
      exact ⟨rfl, _, _, rfl, rfl⟩
    · obtain ⟨Ml, hMi, rfl⟩ := hi
      have hC : C4.N = _ := hN4.trans (hN3.trans hC)
      refine AWp.seq ?_
      refine AWp.cond false (by simp [stR]) (fun he => by cases he) (fun _ => ?_)
      refine AWp.exit ?_
      refine ⟨_, ⟨Ml, hMs.mid hmid hMi (fun q hq => hall2 q (by simpa [keysT] using hq)), rfl⟩, ?_⟩
      exact stR_le (by simp [AS.put, stR]) (by simp [AS.put, stR]) (fun i hi => by simp at hi; simp [AS.put, stR, lk_zip_in, rowsB_get, hi]) hMi.1 (by simp [stR, AS.put]) (by simp [stR])
    · obtain ⟨Ml, hMi, rfl⟩ := hi
      have hC : C4.N = _ := hN4.trans (hN3.trans hC)
      have hpK : p < (onOf m.rules).keys.length := by simpa [keysT] using hp
      have hpl : p < Ml.length := by rw [hMi.1]; exact hpK
      have hjl : j < Ml.length := by rw [hMi.1]; exact hjK
      obtain ⟨row, hrow⟩ : ∃ row, Ml.getD p [] = row := ⟨_, rfl⟩
      have hkp := kvGet_T mid row
      have hlp : ∀ l, lk (zipB (rowsB Ml) l) (1001 + p) = some (.map (keysT row) (ones row)) := fun l => by rw [lk_row hpl, hrow]
      refine AWp.seq ?_
      refine AWp.cond true (by simp [stR]) (fun _ => ?_) (fun he => by cases he)
      refine AWp.skip ?_
      refine AWp.block ?_
      refine AWp.seq ?_
      refine AWp.entry 1 (by rw [hC]; decide) hI4 rfl rfl rfl (k := .string ((onOf m.rules).keys[p])) (v := .mapr (1001 + p)) (by simp [keysT, hpK]) (by simp [inner, hpK]) ?_
      refine AWp.forget (s' := stR m ⟨(onOf m.rules).keys, Ml⟩ [(47, .val (.pointer (some ⟨x, 0, none⟩))), (8, sval mid), (53, .val (.pointer (some ⟨x2, 0, none⟩))), (10, .mapr (1001 + p))] []) (stR_le (by simp [AS.put, stR]) (by simp [AS.put, stR]) (fun i hi => by simp at hi; simp [AS.put, stR, lk_zip_in, rowsB_get, hi]) hMi.1 (by simp [AS.put, stR, exists_zipFrom hpl]) (by simp [stR])) ?_
      cases hm : hasT row mid with
      | false =>
        rw [hm] at hkp
        refine AWp.seq ?_
        refine AWp.seq ?_
        refine AWp.reg [] F48r20 [] (by kernel_rfl) (by rw [hC]; rfl) fun K hK => ?_
        simp [F48r20, stR, hkp, hlp]
        first | refine hK _ ?_ | refine ⟨by omega, hK _ ?_⟩ | refine ⟨by omega, by omega, hK _ ?_⟩ | refine ⟨by omega, by omega, by omega, hK _ ?_⟩ | refine ⟨by omega, by omega, by omega, by omega, hK _ ?_⟩
        refine AWp.cond true (by simp [stR]) (fun _ => ?_) (fun he => by cases he)
        refine AWp.exit ?_
        refine ⟨_, ⟨Ml, hMi.skip hpK hps (fun k => by rw [hrow] at k; rw [(hasT_iff _ _).2 k] at hm; cases hm), rfl⟩, ?_⟩
        exact stR_le (by simp [AS.put, stR]) (by simp [AS.put, stR]) (fun i hi => by simp at hi; simp [AS.put, stR, lk_zip_in, rowsB_get, hi]) hMi.1 (by simp [AS.put, stR]) (by simp [stR])
      | true =>
        rw [hm] at hkp
        have hkj := kvGet_inner mid (onOf m.rules).keys
        rw [idxT_nd hnd hmid] at hkj
        obtain ⟨R, hR⟩ : ∃ R, Ml.getD j [] = R := ⟨_, rfl⟩
        have hlj : ∀ l, lk (zipB (rowsB Ml) l) (1001 + j) = some (.map (keysT R) (ones R)) := fun l => by rw [lk_row hjl, hR]
        refine AWp.seq ?_
        refine AWp.seq ?_
        refine AWp.reg [] F48r20 [] (by kernel_rfl) (by rw [hC]; rfl) fun K hK => ?_
        simp [F48r20, stR, hkp, hlp]
        first | refine hK _ ?_ | refine ⟨by omega, hK _ ?_⟩ | refine ⟨by omega, by omega, hK _ ?_⟩ | refine ⟨by omega, by omega, by omega, hK _ ?_⟩ | refine ⟨by omega, by omega, by omega, by omega, hK _ ?_⟩
        refine AWp.cond false (by simp [stR]) (fun he => by cases he) (fun _ => ?_)
        refine AWp.skip ?_
        refine AWp.seqT (AWpX.range 3 [] F48r21 [] (by rfl) rfl (by kernel_rfl) (by rw [hC]; rfl) Try.underlying85 (by rw [hC]; decide) fun KK hK => ?_)
        simp [F48r21, stR, hkj]
        refine hK _ ⟨1001 + j, keysT R, ones R, by simp [AS.put], by simp [hlj], by omega, fun C5 x3 hsub5 hN5 hB5 hI5 => ?_⟩
        refine AWpTo.block ?_
        refine AWpTo.forget (s' := stR m ⟨(onOf m.rules).keys, Ml⟩ [(47, .val (.pointer (some ⟨x, 0, none⟩))), (8, sval mid), (53, .val (.pointer (some ⟨x2, 0, none⟩))), (10, .mapr (1001 + p)), (65, .val (.pointer (some ⟨x3, 0, none⟩)))] []) (stR_le (by simp [AS.put, stR]) (by simp [AS.put, stR]) (fun i hi => by simp at hi; simp [AS.put, stR, lk_zip_in, rowsB_get, hi]) hMi.1 (by simp [AS.put, stR, exists_zipFrom hpl]) (by simp [stR])) ?_
        have hlk3 : ∀ rw', (p = j → rw' = R) → ∀ l, lk (zipB (rowsB (Ml.set p rw')) l) (1001 + j) = some (.map (keysT R) (ones R)) := by
          intro rw' he l
          rw [lk_row (by simpa using hjl)]
          by_cases e : p = j
          · rw [he e]; subst e; rw [getD_set_self hpl]
          · rw [getD_set_ne e, hR]
        refine AWp.loopNext (by rw [hN5, hC]; decide) hsub5 hN5 hB5 (by omega) hI5 (fun seen3 s => ∃ rw', RowInv R row (p = j) seen3 rw' ∧ s = stR m ⟨(onOf m.rules).keys, Ml.set p rw'⟩ [(47, .val (.pointer (some ⟨x, 0, none⟩))), (8, sval mid), (53, .val (.pointer (some ⟨x2, 0, none⟩))), (10, .mapr (1001 + p)), (65, .val (.pointer (some ⟨x3, 0, none⟩)))] []) ?_ ?_ (fun C6 seen3 s hN6 hi hall3 => ?_) (fun C6 seen3 s q hN6 hi hq hqs hI6 => ?_)
        · refine ⟨row, ⟨fun t => by simp, fun e => ?_⟩, ?_⟩
          · subst e; rw [← hrow, ← hR]
          · rw [← hrow, set_getD_self hpl]
        · rintro seen3 s ⟨rw', hRi, rfl⟩
          exact ⟨rfl, keysT R, ones R, by simp [stR, hlk3 rw' hRi.2], rfl⟩
        · obtain ⟨rw', hRi, rfl⟩ := hi
          have hC : C6.N = _ := hN6.trans (hN5.trans hC)
          refine AWp.seq ?_
          refine AWp.cond false (by simp [stR]) (fun he => by cases he) (fun _ => ?_)
          refine AWp.exit ?_
          refine ⟨_, ⟨Ml.set p rw', hMi.take hjK hpK hps (by rw [hrow]; exact (hasT_iff _ _).1 hm) (by rw [hrow, hR]; exact hRi.all fun q hq => hall3 q (by simpa [keysT] using hq)), rfl⟩, ?_⟩
          exact stR_le (by simp [AS.put, stR]) (by simp [AS.put, stR]) (fun i hi => by simp at hi; simp [AS.put, stR, lk_zip_in, rowsB_get, hi]) (by simpa using hMi.1) (by simp [AS.put, stR]) (by simp [stR])
        · obtain ⟨rw', hRi, rfl⟩ := hi
          have hC : C6.N = _ := hN6.trans (hN5.trans hC)
          have hqR : q < R.length := by simpa [keysT] using hq
          obtain ⟨u, hu⟩ : ∃ u, R[q]? = some u := ⟨_, List.getElem?_eq_getElem hqR⟩
          have hadd := kvSet_add u rw'
          have hlk4 : ∀ l, lk (zipB (rowsB (Ml.set p rw')) l) (1001 + p) = some (.map (keysT rw') (ones rw')) := fun l => by rw [lk_row (by simpa using hpl), getD_set_self hpl]
          have hins : ∀ l r, ins (1001 + p) (.map (keysT r) (ones r)) (zipB (rowsB (Ml.set p rw')) l) = zipB (rowsB (Ml.set p r)) l := fun l r => by rw [ins_row (by simpa using hpl), List.set_set]
          refine AWp.seq ?_
          refine AWp.cond true (by simp [stR]) (fun _ => ?_) (fun he => by cases he)
          refine AWp.skip ?_
          refine AWp.block ?_
          refine AWp.seq ?_
          refine AWp.entry 0 (by rw [hC]; decide) hI6 rfl (by simp [AS.put, stR, hlk3 rw' hRi.2]) rfl (ks := keysT R) (vs := ones R) (k := .string u) (v := .val (.int .i64 1)) (by simp [keysT, hu]) (by simp [ones, hqR]) ?_
          refine AWp.reg [] F48r24 [] (by kernel_rfl) (by rw [hC]; rfl) fun K hK => ?_
          simp [F48r24, stR, hlk4, hadd, hins]
          first | refine hK _ ?_ | refine ⟨by omega, hK _ ?_⟩ | refine ⟨by omega, by omega, hK _ ?_⟩ | refine ⟨by omega, by omega, by omega, hK _ ?_⟩ | refine ⟨by omega, by omega, by omega, by omega, hK _ ?_⟩
          refine ⟨_, ⟨addT rw' u, hRi.add hu, rfl⟩, ?_⟩
          exact stR_le (by simp [AS.put, stR]) (by simp [AS.put, stR]) (fun i hi => by simp at hi; simp [AS.put, stR, lk_zip_in, rowsB_get, hi]) (by simpa using hMi.1) (by simp [AS.put, stR, exists_zipFrom (rows := Ml.set p (addT rw' u)) (i := p) (by simpa using hpl)]) (by simp [stR])
end Go.Sl
