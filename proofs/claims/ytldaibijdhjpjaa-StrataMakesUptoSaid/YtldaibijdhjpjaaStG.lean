/- strata: rests. -/
import Derived.Test.YtldaibijdhjpjaaStF
import Derived.Test.YtldaibijdhjpjaaStSpG
set_option linter.unusedSimpArgs false
set_option linter.unusedVariables false
open Go Go.Aw Go.Proofs
namespace Go.St
attribute [local simp] ints encEdges encEdge
-- function 25: (corollary/strata.graph).rests: 109 slots; results ['(Go.ResultVar.tmp 2)']
def F25r0 : List ROp := [{ dst := some 1, op := .box 72 (.tmp 0), after := [], guard := none },
  { dst := some 2, op := .copy true (.const (.slice none 0 0)), after := [], guard := none }]
def F25r1 : List ROp := [{ dst := some 15, op := .fad 0 (.tmp 1), after := [], guard := none },
  { dst := some 16, op := .load 1 false false (.tmp 15), after := [0], guard := none },
  { dst := some 17, op := .mksl 37 1 24 [Value.slice none 0 0] (.tmp 16) (.tmp 16), after := [1, 1], guard := none },
  { dst := some 3, op := .copy true (.tmp 17), after := [2, 0, 1, 2], guard := none }]
def F25r2 : List ROp := [{ dst := some 18, op := .fad 1 (.tmp 1), after := [], guard := none },
  { dst := some 19, op := .load 1 false false (.tmp 18), after := [0], guard := none },
  { dst := some 20, op := .len 0 (.tmp 19), after := [1], guard := none },
  { dst := some 21, op := .copy false (.const (.int .i64 0)), after := [], guard := none }]
def F25r3 : List ROp := [{ dst := some 22, op := .bin .lss (.tmp 21) (.tmp 20), after := [], guard := none }]
def F25r4 : List ROp := [{ dst := some 23, op := .copy true (.tmp 21), after := [], guard := none },
  { dst := some 24, op := .iad 1 (.tmp 19) (.tmp 21), after := [], guard := none },
  { dst := some 25, op := .load 1 false false (.tmp 24), after := [1], guard := none },
  { dst := some 4, op := .copy true (.tmp 23), after := [0, 0, 1, 2], guard := none },
  { dst := some 5, op := .copy true (.tmp 25), after := [2, 3, 0, 1, 2, 3], guard := none }]
def F25r5 : List ROp := [{ dst := some 26, op := .fad 2 (.tmp 1), after := [], guard := none },
  { dst := some 27, op := .load 1 false false (.tmp 26), after := [0], guard := none },
  { dst := some 28, op := .copy false (.tmp 4), after := [], guard := none },
  { dst := some 29, op := .iad 1 (.tmp 27) (.tmp 28), after := [1, 2], guard := none },
  { dst := some 30, op := .load 1 false false (.tmp 29), after := [3], guard := none },
  { dst := some 31, op := .len 0 (.tmp 30), after := [4], guard := none },
  { dst := some 32, op := .copy false (.const (.int .i64 0)), after := [], guard := none }]
def F25r6 : List ROp := [{ dst := some 33, op := .bin .lss (.tmp 32) (.tmp 31), after := [], guard := none }]
def F25r7 : List ROp := [{ dst := some 34, op := .iad 4 (.tmp 30) (.tmp 32), after := [], guard := none },
  { dst := some 35, op := .load 4 true false (.tmp 34), after := [0], guard := none },
  { dst := some 7, op := .alloc 80 [Value.int .i64 0, Value.bool false, Value.int .i64 0, Value.int .i64 0], after := [], guard := none },
  { dst := none, op := .store 4 true (.tmp 7) (.tmp 35), after := [2, 1, 0, 1, 2], guard := none }]
def F25r8 : List ROp := [{ dst := some 36, op := .copy false (.tmp 3), after := [], guard := none },
  { dst := some 37, op := .copy false (.tmp 5), after := [], guard := none },
  { dst := some 38, op := .copy false (.tmp 3), after := [], guard := none },
  { dst := some 39, op := .copy false (.tmp 5), after := [], guard := none },
  { dst := some 40, op := .iad 1 (.tmp 38) (.tmp 39), after := [2, 3], guard := none },
  { dst := some 41, op := .load 1 false true (.tmp 40), after := [4], guard := none },
  { dst := some 42, op := .fad 0 (.tmp 7), after := [], guard := none },
  { dst := some 43, op := .load 1 false false (.tmp 42), after := [6], guard := none },
  { dst := some 44, op := .bslice 3 1 [Value.int .i64 0] 1 [(0, .tmp 43)], after := [7], guard := none },
  { dst := some 45, op := .app 3 1 8 (.tmp 41) (.tmp 44), after := [5, 8], guard := none },
  { dst := some 46, op := .iad 1 (.tmp 36) (.tmp 37), after := [0, 1, 0, 1, 2, 3, 4, 5, 6, 7, 8, 9], guard := none },
  { dst := none, op := .store 1 true (.tmp 46) (.tmp 45), after := [10, 9, 9, 0, 1, 2, 3, 4, 5, 6, 7, 8, 9], guard := none }]
def F25r9 : List ROp := [{ dst := some 47, op := .bin .add (.tmp 32) (.const (.int .i64 1)), after := [], guard := none },
  { dst := some 32, op := .copy false (.tmp 47), after := [0], guard := none }]
def F25r10 : List ROp := [{ dst := some 48, op := .bin .add (.tmp 21) (.const (.int .i64 1)), after := [], guard := none },
  { dst := some 21, op := .copy false (.tmp 48), after := [0], guard := none }]
def F25r11 : List ROp := [{ dst := some 49, op := .fad 0 (.tmp 1), after := [], guard := none },
  { dst := some 50, op := .load 1 false false (.tmp 49), after := [0], guard := none },
  { dst := some 51, op := .mksl 47 1 24 [Value.slice none 0 0] (.tmp 50) (.tmp 50), after := [1, 1], guard := none },
  { dst := some 8, op := .copy true (.tmp 51), after := [2, 0, 1, 2], guard := none }]
def F25r12 : List ROp := [{ dst := some 52, op := .copy false (.tmp 8), after := [], guard := none },
  { dst := some 53, op := .len 0 (.tmp 52), after := [0], guard := none },
  { dst := some 54, op := .copy false (.const (.int .i64 0)), after := [], guard := none }]
def F25r13 : List ROp := [{ dst := some 55, op := .bin .lss (.tmp 54) (.tmp 53), after := [], guard := none }]
def F25r14 : List ROp := [{ dst := some 56, op := .copy true (.tmp 54), after := [], guard := none },
  { dst := some 9, op := .copy true (.tmp 56), after := [0, 0], guard := none }]
def F25r15 : List ROp := [{ dst := some 57, op := .copy false (.tmp 8), after := [], guard := none },
  { dst := some 58, op := .copy false (.tmp 9), after := [], guard := none },
  { dst := some 59, op := .fad 0 (.tmp 1), after := [], guard := none },
  { dst := some 60, op := .load 1 false false (.tmp 59), after := [2], guard := none },
  { dst := some 61, op := .mksl 4 1 1 [Value.bool false] (.tmp 60) (.tmp 60), after := [3, 3], guard := none },
  { dst := some 62, op := .iad 1 (.tmp 57) (.tmp 58), after := [0, 1, 0, 1, 2, 3, 4], guard := none },
  { dst := none, op := .store 1 true (.tmp 62) (.tmp 61), after := [5, 4, 0, 1, 2, 3, 4], guard := none }]
def F25r16 : List ROp := [{ dst := some 63, op := .copy false (.tmp 9), after := [], guard := none },
  { dst := some 64, op := .bslice 3 1 [Value.int .i64 0] 1 [(0, .tmp 63)], after := [0], guard := none },
  { dst := some 10, op := .copy true (.tmp 64), after := [1, 0, 1], guard := none }]
def F25r17 : List ROp := [{ dst := some 65, op := .copy false (.tmp 10), after := [], guard := none },
  { dst := some 66, op := .len 0 (.tmp 65), after := [0], guard := none },
  { dst := some 67, op := .bin .gtr (.tmp 66) (.const (.int .i64 0)), after := [1], guard := none }]
def F25r18 : List ROp := [{ dst := some 68, op := .copy false (.tmp 10), after := [], guard := none },
  { dst := some 69, op := .len 0 (.tmp 68), after := [0], guard := none },
  { dst := some 70, op := .bin .sub (.tmp 69) (.const (.int .i64 1)), after := [1], guard := none },
  { dst := some 11, op := .copy true (.tmp 70), after := [2, 0, 1, 2], guard := none }]
def F25r19 : List ROp := [{ dst := some 71, op := .copy false (.tmp 10), after := [], guard := none },
  { dst := some 72, op := .copy false (.tmp 11), after := [], guard := none },
  { dst := some 73, op := .iad 1 (.tmp 71) (.tmp 72), after := [0, 1], guard := none },
  { dst := some 74, op := .load 1 false false (.tmp 73), after := [2], guard := none },
  { dst := some 12, op := .copy true (.tmp 74), after := [3, 0, 1, 2, 3], guard := none }]
def F25r20 : List ROp := [{ dst := some 75, op := .copy false (.tmp 10), after := [], guard := none },
  { dst := some 76, op := .copy false (.tmp 11), after := [], guard := none },
  { dst := some 77, op := .copy false (.tmp 11), after := [], guard := none },
  { dst := some 78, op := .sub 1 (.tmp 75) none (some (.tmp 76)) (some (.tmp 77)), after := [0, 1, 2], guard := none },
  { dst := some 10, op := .copy true (.tmp 78), after := [3, 0, 1, 2, 3], guard := none }]
def F25r21 : List ROp := [{ dst := some 79, op := .copy false (.tmp 3), after := [], guard := none },
  { dst := some 80, op := .copy false (.tmp 12), after := [], guard := none },
  { dst := some 81, op := .iad 1 (.tmp 79) (.tmp 80), after := [0, 1], guard := none },
  { dst := some 82, op := .load 1 false false (.tmp 81), after := [2], guard := none },
  { dst := some 83, op := .len 0 (.tmp 82), after := [3], guard := none },
  { dst := some 84, op := .copy false (.const (.int .i64 0)), after := [], guard := none }]
def F25r22 : List ROp := [{ dst := some 85, op := .bin .lss (.tmp 84) (.tmp 83), after := [], guard := none }]
def F25r23 : List ROp := [{ dst := some 86, op := .iad 1 (.tmp 82) (.tmp 84), after := [], guard := none },
  { dst := some 87, op := .load 1 false false (.tmp 86), after := [0], guard := none },
  { dst := some 14, op := .copy true (.tmp 87), after := [1, 0, 1], guard := none }]
def F25r24 : List ROp := [{ dst := some 88, op := .copy false (.tmp 8), after := [], guard := none },
  { dst := some 89, op := .copy false (.tmp 9), after := [], guard := none },
  { dst := some 90, op := .iad 1 (.tmp 88) (.tmp 89), after := [0, 1], guard := none },
  { dst := some 91, op := .load 1 false false (.tmp 90), after := [2], guard := none },
  { dst := some 92, op := .copy false (.tmp 14), after := [], guard := none },
  { dst := some 93, op := .iad 1 (.tmp 91) (.tmp 92), after := [3, 4], guard := none },
  { dst := some 94, op := .load 1 false false (.tmp 93), after := [5], guard := none },
  { dst := some 95, op := .un .not (.tmp 94), after := [6], guard := none }]
def F25r25 : List ROp := [{ dst := some 96, op := .copy false (.tmp 8), after := [], guard := none },
  { dst := some 97, op := .copy false (.tmp 9), after := [], guard := none },
  { dst := some 98, op := .iad 1 (.tmp 96) (.tmp 97), after := [0, 1], guard := none },
  { dst := some 99, op := .load 1 false false (.tmp 98), after := [2], guard := none },
  { dst := some 100, op := .copy false (.tmp 14), after := [], guard := none },
  { dst := some 101, op := .iad 1 (.tmp 99) (.tmp 100), after := [3, 4, 0, 1, 2, 3, 4], guard := none },
  { dst := none, op := .store 1 true (.tmp 101) (.const (.bool true)), after := [5, 0, 1, 2, 3, 4], guard := none }]
def F25r26 : List ROp := [{ dst := some 102, op := .copy true (.tmp 10), after := [], guard := none },
  { dst := some 103, op := .copy false (.tmp 14), after := [], guard := none },
  { dst := some 104, op := .bslice 3 1 [Value.int .i64 0] 1 [(0, .tmp 103)], after := [1], guard := none },
  { dst := some 105, op := .app 3 1 8 (.tmp 102) (.tmp 104), after := [0, 2], guard := none },
  { dst := some 10, op := .copy true (.tmp 105), after := [3, 3, 0, 1, 2, 3], guard := none }]
def F25r27 : List ROp := [{ dst := some 106, op := .bin .add (.tmp 84) (.const (.int .i64 1)), after := [], guard := none },
  { dst := some 84, op := .copy false (.tmp 106), after := [0], guard := none }]
def F25r28 : List ROp := [{ dst := some 107, op := .bin .add (.tmp 54) (.const (.int .i64 1)), after := [], guard := none },
  { dst := some 54, op := .copy false (.tmp 107), after := [0], guard := none }]
def F25r29 : List ROp := [{ dst := some 108, op := .copy true (.tmp 8), after := [], guard := none },
  { dst := some 2, op := .copy true (.tmp 108), after := [0, 0], guard := none }]
def gcells (g : Graph) : List AV := [ival g.n, encInts g.heads, encEE g.edges]
attribute [simp] gcells encGraph encInts encEE
def encO (l : List Nat) : AV := .own 3 1 (ints l)
@[simp] theorem encO_within (ids : List Nat) (l : List Nat) : within ids (encO l) = true := rfl
@[simp] theorem encO_noref (l : List Nat) : noref (encO l) = true := rfl
def bools (l : List Bool) : List AV := l.map fun b => .val (.bool b)
def boolRows (l : List Bool) : List (List AV) := l.map fun b => [.val (.bool b)]
def st25a (g : Graph) (out : List (List Nat)) (ts : List (Nat × AV)) : AS := { tm := [(1, .ptr 1 0), (3, .vec 17 1 0 g.n g.n)] ++ ts, hp := [(1, .cells 72 (gcells g)), (17, .cells 37 (out.map encO))] }
noncomputable def marked (g : Graph) (i : Nat) : List AV := ((List.range i).map fun k => AV.rd 1 (boolRows (reachRow (nextOf g) g.n k))) ++ List.replicate (g.n - i) (.val (.slice none 0 0))
noncomputable def st25b (g : Graph) (i : Nat) : AS := { tm := [(1, .ptr 1 0), (3, .vec 17 1 0 g.n g.n), (8, .vec 51 1 0 g.n g.n), (53, ival g.n), (54, ival i)], hp := [(1, .cells 72 (gcells g)), (17, .cells 37 ((nextOf g).map encO)), (51, .cells 47 (marked g i))] }
noncomputable def cur25 (g : Graph) (i : Nat) : List AV := (marked g i).set i (.vec 61 1 0 g.n g.n)
theorem marked_len (g : Graph) (i : Nat) (h : i ≤ g.n) : (marked g i).length = g.n := by simp [marked]; omega
theorem cur25_at (g : Graph) (i : Nat) (h : i < g.n) : (cur25 g i)[i]? = some (.vec 61 1 0 g.n g.n) := by
  rw [cur25, List.getElem?_set_self]; rw [marked_len g i (by omega)]; exact h
@[simp] theorem marked_within (ids : List Nat) (g : Graph) (i : Nat) : withinL ids (marked g i) = true := by
  rw [marked, withinL_append]; simp
theorem cur25_within (ids : List Nat) (g : Graph) (i : Nat) (h : ids.contains 61 = true) : withinL ids (cur25 g i) = true := by
  have h' : 61 ∈ ids := by simpa using h
  rw [withinL_iff]
  intro x hx
  rcases List.mem_or_eq_of_mem_set hx with h1 | h1
  · exact (withinL_iff.1 (marked_within ids g i)) x h1
  · subst h1; simp [h']
noncomputable def st25c (g : Graph) (i : Nat) (q : List Bool × List Nat) : AS := { tm := [(1, .ptr 1 0), (3, .vec 17 1 0 g.n g.n), (8, .vec 51 1 0 g.n g.n), (53, ival g.n), (54, ival i), (9, ival i), (10, encInts q.2)], hp := [(1, .cells 72 (gcells g)), (17, .cells 37 ((nextOf g).map encO)), (51, .cells 47 (cur25 g i)), (61, .cells 4 (bools q.1))] }
def todoA (b : Bool) (l : List Nat) : AV := if b then .own 3 1 (ints l) else .fx 1 (ints l)
@[simp] theorem todoA_within (ids : List Nat) (b : Bool) (l : List Nat) : within ids (todoA b l) = true := by cases b <;> rfl
noncomputable def st25d (g : Graph) (i : Nat) (nx : List Nat) (q : Nat × List Bool × List Nat × Bool) : AS := { tm := [(1, .ptr 1 0), (3, .vec 17 1 0 g.n g.n), (8, .vec 51 1 0 g.n g.n), (53, ival g.n), (54, ival i), (9, ival i), (10, todoA q.2.2.2 q.2.2.1), (82, encInts nx), (83, ival nx.length), (84, ival q.1)], hp := [(1, .cells 72 (gcells g)), (17, .cells 37 ((nextOf g).map encO)), (51, .cells 47 (cur25 g i)), (61, .cells 4 (bools q.2.1))] }
theorem marked_succ (g : Graph) (i : Nat) (h : i < g.n) : marked g (i + 1) = (marked g i).set i (.rd 1 (boolRows (reachRow (nextOf g) g.n i))) := by
  apply List.ext_getElem
  · rw [marked_len g _ (by omega), List.length_set, marked_len g _ (by omega)]
  · intro j h1 h2
    rw [List.getElem_set]
    rw [marked_len g _ (by omega)] at h1
    by_cases e : i = j
    · subst e
      rw [if_pos rfl]
      simp only [marked]
      rw [List.getElem_append_left (by simp)]
      simp
    · rw [if_neg e]
      by_cases hj : j < i
      · simp only [marked]
        rw [List.getElem_append_left (by simp; omega), List.getElem_append_left (by simp; omega)]
        simp
      · simp only [marked]
        rw [List.getElem_append_right (by simp; omega), List.getElem_append_right (by simp; omega)]
        simp
noncomputable def st25b' (g : Graph) (i : Nat) : AS := { tm := [(1, .ptr 1 0), (3, .vec 17 1 0 g.n g.n), (8, .vec 51 1 0 g.n g.n), (53, ival g.n), (54, ival i)], hp := [(1, .cells 72 (gcells g)), (17, .cells 37 ((nextOf g).map encO)), (51, .cells 47 (marked g (i + 1)))] }
set_option maxHeartbeats 4000000 in
theorem rests_ok (g : Graph) (hg : g.ok) : Con Try.prog 25 [encGraph g] (.rd 1 ((List.range g.n).map fun i => [.rd 1 ((reachRow (nextOf g) g.n i).map fun b => [.val (.bool b)])])) := by
  have hn := hg.n
  have hl := hg.len
  have hr := hg.rules
  refine Con.of_code Try.func25 (by kernel_rfl) rfl (by simp [Try.ntmps25]) fun C hC hM => ?_
  refine AWp.seq ?_
  refine AWp.reg [false, true] F25r0 [] (by kernel_rfl) (by rw [hC]; rfl) fun K hK => ?_
  simp [F25r0]
  first | refine hK _ ?_ | refine ⟨by omega, hK _ ?_⟩ | refine ⟨by omega, by omega, hK _ ?_⟩ | refine ⟨by omega, by omega, by omega, hK _ ?_⟩ | refine ⟨by omega, by omega, by omega, by omega, hK _ ?_⟩
  refine AWp.seq ?_
  refine AWp.reg [false, false, false, true] F25r1 [] (by kernel_rfl) (by rw [hC]; rfl) fun K hK => ?_
  simp [F25r1]
  first | refine hK _ ?_ | refine ⟨by omega, hK _ ?_⟩ | refine ⟨by omega, by omega, hK _ ?_⟩ | refine ⟨by omega, by omega, by omega, hK _ ?_⟩ | refine ⟨by omega, by omega, by omega, by omega, hK _ ?_⟩
  refine AWp.seq ?_
  refine AWp.seq ?_
  refine AWp.reg [] F25r2 [] (by kernel_rfl) (by rw [hC]; rfl) fun K hK => ?_
  simp [F25r2]
  first | refine hK _ ?_ | refine ⟨by omega, hK _ ?_⟩ | refine ⟨by omega, by omega, hK _ ?_⟩ | refine ⟨by omega, by omega, by omega, hK _ ?_⟩ | refine ⟨by omega, by omega, by omega, by omega, hK _ ?_⟩
  refine AWp.block ?_
  refine AWp.loopG (fun k => st25a g (itr (nxRule g) k (List.replicate g.n [])) [(19, encInts g.heads), (20, ival g.heads.length), (21, ival k)]) (fun k => k ≤ g.heads.length) (fun k => g.heads.length - k) 0 (by simp) (by simp [st25a, itr, encO]) (fun k hk1 => ?_)
  have hL : (itr (nxRule g) k (List.replicate g.n [])).length = g.n := itr_inv (p := fun (x : List (List Nat)) => x.length = g.n) k (fun _ _ x hx => by unfold nxRule; rw [nxFold_len]; exact hx) k (Nat.le_refl _) _ (by simp)
  have hS := nextShort g hg k hk1
  have hsucc : itr (nxRule g) (k + 1) (List.replicate g.n []) = nxRule g k (itr (nxRule g) k (List.replicate g.n [])) := rfl
  have hall : k = g.heads.length → itr (nxRule g) k (List.replicate g.n []) = nextOf g := by intro e; rw [e]; rfl
  revert hL hS hsucc hall
  generalize itr (nxRule g) k (List.replicate g.n []) = out1
  intro hL hS hsucc hall
  refine AWp.seq ?_
  refine AWp.reg [] F25r3 [] (by kernel_rfl) (by rw [hC]; rfl) fun K hK => ?_
  simp [F25r3, st25a]
  first | refine hK _ ?_ | refine ⟨by omega, hK _ ?_⟩ | refine ⟨by omega, by omega, hK _ ?_⟩ | refine ⟨by omega, by omega, by omega, hK _ ?_⟩ | refine ⟨by omega, by omega, by omega, by omega, hK _ ?_⟩
  refine AWp.seq ?_
  refine AWp.cond (decide (k < g.heads.length)) (by simp) (fun hlt => ?_) (fun hge => ?_)
  · skip
    have hlt : k < g.heads.length := by simpa using hlt
    have hlt2 : k < g.edges.length := by omega
    have hhn := hg.heads _ (List.getElem_mem hlt)
    have hel := hg.elen _ (List.getElem_mem hlt2)
    have hrule : nxRule g k out1 = g.edges[k].foldl (nxStep g.heads[k]) out1 := by
      simp [nxRule, List.getD_eq_getElem?_getD, hlt, hlt2]
    refine AWp.skip ?_
    refine AWp.seq ?_
    refine AWp.block ?_
    refine AWp.seq ?_
    refine AWp.reg [true, false, false, true, true] F25r4 [] (by kernel_rfl) (by rw [hC]; rfl) fun K hK => ?_
    simp [F25r4, hlt, hlt2]
    first | refine hK _ ?_ | refine ⟨by omega, hK _ ?_⟩ | refine ⟨by omega, by omega, hK _ ?_⟩ | refine ⟨by omega, by omega, by omega, hK _ ?_⟩ | refine ⟨by omega, by omega, by omega, by omega, hK _ ?_⟩
    refine AWp.seq ?_
    refine AWp.reg [] F25r5 [] (by kernel_rfl) (by rw [hC]; rfl) fun K hK => ?_
    simp [F25r5, hlt, hlt2]
    first | refine hK _ ?_ | refine ⟨by omega, hK _ ?_⟩ | refine ⟨by omega, by omega, hK _ ?_⟩ | refine ⟨by omega, by omega, by omega, hK _ ?_⟩ | refine ⟨by omega, by omega, by omega, by omega, hK _ ?_⟩
    refine AWp.block ?_
    obtain ⟨es, hes⟩ : ∃ es, g.edges[k] = es := ⟨_, rfl⟩
    obtain ⟨h, hh⟩ : ∃ h, g.heads[k] = h := ⟨_, rfl⟩
    rw [hes] at hel
    rw [hes, hh] at hrule
    rw [hh] at hhn
    simp only [hes, hh]
    refine AWp.loopG (fun j => st25a g (itl (nxStep h) es j out1) [(19, encInts g.heads), (20, ival g.heads.length), (21, ival k), (4, ival k), (5, ival h), (30, encEdges es), (31, ival es.length), (32, ival j)]) (fun j => j ≤ es.length) (fun j => es.length - j) 0 (by simp) (by simp [st25a, itl, encEdges]) (fun j hj1 => ?_)
    have hL2 : (itl (nxStep h) es j out1).length = g.n := itl_inv (p := fun (x : List (List Nat)) => x.length = g.n) (nxStep_len h g.n es) j out1 hL
    have hS2 : shortRows (300 * k + j) (itl (nxStep h) es j out1) := by
      have := nxFold_short h (es.take j) (300 * k) out1 hS
      intro r hr
      have := this r hr
      simp only [List.length_take] at this
      omega
    have hsucc2 := fun (hq : j < es.length) => itl_succ (nxStep h) es j out1 hq
    have hall2 := fun (hq : es.length ≤ j) => itl_all (nxStep h) es j out1 hq
    revert hL2 hS2 hsucc2 hall2
    generalize itl (nxStep h) es j out1 = out
    intro hL2 hS2 hsucc2 hall2
    refine AWp.seq ?_
    refine AWp.reg [] F25r6 [] (by kernel_rfl) (by rw [hC]; rfl) fun K hK => ?_
    simp [F25r6, st25a]
    first | refine hK _ ?_ | refine ⟨by omega, hK _ ?_⟩ | refine ⟨by omega, by omega, hK _ ?_⟩ | refine ⟨by omega, by omega, by omega, hK _ ?_⟩ | refine ⟨by omega, by omega, by omega, by omega, hK _ ?_⟩
    refine AWp.seq ?_
    refine AWp.cond (decide (j < es.length)) (by simp) (fun hltj => ?_) (fun hgej => ?_)
    · skip
      have hltj : j < es.length := by simpa using hltj
      have hal : h < out.length := by omega
      have hst : nxStep h out es[j] = out.set h (out.getD h [] ++ [es[j].to]) := rfl
      obtain ⟨row, hrow⟩ : ∃ c, out[h] = c := ⟨_, rfl⟩
      have hrl : row.length ≤ 100000 := by have := hS2 _ (List.getElem_mem hal); rw [hrow] at this; omega
      rw [List.getD_eq_getElem?_getD, List.getElem?_eq_getElem hal, hrow] at hst
      simp only [Option.getD_some] at hst
      refine AWp.skip ?_
      refine AWp.seq ?_
      refine AWp.block ?_
      refine AWp.seq ?_
      refine AWp.reg [false, false, false, true] F25r7 [] (by kernel_rfl) (by rw [hC]; rfl) fun K hK => ?_
      simp [F25r7, hrow, encO, hL2, hhn, hltj]
      first | refine hK _ ?_ | refine ⟨by omega, hK _ ?_⟩ | refine ⟨by omega, by omega, hK _ ?_⟩ | refine ⟨by omega, by omega, by omega, hK _ ?_⟩ | refine ⟨by omega, by omega, by omega, by omega, hK _ ?_⟩
      refine AWp.regD ops_mixed [false, false, false, false, false, true, false, false, false, false, false, true] F25r8 [] (by kernel_rfl) (by rw [hC]; rfl) rfl (fun K hK => ?_) (by simp [F25r8, hrow, encO, hL2, hhn, hltj] <;> rfl)
      simp [F25r8, hrow, encO, hL2, hhn, hltj]
      first | refine hK _ ?_ | refine ⟨by omega, hK _ ?_⟩ | refine ⟨by omega, by omega, hK _ ?_⟩ | refine ⟨by omega, by omega, by omega, hK _ ?_⟩ | refine ⟨by omega, by omega, by omega, by omega, hK _ ?_⟩
      refine AWp.reg [] F25r9 [] (by kernel_rfl) (by rw [hC]; rfl) fun K hK => ?_
      simp [F25r9, hrow, encO, hL2, hhn, hltj]
      first | refine hK _ ?_ | refine ⟨by omega, hK _ ?_⟩ | refine ⟨by omega, by omega, hK _ ?_⟩ | refine ⟨by omega, by omega, by omega, hK _ ?_⟩ | refine ⟨by omega, by omega, by omega, by omega, hK _ ?_⟩
      refine ⟨j + 1, by omega, by omega, ?_⟩
      rw [hsucc2 hltj, hst]
      simp [st25a, wrap_nat j (by omega), encO]
    have hgej : ¬ j < es.length := by simpa using hgej
    refine AWp.exit ?_
    refine AWp.reg [] F25r10 [] (by kernel_rfl) (by rw [hC]; rfl) fun K hK => ?_
    simp [F25r10]
    first | refine hK _ ?_ | refine ⟨by omega, hK _ ?_⟩ | refine ⟨by omega, by omega, hK _ ?_⟩ | refine ⟨by omega, by omega, by omega, hK _ ?_⟩ | refine ⟨by omega, by omega, by omega, by omega, hK _ ?_⟩
    refine ⟨k + 1, by omega, by omega, ?_⟩
    rw [hsucc, hrule, ← hall2 (by omega)]
    simp [st25a, wrap_nat k (by omega)]
  have hge : ¬ k < g.heads.length := by simpa using hge
  have ho := hall (by omega)
  subst ho
  refine AWp.exit ?_
  refine AWp.seq ?_
  refine AWp.reg [false, false, false, true] F25r11 [] (by kernel_rfl) (by rw [hC]; rfl) fun K hK => ?_
  simp [F25r11]
  first | refine hK _ ?_ | refine ⟨by omega, hK _ ?_⟩ | refine ⟨by omega, by omega, hK _ ?_⟩ | refine ⟨by omega, by omega, by omega, hK _ ?_⟩ | refine ⟨by omega, by omega, by omega, by omega, hK _ ?_⟩
  refine AWp.seq ?_
  refine AWp.seq ?_
  refine AWp.reg [] F25r12 [] (by kernel_rfl) (by rw [hC]; rfl) fun K hK => ?_
  simp [F25r12]
  first | refine hK _ ?_ | refine ⟨by omega, hK _ ?_⟩ | refine ⟨by omega, by omega, hK _ ?_⟩ | refine ⟨by omega, by omega, by omega, hK _ ?_⟩ | refine ⟨by omega, by omega, by omega, by omega, hK _ ?_⟩
  refine AWp.block ?_
  refine AWp.loopG (st25b g) (fun i => i ≤ g.n) (fun i => g.n - i) 0 (by simp) (by simp [st25b, marked]) (fun i hi1 => ?_)
  refine AWp.seq ?_
  refine AWp.reg [] F25r13 [] (by kernel_rfl) (by rw [hC]; rfl) fun K hK => ?_
  simp [F25r13, st25b]
  first | refine hK _ ?_ | refine ⟨by omega, hK _ ?_⟩ | refine ⟨by omega, by omega, hK _ ?_⟩ | refine ⟨by omega, by omega, by omega, hK _ ?_⟩ | refine ⟨by omega, by omega, by omega, by omega, hK _ ?_⟩
  refine AWp.seq ?_
  refine AWp.cond (decide (i < g.n)) (by simp) (fun hlt => ?_) (fun hge2 => ?_)
  · skip
    have hlt : i < g.n := by simpa using hlt
    have hml : (marked g i).length = g.n := marked_len g i (by omega)
    have hcur := cur25_at g i hlt
    have hlt1 : i + 1 ≤ g.n := hlt
    have hcl : (cur25 g i).length = g.n := by simp [cur25, hml]
    have hcw : withinL [1, 17, 51, 61] (cur25 g i) = true := cur25_within _ g i rfl
    have hfold : (marked g i).set i (.vec 61 1 0 g.n g.n) = cur25 g i := rfl
    refine AWp.skip ?_
    refine AWp.seq ?_
    refine AWp.block ?_
    refine AWp.seq ?_
    refine AWp.reg [true, true] F25r14 [] (by kernel_rfl) (by rw [hC]; rfl) fun K hK => ?_
    simp [F25r14, hml, hlt, hlt1, hfold]
    first | refine hK _ ?_ | refine ⟨by omega, hK _ ?_⟩ | refine ⟨by omega, by omega, hK _ ?_⟩ | refine ⟨by omega, by omega, by omega, hK _ ?_⟩ | refine ⟨by omega, by omega, by omega, by omega, hK _ ?_⟩
    refine AWp.seq ?_
    refine AWp.reg [false, false, false, false, false, false, true] F25r15 [] (by kernel_rfl) (by rw [hC]; rfl) fun K hK => ?_
    simp [F25r15, hml, hlt, hlt1, hfold]
    first | refine hK _ ?_ | refine ⟨by omega, hK _ ?_⟩ | refine ⟨by omega, by omega, hK _ ?_⟩ | refine ⟨by omega, by omega, by omega, hK _ ?_⟩ | refine ⟨by omega, by omega, by omega, by omega, hK _ ?_⟩
    refine AWp.seq ?_
    refine AWp.reg [false, false, true] F25r16 [] (by kernel_rfl) (by rw [hC]; rfl) fun K hK => ?_
    simp [F25r16, hml, hlt, hlt1, hfold]
    first | refine hK _ ?_ | refine ⟨by omega, hK _ ?_⟩ | refine ⟨by omega, by omega, hK _ ?_⟩ | refine ⟨by omega, by omega, by omega, hK _ ?_⟩ | refine ⟨by omega, by omega, by omega, by omega, hK _ ?_⟩
    refine AWp.block ?_
    refine AWp.loopG (st25c g i) (fun q => Srch (nextOf g) g.n i q.1 q.2 ∧ q.2.length + q.1.count false ≤ g.n + 1) (fun q => 2 * q.1.count false + q.2.length) (List.replicate g.n false, [i]) ⟨Srch.init hlt, by simp; omega⟩ (by simp [st25c, bools, hcw]) (fun q hq => ?_)
    obtain ⟨row, todo⟩ := q
    obtain ⟨hsr, hcnt⟩ := hq
    simp only at hsr hcnt
    refine AWp.seq ?_
    refine AWp.seq ?_
    refine AWp.reg [] F25r17 [] (by kernel_rfl) (by rw [hC]; rfl) fun K hK => ?_
    simp [F25r17, st25c]
    first | refine hK _ ?_ | refine ⟨by omega, hK _ ?_⟩ | refine ⟨by omega, by omega, hK _ ?_⟩ | refine ⟨by omega, by omega, by omega, hK _ ?_⟩ | refine ⟨by omega, by omega, by omega, by omega, hK _ ?_⟩
    refine AWp.cond (decide (0 < todo.length)) (by simp) (fun hne => ?_) (fun hem => ?_)
    · skip
      have hne : 0 < todo.length := by simpa using hne
      obtain ⟨todo', x, rfl⟩ : ∃ t x, todo = t ++ [x] := by
        rcases List.eq_nil_or_concat todo with h | ⟨t, x, h⟩
        · subst h; simp at hne
        · exact ⟨t, x, by simpa using h⟩
      have hxn : x < g.n := hsr.tin x (by simp)
      have hsp := hsr.pop
      have hw : IntKind.i64.wrap ((todo'.length : Int)) = todo'.length := by rw [wrap_in (by omega) (by simp at hcnt; omega)]
      have hcnt' : todo'.length + row.count false ≤ g.n := by simp at hcnt; omega
      have hxl : x < (nextOf g).length := by omega
      obtain ⟨nx, hnx⟩ : ∃ l, (nextOf g)[x] = l := ⟨_, rfl⟩
      have hnxD : (nextOf g).getD x [] = nx := by rw [List.getD_eq_getElem?_getD, List.getElem?_eq_getElem hxl, hnx]; rfl
      have hnin : ∀ y ∈ nx, y < g.n := fun y hy => nextIn g hg g.heads.length (Nat.le_refl _) nx (by rw [← hnx]; exact List.getElem_mem hxl) y hy
      have hnxl : nx.length ≤ 300 * g.heads.length := nextShort g hg g.heads.length (Nat.le_refl _) nx (by rw [← hnx]; exact List.getElem_mem hxl)
      refine AWp.skip ?_
      refine AWp.block ?_
      refine AWp.seq ?_
      refine AWp.reg [false, false, false, true] F25r18 [] (by kernel_rfl) (by rw [hC]; rfl) fun K hK => ?_
      simp [F25r18, hw, hxl, hnx, encO]
      first | refine hK _ ?_ | refine ⟨by omega, hK _ ?_⟩ | refine ⟨by omega, by omega, hK _ ?_⟩ | refine ⟨by omega, by omega, by omega, hK _ ?_⟩ | refine ⟨by omega, by omega, by omega, by omega, hK _ ?_⟩
      refine AWp.seq ?_
      refine AWp.reg [false, false, false, false, true] F25r19 [] (by kernel_rfl) (by rw [hC]; rfl) fun K hK => ?_
      simp [F25r19, hw, hxl, hnx, encO]
      first | refine hK _ ?_ | refine ⟨by omega, hK _ ?_⟩ | refine ⟨by omega, by omega, hK _ ?_⟩ | refine ⟨by omega, by omega, by omega, hK _ ?_⟩ | refine ⟨by omega, by omega, by omega, by omega, hK _ ?_⟩
      refine AWp.seq ?_
      refine AWp.reg [false, false, false, false, true] F25r20 [] (by kernel_rfl) (by rw [hC]; rfl) fun K hK => ?_
      simp [F25r20, hw, hxl, hnx, encO]
      first | refine hK _ ?_ | refine ⟨by omega, hK _ ?_⟩ | refine ⟨by omega, by omega, hK _ ?_⟩ | refine ⟨by omega, by omega, by omega, hK _ ?_⟩ | refine ⟨by omega, by omega, by omega, by omega, hK _ ?_⟩
      refine AWp.seq ?_
      refine AWp.reg [] F25r21 [] (by kernel_rfl) (by rw [hC]; rfl) fun K hK => ?_
      simp [F25r21, hw, hxl, hnx, encO]
      first | refine hK _ ?_ | refine ⟨by omega, hK _ ?_⟩ | refine ⟨by omega, by omega, hK _ ?_⟩ | refine ⟨by omega, by omega, by omega, hK _ ?_⟩ | refine ⟨by omega, by omega, by omega, by omega, hK _ ?_⟩
      refine AWp.block ?_
      refine AWp.loopG (st25d g i nx) (fun q => q.1 ≤ nx.length ∧ SrchP (nextOf g) g.n i x q.1 q.2.1 q.2.2.1 ∧ q.2.2.1.length + q.2.1.count false ≤ g.n ∧ 2 * q.2.1.count false + q.2.2.1.length ≤ 2 * row.count false + todo'.length) (fun q => nx.length - q.1) (0, row, todo', false) ⟨Nat.zero_le _, hsp, hcnt', Nat.le_refl _⟩ (by simp [st25d, todoA, hcw, bools]) (fun q hq => ?_)
      obtain ⟨j, row2, todo2, own⟩ := q
      obtain ⟨hj1, hsp2, hcnt2, hmu⟩ := hq
      simp only at hj1 hsp2 hcnt2 hmu
      refine AWp.seq ?_
      refine AWp.reg [] F25r22 [] (by kernel_rfl) (by rw [hC]; rfl) fun K hK => ?_
      simp [F25r22, st25d]
      first | refine hK _ ?_ | refine ⟨by omega, hK _ ?_⟩ | refine ⟨by omega, by omega, hK _ ?_⟩ | refine ⟨by omega, by omega, by omega, hK _ ?_⟩ | refine ⟨by omega, by omega, by omega, by omega, hK _ ?_⟩
      refine AWp.seq ?_
      refine AWp.cond (decide (j < nx.length)) (by simp) (fun hltj => ?_) (fun hgej => ?_)
      · skip
        have hltj : j < nx.length := by simpa using hltj
        have hyn : nx[j] < g.n := hnin _ (List.getElem_mem hltj)
        have hgj : ((nextOf g).getD x [])[j]? = some nx[j] := by rw [hnxD]; exact List.getElem?_eq_getElem hltj
        obtain ⟨y, hy⟩ : ∃ y, nx[j] = y := ⟨_, rfl⟩
        rw [hy] at hyn hgj
        have hyl : y < row2.length := by rw [hsp2.len]; exact hyn
        have hyl1 : y + 1 ≤ row2.length := hyl
        have hrl := hsp2.len
        obtain ⟨b, hb⟩ : ∃ b, row2[y] = b := ⟨_, rfl⟩
        have hby : row2[y]? = some b := by rw [List.getElem?_eq_getElem hyl, hb]
        refine AWp.skip ?_
        refine AWp.seq ?_
        refine AWp.block ?_
        refine AWp.seq ?_
        refine AWp.reg [false, false, true] F25r23 [] (by kernel_rfl) (by rw [hC]; rfl) fun K hK => ?_
        simp [F25r23, hltj, hy, hyn, hcur, bools, hyl, hb, hrl]
        first | refine hK _ ?_ | refine ⟨by omega, hK _ ?_⟩ | refine ⟨by omega, by omega, hK _ ?_⟩ | refine ⟨by omega, by omega, by omega, hK _ ?_⟩ | refine ⟨by omega, by omega, by omega, by omega, hK _ ?_⟩
        refine AWp.seq ?_
        refine AWp.reg [] F25r24 [] (by kernel_rfl) (by rw [hC]; rfl) fun K hK => ?_
        simp [F25r24, hltj, hy, hyn, hcur, bools, hyl, hb, hrl]
        first | refine hK _ ?_ | refine ⟨by omega, hK _ ?_⟩ | refine ⟨by omega, by omega, hK _ ?_⟩ | refine ⟨by omega, by omega, by omega, hK _ ?_⟩ | refine ⟨by omega, by omega, by omega, by omega, hK _ ?_⟩
        cases b with
        | true =>
          refine AWp.cond false (by simp) (fun he => by cases he) (fun _ => ?_)
          refine AWp.skip ?_
          refine AWp.reg [] F25r27 [] (by kernel_rfl) (by rw [hC]; rfl) fun K hK => ?_
          simp [F25r27]
          first | refine hK _ ?_ | refine ⟨by omega, hK _ ?_⟩ | refine ⟨by omega, by omega, hK _ ?_⟩ | refine ⟨by omega, by omega, by omega, hK _ ?_⟩ | refine ⟨by omega, by omega, by omega, by omega, hK _ ?_⟩
          refine ⟨(j + 1, row2, todo2, own), ⟨by omega, hsp2.old hgj hby, hcnt2, hmu⟩, by simp only; omega, ?_⟩
          simp [st25d, wrap_nat j (by omega), bools, hcw]
        | false =>
          refine AWp.cond true (by simp) (fun _ => ?_) (fun he => by cases he)
          have hcs := count_set row2 y hby
          have hnew := hsp2.new hgj hby
          cases own with
          | true =>
            refine AWp.seq ?_
            refine AWp.reg [false, false, false, false, false, false, true] F25r25 [] (by kernel_rfl) (by rw [hC]; rfl) fun K hK => ?_
            simp [F25r25, hcur, hyl, hrl, hyl1, hyn, hy, bools, todoA]
            first | refine hK _ ?_ | refine ⟨by omega, hK _ ?_⟩ | refine ⟨by omega, by omega, hK _ ?_⟩ | refine ⟨by omega, by omega, by omega, hK _ ?_⟩ | refine ⟨by omega, by omega, by omega, by omega, hK _ ?_⟩
            refine AWp.reg [true, false, false, false, true] F25r26 [] (by kernel_rfl) (by rw [hC]; rfl) fun K hK => ?_
            simp [F25r26, hcur, hyl, hrl, hyl1, hyn, hy, bools, todoA]
            first | refine hK _ ?_ | refine ⟨by omega, hK _ ?_⟩ | refine ⟨by omega, by omega, hK _ ?_⟩ | refine ⟨by omega, by omega, by omega, hK _ ?_⟩ | refine ⟨by omega, by omega, by omega, by omega, hK _ ?_⟩
            refine AWp.reg [] F25r27 [] (by kernel_rfl) (by rw [hC]; rfl) fun K hK => ?_
            simp [F25r27, hcur, hyl, hrl, hyl1, hyn, hy, bools, todoA]
            first | refine hK _ ?_ | refine ⟨by omega, hK _ ?_⟩ | refine ⟨by omega, by omega, hK _ ?_⟩ | refine ⟨by omega, by omega, by omega, hK _ ?_⟩ | refine ⟨by omega, by omega, by omega, by omega, hK _ ?_⟩
            refine ⟨(j + 1, row2.set y true, todo2 ++ [y], true), ⟨by omega, hnew, by simp; omega, by simp; omega⟩, by simp only; omega, ?_⟩
            simp [st25d, wrap_nat j (by omega), bools, todoA, hcw]
          | false =>
            refine AWp.seq ?_
            refine AWp.reg [false, false, false, false, false, false, true] F25r25 [] (by kernel_rfl) (by rw [hC]; rfl) fun K hK => ?_
            simp [F25r25, hcur, hyl, hrl, hyl1, hyn, hy, bools, todoA]
            first | refine hK _ ?_ | refine ⟨by omega, hK _ ?_⟩ | refine ⟨by omega, by omega, hK _ ?_⟩ | refine ⟨by omega, by omega, by omega, hK _ ?_⟩ | refine ⟨by omega, by omega, by omega, by omega, hK _ ?_⟩
            refine AWp.reg [true, false, false, false, true] F25r26 [] (by kernel_rfl) (by rw [hC]; rfl) fun K hK => ?_
            simp [F25r26, hcur, hyl, hrl, hyl1, hyn, hy, bools, todoA]
            first | refine hK _ ?_ | refine ⟨by omega, hK _ ?_⟩ | refine ⟨by omega, by omega, hK _ ?_⟩ | refine ⟨by omega, by omega, by omega, hK _ ?_⟩ | refine ⟨by omega, by omega, by omega, by omega, hK _ ?_⟩
            refine AWp.reg [] F25r27 [] (by kernel_rfl) (by rw [hC]; rfl) fun K hK => ?_
            simp [F25r27, hcur, hyl, hrl, hyl1, hyn, hy, bools, todoA]
            first | refine hK _ ?_ | refine ⟨by omega, hK _ ?_⟩ | refine ⟨by omega, by omega, hK _ ?_⟩ | refine ⟨by omega, by omega, by omega, hK _ ?_⟩ | refine ⟨by omega, by omega, by omega, by omega, hK _ ?_⟩
            refine ⟨(j + 1, row2.set y true, todo2 ++ [y], true), ⟨by omega, hnew, by simp; omega, by simp; omega⟩, by simp only; omega, ?_⟩
            simp [st25d, wrap_nat j (by omega), bools, todoA, hcw]
      have hgej : ¬ j < nx.length := by simpa using hgej
      refine AWp.exit ?_
      refine ⟨(row2, todo2), ⟨hsp2.end (by rw [hnxD]; omega), by simp only; omega⟩, by simp; omega, ?_⟩
      cases own <;> simp [st25c, st25d, todoA, hcw, bools]
    have hem : todo = [] := by simpa using hem
    subst hem
    have hd := hsr.done
    subst hd
    refine AWp.exit ?_
    refine AWp.freeze hM [61] (st25b' g i) ⟨rfl, by simp [bools], ?_, ?_⟩ ?_
    · simp [st25b', st25c]
    · simp [st25b', st25c]
      refine ⟨.refl (by simp), .refl (by simp), ?_⟩
      rw [cur25, marked_succ g i hlt]
      refine FVL.set ?_ i (.refl (by simp))
      refine .inr ⟨rfl, .inr ⟨by simp, _, Rsv.vec1 (b := 61) (n := g.n) (e := 4) (cs := bools (reachRow (nextOf g) g.n i)) rfl (by simp [bools]) (by simp [bools, reachRow]), ?_⟩⟩
      simp [bools, boolRows]
      exact .refl _
    refine AWp.reg [] F25r28 [] (by kernel_rfl) (by rw [hC]; rfl) fun K hK => ?_
    simp [F25r28, st25b']
    first | refine hK _ ?_ | refine ⟨by omega, hK _ ?_⟩ | refine ⟨by omega, by omega, hK _ ?_⟩ | refine ⟨by omega, by omega, by omega, hK _ ?_⟩ | refine ⟨by omega, by omega, by omega, by omega, hK _ ?_⟩
    refine ⟨i + 1, by omega, by omega, ?_⟩
    simp [st25b, wrap_nat i (by omega)]
  have hge2 : ¬ i < g.n := by simpa using hge2
  have hi : i = g.n := by omega
  subst hi
  refine AWp.exit ?_
  refine AWp.seq ?_
  refine AWp.reg [true, true] F25r29 [] (by kernel_rfl) (by rw [hC]; rfl) fun K hK => ?_
  simp [F25r29]
  first | refine hK _ ?_ | refine ⟨by omega, hK _ ?_⟩ | refine ⟨by omega, by omega, hK _ ?_⟩ | refine ⟨by omega, by omega, by omega, hK _ ?_⟩ | refine ⟨by omega, by omega, by omega, by omega, hK _ ?_⟩
  repeat refine AWp.seq ?_
  refine AWp.ret ⟨.inr rfl, _, by simp [Try.results25] <;> rfl, ?_⟩
  have hr := Rsv.vec1 (g := lk (st25b g g.n).hp) (b := 51) (n := g.n) (e := 47) (cs := marked g g.n) rfl (by simp [marked]) (by simp [marked])
  simp [marked, boolRows] at hr
  exact hr
end Go.St
