/- strata: Rests; large; the law StrataRests. -/
import Derived.Test.YtldaibijdhjpjaaStG
import Derived.Test.YtldaibijdhjpjaaStSpH
import Derived.Test.YtldaibijdhjpjaaStD
set_option linter.unusedSimpArgs false
set_option linter.unusedVariables false
open Go Go.Aw Go.Proofs
namespace Go.St
attribute [local simp] ints encEdges encEdge encE
-- function 11: corollary/strata.Rests: 51 slots; results ['(Go.ResultVar.tmp 2)', '(Go.ResultVar.cell 3 32)', '(Go.ResultVar.tmp 4)']
def F11r0 : List ROp := [{ dst := some 1, op := .box 28 (.tmp 0), after := [], guard := none },
  { dst := some 2, op := .copy true (.const (.slice none 0 0)), after := [], guard := none },
  { dst := some 3, op := .alloc 32 [Value.int .i64 0, Value.int .i64 0], after := [], guard := none },
  { dst := some 4, op := .copy true (.const (.int .i64 0)), after := [1], guard := none }]
def F11r1 : List ROp := [{ dst := some 15, op := .load 6 true false (.tmp 1), after := [], guard := none },
  { dst := some 16, op := .call (.func 24) [.tmp 15], after := [0], guard := none },
  { dst := some 14, op := .copy false (.tmp 16), after := [1], guard := none },
  { dst := some 17, op := .ext (.tmp 14) 0, after := [2], guard := none },
  { dst := some 18, op := .ext (.tmp 14) 1, after := [2], guard := none },
  { dst := some 19, op := .ext (.tmp 14) 2, after := [2], guard := none },
  { dst := some 5, op := .alloc 72 [Value.int .i64 0, Value.slice none 0 0, Value.slice none 0 0], after := [], guard := none },
  { dst := some 6, op := .alloc 32 [Value.int .i64 0, Value.int .i64 0], after := [], guard := none },
  { dst := none, op := .store 3 true (.tmp 5) (.tmp 17), after := [6, 3, 1, 0, 1, 2, 3, 6, 7], guard := none },
  { dst := none, op := .store 2 true (.tmp 6) (.tmp 18), after := [7, 4, 8, 0, 1, 2, 3, 4, 6, 7, 8], guard := none },
  { dst := some 7, op := .copy true (.tmp 19), after := [5, 9, 0, 1, 2, 3, 4, 5, 6, 7, 8, 9], guard := none }]
def F11r2 : List ROp := [{ dst := some 20, op := .copy false (.tmp 7), after := [], guard := none },
  { dst := some 21, op := .bin .neq (.tmp 20) (.const (.int .i64 0)), after := [0], guard := none }]
def F11r3 : List ROp := [{ dst := some 22, op := .load 2 true false (.tmp 6), after := [], guard := none },
  { dst := some 23, op := .copy true (.tmp 7), after := [], guard := none },
  { dst := some 2, op := .copy true (.const (.slice none 0 0)), after := [], guard := none },
  { dst := none, op := .store 2 true (.tmp 3) (.tmp 22), after := [0, 2, 0, 2], guard := none },
  { dst := some 4, op := .copy true (.tmp 23), after := [1, 3, 0, 1, 2, 3], guard := none }]
def F11r4 : List ROp := [{ dst := some 8, op := .copy true (.const (.slice none 0 0)), after := [], guard := none }]
def F11r5 : List ROp := [{ dst := some 24, op := .load 3 true false (.tmp 5), after := [], guard := none },
  { dst := some 25, op := .call (.func 25) [.tmp 24], after := [0], guard := none },
  { dst := some 26, op := .len 0 (.tmp 25), after := [1], guard := none },
  { dst := some 27, op := .copy false (.const (.int .i64 0)), after := [], guard := none }]
def F11r6 : List ROp := [{ dst := some 28, op := .bin .lss (.tmp 27) (.tmp 26), after := [], guard := none }]
def F11r7 : List ROp := [{ dst := some 29, op := .iad 1 (.tmp 25) (.tmp 27), after := [], guard := none },
  { dst := some 30, op := .load 1 false false (.tmp 29), after := [0], guard := none },
  { dst := some 10, op := .copy true (.tmp 30), after := [1, 0, 1], guard := none }]
def F11r8 : List ROp := [{ dst := some 11, op := .copy true (.const (.slice none 0 0)), after := [], guard := none }]
def F11r9 : List ROp := [{ dst := some 31, op := .copy false (.tmp 10), after := [], guard := none },
  { dst := some 32, op := .len 0 (.tmp 31), after := [0], guard := none },
  { dst := some 33, op := .copy false (.const (.int .i64 0)), after := [], guard := none }]
def F11r10 : List ROp := [{ dst := some 34, op := .bin .lss (.tmp 33) (.tmp 32), after := [], guard := none }]
def F11r11 : List ROp := [{ dst := some 35, op := .copy true (.tmp 33), after := [], guard := none },
  { dst := some 36, op := .iad 1 (.tmp 31) (.tmp 33), after := [], guard := none },
  { dst := some 37, op := .load 1 false false (.tmp 36), after := [1], guard := none },
  { dst := some 12, op := .copy true (.tmp 35), after := [0, 0, 1, 2], guard := none },
  { dst := some 13, op := .copy true (.tmp 37), after := [2, 3, 0, 1, 2, 3], guard := none }]
def F11r12 : List ROp := [{ dst := some 38, op := .copy false (.tmp 13), after := [], guard := none }]
def F11r13 : List ROp := [{ dst := some 39, op := .copy true (.tmp 11), after := [], guard := none },
  { dst := some 40, op := .copy false (.tmp 12), after := [], guard := none },
  { dst := some 41, op := .bslice 3 1 [Value.int .i64 0] 1 [(0, .tmp 40)], after := [1], guard := none },
  { dst := some 42, op := .app 3 1 8 (.tmp 39) (.tmp 41), after := [0, 2], guard := none },
  { dst := some 11, op := .copy true (.tmp 42), after := [3, 3, 0, 1, 2, 3], guard := none }]
def F11r14 : List ROp := [{ dst := some 43, op := .bin .add (.tmp 33) (.const (.int .i64 1)), after := [], guard := none },
  { dst := some 33, op := .copy false (.tmp 43), after := [0], guard := none }]
def F11r15 : List ROp := [{ dst := some 44, op := .copy true (.tmp 8), after := [], guard := none },
  { dst := some 45, op := .copy false (.tmp 11), after := [], guard := none },
  { dst := some 46, op := .bslice 37 1 [Value.slice none 0 0] 1 [(0, .tmp 45)], after := [1], guard := none },
  { dst := some 47, op := .app 37 1 24 (.tmp 44) (.tmp 46), after := [0, 2], guard := none },
  { dst := some 8, op := .copy true (.tmp 47), after := [3, 3, 0, 1, 2, 3], guard := none }]
def F11r16 : List ROp := [{ dst := some 48, op := .bin .add (.tmp 27) (.const (.int .i64 1)), after := [], guard := none },
  { dst := some 27, op := .copy false (.tmp 48), after := [0], guard := none }]
def F11r17 : List ROp := [{ dst := some 49, op := .copy true (.tmp 8), after := [], guard := none },
  { dst := some 50, op := .build [Value.int .i64 0, Value.int .i64 0] [], after := [], guard := none },
  { dst := some 2, op := .copy true (.tmp 49), after := [0, 0], guard := none },
  { dst := none, op := .store 2 true (.tmp 3) (.tmp 50), after := [1, 2, 0, 1, 2], guard := none },
  { dst := some 4, op := .copy true (.const (.int .i64 0)), after := [3, 0, 1, 2, 3], guard := none }]
-- function 9: corollary/corollarylaw15.large: 67 slots; results ['(Go.ResultVar.tmp 2)']
def F9r0 : List ROp := [{ dst := some 1, op := .box 28 (.tmp 0), after := [], guard := none },
  { dst := some 2, op := .copy true (.const (.bool false)), after := [], guard := none }]
def F9r1 : List ROp := [{ dst := some 6, op := .fad 3 (.tmp 1), after := [], guard := none },
  { dst := some 7, op := .load 1 false false (.tmp 6), after := [0], guard := none },
  { dst := some 8, op := .len 0 (.tmp 7), after := [1], guard := none },
  { dst := some 3, op := .copy true (.tmp 8), after := [2, 0, 1, 2], guard := none }]
def F9r2 : List ROp := [{ dst := some 4, op := .copy true (.const (.int .i64 0)), after := [], guard := none }]
def F9r3 : List ROp := [{ dst := some 9, op := .copy false (.tmp 4), after := [], guard := none },
  { dst := some 10, op := .fad 4 (.tmp 1), after := [], guard := none },
  { dst := some 11, op := .load 1 false false (.tmp 10), after := [1], guard := none },
  { dst := some 12, op := .len 0 (.tmp 11), after := [2], guard := none },
  { dst := some 13, op := .bin .lss (.tmp 9) (.tmp 12), after := [0, 3], guard := none },
  { dst := some 14, op := .copy false (.tmp 13), after := [4], guard := none },
  { dst := some 15, op := .copy false (.tmp 3), after := [5], guard := some (14, true) },
  { dst := some 16, op := .bin .lss (.tmp 15) (.const (.int .i64 300)), after := [6, 5], guard := some (14, true) },
  { dst := some 17, op := .pick (.tmp 14) (.tmp 16) (.const (.bool false)), after := [5, 7], guard := none }]
def F9r4 : List ROp := [{ dst := some 18, op := .copy false (.tmp 4), after := [], guard := none },
  { dst := some 19, op := .bin .add (.tmp 18) (.const (.int .i64 1)), after := [0], guard := none },
  { dst := some 4, op := .copy true (.tmp 19), after := [1, 0, 1], guard := none }]
def F9r5 : List ROp := [{ dst := some 20, op := .copy false (.tmp 3), after := [], guard := none },
  { dst := some 21, op := .bin .add (.tmp 20) (.const (.int .i64 1)), after := [0], guard := none },
  { dst := some 22, op := .fad 4 (.tmp 1), after := [], guard := none },
  { dst := some 23, op := .load 1 false false (.tmp 22), after := [2], guard := none },
  { dst := some 24, op := .copy false (.tmp 4), after := [], guard := none },
  { dst := some 25, op := .iad 6 (.tmp 23) (.tmp 24), after := [3, 4], guard := none },
  { dst := some 26, op := .fad 5 (.tmp 25), after := [5], guard := none },
  { dst := some 27, op := .load 1 false false (.tmp 26), after := [6], guard := none },
  { dst := some 28, op := .len 0 (.tmp 27), after := [7], guard := none },
  { dst := some 29, op := .bin .add (.tmp 21) (.tmp 28), after := [1, 8], guard := none },
  { dst := some 30, op := .fad 4 (.tmp 1), after := [], guard := none },
  { dst := some 31, op := .load 1 false false (.tmp 30), after := [10], guard := none },
  { dst := some 32, op := .copy false (.tmp 4), after := [], guard := none },
  { dst := some 33, op := .iad 6 (.tmp 31) (.tmp 32), after := [11, 12], guard := none },
  { dst := some 34, op := .fad 4 (.tmp 33), after := [13], guard := none },
  { dst := some 35, op := .load 1 false false (.tmp 34), after := [14], guard := none },
  { dst := some 36, op := .len 0 (.tmp 35), after := [15], guard := none },
  { dst := some 37, op := .bin .add (.tmp 29) (.tmp 36), after := [9, 16], guard := none },
  { dst := some 3, op := .copy true (.tmp 37), after := [17, 0, 1, 2, 3, 4, 5, 6, 7, 8, 9, 10, 11, 12, 13, 14, 15, 16, 17], guard := none }]
def F9r6 : List ROp := [{ dst := some 5, op := .copy true (.const (.int .i64 0)), after := [], guard := none }]
def F9r7 : List ROp := [{ dst := some 38, op := .copy false (.tmp 5), after := [], guard := none },
  { dst := some 39, op := .fad 5 (.tmp 1), after := [], guard := none },
  { dst := some 40, op := .load 1 false false (.tmp 39), after := [1], guard := none },
  { dst := some 41, op := .len 0 (.tmp 40), after := [2], guard := none },
  { dst := some 42, op := .bin .lss (.tmp 38) (.tmp 41), after := [0, 3], guard := none },
  { dst := some 43, op := .copy false (.tmp 42), after := [4], guard := none },
  { dst := some 44, op := .copy false (.tmp 3), after := [5], guard := some (43, true) },
  { dst := some 45, op := .bin .lss (.tmp 44) (.const (.int .i64 300)), after := [6, 5], guard := some (43, true) },
  { dst := some 46, op := .pick (.tmp 43) (.tmp 45) (.const (.bool false)), after := [5, 7], guard := none }]
def F9r8 : List ROp := [{ dst := some 47, op := .copy false (.tmp 5), after := [], guard := none },
  { dst := some 48, op := .bin .add (.tmp 47) (.const (.int .i64 1)), after := [0], guard := none },
  { dst := some 5, op := .copy true (.tmp 48), after := [1, 0, 1], guard := none }]
def F9r9 : List ROp := [{ dst := some 49, op := .copy false (.tmp 3), after := [], guard := none },
  { dst := some 50, op := .bin .add (.tmp 49) (.const (.int .i64 1)), after := [0], guard := none },
  { dst := some 51, op := .fad 5 (.tmp 1), after := [], guard := none },
  { dst := some 52, op := .load 1 false false (.tmp 51), after := [2], guard := none },
  { dst := some 53, op := .copy false (.tmp 5), after := [], guard := none },
  { dst := some 54, op := .iad 4 (.tmp 52) (.tmp 53), after := [3, 4], guard := none },
  { dst := some 55, op := .fad 3 (.tmp 54), after := [5], guard := none },
  { dst := some 56, op := .load 1 false false (.tmp 55), after := [6], guard := none },
  { dst := some 57, op := .len 0 (.tmp 56), after := [7], guard := none },
  { dst := some 58, op := .bin .add (.tmp 50) (.tmp 57), after := [1, 8], guard := none },
  { dst := some 3, op := .copy true (.tmp 58), after := [9, 0, 1, 2, 3, 4, 5, 6, 7, 8, 9], guard := none }]
def F9r10 : List ROp := [{ dst := some 59, op := .copy false (.tmp 3), after := [], guard := none },
  { dst := some 60, op := .bin .geq (.tmp 59) (.const (.int .i64 300)), after := [0], guard := none },
  { dst := some 61, op := .copy false (.tmp 60), after := [1], guard := none },
  { dst := some 62, op := .fad 3 (.tmp 1), after := [2], guard := some (61, false) },
  { dst := some 63, op := .load 1 false false (.tmp 62), after := [3, 2], guard := some (61, false) },
  { dst := some 64, op := .len 0 (.tmp 63), after := [4, 2], guard := some (61, false) },
  { dst := some 65, op := .bin .gtr (.tmp 64) (.const (.int .i64 30)), after := [5, 2], guard := some (61, false) },
  { dst := some 66, op := .pick (.tmp 61) (.const (.bool true)) (.tmp 65), after := [2, 6], guard := none },
  { dst := some 2, op := .copy true (.tmp 66), after := [7, 2, 0, 1, 2, 3, 4, 5, 6, 7], guard := none }]
-- function 3: corollary/corollarylaw15.StrataRests: 36 slots; results ['(Go.ResultVar.tmp 2)']
def F3r0 : List ROp := [{ dst := some 1, op := .box 28 (.tmp 0), after := [], guard := none },
  { dst := some 2, op := .copy true (.const (.bool false)), after := [], guard := none }]
def F3r1 : List ROp := [{ dst := some 9, op := .load 6 true false (.tmp 1), after := [], guard := none },
  { dst := some 10, op := .call (.func 9) [.tmp 9], after := [0], guard := none }]
def F3r2 : List ROp := [{ dst := some 2, op := .copy true (.const (.bool true)), after := [], guard := none }]
def F3r3 : List ROp := [{ dst := some 12, op := .load 6 true false (.tmp 1), after := [], guard := none },
  { dst := some 13, op := .call (.func 10) [.tmp 12], after := [0], guard := none },
  { dst := some 11, op := .copy false (.tmp 13), after := [1], guard := none },
  { dst := some 14, op := .ext (.tmp 11) 0, after := [2], guard := none },
  { dst := some 15, op := .ext (.tmp 11) 1, after := [2], guard := none },
  { dst := some 16, op := .ext (.tmp 11) 2, after := [2], guard := none },
  { dst := some 4, op := .alloc 32 [Value.int .i64 0, Value.int .i64 0], after := [], guard := none },
  { dst := some 3, op := .copy true (.tmp 14), after := [3, 1, 0, 1, 2, 3, 6], guard := none },
  { dst := none, op := .store 2 true (.tmp 4) (.tmp 15), after := [6, 4, 7, 0, 1, 2, 3, 4, 6, 7], guard := none },
  { dst := some 5, op := .copy true (.tmp 16), after := [5, 8, 0, 1, 2, 3, 4, 5, 6, 7, 8], guard := none }]
def F3r4 : List ROp := [{ dst := some 18, op := .load 6 true false (.tmp 1), after := [], guard := none },
  { dst := some 19, op := .call (.func 11) [.tmp 18], after := [0], guard := none },
  { dst := some 17, op := .copy false (.tmp 19), after := [1], guard := none },
  { dst := some 20, op := .ext (.tmp 17) 0, after := [2], guard := none },
  { dst := some 21, op := .ext (.tmp 17) 1, after := [2], guard := none },
  { dst := some 22, op := .ext (.tmp 17) 2, after := [2], guard := none },
  { dst := some 7, op := .alloc 32 [Value.int .i64 0, Value.int .i64 0], after := [], guard := none },
  { dst := some 6, op := .copy true (.tmp 20), after := [3, 1, 0, 1, 2, 3, 6], guard := none },
  { dst := none, op := .store 2 true (.tmp 7) (.tmp 21), after := [6, 4, 7, 0, 1, 2, 3, 4, 6, 7], guard := none },
  { dst := some 8, op := .copy true (.tmp 22), after := [5, 8, 0, 1, 2, 3, 4, 5, 6, 7, 8], guard := none }]
def F3r5 : List ROp := [{ dst := some 23, op := .copy false (.tmp 5), after := [], guard := none },
  { dst := some 24, op := .copy false (.tmp 8), after := [], guard := none },
  { dst := some 25, op := .bin .eql (.tmp 23) (.tmp 24), after := [0, 1], guard := none },
  { dst := some 26, op := .copy false (.tmp 25), after := [2], guard := none },
  { dst := some 27, op := .load 2 true false (.tmp 4), after := [3], guard := some (26, true) },
  { dst := some 28, op := .load 2 true false (.tmp 7), after := [3], guard := some (26, true) },
  { dst := some 29, op := .eqg false [0, 0] (.tmp 27) (.tmp 28), after := [4, 5, 3], guard := some (26, true) },
  { dst := some 30, op := .pick (.tmp 26) (.tmp 29) (.const (.bool false)), after := [3, 6], guard := none },
  { dst := some 31, op := .copy false (.tmp 30), after := [7, 3], guard := none },
  { dst := some 32, op := .copy false (.tmp 6), after := [8], guard := some (31, true) },
  { dst := some 33, op := .copy false (.tmp 3), after := [8], guard := some (31, true) },
  { dst := some 34, op := .call (.func 12) [.tmp 32, .tmp 33], after := [9, 10, 8, 8], guard := some (31, true) },
  { dst := some 35, op := .pick (.tmp 31) (.tmp 34) (.const (.bool false)), after := [8, 11], guard := none },
  { dst := some 2, op := .copy true (.tmp 35), after := [12, 11, 0, 1, 2, 3, 4, 5, 6, 7, 8, 9, 10, 11, 12], guard := none }]
def encRowsO (l : List (List Nat)) : AV := .own 37 1 (l.map fun row => [encInts row])
noncomputable def rowsIn (g : Graph) : AV := .rd 1 ((List.range g.n).map fun i => [.rd 1 (boolRows (reachRow (nextOf g) g.n i))])
noncomputable def st11 (g : Graph) (k : Nat) (ts : List (Nat × AV)) : AS := { tm := [(3, .ptr 3 0), (25, rowsIn g), (26, ival g.n), (27, ival k), (8, encRowsO (progRows g k))] ++ ts, hp := [(3, .cells 32 [ival 0, ival 0])] }
theorem progRows_succ (g : Graph) (k : Nat) : progRows g (k + 1) = progRows g k ++ [trues (reachRow (nextOf g) g.n k) g.n] := by
  unfold progRows; rw [List.range_succ, List.map_append]; rfl
theorem trues_len (l : List Bool) (k : Nat) : (trues l k).length ≤ k := by
  unfold trues; have := List.length_filter_le (fun b => l.getD b false) (List.range k); simpa using this
theorem Rests_ok (m : MMod) (hm : m.ok) (hs : Small m) : Con Try.prog 11 [encMod m] (encRests (progRests m)) := by
  have hrd := read_ok m hm
  refine Con.of_code Try.func11 (by kernel_rfl) rfl (by simp [Try.ntmps11]) fun C hC hM => ?_
  by_cases he : (checkE m).2 = 0
  · have hre : readE m = (graphOf m, okE) := by simp [readE, he]
    have hg := Check_good hs.rels he
    have hgo := graph_ok hg hs
    have hro := rests_ok (graphOf m) hgo
    have hpr : progRests m = (progRows (graphOf m) (graphOf m).n, okE) := by simp [progRests, he, graphOf]
    rw [hre] at hrd
    rw [hpr]
    generalize graphOf m = g at *
    have hn := hgo.n
    refine AWp.seq ?_
    refine AWp.reg [false, true, false, true] F11r0 [] (by kernel_rfl) (by rw [hC]; rfl) fun K hK => ?_
    simp [F11r0]
    first | refine hK _ ?_ | refine ⟨by omega, hK _ ?_⟩ | refine ⟨by omega, by omega, hK _ ?_⟩ | refine ⟨by omega, by omega, by omega, hK _ ?_⟩ | refine ⟨by omega, by omega, by omega, by omega, hK _ ?_⟩
    refine AWp.seq ?_
    refine AWp.reg [false, false, false, false, false, false, false, false, true, true, true] F11r1 [{ r := encRead (g, okE) }] (by kernel_rfl) (by rw [hC]; rfl) fun K hK => ?_
    simp [F11r1, encRead, okE]
    refine ⟨callOK rfl hrd, hK _ ?_⟩
    refine AWp.seq ?_
    refine AWp.seq ?_
    refine AWp.reg [] F11r2 [] (by kernel_rfl) (by rw [hC]; rfl) fun K hK => ?_
    simp [F11r2]
    first | refine hK _ ?_ | refine ⟨by omega, hK _ ?_⟩ | refine ⟨by omega, by omega, hK _ ?_⟩ | refine ⟨by omega, by omega, by omega, hK _ ?_⟩ | refine ⟨by omega, by omega, by omega, by omega, hK _ ?_⟩
    refine AWp.cond false (by simp) (fun he => by cases he) (fun _ => ?_)
    refine AWp.skip ?_
    refine AWp.seq ?_
    refine AWp.reg [true] F11r4 [] (by kernel_rfl) (by rw [hC]; rfl) fun K hK => ?_
    simp [F11r4]
    first | refine hK _ ?_ | refine ⟨by omega, hK _ ?_⟩ | refine ⟨by omega, by omega, hK _ ?_⟩ | refine ⟨by omega, by omega, by omega, hK _ ?_⟩ | refine ⟨by omega, by omega, by omega, by omega, hK _ ?_⟩
    refine AWp.seq ?_
    refine AWp.seq ?_
    refine AWp.reg [] F11r5 [{ r := rowsIn g }] (by kernel_rfl) (by rw [hC]; rfl) fun K hK => ?_
    simp [F11r5, rowsIn]
    refine ⟨callOK rfl hro, hK _ ?_⟩
    refine AWp.block ?_
    refine AWp.loopG (fun k => st11 g k []) (fun k => k ≤ g.n) (fun k => g.n - k) 0 (by simp) (by simp [st11, rowsIn, encRowsO, progRows, boolRows]) (fun k hk1 => ?_)
    refine AWp.seq ?_
    refine AWp.reg [] F11r6 [] (by kernel_rfl) (by rw [hC]; rfl) fun K hK => ?_
    simp [F11r6, st11, rowsIn]
    first | refine hK _ ?_ | refine ⟨by omega, hK _ ?_⟩ | refine ⟨by omega, by omega, hK _ ?_⟩ | refine ⟨by omega, by omega, by omega, hK _ ?_⟩ | refine ⟨by omega, by omega, by omega, by omega, hK _ ?_⟩
    refine AWp.seq ?_
    refine AWp.cond (decide (k < g.n)) (by simp) (fun hlt => ?_) (fun hge => ?_)
    · skip
      have hlt : k < g.n := by simpa using hlt
      have hpl : (progRows g k).length = k := by simp [progRows]
      have hrl : (reachRow (nextOf g) g.n k).length = g.n := by simp [reachRow]
      have hsucc := progRows_succ g k
      obtain ⟨l, hl⟩ : ∃ l, reachRow (nextOf g) g.n k = l := ⟨_, rfl⟩
      refine AWp.skip ?_
      refine AWp.seq ?_
      refine AWp.block ?_
      refine AWp.seq ?_
      refine AWp.reg [false, false, true] F11r7 [] (by kernel_rfl) (by rw [hC]; rfl) fun K hK => ?_
      simp [F11r7, hlt, hl]
      first | refine hK _ ?_ | refine ⟨by omega, hK _ ?_⟩ | refine ⟨by omega, by omega, hK _ ?_⟩ | refine ⟨by omega, by omega, by omega, hK _ ?_⟩ | refine ⟨by omega, by omega, by omega, by omega, hK _ ?_⟩
      refine AWp.seq ?_
      refine AWp.reg [true] F11r8 [] (by kernel_rfl) (by rw [hC]; rfl) fun K hK => ?_
      simp [F11r8, hlt, hl]
      first | refine hK _ ?_ | refine ⟨by omega, hK _ ?_⟩ | refine ⟨by omega, by omega, hK _ ?_⟩ | refine ⟨by omega, by omega, by omega, hK _ ?_⟩ | refine ⟨by omega, by omega, by omega, by omega, hK _ ?_⟩
      refine AWp.seq ?_
      refine AWp.seq ?_
      refine AWp.reg [] F11r9 [] (by kernel_rfl) (by rw [hC]; rfl) fun K hK => ?_
      simp [F11r9, hlt, hl]
      first | refine hK _ ?_ | refine ⟨by omega, hK _ ?_⟩ | refine ⟨by omega, by omega, hK _ ?_⟩ | refine ⟨by omega, by omega, by omega, hK _ ?_⟩ | refine ⟨by omega, by omega, by omega, by omega, hK _ ?_⟩
      refine AWp.block ?_
      rw [hl] at hrl hsucc
      revert hpl hsucc
      generalize progRows g k = out
      intro hpl hsucc
      refine AWp.loopG (fun j => { tm := [(3, .ptr 3 0), (25, rowsIn g), (26, ival g.n), (27, ival k), (8, encRowsO out), (11, encO (trues l j)), (31, .rd 1 (boolRows l)), (32, ival g.n), (33, ival j)], hp := [(3, .cells 32 [ival 0, ival 0])] }) (fun j => j ≤ g.n) (fun j => g.n - j) 0 (by simp) (by simp [rowsIn, encRowsO, encO, trues, boolRows, hrl]) (fun j hj1 => ?_)
      refine AWp.seq ?_
      refine AWp.reg [] F11r10 [] (by kernel_rfl) (by rw [hC]; rfl) fun K hK => ?_
      simp [F11r10, boolRows]
      first | refine hK _ ?_ | refine ⟨by omega, hK _ ?_⟩ | refine ⟨by omega, by omega, hK _ ?_⟩ | refine ⟨by omega, by omega, by omega, hK _ ?_⟩ | refine ⟨by omega, by omega, by omega, by omega, hK _ ?_⟩
      refine AWp.seq ?_
      refine AWp.cond (decide (j < g.n)) (by simp) (fun hltj => ?_) (fun hgej => ?_)
      · skip
        have hltj : j < g.n := by simpa using hltj
        have hjl : j < l.length := by omega
        have htl := trues_len l j
        have hts := trues_succ l j hjl
        obtain ⟨b, hb⟩ : ∃ b, l[j] = b := ⟨_, rfl⟩
        rw [hb] at hts
        refine AWp.skip ?_
        refine AWp.seq ?_
        refine AWp.block ?_
        refine AWp.seq ?_
        refine AWp.reg [true, false, false, true, true] F11r11 [] (by kernel_rfl) (by rw [hC]; rfl) fun K hK => ?_
        simp [F11r11, hjl, hb]
        first | refine hK _ ?_ | refine ⟨by omega, hK _ ?_⟩ | refine ⟨by omega, by omega, hK _ ?_⟩ | refine ⟨by omega, by omega, by omega, hK _ ?_⟩ | refine ⟨by omega, by omega, by omega, by omega, hK _ ?_⟩
        refine AWp.seq ?_
        refine AWp.reg [] F11r12 [] (by kernel_rfl) (by rw [hC]; rfl) fun K hK => ?_
        simp [F11r12, hjl, hb]
        first | refine hK _ ?_ | refine ⟨by omega, hK _ ?_⟩ | refine ⟨by omega, by omega, hK _ ?_⟩ | refine ⟨by omega, by omega, by omega, hK _ ?_⟩ | refine ⟨by omega, by omega, by omega, by omega, hK _ ?_⟩
        cases b with
        | true =>
          refine AWp.cond true (by simp) (fun _ => ?_) (fun he => by cases he)
          refine AWp.reg [true, false, false, false, true] F11r13 [] (by kernel_rfl) (by rw [hC]; rfl) fun K hK => ?_
          simp [F11r13, encO]
          first | refine hK _ ?_ | refine ⟨by omega, hK _ ?_⟩ | refine ⟨by omega, by omega, hK _ ?_⟩ | refine ⟨by omega, by omega, by omega, hK _ ?_⟩ | refine ⟨by omega, by omega, by omega, by omega, hK _ ?_⟩
          refine AWp.reg [] F11r14 [] (by kernel_rfl) (by rw [hC]; rfl) fun K hK => ?_
          simp [F11r14, encO]
          first | refine hK _ ?_ | refine ⟨by omega, hK _ ?_⟩ | refine ⟨by omega, by omega, hK _ ?_⟩ | refine ⟨by omega, by omega, by omega, hK _ ?_⟩ | refine ⟨by omega, by omega, by omega, by omega, hK _ ?_⟩
          refine ⟨j + 1, by omega, by omega, ?_⟩
          simp [wrap_nat j (by omega), rowsIn, encRowsO, encO, hts, boolRows]
        | false =>
          refine AWp.cond false (by simp) (fun he => by cases he) (fun _ => ?_)
          refine AWp.skip ?_
          refine AWp.reg [] F11r14 [] (by kernel_rfl) (by rw [hC]; rfl) fun K hK => ?_
          simp [F11r14, encO]
          first | refine hK _ ?_ | refine ⟨by omega, hK _ ?_⟩ | refine ⟨by omega, by omega, hK _ ?_⟩ | refine ⟨by omega, by omega, by omega, hK _ ?_⟩ | refine ⟨by omega, by omega, by omega, by omega, hK _ ?_⟩
          refine ⟨j + 1, by omega, by omega, ?_⟩
          simp [wrap_nat j (by omega), rowsIn, encRowsO, encO, hts, boolRows]
      have hgej : ¬ j < g.n := by simpa using hgej
      obtain rfl : j = g.n := by omega
      refine AWp.exit ?_
      refine AWp.reg [true, false, false, false, true] F11r15 [] (by kernel_rfl) (by rw [hC]; rfl) fun K hK => ?_
      simp [F11r15, encO, encRowsO]
      first | refine hK _ ?_ | refine ⟨by omega, hK _ ?_⟩ | refine ⟨by omega, by omega, hK _ ?_⟩ | refine ⟨by omega, by omega, by omega, hK _ ?_⟩ | refine ⟨by omega, by omega, by omega, by omega, hK _ ?_⟩
      refine AWp.reg [] F11r16 [] (by kernel_rfl) (by rw [hC]; rfl) fun K hK => ?_
      simp [F11r16, encO, encRowsO]
      first | refine hK _ ?_ | refine ⟨by omega, hK _ ?_⟩ | refine ⟨by omega, by omega, hK _ ?_⟩ | refine ⟨by omega, by omega, by omega, hK _ ?_⟩ | refine ⟨by omega, by omega, by omega, by omega, hK _ ?_⟩
      refine ⟨k + 1, by omega, by omega, ?_⟩
      rw [st11, hsucc]
      simp [wrap_nat k (by omega), rowsIn, encRowsO]
    have hge : ¬ k < g.n := by simpa using hge
    obtain rfl : k = g.n := by omega
    refine AWp.exit ?_
    refine AWp.seq ?_
    refine AWp.reg [true, false, true, true, true] F11r17 [] (by kernel_rfl) (by rw [hC]; rfl) fun K hK => ?_
    simp [F11r17, encRowsO]
    first | refine hK _ ?_ | refine ⟨by omega, hK _ ?_⟩ | refine ⟨by omega, by omega, hK _ ?_⟩ | refine ⟨by omega, by omega, by omega, hK _ ?_⟩ | refine ⟨by omega, by omega, by omega, by omega, hK _ ?_⟩
    repeat refine AWp.seq ?_
    refine AWp.ret ⟨.inr rfl, _, by simp [Try.results11] <;> rfl, ?_⟩
    exact .tup (.cons .own (.cons (.closed rfl) (.cons (.closed rfl) .nil)))
  · have hre : readE m = (⟨0, [], []⟩, checkE m) := by simp [readE, he]
    have hpr : progRests m = ([], checkE m) := by simp [progRests, he]
    rw [hre] at hrd
    rw [hpr]
    refine AWp.seq ?_
    refine AWp.reg [false, true, false, true] F11r0 [] (by kernel_rfl) (by rw [hC]; rfl) fun K hK => ?_
    simp [F11r0]
    first | refine hK _ ?_ | refine ⟨by omega, hK _ ?_⟩ | refine ⟨by omega, by omega, hK _ ?_⟩ | refine ⟨by omega, by omega, by omega, hK _ ?_⟩ | refine ⟨by omega, by omega, by omega, by omega, hK _ ?_⟩
    refine AWp.seq ?_
    refine AWp.reg [false, false, false, false, false, false, false, false, true, true, true] F11r1 [{ r := encRead (⟨0, [], []⟩, checkE m) }] (by kernel_rfl) (by rw [hC]; rfl) fun K hK => ?_
    simp [F11r1, encRead]
    refine ⟨callOK rfl hrd, hK _ ?_⟩
    refine AWp.seq ?_
    refine AWp.seq ?_
    refine AWp.reg [] F11r2 [] (by kernel_rfl) (by rw [hC]; rfl) fun K hK => ?_
    simp [F11r2]
    first | refine hK _ ?_ | refine ⟨by omega, hK _ ?_⟩ | refine ⟨by omega, by omega, hK _ ?_⟩ | refine ⟨by omega, by omega, by omega, hK _ ?_⟩ | refine ⟨by omega, by omega, by omega, by omega, hK _ ?_⟩
    refine AWp.cond true (by simp [he]) (fun _ => ?_) (fun he => by cases he)
    refine AWp.seq ?_
    refine AWp.regD ops_mixed [false, true, true, true, true] F11r3 [] (by kernel_rfl) (by rw [hC]; rfl) rfl (fun K hK => ?_) (by simp [F11r3] <;> rfl)
    simp [F11r3]
    first | refine hK _ ?_ | refine ⟨by omega, hK _ ?_⟩ | refine ⟨by omega, by omega, hK _ ?_⟩ | refine ⟨by omega, by omega, by omega, hK _ ?_⟩ | refine ⟨by omega, by omega, by omega, by omega, hK _ ?_⟩
    repeat refine AWp.seq ?_
    refine AWp.ret ⟨.inr rfl, _, by simp [Try.results11] <;> rfl, ?_⟩
    exact .tup (.cons .nil (.cons (.closed rfl) (.cons (.closed rfl) .nil)))
def st9 (m : MMod) (t n : Nat) (k : Nat) : AS := { tm := [(1, .ptr 1 0), (3, ival n), (t, ival k)], hp := [(1, .cells 28 (modCells m))] }
theorem large_ok (m : MMod) (hm : m.ok) : Con Try.prog 9 [encMod m] (bval (largeB m)) := by
  have h1 := hm.rels
  have h2 := hm.rules
  have h3 := hm.nevers
  refine Con.of_code Try.func9 (by kernel_rfl) rfl (by simp [Try.ntmps9]) fun C hC hM => ?_
  refine AWp.seq ?_
  refine AWp.reg [false, true] F9r0 [] (by kernel_rfl) (by rw [hC]; rfl) fun K hK => ?_
  simp [F9r0]
  first | refine hK _ ?_ | refine ⟨by omega, hK _ ?_⟩ | refine ⟨by omega, by omega, hK _ ?_⟩ | refine ⟨by omega, by omega, by omega, hK _ ?_⟩ | refine ⟨by omega, by omega, by omega, by omega, hK _ ?_⟩
  refine AWp.seq ?_
  refine AWp.reg [false, false, false, true] F9r1 [] (by kernel_rfl) (by rw [hC]; rfl) fun K hK => ?_
  simp [F9r1]
  first | refine hK _ ?_ | refine ⟨by omega, hK _ ?_⟩ | refine ⟨by omega, by omega, hK _ ?_⟩ | refine ⟨by omega, by omega, by omega, hK _ ?_⟩ | refine ⟨by omega, by omega, by omega, by omega, hK _ ?_⟩
  refine AWp.seqJ (fun n : Nat => { tm := [(1, .ptr 1 0), (3, ival n)], hp := [(1, .cells 28 (modCells m))] }) (fun n : Nat => n ≤ 2097452 ∧ largeR m.rules m.rels.length = n) ?_ (fun hJ => ?_)
  · skip
    rintro n0 ⟨hn0, he0⟩
    refine AWp.seqJ (fun n : Nat => { tm := [(1, .ptr 1 0), (3, ival n)], hp := [(1, .cells 28 (modCells m))] }) (fun n : Nat => n ≤ 4194904 ∧ largeN m.nevers n0 = n) ?_ (fun hJ => ?_)
    · skip
      rintro n ⟨hn, he⟩
      have hl : largeB m = (decide (300 ≤ n) || decide (30 < m.rels.length)) := by rw [largeB, he0, he]
      by_cases hc : 300 ≤ n
      · have hc' : (300 : Int) ≤ n := by omega
        refine AWp.seq ?_
        refine AWp.reg [false, false, false, false, false, false, false, false, true] F9r10 [] (by kernel_rfl) (by rw [hC]; rfl) fun K hK => ?_
        simp [F9r10, hc']
        first | refine hK _ ?_ | refine ⟨by omega, hK _ ?_⟩ | refine ⟨by omega, by omega, hK _ ?_⟩ | refine ⟨by omega, by omega, by omega, hK _ ?_⟩ | refine ⟨by omega, by omega, by omega, by omega, hK _ ?_⟩
        repeat refine AWp.seq ?_
        refine AWp.ret ⟨.inr rfl, _, by simp [Try.results9] <;> rfl, ?_⟩
        rw [hl, show decide (300 ≤ n) = true by simp [hc]]
        exact .closed rfl
      · have hc' : ¬ (300 : Int) ≤ n := by omega
        have hq : decide ((30 : Int) < m.rels.length) = decide (30 < m.rels.length) := by by_cases h : 30 < m.rels.length <;> simp [h] <;> omega
        refine AWp.seq ?_
        refine AWp.reg [false, false, false, false, false, false, false, false, true] F9r10 [] (by kernel_rfl) (by rw [hC]; rfl) fun K hK => ?_
        simp [F9r10, hc', hq]
        first | refine hK _ ?_ | refine ⟨by omega, hK _ ?_⟩ | refine ⟨by omega, by omega, hK _ ?_⟩ | refine ⟨by omega, by omega, by omega, hK _ ?_⟩ | refine ⟨by omega, by omega, by omega, by omega, hK _ ?_⟩
        repeat refine AWp.seq ?_
        refine AWp.ret ⟨.inr rfl, _, by simp [Try.results9] <;> rfl, ?_⟩
        rw [hl, show decide (300 ≤ n) = false by simp [hc]]
        exact .closed rfl
    · skip
      refine AWp.seq ?_
      refine AWp.reg [true] F9r6 [] (by kernel_rfl) (by rw [hC]; rfl) fun K hK => ?_
      simp [F9r6]
      first | refine hK _ ?_ | refine ⟨by omega, hK _ ?_⟩ | refine ⟨by omega, by omega, hK _ ?_⟩ | refine ⟨by omega, by omega, by omega, hK _ ?_⟩ | refine ⟨by omega, by omega, by omega, by omega, hK _ ?_⟩
      refine AWp.block ?_
      refine AWp.loopG (fun q : Nat × Nat => st9 m 5 q.1 q.2) (fun q => q.2 ≤ m.nevers.length ∧ (q.1 ≤ 2097452 ∨ q.1 < 300 + 1048578) ∧ largeN m.nevers n0 = largeN (m.nevers.drop q.2) q.1) (fun q => m.nevers.length - q.2) (n0, 0) ⟨by simp, by simp only; omega, by simp⟩ (by simp [st9]) (fun q hq => ?_)
      obtain ⟨n, k⟩ := q
      obtain ⟨hk, hn, he⟩ := hq
      simp only at hk hn he
      by_cases hlt : k < m.nevers.length
      · have hd := largeN_drop m.nevers k n hlt
        have hb := hm.nbodies _ (List.getElem_mem hlt)
        by_cases hlt2 : n < 300
        · have hlt2' : (n : Int) < 300 := by omega
          refine AWp.seq ?_
          refine AWp.seq ?_
          refine AWp.reg [] F9r7 [] (by kernel_rfl) (by rw [hC]; rfl) fun K hK => ?_
          simp [F9r7, st9, hlt, hlt2']
          first | refine hK _ ?_ | refine ⟨by omega, hK _ ?_⟩ | refine ⟨by omega, by omega, hK _ ?_⟩ | refine ⟨by omega, by omega, by omega, hK _ ?_⟩ | refine ⟨by omega, by omega, by omega, by omega, hK _ ?_⟩
          refine AWp.cond true (by simp) (fun _ => ?_) (fun he => by cases he)
          rw [if_pos hlt2] at hd
          have w1 : IntKind.i64.wrap ((n : Int) + 1) = ((n + 1 : Nat) : Int) := wrap_addN n 1 (by omega)
          have w2 : IntKind.i64.wrap (((n + 1 : Nat) : Int) + (m.nevers[k].body.length : Int)) = ((n + 1 + m.nevers[k].body.length : Nat) : Int) := wrap_addN _ _ (by omega)
          have w4 := wrap_nat k (by omega)
          generalize hN2 : n + 1 + m.nevers[k].body.length = N2 at *
          generalize hN3 : n + 1 = N3 at *
          refine AWp.skip ?_
          refine AWp.seq ?_
          refine AWp.block ?_
          refine AWp.reg [false, false, false, false, false, false, false, false, false, false, true] F9r9 [] (by kernel_rfl) (by rw [hC]; rfl) fun K hK => ?_
          simp [F9r9, hlt, w1, w2]
          first | refine hK _ ?_ | refine ⟨by omega, hK _ ?_⟩ | refine ⟨by omega, by omega, hK _ ?_⟩ | refine ⟨by omega, by omega, by omega, hK _ ?_⟩ | refine ⟨by omega, by omega, by omega, by omega, hK _ ?_⟩
          refine AWp.reg [false, false, true] F9r8 [] (by kernel_rfl) (by rw [hC]; rfl) fun K hK => ?_
          simp [F9r8, hlt, w1, w2]
          first | refine hK _ ?_ | refine ⟨by omega, hK _ ?_⟩ | refine ⟨by omega, by omega, hK _ ?_⟩ | refine ⟨by omega, by omega, by omega, hK _ ?_⟩ | refine ⟨by omega, by omega, by omega, by omega, hK _ ?_⟩
          refine ⟨(N2, k + 1), ⟨by simp only; omega, by simp only; omega, by simp only; rw [he, hd]⟩, by simp only; omega, ?_⟩
          simp [st9, w4]
        · have hlt2' : ¬ (n : Int) < 300 := by omega
          rw [if_neg hlt2] at hd
          refine AWp.seq ?_
          refine AWp.seq ?_
          refine AWp.reg [] F9r7 [] (by kernel_rfl) (by rw [hC]; rfl) fun K hK => ?_
          simp [F9r7, st9, hlt, hlt2']
          first | refine hK _ ?_ | refine ⟨by omega, hK _ ?_⟩ | refine ⟨by omega, by omega, hK _ ?_⟩ | refine ⟨by omega, by omega, by omega, hK _ ?_⟩ | refine ⟨by omega, by omega, by omega, by omega, hK _ ?_⟩
          refine AWp.cond false (by simp) (fun he => by cases he) (fun _ => ?_)
          refine AWp.exit ?_
          refine hJ _ n ⟨by omega, by rw [he, hd]⟩ ?_
          simp
      · skip
        refine AWp.seq ?_
        refine AWp.seq ?_
        refine AWp.reg [] F9r7 [] (by kernel_rfl) (by rw [hC]; rfl) fun K hK => ?_
        simp [F9r7, st9, hlt]
        first | refine hK _ ?_ | refine ⟨by omega, hK _ ?_⟩ | refine ⟨by omega, by omega, hK _ ?_⟩ | refine ⟨by omega, by omega, by omega, hK _ ?_⟩ | refine ⟨by omega, by omega, by omega, by omega, hK _ ?_⟩
        refine AWp.cond false (by simp) (fun he => by cases he) (fun _ => ?_)
        refine AWp.exit ?_
        refine hJ _ n ⟨by omega, by rw [he, List.drop_eq_nil_of_le (by omega)]; rfl⟩ ?_
        simp
  · skip
    refine AWp.seq ?_
    refine AWp.reg [true] F9r2 [] (by kernel_rfl) (by rw [hC]; rfl) fun K hK => ?_
    simp [F9r2]
    first | refine hK _ ?_ | refine ⟨by omega, hK _ ?_⟩ | refine ⟨by omega, by omega, hK _ ?_⟩ | refine ⟨by omega, by omega, by omega, hK _ ?_⟩ | refine ⟨by omega, by omega, by omega, by omega, hK _ ?_⟩
    refine AWp.block ?_
    refine AWp.loopG (fun q : Nat × Nat => st9 m 4 q.1 q.2) (fun q => q.2 ≤ m.rules.length ∧ (q.1 ≤ 1048576 ∨ q.1 < 300 + 2097153) ∧ largeR m.rules m.rels.length = largeR (m.rules.drop q.2) q.1) (fun q => m.rules.length - q.2) (m.rels.length, 0) ⟨by simp, by simp only; omega, by simp⟩ (by simp [st9]) (fun q hq => ?_)
    obtain ⟨n, k⟩ := q
    obtain ⟨hk, hn, he⟩ := hq
    simp only at hk hn he
    by_cases hlt : k < m.rules.length
    · have hd := largeR_drop m.rules k n hlt
      have hb := hm.bodies _ (List.getElem_mem hlt)
      have ha := hm.aggs _ (List.getElem_mem hlt)
      by_cases hlt2 : n < 300
      · have hlt2' : (n : Int) < 300 := by omega
        refine AWp.seq ?_
        refine AWp.seq ?_
        refine AWp.reg [] F9r3 [] (by kernel_rfl) (by rw [hC]; rfl) fun K hK => ?_
        simp [F9r3, st9, hlt, hlt2']
        first | refine hK _ ?_ | refine ⟨by omega, hK _ ?_⟩ | refine ⟨by omega, by omega, hK _ ?_⟩ | refine ⟨by omega, by omega, by omega, hK _ ?_⟩ | refine ⟨by omega, by omega, by omega, by omega, hK _ ?_⟩
        refine AWp.cond true (by simp) (fun _ => ?_) (fun he => by cases he)
        rw [if_pos hlt2] at hd
        have w1 : IntKind.i64.wrap ((n : Int) + 1) = ((n + 1 : Nat) : Int) := wrap_addN n 1 (by omega)
        have w2 : IntKind.i64.wrap (((n + 1 : Nat) : Int) + (m.rules[k].body.length : Int)) = ((n + 1 + m.rules[k].body.length : Nat) : Int) := wrap_addN _ _ (by omega)
        have w3 : IntKind.i64.wrap (((n + 1 + m.rules[k].body.length : Nat) : Int) + (m.rules[k].aggs.length : Int)) = ((n + 1 + m.rules[k].body.length + m.rules[k].aggs.length : Nat) : Int) := wrap_addN _ _ (by omega)
        have w4 := wrap_nat k (by omega)
        generalize hN : n + 1 + m.rules[k].body.length + m.rules[k].aggs.length = N at *
        generalize hN2 : n + 1 + m.rules[k].body.length = N2 at *
        generalize hN3 : n + 1 = N3 at *
        refine AWp.skip ?_
        refine AWp.seq ?_
        refine AWp.block ?_
        refine AWp.regD ops_mixed [false, false, false, false, false, false, false, false, false, false, false, false, false, false, false, false, false, false, true] F9r5 [] (by kernel_rfl) (by rw [hC]; rfl) rfl (fun K hK => ?_) (by simp [F9r5, hlt, w1, w2, w3] <;> rfl)
        simp [F9r5, hlt, w1, w2, w3]
        first | refine hK _ ?_ | refine ⟨by omega, hK _ ?_⟩ | refine ⟨by omega, by omega, hK _ ?_⟩ | refine ⟨by omega, by omega, by omega, hK _ ?_⟩ | refine ⟨by omega, by omega, by omega, by omega, hK _ ?_⟩
        refine AWp.reg [false, false, true] F9r4 [] (by kernel_rfl) (by rw [hC]; rfl) fun K hK => ?_
        simp [F9r4, hlt, w1, w2, w3]
        first | refine hK _ ?_ | refine ⟨by omega, hK _ ?_⟩ | refine ⟨by omega, by omega, hK _ ?_⟩ | refine ⟨by omega, by omega, by omega, hK _ ?_⟩ | refine ⟨by omega, by omega, by omega, by omega, hK _ ?_⟩
        refine ⟨(N, k + 1), ⟨by simp only; omega, by simp only; omega, by simp only; rw [he, hd]⟩, by simp only; omega, ?_⟩
        simp [st9, w4]
      · have hlt2' : ¬ (n : Int) < 300 := by omega
        rw [if_neg hlt2] at hd
        refine AWp.seq ?_
        refine AWp.seq ?_
        refine AWp.reg [] F9r3 [] (by kernel_rfl) (by rw [hC]; rfl) fun K hK => ?_
        simp [F9r3, st9, hlt, hlt2']
        first | refine hK _ ?_ | refine ⟨by omega, hK _ ?_⟩ | refine ⟨by omega, by omega, hK _ ?_⟩ | refine ⟨by omega, by omega, by omega, hK _ ?_⟩ | refine ⟨by omega, by omega, by omega, by omega, hK _ ?_⟩
        refine AWp.cond false (by simp) (fun he => by cases he) (fun _ => ?_)
        refine AWp.exit ?_
        refine hJ _ n ⟨by omega, by rw [he, hd]⟩ ?_
        simp
    · skip
      refine AWp.seq ?_
      refine AWp.seq ?_
      refine AWp.reg [] F9r3 [] (by kernel_rfl) (by rw [hC]; rfl) fun K hK => ?_
      simp [F9r3, st9, hlt]
      first | refine hK _ ?_ | refine ⟨by omega, hK _ ?_⟩ | refine ⟨by omega, by omega, hK _ ?_⟩ | refine ⟨by omega, by omega, by omega, hK _ ?_⟩ | refine ⟨by omega, by omega, by omega, by omega, hK _ ?_⟩
      refine AWp.cond false (by simp) (fun he => by cases he) (fun _ => ?_)
      refine AWp.exit ?_
      refine hJ _ n ⟨by omega, by rw [he, List.drop_eq_nil_of_le (by omega)]; rfl⟩ ?_
      simp
theorem rowsOK_of {l : List (List Nat)} (h1 : l.length ≤ 1048576) (h2 : shortRows 1048576 l) : rowsOK l := ⟨h1, h2⟩
theorem restsE_rows (m : MMod) (hs : Small m) : rowsOK (restsE m).1 := by
  unfold restsE
  have := hs.rels
  split
  · refine rowsOK_of ?_ (fun r hr => ?_)
    · rw [restsL, rRows_len (closed m) m.rels.length m.rels.length m.rels.length _ (by simp)]; omega
    · have := restsL_short (closed m) m.rels.length m.rels.length this r hr; omega
  · exact rowsOK_of (by simp) (by simp [shortRows])
theorem StrataRests_con (m : MMod) (hm : m.ok) : Con Try.prog 3 [encMod m] (bval true) := by
  have hla := large_ok m hm
  refine Con.of_code Try.func3 (by kernel_rfl) rfl (by simp [Try.ntmps3]) fun C hC hM => ?_
  refine AWp.seq ?_
  refine AWp.reg [false, true] F3r0 [] (by kernel_rfl) (by rw [hC]; rfl) fun K hK => ?_
  simp [F3r0]
  first | refine hK _ ?_ | refine ⟨by omega, hK _ ?_⟩ | refine ⟨by omega, by omega, hK _ ?_⟩ | refine ⟨by omega, by omega, by omega, hK _ ?_⟩ | refine ⟨by omega, by omega, by omega, by omega, hK _ ?_⟩
  refine AWp.seq ?_
  refine AWp.seq ?_
  refine AWp.reg [] F3r1 [{ r := bval (largeB m) }] (by kernel_rfl) (by rw [hC]; rfl) fun K hK => ?_
  simp [F3r1]
  refine ⟨callOK rfl hla, hK _ ?_⟩
  cases hl : largeB m with
  | true =>
    refine AWp.cond true (by simp) (fun _ => ?_) (fun he => by cases he)
    refine AWp.seq ?_
    refine AWp.reg [true] F3r2 [] (by kernel_rfl) (by rw [hC]; rfl) fun K hK => ?_
    simp [F3r2]
    first | refine hK _ ?_ | refine ⟨by omega, hK _ ?_⟩ | refine ⟨by omega, by omega, hK _ ?_⟩ | refine ⟨by omega, by omega, by omega, hK _ ?_⟩ | refine ⟨by omega, by omega, by omega, by omega, hK _ ?_⟩
    repeat refine AWp.seq ?_
    refine AWp.ret ⟨.inr rfl, _, by simp [Try.results3] <;> rfl, ?_⟩
    exact .closed rfl
  | false =>
    have hs := Small.of hl
    have hr1 := RefRests_ok m hm hs.rels
    have hr2 := Rests_ok m hm hs
    have hrw := restsE_rows m hs
    rw [progRests_eq hs] at hr2
    revert hr1 hr2 hrw
    generalize restsE m = r
    obtain ⟨rows, ⟨p, q⟩, e⟩ := r
    intro hr1 hr2 hrw
    have hr3 := Rows_ok rows rows hrw hrw
    rw [show decide (rows = rows) = true by simp] at hr3
    refine AWp.cond false (by simp) (fun he => by cases he) (fun _ => ?_)
    refine AWp.skip ?_
    refine AWp.seq ?_
    refine AWp.reg [false, false, false, false, false, false, false, true, true, true] F3r3 [{ r := encRests (rows, (p, q), e) }] (by kernel_rfl) (by rw [hC]; rfl) fun K hK => ?_
    simp [F3r3, encRests]
    refine ⟨callOK rfl hr1, hK _ ?_⟩
    refine AWp.seq ?_
    refine AWp.reg [false, false, false, false, false, false, false, true, true, true] F3r4 [{ r := encRests (rows, (p, q), e) }] (by kernel_rfl) (by rw [hC]; rfl) fun K hK => ?_
    simp [F3r4, encRests]
    refine ⟨callOK rfl hr2, hK _ ?_⟩
    refine AWp.seq ?_
    refine AWp.reg [false, false, false, false, false, false, false, false, false, false, false, false, false, true] F3r5 [{ r := bval true }] (by kernel_rfl) (by rw [hC]; rfl) fun K hK => ?_
    simp [F3r5]
    refine ⟨callOK (by simp) hr3, hK _ ?_⟩
    repeat refine AWp.seq ?_
    refine AWp.ret ⟨.inr rfl, _, by simp [Try.results3] <;> rfl, ?_⟩
    exact .closed rfl
end Go.St
