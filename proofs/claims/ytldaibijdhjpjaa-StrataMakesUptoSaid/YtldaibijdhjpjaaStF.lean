/- strata: read. -/
import Derived.Test.YtldaibijdhjpjaaStE
import Derived.Test.YtldaibijdhjpjaaStB
import Derived.Test.YtldaibijdhjpjaaStSpF
set_option linter.unusedSimpArgs false
set_option linter.unusedVariables false
open Go Go.Aw Go.Proofs
namespace Go.St
@[simp] theorem ag72 : isAggT Try.prog 72 = some true := by kernel_rfl
@[simp] theorem sz72 : szOf Try.prog 72 = some 3 := by kernel_rfl
-- function 24: corollary/strata.read: 125 slots; results ['(Go.ResultVar.cell 2 72)', '(Go.ResultVar.cell 3 32)', '(Go.ResultVar.tmp 4)']
def F24r0 : List ROp := [{ dst := some 1, op := .box 28 (.tmp 0), after := [], guard := none },
  { dst := some 2, op := .alloc 72 [Value.int .i64 0, Value.slice none 0 0, Value.slice none 0 0], after := [], guard := none },
  { dst := some 3, op := .alloc 32 [Value.int .i64 0, Value.int .i64 0], after := [], guard := none },
  { dst := some 4, op := .copy true (.const (.int .i64 0)), after := [], guard := none }]
def F24r1 : List ROp := [{ dst := some 24, op := .mkmap none, after := [], guard := none },
  { dst := some 5, op := .alloc 83 [Value.map none], after := [], guard := none },
  { dst := none, op := .store 1 true (.tmp 5) (.tmp 24), after := [1, 0, 0, 1], guard := none }]
def F24r2 : List ROp := [{ dst := some 25, op := .fad 3 (.tmp 1), after := [], guard := none },
  { dst := some 26, op := .load 1 false false (.tmp 25), after := [0], guard := none },
  { dst := some 27, op := .len 0 (.tmp 26), after := [1], guard := none },
  { dst := some 28, op := .copy false (.const (.int .i64 0)), after := [], guard := none }]
def F24r3 : List ROp := [{ dst := some 29, op := .bin .lss (.tmp 28) (.tmp 27), after := [], guard := none }]
def F24r4 : List ROp := [{ dst := some 30, op := .copy true (.tmp 28), after := [], guard := none },
  { dst := some 31, op := .iad 6 (.tmp 26) (.tmp 28), after := [], guard := none },
  { dst := some 32, op := .load 6 true false (.tmp 31), after := [1], guard := none },
  { dst := some 7, op := .alloc 64 [Value.int .i64 0, Value.int .i64 0, Value.bool false, Value.bool false, Value.string ByteArray.empty, Value.slice none 0 0], after := [], guard := none },
  { dst := some 6, op := .copy true (.tmp 30), after := [0, 0, 1, 2, 3], guard := none },
  { dst := none, op := .store 6 true (.tmp 7) (.tmp 32), after := [3, 2, 4, 0, 1, 2, 3, 4], guard := none }]
def F24r5 : List ROp := [{ dst := some 34, op := .load 1 false false (.tmp 5), after := [], guard := none },
  { dst := some 35, op := .fad 4 (.tmp 7), after := [], guard := none },
  { dst := some 36, op := .load 1 false false (.tmp 35), after := [1], guard := none },
  { dst := some 37, op := .lkp 1 (Value.int .i64 0) true (.tmp 34) (.tmp 36), after := [0, 2], guard := none },
  { dst := some 33, op := .copy false (.tmp 37), after := [3], guard := none },
  { dst := some 38, op := .ext (.tmp 33) 0, after := [4], guard := none },
  { dst := some 39, op := .ext (.tmp 33) 1, after := [4], guard := none },
  { dst := some 8, op := .copy true (.tmp 38), after := [5, 0, 1, 2, 3, 4, 5], guard := none },
  { dst := some 9, op := .copy true (.tmp 39), after := [6, 7, 0, 1, 2, 3, 4, 5, 6, 7], guard := none }]
def F24r6 : List ROp := [{ dst := some 40, op := .copy false (.tmp 9), after := [], guard := none }]
def F24r7 : List ROp := [{ dst := some 41, op := .build [Value.int .i64 0, Value.slice none 0 0, Value.slice none 0 0] [], after := [], guard := none },
  { dst := some 42, op := .fad 0 (.tmp 7), after := [], guard := none },
  { dst := some 43, op := .load 2 true false (.tmp 42), after := [1], guard := none },
  { dst := none, op := .store 3 true (.tmp 2) (.tmp 41), after := [0, 0], guard := none },
  { dst := none, op := .store 2 true (.tmp 3) (.tmp 43), after := [2, 3, 0, 1, 2, 3], guard := none },
  { dst := some 4, op := .copy true (.const (.int .i64 6)), after := [4, 0, 1, 2, 3, 4], guard := none }]
def F24r8 : List ROp := [{ dst := some 44, op := .load 1 false false (.tmp 5), after := [], guard := none },
  { dst := some 45, op := .fad 4 (.tmp 7), after := [], guard := none },
  { dst := some 46, op := .load 1 false false (.tmp 45), after := [1], guard := none },
  { dst := some 47, op := .copy false (.tmp 6), after := [], guard := none },
  { dst := none, op := .mupd 1 (.tmp 44) (.tmp 46) (.tmp 47), after := [0, 2, 3, 0, 1, 2, 3], guard := none }]
def F24r9 : List ROp := [{ dst := some 48, op := .bin .add (.tmp 28) (.const (.int .i64 1)), after := [], guard := none },
  { dst := some 28, op := .copy false (.tmp 48), after := [0], guard := none }]
def F24r10 : List ROp := [{ dst := some 49, op := .fad 3 (.tmp 1), after := [], guard := none },
  { dst := some 50, op := .load 1 false false (.tmp 49), after := [0], guard := none },
  { dst := some 51, op := .len 0 (.tmp 50), after := [1], guard := none },
  { dst := some 52, op := .build [Value.int .i64 0, Value.slice none 0 0, Value.slice none 0 0] [(0, 1, .tmp 51)], after := [2], guard := none },
  { dst := some 10, op := .alloc 72 [Value.int .i64 0, Value.slice none 0 0, Value.slice none 0 0], after := [], guard := none },
  { dst := none, op := .store 3 true (.tmp 10) (.tmp 52), after := [4, 3, 0, 1, 2, 3, 4], guard := none }]
def F24r11 : List ROp := [{ dst := some 53, op := .mkf (Go.Fn.func 29) [.tmp 5], after := [], guard := none },
  { dst := some 11, op := .copy true (.tmp 53), after := [0, 0], guard := none }]
def F24r12 : List ROp := [{ dst := some 54, op := .fad 4 (.tmp 1), after := [], guard := none },
  { dst := some 55, op := .load 1 false false (.tmp 54), after := [0], guard := none },
  { dst := some 56, op := .len 0 (.tmp 55), after := [1], guard := none },
  { dst := some 57, op := .copy false (.const (.int .i64 0)), after := [], guard := none }]
def F24r13 : List ROp := [{ dst := some 58, op := .bin .lss (.tmp 57) (.tmp 56), after := [], guard := none }]
def F24r14 : List ROp := [{ dst := some 59, op := .iad 6 (.tmp 55) (.tmp 57), after := [], guard := none },
  { dst := some 60, op := .load 6 true false (.tmp 59), after := [0], guard := none },
  { dst := some 13, op := .alloc 52 [Value.int .i64 0, Value.int .i64 0, Value.string ByteArray.empty, Value.slice none 0 0, Value.slice none 0 0, Value.slice none 0 0], after := [], guard := none },
  { dst := none, op := .store 6 true (.tmp 13) (.tmp 60), after := [2, 1, 0, 1, 2], guard := none }]
def F24r15 : List ROp := [{ dst := some 62, op := .load 1 false false (.tmp 5), after := [], guard := none },
  { dst := some 63, op := .fad 2 (.tmp 13), after := [], guard := none },
  { dst := some 64, op := .load 1 false false (.tmp 63), after := [1], guard := none },
  { dst := some 65, op := .lkp 1 (Value.int .i64 0) true (.tmp 62) (.tmp 64), after := [0, 2], guard := none },
  { dst := some 61, op := .copy false (.tmp 65), after := [3], guard := none },
  { dst := some 66, op := .ext (.tmp 61) 0, after := [4], guard := none },
  { dst := some 67, op := .ext (.tmp 61) 1, after := [4], guard := none },
  { dst := some 14, op := .copy true (.tmp 66), after := [5, 0, 1, 2, 3, 4, 5], guard := none },
  { dst := some 15, op := .copy true (.tmp 67), after := [6, 7, 0, 1, 2, 3, 4, 5, 6, 7], guard := none }]
def F24r16 : List ROp := [{ dst := some 68, op := .copy false (.tmp 15), after := [], guard := none },
  { dst := some 69, op := .un .not (.tmp 68), after := [0], guard := none }]
def F24r17 : List ROp := [{ dst := some 70, op := .build [Value.int .i64 0, Value.slice none 0 0, Value.slice none 0 0] [], after := [], guard := none },
  { dst := some 71, op := .fad 0 (.tmp 13), after := [], guard := none },
  { dst := some 72, op := .load 2 true false (.tmp 71), after := [1], guard := none },
  { dst := none, op := .store 3 true (.tmp 2) (.tmp 70), after := [0, 0], guard := none },
  { dst := none, op := .store 2 true (.tmp 3) (.tmp 72), after := [2, 3, 0, 1, 2, 3], guard := none },
  { dst := some 4, op := .copy true (.const (.int .i64 63)), after := [4, 0, 1, 2, 3, 4], guard := none }]
def F24r18 : List ROp := [{ dst := some 74, op := .copy false (.tmp 11), after := [], guard := none },
  { dst := some 75, op := .fad 5 (.tmp 13), after := [], guard := none },
  { dst := some 76, op := .load 1 false false (.tmp 75), after := [1], guard := none },
  { dst := some 77, op := .fad 4 (.tmp 13), after := [], guard := none },
  { dst := some 78, op := .load 1 false false (.tmp 77), after := [3], guard := none },
  { dst := some 79, op := .call (.func 31) [.tmp 78, .func 32], after := [4], guard := none },
  { dst := some 80, op := .call (.tmp 74) [.tmp 76, .tmp 79], after := [0, 2, 5, 5], guard := none },
  { dst := some 73, op := .copy false (.tmp 80), after := [6], guard := none },
  { dst := some 81, op := .ext (.tmp 73) 0, after := [7], guard := none },
  { dst := some 82, op := .ext (.tmp 73) 1, after := [7], guard := none },
  { dst := some 83, op := .ext (.tmp 73) 2, after := [7], guard := none },
  { dst := some 17, op := .alloc 32 [Value.int .i64 0, Value.int .i64 0], after := [], guard := none },
  { dst := some 16, op := .copy true (.tmp 81), after := [8, 6, 0, 1, 2, 3, 4, 5, 6, 7, 8, 11], guard := none },
  { dst := none, op := .store 2 true (.tmp 17) (.tmp 82), after := [11, 9, 12, 0, 1, 2, 3, 4, 5, 6, 7, 8, 9, 11, 12], guard := none },
  { dst := some 18, op := .copy true (.tmp 83), after := [10, 13, 0, 1, 2, 3, 4, 5, 6, 7, 8, 9, 10, 11, 12, 13], guard := none }]
def F24r19 : List ROp := [{ dst := some 84, op := .copy false (.tmp 18), after := [], guard := none },
  { dst := some 85, op := .bin .neq (.tmp 84) (.const (.int .i64 0)), after := [0], guard := none }]
def F24r20 : List ROp := [{ dst := some 86, op := .build [Value.int .i64 0, Value.slice none 0 0, Value.slice none 0 0] [], after := [], guard := none },
  { dst := some 87, op := .load 2 true false (.tmp 17), after := [], guard := none },
  { dst := some 88, op := .copy true (.tmp 18), after := [], guard := none },
  { dst := none, op := .store 3 true (.tmp 2) (.tmp 86), after := [0, 0], guard := none },
  { dst := none, op := .store 2 true (.tmp 3) (.tmp 87), after := [1, 3, 0, 1, 3], guard := none },
  { dst := some 4, op := .copy true (.tmp 88), after := [2, 4, 0, 1, 2, 3, 4], guard := none }]
def F24r21 : List ROp := [{ dst := some 89, op := .fad 1 (.tmp 10), after := [], guard := none },
  { dst := some 90, op := .load 1 false true (.tmp 89), after := [0], guard := none },
  { dst := some 91, op := .copy false (.tmp 14), after := [], guard := none },
  { dst := some 92, op := .bslice 3 1 [Value.int .i64 0] 1 [(0, .tmp 91)], after := [2], guard := none },
  { dst := some 93, op := .app 3 1 8 (.tmp 90) (.tmp 92), after := [1, 3], guard := none },
  { dst := some 94, op := .fad 1 (.tmp 10), after := [0, 1, 2, 3, 4], guard := none },
  { dst := none, op := .store 1 true (.tmp 94) (.tmp 93), after := [5, 4, 4, 0, 1, 2, 3, 4], guard := none }]
def F24r22 : List ROp := [{ dst := some 95, op := .fad 2 (.tmp 10), after := [], guard := none },
  { dst := some 96, op := .load 1 false true (.tmp 95), after := [0], guard := none },
  { dst := some 97, op := .copy false (.tmp 16), after := [], guard := none },
  { dst := some 98, op := .bslice 78 1 [Value.slice none 0 0] 1 [(0, .tmp 97)], after := [2], guard := none },
  { dst := some 99, op := .app 78 1 24 (.tmp 96) (.tmp 98), after := [1, 3], guard := none },
  { dst := some 100, op := .fad 2 (.tmp 10), after := [0, 1, 2, 3, 4], guard := none },
  { dst := none, op := .store 1 true (.tmp 100) (.tmp 99), after := [5, 4, 4, 0, 1, 2, 3, 4], guard := none }]
def F24r23 : List ROp := [{ dst := some 101, op := .bin .add (.tmp 57) (.const (.int .i64 1)), after := [], guard := none },
  { dst := some 57, op := .copy false (.tmp 101), after := [0], guard := none }]
def F24r24 : List ROp := [{ dst := some 102, op := .fad 5 (.tmp 1), after := [], guard := none },
  { dst := some 103, op := .load 1 false false (.tmp 102), after := [0], guard := none },
  { dst := some 104, op := .len 0 (.tmp 103), after := [1], guard := none },
  { dst := some 105, op := .copy false (.const (.int .i64 0)), after := [], guard := none }]
def F24r25 : List ROp := [{ dst := some 106, op := .bin .lss (.tmp 105) (.tmp 104), after := [], guard := none }]
def F24r26 : List ROp := [{ dst := some 107, op := .iad 4 (.tmp 103) (.tmp 105), after := [], guard := none },
  { dst := some 108, op := .load 4 true false (.tmp 107), after := [0], guard := none },
  { dst := some 20, op := .alloc 66 [Value.int .i64 0, Value.int .i64 0, Value.string ByteArray.empty, Value.slice none 0 0], after := [], guard := none },
  { dst := none, op := .store 4 true (.tmp 20) (.tmp 108), after := [2, 1, 0, 1, 2], guard := none }]
def F24r27 : List ROp := [{ dst := some 110, op := .copy false (.tmp 11), after := [], guard := none },
  { dst := some 111, op := .fad 3 (.tmp 20), after := [], guard := none },
  { dst := some 112, op := .load 1 false false (.tmp 111), after := [1], guard := none },
  { dst := some 113, op := .call (.tmp 110) [.tmp 112, .const (.bool false)], after := [0, 2], guard := none },
  { dst := some 109, op := .copy false (.tmp 113), after := [3], guard := none },
  { dst := some 114, op := .ext (.tmp 109) 0, after := [4], guard := none },
  { dst := some 115, op := .ext (.tmp 109) 1, after := [4], guard := none },
  { dst := some 116, op := .ext (.tmp 109) 2, after := [4], guard := none },
  { dst := some 22, op := .alloc 32 [Value.int .i64 0, Value.int .i64 0], after := [], guard := none },
  { dst := some 21, op := .copy true (.tmp 114), after := [5, 3, 0, 1, 2, 3, 4, 5, 8], guard := none },
  { dst := none, op := .store 2 true (.tmp 22) (.tmp 115), after := [8, 6, 9, 0, 1, 2, 3, 4, 5, 6, 8, 9], guard := none },
  { dst := some 23, op := .copy true (.tmp 116), after := [7, 10, 0, 1, 2, 3, 4, 5, 6, 7, 8, 9, 10], guard := none }]
def F24r28 : List ROp := [{ dst := some 117, op := .copy false (.tmp 23), after := [], guard := none },
  { dst := some 118, op := .bin .neq (.tmp 117) (.const (.int .i64 0)), after := [0], guard := none }]
def F24r29 : List ROp := [{ dst := some 119, op := .build [Value.int .i64 0, Value.slice none 0 0, Value.slice none 0 0] [], after := [], guard := none },
  { dst := some 120, op := .load 2 true false (.tmp 22), after := [], guard := none },
  { dst := some 121, op := .copy true (.tmp 23), after := [], guard := none },
  { dst := none, op := .store 3 true (.tmp 2) (.tmp 119), after := [0, 0], guard := none },
  { dst := none, op := .store 2 true (.tmp 3) (.tmp 120), after := [1, 3, 0, 1, 3], guard := none },
  { dst := some 4, op := .copy true (.tmp 121), after := [2, 4, 0, 1, 2, 3, 4], guard := none }]
def F24r30 : List ROp := [{ dst := some 122, op := .bin .add (.tmp 105) (.const (.int .i64 1)), after := [], guard := none },
  { dst := some 105, op := .copy false (.tmp 122), after := [0], guard := none }]
def F24r31 : List ROp := [{ dst := some 123, op := .load 3 true false (.tmp 10), after := [], guard := none },
  { dst := some 124, op := .build [Value.int .i64 0, Value.int .i64 0] [], after := [], guard := none },
  { dst := none, op := .store 3 true (.tmp 2) (.tmp 123), after := [0, 0], guard := none },
  { dst := none, op := .store 2 true (.tmp 3) (.tmp 124), after := [1, 2, 0, 1, 2], guard := none },
  { dst := some 4, op := .copy true (.const (.int .i64 0)), after := [3, 0, 1, 2, 3], guard := none }]
def hp24 (m : MMod) : List (Nat × Blk) := [(1, .cells 28 (modCells m)), (2, .cells 72 [ival 0, .val (.slice none 0 0), .val (.slice none 0 0)]), (3, .cells 32 [ival 0, ival 0])]
def st24a (m : MMod) (k : Nat) : AS := { tm := [(1, .ptr 1 0), (2, .ptr 2 0), (3, .ptr 3 0), (5, .ptr 5 0), (26, .rd 6 (m.rels.map encRel)), (27, ival m.rels.length), (28, ival k)], hp := hp24 m ++ [(5, .cells 83 [.mapr 24]), (24, .map (keysOf (m.rels.take k)) (valsFrom 0 (m.rels.take k)))] }
def st24b (m : MMod) (k : Nat) : AS := { tm := [(1, .ptr 1 0), (2, .ptr 2 0), (3, .ptr 3 0), (5, .elt 1 [[atMap m]] 0 0), (10, .ptr 10 0), (11, .clo (.func 29) [.elt 1 [[atMap m]] 0 0]), (55, .rd 6 (m.rules.map encRule)), (56, ival m.rules.length), (57, ival k)], hp := hp24 m ++ [(10, .cells 72 [ival m.rels.length, encRow (headsOf m (m.rules.take k)), encEEO (allEdges m (m.rules.take k))])] }
def st24c (m : MMod) (k : Nat) : AS := { tm := [(1, .ptr 1 0), (2, .ptr 2 0), (3, .ptr 3 0), (10, .ptr 10 0), (11, .clo (.func 29) [.elt 1 [[atMap m]] 0 0]), (103, .rd 4 (m.nevers.map encNev)), (104, ival m.nevers.length), (105, ival k)], hp := hp24 m ++ [(10, .cells 72 [ival m.rels.length, encRow (headsOf m m.rules), encEEO (allEdges m m.rules)])] }
attribute [simp] hp24
attribute [local simp] ints
theorem wk_graph {h e : AV} {g : Graph} (hh : Wk h (encInts g.heads)) (he : Wk e (encEE g.edges)) : Wk (.agg [ival g.n, h, e]) (encGraph g) := .agg (.cons (.refl _) (.cons hh (.cons he .nil)))
set_option maxHeartbeats 4000000 in
theorem read_ok (m : MMod) (hm : m.ok) : Con Try.prog 24 [encMod m] (encRead (readE m)) := by
  have h1 := hm.rels
  have h2 := hm.rules
  have h3 := hm.nevers
  refine Con.res (r := .tup [.agg [ival (readE m).1.n, dem (encRow (readE m).1.heads), dem (encEEO (readE m).1.edges)], encPos (readE m).2.1, ival (readE m).2.2]) ?_ (.tup (.cons (wk_graph (encRow_wkd _) (encEEO_wk _)) (.refl _))) rfl
  refine Con.of_code Try.func24 (by kernel_rfl) rfl (by simp [Try.ntmps24]) fun C hC hM => ?_
  repeat refine AWp.seq ?_
  refine AWp.reg [false, false, false, true] F24r0 [] (by kernel_rfl) (by rw [hC]; rfl) fun K hK => ?_
  simp [F24r0]
  refine hK _ ?_
  repeat refine AWp.seq ?_
  refine AWp.reg [false, false, true] F24r1 [] (by kernel_rfl) (by rw [hC]; rfl) fun K hK => ?_
  simp [F24r1]
  refine hK _ ?_
  repeat refine AWp.seq ?_
  refine AWp.reg [] F24r2 [] (by kernel_rfl) (by rw [hC]; rfl) fun K hK => ?_
  simp [F24r2]
  refine hK _ ?_
  refine AWp.block ?_
  refine AWp.loopG (st24a m) (fun k => k ≤ m.rels.length ∧ relsE m m.rels 0 = relsE m (m.rels.drop k) k) (fun k => m.rels.length - k) 0 (by simp) (by simp [st24a, keysOf, valsFrom]) (fun k hk => ?_)
  obtain ⟨hk1, hk2⟩ := hk
  repeat refine AWp.seq ?_
  refine AWp.reg [] F24r3 [] (by kernel_rfl) (by rw [hC]; rfl) fun K hK => ?_
  simp [F24r3, st24a]
  refine hK _ ?_
  repeat refine AWp.seq ?_
  refine AWp.cond (decide (k < m.rels.length)) (by simp) (fun hlt => ?_) (fun hge => ?_)
  · have hlt : k < m.rels.length := by simpa using hlt
    have hd := relsE_drop m m.rels k hlt
    have htw := twice_iff m k hlt
    have hkv := kvGet_at m.rels[k].name (m.rels.take k) 0
    have hkd := keysOf_kinds m.rels[k].name (m.rels.take k)
    refine AWp.skip ?_
    repeat refine AWp.seq ?_
    refine AWp.block ?_
    repeat refine AWp.seq ?_
    refine AWp.reg [true, false, false, false, true, true] F24r4 [] (by kernel_rfl) (by rw [hC]; rfl) fun K hK => ?_
    simp [F24r4, hlt]
    refine hK _ ?_
    by_cases hn : At m m.rels[k].name < k
    · have hat : ¬ atN (m.rels.take k) m.rels[k].name 0 < 0 := fun e => htw.1 e hn
      rw [if_neg hat] at hkv
      repeat refine AWp.seq ?_
      refine AWp.reg [false, false, false, false, false, false, false, true, true] F24r5 [] (by kernel_rfl) (by rw [hC]; rfl) fun K hK => ?_
      simp [F24r5, hkv]
      refine ⟨hkd, hK _ ?_⟩
      repeat refine AWp.seq ?_
      refine AWp.reg [] F24r6 [] (by kernel_rfl) (by rw [hC]; rfl) fun K hK => ?_
      simp [F24r6]
      refine hK _ ?_
      repeat refine AWp.seq ?_
      refine AWp.cond true (by simp) (fun _ => ?_) (fun he => by cases he)
      repeat refine AWp.seq ?_
      refine AWp.regD ops_mixed [false, false, false, true, true, true] F24r7 [] (by kernel_rfl) (by rw [hC]; rfl) rfl (fun K hK => ?_) (by simp [F24r7] <;> rfl)
      simp [F24r7]
      refine hK _ ?_
      repeat refine AWp.seq ?_
      refine AWp.ret ⟨.inr rfl, _, by simp [Try.results24] <;> rfl, ?_⟩
      have hce : checkE m = ((m.rels[k].line, m.rels[k].col), 6) := by simp [checkE, hk2, hd, hn]
      have hre : readE m = (⟨0, [], []⟩, checkE m) := by simp [readE, hce]
      rw [hre, hce]
      exact .closed rfl
    · have hat : atN (m.rels.take k) m.rels[k].name 0 < 0 := htw.2 hn
      rw [if_pos hat] at hkv
      have hks := kvSet_new m.rels[k].name (.val (.int .i64 (k : Int))) (m.rels.take k) 0 hat
      have hkt := keys_take m k hlt
      have hvt := vals_take m k hlt
      repeat refine AWp.seq ?_
      refine AWp.reg [false, false, false, false, false, false, false, true, true] F24r5 [] (by kernel_rfl) (by rw [hC]; rfl) fun K hK => ?_
      simp [F24r5, hkv]
      refine ⟨hkd, hK _ ?_⟩
      repeat refine AWp.seq ?_
      refine AWp.reg [] F24r6 [] (by kernel_rfl) (by rw [hC]; rfl) fun K hK => ?_
      simp [F24r6]
      refine hK _ ?_
      repeat refine AWp.seq ?_
      refine AWp.cond false (by simp) (fun he => by cases he) (fun _ => ?_)
      refine AWp.skip ?_
      repeat refine AWp.seq ?_
      refine AWp.reg [] F24r8 [] (by kernel_rfl) (by rw [hC]; rfl) fun K hK => ?_
      simp [F24r8, hks]
      refine ⟨hkd, hK _ ?_⟩
      repeat refine AWp.seq ?_
      refine AWp.reg [] F24r9 [] (by kernel_rfl) (by rw [hC]; rfl) fun K hK => ?_
      simp [F24r9]
      refine hK _ ⟨k + 1, ⟨by omega, by rw [hk2, hd, if_neg hn]⟩, by omega, ?_⟩
      simp [st24a, wrap_nat k (by omega), hkt, hvt]
  have hge : ¬ k < m.rels.length := by simpa using hge
  have hr0 : relsE m m.rels 0 = none := by rw [hk2, List.drop_eq_nil_of_le (by omega)]; rfl
  have hkn : m.rels.take k = m.rels := List.take_of_length_le (by omega)
  rw [hkn]
  clear hk1 hk2 hge
  refine AWp.exit ?_
  repeat refine AWp.seq ?_
  refine AWp.reg [false, false, false, false, false, true] F24r10 [] (by kernel_rfl) (by rw [hC]; rfl) fun K hK => ?_
  simp [F24r10]
  refine hK _ ?_
  repeat refine AWp.seq ?_
  refine AWp.reg [false, true] F24r11 [] (by kernel_rfl) (by rw [hC]; rfl) fun K hK => ?_
  simp [F24r11]
  refine hK _ ?_
  repeat refine AWp.seq ?_
  refine AWp.reg [] F24r12 [] (by kernel_rfl) (by rw [hC]; rfl) fun K hK => ?_
  simp [F24r12]
  refine hK _ ?_
  have hR : ∀ g : Nat → Option Blk, g 5 = some (.cells 83 [.mapr 24]) → g 24 = some (.map (keysOf m.rels) (valsFrom 0 m.rels)) → Rsv g (.ptr 5 0) (.elt 1 [[atMap m]] 0 0) := fun g h1 h2 => .ptr h1 (.cons (.mapr h2 (.closed (by simp))) .nil)
  refine AWp.freeze hM [5, 24] (st24b m 0) ⟨rfl, by simp, ?_, ?_⟩ ?_
  · simp [st24b]
    exact ⟨⟨rfl, _, hR _ rfl rfl, .refl _⟩, rfl, _, .clo (.cons (hR _ rfl rfl) .nil), .refl _⟩
  · simp [st24b, headsOf, allEdges, encRow, encEEO]
    exact ⟨.refl (by simp), .refl (by simp), .refl (by simp), .refl (by simp)⟩
  refine AWp.block ?_
  refine AWp.loopG (st24b m) (fun k => k ≤ m.rules.length ∧ rulesE m m.rules = rulesE m (m.rules.drop k)) (fun k => m.rules.length - k) 0 (by simp) (by simp [st24b]) (fun k hk => ?_)
  obtain ⟨hk1, hk2⟩ := hk
  repeat refine AWp.seq ?_
  refine AWp.reg [] F24r13 [] (by kernel_rfl) (by rw [hC]; rfl) fun K hK => ?_
  simp [F24r13, st24b]
  refine hK _ ?_
  repeat refine AWp.seq ?_
  refine AWp.cond (decide (k < m.rules.length)) (by simp) (fun hlt => ?_) (fun hge => ?_)
  · have hlt : k < m.rules.length := by simpa using hlt
    have hrm : m.rules[k] ∈ m.rules := List.getElem_mem hlt
    have hd := rulesE_drop m m.rules k hlt
    have hkv : kvGet (.string m.rules[k].rel) (keysOf m.rels) (valsFrom 0 m.rels) = if At m m.rules[k].rel < 0 then none else some (.val (.int .i64 (At m m.rules[k].rel))) := kvGet_at m.rules[k].rel m.rels 0
    have hkd := keysOf_kinds m.rules[k].rel m.rels
    have hhs := headsOf_succ m m.rules k hlt
    have hes := allEdges_succ m m.rules k hlt
    have hhl : (headsOf m (m.rules.take k)).length ≤ k := by simp [headsOf]; omega
    have hel : (allEdges m (m.rules.take k)).length ≤ k := by simp [allEdges]; omega
    refine AWp.skip ?_
    repeat refine AWp.seq ?_
    refine AWp.block ?_
    repeat refine AWp.seq ?_
    refine AWp.reg [false, false, false, true] F24r14 [] (by kernel_rfl) (by rw [hC]; rfl) fun K hK => ?_
    simp [F24r14, hlt]
    refine hK _ ?_
    by_cases hn : At m m.rules[k].rel < 0
    · rw [if_pos hn] at hkv
      repeat refine AWp.seq ?_
      refine AWp.reg [false, false, false, false, false, false, false, true, true] F24r15 [] (by kernel_rfl) (by rw [hC]; rfl) fun K hK => ?_
      simp [F24r15, hkv]
      refine ⟨hkd, hK _ ?_⟩
      repeat refine AWp.seq ?_
      refine AWp.reg [] F24r16 [] (by kernel_rfl) (by rw [hC]; rfl) fun K hK => ?_
      simp [F24r16]
      refine hK _ ?_
      repeat refine AWp.seq ?_
      refine AWp.cond true (by simp) (fun _ => ?_) (fun he => by cases he)
      repeat refine AWp.seq ?_
      refine AWp.regD ops_mixed [false, false, false, true, true, true] F24r17 [] (by kernel_rfl) (by rw [hC]; rfl) rfl (fun K hK => ?_) (by simp [F24r17] <;> rfl)
      simp [F24r17]
      refine hK _ ?_
      repeat refine AWp.seq ?_
      refine AWp.ret ⟨.inr rfl, _, by simp [Try.results24] <;> rfl, ?_⟩
      have hce : checkE m = ((m.rules[k].line, m.rules[k].col), 63) := by simp [checkE, hr0, hk2, hd, hn]
      have hre : readE m = (⟨0, [], []⟩, checkE m) := by simp [readE, hce]
      rw [hre, hce]
      exact .closed rfl
    · rw [if_neg hn, At_idx (by omega)] at hkv
      repeat refine AWp.seq ?_
      refine AWp.reg [false, false, false, false, false, false, false, true, true] F24r15 [] (by kernel_rfl) (by rw [hC]; rfl) fun K hK => ?_
      simp [F24r15, hkv]
      refine ⟨hkd, hK _ ?_⟩
      repeat refine AWp.seq ?_
      refine AWp.reg [] F24r16 [] (by kernel_rfl) (by rw [hC]; rfl) fun K hK => ?_
      simp [F24r16]
      refine hK _ ?_
      repeat refine AWp.seq ?_
      refine AWp.cond false (by simp) (fun he => by cases he) (fun _ => ?_)
      refine AWp.skip ?_
      have hcf := ContainsFunc_ok m.rules[k].aggs (hm.aggs _ hrm)
      have hrb := readBody_ok m (grouped m.rules[k]) m.rules[k].body (hm.bodies _ hrm)
      cases hb : badLit m m.rules[k].body with
      | some p =>
        have hrbe : readBody m (grouped m.rules[k]) m.rules[k].body = ([], (p, 63)) := by simp [readBody, hb]
        rw [hrbe] at hrb
        repeat refine AWp.seq ?_
        refine AWp.regD ops_mixed [false, false, false, false, false, false, false, false, false, false, false, false, true, true, true] F24r18 [{ r := bval (grouped m.rules[k]) }, { r := encBodyR ([], (p, 63)) }] (by kernel_rfl) (by rw [hC]; rfl) rfl (fun K hK => ?_) (by simp [F24r18, encBodyR, encEdges] <;> rfl)
        simp [F24r18, encBodyR, encEdges]
        refine ⟨callOK rfl hcf, callOK rfl hrb, hK _ ?_⟩
        repeat refine AWp.seq ?_
        refine AWp.reg [] F24r19 [] (by kernel_rfl) (by rw [hC]; rfl) fun K hK => ?_
        simp [F24r19]
        refine hK _ ?_
        repeat refine AWp.seq ?_
        refine AWp.cond true (by simp) (fun _ => ?_) (fun he => by cases he)
        repeat refine AWp.seq ?_
        refine AWp.regD ops_mixed [false, false, true, true, true, true] F24r20 [] (by kernel_rfl) (by rw [hC]; rfl) rfl (fun K hK => ?_) (by simp [F24r20] <;> rfl)
        simp [F24r20]
        refine hK _ ?_
        repeat refine AWp.seq ?_
        refine AWp.ret ⟨.inr rfl, _, by simp [Try.results24] <;> rfl, ?_⟩
        have hce : checkE m = (p, 63) := by simp [checkE, hr0, hk2, hd, hn, hb]
        have hre : readE m = (⟨0, [], []⟩, checkE m) := by simp [readE, hce]
        rw [hre, hce]
        exact .closed rfl
      | none =>
        have hrbe : readBody m (grouped m.rules[k]) m.rules[k].body = (edgesOf m (grouped m.rules[k]) m.rules[k].body, okE) := by simp [readBody, hb]
        rw [hrbe] at hrb
        have hdd : rulesE m (m.rules.drop k) = rulesE m (m.rules.drop (k + 1)) := by rw [hd, if_neg hn, hb]
        repeat refine AWp.seq ?_
        refine AWp.regD ops_mixed [false, false, false, false, false, false, false, false, false, false, false, false, true, true, true] F24r18 [{ r := bval (grouped m.rules[k]) }, { r := encBodyR (edgesOf m (grouped m.rules[k]) m.rules[k].body, okE) }] (by kernel_rfl) (by rw [hC]; rfl) rfl (fun K hK => ?_) (by simp [F24r18, encBodyR, encEdges, okE] <;> rfl)
        simp [F24r18, encBodyR, encEdges, okE]
        refine ⟨callOK rfl hcf, callOK rfl hrb, hK _ ?_⟩
        repeat refine AWp.seq ?_
        refine AWp.reg [] F24r19 [] (by kernel_rfl) (by rw [hC]; rfl) fun K hK => ?_
        simp [F24r19]
        refine hK _ ?_
        repeat refine AWp.seq ?_
        refine AWp.cond false (by simp) (fun he => by cases he) (fun _ => ?_)
        refine AWp.skip ?_
        revert hhs hes hhl hel
        generalize headsOf m (m.rules.take k) = hs
        generalize allEdges m (m.rules.take k) = es
        intro hhs hes hhl hel
        cases hs with
        | nil =>
          repeat refine AWp.seq ?_
          refine AWp.reg [false, true, false, false, false, false, true] F24r21 [] (by kernel_rfl) (by rw [hC]; rfl) fun K hK => ?_
          simp [F24r21, encRow]
          refine hK _ ?_
          cases es with
          | nil =>
            repeat refine AWp.seq ?_
            refine AWp.reg [false, true, false, false, false, false, true] F24r22 [] (by kernel_rfl) (by rw [hC]; rfl) fun K hK => ?_
            simp [F24r22, encEEO]
            refine hK _ ?_
            repeat refine AWp.seq ?_
            refine AWp.reg [] F24r23 [] (by kernel_rfl) (by rw [hC]; rfl) fun K hK => ?_
            simp [F24r23]
            refine hK _ ⟨k + 1, ⟨by omega, by rw [hk2, hdd]⟩, by omega, ?_⟩
            simp [st24b, wrap_nat k (by omega), hhs, hes, encRow_cons, encEEO_cons, encEdges]
          | cons e0 es =>
            simp only [List.length_cons] at hel
            repeat refine AWp.seq ?_
            refine AWp.reg [false, true, false, false, false, false, true] F24r22 [] (by kernel_rfl) (by rw [hC]; rfl) fun K hK => ?_
            simp [F24r22, encEEO, encEdges]
            refine ⟨by omega, hK _ ?_⟩
            repeat refine AWp.seq ?_
            refine AWp.reg [] F24r23 [] (by kernel_rfl) (by rw [hC]; rfl) fun K hK => ?_
            simp [F24r23]
            refine hK _ ⟨k + 1, ⟨by omega, by rw [hk2, hdd]⟩, by omega, ?_⟩
            simp [st24b, wrap_nat k (by omega), hhs, hes, encRow_cons, encEEO_cons, encEdges]
        | cons h0 hs =>
          simp only [List.length_cons] at hhl
          repeat refine AWp.seq ?_
          refine AWp.reg [false, true, false, false, false, false, true] F24r21 [] (by kernel_rfl) (by rw [hC]; rfl) fun K hK => ?_
          simp [F24r21, encRow]
          refine ⟨by omega, hK _ ?_⟩
          cases es with
          | nil =>
            repeat refine AWp.seq ?_
            refine AWp.reg [false, true, false, false, false, false, true] F24r22 [] (by kernel_rfl) (by rw [hC]; rfl) fun K hK => ?_
            simp [F24r22, encEEO]
            refine hK _ ?_
            repeat refine AWp.seq ?_
            refine AWp.reg [] F24r23 [] (by kernel_rfl) (by rw [hC]; rfl) fun K hK => ?_
            simp [F24r23]
            refine hK _ ⟨k + 1, ⟨by omega, by rw [hk2, hdd]⟩, by omega, ?_⟩
            simp [st24b, wrap_nat k (by omega), hhs, hes, encRow_cons, encEEO_cons, encEdges]
          | cons e0 es =>
            simp only [List.length_cons] at hel
            repeat refine AWp.seq ?_
            refine AWp.reg [false, true, false, false, false, false, true] F24r22 [] (by kernel_rfl) (by rw [hC]; rfl) fun K hK => ?_
            simp [F24r22, encEEO, encEdges]
            refine ⟨by omega, hK _ ?_⟩
            repeat refine AWp.seq ?_
            refine AWp.reg [] F24r23 [] (by kernel_rfl) (by rw [hC]; rfl) fun K hK => ?_
            simp [F24r23]
            refine hK _ ⟨k + 1, ⟨by omega, by rw [hk2, hdd]⟩, by omega, ?_⟩
            simp [st24b, wrap_nat k (by omega), hhs, hes, encRow_cons, encEEO_cons, encEdges]
  have hge : ¬ k < m.rules.length := by simpa using hge
  have hr1 : rulesE m m.rules = none := by rw [hk2, List.drop_eq_nil_of_le (by omega)]; rfl
  have hkn : m.rules.take k = m.rules := List.take_of_length_le (by omega)
  rw [hkn]
  clear hk1 hk2 hge
  refine AWp.exit ?_
  repeat refine AWp.seq ?_
  refine AWp.reg [] F24r24 [] (by kernel_rfl) (by rw [hC]; rfl) fun K hK => ?_
  simp [F24r24]
  refine hK _ ?_
  refine AWp.block ?_
  refine AWp.loopG (st24c m) (fun k => k ≤ m.nevers.length ∧ neversE m m.nevers = neversE m (m.nevers.drop k)) (fun k => m.nevers.length - k) 0 (by simp) (by simp [st24c]) (fun k hk => ?_)
  obtain ⟨hk1, hk2⟩ := hk
  repeat refine AWp.seq ?_
  refine AWp.reg [] F24r25 [] (by kernel_rfl) (by rw [hC]; rfl) fun K hK => ?_
  simp [F24r25, st24c]
  refine hK _ ?_
  repeat refine AWp.seq ?_
  refine AWp.cond (decide (k < m.nevers.length)) (by simp) (fun hlt => ?_) (fun hge => ?_)
  · have hlt : k < m.nevers.length := by simpa using hlt
    have hrm : m.nevers[k] ∈ m.nevers := List.getElem_mem hlt
    have hd := neversE_drop m m.nevers k hlt
    have hrb := readBody_ok m false m.nevers[k].body (hm.nbodies _ hrm)
    refine AWp.skip ?_
    repeat refine AWp.seq ?_
    refine AWp.block ?_
    repeat refine AWp.seq ?_
    refine AWp.reg [false, false, false, true] F24r26 [] (by kernel_rfl) (by rw [hC]; rfl) fun K hK => ?_
    simp [F24r26, hlt]
    refine hK _ ?_
    cases hb : badLit m m.nevers[k].body with
    | some p =>
      have hrbe : readBody m false m.nevers[k].body = ([], (p, 63)) := by simp [readBody, hb]
      rw [hrbe] at hrb
      repeat refine AWp.seq ?_
      refine AWp.reg [false, false, false, false, false, false, false, false, false, true, true, true] F24r27 [{ r := encBodyR ([], (p, 63)) }] (by kernel_rfl) (by rw [hC]; rfl) fun K hK => ?_
      simp [F24r27, encBodyR, encEdges]
      refine ⟨callOK rfl hrb, hK _ ?_⟩
      repeat refine AWp.seq ?_
      refine AWp.reg [] F24r28 [] (by kernel_rfl) (by rw [hC]; rfl) fun K hK => ?_
      simp [F24r28]
      refine hK _ ?_
      repeat refine AWp.seq ?_
      refine AWp.cond true (by simp) (fun _ => ?_) (fun he => by cases he)
      repeat refine AWp.seq ?_
      refine AWp.regD ops_mixed [false, false, true, true, true, true] F24r29 [] (by kernel_rfl) (by rw [hC]; rfl) rfl (fun K hK => ?_) (by simp [F24r29] <;> rfl)
      simp [F24r29]
      refine hK _ ?_
      repeat refine AWp.seq ?_
      refine AWp.ret ⟨.inr rfl, _, by simp [Try.results24] <;> rfl, ?_⟩
      have hce : checkE m = (p, 63) := by simp [checkE, hr0, hr1, hk2, hd, hb]
      have hre : readE m = (⟨0, [], []⟩, checkE m) := by simp [readE, hce]
      rw [hre, hce]
      exact .closed rfl
    | none =>
      have hrbe : readBody m false m.nevers[k].body = (edgesOf m false m.nevers[k].body, okE) := by simp [readBody, hb]
      rw [hrbe] at hrb
      have hdd : neversE m (m.nevers.drop k) = neversE m (m.nevers.drop (k + 1)) := by rw [hd, hb]
      repeat refine AWp.seq ?_
      refine AWp.reg [false, false, false, false, false, false, false, false, false, true, true, true] F24r27 [{ r := encBodyR (edgesOf m false m.nevers[k].body, okE) }] (by kernel_rfl) (by rw [hC]; rfl) fun K hK => ?_
      simp [F24r27, encBodyR, encEdges, okE]
      refine ⟨callOK rfl hrb, hK _ ?_⟩
      repeat refine AWp.seq ?_
      refine AWp.reg [] F24r28 [] (by kernel_rfl) (by rw [hC]; rfl) fun K hK => ?_
      simp [F24r28]
      refine hK _ ?_
      repeat refine AWp.seq ?_
      refine AWp.cond false (by simp) (fun he => by cases he) (fun _ => ?_)
      refine AWp.skip ?_
      repeat refine AWp.seq ?_
      refine AWp.reg [] F24r30 [] (by kernel_rfl) (by rw [hC]; rfl) fun K hK => ?_
      simp [F24r30]
      refine hK _ ⟨k + 1, ⟨by omega, by rw [hk2, hdd]⟩, by omega, ?_⟩
      simp [st24c, wrap_nat k (by omega)]
  have hge : ¬ k < m.nevers.length := by simpa using hge
  have hr2 : neversE m m.nevers = none := by rw [hk2, List.drop_eq_nil_of_le (by omega)]; rfl
  have hce : checkE m = okE := by simp [checkE, hr0, hr1, hr2]
  have hre : readE m = (⟨m.rels.length, headsOf m m.rules, allEdges m m.rules⟩, okE) := by simp [readE, hce, okE, graphOf]
  rw [hre]
  refine AWp.exit ?_
  generalize headsOf m m.rules = hs
  generalize allEdges m m.rules = es
  cases hs with
  | nil =>
    cases es with
    | nil =>
      repeat refine AWp.seq ?_
      refine AWp.reg [false, false, true, true, true] F24r31 [] (by kernel_rfl) (by rw [hC]; rfl) fun K hK => ?_
      simp [F24r31, encRow, encEEO]
      refine hK _ ?_
      repeat refine AWp.seq ?_
      refine AWp.ret ⟨.inr rfl, _, by simp [Try.results24] <;> rfl, ?_⟩
      exact .closed rfl
    | cons e0 es =>
      repeat refine AWp.seq ?_
      refine AWp.reg [false, false, true, true, true] F24r31 [] (by kernel_rfl) (by rw [hC]; rfl) fun K hK => ?_
      simp [F24r31, encRow, encEEO]
      refine hK _ ?_
      repeat refine AWp.seq ?_
      refine AWp.ret ⟨.inr rfl, _, by simp [Try.results24] <;> rfl, ?_⟩
      exact .closed (by simp [encRow, encEEO, okE])
  | cons h0 hs =>
    cases es with
    | nil =>
      repeat refine AWp.seq ?_
      refine AWp.reg [false, false, true, true, true] F24r31 [] (by kernel_rfl) (by rw [hC]; rfl) fun K hK => ?_
      simp [F24r31, encRow, encEEO]
      refine hK _ ?_
      repeat refine AWp.seq ?_
      refine AWp.ret ⟨.inr rfl, _, by simp [Try.results24] <;> rfl, ?_⟩
      exact .closed (by simp [encRow, encEEO, okE])
    | cons e0 es =>
      repeat refine AWp.seq ?_
      refine AWp.reg [false, false, true, true, true] F24r31 [] (by kernel_rfl) (by rw [hC]; rfl) fun K hK => ?_
      simp [F24r31, encRow, encEEO]
      refine hK _ ?_
      repeat refine AWp.seq ?_
      refine AWp.ret ⟨.inr rfl, _, by simp [Try.results24] <;> rfl, ?_⟩
      exact .closed (by simp [encRow, encEEO, okE])
end Go.St
