/- The program: a plan's shape. -/
import Derived.Test.YtdobngcdgkallaaGreatDoorAlZ
set_option linter.unusedSimpArgs false
set_option linter.unusedVariables false
set_option linter.unusedSectionVars false
open Go Go.Aw Go.Proofs
namespace Go.Al
set_option maxRecDepth 20000
-- function 31: corollary/algebra.shaped$1
def F31r0 : List ROp := [⟨some 3,.copy true (.const (.bool false)),[],none⟩]
def F31r1 : List ROp := [⟨some 4,.load 1 false false (.tmp 1),[],none⟩,
 ⟨some 5,.iad 3 (.tmp 4) (.const (.int .i64 0)),[],none⟩,
 ⟨some 6,.fad 0 (.tmp 5),[],none⟩,
 ⟨some 7,.load 1 false false (.tmp 6),[],none⟩,
 ⟨some 8,.copy false (.tmp 0),[],none⟩,
 ⟨some 9,.call (.func 28) [.tmp 7,.tmp 8],[],none⟩,
 ⟨some 10,.un .not (.tmp 9),[],none⟩,
 ⟨some 3,.copy true (.tmp 10),[],none⟩]
-- function 13: corollary/algebra.shaped
def F13r0 : List ROp := [⟨some 1,.box 33 (.tmp 0),[],none⟩,
 ⟨some 2,.alloc 42 [Value.slice none 0 0,Value.bool false,Value.int .i64 0],[],none⟩,
 ⟨some 3,.copy true (.const (.int .i64 0)),[],none⟩]
def F13r1 : List ROp := [⟨some 4,.alloc 65 [Value.slice none 0 0],[],none⟩]
def F13r2 : List ROp := [⟨some 12,.fad 5 (.tmp 1),[],none⟩,
 ⟨some 13,.load 1 false false (.tmp 12),[],none⟩,
 ⟨some 14,.len 0 (.tmp 13),[],none⟩,
 ⟨some 15,.copy false (.const (.int .i64 0)),[],none⟩]
def F13r3 : List ROp := [⟨some 16,.bin .lss (.tmp 15) (.tmp 14),[],none⟩]
def F13r4 : List ROp := [⟨some 17,.iad 6 (.tmp 13) (.tmp 15),[],none⟩,
 ⟨some 18,.load 6 true false (.tmp 17),[],none⟩,
 ⟨some 6,.alloc 33 [Value.int .u8 0,Value.string ByteArray.empty,Value.string ByteArray.empty,Value.slice none 0 0,Value.slice none 0 0,Value.slice none 0 0],[],none⟩,
 ⟨none,.store 6 true (.tmp 6) (.tmp 18),[],none⟩]
def F13r5 : List ROp := [⟨some 20,.load 6 true false (.tmp 6),[],none⟩,
 ⟨some 21,.call (.func 13) [.tmp 20],[],none⟩,
 ⟨some 19,.copy false (.tmp 21),[],none⟩,
 ⟨some 22,.ext (.tmp 19) 0,[],none⟩,
 ⟨some 23,.ext (.tmp 19) 1,[],none⟩,
 ⟨some 7,.alloc 42 [Value.slice none 0 0,Value.bool false,Value.int .i64 0],[],none⟩,
 ⟨none,.store 3 true (.tmp 7) (.tmp 22),[],none⟩,
 ⟨some 8,.copy true (.tmp 23),[],none⟩]
def F13r6 : List ROp := [⟨some 24,.copy false (.tmp 8),[],none⟩,
 ⟨some 25,.bin .neq (.tmp 24) (.const (.int .i64 0)),[],none⟩]
def F13r7 : List ROp := [⟨some 26,.build [Value.slice none 0 0,Value.bool false,Value.int .i64 0] [],[],none⟩,
 ⟨some 27,.copy true (.tmp 8),[],none⟩,
 ⟨none,.store 3 true (.tmp 2) (.tmp 26),[],none⟩,
 ⟨some 3,.copy true (.tmp 27),[],none⟩]
def F13r8 : List ROp := [⟨some 28,.load 1 false true (.tmp 4),[],none⟩,
 ⟨some 29,.load 3 true false (.tmp 7),[],none⟩,
 ⟨some 30,.bslice 42 3 [Value.slice none 0 0,Value.bool false,Value.int .i64 0] 1 [(0,.tmp 29)],[],none⟩,
 ⟨some 31,.app 42 3 40 (.tmp 28) (.tmp 30),[],none⟩,
 ⟨none,.store 1 true (.tmp 4) (.tmp 31),[],none⟩]
def F13r9 : List ROp := [⟨some 32,.bin .add (.tmp 15) (.const (.int .i64 1)),[],none⟩,
 ⟨some 15,.copy false (.tmp 32),[],none⟩]
def F13r10 : List ROp := [⟨some 33,.load 6 true false (.tmp 1),[],none⟩,
 ⟨some 34,.load 1 false false (.tmp 4),[],none⟩,
 ⟨some 35,.call (.func 26) [.tmp 33,.tmp 34],[],none⟩,
 ⟨some 36,.un .not (.tmp 35),[],none⟩]
def F13r11 : List ROp := [⟨some 37,.build [Value.slice none 0 0,Value.bool false,Value.int .i64 0] [],[],none⟩,
 ⟨none,.store 3 true (.tmp 2) (.tmp 37),[],none⟩,
 ⟨some 3,.copy true (.const (.int .i64 4)),[],none⟩]
def F13r12 : List ROp := [⟨some 9,.alloc 42 [Value.slice none 0 0,Value.bool false,Value.int .i64 0],[],none⟩]
def F13r13 : List ROp := [⟨some 38,.fad 0 (.tmp 1),[],none⟩,
 ⟨some 39,.load 1 false false (.tmp 38),[],none⟩]
def F13r14 : List ROp := [⟨some 41,.bin .eql (.tmp 39) (.const (.int .u8 2)),[],none⟩,
 ⟨some 40,.copy true (.tmp 41),[],none⟩]
def F13r15 : List ROp := [⟨some 42,.fad 3 (.tmp 1),[],none⟩,
 ⟨some 43,.load 1 false false (.tmp 42),[],none⟩,
 ⟨some 44,.call (.func 27) [.tmp 43],[],none⟩,
 ⟨some 45,.fad 0 (.tmp 9),[],none⟩,
 ⟨none,.store 1 true (.tmp 45) (.tmp 44),[],none⟩]
def F13r16 : List ROp := [⟨some 47,.bin .eql (.tmp 39) (.const (.int .u8 3)),[],none⟩,
 ⟨some 46,.copy true (.tmp 47),[],none⟩]
def F13r17 : List ROp := [⟨some 48,.load 1 false false (.tmp 4),[],none⟩,
 ⟨some 49,.iad 3 (.tmp 48) (.const (.int .i64 0)),[],none⟩,
 ⟨some 50,.fad 0 (.tmp 49),[],none⟩,
 ⟨some 51,.load 1 false false (.tmp 50),[],none⟩,
 ⟨some 52,.fad 0 (.tmp 9),[],none⟩,
 ⟨none,.store 1 true (.tmp 52) (.tmp 51),[],none⟩]
def F13r18 : List ROp := [⟨some 53,.load 1 false false (.tmp 4),[],none⟩,
 ⟨some 54,.iad 3 (.tmp 53) (.const (.int .i64 1)),[],none⟩,
 ⟨some 55,.fad 0 (.tmp 54),[],none⟩,
 ⟨some 56,.load 1 false false (.tmp 55),[],none⟩,
 ⟨some 57,.len 0 (.tmp 56),[],none⟩,
 ⟨some 58,.copy false (.const (.int .i64 0)),[],none⟩]
def F13r19 : List ROp := [⟨some 59,.bin .lss (.tmp 58) (.tmp 57),[],none⟩]
def F13r20 : List ROp := [⟨some 60,.iad 1 (.tmp 56) (.tmp 58),[],none⟩,
 ⟨some 61,.load 1 false false (.tmp 60),[],none⟩,
 ⟨some 11,.copy true (.tmp 61),[],none⟩]
def F13r21 : List ROp := [⟨some 62,.load 1 false false (.tmp 4),[],none⟩,
 ⟨some 63,.iad 3 (.tmp 62) (.const (.int .i64 0)),[],none⟩,
 ⟨some 64,.fad 0 (.tmp 63),[],none⟩,
 ⟨some 65,.load 1 false false (.tmp 64),[],none⟩,
 ⟨some 66,.copy false (.tmp 11),[],none⟩,
 ⟨some 67,.call (.func 28) [.tmp 65,.tmp 66],[],none⟩,
 ⟨some 68,.un .not (.tmp 67),[],none⟩]
def F13r22 : List ROp := [⟨some 69,.fad 0 (.tmp 9),[],none⟩,
 ⟨some 70,.load 1 false false (.tmp 69),[],none⟩,
 ⟨some 71,.call (.func 29) [.tmp 70],[],none⟩,
 ⟨some 72,.copy false (.tmp 11),[],none⟩,
 ⟨some 73,.bslice 9 1 [Value.string ByteArray.empty] 1 [(0,.tmp 72)],[],none⟩,
 ⟨some 74,.app 9 1 16 (.tmp 71) (.tmp 73),[],none⟩,
 ⟨some 75,.fad 0 (.tmp 9),[],none⟩,
 ⟨none,.store 1 true (.tmp 75) (.tmp 74),[],none⟩]
def F13r23 : List ROp := [⟨some 76,.bin .add (.tmp 58) (.const (.int .i64 1)),[],none⟩,
 ⟨some 58,.copy false (.tmp 76),[],none⟩]
def F13r24 : List ROp := [⟨some 78,.bin .eql (.tmp 39) (.const (.int .u8 9)),[],none⟩,
 ⟨some 77,.copy true (.tmp 78),[],none⟩]
def F13r25 : List ROp := [⟨some 79,.load 1 false false (.tmp 4),[],none⟩,
 ⟨some 80,.iad 3 (.tmp 79) (.const (.int .i64 0)),[],none⟩,
 ⟨some 81,.load 3 true false (.tmp 80),[],none⟩,
 ⟨none,.store 3 true (.tmp 2) (.tmp 81),[],none⟩,
 ⟨some 3,.copy true (.const (.int .i64 0)),[],none⟩]
def F13r26 : List ROp := [⟨some 83,.bin .eql (.tmp 39) (.const (.int .u8 4)),[],none⟩,
 ⟨some 82,.copy true (.tmp 83),[],none⟩]
def F13r27 : List ROp := [⟨some 84,.load 1 false false (.tmp 4),[],none⟩,
 ⟨some 85,.iad 3 (.tmp 84) (.const (.int .i64 0)),[],none⟩,
 ⟨some 86,.load 3 true false (.tmp 85),[],none⟩,
 ⟨none,.store 3 true (.tmp 2) (.tmp 86),[],none⟩,
 ⟨some 3,.copy true (.const (.int .i64 0)),[],none⟩]
def F13r28 : List ROp := [⟨some 88,.bin .eql (.tmp 39) (.const (.int .u8 5)),[],none⟩,
 ⟨some 87,.copy true (.tmp 88),[],none⟩]
def F13r29 : List ROp := [⟨some 89,.bin .eql (.tmp 39) (.const (.int .u8 6)),[],none⟩,
 ⟨some 87,.copy true (.tmp 89),[],none⟩]
def F13r30 : List ROp := [⟨some 90,.bin .eql (.tmp 39) (.const (.int .u8 7)),[],none⟩,
 ⟨some 87,.copy true (.tmp 90),[],none⟩]
def F13r31 : List ROp := [⟨some 91,.bin .eql (.tmp 39) (.const (.int .u8 8)),[],none⟩,
 ⟨some 87,.copy true (.tmp 91),[],none⟩]
def F13r32 : List ROp := [⟨some 92,.fad 3 (.tmp 1),[],none⟩,
 ⟨some 93,.load 1 false false (.tmp 92),[],none⟩,
 ⟨some 94,.call (.func 27) [.tmp 93],[],none⟩,
 ⟨some 95,.mkf (Go.Fn.func 31) [.tmp 4],[],none⟩,
 ⟨some 96,.call (.func 30) [.tmp 94,.tmp 95],[],none⟩]
def F13r33 : List ROp := [⟨some 97,.build [Value.slice none 0 0,Value.bool false,Value.int .i64 0] [],[],none⟩,
 ⟨none,.store 3 true (.tmp 2) (.tmp 97),[],none⟩,
 ⟨some 3,.copy true (.const (.int .i64 71)),[],none⟩]
def F13r34 : List ROp := [⟨some 98,.load 1 false false (.tmp 4),[],none⟩,
 ⟨some 99,.iad 3 (.tmp 98) (.const (.int .i64 0)),[],none⟩,
 ⟨some 100,.fad 0 (.tmp 99),[],none⟩,
 ⟨some 101,.load 1 false false (.tmp 100),[],none⟩,
 ⟨some 102,.fad 0 (.tmp 9),[],none⟩,
 ⟨none,.store 1 true (.tmp 102) (.tmp 101),[],none⟩]
def F13r35 : List ROp := [⟨some 103,.fad 0 (.tmp 1),[],none⟩,
 ⟨some 104,.load 1 false false (.tmp 103),[],none⟩,
 ⟨some 105,.bin .eql (.tmp 104) (.const (.int .u8 6)),[],none⟩,
 ⟨some 106,.copy false (.tmp 105),[],none⟩,
 ⟨some 107,.fad 0 (.tmp 9),[],some (106,true)⟩,
 ⟨some 108,.load 1 false false (.tmp 107),[],some (106,true)⟩,
 ⟨some 109,.fad 2 (.tmp 1),[],some (106,true)⟩,
 ⟨some 110,.load 1 false false (.tmp 109),[],some (106,true)⟩,
 ⟨some 111,.call (.func 28) [.tmp 108,.tmp 110],[],some (106,true)⟩,
 ⟨some 112,.un .not (.tmp 111),[],some (106,true)⟩,
 ⟨some 113,.pick (.tmp 106) (.tmp 112) (.const (.bool false)),[],none⟩]
def F13r36 : List ROp := [⟨some 114,.fad 0 (.tmp 9),[],none⟩,
 ⟨some 115,.load 1 false false (.tmp 114),[0],none⟩,
 ⟨some 116,.call (.func 29) [.tmp 115],[1],none⟩,
 ⟨some 117,.fad 2 (.tmp 1),[],none⟩,
 ⟨some 118,.load 1 false false (.tmp 117),[3],none⟩,
 ⟨some 119,.bslice 9 1 [Value.string ByteArray.empty] 1 [(0,.tmp 118)],[4],none⟩,
 ⟨some 120,.app 9 1 16 (.tmp 116) (.tmp 119),[2,5,2],none⟩,
 ⟨some 121,.fad 0 (.tmp 9),[0,1,2,3,4,5,6],none⟩,
 ⟨none,.store 1 true (.tmp 121) (.tmp 120),[7,6,6,0,1,2,3,4,5,6],none⟩]
def F13r37 : List ROp := [⟨some 122,.fad 0 (.tmp 1),[],none⟩,
 ⟨some 123,.load 1 false false (.tmp 122),[],none⟩,
 ⟨some 124,.bin .eql (.tmp 123) (.const (.int .u8 7)),[],none⟩,
 ⟨some 125,.copy false (.tmp 124),[],none⟩,
 ⟨some 126,.fad 0 (.tmp 1),[],some (125,false)⟩,
 ⟨some 127,.load 1 false false (.tmp 126),[],some (125,false)⟩,
 ⟨some 128,.bin .eql (.tmp 127) (.const (.int .u8 8)),[],some (125,false)⟩,
 ⟨some 129,.pick (.tmp 125) (.const (.bool true)) (.tmp 128),[],none⟩]
def F13r38 : List ROp := [⟨some 130,.fad 3 (.tmp 1),[],none⟩,
 ⟨some 131,.load 1 false false (.tmp 130),[],none⟩,
 ⟨some 132,.len 0 (.tmp 131),[],none⟩,
 ⟨some 133,.build [Value.slice none 0 0,Value.bool false,Value.int .i64 0] [(0,1,.const (.slice none 0 0)),(1,1,.const (.bool true)),(2,1,.tmp 132)],[],none⟩,
 ⟨none,.store 3 true (.tmp 2) (.tmp 133),[],none⟩,
 ⟨some 3,.copy true (.const (.int .i64 0)),[],none⟩]
def F13r39 : List ROp := [⟨some 134,.fad 0 (.tmp 9),[],none⟩,
 ⟨some 135,.load 1 false false (.tmp 134),[],none⟩,
 ⟨some 136,.len 0 (.tmp 135),[],none⟩,
 ⟨some 137,.fad 2 (.tmp 9),[],none⟩,
 ⟨none,.store 1 true (.tmp 137) (.tmp 136),[],none⟩]
def F13r40 : List ROp := [⟨some 138,.load 3 true false (.tmp 9),[],none⟩,
 ⟨none,.store 3 true (.tmp 2) (.tmp 138),[],none⟩,
 ⟨some 3,.copy true (.const (.int .i64 0)),[],none⟩]
attribute [local simp] valX encV_eq exprX encE_eq exprB
attribute [local simp] encP_eq encTR encT texts planX encS shapeX encSR encPR encER
theorem shaped1_ok (a : ShapeD) (r : List ShapeD) (s : ByteArray) (hl : a.names.length ≤ 4194304) : Con Tryz.prog 31 [sval s, .elt 1 [[encSR (a :: r)]] 0 0] (bval (!has a.names s)) := by
 have h1 := Contains_t a.names s hl
 refine Con.of_code Tryz.func31 (by kernel_rfl) rfl (by simp [Tryz.ntmps31]) fun C hC hM => ?_
 refine AWp.seq ?_
 refine AWp.regK [0,1] [true] F31r0 [] (by kernel_rfl) (by rw [hC]; rfl) fun K hK => ?_
 simp (maxSteps := 2000000) [F31r0]
 refine hK _ ?_
 refine AWp.seq ?_
 refine AWp.regK [3] [false,false,false,false,false,false,false,true] F31r1 [{ r := bval (has a.names s) }] (by kernel_rfl) (by rw [hC]; rfl) fun K hK => ?_
 simp (maxSteps := 2000000) [F31r1]
 (repeat first | refine ⟨by first | kernel_rfl | (intros; omega) | assumption, ?_⟩ | refine ⟨by intros; exact callOK rfl h1, ?_⟩); refine hK _ ?_
 repeat refine AWp.seq ?_
 refine AWp.ret ⟨.inr rfl, _, by simp [Tryz.results31] <;> rfl, ?_⟩
 exact .closed rfl
def ShapeR (p : PlanD) : AV := .tup [shapeX (shape p).1, ival (shape p).2]
def insOf (p : PlanD) : List ShapeD := p.ins.map fun q => (shape q).1
theorem retS {g : Nat → Option Blk} {nm : AV} {names : List ByteArray} {b : Bool} {w e : Int} (h : Rsv g (dem nm) (.rd 1 (texts names))) :
  Rsv g (oneOf [.agg (List.take ((fun x => x.size) (Tryz.prog.types[42]'(by decide +kernel))) (List.drop 0 (List.map dem [nm, .val (.bool b), .val (.int .i64 w)]))), .val (.int .i64 e)]) (.tup [shapeX ⟨names, b, w⟩, ival e]) := by
 have hT : (Tryz.prog.types[42]'(by decide +kernel)).size = 3 := by kernel_rfl
 simp only [hT, oneOf]
 exact .tup (.cons (.agg (.cons h (.cons (.closed rfl) (.cons (.closed rfl) .nil)))) (.cons (.closed rfl) .nil))
theorem right_good {p : PlanD} {ins : List ShapeD} (h : right p ins = true) : goods (patOp p.op) p.args = true := by
 unfold right at h
 simp only [Bool.and_eq_true] at h
 rw [goods_all, List.all_eq_true]
 intro e he
 have := List.all_eq_true.1 h.2 e he
 unfold may at this
 simp only [Bool.and_eq_true] at this
 exact this.2
theorem right_kind {p : PlanD} {ins : List ShapeD} (h : right p ins = true) : 1 ≤ p.op ∧ p.op ≤ 9 ∧ (p.op = 3 → ins.length = 2) ∧ (4 ≤ p.op → p.op ≤ 8 → ins.length = 1) ∧ (p.op = 9 → 0 < ins.length) := by
 unfold right kindOk at h
 simp only [Bool.and_eq_true, decide_eq_true_eq] at h
 obtain ⟨⟨⟨⟨⟨⟨⟨h1, h2⟩, h3⟩, _⟩, _⟩, _⟩, _⟩, _⟩ := h
 refine ⟨h1, h2, fun h => ?_, fun h h' => ?_, fun h => ?_⟩
 ·rw [if_neg (by omega), h] at h3; simp [nIn] at h3; omega
 ·rw [if_neg (by omega)] at h3
  unfold nIn at h3
  rw [if_neg (by omega), if_neg (by omega), if_neg (by omega)] at h3
  simp at h3; omega
 ·rw [if_pos h] at h3; simpa using h3
theorem shaped_ok : ∀ (n : Nat) (p : PlanD), psize p < n → psize p ≤ 1048576 → rangeP p → Con Tryz.prog 13 [planX p] (ShapeR p) := by
 intro n
 induction n with
 | zero => intro p h; omega
 | succ n ih =>
  intro p hn hp hr
  have hsz := psize_eq p
  have hlen := psizes_len p.ins
  rw [rangeP_eq] at hr
  have hsq := shape_eq p
  refine Con.of_code Tryz.func13 (by kernel_rfl) rfl (by simp [Tryz.ntmps13]) fun C hC hM => ?_
  refine AWp.seq ?_
  refine AWp.regK [1,2] [false,false,true] F13r0 [] (by kernel_rfl) (by rw [hC]; rfl) fun K hK => ?_
  simp (maxSteps := 2000000) [F13r0]
  refine hK _ ?_
  refine AWp.seq ?_
  refine AWp.regK [1,2,4] [] F13r1 [] (by kernel_rfl) (by rw [hC]; rfl) fun K hK => ?_
  simp (maxSteps := 2000000) [F13r1]
  refine hK _ ?_
  refine AWp.seq ?_
  refine AWp.seq ?_
  refine AWp.regK [1,2,4,13,14,15] [] F13r2 [] (by kernel_rfl) (by rw [hC]; rfl) fun K hK => ?_
  simp (maxSteps := 2000000) [F13r2]
  refine hK _ ?_
  refine AWp.block ?_
  obtain ⟨cur, hcur⟩ : ∃ cur : Nat → List (List AV), ∀ k, cur k = ((insOf p).take k).map encS := ⟨_, fun _ => rfl⟩
  have hc0 : cur 0 = [] := by rw [hcur]; simp
  have hcl : ∀ k, (cur k).length ≤ p.ins.length := by intro k; rw [hcur, List.length_map, List.length_take]; unfold insOf; rw [List.length_map]; omega
  refine AWp.loopG (fun k : Nat => { tm := [(1, .ptr 1 0), (2, .ptr 2 0), (4, .ptr 4 0), (13, .rd 6 (p.ins.map encP)), (14, ival p.ins.length), (15, ival k)], hp := [(1, .cells 33 (encP p)), (2, .cells 42 [.val (.slice none 0 0), bval false, ival 0]), (4, .cells 65 [.own 42 3 (cur k)])] }) (fun k => k ≤ p.ins.length ∧ ∀ q ∈ p.ins.take k, (shape q).2 = 0) (fun k => p.ins.length - k) 0 ⟨by omega, by simp⟩ (by simp [hc0]) (fun k hk => ?_)
  obtain ⟨hk, hk0⟩ := hk
  refine AWp.seq ?_
  refine AWp.regK [1,2,4,13,14,15,16] [] F13r3 [] (by kernel_rfl) (by rw [hC]; rfl) fun K hK => ?_
  simp (maxSteps := 2000000) [F13r3]
  refine hK _ ?_
  refine AWp.seq ?_
  refine AWp.cond _ (by rfl) (fun hlt => ?_) (fun hge => ?_)
  ·skip
   have hlt : k < p.ins.length := by simpa using hlt
   have hqs := psize_mem (List.getElem_mem hlt)
   have hi := ih p.ins[k] (by omega) (by omega) (rangePs_mem hr.2 _ (List.getElem_mem hlt))
   unfold ShapeR at hi
   simp only [encP_eq, planX, encS] at hi
   have hbad := shapes_bad p.ins k hlt hk0
   have hk1 : cur (k + 1) = cur k ++ [encS (shape p.ins[k]).1] := by
    rw [hcur, hcur, List.take_succ_eq_append_getElem (by unfold insOf; simpa using hlt)]
    simp [insOf]
   have htk : p.ins.take (k + 1) = p.ins.take k ++ [p.ins[k]] := List.take_succ_eq_append_getElem hlt
   have hck := hcl k
   refine AWp.skip ?_
   refine AWp.seq ?_
   refine AWp.block ?_
   refine AWp.seq ?_
   refine AWp.regK [1,2,4,6,13,14,15] [false,false,false,true] F13r4 [] (by kernel_rfl) (by rw [hC]; rfl) fun K hK => ?_
   simp (maxSteps := 2000000) [F13r4, hlt]
   (repeat refine ⟨by first | omega | (intros; omega) | assumption, ?_⟩); refine hK _ ?_
   refine AWp.seq ?_
   refine AWp.regK [1,2,4,7,8,13,14,15] [false,false,false,false,false,false,true,true] F13r5 [{ r := .tup [shapeX (shape p.ins[k]).1,ival (shape p.ins[k]).2] }] (by kernel_rfl) (by rw [hC]; rfl) fun K hK => ?_
   simp (maxSteps := 2000000) [F13r5]
   (repeat first | refine ⟨by first | kernel_rfl | (intros; omega) | assumption, ?_⟩ | refine ⟨by intros; exact callOK rfl hi, ?_⟩); refine hK _ ?_
   refine AWp.seq ?_
   refine AWp.seq ?_
   refine AWp.regK [1,2,4,7,8,13,14,15,25] [] F13r6 [] (by kernel_rfl) (by rw [hC]; rfl) fun K hK => ?_
   simp (maxSteps := 2000000) [F13r6]
   refine hK _ ?_
   refine AWp.cond _ (by rfl) (fun h1 => ?_) (fun h1 => ?_)
   ·skip
    have h1 : ¬ (shape p.ins[k]).2 = 0 := by simpa using h1
    rw [hbad h1] at hsq
    simp only at hsq
    rw [if_neg h1] at hsq
    refine AWp.seq ?_
    refine AWp.regK [2,3] [false,true,true,true] F13r7 [] (by kernel_rfl) (by rw [hC]; rfl) fun K hK => ?_
    simp (maxSteps := 2000000) [F13r7]
    refine hK _ ?_
    repeat refine AWp.seq ?_
    refine AWp.ret ⟨.inr rfl, _, by simp [Tryz.results13] <;> rfl, ?_⟩
    unfold ShapeR
    rw [hsq]
    exact retS .nil
   have h1 : (shape p.ins[k]).2 = 0 := by simpa using h1
   refine AWp.skip ?_
   refine AWp.regK [1,2,4,13,14,15] [true,false,false,false,true] F13r8 [] (by kernel_rfl) (by rw [hC]; rfl) fun K hK => ?_
   simp (maxSteps := 2000000) [F13r8]
   (repeat refine ⟨by first | omega | (intros; omega) | assumption, ?_⟩); refine hK _ ?_
   refine AWp.regK [1,2,4,13,14,15] [] F13r9 [] (by kernel_rfl) (by rw [hC]; rfl) fun K hK => ?_
   simp (maxSteps := 2000000) [F13r9]
   (repeat refine ⟨by first | omega | (intros; omega) | assumption, ?_⟩); refine hK _ ?_
   refine ⟨k + 1, ⟨by omega, ?_⟩, by omega, ?_⟩
   ·rw [htk]
    intro q hq
    rcases List.mem_append.1 hq with hq | hq
    ·exact hk0 q hq
    ·rw [List.mem_singleton.1 hq]; exact h1
   ·rw [hk1]
    simp [wrap_nat k (by omega)]
  have hge : ¬ k < p.ins.length := by simpa using hge
  rw [List.take_of_length_le (by omega)] at hk0
  have hsh := shapes_ok p.ins hk0
  rw [hsh] at hsq
  simp only [if_true] at hsq
  have hcf : cur k = (insOf p).map encS := by rw [hcur, List.take_of_length_le (by unfold insOf; simp; omega)]
  rw [hcf]
  have hnl : nsum (insOf p) ≤ psizes p.ins := by have := shapes_len p.ins; rw [hsh] at this; exact this
  have hnd : ∀ s ∈ insOf p, s.names.Nodup := by
   intro s hs
   obtain ⟨q, _, rfl⟩ := List.mem_map.1 hs
   exact shape_nodup q
  have hil : (insOf p).length = p.ins.length := by unfold insOf; simp
  have hsq : shape p = own p (insOf p) := hsq
  generalize insOf p = ins at hsq hnl hnd hil ⊢
  have hform := formP_ok p ins (by omega) hr.1 (by omega) (by omega) (by have := tsizes_len p.aggs; omega)
  simp only [encP_eq, planX] at hform
  unfold ShapeR
  rw [hsq]
  unfold own
  refine AWp.exit ?_
  refine AWp.seq ?_
  refine AWp.seq ?_
  refine AWp.regK [1,2,4,36] [] F13r10 [{ r := bval (right p ins) }] (by kernel_rfl) (by rw [hC]; rfl) fun K hK => ?_
  simp (maxSteps := 2000000) [F13r10]
  (repeat first | refine ⟨by first | kernel_rfl | (intros; omega) | assumption, ?_⟩ | refine ⟨by intros; exact callWk rfl (by repeat (first | exact WkL.nil | refine WkL.cons (by first | exact Wk.refl _ | exact Wk.nil _ | exact Wk.own (WkR.refl _)) ?_)) hform, ?_⟩); refine hK _ ?_
  refine AWp.cond _ (by rfl) (fun h2 => ?_) (fun h2 => ?_)
  ·skip
   have h2 : right p ins = false := by simpa using h2
   rw [if_pos h2]
   refine AWp.seq ?_
   refine AWp.regK [2,3] [false,true,true] F13r11 [] (by kernel_rfl) (by rw [hC]; rfl) fun K hK => ?_
   simp (maxSteps := 2000000) [F13r11]
   refine hK _ ?_
   repeat refine AWp.seq ?_
   refine AWp.ret ⟨.inr rfl, _, by simp [Tryz.results13] <;> rfl, ?_⟩
   exact retS .nil
  have h2 : right p ins = true := by simpa using h2
  rw [if_neg (by rw [h2]; decide)]
  obtain ⟨k1, k9, k3, k48, kk9⟩ := right_kind h2
  have hgd := right_good h2
  have hv := vars_p _ p.args (Nat.lt_succ_self _) (by omega)
  rw [vars_same _ _ hgd] at hv
  have hvl := varsDs_le p.args
  have hvn := varsDs_nodup p.args
  refine AWp.skip ?_
  refine AWp.seq ?_
  refine AWp.regK [1,2,4,9] [] F13r12 [] (by kernel_rfl) (by rw [hC]; rfl) fun K hK => ?_
  simp (maxSteps := 2000000) [F13r12]
  refine hK _ ?_
  refine AWp.seq ?_
  refine AWp.seq ?_
  refine AWp.regK [1,2,4,9,39] [] F13r13 [] (by kernel_rfl) (by rw [hC]; rfl) fun K hK => ?_
  simp (maxSteps := 2000000) [F13r13]
  refine hK _ ?_
  refine AWp.block ?_
  refine AWp.seq ?_
  refine AWp.regK [1,2,4,9,39,40] [false,true] F13r14 [] (by kernel_rfl) (by rw [hC]; rfl) fun K hK => ?_
  simp (maxSteps := 2000000) [F13r14]
  refine hK _ ?_
  refine AWp.cond _ (by rfl) (fun o2 => ?_) (fun o2 => ?_)
  ·skip
   have o2 : p.op = 2 := by simpa using o2
   rw [if_neg (by omega), if_neg (by omega), if_neg (by omega)]
   have hnm : namesD p ins = varsDs [] p.args := by unfold namesD; rw [if_pos o2]
   rw [hnm]
   generalize varsDs [] p.args = v at hv hvl
   refine AWp.regK [2,9] [false,false,false,false,true] F13r15 [{ r := encTR v }] (by kernel_rfl) (by rw [hC]; rfl) fun K hK => ?_
   simp (maxSteps := 2000000) [F13r15]
   (repeat first | refine ⟨by first | kernel_rfl | (intros; omega) | assumption, ?_⟩ | refine ⟨by intros; exact callOK rfl hv, ?_⟩); refine hK _ ?_
   refine AWp.seq ?_
   refine AWp.regK [2,9] [false,false,false,false,true] F13r39 [] (by kernel_rfl) (by rw [hC]; rfl) fun K hK => ?_
   simp (maxSteps := 2000000) [F13r39]
   refine hK _ ?_
   refine AWp.seq ?_
   refine AWp.regK [2,3] [false,true,true] F13r40 [] (by kernel_rfl) (by rw [hC]; rfl) fun K hK => ?_
   simp (maxSteps := 2000000) [F13r40]
   refine hK _ ?_
   repeat refine AWp.seq ?_
   refine AWp.ret ⟨.inr rfl, _, by simp [Tryz.results13] <;> rfl, ?_⟩
   exact retS (.closed rfl)
  have o2 : ¬ p.op = 2 := by simpa using o2
  refine AWp.seq ?_
  refine AWp.regK [1,2,4,9,39,46] [false,true] F13r16 [] (by kernel_rfl) (by rw [hC]; rfl) fun K hK => ?_
  simp (maxSteps := 2000000) [F13r16]
  refine hK _ ?_
  refine AWp.cond _ (by rfl) (fun o3 => ?_) (fun o3 => ?_)
  ·skip
   have o3 : p.op = 3 := by simpa using o3
   obtain ⟨a, b, hab⟩ : ∃ a b, ins = [a, b] := by
    have hl2 := k3 o3
    match ins, hl2 with
    | [a, b], _ => exact ⟨a, b, rfl⟩
   subst hab
   rw [if_neg (by omega), if_neg (by omega), if_neg (by omega)]
   have hnm : namesD p [a, b] = addAll a.names b.names := by unfold namesD; rw [if_neg o2, if_pos o3]; rfl
   rw [hnm, addAll_filter b.names a.names (hnd b (by simp))]
   have hna := nsum_two a b []
   obtain ⟨cn, hcn⟩ : ∃ cn : Nat → List ByteArray, ∀ k, cn k = a.names ++ (b.names.take k).filter fun s => !has a.names s := ⟨_, fun _ => rfl⟩
   have hcn0 : cn 0 = a.names := by rw [hcn]; simp
   have hcnl : ∀ k, (cn k).length ≤ a.names.length + b.names.length := by
    intro k
    have h1 := List.length_filter_le (fun s => !has a.names s) (b.names.take k)
    rw [List.length_take] at h1
    rw [hcn, List.length_append]; omega
   refine AWp.seq ?_
   refine AWp.regK [2,4,9] [false,false,false,false,false,true] F13r17 [] (by kernel_rfl) (by rw [hC]; rfl) fun K hK => ?_
   simp (maxSteps := 2000000) [F13r17]
   (repeat refine ⟨by first | omega | (intros; omega) | assumption, ?_⟩); refine hK _ ?_
   refine AWp.seq ?_
   refine AWp.regK [2,4,9,56,57,58] [] F13r18 [] (by kernel_rfl) (by rw [hC]; rfl) fun K hK => ?_
   simp (maxSteps := 2000000) [F13r18]
   (repeat refine ⟨by first | omega | (intros; omega) | assumption, ?_⟩); refine hK _ ?_
   refine AWp.block ?_
   refine AWp.loopG (fun k : Nat => { tm := [(2, .ptr 2 0), (4, .ptr 4 0), (9, .ptr 9 0), (56, encTR b.names), (57, ival b.names.length), (58, ival k)], hp := [(2, .cells 42 [.val (.slice none 0 0), bval false, ival 0]), (4, .cells 65 [.own 42 3 [encS a, encS b]]), (9, .cells 42 [.rd 1 (texts (cn k)), bval false, ival 0])] }) (fun k => k ≤ b.names.length) (fun k => b.names.length - k) 0 (by omega) (by simp [hcn0]) (fun k hk => ?_)
   refine AWp.seq ?_
   refine AWp.regK [2,4,9,56,57,58,59] [] F13r19 [] (by kernel_rfl) (by rw [hC]; rfl) fun K hK => ?_
   simp (maxSteps := 2000000) [F13r19]
   refine hK _ ?_
   refine AWp.seq ?_
   refine AWp.cond _ (by rfl) (fun hlt => ?_) (fun hge => ?_)
   ·skip
    have hlt : k < b.names.length := by simpa using hlt
    have hk1 : cn (k + 1) = if has a.names b.names[k] = true then cn k else cn k ++ [b.names[k]] := by
     rw [hcn, hcn, List.take_succ_eq_append_getElem hlt, List.filter_append]
     cases hh : has a.names b.names[k] <;> simp [hh]
    have hck := hcnl k
    have hc := Contains_t a.names b.names[k] (by omega)
    have hcl := Clip_t (cn k) (by omega)
    generalize cn k = cur at hk1 hck hcl ⊢
    refine AWp.skip ?_
    refine AWp.seq ?_
    refine AWp.block ?_
    refine AWp.seq ?_
    refine AWp.regK [2,4,9,11,56,57,58] [false,false,true] F13r20 [] (by kernel_rfl) (by rw [hC]; rfl) fun K hK => ?_
    simp (maxSteps := 2000000) [F13r20, hlt]
    (repeat refine ⟨by first | omega | (intros; omega) | assumption, ?_⟩); refine hK _ ?_
    refine AWp.seq ?_
    generalize b.names[k] = s at hk1 hc ⊢
    refine AWp.regK [2,4,9,11,56,57,58,68] [] F13r21 [{ r := bval (has a.names s) }] (by kernel_rfl) (by rw [hC]; rfl) fun K hK => ?_
    simp (maxSteps := 2000000) [F13r21]
    (repeat first | refine ⟨by first | kernel_rfl | (intros; omega) | assumption, ?_⟩ | refine ⟨by intros; exact callOK rfl hc, ?_⟩); refine hK _ ?_
    refine AWp.cond _ (by rfl) (fun h4 => ?_) (fun h4 => ?_)
    ·skip
     have h4 : has a.names s = false := by simpa using h4
     rw [h4, if_neg (by decide)] at hk1
     refine AWp.regK [2,4,9,56,57,58] [false,false,false,false,false,false,false,true] F13r22 [{ r := .fx 1 (texts cur) }] (by kernel_rfl) (by rw [hC]; rfl) fun K hK => ?_
     simp (maxSteps := 2000000) [F13r22]
     (repeat first | refine ⟨by first | kernel_rfl | (intros; omega) | assumption, ?_⟩ | refine ⟨by intros; exact callOK rfl hcl, ?_⟩); refine hK _ ?_
     refine AWp.regK [2,4,9,56,57,58] [] F13r23 [] (by kernel_rfl) (by rw [hC]; rfl) fun K hK => ?_
     simp (maxSteps := 2000000) [F13r23]
     (repeat refine ⟨by first | omega | (intros; omega) | assumption, ?_⟩); refine hK _ ?_
     refine ⟨k + 1, by omega, by omega, ?_⟩
     rw [hk1]
     simp [wrap_nat k (by omega)]
    have h4 : has a.names s = true := by simpa using h4
    rw [h4, if_pos rfl] at hk1
    refine AWp.skip ?_
    refine AWp.regK [2,4,9,56,57,58] [] F13r23 [] (by kernel_rfl) (by rw [hC]; rfl) fun K hK => ?_
    simp (maxSteps := 2000000) [F13r23]
    (repeat refine ⟨by first | omega | (intros; omega) | assumption, ?_⟩); refine hK _ ?_
    refine ⟨k + 1, by omega, by omega, ?_⟩
    rw [hk1]
    simp [wrap_nat k (by omega)]
   have hge : ¬ k < b.names.length := by simpa using hge
   have hcf : cn k = a.names ++ b.names.filter fun s => !has a.names s := by rw [hcn, List.take_of_length_le (by omega)]
   rw [← hcf]
   generalize cn k = cur
   refine AWp.exit ?_
   refine AWp.seq ?_
   refine AWp.regK [2,9] [false,false,false,false,true] F13r39 [] (by kernel_rfl) (by rw [hC]; rfl) fun K hK => ?_
   simp (maxSteps := 2000000) [F13r39]
   refine hK _ ?_
   refine AWp.seq ?_
   refine AWp.regK [2,3] [false,true,true] F13r40 [] (by kernel_rfl) (by rw [hC]; rfl) fun K hK => ?_
   simp (maxSteps := 2000000) [F13r40]
   refine hK _ ?_
   repeat refine AWp.seq ?_
   refine AWp.ret ⟨.inr rfl, _, by simp [Tryz.results13] <;> rfl, ?_⟩
   exact retS (.closed rfl)
  have o3 : ¬ p.op = 3 := by simpa using o3
  refine AWp.seq ?_
  refine AWp.regK [1,2,4,9,39,77] [false,true] F13r24 [] (by kernel_rfl) (by rw [hC]; rfl) fun K hK => ?_
  simp (maxSteps := 2000000) [F13r24]
  refine hK _ ?_
  refine AWp.cond _ (by rfl) (fun o9 => ?_) (fun o9 => ?_)
  ·skip
   have o9 : p.op = 9 := by simpa using o9
   obtain ⟨a, r, har⟩ : ∃ a r, ins = a :: r := List.exists_cons_of_length_pos (kk9 o9)
   subst har
   rw [if_pos (.inr o9)]
   refine AWp.seq ?_
   refine AWp.regK [2,3] [false,false,false,true,true] F13r25 [] (by kernel_rfl) (by rw [hC]; rfl) fun K hK => ?_
   simp (maxSteps := 2000000) [F13r25]
   (repeat refine ⟨by first | omega | (intros; omega) | assumption, ?_⟩); refine hK _ ?_
   repeat refine AWp.seq ?_
   refine AWp.ret ⟨.inr rfl, _, by simp [Tryz.results13] <;> rfl, ?_⟩
   exact retS (.closed rfl)
  have o9 : ¬ p.op = 9 := by simpa using o9
  refine AWp.seq ?_
  refine AWp.regK [1,2,4,9,39,82] [false,true] F13r26 [] (by kernel_rfl) (by rw [hC]; rfl) fun K hK => ?_
  simp (maxSteps := 2000000) [F13r26]
  refine hK _ ?_
  refine AWp.cond _ (by rfl) (fun o4 => ?_) (fun o4 => ?_)
  ·skip
   have o4 : p.op = 4 := by simpa using o4
   obtain ⟨a, har⟩ : ∃ a, ins = [a] := List.length_eq_one_iff.1 (k48 (by omega) (by omega))
   subst har
   rw [if_pos (.inl o4)]
   refine AWp.seq ?_
   refine AWp.regK [2,3] [false,false,false,true,true] F13r27 [] (by kernel_rfl) (by rw [hC]; rfl) fun K hK => ?_
   simp (maxSteps := 2000000) [F13r27]
   (repeat refine ⟨by first | omega | (intros; omega) | assumption, ?_⟩); refine hK _ ?_
   repeat refine AWp.seq ?_
   refine AWp.ret ⟨.inr rfl, _, by simp [Tryz.results13] <;> rfl, ?_⟩
   exact retS (.closed rfl)
  have o4 : ¬ p.op = 4 := by simpa using o4
  rw [if_neg (by omega)]
  refine AWp.seqJ (fun _ : Unit => { tm := [(1, .ptr 1 0), (2, .ptr 2 0), (4, .ptr 4 0), (9, .ptr 9 0), (87, bval (decide (5 ≤ p.op)))], hp := [(1, .cells 33 (encP p)), (2, .cells 42 [.val (.slice none 0 0), bval false, ival 0]), (4, .cells 65 [.own 42 3 (ins.map encS)]), (9, .cells 42 [.val (.slice none 0 0), bval false, ival 0])] }) (fun _ => True) ?_ (fun hJ => ?_)
  ·skip
   rintro - -
   refine AWp.cond _ (by rfl) (fun h5 => ?_) (fun h5 => ?_)
   ·skip
    have h5 : 5 ≤ p.op := by simpa using h5
    obtain ⟨a, har⟩ : ∃ a, ins = [a] := List.length_eq_one_iff.1 (k48 (by omega) (by omega))
    subst har
    have hna : a.names.length ≤ psizes p.ins := by have := nsum_mem (List.mem_singleton_self a); omega
    obtain ⟨v, hve⟩ : ∃ v, v = varsDs [] p.args := ⟨_, rfl⟩
    rw [← hve] at hv hvl ⊢
    have hcf := ContainsFuncT_ok v (by omega) 31 [.elt 1 [[encSR [a]]] 0 0] rfl (fun s => !has a.names s) (fun s _ => shaped1_ok a [] s (by omega))
    have hb : (v.any fun s => !has a.names s) = !(v.all fun s => has a.names s) := List.not_all_eq_any_not.symm
    obtain ⟨B, hB⟩ : ∃ B, B = v.any fun s => !has a.names s := ⟨_, rfl⟩
    rw [← hB] at hcf hb
    refine AWp.seq ?_
    refine AWp.seq ?_
    refine AWp.regK [1,2,4,9,96] [] F13r32 [{ r := encTR v },{ r := bval B,us := [4] }] (by kernel_rfl) (by rw [hC]; rfl) fun K hK => ?_
    simp (maxSteps := 2000000) [F13r32]
    (repeat first | refine ⟨by first | kernel_rfl | (intros; omega) | assumption, ?_⟩ | refine ⟨by intros; exact callOK rfl hv, ?_⟩ | refine ⟨by intros; exact ⟨_, .cons (.closed rfl) (.cons (.clo (.cons (.ptr rfl (.cons .own .nil)) .nil)) .nil), hcf⟩, ?_⟩); refine hK _ ?_
    refine AWp.cond _ (by rfl) (fun h6 => ?_) (fun h6 => ?_)
    ·skip
     rw [h6] at hb
     have hb2 : (v.all fun s => has ([a].headD zeroS).names s) = false := by
      have : (v.all fun s => has a.names s) = false := by simpa using hb.symm
      exact this
     rw [if_pos ⟨h5, hb2⟩]
     refine AWp.seq ?_
     refine AWp.regK [2,3] [false,true,true] F13r33 [] (by kernel_rfl) (by rw [hC]; rfl) fun K hK => ?_
     simp (maxSteps := 2000000) [F13r33]
     refine hK _ ?_
     repeat refine AWp.seq ?_
     refine AWp.ret ⟨.inr rfl, _, by simp [Tryz.results13] <;> rfl, ?_⟩
     exact retS .nil
    rw [h6] at hb
    have hb2 : (v.all fun s => has ([a].headD zeroS).names s) = true := by
     have : (v.all fun s => has a.names s) = true := by simpa using hb.symm
     exact this
    rw [if_neg (by rw [hb2]; simp)]
    have hcn := Contains_t a.names p.name (by omega)
    have hcl := Clip_t a.names (by omega)
    refine AWp.skip ?_
    refine AWp.seq ?_
    refine AWp.regK [1,2,9] [false,false,false,false,false,true] F13r34 [] (by kernel_rfl) (by rw [hC]; rfl) fun K hK => ?_
    simp (maxSteps := 2000000) [F13r34]
    (repeat refine ⟨by first | omega | (intros; omega) | assumption, ?_⟩); refine hK _ ?_
    refine AWp.seq ?_
    refine AWp.seq ?_
    refine AWp.regK [1,2,9,113] [] F13r35 [{ r := bval (has a.names p.name) }] (by kernel_rfl) (by rw [hC]; rfl) fun K hK => ?_
    simp (maxSteps := 2000000) [F13r35]
    (repeat first | refine ⟨by first | kernel_rfl | (intros; omega) | assumption, ?_⟩ | refine ⟨fun _ => callWk rfl (by repeat (first | exact WkL.nil | refine WkL.cons (by first | exact Wk.refl _ | exact Wk.nil _ | exact Wk.own (WkR.refl _)) ?_)) hcn, ?_⟩); refine hK _ ?_
    refine AWp.cond _ (by rfl) (fun h7 => ?_) (fun h7 => ?_)
    ·skip
     have h7 : p.op = 6 ∧ has a.names p.name = false := by simpa using h7
     have hnm : namesD p [a] = a.names ++ [p.name] := by
      unfold namesD
      rw [if_neg (by omega), if_neg (by omega), if_pos h7.1]
      unfold add
      rw [if_neg (by show ¬ has a.names p.name = true; rw [h7.2]; decide)]; rfl
     rw [if_neg (by omega), hnm]
     refine AWp.regKL ops_mixed [[],[0],[0,1],[],[3],[3,4],[0,1,2,3,4,5],[0,1,2,3,4,5,6],[0,1,2,3,4,5,6,7]] [1,2,9] [false,false,false,false,false,false,false,false,true] F13r36 [{ r := .fx 1 (texts a.names) }] (by kernel_rfl) (by rw [hC]; rfl) (by kernel_rfl) (by kernel_rfl) fun K hK => ?_
     simp (maxSteps := 2000000) [F13r36]
     (repeat first | refine ⟨by first | kernel_rfl | (intros; omega) | assumption, ?_⟩ | refine ⟨by intros; exact callOK rfl hcl, ?_⟩); refine hK _ ?_
     refine AWp.seq ?_
     refine AWp.regK [1,2,9,129] [] F13r37 [] (by kernel_rfl) (by rw [hC]; rfl) fun K hK => ?_
     simp (maxSteps := 2000000) [F13r37]
     (repeat refine ⟨by first | omega | (intros; omega) | assumption, ?_⟩); refine hK _ ?_
     refine AWp.cond false (by simp [h7.1]) (fun he => by cases he) (fun _ => ?_)
     refine AWp.skip ?_
     refine AWp.seq ?_
     refine AWp.regK [2,9] [false,false,false,false,true] F13r39 [] (by kernel_rfl) (by rw [hC]; rfl) fun K hK => ?_
     simp (maxSteps := 2000000) [F13r39]
     refine hK _ ?_
     refine AWp.seq ?_
     refine AWp.regK [2,3] [false,true,true] F13r40 [] (by kernel_rfl) (by rw [hC]; rfl) fun K hK => ?_
     simp (maxSteps := 2000000) [F13r40]
     refine hK _ ?_
     repeat refine AWp.seq ?_
     refine AWp.ret ⟨.inr rfl, _, by simp [Tryz.results13] <;> rfl, ?_⟩
     have e1 : List.map encT a.names ++ [[AV.val (.string p.name)]] = texts (a.names ++ [p.name]) := by simp
     have e2 : ((a.names ++ [p.name]).length : Int) = (a.names.length : Int) + 1 := by simp
     rw [e1]
     simp only [e2]
     exact retS (.closed rfl)
    have h7 : ¬ (p.op = 6 ∧ has a.names p.name = false) := by simpa using h7
    refine AWp.skip ?_
    refine AWp.seq ?_
    refine AWp.regK [1,2,9,129] [] F13r37 [] (by kernel_rfl) (by rw [hC]; rfl) fun K hK => ?_
    simp (maxSteps := 2000000) [F13r37]
    (repeat refine ⟨by first | omega | (intros; omega) | assumption, ?_⟩); refine hK _ ?_
    refine AWp.cond _ (by rfl) (fun h8 => ?_) (fun h8 => ?_)
    ·skip
     have h8 : p.op = 7 ∨ p.op = 8 := by simpa using h8
     rw [if_pos h8]
     refine AWp.seq ?_
     refine AWp.regK [2,3] [false,false,false,false,true,true] F13r38 [] (by kernel_rfl) (by rw [hC]; rfl) fun K hK => ?_
     simp (maxSteps := 2000000) [F13r38]
     refine hK _ ?_
     repeat refine AWp.seq ?_
     refine AWp.ret ⟨.inr rfl, _, by simp [Tryz.results13] <;> rfl, ?_⟩
     exact retS .nil
    have h8 : ¬ (p.op = 7 ∨ p.op = 8) := by simpa using h8
    rw [if_neg h8]
    have hnm : namesD p [a] = a.names := by
     unfold namesD
     rw [if_neg (by omega), if_neg (by omega)]
     by_cases h9 : p.op = 6
     ·rw [if_pos h9]
      unfold add
      rw [if_pos (by show has a.names p.name = true; cases hh : has a.names p.name <;> simp_all)]
      rfl
     ·rw [if_neg h9, if_pos h5]; rfl
    rw [hnm]
    refine AWp.skip ?_
    refine AWp.seq ?_
    refine AWp.regK [2,9] [false,false,false,false,true] F13r39 [] (by kernel_rfl) (by rw [hC]; rfl) fun K hK => ?_
    simp (maxSteps := 2000000) [F13r39]
    refine hK _ ?_
    refine AWp.seq ?_
    refine AWp.regK [2,3] [false,true,true] F13r40 [] (by kernel_rfl) (by rw [hC]; rfl) fun K hK => ?_
    simp (maxSteps := 2000000) [F13r40]
    refine hK _ ?_
    repeat refine AWp.seq ?_
    refine AWp.ret ⟨.inr rfl, _, by simp [Tryz.results13] <;> rfl, ?_⟩
    exact retS (.closed rfl)
   have h5 : ¬ 5 ≤ p.op := by simpa using h5
   have o1 : p.op = 1 := by omega
   rw [if_neg (by omega), if_neg (by omega)]
   have hnm : namesD p ins = [] := by unfold namesD; rw [if_neg (by omega), if_neg (by omega), if_neg (by omega), if_neg (by omega)]
   rw [hnm]
   refine AWp.skip ?_
   refine AWp.seq ?_
   refine AWp.regK [2,9] [false,false,false,false,true] F13r39 [] (by kernel_rfl) (by rw [hC]; rfl) fun K hK => ?_
   simp (maxSteps := 2000000) [F13r39]
   refine hK _ ?_
   refine AWp.seq ?_
   refine AWp.regK [2,3] [false,true,true] F13r40 [] (by kernel_rfl) (by rw [hC]; rfl) fun K hK => ?_
   simp (maxSteps := 2000000) [F13r40]
   refine hK _ ?_
   repeat refine AWp.seq ?_
   refine AWp.ret ⟨.inr rfl, _, by simp [Tryz.results13] <;> rfl, ?_⟩
   exact retS .nil
  ·skip
   refine AWp.seq ?_
   refine AWp.regK [1,2,4,9,39,87] [false,true] F13r28 [] (by kernel_rfl) (by rw [hC]; rfl) fun K hK => ?_
   simp (maxSteps := 2000000) [F13r28]
   refine hK _ ?_
   refine AWp.cond _ (by rfl) (fun q5 => ?_) (fun q5 => ?_)
   ·skip
    have q5 : p.op = 5 := by simpa using q5
    refine AWp.skip ?_
    refine hJ _ () trivial ?_
    simp [q5]
   have q5 : ¬ p.op = 5 := by simpa using q5
   refine AWp.seq ?_
   refine AWp.regK [1,2,4,9,39,87] [false,true] F13r29 [] (by kernel_rfl) (by rw [hC]; rfl) fun K hK => ?_
   simp (maxSteps := 2000000) [F13r29]
   refine hK _ ?_
   refine AWp.cond _ (by rfl) (fun q6 => ?_) (fun q6 => ?_)
   ·skip
    have q6 : p.op = 6 := by simpa using q6
    refine AWp.skip ?_
    refine hJ _ () trivial ?_
    simp [q6]
   have q6 : ¬ p.op = 6 := by simpa using q6
   refine AWp.seq ?_
   refine AWp.regK [1,2,4,9,39,87] [false,true] F13r30 [] (by kernel_rfl) (by rw [hC]; rfl) fun K hK => ?_
   simp (maxSteps := 2000000) [F13r30]
   refine hK _ ?_
   refine AWp.cond _ (by rfl) (fun q7 => ?_) (fun q7 => ?_)
   ·skip
    have q7 : p.op = 7 := by simpa using q7
    refine AWp.skip ?_
    refine hJ _ () trivial ?_
    simp [q7]
   have q7 : ¬ p.op = 7 := by simpa using q7
   refine AWp.regK [1,2,4,9,87] [false,true] F13r31 [] (by kernel_rfl) (by rw [hC]; rfl) fun K hK => ?_
   simp (maxSteps := 2000000) [F13r31]
   refine hK _ ?_
   refine hJ _ () trivial ?_
   have : decide (p.op = 8) = decide (5 ≤ p.op) := decide_eq_decide.2 (by omega)
   simp [this]
end Go.Al
