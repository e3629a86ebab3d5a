/- Closed runs: the operations on the values of closed runs. -/
import Derived.Test.YtempphkfacccoaaEvB
import Derived.Test.YtempphkfacccoaaAwQ
set_option linter.unusedSimpArgs false
set_option linter.unusedVariables false
namespace Go.Ev
open Go.Aw (AOp szOf zeroC isAggT kindsOf kindT)
variable {P : Program} {C : Ctx} {V : View} {a : Act} {w : World} {ρ ρ' : Ren} {o : Oper} {Q : Exit → Act → World → Prop}

structure Eff where
  out : EV
  upd : List (Nat × EBlk) := []
def Hv.upds (H : Hv) : List (Nat × EBlk) → Hv
  | [] => H
  | (b, k) :: r => Hv.set (Hv.upds H r) b k
theorem Hv.upds_kill (H : Hv) : ∀ al : List Nat, Hv.upds H (al.map fun b => (b, EBlk.dead)) = Hv.kill H al
  | [] => by funext x; simp [Hv.upds, Hv.kill]
  | b :: al => by
    funext x
    simp only [List.map_cons, Hv.upds, Hv.set, Hv.upds_kill H al, Hv.kill, List.contains_cons]
    by_cases e : x = b
    · simp [e]
    · simp [e]
def View.app (V : View) (d : Option Nat) (e : Eff) : View := View.putO { V with hp := Hv.upds V.hp e.upd } d e.out
def View.ev (V : View) : Operand → EV
  | .tmp t => V.tm t
  | .const v => cst v
  | .global g => .lit (.pointer (some ⟨g, 0, none⟩))
  | .func f => .clo (.func f) []
theorem SimE.ev (h : SimE C V a w ρ) (x : Operand) : Holds ρ (V.ev x) (a.eval x) := by
  cases x with
  | tmp t => exact h.tm t
  | const v => exact cst_holds ρ v
  | global g => simp only [View.ev, Act.eval, Holds]
  | func f => simp only [View.ev, Act.eval, Holds, HoldsL]; exact ⟨#[], rfl, rfl⟩
theorem SimE.evL (h : SimE C V a w ρ) (l : List Operand) : HoldsL ρ (l.map V.ev) (l.map a.eval) := by
  induction l with
  | nil => simp [HoldsL]
  | cons x l ih => simp only [List.map_cons, HoldsL]; exact ⟨_, _, rfl, h.ev x, ih⟩

/-- what an operation must do -/
def Sound (P : Program) (C : Ctx) (V : View) (a : Act) (w : World) (o : Oper) (ef : Eff) : Prop :=
  ∀ Q : Exit → Act → World → Prop, o.wp P a w (fun a' w' => Sim C (V.app o.dst ef) a' w') Q
theorem sound_value (h : SimE C V a w ρ) {v : Value} {x : EV} (hr : (execOp a.eval o).run P w = .ok (.value v) w) (hd : ∀ i, o.dst = some i → i < C.N) (hx : Holds ρ x v) : Sound P C V a w o { out := x } :=
  fun _ => Aw.wp_of_value hr ⟨ρ, h.putO hd hx⟩
theorem sound_mem (h : SimE C V a w ρ) {v : Value} {x : EV} {us : List (Nat × EBlk)} {w' : World} (hr : (execOp a.eval o).run P w = .ok (.value v) w') (hle : Ren.le ρ ρ') (hm : MemE C (Hv.upds V.hp us) w' ρ') (hd : ∀ i, o.dst = some i → i < C.N) (hx : Holds ρ' x v) :
    Sound P C V a w o { out := x, upd := us } :=
  fun _ => Aw.wp_of_value hr ⟨ρ', h.putM hle hm hd hx⟩
theorem sound_skip (h : SimE C V a w ρ) {us : List (Nat × EBlk)} {w' : World} (hr : (execOp a.eval o).run P w = .ok .skip w') (hle : Ren.le ρ ρ') (hm : MemE C (Hv.upds V.hp us) w' ρ') (hd : ∀ i, o.dst = some i → i < C.N) :
    Sound P C V a w o { out := .unk, upd := us } :=
  fun _ => Aw.wp_of_skip hr ⟨ρ', h.putM hle hm hd (by simp only [Holds])⟩

/-- move, assign -/
def eCopy : List EV → Option Eff
  | [x] => some { out := x }
  | _ => none
theorem sound_copy (h : SimE C V a w ρ) {x : Operand} (hop : o.op = .move x ∨ o.op = .assign x) (hd : ∀ i, o.dst = some i → i < C.N) : Sound P C V a w o { out := V.ev x } := by
  refine sound_value h (v := a.eval x) ?_ hd (h.ev x)
  rcases hop with e | e <;> simp [execOp, e]

/-- new memory -/
theorem sound_new (h : SimE C V a w ρ) {d : Nat} (hfr : V.hp d = none) {L : Loc} (hL : L.c = w.heap.size) {k : EBlk} {x : EV} {v : Value} {ob : Obj} (hr : (execOp a.eval o).run P w = .ok (.value v) (w.alloc ob))
    (hk : BlkAt (Ren.set ρ d L) (w.alloc ob) L k) (hx : Holds (Ren.set ρ d L) x v) (hd : ∀ i, o.dst = some i → i < C.N) : Sound P C V a w o { out := x, upd := [(d, k)] } :=
  sound_mem h hr (Ren.le_set (h.mem.dom d hfr)) (h.mem.new hfr (Aw.Ext.alloc w ob) hL hk) hd hx

theorem rowCell_one {l : List EV} {i k : Nat} {x : EV} (h : rowCell [l] i k = some x) : i = 0 ∧ l[k]? = some x := by
  simp only [rowCell] at h
  cases i with
  | zero => simpa using h
  | succ i => simp at h
theorem rowCell_some {rows : List (List EV)} {i k : Nat} {x : EV} (h : rowCell rows i k = some x) : ∃ r, rows[i]? = some r ∧ r[k]? = some x := by
  simp only [rowCell] at h
  cases hi : rows[i]? with
  | none => rw [hi] at h; simp at h
  | some r => rw [hi] at h; exact ⟨r, rfl, by simpa using h⟩

/-- a row of its own -/
theorem blk_row {L : Loc} {l : List EV} {vs : List Value} {e : TypeId} (hl : HoldsL ρ l vs) (h1 : ∀ u ∈ vs, u.oneCell' = true) (hne : l ≠ []) (hc : L = ⟨L.c, 0, l.length, l.length⟩) (hw : w.heap[L.c]? = some (.cells vs.toArray e (0, 0))) :
    BlkAt ρ w L (.cells e l.length false [] [l]) := by
  refine ⟨vs.toArray, hw, ?_, ?_, List.length_pos_iff.2 hne, by simp, fun i k x hx => ?_⟩
  · rw [hc]; simp [hl.len]
  · rw [hc]
  · obtain ⟨rfl, hk⟩ := rowCell_one hx
    obtain ⟨v, hv, hh⟩ := hl.get k x hk
    refine ⟨v, ?_, h1 v (List.mem_of_getElem? hv), hh⟩
    rw [hc]; simpa using hv

def eBox (d : Nat) (e : TypeId) : List EV → Option Eff
  | [x] => match cellsE x with
    | some (y :: l) => some { out := .ptr d 0 0, upd := [(d, .cells e (l.length + 1) false [] [y :: l])] }
    | _ => none
  | _ => none
theorem sound_box (h : SimE C V a w ρ) {e : TypeId} {x : Operand} (hop : o.op = .box e x) {d : Nat} (hfr : V.hp d = none) {ef : Eff} (he : eBox d e [V.ev x] = some ef) (hd : ∀ i, o.dst = some i → i < C.N) : Sound P C V a w o ef := by
  simp only [eBox] at he
  split at he
  · rename_i y l hc
    cases he
    obtain ⟨h1, h2⟩ := cellsE_holds (h.ev x) hc
    have hr := h.mem.dom d hfr
    let L : Loc := ⟨w.heap.size, 0, l.length + 1, l.length + 1⟩
    refine sound_new h hfr (L := L) rfl (ob := .cells (a.eval x).cells e) (v := .pointer (some ⟨w.heap.size, 0, none⟩)) ?_ ?_ ?_ hd
    · simp [execOp, hop, Instr.box, newVar, newRow]
    · exact blk_row (l := y :: l) (h1.mono (Ren.le_set hr) _ _) h2 (by simp) rfl (by rw [Array.toArray_toList]; exact heap_alloc_new w _)
    · simp only [Holds]; exact ⟨L, Ren.set_self, by simp [L]⟩
  · cases he

def eAlloc (d : Nat) (e : TypeId) (zero : List Value) : Option Eff :=
  if zero.all Value.oneCell' = true then (match zero with
    | [] => none
    | z :: zs => some { out := .ptr d 0 0, upd := [(d, .cells e (zs.length + 1) false [] [(z :: zs).map cst1])] }) else none
theorem sound_alloc (h : SimE C V a w ρ) {e : TypeId} {z : List Value} (hop : o.op = .alloc e) (hz : zeroC P e = some z) {d : Nat} (hfr : V.hp d = none) {ef : Eff} (he : eAlloc d e z = some ef) (hd : ∀ i, o.dst = some i → i < C.N) : Sound P C V a w o ef := by
  obtain ⟨i, zv, hi, hzz, rfl⟩ := Aw.zeroC_some hz
  simp only [eAlloc] at he
  split at he
  · rename_i hone
    split at he
    · cases he
    · rename_i z zs heq
      cases he
      have hr := h.mem.dom d hfr
      let L : Loc := ⟨w.heap.size, 0, zs.length + 1, zs.length + 1⟩
      refine sound_new h hfr (L := L) rfl (ob := .cells zv.cells e) (v := .pointer (some ⟨w.heap.size, 0, none⟩)) ?_ ?_ ?_ hd
      · simp [execOp, hop, Instr.alloc, Aw.run_zeroValue hi hzz, newVar, newRow]
      · have := blk_row (ρ := Ren.set ρ d L) (w := w.alloc (.cells zv.cells e)) (L := L) (e := e) (l := (z :: zs).map cst1) (vs := zv.cells.toList) (by rw [heq]; exact cst1_holdsL _ _) (fun u hu => List.all_eq_true.1 hone u hu) (by simp) (by simp [L]) (by rw [Array.toArray_toList]; exact heap_alloc_new w _)
        simpa using this
      · simp only [Holds]; exact ⟨L, Ren.set_self, by simp [L]⟩
  · cases he

def eMkmap (d : Nat) : List EV → Option Eff
  | [] => some { out := .mp d, upd := [(d, .map [] [])] }
  | [.int _ _] => some { out := .mp d, upd := [(d, .map [] [])] }
  | _ => none
theorem sound_mkmap (h : SimE C V a w ρ) {t : TypeId} {r : Option Operand} (hop : o.op = .makeMap t r) {kt e : TypeId} (ht : P.underlying t = some (.map kt e)) {d : Nat} (hfr : V.hp d = none) {ef : Eff}
    (he : eMkmap d (r.toList.map V.ev) = some ef) (hd : ∀ i, o.dst = some i → i < C.N) : Sound P C V a w o ef := by
  have hr : (execOp a.eval o).run P w = .ok (.value (.map (some w.heap.size))) (w.alloc (.map #[] 0)) ∧ ef = { out := .mp d, upd := [(d, .map [] [])] } := by
    cases r with
    | none => exact ⟨by simp [execOp, hop, Instr.makeMap], by simpa [eMkmap] using he.symm⟩
    | some x =>
      have hx := h.ev x
      simp only [Option.toList_some, List.map_cons, List.map_nil] at he
      cases hvx : V.ev x with
      | int k n =>
        rw [hvx] at he hx
        simp only [Holds] at hx
        refine ⟨?_, by simpa [eMkmap] using he.symm⟩
        simp [execOp, hop, Instr.makeMap, hx, run_underlying ht, asInt, asIntOf]
      | _ => rw [hvx] at he; simp [eMkmap] at he
  obtain ⟨hr, rfl⟩ := hr
  let L : Loc := ⟨w.heap.size, 0, 0, 0⟩
  refine sound_new h hfr (L := L) rfl hr ?_ ?_ hd
  · exact ⟨#[], 0, heap_alloc_new w _, by simp [HoldsL], by simp [HoldsL], by simp, by simp⟩
  · simp only [Holds]; exact ⟨L, Ren.set_self, rfl⟩

def eMksl (d : Nat) (e : TypeId) (wd bytes : Nat) (zero : List Value) : List EV → Option Eff
  | [.int .i64 (.ofNat l), .int .i64 (.ofNat c)] => if (0 < wd ∧ zero.length = wd ∧ zero.all Value.oneCell' = true) ∧ l ≤ c ∧ c * bytes ≤ 140737488355328 ∧ c ≤ 4611686018427387904 then
      some { out := .sl d wd 0 l c true, upd := [(d, .cells e wd false [] (List.replicate c (zero.map cst1)))] } else none
  | _ => none
theorem flat_row {z : List Value} {wd c : Nat} (hz : z.length = wd) (hw : 0 < wd) {i k : Nat} (hi : i < c) (hk : k < wd) : ((List.replicate c z).flatten)[i * wd + k]? = z[k]? := by
  induction c generalizing i with
  | zero => omega
  | succ c ih =>
    rw [List.replicate_succ, List.flatten_cons]
    cases i with
    | zero => rw [Nat.zero_mul, Nat.zero_add, List.getElem?_append_left (by omega)]
    | succ i =>
      rw [List.getElem?_append_right (by rw [Nat.add_mul]; omega), hz, show (i + 1) * wd + k - wd = i * wd + k from by rw [Nat.add_mul]; omega]
      exact ih (by omega)
theorem flat_len {z : List Value} {c : Nat} : ((List.replicate c z).flatten).length = c * z.length := by simp
theorem sound_mksl (h : SimE C V a w ρ) {t : TypeId} {x y : Operand} (hop : o.op = .makeSlice t x y) {e : TypeId} {i : TypeInfo} {z : Value} (ht : P.underlying t = some (.slice e)) (hi : P.info? e = some i) (hz : i.zero = some z)
    {d : Nat} (hfr : V.hp d = none) {ef : Eff} (he : eMksl d e i.size i.bytes z.cells.toList [V.ev x, V.ev y] = some ef) (hd : ∀ i, o.dst = some i → i < C.N) : Sound P C V a w o ef := by
  have hx := h.ev x
  have hy := h.ev y
  unfold eMksl at he
  split at he
  · rename_i l c heq
    simp only [List.cons.injEq, and_true] at heq
    rw [heq.1] at hx
    rw [heq.2] at hy
    simp only [Holds] at hx hy
    split at he
    · rename_i hc
      obtain ⟨⟨hw0, hzl, hone⟩, hlc, hb, h63⟩ := hc
      cases he
      have key : ∀ (l c : Int), a.eval x = .int .i64 l → a.eval y = .int .i64 c → 0 ≤ l → l ≤ c → c * i.bytes ≤ 140737488355328 → c ≤ 4611686018427387904 →
          (execOp a.eval o).run P w = .ok (.value (.slice (some ⟨w.heap.size, 0, none⟩) l.toNat c.toNat)) (w.alloc (.cells ((Array.range (c.toNat * i.size)).map (fun j => z.cells[j % z.cells.size]!)) e)) := by
        intro l c hx hy h0 hlc hb h63
        have hwl : IntKind.i64.wrap l = l := IntWalk.i64_in l (by omega)
        have hwc : IntKind.i64.wrap c = c := IntWalk.i64_in c (by omega)
        have hc1 : ¬ c < 0 := by omega
        have hc2 : ¬ (281474976710656 < (i.bytes : Int) * c) := by rw [Int.mul_comm]; omega
        have hl1 : ¬ l < 0 := by omega
        have hl2 : ¬ c < l := by omega
        by_cases hn : c.toNat * i.size = 0
        · have hc0 : c.toNat = 0 := by
            rcases Nat.mul_eq_zero.1 hn with h | h
            · exact h
            · omega
          simp [execOp, hop, Instr.makeSlice, hx, hy, run_underlying ht, typeInfo, hi, asInt, asIntOf, hwl, hwc, hc1, hc2, hl1, hl2, sizeOf, newRow, hc0, Aw.arange0]
        · simp [execOp, hop, Instr.makeSlice, hx, hy, run_underlying ht, typeInfo, hi, asInt, asIntOf, hwl, hwc, hc1, hc2, hl1, hl2, sizeOf, newRow, hn, Aw.run_zeroValue hi hz]
      have hrun := key (Int.ofNat l) (Int.ofNat c) hx hy (Int.natCast_nonneg l) (by simp only [Int.ofNat_eq_natCast]; omega) (by simp only [Int.ofNat_eq_natCast]; omega) (by simp only [Int.ofNat_eq_natCast]; omega)
      have hzs : z.cells.size = i.size := by simpa using hzl
      let L : Loc := ⟨w.heap.size, 0, i.size, c * i.size⟩
      have hflat : ((Array.range (c * i.size)).map (fun j => z.cells[j % z.cells.size]!)).toList = (List.replicate c z.cells.toList).flatten := by rw [← hzs]; exact Aw.range_zero_flatten z.cells c
      refine sound_new h hfr (L := L) rfl (ob := .cells ((Array.range (c * i.size)).map (fun j => z.cells[j % z.cells.size]!)) e) (v := .slice (some ⟨w.heap.size, 0, none⟩) l c) ?_ ?_ ?_ hd
      · exact hrun
      · refine ⟨_, heap_alloc_new w _, by simp [L], rfl, hw0, fun r hr => ?_, fun i' k x hx' => ?_⟩
        · have := List.eq_of_mem_replicate hr
          subst this; simpa using hzl
        · obtain ⟨r, hr, hk⟩ := rowCell_some hx'
          have hri := List.eq_of_mem_replicate (List.mem_of_getElem? hr)
          subst hri
          have hi' : i' < c := by have := (List.getElem?_eq_some_iff.1 hr).1; simpa using this
          obtain ⟨v, hv, hh⟩ := (cst1_holdsL (Ren.set ρ d L) z.cells.toList).get k x hk
          have hkl : k < i.size := by have := (List.getElem?_eq_some_iff.1 hv).1; omega
          refine ⟨v, ?_, List.all_eq_true.1 hone v (List.mem_of_getElem? hv), hh⟩
          rw [← Array.getElem?_toList, hflat]
          simp only [L, Nat.zero_add]
          rw [flat_row hzl hw0 hi' hkl]; exact hv
      · simp only [Holds]
        exact ⟨L, c, _, Ren.set_self, rfl, rfl, fun _ => by simp [L], hlc, Nat.le_refl _, fun _ => rfl, by simp [L], by simp only [maxLen]; omega⟩
    · cases he
  · cases he

def pickE (n off : Nat) (ag : Bool) (l : List EV) : Option EV :=
  if ag then (if off + n ≤ l.length then some (.agg ((l.drop off).take n)) else none) else l[off]?
def eLoad (n : Nat) (ag : Bool) (g : Hv) : List EV → Option Eff
  | [.ptr b i k] => match g b with
    | some (.cells _ _ _ _ rows) => match rows[i]? with
      | some r => match pickE n k ag r with
        | some y => some { out := y }
        | none => none
      | none => none
    | _ => none
  | _ => none

/-- a row, as it lies in memory -/
theorem BlkAt.row {L : Loc} {e : TypeId} {wd : Nat} {ro : Bool} {al : List Nat} {rows : List (List EV)} (h : BlkAt ρ w L (.cells e wd ro al rows)) {i : Nat} {r : List EV} (hi : rows[i]? = some r) :
    ∃ vs, HoldsL ρ r vs ∧ Aw.CellsAt w L.c (L.base + i * wd) vs ∧ vs.length = wd ∧ r.length = wd := by
  obtain ⟨cur, h1, h2, h3, h0, h5, h6⟩ := h
  have hr := h5 r (List.mem_of_getElem? hi)
  have key : ∀ (l : List EV) (j : Nat), (∀ k x, l[k]? = some x → ∃ v, cur[L.base + i * wd + (j + k)]? = some v ∧ Holds ρ x v) → ∃ vs, HoldsL ρ l vs ∧ ∀ k v, vs[k]? = some v → cur[L.base + i * wd + (j + k)]? = some v := by
    intro l
    induction l with
    | nil => intro j _; exact ⟨[], by simp [HoldsL], by simp⟩
    | cons x l ih =>
      intro j hk
      obtain ⟨v, hv, hh⟩ := hk 0 x (by simp)
      obtain ⟨vs, a1, a2⟩ := ih (j + 1) (fun k y hy => by have := hk (k + 1) y (by simpa using hy); rwa [show j + (k + 1) = j + 1 + k from by omega] at this)
      refine ⟨v :: vs, by simp only [HoldsL]; exact ⟨v, vs, rfl, hh, a1⟩, fun k u hu => ?_⟩
      cases k with
      | zero => simp at hu; subst hu; exact hv
      | succ k => simp at hu; have := a2 k u hu; rwa [show j + 1 + k = j + (k + 1) from by omega] at this
  obtain ⟨vs, a1, a2⟩ := key r 0 (fun k x hx => by
    obtain ⟨v, hv, _, hh⟩ := h6 i k x (by simp [rowCell, hi, hx])
    exact ⟨v, by simpa using hv, hh⟩)
  refine ⟨vs, a1, fun k v hv => ?_, by rw [a1.len, hr], hr⟩
  have := a2 k v hv
  simp only [World.cell?, h1, Option.isSome_none, Bool.false_eq_true, if_false]
  simpa using this

theorem run_loadVar_at {t : TypeId} {ag : Bool} {n : Nat} (hag : isAggT P t = some ag) (hn : szOf P t = some n) {c o off : Nat} {vs : List Value} (hc : Aw.CellsAt w c o vs) {l : List EV} (hl : HoldsL ρ l vs)
    {y : EV} (hy : pickE n off ag l = some y) : ∃ v, (loadVar t ⟨c, o + off, none⟩).run P w = .ok v w ∧ Holds ρ y v := by
  simp only [pickE] at hy
  cases ag with
  | true =>
    simp only [if_true] at hy
    split at hy
    · rename_i hlt
      cases hy
      have hlen := hl.len
      have hsl := (hl.drop off).take n
      have hn' : ((vs.drop off).take n).length = n := by simp; omega
      have hrun := run_loadCells_list (P := P) w ⟨c, o + off, none⟩ ((vs.drop off).take n) (fun j v hj => by
        rw [Aw.addr_add]
        have : (vs.drop off)[j]? = some v := by
          rw [List.getElem?_take] at hj
          split at hj
          · exact hj
          · cases hj
        rw [List.getElem?_drop] at this
        have := hc (off + j) v this
        rwa [← Nat.add_assoc] at this)
      rw [hn'] at hrun
      refine ⟨.agg ((vs.drop off).take n).toArray, ?_, ?_⟩
      · simp [loadVar, Aw.isAgg_run hag, Aw.szOf_run hn, hrun]
      · simp only [Holds]; exact ⟨_, rfl, by simpa using hsl⟩
    · cases hy
  | false =>
    simp only [Bool.false_eq_true, if_false] at hy
    obtain ⟨v, hv, hh⟩ := hl.get off y hy
    refine ⟨v, ?_, hh⟩
    simp [loadVar, Aw.isAgg_run hag, hc off v hv]

theorem sound_load (h : SimE C V a w ρ) {t : TypeId} {x : Operand} (hop : o.op = .load t x) {ag : Bool} {n : Nat} (hag : isAggT P t = some ag) (hn : szOf P t = some n) {ef : Eff} (he : eLoad n ag V.hp [V.ev x] = some ef)
    (hd : ∀ i, o.dst = some i → i < C.N) : Sound P C V a w o ef := by
  have hx := h.ev x
  unfold eLoad at he
  split at he
  · rename_i b i k heq
    simp only [List.cons.injEq, and_true] at heq
    rw [heq] at hx
    simp only [Holds] at hx
    obtain ⟨L, hρ, hv⟩ := hx
    split at he
    · rename_i e wd ro al rows hb
      split at he
      · rename_i r hr
        split at he
        · rename_i y hy
          cases he
          obtain ⟨L', hL', _, hB⟩ := h.mem.live hb (by simp)
          rw [hρ] at hL'; cases hL'
          have hLw : L.w = wd := by obtain ⟨_, _, _, h3, _⟩ := hB; exact h3
          obtain ⟨vs, hvs, hca, _⟩ := hB.row hr
          obtain ⟨v, hrun, hh⟩ := run_loadVar_at (P := P) hag hn hca hvs hy
          refine sound_value h ?_ hd hh
          rw [← hLw] at hrun
          simp [execOp, hop, Instr.loadAt, Instr.sureAddr, hv, hrun]
        · cases he
      · cases he
    · cases he
  · cases he

def eStore (n : Nat) (g : Hv) : List EV → Option Eff
  | [.ptr b i k, v] => match g b with
    | some (.cells e wd false al rows) => match rows[i]?, cellsE v with
      | some r, some ns => if ns.length = n ∧ k + n ≤ wd then
          some { out := .unk, upd := (b, .cells e wd false [] (rows.set i (r.take k ++ ns ++ r.drop (k + n)))) :: al.map fun b => (b, EBlk.dead) } else none
      | _, _ => none
    | _ => none
  | _ => none
theorem Wr.setRow {c : Nat} {cs : Array Value} : Wr w (w.setRow c cs) c := ⟨rfl, rfl, rfl, Aw.setRow_size _ _ _, fun k hk => setRow_other w c k _ hk⟩
theorem sound_store (h : SimE C V a w ρ) {t : TypeId} {x v' : Operand} (hop : o.op = .store t x v') {n : Nat} (hn : szOf P t = some n) {ef : Eff} (he : eStore n V.hp [V.ev x, V.ev v'] = some ef)
    (hd : ∀ i, o.dst = some i → i < C.N) : Sound P C V a w o ef := by
  have hx := h.ev x
  have hv := h.ev v'
  unfold eStore at he
  split at he
  · rename_i b i k vv heq
    simp only [List.cons.injEq, and_true] at heq
    obtain ⟨e1, e2⟩ := heq
    rw [e1] at hx
    simp only [Holds] at hx
    obtain ⟨L, hρ, hxv⟩ := hx
    split at he
    · rename_i e wd al rows hb
      split at he
      · rename_i r ns hr hns
        split at he
        · rename_i hlen
          obtain ⟨hnl, hkn⟩ := hlen
          cases he
          obtain ⟨L', hL', _, hB⟩ := h.mem.live hb (by simp)
          rw [hρ] at hL'; cases hL'
          have hB0 := hB
          obtain ⟨cur, hcur, hsz, hLw, hw0, hrl, hcell⟩ := hB
          rw [← e2] at hns
          obtain ⟨hc1, hc2⟩ := cellsE_holds hv hns
          have hvn : (a.eval v').cells.size = n := by have := hc1.len; simp at this; omega
          have hil := (List.getElem?_eq_some_iff.1 hr).1
          have hrw := hrl r (List.mem_of_getElem? hr)
          -- the last cell of the row is there
          have hend : L.base + i * wd + wd ≤ cur.size := by
            have hlast : rowCell rows i (wd - 1) = some (r[wd - 1]'(by omega)) := by simp [rowCell, hr, List.getElem?_eq_getElem (show wd - 1 < r.length from by omega)]
            obtain ⟨u, hu, _, _⟩ := hcell i (wd - 1) _ hlast
            have := (Array.getElem?_eq_some_iff.1 hu).1
            omega
          let off := L.base + i * wd + k
          have hoff : off + n ≤ cur.size := by simp only [off]; omega
          have hrun := Aw.storeVar_run (P := P) (t := t) hn hcur (off := off) hvn hoff hc2
          have hset := setRow_heap w L.c cur (cur.toList.take off ++ (a.eval v').cells.toList ++ cur.toList.drop (off + n)).toArray e (0, 0) hcur
          have hm := h.mem.write (k' := .cells e wd false [] (rows.set i (r.take k ++ ns ++ r.drop (k + n)))) hb (by simp) rfl hρ (w' := w.setRow L.c (cur.toList.take off ++ (a.eval v').cells.toList ++ cur.toList.drop (off + n)).toArray) Wr.setRow ?_
          · refine sound_skip h ?_ (Ren.le_refl _) (us := (b, .cells e wd false [] (rows.set i (r.take k ++ ns ++ r.drop (k + n)))) :: al.map fun b => (b, EBlk.dead)) ?_ hd (w' := w.setRow L.c (cur.toList.take off ++ (a.eval v').cells.toList ++ cur.toList.drop (off + n)).toArray)
            · have : L.base + i * L.w + k = off := by simp only [off, hLw]
              simp [execOp, hop, Instr.storeAt, Instr.sureAddr, hxv, this, hrun]
            · simp only [Hv.upds, Hv.upds_kill]; exact hm
          · refine ⟨_, hset, ?_, hLw, hw0, fun q hq => ?_, fun i' k' y hy => ?_⟩
            · rw [← hsz]; simp; omega
            · rcases List.mem_or_eq_of_mem_set hq with hq | hq
              · exact hrl q hq
              · subst hq; simp; omega
            · obtain ⟨q, hq, hqk⟩ := rowCell_some hy
              rw [List.getElem?_set] at hq
              have hnew : ∀ j, (cur.toList.take off ++ (a.eval v').cells.toList ++ cur.toList.drop (off + n))[j]? = if j < off then cur[j]? else if j < off + n then (a.eval v').cells[j - off]? else cur[j]? := by
                intro j
                by_cases k1 : j < off
                · rw [if_pos k1, List.append_assoc, List.getElem?_append_left (by simp; omega), List.getElem?_take, if_pos k1, Array.getElem?_toList]
                · rw [if_neg k1]
                  by_cases k2 : j < off + n
                  · rw [if_pos k2, List.append_assoc, List.getElem?_append_right (by simp; omega), List.getElem?_append_left (by simp; omega)]
                    have hmin : min off cur.size = off := by omega
                    simp [hmin]
                  · rw [if_neg k2, List.getElem?_append_right (by simp; omega), List.getElem?_drop]
                    have hmin : min off cur.size = off := by omega
                    simp only [List.length_append, List.length_take, Array.length_toList, hmin, hvn, Array.getElem?_toList]
                    congr 1; omega
              simp only [List.getElem?_toArray, hnew]
              by_cases hii : i = i'
              · subst hii
                rw [if_pos rfl] at hq
                simp only [hil, if_true, Option.some.injEq] at hq
                subst hq
                by_cases k1 : k' < k
                · rw [List.append_assoc, List.getElem?_append_left (by simp; omega), List.getElem?_take, if_pos k1] at hqk
                  rw [if_pos (by simp only [off]; omega)]
                  exact hcell i k' y (by simp [rowCell, hr, hqk])
                · by_cases k2 : k' < k + n
                  · rw [List.append_assoc, List.getElem?_append_right (by simp; omega), List.getElem?_append_left (by simp; omega)] at hqk
                    have hmin : min k r.length = k := by omega
                    simp only [List.length_take, hmin] at hqk
                    rw [if_neg (by simp only [off]; omega), if_pos (by simp only [off]; omega)]
                    obtain ⟨u, hu, hh⟩ := hc1.get _ y hqk
                    refine ⟨u, ?_, hc2 u (List.mem_of_getElem? hu), hh⟩
                    rw [show L.base + i * wd + k' - off = k' - k from by simp only [off]; omega]
                    simpa using hu
                  · rw [List.getElem?_append_right (by simp; omega)] at hqk
                    have hmin : min k r.length = k := by omega
                    simp only [List.length_append, List.length_take, hmin, hnl, List.getElem?_drop] at hqk
                    rw [if_neg (by simp only [off]; omega), if_neg (by simp only [off]; omega)]
                    exact hcell i k' y (by simp only [rowCell, hr, Option.bind_some]; rw [← hqk]; congr 1; omega)
              · rw [if_neg hii] at hq
                obtain ⟨u, hu, ho, hh⟩ := hcell i' k' y (by simp [rowCell, hq, hqk])
                refine ⟨u, ?_, ho, hh⟩
                have hk' : k' < wd := by have := hrl q (List.mem_of_getElem? hq); have := (List.getElem?_eq_some_iff.1 hqk).1; omega
                by_cases hlt : i' < i
                · rw [if_pos]
                  · exact hu
                  · have := Nat.mul_le_mul_right wd (show i' + 1 ≤ i from hlt)
                    rw [Nat.add_mul, Nat.one_mul] at this
                    simp only [off]; omega
                · have hgt : i + 1 ≤ i' := by omega
                  have := Nat.mul_le_mul_right wd hgt
                  rw [Nat.add_mul, Nat.one_mul] at this
                  rw [if_neg (by simp only [off]; omega), if_neg (by simp only [off]; omega)]
                  exact hu
        · cases he
      · cases he
    · cases he
  · cases he
end Go.Ev
