/- Operations that make memory, read it, write it. -/
import Derived.Test.YtlkilbfegcplmaaAwF
import Derived.IntWalk
set_option linter.unusedSimpArgs false
set_option linter.unusedVariables false
namespace Go.Aw
variable {P : Program} {C : Ctx} {V : View} {a : Act} {w : World} {fz : Fz} {ρ : Ren} {o : Oper} {Q : Exit → Act → World → Prop}

theorem Holds.one {x : AV} {v : Value} (h : Holds fz x ρ v) (ho : oneA x = true) : v.oneCell' = true := by
  cases x <;> simp only [oneA, Bool.false_eq_true] at ho <;> simp only [Holds] at h
  · subst h; exact ho
  · obtain ⟨a, c, rfl, _⟩ := h; rfl
  · obtain ⟨a, rfl, _⟩ := h; rfl
  · obtain ⟨a, c, rfl, _⟩ := h; rfl
  · obtain ⟨b, o, rfl, _⟩ := h; rfl
  · obtain ⟨c, _, rfl⟩ := h; rfl
  · obtain ⟨c, _, rfl⟩ := h; rfl
  · obtain ⟨c, _, rfl⟩ := h; rfl
  · rcases h with ⟨rfl, _⟩ | ⟨c, es, clock, rfl, _⟩ <;> rfl
  · rcases h with ⟨rfl, _⟩ | ⟨c, es, clock, rfl, _⟩ <;> rfl
  · obtain ⟨c, rfl, _⟩ := h; rfl
  · obtain ⟨c, rfl, _⟩ := h; rfl
theorem cells_of_one {v : Value} (h : v.oneCell' = true) : v.cells = #[v] := by
  cases v <;> simp_all [Value.oneCell', Value.cells]
theorem HoldsL.one {l : List AV} {vs : List Value} (h : HoldsL fz l ρ vs) (ho : l.all oneA = true) : ∀ u ∈ vs, u.oneCell' = true := by
  induction l generalizing vs with
  | nil => simp only [HoldsL] at h; subst h; simp
  | cons x l ih =>
    simp only [HoldsL] at h; obtain ⟨v, r, rfl, h1, h2⟩ := h
    simp only [List.all_cons, Bool.and_eq_true] at ho
    intro u hu
    cases List.mem_cons.1 hu with
    | inl e => subst e; exact h1.one ho.1
    | inr e => exact ih h2 ho.2 u e
theorem cellsOf_holds {x : AV} {v : Value} {l : List AV} (h : Holds fz x ρ v) (hc : cellsOf x = some l) : HoldsL fz l ρ v.cells.toList ∧ ∀ u ∈ v.cells.toList, u.oneCell' = true := by
  have plain : ∀ y : AV, Holds fz y ρ v → oneA y = true → HoldsL fz [y] ρ v.cells.toList ∧ ∀ u ∈ v.cells.toList, u.oneCell' = true := by
    intro y hy ho
    have h1 := hy.one ho
    rw [cells_of_one h1]
    refine ⟨by simp only [HoldsL]; exact ⟨v, [], rfl, hy, rfl⟩, by simpa using h1⟩
  unfold cellsOf at hc
  split at hc
  · rename_i l0
    split at hc
    · rename_i hall
      cases hc
      simp only [Holds] at h
      obtain ⟨cs, rfl, h⟩ := h
      exact ⟨h, h.one hall⟩
    · cases hc
  · rename_i cs
    split at hc
    · rename_i hall
      cases hc
      simp only [Holds] at h
      subst h
      exact ⟨HoldsL.vals _, fun u hu => List.all_eq_true.1 hall u hu⟩
    · cases hc
  · split at hc
    · rename_i ho
      cases hc
      exact plain _ h ho
    · cases hc

theorem own_map_dem (cs : List AV) (j : Nat) : isOwn ((cs.map Aw.dem).getD j .unk) = false := by
  rw [List.getD_eq_getElem?_getD, List.getElem?_map]
  cases cs[j]? with
  | none => rfl
  | some x => exact isOwn_dem x
theorem own_map_val (cs : List Value) (j : Nat) : isOwn ((cs.map AV.val).getD j .unk) = false := by
  rw [List.getD_eq_getElem?_getD, List.getElem?_map]
  cases cs[j]? <;> rfl

theorem touched_self {d : Nat} {us : List Nat} {ao : AOp} {vals : List AV} (h : d ∈ touched us (some d) ao vals) : V.filt (touched us (some d) ao vals) d = V.hp d := by
  simp [View.filt, h]
theorem filt_some {l : List Nat} {b : Nat} {k : Blk} (h : V.filt l b = some k) : V.hp b = some k := by
  simp only [View.filt] at h
  split at h
  · exact h
  · cases h

/-- a new block, at its slot -/
theorem sound_new (h : SimE C V a w fz ρ) {g : Nat → Option Blk} {out : Nat → AV} {k : Blk} {ob : Prop} {ef : Eff} (hg : ∀ d, o.dst = some d → g d = V.hp d) (he : aNew o.dst g out k ob = some ef) (hd : ∀ i, o.dst = some i → i < C.N)
    {ob' : Obj} {v : Value} (hr : (execOp a.eval o).run P w = .ok (.value v) (w.alloc ob')) (hk : BlkAt fz ρ (w.alloc ob') w.heap.size k) (hown : ∀ j, isOwn (k.at j) = false)
    (hv : ∀ d, Holds fz (out d) (Ren.set ρ d w.heap.size) v) (hno : ∀ d, isOwn (out d) = false) : Sound P C V a w o ef := by
  intro Q
  simp only [aNew] at he
  cases hdst : o.dst with
  | none => rw [hdst] at he; simp at he
  | some d =>
    rw [hdst] at he
    simp only at he
    rw [hg d hdst] at he
    cases hh : V.hp d with
    | some k' => rw [hh] at he; simp at he
    | none =>
      rw [hh] at he
      simp only [Option.some.injEq] at he
      subst he
      refine wp_of_value hr ⟨fz, Ren.set ρ d w.heap.size, ?_⟩
      have h1 := h.newBlk (h.hi d (.inl (hd d hdst))) hh (Ext.alloc w ob') hk hown
      rw [hdst]
      exact h1.put (hd d hdst) (hv d) (hno d)

theorem run_zeroValue {e : TypeId} {i : TypeInfo} {z : Value} (hi : P.info? e = some i) (hz : i.zero = some z) (w : World) : (zeroValue e).run P w = .ok z w := by
  simp [zeroValue, typeInfo, hi, hz]

theorem zeroC_some {e : TypeId} {z : List Value} (h : zeroC P e = some z) : ∃ i zv, P.info? e = some i ∧ i.zero = some zv ∧ zv.cells.toList = z := by
  simp only [zeroC] at h
  cases hi : P.info? e with
  | none => simp [hi] at h
  | some i =>
    simp only [hi, Option.bind_some] at h
    cases hz : i.zero with
    | none => simp [hz] at h
    | some zv => simp [hz] at h; exact ⟨i, zv, rfl, hz, by simpa using h⟩

theorem sound_alloc (h : SimE C V a w fz ρ) {e : TypeId} {z : List Value} (hop : o.op = .alloc e) (hz : zeroC P e = some z) {g : Nat → Option Blk} {ef : Eff} (hg : ∀ d, o.dst = some d → g d = V.hp d)
    (hone : z.all Value.oneCell' = true) (he : aNew o.dst g (fun d => .ptr d 0) (.cells e (z.map .val)) True = some ef) (hd : ∀ i, o.dst = some i → i < C.N) : Sound P C V a w o ef := by
  obtain ⟨i, zv, hi, hzz, rfl⟩ := zeroC_some hz
  refine sound_new h (ob' := .cells zv.cells e) (v := .pointer (some ⟨w.heap.size, 0, none⟩)) hg he hd ?_ ?_ (own_map_val _) (fun d => ?_) (fun _ => rfl)
  · simp [execOp, hop, Instr.alloc, run_zeroValue hi hzz, newVar, newRow]
  · exact ⟨zv.cells, heap_alloc_new w _, HoldsL.vals _, fun u hu => List.all_eq_true.1 hone u hu⟩
  · simp only [Holds]; exact ⟨w.heap.size, by simp [Ren.set], rfl⟩

theorem sound_box (h : SimE C V a w fz ρ) {e : TypeId} {x : Operand} (hop : o.op = .box e x) {g : Nat → Option Blk} {ef : Eff} (hg : ∀ d, o.dst = some d → g d = V.hp d)
    (he : aBox o.dst e g [V.ev x] = some ef) (hd : ∀ i, o.dst = some i → i < C.N) : Sound P C V a w o ef := by
  simp only [aBox] at he
  cases hc : cellsOf (V.ev x) with
  | none => rw [hc] at he; simp at he
  | some cs =>
    rw [hc] at he
    simp only at he
    obtain ⟨h1, h2⟩ := cellsOf_holds (h.ev x) hc
    refine sound_new h (ob' := .cells (a.eval x).cells e) (v := .pointer (some ⟨w.heap.size, 0, none⟩)) hg he hd ?_ ?_ (own_map_dem _) (fun d => ?_) (fun _ => rfl)
    · simp [execOp, hop, Instr.box, newVar, newRow]
    · exact ⟨_, heap_alloc_new w _, h1.dem, h2⟩
    · simp only [Holds]; exact ⟨w.heap.size, by simp [Ren.set], rfl⟩

theorem sound_mkmap (h : SimE C V a w fz ρ) {t : TypeId} {r : Option Operand} (hop : o.op = .makeMap t r) {kt e : TypeId} (ht : P.underlying t = some (.map kt e)) {g : Nat → Option Blk} {ef : Eff} (hg : ∀ d, o.dst = some d → g d = V.hp d)
    (he : aMkmap o.dst g (r.toList.map V.ev) = some ef) (hd : ∀ i, o.dst = some i → i < C.N) : Sound P C V a w o ef := by
  have hr : (execOp a.eval o).run P w = .ok (.value (.map (some w.heap.size))) (w.alloc (.map #[] 0)) ∧ aNew o.dst g (fun d => .mapr d) (.map [] []) True = some ef := by
    cases r with
    | none => exact ⟨by simp [execOp, hop, Instr.makeMap], by simpa [aMkmap] using he⟩
    | some x =>
      have hx := h.ev x
      simp only [Option.toList_some, List.map_cons, List.map_nil] at he
      cases hvx : V.ev x with
      | val v =>
        rw [hvx] at he hx
        simp only [Holds] at hx
        cases v with
        | int k n =>
          refine ⟨?_, by simpa [aMkmap] using he⟩
          simp [execOp, hop, Instr.makeMap, hx, run_underlying ht, asInt, asIntOf]
        | _ => simp [aMkmap] at he
      | _ => rw [hvx] at he; simp [aMkmap] at he
  refine sound_new h (ob' := .map #[] 0) (v := .map (some w.heap.size)) hg hr.2 hd hr.1 ?_ (fun j => by simp [Blk.at, isOwn]) (fun d => ?_) (fun _ => rfl)
  · exact ⟨#[], 0, heap_alloc_new w _, by simp, by simp [HoldsL], by simp, by simp⟩
  · simp only [Holds]; exact ⟨w.heap.size, by simp [Ren.set], rfl⟩

theorem arange0 : Array.range 0 = #[] := Array.eq_empty_of_size_eq_zero (by simp)
theorem range_zero_flatten (z : Array Value) (c : Nat) : (((Array.range (c * z.size)).map (fun i => z[i % z.size]!)).toList) = (List.replicate c z.toList).flatten := by
  induction c with
  | zero => simp
  | succ c ih =>
    rw [List.replicate_succ', List.flatten_append, ← ih]
    simp only [Array.toList_map, Array.toList_range, List.flatten_cons, List.flatten_nil, List.append_nil]
    rw [show (c + 1) * z.size = c * z.size + z.size from by rw [Nat.add_mul]; omega, List.range_add, List.map_append, List.map_map]
    congr 1
    apply List.ext_getElem?
    intro j
    by_cases hj : j < z.size
    · have hm : (c * z.size + j) % z.size = j := by rw [Nat.mul_comm, Nat.mul_add_mod]; exact Nat.mod_eq_of_lt hj
      simp [hj, hm]
    · simp [hj]
theorem flatten_replicate_map {α β : Type} (f : α → β) (l : List α) (n : Nat) : (List.replicate n (l.map f)).flatten = (List.replicate n l).flatten.map f := by
  induction n with
  | zero => simp
  | succ n ih => rw [List.replicate_succ, List.replicate_succ, List.flatten_cons, List.flatten_cons, List.map_append, ih]

theorem sound_mksl (h : SimE C V a w fz ρ) {t : TypeId} {x y : Operand} (hop : o.op = .makeSlice t x y) {e : TypeId} {i : TypeInfo} {z : Value} (ht : P.underlying t = some (.slice e)) (hi : P.info? e = some i) (hz : i.zero = some z)
    {g : Nat → Option Blk} {ef : Eff} (hg : ∀ d, o.dst = some d → g d = V.hp d) (he : aMksl o.dst e i.size i.bytes z.cells.toList g [V.ev x, V.ev y] = some ef) (hob : ef.ob) (hd : ∀ i, o.dst = some i → i < C.N) : Sound P C V a w o ef := by
  have hx := h.ev x
  have hy := h.ev y
  unfold aMksl at he
  split at he
  · rename_i l c heq
    simp only [List.cons.injEq, and_true] at heq
    rw [heq.1] at hx
    rw [heq.2] at hy
    simp only [Holds] at hx hy
    split at he
    · rename_i hc
      obtain ⟨hw0, hzl, hone⟩ := hc
      have hobs : 0 ≤ l ∧ l ≤ c ∧ c * i.bytes ≤ 140737488355328 ∧ c ≤ 4611686018427387904 := by
        simp only [aNew] at he
        split at he
        · split at he
          · cases he; exact hob
          · cases he
        · cases he
      obtain ⟨h0, hlc, hb, h63⟩ := hobs
      have hwl : IntKind.i64.wrap l = l := IntWalk.i64_in l (by omega)
      have hwc : IntKind.i64.wrap c = c := IntWalk.i64_in c (by omega)
      have hzs : z.cells.size = i.size := by simpa using hzl
      refine sound_new h (ob' := .cells ((Array.range (c.toNat * i.size)).map (fun j => z.cells[j % z.cells.size]!)) e) (v := .slice (some ⟨w.heap.size, 0, none⟩) l.toNat c.toNat) hg he hd ?_ ?_ ?_ (fun d => ?_) (fun _ => rfl)
      · have hc1 : ¬ c < 0 := by omega
        have hc2 : ¬ (281474976710656 < (i.bytes : Int) * c) := by rw [Int.mul_comm]; omega
        have hl1 : ¬ l < 0 := by omega
        have hl2 : ¬ c < l := by omega
        by_cases hn : c.toNat * i.size = 0
        · have hc0 : c.toNat = 0 := by
            rcases Nat.mul_eq_zero.1 hn with h | h
            · exact h
            · omega
          simp [execOp, hop, Instr.makeSlice, hx, hy, run_underlying ht, typeInfo, hi, asInt, asIntOf, hwl, hwc, hc1, hc2, hl1, hl2, sizeOf, newRow, hc0, arange0]
        · simp [execOp, hop, Instr.makeSlice, hx, hy, run_underlying ht, typeInfo, hi, asInt, asIntOf, hwl, hwc, hc1, hc2, hl1, hl2, sizeOf, newRow, hn, run_zeroValue hi hz]
      · refine ⟨_, heap_alloc_new w _, ?_, ?_⟩
        · rw [← hzs, range_zero_flatten z.cells c.toNat, flatten_replicate_map]; exact HoldsL.vals _
        · intro u hu
          rw [← hzs, range_zero_flatten z.cells c.toNat] at hu
          obtain ⟨l', hl', hu'⟩ := List.mem_flatten.1 hu
          have := List.eq_of_mem_replicate hl'
          subst this
          exact List.all_eq_true.1 hone u hu'
      · intro j
        rw [flatten_replicate_map]; exact own_map_val _ j
      · simp only [Holds]; exact ⟨w.heap.size, by simp [Ren.set], rfl⟩
    · cases he
  · cases he
end Go.Aw
