/- slices.Sort and slices.Compact of texts, over memory of the call's own. -/
import Derived.Test.YtempphkfacccoaaAwZg
import Derived.Test.YtempphkfacccoaaSuLays
import Derived.Shelf.Slices.In.SortNone
import Derived.Test.YtempphkfacccoaaSuSp
set_option linter.unusedSimpArgs false
set_option linter.unusedVariables false
open Go Go.Aw Go.Proofs
namespace Go.Sl
abbrev bsT (s : ByteArray) : List UInt8 := s.data.toList
abbrev unT (l : List UInt8) : ByteArray := ⟨l.toArray⟩
theorem unT_bsT (s : ByteArray) : unT (bsT s) = s := by simp [unT, bsT]
theorem bsT_unT (l : List UInt8) : bsT (unT l) = l := by simp [unT, bsT]
def srt (zs : List ByteArray) : List ByteArray := ((zs.map bsT).mergeSort fun x y => decide (x ≤ y)).map unT
def cmpT (zs : List ByteArray) : List ByteArray := (Lib.compact (zs.map bsT)).map unT
theorem srt_len (zs : List ByteArray) : (srt zs).length = zs.length := by simp [srt]
theorem cmp_len_le (zs : List (List UInt8)) : (Lib.compact zs).length ≤ zs.length := by
  unfold Lib.compact Lib.compactUpTo
  rw [List.length_map]
  have := List.length_filter_le (Lib.keeps zs.toArray) (List.range zs.length)
  simpa using this
theorem cmpT_len (zs : List ByteArray) : (cmpT zs).length ≤ zs.length := by
  have := cmp_len_le (zs.map bsT)
  simpa [cmpT] using this
/-- texts, and room behind them -/
def cellsS (zs : List ByteArray) (e : Nat) : List AV := zs.map sval ++ List.replicate e .unk
theorem flatL_append : ∀ {a b : List AV}, flatL a = true → flatL b = true → flatL (a ++ b) = true
  | [], _, _, h => h
  | x :: a, b, h1, h2 => by
    simp only [flatL, Bool.and_eq_true, List.cons_append] at h1 ⊢
    exact ⟨h1.1, flatL_append h1.2 h2⟩
theorem cellsS_flat (zs : List ByteArray) (e : Nat) : flatL (cellsS zs e) = true := by
  refine flatL_append ?_ ?_
  · induction zs with
    | nil => rfl
    | cons x l ih => simp only [List.map_cons, flatL, ih, Bool.and_true]; rfl
  · induction e with
    | zero => rfl
    | succ e ih => simp only [List.replicate_succ, flatL, ih, Bool.and_true]; rfl
theorem cellsS_vals {fz : Fz} {zs : List ByteArray} {e : Nat} {cur : Array Value} (h : HoldsL fz (cellsS zs e) noRen cur.toList) : cur.size = zs.length + e ∧ ∀ j (hj : j < zs.length), cur[j]? = some (.string zs[j]) := by
  refine ⟨by have := h.len; simpa [cellsS] using this, fun j hj => ?_⟩
  obtain ⟨v, hv, hh⟩ := h.get _ _ _ j (sval zs[j]) (by simp [cellsS, List.getElem?_append_left, hj])
  simp only [sval, Holds] at hh
  subst hh
  simpa using hv
theorem cellsS_of {fz : Fz} {zs : List ByteArray} {e : Nat} {cur : Array Value} (h1 : cur.size = zs.length + e) (h2 : ∀ j (hj : j < zs.length), cur[j]? = some (.string zs[j])) : HoldsL fz (cellsS zs e) noRen cur.toList := by
  refine HoldsL.of_get _ _ _ (by simp [cellsS, h1]) fun j x v hx hv => ?_
  by_cases hj : j < zs.length
  · rw [cellsS, List.getElem?_append_left (by simpa using hj)] at hx
    simp [hj] at hx
    subst hx
    have := h2 j hj
    rw [Array.getElem?_toList] at hv
    rw [hv] at this; cases this
    simp only [sval, Holds]
  · rw [cellsS, List.getElem?_append_right (by simpa using hj)] at hx
    rw [List.eq_of_mem_replicate (List.mem_of_getElem? hx)]
    simp only [Holds]
theorem kit_holds {fz : Fz} {w : World} {c : Nat} {t : TypeId} {zs : List ByteArray} {e : Nat} {cur : Array Value} (h1 : w.heap[c]? = some (.cells cur t (0, 0))) (h2 : HoldsL fz (cellsS zs e) noRen cur.toList) : Go.Sort.Holds encStr w c 0 (zs.map bsT).toArray := by
  obtain ⟨_, h3⟩ := cellsS_vals h2
  intro j hj
  have hj' : j < zs.length := by simpa using hj
  have := h3 j hj'
  refine ⟨?_, by simp [World.frozen?, h1]⟩
  simp only [World.cell?, h1, Option.isSome_none, Bool.false_eq_true, if_false, Nat.zero_add]
  rw [this, getElem!_pos _ j hj]
  simp [encStr, bsT]
/-- the row's heap, behind -/
theorem put_heap {w : World} {c : Nat} {t : TypeId} {cur : Array Value} (h1 : w.heap[c]? = some (.cells cur t (0, 0))) (n : Nat) (d : Array (List UInt8)) (os : Array Obj) :
    let w' := Go.Sort.grow (Go.Sort.putRow encStr (Go.Sort.ahead w n) c 0 d) os
    w'.os = w.os ∧ w'.tape = w.tape ∧ w'.output = w.output ∧ w.heap.size ≤ w'.heap.size ∧ (∀ k, k < w.heap.size → k ≠ c → w'.heap[k]? = w.heap[k]?) ∧ w'.heap[c]? = some (.cells (Go.Sort.putCells encStr 0 d cur) t (0, 0)) := by
  have hlt := lt_of_heap h1
  refine ⟨rfl, rfl, rfl, ?_, fun k hk hne => ?_, ?_⟩
  · simp [Go.Sort.grow, Go.Sort.putRow, Go.Sort.mapBlock, Go.Sort.ahead]
  · simp only [Go.Sort.grow, Go.Sort.putRow, Go.Sort.mapBlock, Go.Sort.ahead]
    rw [Array.getElem?_append_left (by simpa using hk), Array.getElem?_modify, if_neg (fun e => hne e.symm)]
  · simp only [Go.Sort.grow, Go.Sort.putRow, Go.Sort.mapBlock, Go.Sort.ahead]
    rw [Array.getElem?_append_left (by simpa using hlt), Array.getElem?_modify, if_pos rfl, h1]
    rfl
theorem put_cells {fz : Fz} {zs ys : List ByteArray} {e : Nat} {cur : Array Value} (h2 : HoldsL fz (cellsS zs e) noRen cur.toList) (h3 : ∀ u ∈ cur.toList, u.oneCell' = true) (d : List (List UInt8)) (hd : d.length = zs.length) (hys : ys.length ≤ zs.length) (he : ∀ j (hj : j < ys.length), d[j]? = some (bsT ys[j])) :
    HoldsL fz (cellsS ys (zs.length - ys.length + e)) noRen (Go.Sort.putCells encStr 0 d.toArray cur).toList ∧ ∀ u ∈ (Go.Sort.putCells encStr 0 d.toArray cur).toList, u.oneCell' = true := by
  obtain ⟨h4, h5⟩ := cellsS_vals h2
  have hat : ∀ j, j < cur.size → (Go.Sort.putCells encStr 0 d.toArray cur)[j]? = some (if j < d.length then encStr d.toArray[j]! else cur[j]!) := by
    intro j hj
    simp only [Go.Sort.putCells, Array.getElem?_mapIdx, Array.getElem?_eq_getElem hj, Option.map_some, Nat.zero_le, true_and, Nat.zero_add, Nat.sub_zero, List.size_toArray]
    rw [getElem!_pos cur j hj]
  have hsz : (Go.Sort.putCells encStr 0 d.toArray cur).size = cur.size := by simp [Go.Sort.putCells]
  refine ⟨cellsS_of (by rw [hsz]; omega) fun j hj => ?_, fun u hu => ?_⟩
  · rw [hat j (by omega), if_pos (by omega)]
    have := he j hj
    have hjd : j < d.length := by omega
    rw [getElem!_pos d.toArray j (by simpa using hjd)]
    rw [List.getElem?_eq_getElem hjd] at this
    simp only [List.getElem_toArray, Option.some.inj this]
  · obtain ⟨j, hj⟩ := List.mem_iff_getElem?.1 hu
    rw [Array.getElem?_toList] at hj
    have hjl : j < cur.size := by rw [← hsz]; exact (Array.getElem?_eq_some_iff.1 hj).1
    rw [hat j hjl] at hj
    cases hj
    split
    · rfl
    · rw [getElem!_pos cur j hjl]; exact h3 _ (by simp)
theorem enter40 : Aw.Enters Try.prog 40 := ⟨_, Try.func40, by kernel_rfl, rfl⟩
theorem enter41 : Aw.Enters Try.prog 41 := ⟨_, Try.func41, by kernel_rfl, rfl⟩
def HS (zs : List ByteArray) (e : Nat) : List (Nat × Blk) := [(1002, .cells 9 (cellsS zs e))]
theorem Sort_con (zs : List ByteArray) (e : Nat) (hz : zs.length ≤ 4194304) : ConM Try.prog 40 (HS zs e) [.vec 1002 1 0 zs.length (zs.length + e)] (.tup []) (HS (srt zs) e) := by
  refine ConM.one (rv := fun _ => .tuple #[]) enter40 rfl (cellsS_flat _ _) (cellsS_flat _ _) (fun _ _ _ _ => by simp [Holds, HoldsL]) fun fz w c cur h1 h2 h3 => ?_
  have hH := kit_holds h1 h2
  have hc := Any.slices_Sort_string Try.lays190 c 0 (zs.length + e) (zs.map bsT) w hH (lt_of_heap h1) (by simp; omega)
  rw [List.length_map] at hc
  refine Calls.mono (show Calls Try.prog 40 _ w _ from hc) ?_
  rintro e' w' ⟨rfl, n, os, rfl⟩
  obtain ⟨x1, x2, x3, x4, x5, x6⟩ := put_heap h1 n ((zs.map bsT).mergeSort fun x y => decide (x ≤ y)).toArray os
  obtain ⟨y1, y2⟩ := put_cells (ys := srt zs) h2 h3 ((zs.map bsT).mergeSort fun x y => decide (x ≤ y)) (by simp) (by rw [srt_len]; exact Nat.le_refl _) (fun j hj => by
    have hj' : j < ((zs.map bsT).mergeSort fun x y => decide (x ≤ y)).length := by rw [srt_len] at hj; simpa using hj
    rw [List.getElem?_eq_getElem hj']
    simp [srt, bsT])
  rw [srt_len, Nat.sub_self, Nat.zero_add] at y1
  exact ⟨_, rfl, x1, x2, x3, x4, x5, x6, y1, y2⟩
theorem Compact_con (zs : List ByteArray) (e : Nat) (hz : zs.length ≤ 4194304) : ConM Try.prog 41 (HS zs e) [.vec 1002 1 0 zs.length (zs.length + e)] (.vec 1002 1 0 (cmpT zs).length (zs.length + e)) (HS (cmpT zs) (zs.length - (cmpT zs).length + e)) := by
  refine ConM.one (rv := fun c => .slice (some ⟨c, 0, none⟩) (cmpT zs).length (zs.length + e)) enter41 rfl (cellsS_flat _ _) (cellsS_flat _ _) (fun _ _ c hc => by simp only [Holds]; exact ⟨c, hc, rfl⟩) fun fz w c cur h1 h2 h3 => ?_
  have hH := kit_holds h1 h2
  have hc := Any.slices_Compact_string Try.lays194 c 0 (zs.length + e) (zs.map bsT) w hH (by simp; omega) (by simp)
  rw [List.length_map] at hc
  refine Calls.mono (show Calls Try.prog 41 _ w _ from hc) ?_
  have hl : (Lib.compact (zs.map bsT)).length = (cmpT zs).length := by simp [cmpT]
  have hle := cmpT_len zs
  rintro e' w' ⟨rfl, q, rfl⟩
  obtain ⟨x1, x2, x3, x4, x5, x6⟩ := put_heap h1 q (Lib.compact (zs.map bsT) ++ List.replicate (zs.length - (Lib.compact (zs.map bsT)).length) []).toArray #[]
  obtain ⟨y1, y2⟩ := put_cells (ys := cmpT zs) h2 h3 (Lib.compact (zs.map bsT) ++ List.replicate (zs.length - (Lib.compact (zs.map bsT)).length) []) (by rw [List.length_append, List.length_replicate]; omega) hle (fun j hj => by
    rw [List.getElem?_append_left (by omega), List.getElem?_eq_getElem (by omega)]
    simp [cmpT, bsT])
  rw [Go.Sort.grow_empty] at x1 x2 x3 x4 x5 x6
  exact ⟨_, by rw [hl], x1, x2, x3, x4, x5, x6, y1, y2⟩
theorem Sort_none : Con Try.prog 40 [.rd 1 []] (.tup []) := by
  refine ⟨enter40, fun fz w vs hok hvs => ?_⟩
  simp only [HoldsL, Holds] at hvs
  obtain ⟨v, r', h1, ⟨a, c, rfl, _, _⟩, rfl⟩ := hvs
  have hv : vs = #[.slice a 0 c] := Array.toList_inj.1 (by simpa using h1)
  subst hv
  refine Calls.mono (show Calls Try.prog 40 _ w _ from Any.slices_Sort_string_none Try.lays190 a c w) ?_
  rintro e w' ⟨rfl, rfl⟩
  exact ⟨_, fz, rfl, Ext.refl _, Fz.le_refl _, hok, fun _ _ => ⟨fun _ => rfl, rfl⟩, by simp [Holds, HoldsL], fun _ _ _ h => by cases h⟩
theorem Compact_none : Con Try.prog 41 [.rd 1 []] (.rd 1 []) := by
  refine ⟨enter41, fun fz w vs hok hvs => ?_⟩
  simp only [HoldsL, Holds] at hvs
  obtain ⟨v, r', h1, ⟨a, c, rfl, hc, _⟩, rfl⟩ := hvs
  have hv : vs = #[.slice a 0 c] := Array.toList_inj.1 (by simpa using h1)
  subst hv
  refine Calls.mono (show Calls Try.prog 41 _ w _ from Any.slices_Compact_string_empty Try.lays194 a c w) ?_
  rintro e w' ⟨rfl, rfl⟩
  exact ⟨_, fz, rfl, Ext.refl _, Fz.le_refl _, hok, fun _ _ => ⟨fun _ => rfl, rfl⟩, by simp only [Holds]; exact ⟨a, c, rfl, hc, .inl trivial⟩, fun _ _ _ h => by cases h⟩
end Go.Sl
