/- Sorted and made single is put in place one by one. -/
import Derived.Test.YtempphkfacccoaaSuM
set_option linter.unusedSimpArgs false
set_option linter.unusedVariables false
namespace Go.Sl
open Go.Proofs
theorem ltT_iff (a b : ByteArray) : ltT a b = true ↔ bsT a < bsT b := by
  unfold ltT
  rw [bytesLess_eq, Lib.toList_data, Lib.toList_data]; simp
theorem bsT_inj {a b : ByteArray} (h : bsT a = bsT b) : a = b := by rw [← unT_bsT a, ← unT_bsT b, h]
theorem lt_trans' {a b c : List UInt8} (h1 : a < b) (h2 : b < c) : a < c := List.lt_trans h1 h2
theorem lt_irrefl' (a : List UInt8) : ¬ a < a := List.lt_irrefl a
theorem lt_of_not {a b : List UInt8} (h1 : ¬ a < b) (h2 : a ≠ b) : b < a := by
  refine Classical.byContradiction fun h3 => h2 ?_
  exact List.le_antisymm h3 h1
/-- in order, each once -/
def SS (l : List ByteArray) : Prop := l.Pairwise fun a b => bsT a < bsT b
theorem addS_cons (x : ByteArray) (l : List ByteArray) (s : ByteArray) : addS (x :: l) s = if ltT x s then x :: addS l s else if x = s then x :: l else s :: x :: l := by
  unfold addS
  simp only [posS]
  split
  · simp only [List.getElem?_cons_succ, List.take_succ_cons, List.drop_succ_cons]
    split <;> simp
  · simp only [List.getElem?_cons_zero, Option.some.injEq, List.take_zero, List.drop_zero]
    split <;> simp
theorem addS_mem (s y : ByteArray) : ∀ l : List ByteArray, y ∈ addS l s ↔ y ∈ l ∨ y = s
  | [] => by simp [addS, posS]
  | x :: l => by
    rw [addS_cons]
    have ih := addS_mem s y l
    split
    · simp only [List.mem_cons, ih]
      constructor
      · rintro (h | h | h)
        · exact .inl (.inl h)
        · exact .inl (.inr h)
        · exact .inr h
      · rintro ((h | h) | h)
        · exact .inl h
        · exact .inr (.inl h)
        · exact .inr (.inr h)
    · split
      · rename_i h; subst h
        simp only [List.mem_cons]
        constructor
        · exact .inl
        · rintro (h | h)
          · exact h
          · exact .inl h
      · simp only [List.mem_cons]
        constructor
        · rintro (h | h)
          · exact .inr h
          · exact .inl h
        · rintro (h | h)
          · exact .inr h
          · exact .inl h
theorem addS_ss (s : ByteArray) : ∀ l : List ByteArray, SS l → SS (addS l s)
  | [], _ => by simp [addS, posS, SS]
  | x :: l, h => by
    have h' := List.pairwise_cons.1 h
    rw [addS_cons]
    split
    · rename_i hlt
      refine List.pairwise_cons.2 ⟨fun y hy => ?_, addS_ss s l h'.2⟩
      rcases (addS_mem s y l).1 hy with hy | rfl
      · exact h'.1 y hy
      · exact (ltT_iff _ _).1 hlt
    · rename_i hlt
      split
      · exact h
      · rename_i hne
        have hsx : bsT s < bsT x := lt_of_not (fun hc => hlt ((ltT_iff _ _).2 hc)) (fun he => hne (bsT_inj he))
        refine List.pairwise_cons.2 ⟨fun y hy => ?_, h⟩
        rcases List.mem_cons.1 hy with rfl | hy
        · exact hsx
        · exact lt_trans' hsx (h'.1 y hy)
theorem fold_ss : ∀ (q l : List ByteArray), SS l → SS (q.foldl addS l) ∧ ∀ y, y ∈ q.foldl addS l ↔ y ∈ l ∨ y ∈ q
  | [], l, h => ⟨h, by simp⟩
  | x :: q, l, h => by
    obtain ⟨h1, h2⟩ := fold_ss q (addS l x) (addS_ss x l h)
    refine ⟨h1, fun y => ?_⟩
    simp only [List.foldl_cons]
    rw [h2, addS_mem, List.mem_cons]
    constructor
    · rintro ((h | h) | h)
      · exact .inl h
      · exact .inr (.inl h)
      · exact .inr (.inr h)
    · rintro (h | h | h)
      · exact .inl (.inl h)
      · exact .inl (.inr h)
      · exact .inr h
theorem SS.eq : ∀ {a b : List ByteArray}, SS a → SS b → (∀ y, y ∈ a ↔ y ∈ b) → a = b
  | [], [], _, _, _ => rfl
  | [], y :: b, _, _, h => by have := (h y).2 (by simp); simp at this
  | x :: a, [], _, _, h => by have := (h x).1 (by simp); simp at this
  | x :: a, y :: b, ha, hb, h => by
    have ha' := List.pairwise_cons.1 ha
    have hb' := List.pairwise_cons.1 hb
    have hxy : x = y := by
      rcases List.mem_cons.1 ((h x).1 (by simp)) with e | e
      · exact e
      · rcases List.mem_cons.1 ((h y).2 (by simp)) with e2 | e2
        · exact e2.symm
        · exact absurd (lt_trans' (ha'.1 y e2) (hb'.1 x e)) (lt_irrefl' _)
    subst hxy
    rw [SS.eq ha'.2 hb'.2 fun y => ?_]
    constructor
    · intro hy
      rcases List.mem_cons.1 ((h y).1 (by simp [hy])) with e | e
      · subst e; exact absurd (ha'.1 y hy) (lt_irrefl' _)
      · exact e
    · intro hy
      rcases List.mem_cons.1 ((h y).2 (by simp [hy])) with e | e
      · subst e; exact absurd (hb'.1 y hy) (lt_irrefl' _)
      · exact e
theorem sorted (l : List (List UInt8)) : (l.mergeSort fun x y => decide (x ≤ y)).Pairwise (fun x y => x ≤ y) := by
  have := List.pairwise_mergeSort (le := fun (x y : List UInt8) => decide (x ≤ y)) (fun a b c h1 h2 => by
    simp only [decide_eq_true_eq] at h1 h2 ⊢
    exact List.le_trans h1 h2) (fun a b => by
    simp only [Bool.or_eq_true, decide_eq_true_eq]
    exact List.le_total a b) l
  exact this.imp fun h => by simpa using h
theorem compactUp {zs : List (List UInt8)} (hs : zs.Pairwise fun x y => x ≤ y) : ∀ m, m ≤ zs.length → (Lib.compactUpTo zs.toArray m).Pairwise (fun x y => x < y) ∧ ∀ y, y ∈ Lib.compactUpTo zs.toArray m ↔ ∃ j, j < m ∧ zs.toArray[j]! = y
  | 0, _ => by simp [Lib.compactUpTo]
  | m + 1, hm => by
    obtain ⟨h1, h2⟩ := compactUp hs m (by omega)
    have hat : ∀ j (hj : j < zs.length), zs.toArray[j]! = zs[j] := fun j hj => by rw [getElem!_pos _ j (by simpa using hj)]; simp
    have hle : ∀ i j (hi : i < zs.length) (hj : j < zs.length), i ≤ j → zs[i] ≤ zs[j] := by
      intro i j hi hj hij
      rcases Nat.lt_or_eq_of_le hij with h | h
      · exact List.pairwise_iff_getElem.1 hs i j hi hj h
      · subst h; exact List.le_refl _
    rw [Lib.compactUpTo_succ]
    cases hk : Lib.keeps zs.toArray m with
    | true =>
      simp only [if_true]
      refine ⟨List.pairwise_append.2 ⟨h1, by simp, fun x hx y hy => ?_⟩, fun y => ?_⟩
      · simp only [List.mem_singleton] at hy
        subst hy
        obtain ⟨j, hj, rfl⟩ := (h2 x).1 hx
        have hm0 : m ≠ 0 := by omega
        have hne : zs.toArray[m]! ≠ zs.toArray[m - 1]! := by
          simp only [Lib.keeps, decide_eq_true_eq] at hk
          exact hk.resolve_left hm0
        rw [hat m (by omega), hat (m - 1) (by omega)] at hne
        rw [hat j (by omega), hat m (by omega)]
        have a1 := hle j (m - 1) (by omega) (by omega) (by omega)
        have a2 := hle (m - 1) m (by omega) (by omega) (by omega)
        have a3 : zs[m - 1] < zs[m] := lt_of_not a2 hne
        exact Classical.byContradiction fun hc => by
          -- zs[m] ≤ zs[j] ≤ zs[m-1]
          have : zs[m] ≤ zs[m - 1] := List.le_trans hc a1
          exact this a3
      · rw [List.mem_append, h2, List.mem_singleton]
        constructor
        · rintro (⟨j, hj, e⟩ | e)
          · exact ⟨j, by omega, e⟩
          · exact ⟨m, by omega, e.symm⟩
        · rintro ⟨j, hj, e⟩
          by_cases hjm : j = m
          · subst hjm; exact .inr e.symm
          · exact .inl ⟨j, by omega, e⟩
    | false =>
      simp only [Bool.false_eq_true, if_false, List.append_nil]
      refine ⟨h1, fun y => ?_⟩
      rw [h2]
      have hkk : m ≠ 0 ∧ zs.toArray[m]! = zs.toArray[m - 1]! := by
        simp only [Lib.keeps, decide_eq_false_iff_not, not_or] at hk
        exact ⟨hk.1, Classical.byContradiction fun h => hk.2 h⟩
      constructor
      · rintro ⟨j, hj, e⟩; exact ⟨j, by omega, e⟩
      · rintro ⟨j, hj, e⟩
        by_cases hjm : j = m
        · subst hjm; exact ⟨j - 1, by omega, by rw [← hkk.2]; exact e⟩
        · exact ⟨j, by omega, e⟩
theorem cmp_srt (nm : List ByteArray) : cmpT (srt nm) = nm.foldl addS [] := by
  have hs := sorted (nm.map bsT)
  have hz : (srt nm).map bsT = (nm.map bsT).mergeSort fun x y => decide (x ≤ y) := by
    simp only [srt, List.map_map]
    have : (bsT ∘ unT) = id := by funext l; exact bsT_unT l
    rw [this, List.map_id]
  obtain ⟨h1, h2⟩ := compactUp hs _ (Nat.le_refl _)
  have hperm := List.mergeSort_perm (nm.map bsT) fun x y => decide (x ≤ y)
  generalize (nm.map bsT).mergeSort (fun x y => decide (x ≤ y)) = zs at *
  obtain ⟨h3, h4⟩ := fold_ss nm [] (by simp [SS])
  refine SS.eq ?_ h3 fun y => ?_
  · unfold cmpT SS
    rw [hz, Lib.compact]
    exact List.pairwise_map.2 (h1.imp fun h => by rw [bsT_unT, bsT_unT]; exact h)
  · rw [h4, cmpT, hz, Lib.compact, List.mem_map]
    simp only [List.not_mem_nil, false_or]
    constructor
    · rintro ⟨l, hl, rfl⟩
      obtain ⟨j, hj, e⟩ := (h2 l).1 hl
      have hm : l ∈ zs := by rw [← e, getElem!_pos _ j (by simpa using hj)]; simp
      obtain ⟨s, hs, rfl⟩ := List.mem_map.1 (hperm.mem_iff.1 hm)
      rw [unT_bsT]; exact hs
    · intro hy
      have hm : bsT y ∈ zs := hperm.mem_iff.2 (List.mem_map_of_mem hy)
      obtain ⟨j, hj, e⟩ := List.mem_iff_getElem.1 hm
      exact ⟨bsT y, (h2 _).2 ⟨j, hj, by rw [getElem!_pos _ j (by simpa using hj)]; simpa using e⟩, unT_bsT y⟩
end Go.Sl
