/- Blocks with names one behind the other. -/
import Derived.Test.YtempphkfacccoaaSlSpR
import Derived.Test.YtempphkfacccoaaAwZd
set_option linter.unusedSimpArgs false
set_option linter.unusedVariables false
namespace Go.Sl
open Go.Aw
def zipB (Bs : List Blk) (l : List (Nat × Blk)) : List (Nat × Blk) := zipFrom 1001 Bs ++ l
theorem lk_append {α : Type} : ∀ (l r : List (Nat × α)) (b : Nat), lk (l ++ r) b = match lk l b with | some x => some x | none => lk r b
  | [], r, b => rfl
  | (j, x) :: l, r, b => by
    simp only [List.cons_append, lk]
    split
    · rfl
    · exact lk_append l r b
theorem lk_zipFrom_lt {α : Type} : ∀ (l : List α) (i b : Nat), b < i → lk (zipFrom i l) b = none
  | [], _, _, _ => rfl
  | x :: l, i, b, h => by
    simp only [zipFrom, lk]
    rw [if_neg (by omega)]
    exact lk_zipFrom_lt l (i + 1) b (by omega)
theorem lk_zip_lt {Bs : List Blk} {l : List (Nat × Blk)} {b : Nat} (h : b < 1001) : lk (zipB Bs l) b = lk l b := by
  rw [zipB, lk_append, lk_zipFrom_lt _ _ _ h]
theorem lk_zip_in {Bs : List Blk} {l : List (Nat × Blk)} {i : Nat} (h : i < Bs.length) : lk (zipB Bs l) (1001 + i) = some Bs[i] := by
  rw [zipB, lk_append, lk_zipFrom, List.getElem?_eq_getElem h]
theorem ins_zipFrom_lt {α : Type} (b : Nat) (k : α) (r : List (Nat × α)) : ∀ (l : List α) (i : Nat), b < i → ins b k (zipFrom i l ++ r) = zipFrom i l ++ ins b k r
  | [], _, _ => rfl
  | x :: l, i, h => by
    simp only [zipFrom, List.cons_append, ins]
    rw [if_neg (by omega), ins_zipFrom_lt b k r l (i + 1) (by omega)]
theorem ins_zip_lt {Bs : List Blk} {l : List (Nat × Blk)} {b : Nat} {k : Blk} (h : b < 1001) : ins b k (zipB Bs l) = zipB Bs (ins b k l) := ins_zipFrom_lt b k l Bs 1001 h
theorem ins_zipFrom_in {α : Type} (k : α) (r : List (Nat × α)) : ∀ (l : List α) (j i : Nat), i < l.length → ins (j + i) k (zipFrom j l ++ r) = zipFrom j (l.set i k) ++ r
  | [], _, _, h => by simp at h
  | x :: l, j, 0, _ => by simp [zipFrom, ins]
  | x :: l, j, i + 1, h => by
    simp only [zipFrom, List.cons_append, ins, List.set_cons_succ]
    rw [if_neg (by omega), show j + (i + 1) = (j + 1) + i from by omega, ins_zipFrom_in k r l (j + 1) i (by simpa using h)]
theorem ins_zip_in {Bs : List Blk} {l : List (Nat × Blk)} {i : Nat} {k : Blk} (h : i < Bs.length) : ins (1001 + i) k (zipB Bs l) = zipB (Bs.set i k) l := ins_zipFrom_in k l Bs 1001 i h
theorem zipFrom_snoc {α : Type} (x : α) : ∀ (l : List α) (j : Nat), zipFrom j (l ++ [x]) = zipFrom j l ++ [(j + l.length, x)]
  | [], j => rfl
  | y :: l, j => by
    simp only [List.cons_append, zipFrom, zipFrom_snoc x l (j + 1), List.length_cons]
    rw [show j + 1 + l.length = j + (l.length + 1) from by omega]
/-- a row of what is rested on -/
def blkR (r : List ByteArray) : Blk := .map (keysT r) (ones r)
@[simp] theorem blkR_within (ids : List Nat) (r : List ByteArray) : (blkR r).within ids := by simp [blkR, Blk.within]
@[simp] theorem blkR_ren (x y : Nat) (r : List ByteArray) : (blkR r).ren x y = blkR r := by simp [blkR, Blk.ren]
def rowsB (rows : List (List ByteArray)) : List Blk := rows.map blkR
@[simp] theorem rowsB_len (rows : List (List ByteArray)) : (rowsB rows).length = rows.length := by simp [rowsB]
theorem rowsB_get (rows : List (List ByteArray)) (i : Nat) (h : i < (rowsB rows).length) : (rowsB rows)[i] = blkR (rows[i]'(by simpa using h)) := by simp [rowsB]
theorem rowsB_set (rows : List (List ByteArray)) (i : Nat) (r : List ByteArray) : (rowsB rows).set i (blkR r) = rowsB (rows.set i r) := by simp [rowsB, List.map_set]
theorem inner_within {ids : List Nat} {n : Nat} (h : ∀ i, i < n → ids.contains (1001 + i) = true) : withinL ids (inner n) = true := by
  rw [withinL_iff]
  intro x hx
  simp only [inner, List.mem_map, List.mem_range] at hx
  obtain ⟨i, hi, rfl⟩ := hx
  simpa [within] using h i hi
theorem inner_ren (x y n : Nat) (h : x < 1001) : renL x y (inner n) = inner n := by
  have : ∀ l : List Nat, renL x y (l.map fun i => AV.mapr (1001 + i)) = l.map fun i => AV.mapr (1001 + i) := by
    intro l
    induction l with
    | nil => rfl
    | cons i l ih =>
      simp only [List.map_cons, renL, AV.ren, ih]
      rw [if_neg (by omega)]
  exact this _
theorem renHp_zip (x y : Nat) (h : x < 1001) (rows : List (List ByteArray)) (l : List (Nat × Blk)) : renHp x y (zipB (rowsB rows) l) = zipB (rowsB rows) (renHp x y l) := by
  have : ∀ (r : List (List ByteArray)) (j : Nat), x < j → renHp x y (zipFrom j (rowsB r) ++ l) = zipFrom j (rowsB r) ++ renHp x y l := by
    intro r
    induction r with
    | nil => intro j _; rfl
    | cons a r ih =>
      intro j hj
      have := ih (j + 1) (by omega)
      simp only [rowsB, List.map_cons, zipFrom, List.cons_append, renHp, blkR_ren] at this ⊢
      rw [if_neg (by omega), this]
  exact this rows 1001 h
theorem zip_names (rows : List (List ByteArray)) (l : List (Nat × Blk)) (i : Nat) (h : i < rows.length) : ((zipB (rowsB rows) l).map (·.1)).contains (1001 + i) = true := by
  have := lk_zip_in (Bs := rowsB rows) (l := l) (i := i) (by simpa using h)
  exact lk_mem this
/-- the rows are kept where a state is forgotten -/
theorem withinHp_zip {ids : List Nat} {s : AS} {rows : List (List ByteArray)} {l : List (Nat × Blk)} (h : ∀ i (hi : i < rows.length), lk s.hp (1001 + i) = some (blkR rows[i])) (hl : withinHp ids s l) : withinHp ids s (zipB (rowsB rows) l) := by
  have : ∀ (r : List (List ByteArray)) (j : Nat), (∀ i (hi : i < r.length), lk s.hp (j + i) = some (blkR r[i])) → withinHp ids s (zipFrom j (rowsB r) ++ l) := by
    intro r
    induction r with
    | nil => intro j _; exact hl
    | cons a r ih =>
      intro j hj
      have h0 := hj 0 (by simp)
      have := ih (j + 1) (fun i hi => by have := hj (i + 1) (by simpa using hi); rw [show j + 1 + i = j + (i + 1) from by omega]; simpa using this)
      simp only [rowsB, List.map_cons, zipFrom, List.cons_append, withinHp] at this ⊢
      refine ⟨?_, blkR_within _ _, this⟩
      rw [show j = j + 0 from rfl, h0]
      simp
  exact this rows 1001 h
theorem lk_row {rows : List (List ByteArray)} {l : List (Nat × Blk)} {i : Nat} (h : i < rows.length) : lk (zipB (rowsB rows) l) (1001 + i) = some (.map (keysT (rows.getD i [])) (ones (rows.getD i []))) := by
  rw [lk_zip_in (by simpa using h), rowsB_get, List.getD_eq_getElem?_getD, List.getElem?_eq_getElem h]; rfl
theorem ins_row {rows : List (List ByteArray)} {l : List (Nat × Blk)} {i : Nat} {r : List ByteArray} (h : i < rows.length) : ins (1001 + i) (.map (keysT r) (ones r)) (zipB (rowsB rows) l) = zipB (rowsB (rows.set i r)) l := by
  rw [ins_zip_in (by simpa using h), ← rowsB_set]; rfl
theorem lk_row_none {rows : List (List ByteArray)} {l : List (Nat × Blk)} (hl : lk l (1001 + rows.length) = none) : lk (zipB (rowsB rows) l) (1001 + rows.length) = none := by
  rw [zipB, lk_append, lk_zipFrom]
  simpa using hl
theorem ne_lit {k : Nat} (h : k < 1001) (i : Nat) : ¬ k = 1001 + i := by omega
@[simp] theorem zipB_mem {Bs : List Blk} {l : List (Nat × Blk)} {p : Nat × Blk} : p ∈ zipB Bs l ↔ p ∈ zipFrom 1001 Bs ∨ p ∈ l := by simp [zipB]
theorem renL_append (x y : Nat) : ∀ (l r : List AV), renL x y (l ++ r) = renL x y l ++ renL x y r
  | [], r => by simp [renL]
  | z :: l, r => by simp only [List.cons_append, renL, renL_append x y l r]
theorem lk_zip_last {rows : List (List ByteArray)} {l : List (Nat × Blk)} : lk (zipB (rowsB rows) l) (1001 + rows.length) = lk l (1001 + rows.length) := by
  rw [zipB, lk_append, lk_zipFrom]
  simp
theorem exists_zipFrom {rows : List (List ByteArray)} {i : Nat} (h : i < rows.length) : ∃ x, (1001 + i, x) ∈ zipFrom 1001 (rowsB rows) := by
  have h1 : lk (zipFrom 1001 (rowsB rows)) (1001 + i) = some (blkR rows[i]) := by rw [lk_zipFrom, List.getElem?_eq_getElem (by simpa using h), rowsB_get]
  exact ⟨_, lk_in h1⟩
end Go.Sl
