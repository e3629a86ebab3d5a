/- Lists of values: lemmas for the simp set. -/
import Derived.Test.YtlkilbfegcplmaaAwV
set_option linter.unusedSimpArgs false
set_option linter.unusedVariables false
namespace Go.Aw
theorem withinL_iff {ids : List Nat} : ∀ {l : List AV}, withinL ids l = true ↔ ∀ x ∈ l, within ids x = true
  | [] => by simp
  | x :: l => by simp [withinL_iff (l := l)]
theorem norefL_iff : ∀ {l : List AV}, norefL l = true ↔ ∀ x ∈ l, noref x = true
  | [] => by simp
  | x :: l => by simp [norefL_iff (l := l)]
theorem flatL_iff : ∀ {l : List AV}, flatL l = true ↔ ∀ x ∈ l, flat x = true
  | [] => by simp
  | x :: l => by simp [flatL_iff (l := l)]
@[simp] theorem withinL_map {α : Type} {ids : List Nat} {f : α → AV} {l : List α} : withinL ids (l.map f) = true ↔ ∀ x ∈ l, within ids (f x) = true := by simp [withinL_iff]
@[simp] theorem norefL_map {α : Type} {f : α → AV} {l : List α} : norefL (l.map f) = true ↔ ∀ x ∈ l, noref (f x) = true := by simp [norefL_iff]
@[simp] theorem flatL_map {α : Type} {f : α → AV} {l : List α} : flatL (l.map f) = true ↔ ∀ x ∈ l, flat (f x) = true := by simp [flatL_iff]
@[simp] theorem withinL_replicate {ids : List Nat} {n : Nat} {x : AV} : withinL ids (List.replicate n x) = true ↔ (n = 0 ∨ within ids x = true) := by
  cases n with
  | zero => simp
  | succ n => simp [withinL_iff]
@[simp] theorem norefL_replicate {n : Nat} {x : AV} : norefL (List.replicate n x) = true ↔ (n = 0 ∨ noref x = true) := by
  cases n with
  | zero => simp
  | succ n => simp [norefL_iff]
theorem all_set {p : AV → Bool} {l : List AV} {i : Nat} {x : AV} : (∀ y ∈ l.set i x, p y = true) ↔ (∀ k (h : k < l.length), k ≠ i → p l[k] = true) ∧ (i < l.length → p x = true) := by
  constructor
  · intro h
    refine ⟨fun k hk hne => ?_, fun hi => h x ?_⟩
    · refine h _ (List.mem_iff_getElem.mpr ⟨k, by simpa using hk, ?_⟩)
      rw [List.getElem_set_ne (fun e => hne e.symm)]
    · exact List.mem_iff_getElem.mpr ⟨i, by simpa using hi, by simp⟩
  · intro ⟨h1, h2⟩ y hy
    obtain ⟨k, hk, e⟩ := List.mem_iff_getElem.mp hy
    have hk' : k < l.length := by simpa using hk
    by_cases hki : k = i
    · subst hki; simp at e; rw [← e]; exact h2 hk'
    · rw [List.getElem_set_ne (fun e => hki e.symm)] at e; rw [← e]; exact h1 k hk' hki
@[simp] theorem withinL_set {ids : List Nat} {l : List AV} {i : Nat} {x : AV} : withinL ids (l.set i x) = true ↔ (∀ k (h : k < l.length), k ≠ i → within ids l[k] = true) ∧ (i < l.length → within ids x = true) := by
  rw [withinL_iff]; exact all_set
@[simp] theorem norefL_set {l : List AV} {i : Nat} {x : AV} : norefL (l.set i x) = true ↔ (∀ k (h : k < l.length), k ≠ i → noref l[k] = true) ∧ (i < l.length → noref x = true) := by
  rw [norefL_iff]; exact all_set
@[simp] theorem withinL_append {ids : List Nat} {l r : List AV} : withinL ids (l ++ r) = true ↔ withinL ids l = true ∧ withinL ids r = true := by
  simp only [withinL_iff, List.mem_append]
  exact ⟨fun h => ⟨fun x hx => h x (.inl hx), fun x hx => h x (.inr hx)⟩, fun h x hx => hx.elim (h.1 x) (h.2 x)⟩
@[simp] theorem norefL_append {l r : List AV} : norefL (l ++ r) = true ↔ norefL l = true ∧ norefL r = true := by
  simp only [norefL_iff, List.mem_append]
  exact ⟨fun h => ⟨fun x hx => h x (.inl hx), fun x hx => h x (.inr hx)⟩, fun h x hx => hx.elim (h.1 x) (h.2 x)⟩
@[simp] theorem splice_set (l : List AV) (i : Nat) (x : AV) (h : i < l.length) : l.take i ++ x :: l.drop (i + 1) = l.set i x := by
  rw [List.set_eq_take_append_cons_drop, if_pos h]
theorem chunk_one {α : Type} (l : List α) : chunk 1 l.length l = l.map fun x => [x] := by
  unfold chunk
  apply List.ext_getElem
  · simp
  · intro i h1 h2
    simp only [List.length_map, List.length_range] at h1
    simp [List.take_one, List.head?_drop, List.getElem?_eq_getElem h1]
theorem RsvL.map {α : Type} {g : Nat → Option Blk} {f : α → AV} {l : List α} (h : ∀ x ∈ l, noref (f x) = true) : RsvL g (l.map f) (l.map f) := .closed (by simpa using h)
/-- a slice of the function's own, handed back -/
theorem Rsv.vec1 {g : Nat → Option Blk} {b n : Nat} {e : TypeId} {cs : List AV} (h : g b = some (.cells e cs)) (hn : norefL cs = true) (hl : cs.length = n) : Rsv g (.vec b 1 0 n n) (.rd 1 (cs.map fun x => [x])) := by
  subst hl
  have := Rsv.vec (w := 1) (off := 0) (n := cs.length) (cap := cs.length) h (RsvL.closed hn) (by simp) (Nat.le_refl _)
  rwa [List.drop_zero, chunk_one] at this
@[simp] theorem wkL_replicate {n : Nat} {x y : AV} : wkL (List.replicate n x) (List.replicate n y) ↔ n = 0 ∨ x = y ∨ weakP x y := by
  induction n with
  | zero => simp [wkL]
  | succ n ih =>
    simp only [List.replicate_succ, wkL, ih]
    constructor
    · rintro ⟨h, _⟩; exact .inr h
    · rintro (h | h)
      · omega
      · exact ⟨h, .inr (.inr h)⟩
end Go.Aw

