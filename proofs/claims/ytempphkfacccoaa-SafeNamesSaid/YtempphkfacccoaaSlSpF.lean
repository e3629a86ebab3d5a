/- How much literals are. -/
import Derived.Test.YtempphkfacccoaaSlSpE
import Derived.Test.YtempphkfacccoaaSlSpP
set_option linter.unusedSimpArgs false
set_option linter.unusedVariables false
namespace Go.Sl
open Go.Aw
theorem sizes_snoc (l : List ExprD) (i : Nat) (h : i < l.length) : sizes (l.take (i + 1)) = sizes (l.take i) + size l[i] := by
  rw [sizes_map, sizes_map, List.take_succ_eq_append_getElem h, List.map_append, List.sum_append_nat]; simp
theorem sizes_take_le (l : List ExprD) (i : Nat) : sizes (l.take i) ≤ sizes l := by
  have : sizes l = sizes (l.take i) + sizes (l.drop i) := by rw [sizes_map, sizes_map, sizes_map, ← List.sum_append_nat, ← List.map_append, List.take_append_drop]
  omega
/-- how much, as far as a bound -/
def exN (l : List ExprD) (most : Nat) : Nat := min (sizes l) most
@[simp] theorem exN_nil (most : Nat) : exN [] most = 0 := by simp [exN, sizes]
theorem exN_le (l : List ExprD) (most : Nat) : exN l most ≤ most := Nat.min_le_right _ _
theorem exN_step (l : List ExprD) (i most : Nat) (h : i < l.length) (hlt : exN (l.take i) most < most) : exN (l.take i) most + 1 + exN l[i].args (most - (exN (l.take i) most + 1)) = exN (l.take (i + 1)) most := by
  have h1 := sizes_snoc l i h
  have h2 := size_eq l[i]
  simp only [exN] at hlt ⊢
  omega
theorem exN_done (l : List ExprD) (i most : Nat) (h : i ≥ l.length ∨ exN (l.take i) most = most) : exN (l.take i) most = exN l most := by
  rcases h with h | h
  · rw [List.take_of_length_le h]
  · rw [h]; have := sizes_take_le l i; simp only [exN] at h ⊢; omega
theorem exN_idx (l : List ExprD) (i most : Nat) (h : i ≤ l.length) (hlt : exN (l.take i) most < most) : i < most := by
  have := length_le_sizes (l.take i)
  simp only [List.length_take] at this
  simp only [exN] at hlt
  omega
def hv : List LitD → Nat → Nat
  | [], n => n
  | x :: l, n => if n < 300 then hv l (n + 3 + exN x.args 300) else n
def heavyE (l : List LitD) : Bool := decide (300 ≤ hv l 0)
theorem hv_drop (l : List LitD) (i n : Nat) (h : i < l.length) : hv (l.drop i) n = if n < 300 then hv (l.drop (i + 1)) (n + 3 + exN l[i].args 300) else n := by
  rw [List.drop_eq_getElem_cons h]; rfl
theorem hv_ge : ∀ (l : List LitD) (n : Nat), n ≤ hv l n
  | [], n => Nat.le_refl n
  | x :: l, n => by
    simp only [hv]
    split
    · have := hv_ge l (n + 3 + exN x.args 300); omega
    · exact Nat.le_refl n
theorem hv_wts : ∀ (l : List LitD) (n : Nat), hv l n < 300 → n + wts l + 2 * l.length ≤ hv l n
  | [], n, _ => by simp [hv, wts]
  | x :: l, n, h => by
    simp only [hv] at h ⊢
    split at h
    · rename_i hn
      rw [if_pos hn]
      have h1 := hv_wts l _ h
      have h2 := hv_ge l (n + 3 + exN x.args 300)
      have h4 : exN x.args 300 < 300 := by omega
      have h3 : exN x.args 300 = sizes x.args := by simp only [exN] at h4 ⊢; omega
      simp only [wts, List.map_cons, List.sum_cons, wtL, List.length_cons] at h1 ⊢
      omega
    · rename_i hn; exact absurd h hn
theorem light {l : List LitD} (h : heavyE l = false) : wts l + 2 * l.length < 300 := by
  have h1 : hv l 0 < 300 := by simp [heavyE] at h; omega
  have := hv_wts l 0 h1
  omega
/-- the same lists -/
def sameL {α : Type} [DecidableEq α] : List α → List α → Bool
  | [], [] => true
  | x :: l, y :: r => decide (x = y) && sameL l r
  | _, _ => false
theorem sameL_iff {α : Type} [DecidableEq α] : ∀ {l r : List α}, sameL l r = true ↔ l = r
  | [], [] => by simp [sameL]
  | [], _ :: _ => by simp [sameL]
  | _ :: _, [] => by simp [sameL]
  | x :: l, y :: r => by simp [sameL, sameL_iff (l := l) (r := r)]
theorem sameL_drop {α : Type} [DecidableEq α] (l r : List α) (i : Nat) (h : i < l.length) (h' : i < r.length) : sameL (l.drop i) (r.drop i) = (decide (l[i] = r[i]) && sameL (l.drop (i + 1)) (r.drop (i + 1))) := by
  rw [List.drop_eq_getElem_cons h, List.drop_eq_getElem_cons h']; rfl
theorem sameL_len {α : Type} [DecidableEq α] {l r : List α} (h : l.length ≠ r.length) : sameL l r = false := by
  cases e : sameL l r with
  | false => rfl
  | true => rw [sameL_iff] at e; subst e; exact absurd rfl h
theorem hasT_drop (l : List ByteArray) (s : ByteArray) (k : Nat) (h : k < l.length) : hasT (l.drop k) s = (decide (s = l[k]) || hasT (l.drop (k + 1)) s) := by
  rw [List.drop_eq_getElem_cons h, hasT_cons]
theorem min_step (a b m n : Nat) (h : a ≤ m) (hn : n = min (a + b) m) : (if a < m then min (a + b) m else a) = n := by
  subst hn; split <;> omega
end Go.Sl
