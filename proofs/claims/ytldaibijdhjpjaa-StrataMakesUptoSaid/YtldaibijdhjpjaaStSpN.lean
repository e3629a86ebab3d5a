/- There is a least numbering wherever none is refused. -/
import Derived.Test.YtldaibijdhjpjaaStSpM
set_option linter.unusedSimpArgs false
set_option linter.unusedVariables false
namespace Go.St
open Go.Aw
theorem least_nat {P : Nat → Prop} (h : ∃ n, P n) : ∃ n, P n ∧ ∀ k, P k → n ≤ k := by
  obtain ⟨n, hn⟩ := h
  induction n using Nat.strongRecOn with
  | ind n ih =>
    by_cases hk : ∃ k, k < n ∧ P k
    · obtain ⟨k, h1, h2⟩ := hk
      exact ih k h1 h2
    · exact ⟨n, hn, fun k h => Nat.le_of_not_lt fun hl => hk ⟨k, hl, h⟩⟩
theorem exists_least {g : Graph} (hg : g.ok) (h : refuse1 g g.pairs = none) : ∃ of, IsLeast g of := by
  have hex : ∀ i, ∃ v, ∃ f, satF g f ∧ f i = v := fun i => ⟨_, cnt g, cnt_sat hg h, rfl⟩
  obtain ⟨f0, hf0⟩ : ∃ f0 : Nat → Nat, ∀ i, (∃ f, satF g f ∧ f i = f0 i) ∧ ∀ k, (∃ f, satF g f ∧ f i = k) → f0 i ≤ k := ⟨fun i => (least_nat (hex i)).choose, fun i => (least_nat (hex i)).choose_spec⟩
  have hle : ∀ f, satF g f → ∀ i, f0 i ≤ f i := fun f hf i => (hf0 i).2 _ ⟨f, hf, rfl⟩
  have hat : ∀ i, ∃ f, satF g f ∧ f i = f0 i := fun i => (hf0 i).1
  have hfn : ∀ i, i < g.n → fn ((List.range g.n).map f0) i = f0 i := by
    intro i hi
    simp [fn, List.getD_eq_getElem?_getD, hi]
  refine ⟨(List.range g.n).map f0, by simp, fun p hp e he => ?_, fun f hf i => ?_⟩
  · obtain ⟨_, h1, h2⟩ := edge_next hg hp he
    rw [hfn _ h1, hfn _ h2]
    obtain ⟨f, hf, hv⟩ := hat p.1
    have := hf p hp e he
    have := hle f hf e.to
    omega
  · by_cases hi : i < g.n
    · rw [hfn i hi]; exact hle f hf i
    · have : fn ((List.range g.n).map f0) i = 0 := by
        simp [fn, List.getD_eq_getElem?_getD, hi]
      omega
theorem foldl_take {α β : Type} (f : β → α → β) (b : β) (l : List α) (k : Nat) (h : k < l.length) : (l.take (k + 1)).foldl f b = f ((l.take k).foldl f b) l[k] := by
  rw [List.take_succ_eq_append_getElem h, List.foldl_append]; rfl
theorem getD_at {α : Type} {l : List α} {i : Nat} {d : α} (h : i < l.length) : l.getD i d = l[i] := by
  rw [List.getD_eq_getElem?_getD, List.getElem?_eq_getElem h]; rfl
end Go.St
