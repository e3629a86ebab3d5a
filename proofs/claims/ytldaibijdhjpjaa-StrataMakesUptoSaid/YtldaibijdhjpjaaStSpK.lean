/- Refused just if a relation rests on itself by a strict edge. -/
import Derived.Test.YtldaibijdhjpjaaStSpJ
set_option linter.unusedSimpArgs false
set_option linter.unusedVariables false
namespace Go.St
open Go.Aw
theorem mem_pairs (m : MMod) (p : Nat × List Edge) : p ∈ (graphOf m).pairs ↔ ∃ r ∈ m.rules, p = (idx m r.rel, edgesOf m (grouped r) r.body) := by
  have key : ∀ l : List RuleD, (headsOf m l).zip (allEdges m l) = l.map fun r => (idx m r.rel, edgesOf m (grouped r) r.body) := by
    intro l
    induction l with
    | nil => rfl
    | cons r l ih =>
      simp only [headsOf, allEdges, List.map_cons, List.zip_cons_cons] at ih ⊢
      rw [ih]
  simp only [Graph.pairs, graphOf, key, List.mem_map]
  constructor
  · rintro ⟨r, hr, rfl⟩; exact ⟨r, hr, rfl⟩
  · rintro ⟨r, hr, rfl⟩; exact ⟨r, hr, rfl⟩
noncomputable def litB (m : MMod) (r : RuleD) (x : LitD) : Bool :=
  leads x && strictB r x && (decide (idx m x.rel = idx m r.rel) || ((progRows (graphOf m) m.rels.length).getD (idx m x.rel) []).contains (idx m r.rel))
noncomputable def roundB (m : MMod) : Bool := m.rules.any fun r => r.body.any (litB m r)
theorem mem_trues (l : List Bool) (k h : Nat) : (trues l k).contains h = (decide (h < k) && l.getD h false) := by
  rw [Bool.eq_iff_iff]
  simp [trues]
theorem litB_bad {m : MMod} (hg : Good m) {r : RuleD} (hr : r ∈ m.rules) {x : LitD} (hx : x ∈ r.body) (hl : leads x = true) : litB m r x = badE (graphOf m) (idx m r.rel) (mkEdge m (grouped r) x) := by
  have h1 := idx_lt (hg.heads r hr)
  have h2 := idx_lt (hg.lits r hr x hx hl)
  have h3 : (progRows (graphOf m) m.rels.length).getD (idx m x.rel) [] = trues (reachRow (nextOf (graphOf m)) (graphOf m).n (idx m x.rel)) (graphOf m).n := by
    simp [progRows, List.getD_eq_getElem?_getD, h2]
  unfold litB badE mkEdge
  rw [h3, mem_trues, hl]
  have h4 : decide (idx m r.rel < (graphOf m).n) = true := decide_eq_true h1
  rw [h4]
  simp only [Bool.true_and, strictB]
  rw [Bool.or_comm (x.kind == 2)]
theorem roundB_iff {m : MMod} (hg : Good m) : roundB m = (refuse1 (graphOf m) (graphOf m).pairs).isSome := by
  have key : roundB m = false ↔ refuse1 (graphOf m) (graphOf m).pairs = none := by
    unfold roundB
    simp only [List.any_eq_false, Bool.not_eq_true]
    constructor
    · intro h
      refine refuse1_fine fun p hp e he => ?_
      obtain ⟨r, hr, rfl⟩ := (mem_pairs m p).1 hp
      simp only [edgesOf, List.mem_map, List.mem_filter] at he
      obtain ⟨x, ⟨hx, hl⟩, rfl⟩ := he
      rw [← litB_bad hg hr hx hl]; exact h r hr x hx
    · intro h r hr x hx
      by_cases hl : leads x = true
      · rw [litB_bad hg hr hx hl]
        exact refuse1_none h _ ((mem_pairs m _).2 ⟨r, hr, rfl⟩) _ (by simp only [edgesOf, List.mem_map, List.mem_filter]; exact ⟨x, ⟨hx, hl⟩, rfl⟩)
      · simp [litB, hl]
  cases h : refuse1 (graphOf m) (graphOf m).pairs with
  | none => rw [key.2 h]; rfl
  | some p =>
    cases hb : roundB m with
    | true => rfl
    | false => rw [key.1 hb] at h; cases h
theorem satF_iff (m : MMod) (f : Nat → Nat) : satF (graphOf m) f ↔ ∀ r ∈ m.rules, ∀ x ∈ r.body, leads x = true → f (idx m x.rel) + (if strictB r x then 1 else 0) ≤ f (idx m r.rel) := by
  have hst : ∀ r x, str (mkEdge m (grouped r) x) = if strictB r x then 1 else 0 := by
    intro r x
    show (if (grouped r || (x.kind == 2)) = true then 1 else 0) = (if ((x.kind == 2) || grouped r) = true then 1 else 0)
    generalize grouped r = a
    generalize (x.kind == 2) = b
    cases a <;> cases b <;> rfl
  constructor
  · intro h r hr x hx hl
    have := h _ ((mem_pairs m _).2 ⟨r, hr, rfl⟩) (mkEdge m (grouped r) x) (by simp only [edgesOf, List.mem_map, List.mem_filter]; exact ⟨x, ⟨hx, hl⟩, rfl⟩)
    rw [hst] at this; exact this
  · intro h p hp e he
    obtain ⟨r, hr, rfl⟩ := (mem_pairs m p).1 hp
    simp only [edgesOf, List.mem_map, List.mem_filter] at he
    obtain ⟨x, ⟨hx, hl⟩, rfl⟩ := he
    rw [hst]; exact h r hr x hx hl
theorem any_take {α : Type} (p : α → Bool) (l : List α) (k : Nat) (h : k < l.length) : (l.take (k + 1)).any p = ((l.take k).any p || p l[k]) := by
  rw [List.take_add_one, List.getElem?_eq_getElem h, List.any_append]; simp
theorem contains_take (l : List Nat) (k : Nat) (x : Nat) (h : k < l.length) : (l.take (k + 1)).contains x = ((l.take k).contains x || decide (l[k] = x)) := by
  rw [List.take_add_one, List.getElem?_eq_getElem h]
  rw [Bool.eq_iff_iff]
  simp only [Option.toList_some, List.contains_iff_mem, List.mem_append, List.mem_singleton, Bool.or_eq_true, decide_eq_true_eq]
  constructor
  · rintro (h | h)
    · exact .inl h
    · exact .inr h.symm
  · rintro (h | h)
    · exact .inl h
    · exact .inr h.symm
end Go.St
