/- What the document's Make comes to: as many rounds as there are relations reach the least numbers. -/
import Derived.Test.YtldaibijdhjpjaaStSpN
set_option linter.unusedSimpArgs false
set_option linter.unusedVariables false
namespace Go.St
open Go.Aw
/-- a round, under way: of0 ahead of it -/
structure Mid (g : Graph) (of0 : List Nat) (l : List (Nat × List Edge)) (of : List Nat) : Prop where
  len : of.length = g.n
  low : below g of
  up : ∀ i, fn of0 i ≤ fn of i
  fit : ∀ p ∈ l, ∀ e ∈ p.2, fn of0 e.to + str e ≤ fn of p.1
theorem Mid.start {g : Graph} {of : List Nat} (h1 : of.length = g.n) (h2 : below g of) : Mid g of [] of := ⟨h1, h2, fun _ => Nat.le_refl _, fun p hp => by simp at hp⟩
theorem Mid.open {g : Graph} {of0 of : List Nat} {l : List (Nat × List Edge)} (h : Nat) (hR : Mid g of0 l of) : Mid g of0 (l ++ [(h, [])]) of :=
  ⟨hR.len, hR.low, hR.up, fun p hp e he => by
    rcases List.mem_append.1 hp with hp | hp
    · exact hR.fit p hp e he
    · simp at hp; subst hp; simp at he⟩
theorem Mid.step {g : Graph} (hg : g.ok) {of0 of : List Nat} {l : List (Nat × List Edge)} {h : Nat} {es es' : List Edge} {e : Edge} (hp : (h, es') ∈ g.pairs) (he : e ∈ es') (hR : Mid g of0 (l ++ [(h, es)]) of) (hlt : fn of h < fn of e.to + str e) :
    Mid g of0 (l ++ [(h, es ++ [e])]) (of.set h (fn of e.to + str e)) := by
  have hh : h < of.length := by rw [hR.len]; exact (edge_next hg hp he).2.1
  have hup : ∀ i, fn of i ≤ fn (of.set h (fn of e.to + str e)) i := by
    intro i; rw [fn_set hh]; split
    · rename_i e'; subst e'; omega
    · exact Nat.le_refl _
  refine ⟨by simp [hR.len], fun f hf i => ?_, fun i => Nat.le_trans (hR.up i) (hup i), fun p hpp x hx => ?_⟩
  · rw [fn_set hh]
    split
    · rename_i e'; subst e'
      have h1 := hR.low f hf e.to
      have h2 := hf _ hp _ he
      simp only at h2
      omega
    · exact hR.low f hf i
  · rcases List.mem_append.1 hpp with hq | hq
    · exact Nat.le_trans (hR.fit p (by simp [hq]) x hx) (hup _)
    · simp at hq; subst hq
      rcases List.mem_append.1 hx with hx | hx
      · exact Nat.le_trans (hR.fit (h, es) (by simp) x hx) (hup _)
      · simp at hx; subst hx
        simp only
        rw [fn_set hh, if_pos rfl]
        have := hR.up x.to
        omega
theorem Mid.skip {g : Graph} {of0 of : List Nat} {l : List (Nat × List Edge)} {h : Nat} {es : List Edge} {e : Edge} (hR : Mid g of0 (l ++ [(h, es)]) of) (hge : ¬ fn of h < fn of e.to + str e) : Mid g of0 (l ++ [(h, es ++ [e])]) of := by
  refine ⟨hR.len, hR.low, hR.up, fun p hpp x hx => ?_⟩
  rcases List.mem_append.1 hpp with hq | hq
  · exact hR.fit p (by simp [hq]) x hx
  · simp at hq; subst hq
    rcases List.mem_append.1 hx with hx | hx
    · exact hR.fit (h, es) (by simp) x hx
    · simp at hx; subst hx
      have := hR.up x.to
      simp only; omega
/-- the relations whose number is the least already -/
def settled (L of : List Nat) (n : Nat) : Nat := ((List.range n).filter fun i => fn of i == fn L i).length
theorem settled_le (L of : List Nat) (n : Nat) : settled L of n ≤ n := by
  have := List.length_filter_le (fun i => fn of i == fn L i) (List.range n)
  simpa [settled] using this
theorem settled_all {L of : List Nat} {n : Nat} (h : settled L of n = n) : ∀ i, i < n → fn of i = fn L i := by
  intro i hi
  refine Classical.byContradiction fun hne => ?_
  have := filter_len_lt (p := fun i => fn of i == fn L i) (q := fun _ => true) (List.range n) i (by simpa using hi) (by simpa using hne) rfl (fun _ _ _ => rfl)
  rw [List.filter_eq_self.2 (fun _ _ => rfl), List.length_range] at this
  unfold settled at h
  omega
/-- a full round settles one more -/
theorem Mid.more {g : Graph} (hg : g.ok) {L of0 of : List Nat} (hL : IsLeast g L) (h0 : below g of0) (hR : Mid g of0 g.pairs of) : settled L of0 g.n = g.n ∨ settled L of0 g.n + 1 ≤ settled L of g.n := by
  have hle0 : ∀ i, fn of0 i ≤ fn L i := fun i => h0 _ hL.sat i
  have hle : ∀ i, fn of i ≤ fn L i := fun i => hR.low _ hL.sat i
  have hsub : ∀ x ∈ List.range g.n, (fn of0 x == fn L x) = true → (fn of x == fn L x) = true := by
    intro x _ hx
    simp only [beq_iff_eq] at hx ⊢
    have := hR.up x; have := hle x; omega
  by_cases hex : ∃ i, i < g.n ∧ fn of0 i ≠ fn L i ∧ fn of i = fn L i
  · obtain ⟨i, hi, h1, h2⟩ := hex
    exact .inr (filter_len_lt _ i (by simpa using hi) (by simpa using h1) (by simpa using h2) hsub)
  · by_cases hall : ∀ i, i < g.n → fn of0 i = fn L i
    · left
      unfold settled
      rw [List.filter_eq_self.2 (fun i hi => by simpa using hall i (by simpa using hi))]
      simp
    · exfalso
      obtain ⟨i0, hi0⟩ : ∃ i, ¬ (i < g.n → fn of0 i = fn L i) := Classical.not_forall.1 hall
      have hi1 : i0 < g.n ∧ fn of0 i0 ≠ fn L i0 := by
        refine ⟨Classical.byContradiction fun h => hi0 fun h' => absurd h' h, fun h => hi0 fun _ => h⟩
      -- all that are not settled may be lowered by one
      have hf : satF g (fun i => if i < g.n ∧ fn of0 i ≠ fn L i then fn L i - 1 else fn L i) := by
        intro p hp e he
        obtain ⟨_, hpn, hen⟩ := edge_next hg hp he
        have hs := hL.sat p hp e he
        have hfit := hR.fit p hp e he
        have hlp := hle p.1
        by_cases u1 : p.1 < g.n ∧ fn of0 p.1 ≠ fn L p.1
        · have hpos : fn of0 p.1 < fn L p.1 := Nat.lt_of_le_of_ne (hle0 p.1) u1.2
          by_cases u2 : e.to < g.n ∧ fn of0 e.to ≠ fn L e.to
          · have hpos2 : fn of0 e.to < fn L e.to := Nat.lt_of_le_of_ne (hle0 e.to) u2.2
            simp only [if_pos u1, if_pos u2]; omega
          · simp only [if_pos u1, if_neg u2]
            have heq : fn of0 e.to = fn L e.to := Classical.byContradiction fun h => u2 ⟨hen, h⟩
            have hne : fn of p.1 ≠ fn L p.1 := fun h => hex ⟨p.1, hpn, u1.2, h⟩
            omega
        · by_cases u2 : e.to < g.n ∧ fn of0 e.to ≠ fn L e.to
          · simp only [if_neg u1, if_pos u2]; omega
          · simp only [if_neg u1, if_neg u2]; exact hs
      have hlow := hL.low _ hf i0
      simp only [if_pos hi1] at hlow
      have := hle0 i0
      omega
/-- behind k rounds -/
structure Rds (g : Graph) (L : List Nat) (k : Nat) (of : List Nat) : Prop where
  len : of.length = g.n
  low : below g of
  cnt : g.n ≤ settled L of g.n ∨ k ≤ settled L of g.n
theorem Rds.zero (g : Graph) (L : List Nat) : Rds g L 0 (List.replicate g.n 0) := ⟨by simp, below_zero g, .inr (Nat.zero_le _)⟩
theorem Rds.next {g : Graph} (hg : g.ok) {L of0 of : List Nat} {k : Nat} (hL : IsLeast g L) (h : Rds g L k of0) (hR : Mid g of0 g.pairs of) : Rds g L (k + 1) of := by
  refine ⟨hR.len, hR.low, ?_⟩
  have hle0 : ∀ i, fn of0 i ≤ fn L i := fun i => h.low _ hL.sat i
  have hsub : settled L of0 g.n ≤ settled L of g.n := by
    refine filter_len_le _ fun x _ hx => ?_
    simp only [beq_iff_eq] at hx ⊢
    have := hR.up x; have := hR.low _ hL.sat x; omega
  rcases hR.more hg hL h.low with h1 | h1
  · left; omega
  · rcases h.cnt with h2 | h2
    · left; omega
    · right; omega
theorem Rds.done {g : Graph} {L of : List Nat} {k : Nat} (hL : IsLeast g L) (h : Rds g L k of) (hk : g.n ≤ k) : of = L := by
  have hs := settled_le L of g.n
  have hc : settled L of g.n = g.n := by rcases h.cnt with h1 | h1 <;> omega
  have ha := settled_all hc
  apply List.ext_getElem (by rw [h.len, hL.len])
  intro i h1 h2
  have := ha i (by rw [← h.len]; exact h1)
  simpa only [fn, List.getD_eq_getElem?_getD, List.getElem?_eq_getElem h1, List.getElem?_eq_getElem h2, Option.getD_some] using this

/-- the rules' edges -/
def pr (m : MMod) (r : RuleD) : Nat × List Edge := (idx m r.rel, edgesOf m (grouped r) r.body)
theorem pairs_eq (m : MMod) : (graphOf m).pairs = m.rules.map (pr m) := by
  simp only [Graph.pairs, graphOf, headsOf, allEdges]
  generalize m.rules = l
  induction l with
  | nil => rfl
  | cons r l ih => simp [ih, pr]
theorem pairs_take (m : MMod) (k : Nat) (h : k < m.rules.length) : (graphOf m).pairs.take (k + 1) = (graphOf m).pairs.take k ++ [pr m m.rules[k]] := by
  rw [pairs_eq, List.take_add_one, List.getElem?_map, List.getElem?_eq_getElem h]; rfl
theorem pr_mem (m : MMod) {r : RuleD} (h : r ∈ m.rules) : pr m r ∈ (graphOf m).pairs := by rw [pairs_eq]; exact List.mem_map_of_mem h
theorem edge_mem {m : MMod} {r : RuleD} {x : LitD} (h : x ∈ r.body) (hl : leads x = true) : mkEdge m (grouped r) x ∈ edgesOf m (grouped r) r.body := by
  unfold edgesOf; exact List.mem_map_of_mem (List.mem_filter.2 ⟨h, hl⟩)
/-- is this literal refused? -/
def badL (m : MMod) (on : List Bool) (r : RuleD) (x : LitD) : Bool := leads x && (x.kind == 2 || grouped r) && (decide (idx m x.rel = idx m r.rel) || on.getD (idx m x.rel * m.rels.length + idx m r.rel) false)
theorem badE_badL {m : MMod} (hg : Good m) (hs : Small m) {r : RuleD} (hr : r ∈ m.rules) {x : LitD} (hx : x ∈ r.body) (hl : leads x = true) : badE (graphOf m) (idx m r.rel) (mkEdge m (grouped r) x) = badL m (closed m) r x := by
  have h1 := idx_lt (hg.heads r hr)
  have h2 := idx_lt (hg.lits r hr x hx hl)
  have hc := ent_closed hg hs h2 h1
  have hr2 := reachRow_at (nextOf (graphOf m)) m.rels.length (idx m x.rel) (idx m r.rel) h1
  have hb : (reachRow (nextOf (graphOf m)) m.rels.length (idx m x.rel)).getD (idx m r.rel) false = (closed m).getD (idx m x.rel * m.rels.length + idx m r.rel) false := by
    rw [Bool.eq_iff_iff, hr2, ← hc]; rfl
  simp only [badE, badL, mkEdge, hl, Bool.true_and]
  rw [show (graphOf m).n = m.rels.length from rfl, hb]
  cases grouped r <;> cases x.kind == 2 <;> rfl
noncomputable def refB (m : MMod) (r : RuleD) (l : List LitD) : Option (Int × Int) := refuse2 (graphOf m) (idx m r.rel) (edgesOf m (grouped r) l)
theorem refB_drop {m : MMod} (hg : Good m) (hs : Small m) {r : RuleD} (hr : r ∈ m.rules) (j : Nat) (h : j < r.body.length) : refB m r (r.body.drop j) = if badL m (closed m) r r.body[j] then some (r.body[j].line, r.body[j].col) else refB m r (r.body.drop (j + 1)) := by
  rw [List.drop_eq_getElem_cons h]
  unfold refB edgesOf
  simp only [List.filter_cons]
  by_cases hl : leads r.body[j] = true
  · rw [if_pos hl, List.map_cons]
    simp only [refuse2]
    rw [badE_badL hg hs hr (List.getElem_mem h) hl]
    rfl
  · rw [if_neg hl]
    have : badL m (closed m) r r.body[j] = false := by simp only [badL]; simp at hl; simp [hl]
    rw [this]; rfl
noncomputable def refR (m : MMod) (l : List RuleD) : Option (Int × Int) := refuse1 (graphOf m) (l.map (pr m))
theorem refR_drop {m : MMod} (k : Nat) (h : k < m.rules.length) : refR m (m.rules.drop k) = match refB m m.rules[k] m.rules[k].body with | some q => some q | none => refR m (m.rules.drop (k + 1)) := by
  rw [List.drop_eq_getElem_cons h]; rfl
theorem refR_all (m : MMod) : refR m m.rules = refuse1 (graphOf m) (graphOf m).pairs := by rw [pairs_eq]; rfl
/-- how many rows there are to be -/
def topN (l : List Nat) : Nat := l.foldl (fun a x => max a (x + 1)) 0
theorem topN_take (l : List Nat) (k : Nat) (h : k < l.length) : topN (l.take (k + 1)) = max (topN (l.take k)) (l[k] + 1) := by
  unfold topN; rw [foldl_take _ _ _ _ h]
theorem topN_eq (l : List Nat) (h : l ≠ []) : topN l = maxN l + 1 := by
  cases l with
  | nil => exact absurd rfl h
  | cons x l =>
    have key : ∀ (l : List Nat) (a : Nat), l.foldl (fun a x => max a (x + 1)) (a + 1) = l.foldl max a + 1 := by
      intro l
      induction l with
      | nil => intro a; rfl
      | cons y l ih =>
        intro a
        simp only [List.foldl_cons]
        rw [show max (a + 1) (y + 1) = max a y + 1 by omega, ih]
    simp only [topN, maxN, List.foldl_cons]
    rw [show max 0 (x + 1) = x + 1 by omega, key]
end Go.St
