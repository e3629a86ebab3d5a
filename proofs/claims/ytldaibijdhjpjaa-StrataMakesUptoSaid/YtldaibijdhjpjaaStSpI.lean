/- What Make of the program comes to: the least numbers. -/
import Derived.Test.YtldaibijdhjpjaaStSpH
set_option linter.unusedSimpArgs false
set_option linter.unusedVariables false
namespace Go.St
open Go.Aw
def str (e : Edge) : Nat := if e.strict then 1 else 0
/-- rules, each with its edges -/
def Graph.pairs (g : Graph) : List (Nat × List Edge) := g.heads.zip g.edges
noncomputable def badE (g : Graph) (h : Nat) (e : Edge) : Bool := e.strict && (decide (e.to = h) || (reachRow (nextOf g) g.n e.to).getD h false)
noncomputable def refuse2 (g : Graph) (h : Nat) : List Edge → Option (Int × Int)
  | [] => none
  | e :: l => if badE g h e then some (e.line, e.col) else refuse2 g h l
noncomputable def refuse1 (g : Graph) : List (Nat × List Edge) → Option (Int × Int)
  | [] => none
  | p :: l => match refuse2 g p.1 p.2 with | some q => some q | none => refuse1 g l
theorem refuse2_drop (g : Graph) (h : Nat) (l : List Edge) (k : Nat) (hk : k < l.length) : refuse2 g h (l.drop k) = if badE g h l[k] then some (l[k].line, l[k].col) else refuse2 g h (l.drop (k + 1)) := by
  rw [List.drop_eq_getElem_cons hk]; rfl
theorem pairs_len {g : Graph} (hg : g.ok) : g.pairs.length = g.heads.length := by simp [Graph.pairs, hg.len]
theorem pairs_at {g : Graph} (k : Nat) (h1 : k < g.heads.length) (h2 : k < g.edges.length) (h3 : k < g.pairs.length) : g.pairs[k] = (g.heads[k], g.edges[k]) := by simp [Graph.pairs]
theorem refuse1_drop {g : Graph} (hg : g.ok) (k : Nat) (h1 : k < g.heads.length) (h2 : k < g.edges.length) : refuse1 g (g.pairs.drop k) = match refuse2 g g.heads[k] g.edges[k] with | some q => some q | none => refuse1 g (g.pairs.drop (k + 1)) := by
  have h3 : k < g.pairs.length := by rw [pairs_len hg]; exact h1
  rw [List.drop_eq_getElem_cons h3, pairs_at k h1 h2 h3]; rfl
/-- numbers that fit each edge -/
def satF (g : Graph) (f : Nat → Nat) : Prop := ∀ p ∈ g.pairs, ∀ e ∈ p.2, f e.to + str e ≤ f p.1
def satL (g : Graph) (f : Nat → Nat) (l : List (Nat × List Edge)) : Prop := ∀ p ∈ l, ∀ e ∈ p.2, f e.to + str e ≤ f p.1
def fn (of : List Nat) (i : Nat) : Nat := of.getD i 0
def below (g : Graph) (of : List Nat) : Prop := ∀ f, satF g f → ∀ i, fn of i ≤ f i
structure IsLeast (g : Graph) (of : List Nat) : Prop where
  len : of.length = g.n
  sat : satF g (fn of)
  low : below g of
theorem IsLeast.unique {g : Graph} {a b : List Nat} (ha : IsLeast g a) (hb : IsLeast g b) : a = b := by
  apply List.ext_getElem (by rw [ha.len, hb.len])
  intro i h1 h2
  have e1 := ha.low _ hb.sat i
  have e2 := hb.low _ ha.sat i
  simp only [fn, List.getD_eq_getElem?_getD, List.getElem?_eq_getElem h1, List.getElem?_eq_getElem h2, Option.getD_some] at e1 e2
  omega
open Classical in
noncomputable def leastOf (g : Graph) : List Nat := if h : ∃ of, IsLeast g of then h.choose else []
theorem leastOf_eq {g : Graph} {of : List Nat} (h : IsLeast g of) : leastOf g = of := by
  have h' : ∃ of, IsLeast g of := ⟨of, h⟩
  unfold leastOf
  rw [dif_pos h']
  exact h'.choose_spec.unique h
open Classical in
/-- what is reached, and from where one does not come back -/
noncomputable def cnt (g : Graph) (i : Nat) : Nat := ((List.range g.n).filter fun y => decide (Reach (nextOf g) i y ∧ ¬ Reach (nextOf g) y i)).length
theorem cnt_le (g : Graph) (i : Nat) : cnt g i ≤ g.n := by
  classical
  unfold cnt
  have := List.length_filter_le (fun y => decide (Reach (nextOf g) i y ∧ ¬ Reach (nextOf g) y i)) (List.range g.n)
  simpa using this
theorem filter_len_le {α : Type} {p q : α → Bool} : ∀ (l : List α), (∀ x ∈ l, p x = true → q x = true) → (l.filter p).length ≤ (l.filter q).length
  | [], _ => by simp
  | x :: l, h => by
    have ih := filter_len_le l (fun y hy => h y (by simp [hy]))
    have hx := h x (by simp)
    simp only [List.filter_cons]
    cases hp : p x with
    | true => rw [hx hp]; simp; omega
    | false =>
      cases q x with
      | true => simp; omega
      | false => simpa using ih
theorem filter_len_lt {α : Type} {p q : α → Bool} : ∀ (l : List α) (a : α), a ∈ l → p a = false → q a = true → (∀ x ∈ l, p x = true → q x = true) → (l.filter p).length + 1 ≤ (l.filter q).length
  | [], a, ha, _, _, _ => by simp at ha
  | x :: l, a, ha, h1, h2, h => by
    have hx := h x (by simp)
    simp only [List.filter_cons]
    rcases List.mem_cons.1 ha with rfl | ha
    · have ih := filter_len_le l (fun y hy => h y (by simp [hy]))
      rw [h1, h2]; simp; omega
    · have ih := filter_len_lt l a ha h1 h2 (fun y hy => h y (by simp [hy]))
      cases hp : p x with
      | true => rw [hx hp]; simp; omega
      | false =>
        cases q x with
        | true => simp; omega
        | false => simpa using ih
theorem edge_next {g : Graph} (hg : g.ok) {p : Nat × List Edge} (hp : p ∈ g.pairs) {e : Edge} (he : e ∈ p.2) : e.to ∈ (nextOf g).getD p.1 [] ∧ p.1 < g.n ∧ e.to < g.n := by
  obtain ⟨i, hi, rfl⟩ := List.mem_iff_getElem.1 hp
  have h1 : i < g.heads.length := by rw [pairs_len hg] at hi; exact hi
  have h2 : i < g.edges.length := by rw [hg.len]; exact h1
  rw [pairs_at i h1 h2 hi] at he ⊢
  refine ⟨?_, hg.heads _ (List.getElem_mem h1), hg.tos _ (List.getElem_mem h2) _ he⟩
  unfold nextOf
  rw [mem_next g hg _ (Nat.le_refl _)]
  exact ⟨i, h1, by simp [List.getD_eq_getElem?_getD, h1], e, by simpa [List.getD_eq_getElem?_getD, h2] using he, rfl⟩
theorem refuse2_none {g : Graph} {h : Nat} : ∀ {l : List Edge}, refuse2 g h l = none → ∀ e ∈ l, badE g h e = false
  | [], _ => by simp
  | x :: l, hn => by
    simp only [refuse2] at hn
    split at hn
    · cases hn
    · rename_i hb
      intro e he
      rcases List.mem_cons.1 he with rfl | he
      · simpa using hb
      · exact refuse2_none hn e he
theorem refuse1_none {g : Graph} : ∀ {l : List (Nat × List Edge)}, refuse1 g l = none → ∀ p ∈ l, ∀ e ∈ p.2, badE g p.1 e = false
  | [], _ => by simp
  | x :: l, hn => by
    simp only [refuse1] at hn
    split at hn
    · cases hn
    · rename_i hb
      intro p hp
      rcases List.mem_cons.1 hp with rfl | hp
      · exact refuse2_none hb
      · exact refuse1_none hn p hp
theorem reachRow_at (next : List (List Nat)) (n i y : Nat) (h : y < n) : (reachRow next n i).getD y false = true ↔ Reach next i y := by
  simp [reachRow, List.getD_eq_getElem?_getD, h]
theorem cnt_sat {g : Graph} (hg : g.ok) (h : refuse1 g g.pairs = none) : satF g (cnt g) := by
  classical
  intro p hp e he
  obtain ⟨h1, h2, h3⟩ := edge_next hg hp he
  have hr : Reach (nextOf g) p.1 e.to := .one h1
  have hb := refuse1_none h p hp e he
  have hsub : ∀ x ∈ List.range g.n, decide (Reach (nextOf g) e.to x ∧ ¬ Reach (nextOf g) x e.to) = true → decide (Reach (nextOf g) p.1 x ∧ ¬ Reach (nextOf g) x p.1) = true := by
    intro x _ hx
    simp only [decide_eq_true_eq] at hx ⊢
    exact ⟨hr.trans hx.1, fun hy => hx.2 (hy.trans hr)⟩
  unfold cnt str
  by_cases hs : e.strict = true
  · rw [if_pos hs]
    have : ¬ Reach (nextOf g) e.to p.1 := by
      intro hc
      have := (reachRow_at (nextOf g) g.n e.to p.1 h2).2 hc
      rw [badE, hs, this] at hb
      simp at hb
    refine filter_len_lt _ e.to (by simpa using h3) ?_ ?_ hsub
    · simp only [decide_eq_false_iff_not]; exact fun hc => hc.2 hc.1
    · simp only [decide_eq_true_eq]; exact ⟨hr, this⟩
  · rw [if_neg hs]; exact filter_len_le _ hsub
theorem below_le {g : Graph} (hg : g.ok) (h : refuse1 g g.pairs = none) {of : List Nat} (hb : below g of) (i : Nat) : fn of i ≤ g.n :=
  Nat.le_trans (hb _ (cnt_sat hg h) i) (cnt_le g i)
/-- what is still to be gone -/
def slack (n : Nat) (of : List Nat) : Nat := (of.map fun x => n - x).sum
theorem slack_set {n : Nat} : ∀ {of : List Nat} {h v : Nat}, h < of.length → fn of h < v → v ≤ n → slack n (of.set h v) + 1 ≤ slack n of
  | [], _, _, hl, _, _ => by simp at hl
  | x :: l, 0, v, _, h1, h2 => by simp [slack, fn] at h1 ⊢; omega
  | x :: l, h + 1, v, hl, h1, h2 => by
    have := slack_set (of := l) (h := h) (v := v) (by simpa using hl) (by simpa [fn] using h1) h2
    simp only [slack, List.set_cons_succ, List.map_cons, List.sum_cons] at this ⊢
    omega
theorem fn_set {of : List Nat} {h v : Nat} (hl : h < of.length) (i : Nat) : fn (of.set h v) i = if i = h then v else fn of i := by
  unfold fn
  rw [List.getD_eq_getElem?_getD, List.getElem?_set]
  by_cases e : h = i
  · subst e; simp [hl]
  · have : ¬ i = h := fun h => e h.symm
    rw [if_neg e, if_neg this, ← List.getD_eq_getElem?_getD]
/-- the round, under way: what was gone through fits, if nothing was raised -/
structure Rnd (g : Graph) (s0 : Nat) (l : List (Nat × List Edge)) (of : List Nat) (ch : Bool) : Prop where
  len : of.length = g.n
  low : below g of
  sl : slack g.n of ≤ s0
  chg : ch = true → slack g.n of + 1 ≤ s0
  fit : ch = false → satL g (fn of) l
theorem Rnd.step {g : Graph} (hg : g.ok) (hr : refuse1 g g.pairs = none) {s0 : Nat} {l : List (Nat × List Edge)} {of : List Nat} {ch : Bool} {h : Nat} {es : List Edge} {k : Nat} (hk : k < es.length) (hp : (h, es) ∈ g.pairs)
    (hR : Rnd g s0 (l ++ [(h, es.take k)]) of ch) (hlt : fn of h < fn of es[k].to + str es[k]) : Rnd g s0 (l ++ [(h, es.take (k + 1))]) (of.set h (fn of es[k].to + str es[k])) true := by
  have hh : h < of.length := by
    have := (edge_next hg hp (List.getElem_mem hk)).2.1
    rw [hR.len]; exact this
  have hlow : below g (of.set h (fn of es[k].to + str es[k])) := by
    intro f hf i
    rw [fn_set hh]
    split
    · rename_i e; subst e
      have h1 := hR.low f hf es[k].to
      have h2 := hf _ hp _ (List.getElem_mem hk)
      simp only at h2
      omega
    · exact hR.low f hf i
  have hle := below_le hg hr hlow h
  rw [fn_set hh, if_pos rfl] at hle
  have hs := slack_set (n := g.n) hh hlt hle
  have hsl := hR.sl
  exact ⟨by simp [hR.len], hlow, by omega, fun _ => by omega, fun h => by cases h⟩
theorem Rnd.skip {g : Graph} {s0 : Nat} {l : List (Nat × List Edge)} {of : List Nat} {ch : Bool} {h : Nat} {es : List Edge} {k : Nat} (hk : k < es.length)
    (hR : Rnd g s0 (l ++ [(h, es.take k)]) of ch) (hge : ¬ fn of h < fn of es[k].to + str es[k]) : Rnd g s0 (l ++ [(h, es.take (k + 1))]) of ch := by
  refine ⟨hR.len, hR.low, hR.sl, hR.chg, fun hc p hp e he => ?_⟩
  rcases List.mem_append.1 hp with hp | hp
  · exact hR.fit hc p (by simp [hp]) e he
  · simp at hp; subst hp
    rw [List.take_add_one, List.getElem?_eq_getElem hk] at he
    rcases List.mem_append.1 he with he | he
    · exact hR.fit hc (h, es.take k) (by simp) e he
    · simp at he; subst he; simp only; omega
theorem Rnd.open {g : Graph} {s0 : Nat} {l : List (Nat × List Edge)} {of : List Nat} {ch : Bool} (h : Nat) (es : List Edge) (hR : Rnd g s0 l of ch) : Rnd g s0 (l ++ [(h, es.take 0)]) of ch := by
  refine ⟨hR.len, hR.low, hR.sl, hR.chg, fun hc p hp e he => ?_⟩
  rcases List.mem_append.1 hp with hp | hp
  · exact hR.fit hc p hp e he
  · simp at hp; subst hp; simp at he
theorem Rnd.close {g : Graph} {s0 : Nat} {of : List Nat} {ch : Bool} {k : Nat} (hk : k < g.pairs.length) (hR : Rnd g s0 (g.pairs.take k ++ [g.pairs[k]]) of ch) : Rnd g s0 (g.pairs.take (k + 1)) of ch := by
  rw [List.take_add_one, List.getElem?_eq_getElem hk]; exact hR
theorem Rnd.least {g : Graph} {s0 k : Nat} {of : List Nat} (hk : g.pairs.length ≤ k) (hR : Rnd g s0 (g.pairs.take k) of false) : IsLeast g of := by
  refine ⟨hR.len, ?_, hR.low⟩
  have := hR.fit rfl
  rw [List.take_of_length_le hk] at this
  exact this
theorem below_zero (g : Graph) : below g (List.replicate g.n 0) := by
  intro f _ i
  unfold fn
  rw [List.getD_eq_getElem?_getD, List.getElem?_replicate]
  split <;> simp
/-- the greatest of numbers -/
def maxN : List Nat → Nat
  | [] => 0
  | x :: l => l.foldl max x
theorem maxN_le : ∀ (l : List Nat), ∀ x ∈ l, x ≤ maxN l
  | [], x, hx => by simp at hx
  | y :: l, x, hx => by
    have key : ∀ (l : List Nat) (a : Nat), a ≤ l.foldl max a ∧ ∀ x ∈ l, x ≤ l.foldl max a := by
      intro l
      induction l with
      | nil => intro a; simp
      | cons b l ih =>
        intro a
        have h1 := ih (max a b)
        simp only [List.foldl_cons]
        refine ⟨by omega, fun x hx => ?_⟩
        rcases List.mem_cons.1 hx with rfl | hx
        · omega
        · exact h1.2 x hx
    rcases List.mem_cons.1 hx with rfl | hx
    · exact (key l x).1
    · exact (key l y).2 x hx
theorem maxN_mem : ∀ (l : List Nat), l ≠ [] → maxN l ∈ l
  | [], h => absurd rfl h
  | y :: l, _ => by
    have key : ∀ (l : List Nat) (a : Nat), l.foldl max a = a ∨ l.foldl max a ∈ l := by
      intro l
      induction l with
      | nil => intro a; simp
      | cons b l ih =>
        intro a
        simp only [List.foldl_cons]
        rcases ih (max a b) with h | h
        · rw [h]
          by_cases hab : a ≤ b
          · right; rw [Nat.max_eq_right hab]; simp
          · left; exact Nat.max_eq_left (by omega)
        · right; simp [h]
    rcases key l y with h | h
    · simp only [maxN, h]; simp
    · simp only [maxN]; simp [h]
/-- what has a number, in order -/
def pileStep (nums : List Nat) (k : Nat) (out : List (List Nat)) : List (List Nat) := out.set (nums.getD k 0) (out.getD (nums.getD k 0) [] ++ [k])
def pile (nums : List Nat) (top : Nat) : List (List Nat) := itr (pileStep nums) nums.length (List.replicate top [])
theorem pile_len (nums : List Nat) (top k : Nat) : (itr (pileStep nums) k (List.replicate top [])).length = top :=
  itr_inv (p := fun (x : List (List Nat)) => x.length = top) k (fun _ _ x hx => by simp [pileStep, hx]) k (Nat.le_refl _) _ (by simp)
theorem pileStep_short (nums : List Nat) (a k : Nat) (x : List (List Nat)) (h : shortRows k x) : shortRows (k + 1) (pileStep nums a x) := nxStep_short (nums.getD a 0) k ⟨a, false, 0, 0⟩ x h
theorem pile_short (nums : List Nat) (top : Nat) : ∀ k, shortRows k (itr (pileStep nums) k (List.replicate top []))
  | 0 => by intro r hr; rw [List.eq_of_mem_replicate hr]; simp
  | k + 1 => pileStep_short nums k k _ (pile_short nums top k)
structure StrataD where
  of : List Nat
  rels : List (List Nat)
  rules : List (List Nat)
def rulesOf (g : Graph) (of : List Nat) : List Nat := g.heads.map (fn of)
def strataOf (g : Graph) (of : List Nat) : StrataD := if g.n = 0 then ⟨of, [], []⟩ else ⟨of, pile of (maxN of + 1), pile (rulesOf g of) (maxN of + 1)⟩
noncomputable def makeOf (g : Graph) : StrataD × PosE := match refuse1 g g.pairs with | some p => (⟨[], [], []⟩, (p, 73)) | none => (strataOf g (leastOf g), okE)
noncomputable def progMake (m : MMod) : StrataD × PosE := if (checkE m).2 = 0 then makeOf (graphOf m) else (⟨[], [], []⟩, checkE m)
theorem makeOf_some {g : Graph} {p : Int × Int} (h : refuse1 g g.pairs = some p) : makeOf g = (⟨[], [], []⟩, (p, 73)) := by unfold makeOf; rw [h]
theorem makeOf_none {g : Graph} (h : refuse1 g g.pairs = none) : makeOf g = (strataOf g (leastOf g), okE) := by unfold makeOf; rw [h]
end Go.St
