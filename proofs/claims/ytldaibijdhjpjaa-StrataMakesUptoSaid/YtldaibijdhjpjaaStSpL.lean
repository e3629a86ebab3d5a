/- The order of rules and of literals changes no number. -/
import Derived.Test.YtldaibijdhjpjaaStSpK
set_option linter.unusedSimpArgs false
set_option linter.unusedVariables false
namespace Go.St
open Go.Aw
def revR (r : RuleD) : RuleD := { r with body := r.body.reverse }
/-- the same program, in another order -/
structure Turned (m n : MMod) : Prop where
  rels : n.rels = m.rels
  nevers : n.nevers = m.nevers
  fwd : ∀ r ∈ m.rules, revR r ∈ n.rules
  bwd : ∀ r' ∈ n.rules, ∃ r ∈ m.rules, r' = revR r
  len : n.rules.length = m.rules.length
theorem Turned.At {m n : MMod} (h : Turned m n) (nm : ByteArray) : St.At n nm = St.At m nm := by unfold St.At; rw [h.rels]
theorem Turned.idx {m n : MMod} (h : Turned m n) (nm : ByteArray) : St.idx n nm = St.idx m nm := by unfold St.idx; rw [h.At]
theorem badLit_iff (m : MMod) : ∀ l : List LitD, badLit m l = none ↔ ∀ x ∈ l, leads x = true → 0 ≤ At m x.rel
  | [] => by simp [badLit]
  | y :: l => by
    simp only [badLit]
    by_cases h : (leads y && decide (At m y.rel < 0)) = true
    · rw [if_pos h]
      simp only [Bool.and_eq_true, decide_eq_true_eq] at h
      constructor
      · intro h'; cases h'
      · intro h'; have := h' y (by simp) h.1; omega
    · rw [if_neg h, badLit_iff m l]
      constructor
      · intro h' x hx hl
        rcases List.mem_cons.1 hx with rfl | hx
        · simp [hl] at h; exact h
        · exact h' x hx hl
      · intro h' x hx hl; exact h' x (by simp [hx]) hl
theorem rulesE_iff (m : MMod) : ∀ l : List RuleD, rulesE m l = none ↔ ∀ r ∈ l, 0 ≤ At m r.rel ∧ badLit m r.body = none
  | [] => by simp [rulesE]
  | y :: l => by
    simp only [rulesE]
    by_cases h : At m y.rel < 0
    · rw [if_pos h]
      constructor
      · intro h'; cases h'
      · intro h'; have := (h' y (by simp)).1; omega
    · rw [if_neg h]
      cases hb : badLit m y.body with
      | some p =>
        simp only
        constructor
        · intro h'; cases h'
        · intro h'; have := (h' y (by simp)).2; rw [hb] at this; cases this
      | none =>
        simp only
        rw [rulesE_iff m l]
        constructor
        · intro h' x hx
          rcases List.mem_cons.1 hx with rfl | hx
          · exact ⟨by omega, hb⟩
          · exact h' x hx
        · intro h' x hx; exact h' x (by simp [hx])
theorem checkE_code (m : MMod) : (checkE m).2 = if relsE m m.rels 0 ≠ none then 6 else if rulesE m m.rules ≠ none ∨ neversE m m.nevers ≠ none then 63 else 0 := by
  unfold checkE
  cases h1 : relsE m m.rels 0 with
  | some p => simp [relsE_some m _ _ _ h1]
  | none =>
    cases h2 : rulesE m m.rules with
    | some p => simp [rulesE_some m _ _ h2]
    | none =>
      cases h3 : neversE m m.nevers with
      | some p => simp [neversE_some m _ _ h3]
      | none => simp [okE]
theorem Turned.rulesE {m n : MMod} (h : Turned m n) : rulesE n n.rules = none ↔ St.rulesE m m.rules = none := by
  rw [rulesE_iff, rulesE_iff]
  have hb : ∀ r, badLit n (revR r).body = none ↔ badLit m r.body = none := by
    intro r
    rw [badLit_iff, badLit_iff]
    simp only [revR, List.mem_reverse, h.At]
  constructor
  · intro hn r hr
    have := hn _ (h.fwd r hr)
    rw [hb, h.At] at this; exact this
  · intro hm r' hr'
    obtain ⟨r, hr, rfl⟩ := h.bwd r' hr'
    rw [hb, h.At]; exact hm r hr
theorem Turned.relsE {m n : MMod} (h : Turned m n) : ∀ (l : List RelD) (i : Nat), St.relsE n l i = St.relsE m l i
  | [], _ => rfl
  | r :: l, i => by simp only [St.relsE, h.At, Turned.relsE h l]
theorem Turned.neversE {m n : MMod} (h : Turned m n) : ∀ (l : List NevD), St.neversE n l = St.neversE m l := by
  have hb : ∀ l, badLit n l = badLit m l := by
    intro l
    induction l with
    | nil => rfl
    | cons x l ih => simp only [badLit, h.At, ih]
  intro l
  induction l with
  | nil => rfl
  | cons x l ih => simp only [St.neversE, hb, ih]
theorem Turned.code {m n : MMod} (h : Turned m n) : (checkE n).2 = (checkE m).2 := by
  rw [checkE_code, checkE_code, h.rels, h.nevers, h.relsE, h.neversE]
  have := h.rulesE
  by_cases h1 : St.rulesE m m.rules = none
  · rw [this.2 h1, h1]
  · have h2 : ¬ St.rulesE n n.rules = none := fun e => h1 (this.1 e)
    simp [h1, h2]
theorem Turned.edge {m n : MMod} (h : Turned m n) (a b : Nat) : EdgeOf n a b ↔ EdgeOf m a b := by
  unfold EdgeOf
  constructor
  · rintro ⟨r', hr', x, hx, hl, h1, h2⟩
    obtain ⟨r, hr, rfl⟩ := h.bwd r' hr'
    rw [h.idx] at h1 h2
    exact ⟨r, hr, x, by simpa [revR] using hx, hl, h1, h2⟩
  · rintro ⟨r, hr, x, hx, hl, h1, h2⟩
    exact ⟨revR r, h.fwd r hr, x, by simpa [revR] using hx, hl, by rw [h.idx]; exact h1, by rw [h.idx]; exact h2⟩
theorem Turned.reach {m n : MMod} (h : Turned m n) (hg : Good m) (hs : Small m) (hg' : Good n) (hs' : Small n) (a b : Nat) : Reach (nextOf (graphOf n)) a b ↔ Reach (nextOf (graphOf m)) a b := by
  constructor
  · intro hr
    induction hr with
    | one h1 => exact .one ((next_iff hg hs _ _).2 ((h.edge _ _).1 ((next_iff hg' hs' _ _).1 h1)))
    | step _ h1 ih => exact .step ih ((next_iff hg hs _ _).2 ((h.edge _ _).1 ((next_iff hg' hs' _ _).1 h1)))
  · intro hr
    induction hr with
    | one h1 => exact .one ((next_iff hg' hs' _ _).2 ((h.edge _ _).2 ((next_iff hg hs _ _).1 h1)))
    | step _ h1 ih => exact .step ih ((next_iff hg' hs' _ _).2 ((h.edge _ _).2 ((next_iff hg hs _ _).1 h1)))
theorem grouped_rev (r : RuleD) : grouped (revR r) = grouped r := rfl
theorem Turned.sat {m n : MMod} (h : Turned m n) (f : Nat → Nat) : satF (graphOf n) f ↔ satF (graphOf m) f := by
  rw [satF_iff, satF_iff]
  constructor
  · intro hn r hr x hx hl
    have := hn _ (h.fwd r hr) x (by simpa [revR] using hx) hl
    rw [h.idx, h.idx] at this; exact this
  · intro hm r' hr' x hx hl
    obtain ⟨r, hr, rfl⟩ := h.bwd r' hr'
    have := hm r hr x (by simpa [revR] using hx) hl
    rw [h.idx, h.idx]; exact this
open Classical in
theorem pick_eq {p q : List Nat → Prop} (e : p = q) : (if h : ∃ of, p of then h.choose else []) = (if h : ∃ of, q of then h.choose else []) := by subst e; rfl
theorem Turned.least {m n : MMod} (h : Turned m n) : leastOf (graphOf n) = leastOf (graphOf m) := by
  have hn : (graphOf n).n = (graphOf m).n := by simp only [graphOf, h.rels]
  have : IsLeast (graphOf n) = IsLeast (graphOf m) := by
    funext of
    apply propext
    constructor
    · rintro ⟨h1, h2, h3⟩
      exact ⟨by rw [← hn]; exact h1, (h.sat _).1 h2, fun f hf => h3 f ((h.sat f).2 hf)⟩
    · rintro ⟨h1, h2, h3⟩
      exact ⟨by rw [hn]; exact h1, (h.sat _).2 h2, fun f hf => h3 f ((h.sat f).1 hf)⟩
  exact pick_eq this
theorem litB_turn {m n : MMod} (h : Turned m n) (hg : Good m) (hs : Small m) (hg' : Good n) (hs' : Small n) {r : RuleD} (hr : r ∈ m.rules) {x : LitD} (hx : x ∈ r.body) : litB n (revR r) x = litB m r x := by
  by_cases hl : leads x = true
  · rw [litB_bad hg hr hx hl, litB_bad hg' (h.fwd r hr) (by simpa [revR] using hx) hl]
    have h1 := idx_lt (hg.heads r hr)
    have h1' : idx m r.rel < (graphOf n).n := by simpa [graphOf, h.rels] using h1
    have h1'' : idx m r.rel < (graphOf m).n := h1
    have e1 : idx n (revR r).rel = idx m r.rel := h.idx _
    have e2 : (mkEdge n (grouped (revR r)) x).to = (mkEdge m (grouped r) x).to := h.idx _
    have e3 : (mkEdge n (grouped (revR r)) x).strict = (mkEdge m (grouped r) x).strict := rfl
    unfold badE
    rw [e1, e2, e3]
    congr 2
    rw [Bool.eq_iff_iff, reachRow_at _ _ _ _ h1', reachRow_at _ _ _ _ h1'', h.reach hg hs hg' hs']
  · simp [litB, hl]
theorem Turned.round {m n : MMod} (h : Turned m n) (hg : Good m) (hs : Small m) (hg' : Good n) (hs' : Small n) : roundB n = roundB m := by
  unfold roundB
  rw [Bool.eq_iff_iff]
  simp only [List.any_eq_true]
  constructor
  · rintro ⟨r', hr', x, hx, hb⟩
    obtain ⟨r, hr, rfl⟩ := h.bwd r' hr'
    have hx' : x ∈ r.body := by simpa [revR] using hx
    exact ⟨r, hr, x, hx', by rw [← litB_turn h hg hs hg' hs' hr hx']; exact hb⟩
  · rintro ⟨r, hr, x, hx, hb⟩
    exact ⟨revR r, h.fwd r hr, x, by simpa [revR] using hx, by rw [litB_turn h hg hs hg' hs' hr hx]; exact hb⟩
theorem Turned.small {m n : MMod} (h : Turned m n) (hs : Small m) : Small n := by
  refine ⟨by rw [h.rels]; exact hs.rels, by rw [h.len]; exact hs.rules, fun r' hr' => ?_⟩
  obtain ⟨r, hr, rfl⟩ := h.bwd r' hr'
  simpa [revR] using hs.bodies r hr
theorem Turned.ok {m n : MMod} (h : Turned m n) (hm : m.ok) : n.ok := by
  refine ⟨by rw [h.rels]; exact hm.rels, by rw [h.len]; exact hm.rules, by rw [h.nevers]; exact hm.nevers, fun r' hr' => ?_, fun r' hr' => ?_, by rw [h.nevers]; exact hm.nbodies⟩
  · obtain ⟨r, hr, rfl⟩ := h.bwd r' hr'
    exact hm.aggs r hr
  · obtain ⟨r, hr, rfl⟩ := h.bwd r' hr'
    simpa [revR] using hm.bodies r hr
/-- what the law says -/
theorem Turned.make {m n : MMod} (h : Turned m n) (hs : Small m) : (progMake n).2.2 = (progMake m).2.2 ∧ (progMake n).1.of = (progMake m).1.of := by
  have hs' := h.small hs
  have hc := h.code
  unfold progMake
  rw [hc]
  by_cases he : (checkE m).2 = 0
  · rw [if_pos he, if_pos he]
    have hg := Check_good hs.rels he
    have hg' := Check_good hs'.rels (by rw [hc]; exact he)
    have h1 := roundB_iff hg
    have h2 := roundB_iff hg'
    rw [h.round hg hs hg' hs', h1] at h2
    have hof : ∀ m : MMod, (strataOf (graphOf m) (leastOf (graphOf m))).of = leastOf (graphOf m) := by intro m; unfold strataOf; split <;> rfl
    cases hm : refuse1 (graphOf m) (graphOf m).pairs with
    | none =>
      rw [hm] at h2
      cases hn : refuse1 (graphOf n) (graphOf n).pairs with
      | none => rw [makeOf_none hm, makeOf_none hn]; exact ⟨rfl, by rw [hof, hof, h.least]⟩
      | some p => rw [hn] at h2; cases h2
    | some q =>
      rw [hm] at h2
      cases hn : refuse1 (graphOf n) (graphOf n).pairs with
      | none => rw [hn] at h2; cases h2
      | some p => rw [makeOf_some hm, makeOf_some hn]; exact ⟨rfl, rfl⟩
  · rw [if_neg he, if_neg he]; exact ⟨hc, rfl⟩
end Go.St
