/- The closure of the reference and the search of the program come to the same. -/
import Derived.Test.YtldaibijdhjpjaaStSpG
set_option linter.unusedSimpArgs false
set_option linter.unusedVariables false
namespace Go.St
open Go.Aw
def ent (n : Nat) (out : List Bool) (a b : Nat) : Bool := out.getD (a * n + b) false
theorem sq_inj {n a b a' b' : Nat} (hb : b < n) (hb' : b' < n) (h : a * n + b = a' * n + b') : a = a' ∧ b = b' := by
  have hn : 0 < n := by omega
  have h1 : (a * n + b) / n = a := by rw [Nat.add_comm, Nat.add_mul_div_right _ _ hn, Nat.div_eq_of_lt hb]; omega
  have h2 : (a' * n + b') / n = a' := by rw [Nat.add_comm, Nat.add_mul_div_right _ _ hn, Nat.div_eq_of_lt hb']; omega
  have : a = a' := by rw [← h1, ← h2, h]
  subst this
  exact ⟨rfl, by omega⟩
theorem ent_set {n : Nat} {out : List Bool} (hl : out.length = n * n) {a b a' b' : Nat} (ha : a < n) (hb : b < n) (hb' : b' < n) : ent n (out.set (a * n + b) true) a' b' = (ent n out a' b' || (decide (a' = a) && decide (b' = b))) := by
  have hlt := sq_lt ha hb
  unfold ent
  rw [List.getD_eq_getElem?_getD, List.getElem?_set]
  by_cases e : a * n + b = a' * n + b'
  · obtain ⟨rfl, rfl⟩ := sq_inj hb hb' e
    simp [hl, hlt]
  · rw [if_neg e, ← List.getD_eq_getElem?_getD]
    have : ¬ (a' = a ∧ b' = b) := by rintro ⟨rfl, rfl⟩; exact e rfl
    by_cases h1 : a' = a <;> by_cases h2 : b' = b <;> simp_all
theorem ent_wStep {n v a b : Nat} {out : List Bool} (hl : out.length = n * n) {a' b' : Nat} (ha : a < n) (hb : b < n) (hb' : b' < n) :
    ent n (wStep n v a b out) a' b' = (ent n out a' b' || (decide (a' = a) && decide (b' = b) && ent n out a v && ent n out v b)) := by
  unfold wStep
  show ent n (if ent n out a v && ent n out v b then _ else _) a' b' = _
  by_cases h : (ent n out a v && ent n out v b) = true
  · rw [if_pos h, ent_set hl ha hb hb']
    simp only [Bool.and_eq_true] at h
    simp [h.1, h.2]
  · rw [if_neg h]
    cases h1 : ent n out a v <;> cases h2 : ent n out v b <;> simp_all
theorem ent_wA {n v a : Nat} {out : List Bool} (hl : out.length = n * n) (ha : a < n) (hv : v < n) : ∀ (k : Nat), k ≤ n → ∀ a' b', b' < n →
    ent n (itr (wStep n v a) k out) a' b' = (ent n out a' b' || (decide (a' = a) && decide (b' < k) && ent n out a v && ent n out v b'))
  | 0, _, a', b', _ => by simp [itr]
  | k + 1, hk, a', b', hb' => by
    have ih := ent_wA hl ha hv k (by omega)
    have hl' := wA_len n v a (n * n) k out hl
    rw [show itr (wStep n v a) (k + 1) out = wStep n v a k (itr (wStep n v a) k out) from rfl, ent_wStep hl' ha (by omega) hb', ih a' b' hb', ih a v hv, ih v k (by omega)]
    by_cases e1 : a' = a
    · subst e1
      by_cases e2 : b' = k
      · subst e2
        cases ent n out a' b' <;> cases ent n out a' v <;> cases ent n out v b' <;> simp
      · have : decide (b' < k + 1) = decide (b' < k) := by simp; omega
        simp [e2, this]
    · simp [e1]
theorem ent_wV {n v : Nat} {out : List Bool} (hl : out.length = n * n) (hv : v < n) : ∀ (k : Nat), k ≤ n → ∀ a' b', b' < n →
    ent n (itr (wA n v) k out) a' b' = (ent n out a' b' || (decide (a' < k) && ent n out a' v && ent n out v b'))
  | 0, _, a', b', _ => by simp [itr]
  | k + 1, hk, a', b', hb' => by
    have ih := ent_wV hl hv k (by omega)
    have hl' := wV_len n v (n * n) k out hl
    rw [show itr (wA n v) (k + 1) out = itr (wStep n v k) n (itr (wA n v) k out) from rfl, ent_wA hl' (by omega) hv n (Nat.le_refl _) a' b' hb', ih a' b' hb', ih k v hv, ih v b' hb']
    by_cases e1 : a' = k
    · subst e1
      have : decide (b' < n) = true := by simp [hb']
      cases ent n out a' b' <;> cases ent n out a' v <;> cases ent n out v b' <;> simp [hb']
    · have : decide (a' < k + 1) = decide (a' < k) := by simp; omega
      simp [e1, this]
theorem ent_stage {n v : Nat} {out : List Bool} (hl : out.length = n * n) (hv : v < n) {a b : Nat} (ha : a < n) (hb : b < n) : ent n (wV n v out) a b = (ent n out a b || (ent n out a v && ent n out v b)) := by
  rw [show wV n v out = itr (wA n v) n out from rfl, ent_wV hl hv n (Nat.le_refl _) a b hb]
  simp [ha]
/-- what the closure is: transitive through all that was looked at -/
theorem stages {n : Nat} {out : List Bool} (hl : out.length = n * n) (R : Nat → Nat → Prop) (hR : ∀ a b c, R a b → R b c → R a c) (h0 : ∀ a b, a < n → b < n → ent n out a b = true → R a b) : ∀ k, k ≤ n →
    (∀ a b, a < n → b < n → ent n out a b = true → ent n (itr (wV n) k out) a b = true) ∧ (∀ a b, a < n → b < n → ent n (itr (wV n) k out) a b = true → R a b) ∧
    ∀ u a b, u < k → a < n → b < n → ent n (itr (wV n) k out) a u = true → ent n (itr (wV n) k out) u b = true → ent n (itr (wV n) k out) a b = true
  | 0, _ => ⟨fun _ _ _ _ h => h, h0, fun _ _ _ h => by omega⟩
  | k + 1, hk => by
    obtain ⟨h1, h2, h3⟩ := stages hl R hR h0 k (by omega)
    have hl' := wW_len n (n * n) k out hl
    have hst : ∀ {a b}, a < n → b < n → ent n (itr (wV n) (k + 1) out) a b = (ent n (itr (wV n) k out) a b || (ent n (itr (wV n) k out) a k && ent n (itr (wV n) k out) k b)) := fun ha hb => ent_stage hl' (by omega) ha hb
    refine ⟨fun a b ha hb h => ?_, fun a b ha hb h => ?_, fun u a b hu ha hb e1 e2 => ?_⟩
    · rw [hst ha hb, h1 a b ha hb h]; rfl
    · rw [hst ha hb] at h
      rcases Bool.or_eq_true _ _ ▸ h with h | h
      · exact h2 a b ha hb h
      · simp only [Bool.and_eq_true] at h
        exact hR a k b (h2 a k ha (by omega) h.1) (h2 k b (by omega) hb h.2)
    · rw [hst ha (by omega)] at e1
      rw [hst (by omega) hb] at e2
      rw [hst ha hb]
      simp only [Bool.or_eq_true, Bool.and_eq_true] at e1 e2 ⊢
      by_cases huk : u = k
      · subst huk
        have f1 : ent n (itr (wV n) u out) a u = true := e1.elim id (·.1)
        have f2 : ent n (itr (wV n) u out) u b = true := e2.elim id (·.2)
        exact .inr ⟨f1, f2⟩
      · have hu' : u < k := by omega
        rcases e1 with e1 | ⟨e1, e1'⟩
        · rcases e2 with e2 | ⟨e2, e2'⟩
          · exact .inl (h3 u a b hu' ha hb e1 e2)
          · exact .inr ⟨h3 u a k hu' ha (by omega) e1 e2, e2'⟩
        · rcases e2 with e2 | ⟨e2, e2'⟩
          · exact .inr ⟨e1, h3 u k b hu' (by omega) hb e1' e2⟩
          · exact .inr ⟨e1, e2'⟩
/-- an edge of the program -/
def EdgeOf (m : MMod) (a b : Nat) : Prop := ∃ r ∈ m.rules, ∃ x ∈ r.body, leads x = true ∧ idx m r.rel = a ∧ idx m x.rel = b
theorem ent_replicate (n k a b : Nat) : ent n (List.replicate k false) a b = false := by
  unfold ent
  rw [List.getD_eq_getElem?_getD, List.getElem?_replicate]
  split <;> rfl
theorem ent_base {m : MMod} (hg : Good m) {a b : Nat} (hb : b < m.rels.length) : ent m.rels.length (base m) a b = true ↔ EdgeOf m a b := by
  have hbody : ∀ (r : RuleD) (hr : r ∈ m.rules) (l : List LitD) (hl : ∀ x ∈ l, x ∈ r.body) (out : List Bool), out.length = m.rels.length * m.rels.length →
      (ent m.rels.length (l.foldl (litStep m r) out) a b = true ↔ ent m.rels.length out a b = true ∨ ∃ x ∈ l, leads x = true ∧ idx m r.rel = a ∧ idx m x.rel = b) := by
    intro r hr l
    induction l with
    | nil => intro _ out _; simp
    | cons x l ih =>
      intro hl out ho
      have hx := hl x (by simp)
      rw [List.foldl_cons, ih (fun y hy => hl y (by simp [hy])) _ (litStep_len (r := r) x hx _ ho)]
      by_cases hld : leads x = true
      · have h1 := idx_lt (hg.heads r hr)
        have h2 := idx_lt (hg.lits r hr x hx hld)
        have : litStep m r out x = out.set (idx m r.rel * m.rels.length + idx m x.rel) true := by simp [litStep, hld]
        rw [this, ent_set ho h1 h2 hb]
        simp only [Bool.or_eq_true, Bool.and_eq_true, decide_eq_true_eq, List.mem_cons]
        constructor
        · rintro ((h | ⟨e1, e2⟩) | ⟨y, hy, h⟩)
          · exact .inl h
          · exact .inr ⟨x, .inl rfl, hld, e1.symm, e2.symm⟩
          · exact .inr ⟨y, .inr hy, h⟩
        · rintro (h | ⟨y, rfl | hy, h⟩)
          · exact .inl (.inl h)
          · exact .inl (.inr ⟨h.2.1.symm, h.2.2.symm⟩)
          · exact .inr ⟨y, hy, h⟩
      · have : litStep m r out x = out := by simp [litStep, hld]
        rw [this]
        constructor
        · rintro (h | ⟨y, hy, h⟩)
          · exact .inl h
          · exact .inr ⟨y, by simp [hy], h⟩
        · rintro (h | ⟨y, hy, h⟩)
          · exact .inl h
          · rcases List.mem_cons.1 hy with rfl | hy
            · exact absurd h.1 hld
            · exact .inr ⟨y, hy, h⟩
  have hrules : ∀ (l : List RuleD) (hl : ∀ r ∈ l, r ∈ m.rules) (out : List Bool), out.length = m.rels.length * m.rels.length →
      (ent m.rels.length (l.foldl (ruleStep m) out) a b = true ↔ ent m.rels.length out a b = true ∨ ∃ r ∈ l, ∃ x ∈ r.body, leads x = true ∧ idx m r.rel = a ∧ idx m x.rel = b) := by
    intro l
    induction l with
    | nil => intro _ out _; simp
    | cons r l ih =>
      intro hl out ho
      have hr := hl r (by simp)
      rw [List.foldl_cons, ih (fun y hy => hl y (by simp [hy])) _ (ruleStep_len r hr _ ho), show ruleStep m out r = r.body.foldl (litStep m r) out from rfl, hbody r hr r.body (fun _ h => h) out ho]
      constructor
      · rintro ((h | h) | ⟨y, hy, h⟩)
        · exact .inl h
        · exact .inr ⟨r, by simp, h⟩
        · exact .inr ⟨y, by simp [hy], h⟩
      · rintro (h | ⟨y, hy, h⟩)
        · exact .inl (.inl h)
        · rcases List.mem_cons.1 hy with rfl | hy
          · exact .inl (.inr h)
          · exact .inr ⟨y, hy, h⟩
  rw [base, hrules m.rules (fun _ h => h) _ (by simp), ent_replicate]
  simp [EdgeOf]
theorem mem_nxFold {h : Nat} : ∀ (l : List Edge) (x : List (List Nat)), h < x.length → ∀ a y, (y ∈ (l.foldl (nxStep h) x).getD a [] ↔ y ∈ x.getD a [] ∨ (a = h ∧ ∃ e ∈ l, e.to = y))
  | [], x, _, a, y => by simp
  | e :: l, x, hx, a, y => by
    rw [List.foldl_cons, mem_nxFold l _ (by simpa [nxStep] using hx)]
    have : (nxStep h x e).getD a [] = if a = h then x.getD h [] ++ [e.to] else x.getD a [] := by
      unfold nxStep
      rw [List.getD_eq_getElem?_getD, List.getElem?_set]
      by_cases e1 : h = a
      · subst e1; simp [hx]
      · have : ¬ a = h := fun h => e1 h.symm
        rw [if_neg e1, if_neg this, ← List.getD_eq_getElem?_getD]
    rw [this]
    by_cases e1 : a = h
    · subst e1
      simp only [if_true, List.mem_append, true_and, List.mem_cons, List.not_mem_nil, or_false]
      constructor
      · rintro ((h1 | rfl) | ⟨e', h1, h2⟩)
        · exact .inl h1
        · exact .inr ⟨e, .inl rfl, rfl⟩
        · exact .inr ⟨e', .inr h1, h2⟩
      · rintro (h1 | ⟨e', rfl | h1, h2⟩)
        · exact .inl (.inl h1)
        · exact .inl (.inr h2.symm)
        · exact .inr ⟨e', h1, h2⟩
    · simp [e1]
theorem mem_next (g : Graph) (hg : g.ok) : ∀ (k : Nat), k ≤ g.heads.length → ∀ a y, (y ∈ (itr (nxRule g) k (List.replicate g.n [])).getD a [] ↔ ∃ i, i < k ∧ g.heads.getD i 0 = a ∧ ∃ e ∈ g.edges.getD i [], e.to = y)
  | 0, _, a, y => by
    simp only [itr]
    rw [List.getD_eq_getElem?_getD, List.getElem?_replicate]
    constructor
    · intro h; split at h <;> simp at h
    · rintro ⟨i, h, _⟩; omega
  | k + 1, hk, a, y => by
    have hlen : (itr (nxRule g) k (List.replicate g.n [])).length = g.n := itr_inv (p := fun (x : List (List Nat)) => x.length = g.n) k (fun _ _ x hx => by unfold nxRule; rw [nxFold_len]; exact hx) k (Nat.le_refl _) _ (by simp)
    have hh : g.heads.getD k 0 < g.n := by
      rw [List.getD_eq_getElem?_getD, List.getElem?_eq_getElem (by omega)]; exact hg.heads _ (List.getElem_mem _)
    rw [show itr (nxRule g) (k + 1) (List.replicate g.n []) = (g.edges.getD k []).foldl (nxStep (g.heads.getD k 0)) (itr (nxRule g) k (List.replicate g.n [])) from rfl, mem_nxFold _ _ (by rw [hlen]; exact hh), mem_next g hg k (by omega)]
    constructor
    · rintro (⟨i, h1, h2⟩ | ⟨rfl, h⟩)
      · exact ⟨i, by omega, h2⟩
      · exact ⟨k, by omega, rfl, h⟩
    · rintro ⟨i, h1, h2, h3⟩
      by_cases e : i = k
      · subst e; exact .inr ⟨h2.symm, h3⟩
      · exact .inl ⟨i, by omega, h2, h3⟩
theorem mem_edges (m : MMod) (s : Bool) (l : List LitD) (y : Nat) : (∃ e ∈ edgesOf m s l, e.to = y) ↔ ∃ x ∈ l, leads x = true ∧ idx m x.rel = y := by
  unfold edgesOf
  simp only [List.mem_map, List.mem_filter]
  constructor
  · rintro ⟨e, ⟨x, ⟨h1, h2⟩, rfl⟩, h3⟩; exact ⟨x, h1, h2, h3⟩
  · rintro ⟨x, h1, h2, h3⟩; exact ⟨_, ⟨x, ⟨h1, h2⟩, rfl⟩, h3⟩
/-- a program that is not too large -/
structure Small (m : MMod) : Prop where
  rels : m.rels.length ≤ 30
  rules : m.rules.length ≤ 300
  bodies : ∀ r ∈ m.rules, r.body.length ≤ 300
theorem graph_ok {m : MMod} (hg : Good m) (hs : Small m) : (graphOf m).ok := by
  refine ⟨hs.rels, by simp [graphOf, allEdges, headsOf], by simp [graphOf, headsOf]; exact hs.rules, fun h hh => ?_, fun es hes => ?_, fun es hes e he => ?_⟩
  · simp only [graphOf, headsOf, List.mem_map] at hh ⊢
    obtain ⟨r, hr, rfl⟩ := hh
    exact idx_lt (hg.heads r hr)
  · simp only [graphOf, allEdges, List.mem_map] at hes
    obtain ⟨r, hr, rfl⟩ := hes
    have h1 := hs.bodies r hr
    have h2 := List.length_filter_le leads r.body
    simp [edgesOf]; omega
  · simp only [graphOf, allEdges, List.mem_map] at hes ⊢
    obtain ⟨r, hr, rfl⟩ := hes
    have := (mem_edges m (grouped r) r.body e.to).1 ⟨e, he, rfl⟩
    obtain ⟨x, h1, h2, h3⟩ := this
    rw [← h3]; exact idx_lt (hg.lits r hr x h1 h2)
theorem next_iff {m : MMod} (hg : Good m) (hs : Small m) (a y : Nat) : y ∈ (nextOf (graphOf m)).getD a [] ↔ EdgeOf m a y := by
  unfold nextOf
  rw [mem_next (graphOf m) (graph_ok hg hs) _ (Nat.le_refl _)]
  have hl : (graphOf m).heads.length = m.rules.length := by simp [graphOf, headsOf]
  constructor
  · rintro ⟨i, h1, h2, h3⟩
    have hi : i < m.rules.length := by omega
    have e1 : (graphOf m).heads.getD i 0 = idx m m.rules[i].rel := by simp [graphOf, headsOf, List.getD_eq_getElem?_getD, hi]
    have e2 : (graphOf m).edges.getD i [] = edgesOf m (grouped m.rules[i]) m.rules[i].body := by simp [graphOf, allEdges, List.getD_eq_getElem?_getD, hi]
    rw [e2, mem_edges] at h3
    obtain ⟨x, a1, a2, a3⟩ := h3
    exact ⟨m.rules[i], List.getElem_mem hi, x, a1, a2, by rw [← e1]; exact h2, a3⟩
  · rintro ⟨r, hr, x, a1, a2, a3, a4⟩
    obtain ⟨i, hi, rfl⟩ := List.mem_iff_getElem.1 hr
    have e1 : (graphOf m).heads.getD i 0 = idx m m.rules[i].rel := by simp [graphOf, headsOf, List.getD_eq_getElem?_getD, hi]
    have e2 : (graphOf m).edges.getD i [] = edgesOf m (grouped m.rules[i]) m.rules[i].body := by simp [graphOf, allEdges, List.getD_eq_getElem?_getD, hi]
    exact ⟨i, by omega, by rw [e1]; exact a3, by rw [e2, mem_edges]; exact ⟨x, a1, a2, a4⟩⟩
theorem Reach.trans {next : List (List Nat)} {a b c : Nat} (h1 : Reach next a b) (h2 : Reach next b c) : Reach next a c := by
  induction h2 with
  | one h => exact .step h1 h
  | step _ h ih => exact .step ih h
theorem edge_lt {m : MMod} (hg : Good m) {a b : Nat} (h : EdgeOf m a b) : a < m.rels.length ∧ b < m.rels.length := by
  obtain ⟨r, hr, x, a1, a2, rfl, rfl⟩ := h
  exact ⟨idx_lt (hg.heads r hr), idx_lt (hg.lits r hr x a1 a2)⟩
/-- the closure is what is reached -/
theorem ent_closed {m : MMod} (hg : Good m) (hs : Small m) {a b : Nat} (ha : a < m.rels.length) (hb : b < m.rels.length) : ent m.rels.length (closed m) a b = true ↔ Reach (nextOf (graphOf m)) a b := by
  obtain ⟨h1, h2, h3⟩ := stages (base_len m) (Reach (nextOf (graphOf m))) (fun _ _ _ => Reach.trans) (fun a b _ hb h => .one ((next_iff hg hs a b).2 ((ent_base hg hb).1 h))) m.rels.length (Nat.le_refl _)
  refine ⟨h2 a b ha hb, fun h => ?_⟩
  have key : ∀ b, Reach (nextOf (graphOf m)) a b → b < m.rels.length ∧ ent m.rels.length (closed m) a b = true := by
    intro b h
    induction h with
    | one h =>
      have he := (next_iff hg hs _ _).1 h
      have hlt := (edge_lt hg he).2
      exact ⟨hlt, h1 a _ ha hlt ((ent_base hg hlt).2 he)⟩
    | step _ h ih =>
      have he := (next_iff hg hs _ _).1 h
      obtain ⟨hlt1, hlt2⟩ := edge_lt hg he
      exact ⟨hlt2, h3 _ a _ hlt1 ha hlt2 ih.2 (h1 _ _ hlt1 hlt2 ((ent_base hg hlt2).2 he))⟩
  exact (key b h).2
/-- the places that are marked -/
def trues (l : List Bool) (k : Nat) : List Nat := (List.range k).filter fun b => l.getD b false
theorem trues_succ (l : List Bool) (k : Nat) (h : k < l.length) : trues l (k + 1) = trues l k ++ (if l[k] then [k] else []) := by
  unfold trues
  rw [List.range_succ, List.filter_append]
  congr 1
  simp [List.filter, List.getD_eq_getElem?_getD, h]
  split <;> simp_all
noncomputable def progRows (g : Graph) (k : Nat) : List (List Nat) := (List.range k).map fun i => trues (reachRow (nextOf g) g.n i) g.n
noncomputable def progRests (m : MMod) : List (List Nat) × PosE := if (checkE m).2 = 0 then (progRows (graphOf m) m.rels.length, okE) else ([], checkE m)
theorem rRow_at (on : List Bool) (n a : Nat) (out : List (List Nat)) (ha : a < out.length) : ∀ k, itr (rStep on n a) k out = out.set a (out.getD a [] ++ (List.range k).filter fun b => ent n on a b)
  | 0 => by simp [itr, List.getD_eq_getElem?_getD, List.getElem?_eq_getElem ha]
  | k + 1 => by
    rw [show itr (rStep on n a) (k + 1) out = rStep on n a k (itr (rStep on n a) k out) from rfl, rRow_at on n a out ha k]
    unfold rStep
    show (if ent n on a k then _ else _) = _
    rw [List.range_succ, List.filter_append]
    cases h : ent n on a k with
    | true => simp [List.filter, h, List.getD_eq_getElem?_getD, ha]
    | false => simp [List.filter, h]
theorem restsL_eq (on : List Bool) (n : Nat) : ∀ k, k ≤ n → itr (rRow on n) k (List.replicate n []) = ((List.range k).map fun a => (List.range n).filter fun b => ent n on a b) ++ List.replicate (n - k) []
  | 0, _ => by simp [itr]
  | k + 1, hk => by
    rw [show itr (rRow on n) (k + 1) (List.replicate n []) = itr (rStep on n k) n (itr (rRow on n) k (List.replicate n [])) from rfl, rRow_at on n k _ (by rw [rRows_len on n n k _ (by simp)]; omega), restsL_eq on n k (by omega)]
    obtain ⟨d, hd⟩ : ∃ d, n - k = d + 1 := ⟨n - k - 1, by omega⟩
    rw [hd, show n - (k + 1) = d from by omega, List.range_succ, List.map_append, List.replicate_succ]
    rw [List.set_append_right _ _ (by simp)]
    simp [List.getD_eq_getElem?_getD]
theorem progRests_eq {m : MMod} (hs : Small m) : progRests m = restsE m := by
  unfold progRests restsE
  by_cases h : (checkE m).2 = 0
  · rw [if_pos h, if_pos h]
    have hg := Check_good hs.rels h
    congr 1
    rw [restsL, restsL_eq _ _ _ (Nat.le_refl _)]
    simp only [Nat.sub_self, List.replicate_zero, List.append_nil, progRows]
    refine List.map_congr_left fun a ha => ?_
    have ha : a < m.rels.length := by simpa using ha
    unfold trues
    refine List.filter_congr fun b hb => ?_
    have hb : b < m.rels.length := by simpa [graphOf] using hb
    have h1 := ent_closed hg hs ha hb
    have h2 : (reachRow (nextOf (graphOf m)) (graphOf m).n a).getD b false = true ↔ Reach (nextOf (graphOf m)) a b := by
      have : b < (graphOf m).n := hb
      simp [reachRow, List.getD_eq_getElem?_getD, this]
    rw [Bool.eq_iff_iff, h2, h1]
  · rw [if_neg h, if_neg h]
/-- how large a program is, as far as a bound -/
def largeR : List RuleD → Nat → Nat
  | [], n => n
  | r :: l, n => if n < 300 then largeR l (n + 1 + r.body.length + r.aggs.length) else n
def largeN : List NevD → Nat → Nat
  | [], n => n
  | r :: l, n => if n < 300 then largeN l (n + 1 + r.body.length) else n
def largeB (m : MMod) : Bool := decide (300 ≤ largeN m.nevers (largeR m.rules m.rels.length)) || decide (30 < m.rels.length)
theorem largeR_drop (l : List RuleD) (k n : Nat) (h : k < l.length) : largeR (l.drop k) n = if n < 300 then largeR (l.drop (k + 1)) (n + 1 + l[k].body.length + l[k].aggs.length) else n := by
  rw [List.drop_eq_getElem_cons h]; rfl
theorem largeN_drop (l : List NevD) (k n : Nat) (h : k < l.length) : largeN (l.drop k) n = if n < 300 then largeN (l.drop (k + 1)) (n + 1 + l[k].body.length) else n := by
  rw [List.drop_eq_getElem_cons h]; rfl
theorem largeR_le : ∀ (l : List RuleD) (n : Nat), n ≤ largeR l n
  | [], n => Nat.le_refl _
  | r :: l, n => by
    simp only [largeR]
    split
    · have := largeR_le l (n + 1 + r.body.length + r.aggs.length); omega
    · exact Nat.le_refl _
theorem largeN_le : ∀ (l : List NevD) (n : Nat), n ≤ largeN l n
  | [], n => Nat.le_refl _
  | r :: l, n => by
    simp only [largeN]
    split
    · have := largeN_le l (n + 1 + r.body.length); omega
    · exact Nat.le_refl _
theorem largeR_all : ∀ (l : List RuleD) (n : Nat), largeR l n < 300 → n + l.length ≤ largeR l n ∧ ∀ r ∈ l, r.body.length ≤ 300 ∧ r.aggs.length ≤ 300
  | [], n, _ => by simp [largeR]
  | r :: l, n, h => by
    simp only [largeR] at h ⊢
    split at h
    · rename_i hn
      rw [if_pos hn]
      obtain ⟨h1, h2⟩ := largeR_all l _ h
      refine ⟨by simp; omega, fun x hx => ?_⟩
      rcases List.mem_cons.1 hx with rfl | hx
      · omega
      · exact h2 x hx
    · omega
theorem largeN_all : ∀ (l : List NevD) (n : Nat), largeN l n < 300 → n + l.length ≤ largeN l n ∧ ∀ r ∈ l, r.body.length ≤ 300
  | [], n, _ => by simp [largeN]
  | r :: l, n, h => by
    simp only [largeN] at h ⊢
    split at h
    · rename_i hn
      rw [if_pos hn]
      obtain ⟨h1, h2⟩ := largeN_all l _ h
      refine ⟨by simp; omega, fun x hx => ?_⟩
      rcases List.mem_cons.1 hx with rfl | hx
      · omega
      · exact h2 x hx
    · omega
theorem Small.of {m : MMod} (h : largeB m = false) : Small m := by
  simp only [largeB, Bool.or_eq_false_iff, decide_eq_false_iff_not, Nat.not_le, Nat.not_lt] at h
  have h1 := largeN_le m.nevers (largeR m.rules m.rels.length)
  have h2 := largeR_all m.rules m.rels.length (by omega)
  exact ⟨h.2, by omega, fun r hr => (h2.2 r hr).1⟩
end Go.St
