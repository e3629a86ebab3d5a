/- Whether a program is taken. -/
import Derived.Test.YtempphkfacccoaaSlSpH
import Derived.Test.YtempphkfacccoaaSlSpF
set_option linter.unusedSimpArgs false
set_option linter.unusedVariables false
namespace Go.Sl
open Go.Aw
def inAtoms (l : List LitD) (s : ByteArray) : Bool := l.any fun x => x.kind == 1 && hasT (varsOf x.args) s
def aggAt (r : RuleD) (k : Nat) : Bool := match r.aggs[k]? with | some t => !decide (t = ⟨#[]⟩) | none => false
def oldE (r : RuleD) (k : Nat) (a : ExprD) : Bool := (aggAt r k || a.kind == 1) || (a.kind == 2 && inAtoms r.body a.name)
def growFrom (r : RuleD) : List ExprD → Nat → Option (Int × Int × Int)
  | [], _ => none
  | a :: l, k => if oldE r k a then growFrom r l (k + 1) else some (a.line, a.col, 72)
def chkRule (r : RuleD) : Option (Int × Int × Int) :=
  if (orderE r.body).2.2.2.2 ≠ 0 then some (orderE r.body).2.2
  else if (varsOf r.args).any (fun s => !hasT (orderE r.body).2.1 s) then some (r.line, r.col, 71) else none
def chkNev (n : NevD) : Option (Int × Int × Int) := if (orderE n.body).2.2.2.2 ≠ 0 then some (orderE n.body).2.2 else none
noncomputable def chkGrow (rules : List RuleD) (r : RuleD) : Option (Int × Int × Int) := if r.body.any (backL rules r) then growFrom r r.args 0 else none
noncomputable def checkE (m : ModD) : Int × Int × Int :=
  match m.rules.findSome? chkRule with
  | some p => p
  | none => match m.nevers.findSome? chkNev with
    | some p => p
    | none => match m.rules.findSome? (chkGrow m.rules) with
      | some p => p
      | none => (0, 0, 0)
def encC (p : Int × Int × Int) : AV := .tup [.agg [ival p.1, ival p.2.1], ival p.2.2]
theorem find_drop {α β : Type} (f : α → Option β) (l : List α) (k : Nat) (h : k < l.length) : (l.drop k).findSome? f = match f l[k] with | some y => some y | none => (l.drop (k + 1)).findSome? f := by
  rw [List.drop_eq_getElem_cons h, List.findSome?_cons]; cases f l[k] <;> rfl
theorem grow_drop (r : RuleD) (l : List ExprD) (k : Nat) (h : k < l.length) : growFrom r (l.drop k) k = if oldE r k l[k] then growFrom r (l.drop (k + 1)) (k + 1) else some (l[k].line, l[k].col, 72) := by
  rw [List.drop_eq_getElem_cons h]; rfl
structure ModOK (m : ModD) : Prop where
  rules : m.rules.length ≤ 900
  body : ∀ r ∈ m.rules, r.body.length ≤ 1048576
  wt : ∀ r ∈ m.rules, wts r.body ≤ 4194304
  args : ∀ r ∈ m.rules, sizes r.args ≤ 4194303
  nevers : m.nevers.length ≤ 4194304
  nwt : ∀ n ∈ m.nevers, wts n.body ≤ 4194304
-- fewer
theorem growFrom_err {r : RuleD} : ∀ {l : List ExprD} {k : Nat} {p : Int × Int × Int}, growFrom r l k = some p → p.2.2 ≠ 0
  | [], _, _, h => by simp [growFrom] at h
  | a :: l, k, p, h => by
    simp only [growFrom] at h
    split at h
    · exact growFrom_err h
    · cases h; simp
theorem chkRule_err {r : RuleD} {p : Int × Int × Int} (h : chkRule r = some p) : p.2.2 ≠ 0 := by
  unfold chkRule at h
  split at h
  · rename_i h1; cases h; exact h1
  · split at h
    · cases h; simp
    · cases h
theorem chkNev_err {r : NevD} {p : Int × Int × Int} (h : chkNev r = some p) : p.2.2 ≠ 0 := by
  unfold chkNev at h
  split at h
  · rename_i h1; cases h; exact h1
  · cases h
theorem chkGrow_err {rules : List RuleD} {r : RuleD} {p : Int × Int × Int} (h : chkGrow rules r = some p) : p.2.2 ≠ 0 := by
  unfold chkGrow at h
  split at h
  · exact growFrom_err h
  · cases h
theorem find_none {α β : Type} {f : α → Option β} {l : List α} : l.findSome? f = none ↔ ∀ x ∈ l, f x = none := List.findSome?_eq_none_iff
theorem check_ok {m : ModD} : (checkE m).2.2 = 0 ↔ (∀ r ∈ m.rules, chkRule r = none) ∧ (∀ n ∈ m.nevers, chkNev n = none) ∧ ∀ r ∈ m.rules, chkGrow m.rules r = none := by
  rw [← find_none, ← find_none, ← find_none]
  unfold checkE
  cases h1 : m.rules.findSome? chkRule with
  | some p => obtain ⟨x, _, hx⟩ := List.exists_of_findSome?_eq_some h1; simp [chkRule_err hx]
  | none =>
    cases h2 : m.nevers.findSome? chkNev with
    | some p => obtain ⟨x, _, hx⟩ := List.exists_of_findSome?_eq_some h2; simp [chkNev_err hx]
    | none =>
      cases h3 : m.rules.findSome? (chkGrow m.rules) with
      | some p => obtain ⟨x, _, hx⟩ := List.exists_of_findSome?_eq_some h3; simp [chkGrow_err hx]
      | none => simp
theorem Dep.mono {l r : List RuleD} (h : ∀ x ∈ l, x ∈ r) {a b : ByteArray} : Dep l a b → Dep r a b := by
  rintro ⟨q, h1, h2⟩; exact ⟨q, h q h1, h2⟩
theorem Reach.mono {l r : List RuleD} (h : ∀ x ∈ l, x ∈ r) {a b : ByteArray} (k : Reach l a b) : Reach r a b := by
  induction k with
  | one d => exact .one (d.mono h)
  | trans _ hc _ h1 h2 => exact .trans h1 hc h2
theorem back_mono {l r : List RuleD} (h : ∀ x ∈ l, x ∈ r) (q : RuleD) (x : LitD) : backL l q x = true → backL r q x = true := by
  simp only [backL, Bool.and_eq_true, Bool.or_eq_true]
  rintro ⟨h1, h2 | h2⟩
  · exact ⟨h1, .inl h2⟩
  · exact ⟨h1, .inr ((hasT_iff _ _).2 (mem_reachL.2 (Reach.mono h (mem_reachL.1 ((hasT_iff _ _).1 h2)))))⟩
theorem grow_mono {l r : List RuleD} (h : ∀ x ∈ l, x ∈ r) {q : RuleD} (hn : chkGrow r q = none) : chkGrow l q = none := by
  unfold chkGrow at hn ⊢
  split at hn
  · split
    · exact hn
    · rfl
  · rename_i h1
    rw [if_neg]
    intro h2
    obtain ⟨x, hx, hb⟩ := List.any_eq_true.1 h2
    exact h1 (List.any_eq_true.2 ⟨x, hx, back_mono h q x hb⟩)
theorem fewer {m m' : ModD} (hr : ∀ r ∈ m'.rules, r ∈ m.rules) (hn : ∀ n ∈ m'.nevers, n ∈ m.nevers) (h : (checkE m).2.2 = 0) : (checkE m').2.2 = 0 := by
  rw [check_ok] at h ⊢
  obtain ⟨h1, h2, h3⟩ := h
  exact ⟨fun r k => h1 r (hr r k), fun n k => h2 n (hn n k), fun r k => grow_mono hr (h3 r (hr r k))⟩
theorem ModOK.fewer {m m' : ModD} (h : ModOK m) (hr : ∀ r ∈ m'.rules, r ∈ m.rules) (hn : ∀ n ∈ m'.nevers, n ∈ m.nevers) (hl : m'.rules.length ≤ m.rules.length) (hl2 : m'.nevers.length ≤ m.nevers.length) : ModOK m' :=
  ⟨Nat.le_trans hl h.rules, fun r k => h.body r (hr r k), fun r k => h.wt r (hr r k), fun r k => h.args r (hr r k), Nat.le_trans hl2 h.nevers, fun n k => h.nwt n (hn n k)⟩
-- how much a program is
def lgR : List RuleD → Nat → Option Nat
  | [], n => some n
  | r :: l, n => if n < 60 then (if heavyE r.body || decide (100 ≤ exN r.args 100) then none else lgR l (n + 1)) else some n
def lgN : List NevD → Nat → Option Nat
  | [], n => some n
  | r :: l, n => if n < 60 then (if heavyE r.body then none else lgN l (n + 1)) else some n
def largeE (m : ModD) : Bool := match lgR m.rules 0 with
  | none => true
  | some n => match lgN m.nevers n with
    | none => true
    | some n => decide (60 ≤ n)
theorem lgR_drop (l : List RuleD) (k n : Nat) (h : k < l.length) : lgR (l.drop k) n = if n < 60 then (if heavyE l[k].body || decide (100 ≤ exN l[k].args 100) then none else lgR (l.drop (k + 1)) (n + 1)) else some n := by
  rw [List.drop_eq_getElem_cons h]; rfl
theorem lgN_drop (l : List NevD) (k n : Nat) (h : k < l.length) : lgN (l.drop k) n = if n < 60 then (if heavyE l[k].body then none else lgN (l.drop (k + 1)) (n + 1)) else some n := by
  rw [List.drop_eq_getElem_cons h]; rfl
theorem lgR_ge : ∀ (l : List RuleD) (n k : Nat), lgR l n = some k → n ≤ k ∧ (k < 60 → n + l.length ≤ k ∧ ∀ r ∈ l, heavyE r.body = false ∧ exN r.args 100 < 100)
  | [], n, k, h => by simp only [lgR, Option.some.injEq] at h; subst h; simp
  | r :: l, n, k, h => by
    simp only [lgR] at h
    split at h
    · split at h
      · cases h
      · rename_i hn hr
        obtain ⟨h1, h2⟩ := lgR_ge l (n + 1) k h
        refine ⟨by omega, fun hk => ?_⟩
        obtain ⟨h3, h4⟩ := h2 hk
        refine ⟨by simp; omega, fun q hq => ?_⟩
        rcases List.mem_cons.1 hq with rfl | hq
        · simp at hr; exact ⟨hr.1, by omega⟩
        · exact h4 q hq
    · rename_i hn; cases h; exact ⟨Nat.le_refl _, fun hk => absurd hk hn⟩
theorem lgN_ge : ∀ (l : List NevD) (n k : Nat), lgN l n = some k → n ≤ k ∧ (k < 60 → n + l.length ≤ k ∧ ∀ r ∈ l, heavyE r.body = false)
  | [], n, k, h => by simp only [lgN, Option.some.injEq] at h; subst h; simp
  | r :: l, n, k, h => by
    simp only [lgN] at h
    split at h
    · split at h
      · cases h
      · rename_i hn hr
        obtain ⟨h1, h2⟩ := lgN_ge l (n + 1) k h
        refine ⟨by omega, fun hk => ?_⟩
        obtain ⟨h3, h4⟩ := h2 hk
        refine ⟨by simp; omega, fun q hq => ?_⟩
        rcases List.mem_cons.1 hq with rfl | hq
        · simpa using hr
        · exact h4 q hq
    · rename_i hn; cases h; exact ⟨Nat.le_refl _, fun hk => absurd hk hn⟩
theorem small_ok {m : ModD} (h : largeE m = false) : ModOK m ∧ m.rules.length + m.nevers.length < 60 := by
  unfold largeE at h
  cases h1 : lgR m.rules 0 with
  | none => rw [h1] at h; cases h
  | some n =>
    rw [h1] at h
    simp only at h
    cases h2 : lgN m.nevers n with
    | none => rw [h2] at h; cases h
    | some k =>
      rw [h2] at h
      have hk : k < 60 := by simp at h; omega
      obtain ⟨h3, h4⟩ := lgN_ge _ _ _ h2
      obtain ⟨h5, h6⟩ := lgR_ge _ _ _ h1
      obtain ⟨h7, h8⟩ := h4 hk
      obtain ⟨h9, h10⟩ := h6 (by omega)
      refine ⟨⟨by omega, fun r hr => ?_, fun r hr => ?_, fun r hr => ?_, by omega, fun r hr => ?_⟩, by omega⟩
      · have := light (h10 r hr).1; omega
      · have := light (h10 r hr).1; omega
      · have := (h10 r hr).2; simp only [exN] at this; omega
      · have := light (h8 r hr); omega
end Go.Sl
