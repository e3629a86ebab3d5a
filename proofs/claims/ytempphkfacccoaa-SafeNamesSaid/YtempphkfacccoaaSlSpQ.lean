/- What rests on what: the first rounds, and the rows behind each middle. -/
import Derived.Test.YtempphkfacccoaaSlZ
set_option linter.unusedSimpArgs false
set_option linter.unusedVariables false
namespace Go.Sl
open Go.Aw
structure NevD where
  line : Int
  col : Int
  name : ByteArray
  body : List LitD
structure ModD where
  name : ByteArray
  imports : Opq
  types : Opq
  rels : Opq
  rules : List RuleD
  nevers : List NevD
def encN (n : NevD) : List AV := [ival n.line, ival n.col, sval n.name, .rd 5 (n.body.map encL)]
def modC (m : ModD) : List AV := [sval m.name, .val m.imports.v, .val m.types.v, .val m.rels.v, .rd 6 (m.rules.map encR), .rd 4 (m.nevers.map encN)]
def encM (m : ModD) : AV := .agg (modC m)
def addRow (s : OnSt) (a : ByteArray) : OnSt := match idxT a s.keys 0 with | some _ => s | none => ⟨s.keys ++ [a], s.rows ++ [[]]⟩
def addDep (a : ByteArray) (s : OnSt) (x : LitD) : OnSt := if related x then (match idxT a s.keys 0 with | some i => ⟨s.keys, s.rows.set i (addT (s.rows.getD i []) x.rel)⟩ | none => s) else s
def ruleOn (s : OnSt) (r : RuleD) : OnSt := r.body.foldl (addDep r.rel) (addRow s r.rel)
def onOf (l : List RuleD) : OnSt := l.foldl ruleOn ⟨[], []⟩
structure OnRel (D : ByteArray → ByteArray → Prop) (Hd : ByteArray → Prop) (s : OnSt) : Prop where
  len : s.rows.length = s.keys.length
  nd : s.keys.Nodup
  hd : ∀ a, a ∈ s.keys ↔ Hd a
  row : ∀ i a, s.keys[i]? = some a → ∀ t, t ∈ s.rows.getD i [] ↔ D a t
theorem OnRel.congr {D D' : ByteArray → ByteArray → Prop} {Hd Hd' : ByteArray → Prop} {s : OnSt} (h : OnRel D Hd s) (h1 : ∀ a t, D a t ↔ D' a t) (h2 : ∀ a, Hd a ↔ Hd' a) : OnRel D' Hd' s :=
  ⟨h.len, h.nd, fun a => (h.hd a).trans (h2 a), fun i a hi t => (h.row i a hi t).trans (h1 a t)⟩
theorem OnRel.addRow {D : ByteArray → ByteArray → Prop} {Hd : ByteArray → Prop} {s : OnSt} (h : OnRel D Hd s) (a : ByteArray) (hn : ¬ Hd a → ∀ t, ¬ D a t) : OnRel D (fun b => Hd b ∨ b = a) (addRow s a) := by
  unfold Sl.addRow
  cases e : idxT a s.keys 0 with
  | some i =>
    obtain ⟨_, _, h3⟩ := idxT_some e
    have hm : a ∈ s.keys := List.mem_of_getElem? (by simpa using h3)
    refine ⟨h.len, h.nd, fun b => ?_, h.row⟩
    rw [h.hd]
    constructor
    · exact .inl
    · rintro (h1 | rfl)
      · exact h1
      · exact (h.hd _).1 hm
  | none =>
    have hm := idxT_none e
    refine ⟨by simp [h.len], ?_, fun b => ?_, fun i b hi t => ?_⟩
    · simp only
      rw [List.nodup_append]
      exact ⟨h.nd, by simp, fun x hx y hy => by simp at hy; subst hy; intro q; subst q; exact hm hx⟩
    · simp [h.hd]
    · simp only at hi ⊢
      by_cases hl : i < s.keys.length
      · rw [List.getElem?_append_left hl] at hi
        have := h.row i b hi t
        rw [List.getD_eq_getElem?_getD, List.getElem?_append_left (by rw [h.len]; exact hl), ← List.getD_eq_getElem?_getD]; exact this
      · rw [List.getElem?_append_right (by omega)] at hi
        have hi0 : i = s.keys.length := by
          refine Nat.le_antisymm (Nat.le_of_not_lt fun q => ?_) (by omega)
          rw [List.getElem?_eq_none (by simp; omega)] at hi; cases hi
        subst hi0
        simp at hi
        subst hi
        rw [List.getD_eq_getElem?_getD, List.getElem?_append_right (by rw [h.len]; exact Nat.le_refl _), h.len]
        simp only [Nat.sub_self, List.getElem?_cons_zero, Option.getD_some, List.not_mem_nil, false_iff]
        exact hn (fun q => hm ((h.hd _).2 q)) t
theorem nd_inj {α : Type} {l : List α} (h : l.Nodup) {i j : Nat} (hi : i < l.length) (hj : j < l.length) (e : l[i] = l[j]) : i = j := by
  rcases Nat.lt_trichotomy i j with q | q | q
  · exact absurd e (List.pairwise_iff_getElem.1 h i j hi hj q)
  · exact q
  · exact absurd e.symm (List.pairwise_iff_getElem.1 h j i hj hi q)
theorem OnRel.addDep {D : ByteArray → ByteArray → Prop} {Hd : ByteArray → Prop} {s : OnSt} (h : OnRel D Hd s) (a : ByteArray) (ha : Hd a) (x : LitD) : OnRel (fun b t => D b t ∨ (b = a ∧ related x = true ∧ t = x.rel)) Hd (addDep a s x) := by
  unfold Sl.addDep
  cases hr : related x with
  | false => simp only [Bool.false_eq_true, if_false]; exact h.congr (fun b t => by simp) (fun _ => Iff.rfl)
  | true =>
    simp only [if_true]
    obtain ⟨i, e, hi, hk⟩ := idxT_mem ((h.hd a).2 ha)
    rw [e]
    refine ⟨by simp [h.len], h.nd, h.hd, fun j b hj t => ?_⟩
    simp only at hj ⊢
    have hil : i < s.rows.length := by rw [h.len]; exact hi
    rw [List.getD_eq_getElem?_getD, List.getElem?_set]
    by_cases hij : i = j
    · subst hij
      rw [hk] at hj; cases hj
      simp only [if_true, hil]
      rw [Option.getD_some, mem_addT, h.row i a hk t]
      simp
    · rw [if_neg hij, ← List.getD_eq_getElem?_getD, h.row j b hj t]
      constructor
      · exact .inl
      · rintro (h1 | ⟨rfl, _⟩)
        · exact h1
        · exfalso
          -- the keys are all different
          have h1 := List.getElem?_eq_some_iff.1 hj
          have h2 := List.getElem?_eq_some_iff.1 hk
          obtain ⟨l1, e1⟩ := h1
          obtain ⟨l2, e2⟩ := h2
          exact hij (nd_inj h.nd l2 l1 (e2.trans e1.symm))
theorem OnRel.body {Hd : ByteArray → Prop} (a : ByteArray) (ha : Hd a) : ∀ (l : List LitD) (D : ByteArray → ByteArray → Prop) (s : OnSt), OnRel D Hd s → OnRel (fun b t => D b t ∨ (b = a ∧ ∃ x ∈ l, related x = true ∧ t = x.rel)) Hd (l.foldl (Sl.addDep a) s)
  | [], D, s, h => h.congr (fun b t => by simp) (fun _ => Iff.rfl)
  | x :: l, D, s, h => by
    refine (OnRel.body a ha l _ _ (h.addDep a ha x)).congr (fun b t => ?_) (fun _ => Iff.rfl)
    constructor
    · rintro ((h1 | ⟨h1, h2, h3⟩) | ⟨h1, y, h2, h3⟩)
      · exact .inl h1
      · exact .inr ⟨h1, x, by simp, h2, h3⟩
      · exact .inr ⟨h1, y, by simp [h2], h3⟩
    · rintro (h1 | ⟨h1, y, h2, h3⟩)
      · exact .inl (.inl h1)
      · rcases List.mem_cons.1 h2 with rfl | h2
        · exact .inl (.inr ⟨h1, h3⟩)
        · exact .inr ⟨h1, y, h2, h3⟩
def OnOK (l : List RuleD) (s : OnSt) : Prop := OnRel (Dep l) (fun a => ∃ r ∈ l, r.rel = a) s
theorem OnOK.snoc {l : List RuleD} {s : OnSt} (h : OnOK l s) (r : RuleD) : OnOK (l ++ [r]) (ruleOn s r) := by
  have h1 := OnRel.addRow h r.rel (fun hn t ⟨q, h1, h2, _⟩ => hn ⟨q, h1, h2⟩)
  have h2 := OnRel.body r.rel (.inr rfl) r.body _ _ h1
  refine h2.congr (fun b t => ?_) (fun b => ?_)
  · constructor
    · rintro (⟨q, h1, h2⟩ | ⟨rfl, x, h1, h2, rfl⟩)
      · exact ⟨q, by simp [h1], h2⟩
      · exact ⟨r, by simp, rfl, x, h1, h2, rfl⟩
    · rintro ⟨q, h1, hq, x, h3, h4, h5⟩
      simp only [List.mem_append, List.mem_singleton] at h1
      rcases h1 with h1 | rfl
      · exact .inl ⟨q, h1, hq, x, h3, h4, h5⟩
      · exact .inr ⟨hq.symm, x, h3, h4, h5.symm⟩
  · constructor
    · rintro (⟨q, h1, h2⟩ | rfl)
      · exact ⟨q, by simp [h1], h2⟩
      · exact ⟨r, by simp, rfl⟩
    · rintro ⟨q, h1, hq⟩
      simp only [List.mem_append, List.mem_singleton] at h1
      rcases h1 with h1 | rfl
      · exact .inl ⟨q, h1, hq⟩
      · exact .inr hq.symm
theorem onOf_ok : ∀ l : List RuleD, OnOK l (onOf l) := by
  have key : ∀ (r l : List RuleD) (s : OnSt), OnOK l s → OnOK (l ++ r) (r.foldl ruleOn s) := by
    intro r
    induction r with
    | nil => intro l s h; simpa using h
    | cons a r ih =>
      intro l s h
      have := ih (l ++ [a]) _ (h.snoc a)
      simpa using this
  intro l
  have h0 : OnOK [] ⟨[], []⟩ := ⟨rfl, List.nodup_nil, by simp, by simp⟩
  have := key l [] _ h0
  rw [List.nil_append] at this
  exact this
theorem addDep_keys (a : ByteArray) (s : OnSt) (x : LitD) : (addDep a s x).keys = s.keys := by
  unfold addDep; split
  · split <;> rfl
  · rfl
theorem addDep_len (a : ByteArray) (s : OnSt) (x : LitD) : (addDep a s x).rows.length = s.rows.length := by
  unfold addDep; split
  · split <;> simp
  · rfl
theorem addRow_len (s : OnSt) (a : ByteArray) : (addRow s a).keys.length ≤ s.keys.length + 1 := by unfold addRow; split <;> simp
theorem body_keys (a : ByteArray) : ∀ (l : List LitD) (s : OnSt), (l.foldl (addDep a) s).keys = s.keys
  | [], s => rfl
  | x :: l, s => by rw [List.foldl_cons, body_keys a l, addDep_keys]
theorem body_len (a : ByteArray) : ∀ (l : List LitD) (s : OnSt), (l.foldl (addDep a) s).rows.length = s.rows.length
  | [], s => rfl
  | x :: l, s => by rw [List.foldl_cons, body_len a l, addDep_len]
theorem ruleOn_len (s : OnSt) (r : RuleD) : (ruleOn s r).keys.length ≤ s.keys.length + 1 := by unfold ruleOn; rw [body_keys]; exact addRow_len s r.rel
theorem onFold_len : ∀ (l : List RuleD) (s : OnSt), (l.foldl ruleOn s).keys.length ≤ s.keys.length + l.length
  | [], s => by simp
  | r :: l, s => by have := onFold_len l (ruleOn s r); have := ruleOn_len s r; simp only [List.foldl_cons, List.length_cons]; omega
theorem addRow_eqlen {s : OnSt} (h : s.rows.length = s.keys.length) (a : ByteArray) : (addRow s a).rows.length = (addRow s a).keys.length := by unfold addRow; split <;> simp [h]
theorem ruleOn_eqlen {s : OnSt} (h : s.rows.length = s.keys.length) (r : RuleD) : (ruleOn s r).rows.length = (ruleOn s r).keys.length := by
  unfold ruleOn; rw [body_keys, body_len]; exact addRow_eqlen h r.rel
theorem onFold_eqlen : ∀ (l : List RuleD) (s : OnSt), s.rows.length = s.keys.length → (l.foldl ruleOn s).rows.length = (l.foldl ruleOn s).keys.length
  | [], s, h => h
  | r :: l, s, h => onFold_eqlen l _ (ruleOn_eqlen h r)
@[simp] theorem modC_ren (x y : Nat) (m : ModD) : renL x y (modC m) = modC m := renL_noref x y _ rfl
@[simp] theorem modC_within (ids : List Nat) (m : ModD) : withinL ids (modC m) = true := rfl
end Go.Sl
