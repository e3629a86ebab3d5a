/- What rests on what: the closure, taken by going over the middles in whatever order. -/
import Derived.Test.YtempphkfacccoaaSlSpO
set_option linter.unusedSimpArgs false
set_option linter.unusedVariables false
namespace Go.Sl
open Go.Aw
def related (x : LitD) : Bool := x.kind == 1 || x.kind == 2
/-- a relation rests on another at once -/
def Dep (rules : List RuleD) (a b : ByteArray) : Prop := ∃ r ∈ rules, r.rel = a ∧ ∃ x ∈ r.body, related x = true ∧ x.rel = b
/-- by way of middles in S -/
inductive Via (rules : List RuleD) (S : ByteArray → Prop) : ByteArray → ByteArray → Prop
  | one {a b : ByteArray} : Dep rules a b → Via rules S a b
  | trans {a c b : ByteArray} : Via rules S a c → S c → Via rules S c b → Via rules S a b
def Reach (rules : List RuleD) (a b : ByteArray) : Prop := Via rules (fun _ => True) a b
theorem Via.mono {rules : List RuleD} {S T : ByteArray → Prop} (h : ∀ c, S c → T c) {a b : ByteArray} (k : Via rules S a b) : Via rules T a b := by
  induction k with
  | one d => exact .one d
  | trans _ hc _ h1 h2 => exact .trans h1 (h _ hc) h2
/-- one middle more -/
theorem Via.more {rules : List RuleD} {S : ByteArray → Prop} {m a b : ByteArray} : Via rules (fun c => S c ∨ c = m) a b ↔ Via rules S a b ∨ (Via rules S a m ∧ Via rules S m b) := by
  constructor
  · intro k
    induction k with
    | one d => exact .inl (.one d)
    | trans _ hc _ h1 h2 =>
      rename_i a c b _ _
      rcases hc with hc | rfl
      · rcases h1 with h1 | ⟨h1, h1'⟩
        · rcases h2 with h2 | ⟨h2, h2'⟩
          · exact .inl (.trans h1 hc h2)
          · exact .inr ⟨.trans h1 hc h2, h2'⟩
        · rcases h2 with h2 | ⟨h2, h2'⟩
          · exact .inr ⟨h1, .trans h1' hc h2⟩
          · exact .inr ⟨h1, h2'⟩
      · have ha : Via rules S a c := h1.elim id (·.1)
        have hb : Via rules S c b := h2.elim id (·.2)
        exact .inr ⟨ha, hb⟩
  · rintro (h | ⟨h1, h2⟩)
    · exact h.mono fun _ => .inl
    · exact .trans (h1.mono fun _ => .inl) (.inr rfl) (h2.mono fun _ => .inl)
theorem Via.head {rules : List RuleD} {S : ByteArray → Prop} {a b : ByteArray} (k : Via rules S a b) : ∃ r ∈ rules, r.rel = a := by
  induction k with
  | one d => obtain ⟨r, h1, h2, _⟩ := d; exact ⟨r, h1, h2⟩
  | trans _ _ _ h1 _ => exact h1
theorem Via.heads {rules : List RuleD} {S : ByteArray → Prop} (hS : ∀ r ∈ rules, S r.rel) {a b : ByteArray} : Via rules S a b ↔ Reach rules a b := by
  refine ⟨fun h => h.mono fun _ _ => trivial, fun h => ?_⟩
  induction h with
  | one d => exact .one d
  | trans _ _ hcb h1 h2 =>
    obtain ⟨r, hr, e⟩ := hcb.head
    exact .trans h1 (e ▸ hS r hr) h2
theorem Reach.target {rules : List RuleD} {S : ByteArray → Prop} {a b : ByteArray} (k : Via rules S a b) : ∃ r ∈ rules, ∃ x ∈ r.body, related x = true ∧ x.rel = b := by
  induction k with
  | one d => obtain ⟨r, h1, _, x, h2, h3, h4⟩ := d; exact ⟨r, h1, x, h2, h3, h4⟩
  | trans _ _ _ _ h2 => exact h2
-- the first rounds: heads, and what each rests on at once
structure OnSt where
  keys : List ByteArray
  rows : List (List ByteArray)
def idxT (s : ByteArray) : List ByteArray → Nat → Option Nat
  | [], _ => none
  | x :: l, k => if decide (s = x) then some k else idxT s l (k + 1)
theorem idxT_some {s : ByteArray} : ∀ {l : List ByteArray} {k i : Nat}, idxT s l k = some i → k ≤ i ∧ i < k + l.length ∧ l[i - k]? = some s
  | [], _, _, h => by simp [idxT] at h
  | x :: l, k, i, h => by
    simp only [idxT] at h
    split at h
    · rename_i e; cases h
      have e' : s = x := of_decide_eq_true e
      subst e'; simp
    · obtain ⟨h1, h2, h3⟩ := idxT_some h
      refine ⟨by omega, by simp; omega, ?_⟩
      rw [show i - k = (i - (k + 1)) + 1 from by omega]; simpa using h3
theorem idxT_none {s : ByteArray} : ∀ {l : List ByteArray} {k : Nat}, idxT s l k = none → s ∉ l
  | [], _, _ => by simp
  | x :: l, k, h => by
    simp only [idxT] at h
    split at h
    · cases h
    · rename_i e
      have e' : ¬ s = x := fun q => e (decide_eq_true q)
      intro hm
      rcases List.mem_cons.1 hm with h1 | h1
      · exact e' h1
      · exact idxT_none h h1
theorem idxT_mem {s : ByteArray} {l : List ByteArray} (h : s ∈ l) : ∃ i, idxT s l 0 = some i ∧ i < l.length ∧ l[i]? = some s := by
  cases e : idxT s l 0 with
  | none => exact absurd h (idxT_none e)
  | some i => obtain ⟨_, h2, h3⟩ := idxT_some e; exact ⟨i, rfl, by omega, by simpa using h3⟩
def inner (n : Nat) : List AV := (List.range n).map fun i => .mapr (1001 + i)
theorem inner_succ (n : Nat) : inner (n + 1) = inner n ++ [.mapr (1001 + n)] := by simp [inner, List.range_succ]
theorem kvGet_on (s : ByteArray) : ∀ (l : List ByteArray) (f : Nat → AV) (k : Nat), kvGet (.string s) (keysT l) ((List.range' k l.length).map f) = (idxT s l k).map f
  | [], f, k => by simp [keysT, kvGet, idxT]
  | x :: l, f, k => by
    have e : kvGet (.string s) (keysT (x :: l)) ((List.range' k (x :: l).length).map f) = if keyEq (.string s) (.string x) = true then some (f k) else kvGet (.string s) (keysT l) ((List.range' (k + 1) l.length).map f) := rfl
    have hk : keyEq (.string s) (.string x) = decide (s = x) := rfl
    rw [e, hk, kvGet_on s l f (k + 1)]
    simp only [idxT]
    cases decide (s = x) <;> simp
theorem kvGet_inner (s : ByteArray) (l : List ByteArray) : kvGet (.string s) (keysT l) (inner l.length) = (idxT s l 0).map fun i => .mapr (1001 + i) := by
  have := kvGet_on s l (fun i => .mapr (1001 + i)) 0
  rwa [← List.range_eq_range'] at this
theorem kvSet_on (s : ByteArray) (y : AV) : ∀ (l : List ByteArray) (vs : List AV), vs.length = l.length → s ∉ l → kvSet (.string s) y (keysT l) vs = (keysT (l ++ [s]), vs ++ [y])
  | [], vs, h, _ => by
    have : vs = [] := List.eq_nil_of_length_eq_zero (by simpa using h)
    subst this; rfl
  | x :: l, [], h, _ => by simp at h
  | x :: l, v :: vs, h, hm => by
    have hk : keyEq (.string s) (.string x) = decide (s = x) := rfl
    have hx : decide (s = x) = false := decide_eq_false fun e => hm (by simp [e])
    have e : kvSet (.string s) y (keysT (x :: l)) (v :: vs) = if keyEq (.string s) (.string x) = true then (.string s :: keysT l, y :: vs) else let r := kvSet (.string s) y (keysT l) vs; (.string x :: r.1, v :: r.2) := rfl
    rw [e, hk, hx, kvSet_on s y l vs (by simpa using h) fun q => hm (by simp [q])]
    rfl
theorem kvSet_T_old (s : ByteArray) (y : AV) (hy : y = .val (.int .i64 1)) : ∀ l : List ByteArray, hasT l s = true → kvSet (.string s) y (keysT l) (ones l) = (keysT l, ones l)
  | [], h => by simp [hasT] at h
  | x :: l, h => by
    have hk : keyEq (.string s) (.string x) = decide (s = x) := rfl
    have e : kvSet (.string s) y (keysT (x :: l)) (ones (x :: l)) = if keyEq (.string s) (.string x) = true then (.string s :: keysT l, y :: ones l) else let r := kvSet (.string s) y (keysT l) (ones l); (.string x :: r.1, .val (.int .i64 1) :: r.2) := rfl
    rw [e, hk]
    rw [hasT_cons] at h
    cases hd : decide (s = x) with
    | true => have := of_decide_eq_true hd; subst this; subst hy; rfl
    | false =>
      rw [hd, Bool.false_or] at h
      rw [kvSet_T_old s y hy l h]; rfl
theorem kvSet_add (s : ByteArray) (l : List ByteArray) : kvSet (.string s) (.val (.int .i64 1)) (keysT l) (ones l) = (keysT (addT l s), ones (addT l s)) := by
  unfold addT
  cases h : hasT l s with
  | true => simpa using kvSet_T_old s _ rfl l h
  | false => simpa using kvSet_T s _ rfl l h
theorem mem_addT {l : List ByteArray} {s t : ByteArray} : t ∈ addT l s ↔ t ∈ l ∨ t = s := by
  unfold addT
  split
  · rename_i h
    have := (hasT_iff l s).1 h
    constructor
    · exact .inl
    · rintro (h | rfl)
      · exact h
      · exact this
  · simp
end Go.Sl
