/- What holds a number where it is. -/
import Derived.Test.YtldaibijdhjpjaaStSpK
set_option linter.unusedSimpArgs false
set_option linter.unusedVariables false
namespace Go.St
open Go.Aw
def hCond (of : List Nat) (H : List Bool) (s : Bool) (h to : Nat) : Bool := (s && decide (fn of h = fn of to + 1)) || (decide (fn of h = fn of to) && H.getD to false)
def hStep (m : MMod) (of : List Nat) (r : RuleD) (H : List Bool) (x : LitD) : List Bool :=
  if leads x then H.set (idx m r.rel) (H.getD (idx m r.rel) false || hCond of H (strictB r x) (idx m r.rel) (idx m x.rel)) else H
def hRule (m : MMod) (of : List Nat) (H : List Bool) (r : RuleD) : List Bool := r.body.foldl (hStep m of r) H
def hRound (m : MMod) (of : List Nat) (H : List Bool) : List Bool := m.rules.foldl (hRule m of) H
def heldOf (m : MMod) (of : List Nat) (k : Nat) : List Bool := itr (fun _ => hRound m of) k (List.replicate of.length false)
/-- more is held -/
structure Up (H K : List Bool) : Prop where
  len : K.length = H.length
  le : ∀ i, H.getD i false = true → K.getD i false = true
theorem Up.refl (H : List Bool) : Up H H := ⟨rfl, fun _ h => h⟩
theorem Up.trans {H K L : List Bool} (a : Up H K) (b : Up K L) : Up H L := ⟨b.len.trans a.len, fun i h => b.le i (a.le i h)⟩
theorem Up.count : ∀ {H K : List Bool}, Up H K → H.count true ≤ K.count true
  | [], K, h => by simp
  | a :: H, [], h => by have := h.len; simp at this
  | a :: H, b :: K, h => by
    have ih := Up.count (H := H) (K := K) ⟨by simpa using h.len, fun i hi => by simpa using h.le (i + 1) (by simpa using hi)⟩
    have h0 := h.le 0
    simp only [List.count_cons]
    cases a <;> cases b <;> simp at h0 ⊢ <;> omega
theorem Up.eq_of : ∀ {H K : List Bool}, Up H K → K.count true ≤ H.count true → K = H
  | [], K, h, _ => by have := h.len; exact List.eq_nil_of_length_eq_zero (by simpa using this)
  | a :: H, [], h, _ => by have := h.len; simp at this
  | a :: H, b :: K, h, hc => by
    have hu : Up H K := ⟨by simpa using h.len, fun i hi => by simpa using h.le (i + 1) (by simpa using hi)⟩
    have hcc := hu.count
    have h0 := h.le 0
    simp only [List.count_cons] at hc
    have hab : b = a := by cases a <;> cases b <;> simp at h0 hc ⊢ <;> omega
    subst hab
    rw [hu.eq_of (by omega)]
theorem getD_set {H : List Bool} {h i : Nat} {v : Bool} (hl : h < H.length) : (H.set h v).getD i false = if i = h then v else H.getD i false := by
  rw [List.getD_eq_getElem?_getD, List.getElem?_set]
  by_cases e : h = i
  · subst e; simp [hl]
  · have : ¬ i = h := fun q => e q.symm
    rw [if_neg e, if_neg this, ← List.getD_eq_getElem?_getD]
theorem set_big {α : Type} : ∀ {l : List α} {h : Nat} {v : α}, l.length ≤ h → l.set h v = l
  | [], _, _, _ => rfl
  | x :: l, 0, _, h => by simp at h
  | x :: l, h + 1, v, hl => by rw [List.set_cons_succ, set_big (by simp at hl; omega)]
theorem hStep_up (m : MMod) (of : List Nat) (r : RuleD) (H : List Bool) (x : LitD) : Up H (hStep m of r H x) := by
  unfold hStep
  split
  · refine ⟨by simp, fun i hi => ?_⟩
    by_cases hl : idx m r.rel < H.length
    · rw [getD_set hl]
      split
      · rename_i e; subst e; rw [hi]; rfl
      · exact hi
    · rw [set_big (by omega)]; exact hi
  · exact .refl _
theorem hRule_up (m : MMod) (of : List Nat) (r : RuleD) (l : List LitD) : ∀ H : List Bool, Up H (l.foldl (hStep m of r) H) := by
  induction l with
  | nil => exact fun H => .refl _
  | cons x l ih => exact fun H => (hStep_up m of r H x).trans (ih _)
theorem hRound_up (m : MMod) (of : List Nat) (l : List RuleD) : ∀ H : List Bool, Up H (l.foldl (hRule m of) H) := by
  induction l with
  | nil => exact fun H => .refl _
  | cons x l ih => exact fun H => (hRule_up m of x x.body H).trans (ih _)
theorem held_up (m : MMod) (of : List Nat) (k : Nat) : Up (heldOf m of k) (heldOf m of (k + 1)) := hRound_up m of m.rules _
theorem heldOf_len (m : MMod) (of : List Nat) : ∀ k, (heldOf m of k).length = of.length
  | 0 => by simp [heldOf, itr]
  | k + 1 => by rw [(held_up m of k).len, heldOf_len m of k]
theorem rounds_stable (m : MMod) (of : List Nat) : ∀ k, hRound m of (heldOf m of k) = heldOf m of k ∨ k ≤ (heldOf m of k).count true
  | 0 => .inr (Nat.zero_le _)
  | k + 1 => by
    have hs : heldOf m of (k + 1) = hRound m of (heldOf m of k) := rfl
    rcases rounds_stable m of k with h | h
    · left; rw [hs, h, h]
    · by_cases e : heldOf m of (k + 1) = heldOf m of k
      · left; rw [e, ← hs, e]
      · right
        have := held_up m of k
        have hc := this.count
        refine Nat.lt_of_not_le fun hle => e (this.eq_of (by omega))
theorem held_fix (m : MMod) (of : List Nat) : hRound m of (heldOf m of (of.length + 1)) = heldOf m of (of.length + 1) := by
  rcases rounds_stable m of (of.length + 1) with h | h
  · exact h
  · have := List.count_le_length (a := true) (l := heldOf m of (of.length + 1))
    rw [heldOf_len] at this; omega
theorem fold_fix {α : Type} {f : List Bool → α → List Bool} (hf : ∀ H b, Up H (f H b)) : ∀ (l : List α) (H : List Bool), l.foldl f H = H → ∀ b ∈ l, f H b = H
  | [], _, _ => by simp
  | a :: l, H, h => by
    rw [List.foldl_cons] at h
    have hup : ∀ (l : List α) (H : List Bool), Up H (l.foldl f H) := by
      intro l
      induction l with
      | nil => exact fun H => .refl _
      | cons x l ih => exact fun H => (hf H x).trans (ih _)
    have h1 := (hf H a).count
    have h2 := (hup l (f H a)).count
    rw [h] at h2
    have e : f H a = H := (hf H a).eq_of h2
    rw [e] at h
    intro b hb
    rcases List.mem_cons.1 hb with rfl | hb
    · exact e
    · exact fold_fix hf l H h b hb
/-- whatever has a number above 0 is held there -/
theorem held_all {m : MMod} (hg : Good m) {of : List Nat} (hof : IsLeast (graphOf m) of) {i : Nat} (h0 : 0 < fn of i) : (heldOf m of (of.length + 1)).getD i false = true := by
  obtain ⟨H, hH⟩ : ∃ H, heldOf m of (of.length + 1) = H := ⟨_, rfl⟩
  have hfix := held_fix m of
  rw [hH] at hfix ⊢
  have hlen : H.length = m.rels.length := by rw [← hH, heldOf_len, hof.len]; rfl
  have hst : ∀ r ∈ m.rules, ∀ x ∈ r.body, leads x = true → hCond of H (strictB r x) (idx m r.rel) (idx m x.rel) = true → H.getD (idx m r.rel) false = true := by
    intro r hr x hx hl hc
    have h1 := fold_fix (fun H b => hRule_up m of b b.body H) m.rules H hfix r hr
    have h2 := fold_fix (fun H b => hStep_up m of r H b) r.body H h1 x hx
    have hlt : idx m r.rel < H.length := by rw [hlen]; exact idx_lt (hg.heads r hr)
    rw [← h2]
    unfold hStep
    rw [if_pos hl, getD_set hlt, if_pos rfl, hc, Bool.or_true]
  cases hb : H.getD i false with
  | true => rfl
  | false =>
    exfalso
    let f : Nat → Nat := fun j => if 0 < fn of j ∧ H.getD j false = false then fn of j - 1 else fn of j
    have hle : ∀ j, f j ≤ fn of j := by intro j; simp only [f]; split <;> omega
    have hsat : satF (graphOf m) f := by
      rw [satF_iff]
      intro r hr x hx hl
      have h1 := (satF_iff m (fn of)).1 hof.sat r hr x hx hl
      have h2 := hst r hr x hx hl
      by_cases hu : 0 < fn of (idx m r.rel) ∧ H.getD (idx m r.rel) false = false
      · have hc : ¬ hCond of H (strictB r x) (idx m r.rel) (idx m x.rel) = true := by
          intro hc; have := h2 hc; rw [hu.2] at this; cases this
        have e1 : f (idx m r.rel) = fn of (idx m r.rel) - 1 := by simp only [f]; rw [if_pos hu]
        rw [e1]
        simp only [hCond, Bool.or_eq_true, Bool.and_eq_true, decide_eq_true_eq, not_or, not_and, Bool.not_eq_true] at hc
        have hx2 := hle (idx m x.rel)
        cases hs : strictB r x with
        | true =>
          rw [hs] at h1 hc
          have := hc.1 rfl
          simp at h1 ⊢; omega
        | false =>
          rw [hs] at h1 hc
          simp at h1 ⊢
          by_cases e : fn of (idx m r.rel) = fn of (idx m x.rel)
          · have hx3 := hc.2 e
            have : f (idx m x.rel) = fn of (idx m x.rel) - 1 := by simp only [f]; rw [if_pos ⟨by omega, hx3⟩]
            omega
          · omega
      · have e1 : f (idx m r.rel) = fn of (idx m r.rel) := by simp only [f]; rw [if_neg hu]
        have hx2 := hle (idx m x.rel)
        rw [e1]; omega
    have h3 := hof.low f hsat i
    have h4 : f i = fn of i - 1 := by simp only [f]; rw [if_pos ⟨h0, hb⟩]
    omega
end Go.St
