/- What rests on what: the rows behind all middles. -/
import Derived.Test.YtempphkfacccoaaSlSpQ
set_option linter.unusedSimpArgs false
set_option linter.unusedVariables false
namespace Go.Sl
open Go.Aw
def RowsVia (rules : List RuleD) (K : List ByteArray) (S : ByteArray → Prop) (Ms : List (List ByteArray)) : Prop := Ms.length = K.length ∧ ∀ i a, K[i]? = some a → ∀ t, t ∈ Ms.getD i [] ↔ Via rules S a t
theorem via_none {rules : List RuleD} {a t : ByteArray} : Via rules (fun _ => False) a t ↔ Dep rules a t := by
  constructor
  · intro h
    induction h with
    | one d => exact d
    | trans _ h _ => exact h.elim
  · exact .one
theorem RowsVia.init (l : List RuleD) : RowsVia l (onOf l).keys (fun _ => False) (onOf l).rows :=
  ⟨(onOf_ok l).len, fun i a hi t => ((onOf_ok l).row i a hi t).trans via_none.symm⟩
def SeenK (K : List ByteArray) (seen : List Nat) (c : ByteArray) : Prop := ∃ q ∈ seen, K[q]? = some c
theorem RowsVia.congr {rules : List RuleD} {K : List ByteArray} {S T : ByteArray → Prop} {Ms : List (List ByteArray)} (h : RowsVia rules K S Ms) (e : ∀ c, S c ↔ T c) : RowsVia rules K T Ms :=
  ⟨h.1, fun i a hi t => (h.2 i a hi t).trans ⟨fun k => k.mono fun c => (e c).1, fun k => k.mono fun c => (e c).2⟩⟩
theorem set_getD_self {α : Type} {l : List α} {i : Nat} {d : α} (h : i < l.length) : l.set i (l.getD i d) = l := by
  rw [List.getD_eq_getElem?_getD, List.getElem?_eq_getElem h]; simp
/-- within a middle's round: the rows that have had their turn -/
def MidInv (K : List ByteArray) (mid : ByteArray) (j : Nat) (M0 : List (List ByteArray)) (seen : List Nat) (Ms : List (List ByteArray)) : Prop :=
  Ms.length = K.length ∧ ∀ p, p < K.length → ∀ t, t ∈ Ms.getD p [] ↔ t ∈ M0.getD p [] ∨ (p ∈ seen ∧ mid ∈ M0.getD p [] ∧ t ∈ M0.getD j [])
theorem MidInv.init {K : List ByteArray} {mid : ByteArray} {j : Nat} {M0 : List (List ByteArray)} (h : M0.length = K.length) : MidInv K mid j M0 [] M0 := ⟨h, fun p _ t => by simp⟩
theorem getD_set_self {α : Type} {l : List α} {i : Nat} {x d : α} (h : i < l.length) : (l.set i x).getD i d = x := by rw [List.getD_eq_getElem?_getD, List.getElem?_set]; simp [h]
theorem getD_set_ne {α : Type} {l : List α} {i j : Nat} {x d : α} (h : i ≠ j) : (l.set i x).getD j d = l.getD j d := by rw [List.getD_eq_getElem?_getD, List.getElem?_set, if_neg h, ← List.getD_eq_getElem?_getD]
theorem MidInv.skip {K : List ByteArray} {mid : ByteArray} {j p : Nat} {M0 Ms : List (List ByteArray)} {seen : List Nat} (h : MidInv K mid j M0 seen Ms) (hp : p < K.length) (hps : p ∉ seen) (hm : mid ∉ Ms.getD p []) : MidInv K mid j M0 (seen ++ [p]) Ms := by
  refine ⟨h.1, fun q hq t => (h.2 q hq t).trans ?_⟩
  have hm0 : mid ∉ M0.getD p [] := fun k => hm ((h.2 p hp mid).2 (.inl k))
  constructor
  · rintro (k | ⟨k1, k2, k3⟩)
    · exact .inl k
    · exact .inr ⟨by simp [k1], k2, k3⟩
  · rintro (k | ⟨k1, k2, k3⟩)
    · exact .inl k
    · simp only [List.mem_append, List.mem_singleton] at k1
      rcases k1 with k1 | rfl
      · exact .inr ⟨k1, k2, k3⟩
      · exact absurd k2 hm0
theorem MidInv.take {K : List ByteArray} {mid : ByteArray} {j p : Nat} {M0 Ms : List (List ByteArray)} {seen : List Nat} (h : MidInv K mid j M0 seen Ms) (hj : j < K.length) (hp : p < K.length) (hps : p ∉ seen) (hm : mid ∈ Ms.getD p []) {row : List ByteArray}
    (hrow : ∀ t, t ∈ row ↔ t ∈ Ms.getD p [] ∨ t ∈ Ms.getD j []) : MidInv K mid j M0 (seen ++ [p]) (Ms.set p row) := by
  have hm0 : mid ∈ M0.getD p [] := by
    rcases (h.2 p hp mid).1 hm with k | ⟨k, _⟩
    · exact k
    · exact absurd k hps
  have hjr : ∀ t, t ∈ Ms.getD j [] ↔ t ∈ M0.getD j [] := fun t => (h.2 j hj t).trans ⟨fun k => k.elim id (·.2.2), .inl⟩
  have hpr : ∀ t, t ∈ Ms.getD p [] ↔ t ∈ M0.getD p [] := fun t => (h.2 p hp t).trans ⟨fun k => k.elim id fun k => absurd k.1 hps, .inl⟩
  refine ⟨by simp [h.1], fun q hq t => ?_⟩
  by_cases e : p = q
  · subst e
    rw [getD_set_self (by rw [h.1]; exact hp), hrow, hpr, hjr]
    constructor
    · rintro (k | k)
      · exact .inl k
      · exact .inr ⟨by simp, hm0, k⟩
    · rintro (k | ⟨_, _, k⟩)
      · exact .inl k
      · exact .inr k
  · rw [getD_set_ne e, h.2 q hq t]
    have : q ∈ seen ++ [p] ↔ q ∈ seen := by simp; intro k; exact absurd k.symm e
    rw [this]
theorem RowsVia.mid {rules : List RuleD} {K : List ByteArray} {j : Nat} {mid : ByteArray} {M0 Ms : List (List ByteArray)} {seen seenL : List Nat} (h : RowsVia rules K (SeenK K seen) M0) (hj : K[j]? = some mid) (hm : MidInv K mid j M0 seenL Ms) (hall : ∀ p, p < K.length → p ∈ seenL) :
    RowsVia rules K (SeenK K (seen ++ [j])) Ms := by
  have h2 : RowsVia rules K (fun c => SeenK K seen c ∨ c = mid) Ms := by
    refine ⟨hm.1, fun i a hi t => ?_⟩
    have hil : i < K.length := (List.getElem?_eq_some_iff.1 hi).1
    rw [hm.2 i hil t, Via.more, h.2 i a hi t, h.2 i a hi mid, h.2 j mid hj t]
    constructor
    · rintro (k | ⟨_, k1, k2⟩)
      · exact .inl k
      · exact .inr ⟨k1, k2⟩
    · rintro (k | ⟨k1, k2⟩)
      · exact .inl k
      · exact .inr ⟨hall i hil, k1, k2⟩
  refine h2.congr fun c => ?_
  simp only [SeenK, List.mem_append, List.mem_singleton]
  constructor
  · rintro (⟨q, k1, k2⟩ | rfl)
    · exact ⟨q, .inl k1, k2⟩
    · exact ⟨j, .inr rfl, hj⟩
  · rintro ⟨q, k1 | rfl, k2⟩
    · exact .inl ⟨q, k1, k2⟩
    · rw [hj] at k2; exact .inr (Option.some.inj k2).symm
theorem RowsVia.all {rules : List RuleD} {Ms : List (List ByteArray)} {seen : List Nat} (h : RowsVia rules (onOf rules).keys (SeenK (onOf rules).keys seen) Ms) (hall : ∀ j, j < (onOf rules).keys.length → j ∈ seen) :
    ∀ i a, (onOf rules).keys[i]? = some a → ∀ t, t ∈ Ms.getD i [] ↔ Reach rules a t := by
  intro i a hi t
  refine (h.2 i a hi t).trans (Via.heads fun r hr => ?_)
  obtain ⟨q, h1, h2, h3⟩ := idxT_mem (((onOf_ok rules).hd r.rel).2 ⟨r, hr, rfl⟩)
  exact ⟨q, hall q h2, h3⟩
open Classical in
/-- what a relation rests on -/
noncomputable def reachL (rules : List RuleD) (a : ByteArray) : List ByteArray := (rules.flatMap fun r => r.body.map (·.rel)).filter fun t => decide (Reach rules a t)
open Classical in
theorem mem_reachL {rules : List RuleD} {a t : ByteArray} : t ∈ reachL rules a ↔ Reach rules a t := by
  simp only [reachL, List.mem_filter, decide_eq_true_eq, List.mem_flatMap, List.mem_map]
  refine ⟨(·.2), fun h => ⟨?_, h⟩⟩
  obtain ⟨r, h1, x, h2, _, h3⟩ := Reach.target h
  exact ⟨r, h1, x, h2, h3⟩
noncomputable def onA (rules : List RuleD) : AV := .rmap (keysT (onOf rules).keys) ((onOf rules).keys.map fun a => .kset (keysT (reachL rules a)) (.int .i64 1))
-- the innermost: a row that gains what a middle's row has
def RowInv (R row0 : List ByteArray) (same : Prop) (seen : List Nat) (row : List ByteArray) : Prop := (∀ t, t ∈ row ↔ t ∈ row0 ∨ ∃ q ∈ seen, R[q]? = some t) ∧ (same → row = R)
theorem RowInv.add {R row0 : List ByteArray} {same : Prop} {seen : List Nat} {row : List ByteArray} (h : RowInv R row0 same seen row) {q : Nat} {s : ByteArray} (hq : R[q]? = some s) : RowInv R row0 same (seen ++ [q]) (addT row s) := by
  refine ⟨fun t => ?_, fun hs => ?_⟩
  · rw [mem_addT, h.1]
    constructor
    · rintro ((k | ⟨p, k1, k2⟩) | rfl)
      · exact .inl k
      · exact .inr ⟨p, by simp [k1], k2⟩
      · exact .inr ⟨q, by simp, hq⟩
    · rintro (k | ⟨p, k1, k2⟩)
      · exact .inl (.inl k)
      · simp only [List.mem_append, List.mem_singleton] at k1
        rcases k1 with k1 | rfl
        · exact .inl (.inr ⟨p, k1, k2⟩)
        · rw [hq] at k2; exact .inr (Option.some.inj k2).symm
  · have e := h.2 hs
    rw [e, addT, (hasT_iff R s).2 (List.mem_of_getElem? hq)]; rfl
theorem RowInv.all {R row0 : List ByteArray} {same : Prop} {seen : List Nat} {row : List ByteArray} (h : RowInv R row0 same seen row) (hall : ∀ q, q < R.length → q ∈ seen) : ∀ t, t ∈ row ↔ t ∈ row0 ∨ t ∈ R := by
  intro t
  rw [h.1]
  constructor
  · rintro (k | ⟨q, _, k⟩)
    · exact .inl k
    · exact .inr (List.mem_of_getElem? k)
  · rintro (k | k)
    · exact .inl k
    · obtain ⟨q, hq⟩ := List.mem_iff_getElem?.1 k
      exact .inr ⟨q, hall q (List.getElem?_eq_some_iff.1 hq).1, hq⟩
theorem idxT_nd {s : ByteArray} {l : List ByteArray} (hn : l.Nodup) {j : Nat} (hj : l[j]? = some s) : idxT s l 0 = some j := by
  obtain ⟨i, h1, h2, h3⟩ := idxT_mem (List.mem_of_getElem? hj)
  obtain ⟨l1, e1⟩ := List.getElem?_eq_some_iff.1 hj
  obtain ⟨l2, e2⟩ := List.getElem?_eq_some_iff.1 h3
  rw [h1, nd_inj hn l2 l1 (e2.trans e1.symm)]
-- what is handed out
theorem wkL_idx {α β : Type} {f : α → AV} {g : β → AV} : ∀ {l : List α} {r : List β}, l.length = r.length → (∀ (i : Nat) (x : α) (y : β), l[i]? = some x → r[i]? = some y → Wk (f x) (g y)) → WkL (l.map f) (r.map g)
  | [], [], _, _ => .nil
  | [], _ :: _, h, _ => by simp at h
  | _ :: _, [], h, _ => by simp at h
  | x :: l, y :: r, h, k => .cons (k 0 x y rfl rfl) (wkL_idx (by simpa using h) fun i a b h1 h2 => k (i + 1) a b (by simpa using h1) (by simpa using h2))
theorem ones_norefL (r : List ByteArray) : norefL (ones r) = true := by
  induction r with
  | nil => rfl
  | cons a r ih => simp only [ones, List.map_cons, norefL, Bool.and_eq_true] at ih ⊢; exact ⟨rfl, ih⟩
theorem rsvL_inner {g : Nat → Option Blk} : ∀ (r : List (List ByteArray)) (k : Nat), (∀ i (hi : i < r.length), g (1001 + (k + i)) = some (blkR r[i])) → RsvL g ((List.range' k r.length).map fun i => AV.mapr (1001 + i)) (r.map fun x => .rmap (keysT x) (ones x))
  | [], _, _ => .nil
  | x :: r, k, h => by
    simp only [List.length_cons, List.range'_succ, List.map_cons]
    refine .cons (.mapr (h 0 (by simp)) (.closed (ones_norefL x))) (rsvL_inner r (k + 1) fun i hi => ?_)
    have := h (i + 1) (by simpa using hi)
    rw [show k + 1 + i = k + (i + 1) from by omega]; simpa using this
theorem on_frz {rules : List RuleD} {Ms : List (List ByteArray)} {seen : List Nat} {s : AS} (h : RowsVia rules (onOf rules).keys (SeenK (onOf rules).keys seen) Ms) (hall : ∀ j, j < (onOf rules).keys.length → j ∈ seen)
    (h3 : lk s.tm 3 = some (.mapr 1000)) (hm : lk s.hp 1000 = some (.map (keysT (onOf rules).keys) (inner (onOf rules).keys.length))) (hr : ∀ i (hi : i < Ms.length), lk s.hp (1001 + i) = some (blkR Ms[i])) :
    Frz (1000 :: (List.range (onOf rules).keys.length).map (1001 + ·)) { tm := [(3, onA rules)], hp := [] } s := by
  have hmem : ∀ i, i < (onOf rules).keys.length → (1000 :: (List.range (onOf rules).keys.length).map (1001 + ·)).contains (1001 + i) = true := fun i hi => by simp; exact .inr hi
  refine ⟨rfl, frzBs_of fun b k hb hk => ?_, ⟨?_, trivial⟩, trivial⟩
  · simp only [List.contains_cons, Bool.or_eq_true, beq_iff_eq] at hb
    rcases hb with rfl | hb
    · rw [hm] at hk; cases hk
      exact inner_within hmem
    · simp only [List.contains_eq_mem, List.mem_map, List.mem_range, decide_eq_true_eq] at hb
      obtain ⟨i, hi, rfl⟩ := hb
      rw [hr i (by rw [h.1]; exact hi)] at hk; cases hk
      exact blkR_within _ _
  · rw [h3]
    refine .inr ⟨rfl, .inr ⟨by simp [within], .rmap (keysT (onOf rules).keys) (Ms.map fun x => .rmap (keysT x) (ones x)), ?_, ?_⟩⟩
    · refine .mapr (vs := inner (onOf rules).keys.length) ?_ ?_
      · rw [frzG, if_pos (by simp), hm]
      · have := rsvL_inner (g := frzG (1000 :: (List.range (onOf rules).keys.length).map (1001 + ·)) s) Ms 0 fun i hi => by
          rw [Nat.zero_add, frzG, if_pos (hmem i (by rw [← h.1]; exact hi))]; exact hr i hi
        rwa [← List.range_eq_range', h.1] at this
    · refine .rmap (wkL_idx h.1 fun i x a h1 h2 => ?_)
      refine .kset (by simp [ones, keysT]) fun k => ?_
      have hx : Ms.getD i [] = x := by rw [List.getD_eq_getElem?_getD, h1]; rfl
      have := fun t => h.all hall i a h2 t
      rw [hx] at this
      simp only [keysT, List.mem_map]
      constructor
      · rintro ⟨t, h3, rfl⟩; exact ⟨t, mem_reachL.2 ((this t).1 h3), rfl⟩
      · rintro ⟨t, h3, rfl⟩; exact ⟨t, (this t).2 (mem_reachL.1 h3), rfl⟩
theorem norefL_map {α : Type} {f : α → AV} (h : ∀ x, noref (f x) = true) : ∀ l : List α, norefL (l.map f) = true
  | [] => rfl
  | x :: l => by simp only [List.map_cons, norefL, Bool.and_eq_true]; exact ⟨h x, norefL_map h l⟩
theorem onA_noref (rules : List RuleD) : noref (onA rules) = true := by
  unfold onA
  simp only [noref]
end Go.Sl
