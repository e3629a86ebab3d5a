/- Whether a body is safe, and what is bound, does not hang on the order of its literals. -/
import Derived.Test.YtempphkfacccoaaSlSpP
set_option linter.unusedSimpArgs false
set_option linter.unusedVariables false
namespace Go.Sl
open Go.Aw
def gives (x : LitD) (s : ByteArray) : Prop := s ∈ lvars x ∨ (x.kind = 4 ∧ s = x.rel)
def Closed (l : List LitD) (S : ByteArray → Prop) : Prop := ∀ x ∈ l, (x.kind = 1 ∨ ∀ v ∈ lvars x, S v) → ∀ s, gives x s → S s
def Der (l : List LitD) (s : ByteArray) : Prop := ∀ S, Closed l S → S s
theorem Der.closed (l : List LitD) : Closed l (Der l) := by
  intro x hx hr s hs S hS
  refine hS x hx ?_ s hs
  rcases hr with h | h
  · exact .inl h
  · exact .inr fun v hv => h v hv S hS
theorem Der.congr {l r : List LitD} (h : ∀ x, x ∈ l ↔ x ∈ r) (s : ByteArray) : Der l s ↔ Der r s :=
  ⟨fun k S hS => k S fun x hx => hS x ((h x).1 hx), fun k S hS => k S fun x hx => hS x ((h x).2 hx)⟩
theorem addT_mem {l : List ByteArray} {s t : ByteArray} : t ∈ addT l s ↔ t ∈ l ∨ t = s := by
  unfold addT
  split
  · rename_i h
    have := (hasT_iff l s).1 h
    exact ⟨.inl, fun k => k.elim id (fun e => e ▸ this)⟩
  · simp
theorem addT_nd {l : List ByteArray} {s : ByteArray} (h : l.Nodup) : (addT l s).Nodup := by
  unfold addT
  split
  · exact h
  · rename_i k
    rw [List.nodup_append]
    exact ⟨h, by simp, fun x hx y hy => by simp at hy; subst hy; intro e; subst e; exact k ((hasT_iff _ _).2 hx)⟩
theorem foldT_mem : ∀ (v n : List ByteArray) (t : ByteArray), t ∈ v.foldl addT n ↔ t ∈ n ∨ t ∈ v
  | [], n, t => by simp
  | a :: v, n, t => by rw [List.foldl_cons, foldT_mem v, addT_mem]; simp [or_assoc]
theorem foldT_nd : ∀ (v n : List ByteArray), n.Nodup → (v.foldl addT n).Nodup
  | [], n, h => h
  | a :: v, n, h => by rw [List.foldl_cons]; exact foldT_nd v _ (addT_nd h)
theorem gain_mem {names : List ByteArray} {x : LitD} {t : ByteArray} : t ∈ gain names x ↔ t ∈ names ∨ gives x t := by
  unfold gain gives
  rw [foldT_mem]
  split
  · rename_i h; rw [addT_mem]; simp only [h, true_and]
    constructor
    · rintro ((k | k) | k)
      · exact .inl k
      · exact .inr (.inr k)
      · exact .inr (.inl k)
    · rintro (k | k | k)
      · exact .inl (.inl k)
      · exact .inr k
      · exact .inl (.inr k)
  · rename_i h; simp [h]
theorem gain_nd {names : List ByteArray} {x : LitD} (h : names.Nodup) : (gain names x).Nodup := by
  unfold gain
  refine foldT_nd _ _ ?_
  split
  · exact addT_nd h
  · exact h
theorem next_some {l : List LitD} {left : List Nat} {names : List ByteArray} : ∀ {r : List LitD} {k i : Nat} {x : LitD}, nextFrom l left names r k = some (i, x) → ∃ j, i = k + j ∧ r[j]? = some x ∧ ready l left names i x = true
  | [], _, _, _, h => by simp [nextFrom] at h
  | y :: r, k, i, x, h => by
    simp only [nextFrom] at h
    split at h
    · rename_i hr; cases h; exact ⟨0, rfl, rfl, hr⟩
    · obtain ⟨j, h1, h2, h3⟩ := next_some h
      exact ⟨j + 1, by omega, by simpa using h2, h3⟩
theorem next_none {l : List LitD} {left : List Nat} {names : List ByteArray} : ∀ {r : List LitD} {k : Nat}, nextFrom l left names r k = none → ∀ j x, r[j]? = some x → ready l left names (k + j) x = false
  | [], _, _, j, x, h => by simp at h
  | y :: r, k, h, j, x, hj => by
    simp only [nextFrom] at h
    split at h
    · cases h
    · rename_i hr
      cases j with
      | zero => simp at hj; subst hj; simpa using hr
      | succ j =>
        have := next_none h j x (by simpa using hj)
        rwa [show k + (j + 1) = k + 1 + j from by omega]
/-- what holds from round to round -/
structure BInv (l : List LitD) (s : OSt) : Prop where
  lnd : s.left.Nodup
  taken : ∀ i x, l[i]? = some x → i ∉ s.left → (x.kind = 1 ∨ ∀ v ∈ lvars x, v ∈ s.names) ∧ ∀ t, gives x t → t ∈ s.names
  der : ∀ t ∈ s.names, Der l t
  nd : s.names.Nodup
  wt : s.names.length + (s.left.map (wtAt l)).sum ≤ wts l
theorem ready_iff {l : List LitD} {left : List Nat} {names : List ByteArray} {i : Nat} {x : LitD} : ready l left names i x = true ↔ i ∈ left ∧ (x.kind = 1 ∨ ∀ v ∈ lvars x, v ∈ names) := by
  simp only [ready, Bool.and_eq_true, Bool.or_eq_true, decide_eq_true_eq, List.all_eq_true, hasT_iff, List.contains_iff_mem]
theorem BInv.step {l : List LitD} {s s' : OSt} (h : BInv l s) (hs : oStep l s = some s') : BInv l s' ∧ s'.left.length < s.left.length := by
  simp only [oStep, Option.map_eq_some_iff] at hs
  obtain ⟨⟨i, x⟩, hn, rfl⟩ := hs
  obtain ⟨j, hij, hx, hr⟩ := next_some hn
  have hij' : i = j := by omega
  subst hij'
  obtain ⟨hm, hrd⟩ := ready_iff.1 hr
  refine ⟨⟨h.lnd.erase i, fun k y hy hk => ?_, fun t ht => ?_, gain_nd h.nd, ?_⟩, ?_⟩
  · simp only
    by_cases e : k = i
    · subst e
      rw [hx] at hy; cases hy
      exact ⟨hrd.elim .inl fun q => .inr fun v hv => gain_mem.2 (.inl (q v hv)), fun t ht => gain_mem.2 (.inr ht)⟩
    · have hk' : k ∉ s.left := fun q => hk ((List.mem_erase_of_ne e).2 q)
      obtain ⟨h1, h2⟩ := h.taken k y hy hk'
      exact ⟨h1.elim .inl fun q => .inr fun v hv => gain_mem.2 (.inl (q v hv)), fun t ht => gain_mem.2 (.inl (h2 t ht))⟩
  · rcases gain_mem.1 ht with k | k
    · exact h.der t k
    · exact Der.closed l x (List.mem_of_getElem? hx) (hrd.elim .inl fun q => .inr fun v hv => h.der v (q v hv)) t k
  · have h1 := gain_len s.names x
    have h2 := sum_erase (wtAt l) s.left i hm
    have h3 : wtAt l i = wtL x := by simp [wtAt, hx]
    have := h.wt
    simp only
    omega
  · have := List.length_pos_of_mem hm
    simp only
    rw [List.length_erase_of_mem hm]; omega
theorem BInv.end_ {l : List LitD} : ∀ (n : Nat) (s : OSt), BInv l s → s.left.length ≤ n → BInv l (oRun l n s) ∧ oStep l (oRun l n s) = none
  | 0, s, h, hn => by
    refine ⟨h, ?_⟩
    simp only [oRun]
    cases hs : oStep l s with
    | none => rfl
    | some s' => have := (h.step hs).2; omega
  | n + 1, s, h, hn => by
    simp only [oRun]
    cases hs : oStep l s with
    | none => exact ⟨h, hs⟩
    | some s' =>
      obtain ⟨h1, h2⟩ := h.step hs
      exact BInv.end_ n s' h1 (by omega)
theorem oEnd_ok (l : List LitD) : BInv l (oEnd l) ∧ oStep l (oEnd l) = none :=
  BInv.end_ _ _ ⟨List.nodup_range, fun i x hx hi => absurd (List.mem_range.2 (List.getElem?_eq_some_iff.1 hx).1) hi, by simp, List.nodup_nil, by simp only [List.length_nil, Nat.zero_add]; rw [range_wt]; exact Nat.le_refl _⟩ (by simp)
theorem names_iff (l : List LitD) (t : ByteArray) : t ∈ (oEnd l).names ↔ Der l t := by
  obtain ⟨h1, h2⟩ := oEnd_ok l
  refine ⟨h1.der t, fun h => h (fun s => s ∈ (oEnd l).names) fun x hx hr s hs => ?_⟩
  have hn : nextFrom l (oEnd l).left (oEnd l).names l 0 = none := by simpa [oStep] using h2
  obtain ⟨i, hi⟩ := List.mem_iff_getElem?.1 hx
  have hr' := next_none hn i x hi
  rw [Nat.zero_add] at hr'
  have hil : i ∉ (oEnd l).left := fun k => by rw [ready_iff.2 ⟨k, hr⟩] at hr'; cases hr'
  exact (h1.taken i x hi hil).2 s hs
/-- every literal may be taken -/
def Safe (l : List LitD) : Prop := ∀ x ∈ l, x.kind = 1 ∨ ∀ v ∈ lvars x, Der l v
theorem leftFrom_none {left : List Nat} : ∀ {r : List LitD} {k : Nat}, leftFrom left r k = none ↔ ∀ j, j < r.length → k + j ∉ left
  | [], k => by simp [leftFrom]
  | x :: r, k => by
    simp only [leftFrom]
    split
    · rename_i h
      constructor
      · intro e; cases e
      · intro e; exact absurd (List.contains_iff_mem.1 h) (e 0 (by simp))
    · rename_i h
      rw [leftFrom_none]
      constructor
      · intro e j hj
        cases j with
        | zero => simpa using h
        | succ j => have := e j (by simpa using hj); rwa [show k + (j + 1) = k + 1 + j from by omega]
      · intro e j hj
        have := e (j + 1) (by simpa using hj)
        rwa [show k + (j + 1) = k + 1 + j from by omega] at this
theorem safe_iff (l : List LitD) : leftFrom (oEnd l).left l 0 = none ↔ Safe l := by
  obtain ⟨h1, h2⟩ := oEnd_ok l
  have hn : nextFrom l (oEnd l).left (oEnd l).names l 0 = none := by simpa [oStep] using h2
  rw [leftFrom_none]
  constructor
  · intro h x hx
    obtain ⟨i, hi⟩ := List.mem_iff_getElem?.1 hx
    have := h i (List.getElem?_eq_some_iff.1 hi).1
    rw [Nat.zero_add] at this
    exact (h1.taken i x hi this).1.elim .inl fun q => .inr fun v hv => (names_iff l v).1 (q v hv)
  · intro h i hi
    rw [Nat.zero_add]
    intro k
    have hr := next_none hn i l[i] (by simp [hi])
    rw [Nat.zero_add, ready_iff.2 ⟨k, (h _ (List.getElem_mem hi)).elim .inl fun q => .inr fun v hv => (names_iff l v).2 (q v hv)⟩] at hr
    cases hr
theorem Safe.congr {l r : List LitD} (h : ∀ x, x ∈ l ↔ x ∈ r) : Safe l ↔ Safe r := by
  constructor
  · intro k x hx
    exact (k x ((h x).2 hx)).elim .inl fun q => .inr fun v hv => (Der.congr h v).1 (q v hv)
  · intro k x hx
    exact (k x ((h x).1 hx)).elim .inl fun q => .inr fun v hv => (Der.congr h v).2 (q v hv)
/-- what the order answers -/
theorem order_cases (l : List LitD) : (Safe l ∧ orderE l = ((oEnd l).row, (oEnd l).names, 0, 0, 0)) ∨ (¬ Safe l ∧ ∃ a b, orderE l = ([], [], a, b, 71)) := by
  by_cases h : Safe l
  · left
    refine ⟨h, ?_⟩
    have := (safe_iff l).2 h
    simp only [orderE, this]
  · right
    refine ⟨h, ?_⟩
    cases e : leftFrom (oEnd l).left l 0 with
    | none => exact absurd ((safe_iff l).1 e) h
    | some x => exact ⟨x.line, x.col, by simp only [orderE, e]⟩
theorem order_any {l r : List LitD} (h : ∀ x, x ∈ l ↔ x ∈ r) : (orderE l).2.2.2.2 = (orderE r).2.2.2.2 ∧ (orderE l).2.1.length = (orderE r).2.1.length ∧ ∀ s ∈ (orderE l).2.1, s ∈ (orderE r).2.1 := by
  rcases order_cases l with ⟨h1, e1⟩ | ⟨h1, a, b, e1⟩
  · rcases order_cases r with ⟨h2, e2⟩ | ⟨h2, _⟩
    · rw [e1, e2]
      have hm : ∀ s, s ∈ (oEnd l).names ↔ s ∈ (oEnd r).names := fun s => by rw [names_iff, names_iff, Der.congr h]
      refine ⟨rfl, ?_, fun s hs => (hm s).1 hs⟩
      exact Nat.le_antisymm ((oEnd_ok l).1.nd.length_le_of_subset fun s hs => (hm s).1 hs) ((oEnd_ok r).1.nd.length_le_of_subset fun s hs => (hm s).2 hs)
    · exact absurd ((Safe.congr h).1 h1) h2
  · rcases order_cases r with ⟨h2, _⟩ | ⟨h2, c, d, e2⟩
    · exact absurd ((Safe.congr h).2 h2) h1
    · rw [e1, e2]; exact ⟨rfl, rfl, by simp⟩
-- the draws
theorem draw_ok (p : Int) (n : Nat) (hn : 0 < n) (hn2 : n ≤ 4194304) : ¬ IntKind.u64.wrap (n : Int) = 0 ∧ ∃ k : Nat, k < n ∧ IntKind.i64.wrap ((IntKind.u64.wrap p).tmod (IntKind.u64.wrap (n : Int))) = (k : Int) := by
  have h1 : IntKind.u64.wrap (n : Int) = n := IntWalk.u64_in _ (by omega)
  have h2 : 0 ≤ IntKind.u64.wrap p := by rw [IntKind.wrap_u64]; omega
  rw [h1]
  refine ⟨by omega, ((IntKind.u64.wrap p).tmod (n : Int)).toNat, ?_, ?_⟩
  · have h3 := Int.tmod_lt_of_pos (IntKind.u64.wrap p) (b := (n : Int)) (by omega)
    have h4 := Int.tmod_nonneg (n : Int) h2
    omega
  · have h3 := Int.tmod_lt_of_pos (IntKind.u64.wrap p) (b := (n : Int)) (by omega)
    have h4 := Int.tmod_nonneg (n : Int) h2
    rw [wrap_in (by omega) (by omega)]; omega
theorem mem_cut {α : Type} {l : List α} {k : Nat} (h : k < l.length) (x : α) : x ∈ l ↔ x = l[k] ∨ x ∈ l.take k ++ l.drop (k + 1) := by
  conv => lhs; rw [← List.take_append_drop k l, List.drop_eq_getElem_cons h]
  simp only [List.mem_append, List.mem_cons]
  constructor
  · rintro (a | a | a)
    · exact .inr (.inl a)
    · exact .inl a
    · exact .inr (.inr a)
  · rintro (a | a | a)
    · exact .inr (.inl a)
    · exact .inl a
    · exact .inr (.inr a)
theorem wts_append (l r : List LitD) : wts (l ++ r) = wts l + wts r := by simp [wts, List.sum_append_nat]
theorem wts_cut {l : List LitD} {k : Nat} (h : k < l.length) : wts l = wtL l[k] + wts (l.take k ++ l.drop (k + 1)) := by
  conv => lhs; rw [← List.take_append_drop k l, List.drop_eq_getElem_cons h]
  rw [wts_append, wts_append]
  simp only [wts, List.map_cons, List.sum_cons]; omega
theorem wts_one (x : LitD) : wts [x] = wtL x := by simp [wts]
theorem order_len (l : List LitD) : (orderE l).2.1.length ≤ wts l := by
  rcases order_cases l with ⟨_, e⟩ | ⟨_, a, b, e⟩
  · rw [e]; have := (oEnd_ok l).1.wt; simp only; omega
  · rw [e]; simp
end Go.Sl
