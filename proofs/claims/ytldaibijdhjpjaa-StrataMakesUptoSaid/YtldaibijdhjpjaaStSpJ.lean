/- The example; what the statements are about, in plain. -/
import Derived.Test.YtldaibijdhjpjaaStSpI
set_option linter.unusedSimpArgs false
set_option linter.unusedVariables false
namespace Go.St
open Go.Aw
theorem sat_reach {g : Graph} (hg : g.ok) {f : Nat → Nat} (hf : satF g f) {x y : Nat} (h : Reach (nextOf g) x y) : f y ≤ f x := by
  have edge : ∀ x y, y ∈ (nextOf g).getD x [] → ∃ p ∈ g.pairs, ∃ e ∈ p.2, p.1 = x ∧ e.to = y := by
    intro x y hy
    unfold nextOf at hy
    rw [mem_next g hg _ (Nat.le_refl _)] at hy
    obtain ⟨i, hi, h1, e, he, h2⟩ := hy
    have hi2 : i < g.edges.length := by rw [hg.len]; exact hi
    have hi3 : i < g.pairs.length := by rw [pairs_len hg]; exact hi
    refine ⟨g.pairs[i], List.getElem_mem hi3, e, ?_, ?_, h2⟩
    · rw [pairs_at i hi hi2 hi3]; simpa [List.getD_eq_getElem?_getD, hi2] using he
    · rw [pairs_at i hi hi2 hi3]; simpa [List.getD_eq_getElem?_getD, hi] using h1
  induction h with
  | one h1 =>
    obtain ⟨p, hp, e, he, rfl, rfl⟩ := edge _ _ h1
    have := hf p hp e he; omega
  | step _ h2 ih =>
    obtain ⟨p, hp, e, he, rfl, rfl⟩ := edge _ _ h2
    have := hf p hp e he; omega
theorem refuse1_fine {g : Graph} {l : List (Nat × List Edge)} (key : ∀ p ∈ l, ∀ e ∈ p.2, badE g p.1 e = false) : refuse1 g l = none := by
  have k2 : ∀ (h : Nat) (l : List Edge), (∀ e ∈ l, badE g h e = false) → refuse2 g h l = none := by
    intro h l
    induction l with
    | nil => intro _; rfl
    | cons e l ih => intro hl; simp only [refuse2]; rw [hl e (by simp)]; exact ih fun e' he' => hl e' (by simp [he'])
  induction l with
  | nil => rfl
  | cons p l ih =>
    simp only [refuse1]
    rw [k2 p.1 p.2 (key p (by simp))]
    exact ih fun q hq => key q (by simp [hq])
/-- numbers that fit: nothing is refused -/
theorem sat_fine {g : Graph} (hg : g.ok) {f : Nat → Nat} (hf : satF g f) : refuse1 g g.pairs = none := by
  have key : ∀ p ∈ g.pairs, ∀ e ∈ p.2, badE g p.1 e = false := by
    intro p hp e he
    obtain ⟨_, h2, h3⟩ := edge_next hg hp he
    cases hb : badE g p.1 e with
    | false => rfl
    | true =>
      exfalso
      simp only [badE, Bool.and_eq_true, Bool.or_eq_true, decide_eq_true_eq] at hb
      have h4 := hf p hp e he
      simp only [str, hb.1, if_true] at h4
      rcases hb.2 with h | h
      · rw [h] at h4; omega
      · have := sat_reach hg hf ((reachRow_at (nextOf g) g.n e.to p.1 h2).1 h); omega
  exact refuse1_fine key
def strictB (r : RuleD) (l : LitD) : Bool := (l.kind == 2) || grouped r
def nilO : Opq := ⟨.slice none 0 0, rfl⟩
/-- literals of names, from a place on -/
def litsFrom (kind line off : Int) : Nat → List ByteArray → List LitD
  | _, [] => []
  | k, s :: l => ⟨kind, line, off + k, s, nilO⟩ :: litsFrom kind line off (k + 1) l
theorem litsFrom_snoc (kind line off : Int) : ∀ (l : List ByteArray) (k : Nat) (s : ByteArray), litsFrom kind line off k (l ++ [s]) = litsFrom kind line off k l ++ [⟨kind, line, off + (k + l.length : Nat), s, nilO⟩]
  | [], k, s => by simp [litsFrom]
  | x :: l, k, s => by
    simp only [List.cons_append, litsFrom, litsFrom_snoc kind line off l (k + 1) s, List.length_cons]
    rw [show k + 1 + l.length = k + (l.length + 1) from by omega]
theorem litsFrom_take (kind line off : Int) (l : List ByteArray) (k : Nat) (h : k < l.length) : litsFrom kind line off 0 (l.take (k + 1)) = litsFrom kind line off 0 (l.take k) ++ [⟨kind, line, off + k, l[k], nilO⟩] := by
  rw [List.take_add_one, List.getElem?_eq_getElem h, Option.toList_some, litsFrom_snoc]
  have : min k l.length = k := by omega
  simp [this]
theorem litsFrom_len (kind line off : Int) : ∀ (l : List ByteArray) (k : Nat), (litsFrom kind line off k l).length = l.length
  | [], _ => rfl
  | _ :: l, k => by simp [litsFrom, litsFrom_len kind line off l (k + 1)]
def countB : ByteArray := ⟨#[99, 111, 117, 110, 116]⟩
def ruleD (line : Int) (nm : ByteArray) (agg : Bool) (atoms nots : List ByteArray) : RuleD := ⟨line, 1, nm, nilO, if agg then [⟨#[]⟩, countB] else [], litsFrom 1 line 2 0 atoms ++ litsFrom 2 line 20 0 nots⟩
def edgeB : ByteArray := ⟨#[101, 100, 103, 101]⟩
def pathB : ByteArray := ⟨#[112, 97, 116, 104]⟩
def degB : ByteArray := ⟨#[100, 101, 103]⟩
def farB : ByteArray := ⟨#[102, 97, 114]⟩
def relD (nm : ByteArray) (inp : Bool) : RelD := ⟨0, 0, false, inp, nm, nilO⟩
def exMod : MMod := ⟨ByteArray.empty, nilO, nilO, [relD edgeB true, relD pathB false, relD degB false, relD farB false],
  [ruleD 1 pathB false [edgeB] [], ruleD 2 pathB false [pathB, edgeB] [], ruleD 3 degB true [edgeB] [], ruleD 4 farB false [pathB] [degB]], []⟩
theorem exMod_ok : exMod.ok := by
  refine ⟨by decide, by decide, by decide, ?_, ?_, ?_⟩ <;> simp [exMod, ruleD, litsFrom_len]
theorem exMod_small : Small exMod := by
  refine ⟨by decide, by decide, ?_⟩
  simp [exMod, ruleD, litsFrom_len]
theorem exMod_check : checkE exMod = okE := by rfl
def exGraph : Graph := ⟨4, [1, 1, 2, 3], [[⟨0, false, 1, 2⟩], [⟨1, false, 2, 2⟩, ⟨0, false, 2, 3⟩], [⟨0, true, 3, 2⟩], [⟨1, false, 4, 2⟩, ⟨2, true, 4, 20⟩]]⟩
theorem exMod_graph : graphOf exMod = exGraph := by rfl
theorem exGraph_least : IsLeast exGraph [0, 0, 1, 2] := by
  refine ⟨rfl, ?_, ?_⟩
  · intro p hp e he
    simp [exGraph, Graph.pairs] at hp
    rcases hp with rfl | rfl | rfl | rfl <;> simp at he <;> (try rcases he with rfl | rfl) <;> (try subst he) <;> simp [fn, str]
  · intro f hf i
    have h1 := hf (2, [⟨0, true, 3, 2⟩]) (by simp [exGraph, Graph.pairs]) ⟨0, true, 3, 2⟩ (by simp)
    have h2 := hf (3, [⟨1, false, 4, 2⟩, ⟨2, true, 4, 20⟩]) (by simp [exGraph, Graph.pairs]) ⟨2, true, 4, 20⟩ (by simp)
    simp [str] at h1 h2
    match i with
    | 0 => simp [fn]
    | 1 => simp [fn]
    | 2 => simp [fn]; omega
    | 3 => simp [fn]; omega
    | i + 4 => simp [fn]
theorem exGraph_ok : exGraph.ok := by rw [← exMod_graph]; exact graph_ok (Check_good (by decide) (by rw [exMod_check]; rfl)) exMod_small
def exStrata : StrataD := ⟨[0, 0, 1, 2], [[0, 1], [2], [3]], [[0, 1], [2], [3]]⟩
theorem exMod_make : progMake exMod = (exStrata, okE) := by
  have h1 : progMake exMod = makeOf exGraph := by
    have : (checkE exMod).2 = 0 := by rw [exMod_check]; rfl
    simp only [progMake, this, if_true, exMod_graph]
  rw [h1, makeOf_none (sat_fine exGraph_ok exGraph_least.sat), leastOf_eq exGraph_least]
  rfl
end Go.St
