/- Which rules go round; how much literals are. -/
import Derived.Test.YtempphkfacccoaaSlSpW
set_option linter.unusedSimpArgs false
set_option linter.unusedVariables false
namespace Go.Sl
open Go.Aw
def idxL (p : LitD → Bool) : List LitD → Nat → Int
  | [], _ => -1
  | x :: l, k => if p x then (k : Int) else idxL p l (k + 1)
theorem idxL_drop (p : LitD → Bool) (l : List LitD) (k : Nat) (h : k < l.length) : idxL p (l.drop k) k = if p l[k] then (k : Int) else idxL p (l.drop (k + 1)) (k + 1) := by
  rw [List.drop_eq_getElem_cons h]; rfl
theorem idxL_any (p : LitD → Bool) : ∀ (l : List LitD) (k : Nat), decide (idxL p l k ≥ 0) = l.any p
  | [], k => by simp [idxL]
  | x :: l, k => by
    rw [List.any_cons, ← idxL_any p l (k + 1)]
    refine Bool.eq_iff_iff.2 ?_
    simp only [decide_eq_true_eq, Bool.or_eq_true, idxL]
    by_cases h : p x = true
    · simp [h]
    · simp [h]
theorem kvGet_T' (s : ByteArray) (f : ByteArray → AV) : ∀ l : List ByteArray, kvGet (.string s) (keysT l) (l.map f) = if hasT l s then some (f s) else none
  | [] => by simp [keysT, kvGet, hasT]
  | j :: l => by
    have ih := kvGet_T' s f l
    have e : kvGet (.string s) (keysT (j :: l)) ((j :: l).map f) = if keyEq (.string s) (.string j) = true then some (f j) else kvGet (.string s) (keysT l) (l.map f) := rfl
    rw [e, ih, hasT_cons]
    have hk : keyEq (.string s) (.string j) = decide (s = j) := rfl
    rw [hk]
    by_cases h : s = j
    · subst h; simp
    · simp [h]
theorem keysT_any (s : ByteArray) (l : List ByteArray) : (keysT l).any (keyEq (.string s)) = hasT l s := by
  simp only [keysT, List.any_map, hasT]
  congr 1
/-- a literal that leads back to a rule's own relation -/
noncomputable def backL (rules : List RuleD) (r : RuleD) (x : LitD) : Bool := related x && (decide (x.rel = r.rel) || hasT (reachL rules x.rel) r.rel)
noncomputable def roundsE (rules : List RuleD) : List Bool := rules.map fun r => r.body.any (backL rules r)
def bools (l : List Bool) : List (List AV) := l.map fun b => [bval b]
@[simp] theorem bools_len (l : List Bool) : (bools l).length = l.length := by simp [bools]
@[simp] theorem bools_get (l : List Bool) (i : Nat) (h : i < (bools l).length) : (bools l)[i] = [bval (l[i]'(by simpa using h))] := by simp [bools]
theorem bools_snoc (l : List Bool) (b : Bool) : bools l ++ [[.val (.bool b)]] = bools (l ++ [b]) := by simp [bools]
theorem reach_none {rules : List RuleD} {a : ByteArray} (h : hasT (onOf rules).keys a = false) (t : ByteArray) : hasT (reachL rules a) t = false := by
  cases e : hasT (reachL rules a) t with
  | false => rfl
  | true =>
    have h1 := mem_reachL.1 ((hasT_iff _ _).1 e)
    obtain ⟨r, h2, h3⟩ := h1.head
    rw [(hasT_iff _ _).2 (((onOf_ok rules).hd a).2 ⟨r, h2, h3⟩)] at h
    cases h
@[simp] theorem roundsE_len (rules : List RuleD) : (roundsE rules).length = rules.length := by simp [roundsE]
end Go.Sl
