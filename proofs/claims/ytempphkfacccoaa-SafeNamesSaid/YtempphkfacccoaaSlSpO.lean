/- Maps that are used as sets; the order of a body. -/
import Derived.Test.YtempphkfacccoaaSlSp
set_option linter.unusedSimpArgs false
set_option linter.unusedVariables false
namespace Go.Sl
open Go.Aw
def ones {α : Type} (l : List α) : List AV := l.map fun _ => .val (.int .i64 1)
def keysI (l : List Nat) : List Value := l.map fun j : Nat => Value.int .i64 (j : Int)
def keysT (l : List ByteArray) : List Value := l.map .string
@[simp] theorem ones_nil {α : Type} : ones ([] : List α) = [] := rfl
@[simp] theorem keysI_nil : keysI [] = [] := rfl
@[simp] theorem keysT_nil : keysT [] = [] := rfl
@[simp] theorem texts_nil : texts [] = [] := rfl
@[simp] theorem ints_nil : ints [] = [] := rfl
@[simp] theorem ones_own {α : Type} (l : List α) : ((ones l).all fun x => !isOwn x) = true := by simp [ones, isOwn]
@[simp] theorem ones_own' {α : Type} (l : List α) : ∀ x ∈ ones l, isOwn x = false := by simp [ones, isOwn]
@[simp] theorem ones_within {α : Type} (ids : List Nat) (l : List α) : withinL ids (ones l) = true := by
  rw [withinL_iff]; intro x hx; simp only [ones, List.mem_map] at hx; obtain ⟨_, _, rfl⟩ := hx; rfl
@[simp] theorem ones_noref {α : Type} (l : List α) : norefL (ones l) = true := by
  rw [norefL_iff]; intro x hx; simp only [ones, List.mem_map] at hx; obtain ⟨_, _, rfl⟩ := hx; rfl
@[simp] theorem ones_ren {α : Type} (x y : Nat) (l : List α) : renL x y (ones l) = ones l := renL_noref x y _ (ones_noref l)
@[simp] theorem keysI_kind (n : Int) (l : List Nat) : (∀ a ∈ keysI l, sameKind (.int .i64 n) a = true) ↔ True := by simp [keysI, sameKind]
@[simp] theorem keysT_kind (s : ByteArray) (l : List ByteArray) : (∀ a ∈ keysT l, sameKind (.string s) a = true) ↔ True := by simp [keysT, sameKind]
theorem kvGet_I (i : Nat) : ∀ l : List Nat, kvGet (.int .i64 (i : Int)) (keysI l) (ones l) = if l.contains i then some (.val (.int .i64 1)) else none
  | [] => by simp [keysI, ones, kvGet]
  | j :: l => by
    have ih := kvGet_I i l
    simp only [keysI, ones] at ih
    simp only [keysI, ones, List.map_cons, kvGet, keyEq, ih, List.contains_cons]
    by_cases h : i = j
    · subst h; simp
    · have h1 : ¬ (i : Int) = (j : Int) := by omega
      have h2 : (i == j) = false := by simpa using h
      rw [h2, Bool.false_or]
      simp [h1]
theorem hasT_cons (j : ByteArray) (l : List ByteArray) (s : ByteArray) : hasT (j :: l) s = (decide (s = j) || hasT l s) := by rw [hasT, List.any_cons, hasT]
theorem kvGet_T (s : ByteArray) : ∀ l : List ByteArray, kvGet (.string s) (keysT l) (ones l) = if hasT l s then some (.val (.int .i64 1)) else none
  | [] => by simp [keysT, ones, kvGet, hasT]
  | j :: l => by
    have ih := kvGet_T s l
    have e : kvGet (.string s) (keysT (j :: l)) (ones (j :: l)) = if keyEq (.string s) (.string j) = true then some (.val (.int .i64 1)) else kvGet (.string s) (keysT l) (ones l) := rfl
    rw [e, ih, hasT_cons]
    have hk : keyEq (.string s) (.string j) = decide (s = j) := rfl
    rw [hk]
    cases decide (s = j) <;> simp
theorem kvSet_I (i : Nat) (y : AV) (hy : y = .val (.int .i64 1)) : ∀ l : List Nat, l.contains i = false → kvSet (.int .i64 (i : Int)) y (keysI l) (ones l) = (keysI (l ++ [i]), ones (l ++ [i]))
  | [], _ => by subst hy; simp [keysI, ones, kvSet]
  | j :: l, h => by
    simp only [List.contains_cons, Bool.or_eq_false_iff, beq_eq_false_iff_ne] at h
    have ih := kvSet_I i y hy l h.2
    simp only [keysI, ones] at ih
    have : ¬ (i : Int) = (j : Int) := by have := h.1; omega
    simp only [keysI, ones, List.map_cons, kvSet, keyEq, ih]
    simp [this]
theorem kvSet_T (s : ByteArray) (y : AV) (hy : y = .val (.int .i64 1)) : ∀ l : List ByteArray, hasT l s = false → kvSet (.string s) y (keysT l) (ones l) = (keysT (l ++ [s]), ones (l ++ [s]))
  | [], _ => by subst hy; simp [keysT, ones, kvSet]
  | j :: l, h => by
    rw [hasT_cons, Bool.or_eq_false_iff] at h
    have ih := kvSet_T s y hy l h.2
    have hk : keyEq (.string s) (.string j) = decide (s = j) := rfl
    have e : kvSet (.string s) y (keysT (j :: l)) (ones (j :: l)) = if keyEq (.string s) (.string j) = true then (.string s :: keysT l, y :: ones l) else let r := kvSet (.string s) y (keysT l) (ones l); (.string j :: r.1, .val (.int .i64 1) :: r.2) := rfl
    rw [e, ih, hk, h.1]
    rfl
theorem kvDel_I (i : Nat) : ∀ l : List Nat, kvDel (.int .i64 (i : Int)) (keysI l) (ones l) = (keysI (l.erase i), ones (l.erase i))
  | [] => by simp [keysI, ones, kvDel]
  | j :: l => by
    have ih := kvDel_I i l
    simp only [keysI, ones] at ih
    simp only [keysI, ones, List.map_cons, kvDel, keyEq, ih]
    by_cases h : i = j
    · subst h; simp
    · have h1 : ¬ (i : Int) = (j : Int) := by omega
      have h2 : ¬ j = i := fun e => h e.symm
      rw [List.erase_cons_tail (by simpa using h2)]
      simp [h1]
-- the order
/-- the variables of all literals' arguments -/
def lvars (x : LitD) : List ByteArray := varsOf x.args
def ready (l : List LitD) (left : List Nat) (names : List ByteArray) (i : Nat) (x : LitD) : Bool := left.contains i && (decide (x.kind = 1) || (lvars x).all fun s => hasT names s)
/-- from i on, the first literal that may be taken -/
def nextFrom (l : List LitD) (left : List Nat) (names : List ByteArray) : List LitD → Nat → Option (Nat × LitD)
  | [], _ => none
  | x :: r, i => if ready l left names i x then some (i, x) else nextFrom l left names r (i + 1)
def gain (names : List ByteArray) (x : LitD) : List ByteArray := (lvars x).foldl addT (if x.kind = 4 then addT names x.rel else names)
structure OSt where
  left : List Nat
  row : List Nat
  names : List ByteArray
def oStep (l : List LitD) (s : OSt) : Option OSt := (nextFrom l s.left s.names l 0).map fun p => ⟨s.left.erase p.1, s.row ++ [p.1], gain s.names p.2⟩
def oRun (l : List LitD) : Nat → OSt → OSt
  | 0, s => s
  | n + 1, s => match oStep l s with | some s' => oRun l n s' | none => s
def oEnd (l : List LitD) : OSt := oRun l l.length ⟨List.range l.length, [], []⟩
/-- the first literal that is left -/
def leftFrom (left : List Nat) : List LitD → Nat → Option LitD
  | [], _ => none
  | x :: r, i => if left.contains i then some x else leftFrom left r (i + 1)
end Go.Sl
