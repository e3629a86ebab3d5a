/- What read comes to: the graph. -/
import Derived.Test.YtldaibijdhjpjaaStSpE
set_option linter.unusedSimpArgs false
set_option linter.unusedVariables false
namespace Go.St
open Go.Aw
structure Graph where
  n : Nat
  heads : List Nat
  edges : List (List Edge)
def encEE (l : List (List Edge)) : AV := .rd 1 (l.map fun es => [encEdges es])
def encGraph (g : Graph) : AV := .agg [ival g.n, encInts g.heads, encEE g.edges]
def encEEO : List (List Edge) → AV
  | [] => .val (.slice none 0 0)
  | x :: l => .own 78 1 ((x :: l).map fun es => [encEdges es])
theorem encEEO_cons (x : List Edge) (l : List (List Edge)) : encEEO (x :: l) = .own 78 1 ((x :: l).map fun es => [encEdges es]) := rfl
@[simp] theorem encEEO_within (ids : List Nat) (l : List (List Edge)) : within ids (encEEO l) = true := by cases l <;> rfl
@[simp] theorem encEEO_noref (l : List (List Edge)) : noref (encEEO l) = true := by cases l <;> rfl
theorem encEEO_wk : ∀ l, Wk (dem (encEEO l)) (encEE l)
  | [] => .nil 1
  | _ :: _ => .rd (WkR.map fun _ _ => .refl _)
theorem encRow_wkd : ∀ l, Wk (dem (encRow l)) (encInts l)
  | [] => .nil 1
  | _ :: _ => .rd (WkR.map fun _ _ => .refl _)
def headsOf (m : MMod) (l : List RuleD) : List Nat := l.map fun r => idx m r.rel
def allEdges (m : MMod) (l : List RuleD) : List (List Edge) := l.map fun r => edgesOf m (grouped r) r.body
def graphOf (m : MMod) : Graph := ⟨m.rels.length, headsOf m m.rules, allEdges m m.rules⟩
def readE (m : MMod) : Graph × PosE := if (checkE m).2 = 0 then (graphOf m, okE) else (⟨0, [], []⟩, checkE m)
def encRead (r : Graph × PosE) : AV := .tup [encGraph r.1, encPos r.2.1, ival r.2.2]
theorem headsOf_succ (m : MMod) (l : List RuleD) (k : Nat) (h : k < l.length) : headsOf m (l.take (k + 1)) = headsOf m (l.take k) ++ [idx m l[k].rel] := by
  unfold headsOf; rw [List.take_add_one, List.getElem?_eq_getElem h, List.map_append]; rfl
theorem allEdges_succ (m : MMod) (l : List RuleD) (k : Nat) (h : k < l.length) : allEdges m (l.take (k + 1)) = allEdges m (l.take k) ++ [edgesOf m (grouped l[k]) l[k].body] := by
  unfold allEdges; rw [List.take_add_one, List.getElem?_eq_getElem h, List.map_append]; rfl
theorem atN_take (nm : ByteArray) : ∀ (l : List RelD) (i k : Nat), atN (l.take i) nm k = if atN l nm k < ((k + i : Nat) : Int) ∧ 0 ≤ atN l nm k then atN l nm k else -1
  | [], i, k => by simp [atN]
  | r :: l, 0, k => by
    have := atN_lt nm (r :: l) k
    have h2 : ¬ (atN (r :: l) nm k < ((k + 0 : Nat) : Int) ∧ 0 ≤ atN (r :: l) nm k) := by
      rcases this.2 with h | h <;> omega
    rw [if_neg h2]; rfl
  | r :: l, i + 1, k => by
    by_cases h : r.name = nm
    · have e : ∀ q, atN (r :: q) nm k = k := fun q => by simp only [atN]; rw [if_pos h]
      rw [List.take_succ_cons, e, e, if_pos (by omega)]
    · have e : ∀ q, atN (r :: q) nm k = atN q nm (k + 1) := fun q => by simp only [atN]; rw [if_neg h]
      rw [List.take_succ_cons, e, e, atN_take nm l i (k + 1)]
      have : k + 1 + i = k + (i + 1) := by omega
      rw [this]
/-- a name stands twice, if it stands before -/
theorem twice_iff (m : MMod) (k : Nat) (h : k < m.rels.length) : (atN (m.rels.take k) m.rels[k].name 0 < 0 ↔ ¬ At m m.rels[k].name < k) := by
  have h1 := (atN_le_of m.rels[k].name m.rels 0 k h rfl).1
  rw [atN_take]
  unfold At
  constructor
  · intro h2
    split at h2
    · omega
    · rename_i h3; omega
  · intro h2
    rw [if_neg (by omega)]; omega
theorem keys_take (m : MMod) (k : Nat) (h : k < m.rels.length) : keysOf (m.rels.take (k + 1)) = keysOf (m.rels.take k) ++ [.string m.rels[k].name] := by
  rw [List.take_add_one, List.getElem?_eq_getElem h, Option.toList_some, keysOf_snoc]
theorem vals_take (m : MMod) (k : Nat) (h : k < m.rels.length) : valsFrom 0 (m.rels.take (k + 1)) = valsFrom 0 (m.rels.take k) ++ [.val (.int .i64 (k : Int))] := by
  rw [List.take_add_one, List.getElem?_eq_getElem h, Option.toList_some, valsFrom_snoc]
  have : min k m.rels.length = k := by omega
  simp [this]
end Go.St
