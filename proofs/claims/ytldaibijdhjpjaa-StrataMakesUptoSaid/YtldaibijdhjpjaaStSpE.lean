/- What read of the program comes to. -/
import Derived.Test.YtldaibijdhjpjaaAwY
import Derived.Test.YtldaibijdhjpjaaStSpD
set_option linter.unusedSimpArgs false
set_option linter.unusedVariables false
namespace Go.St
open Go.Aw
structure Edge where
  to : Nat
  strict : Bool
  line : Int
  col : Int
def encEdge (e : Edge) : List AV := [ival e.to, bval e.strict, ival e.line, ival e.col]
def encEdgesO : List Edge → AV
  | [] => .val (.slice none 0 0)
  | x :: l => .own 80 4 ((x :: l).map encEdge)
def encEdges (l : List Edge) : AV := .rd 4 (l.map encEdge)
theorem encEdges_wk : ∀ l, Wk (encEdgesO l) (encEdges l)
  | [] => .nil 4
  | _ :: _ => .own (WkR.map fun _ _ => .refl _)
theorem encEdgesO_cons (x : Edge) (l : List Edge) : encEdgesO (x :: l) = .own 80 4 ((x :: l).map encEdge) := rfl
@[simp] theorem encEdgesO_within (ids : List Nat) (l : List Edge) : within ids (encEdgesO l) = true := by cases l <;> rfl
@[simp] theorem encEdgesO_noref (l : List Edge) : noref (encEdgesO l) = true := by cases l <;> rfl
def mkEdge (m : MMod) (strict : Bool) (x : LitD) : Edge := ⟨idx m x.rel, strict || (x.kind == 2), x.line, x.col⟩
def edgesOf (m : MMod) (strict : Bool) (l : List LitD) : List Edge := (l.filter leads).map (mkEdge m strict)
theorem edgesOf_succ (m : MMod) (strict : Bool) (l : List LitD) (k : Nat) (h : k < l.length) : edgesOf m strict (l.take (k + 1)) = edgesOf m strict (l.take k) ++ (if leads l[k] then [mkEdge m strict l[k]] else []) := by
  unfold edgesOf
  rw [List.take_add_one, List.getElem?_eq_getElem h, List.filter_append, List.map_append]
  congr 1
  simp [List.filter]
  split <;> simp_all
def readBody (m : MMod) (strict : Bool) (l : List LitD) : List Edge × PosE := match badLit m l with | some p => ([], (p, 63)) | none => (edgesOf m strict l, okE)
def encBodyR (r : List Edge × PosE) : AV := .tup [encEdges r.1, encPos r.2.1, ival r.2.2]
def keysOf (l : List RelD) : List Value := l.map fun r => Value.string r.name
def valsFrom (k : Nat) : List RelD → List AV
  | [] => []
  | _ :: l => .val (.int .i64 (k : Int)) :: valsFrom (k + 1) l
theorem kvGet_at (nm : ByteArray) : ∀ (l : List RelD) (k : Nat), kvGet (.string nm) (keysOf l) (valsFrom k l) = if atN l nm k < 0 then none else some (.val (.int .i64 (atN l nm k)))
  | [], k => by simp [kvGet, keysOf, valsFrom, atN]
  | r :: l, k => by
    have ih := kvGet_at nm l (k + 1)
    simp only [keysOf] at ih
    by_cases h : r.name = nm
    · have e : atN (r :: l) nm k = k := by simp only [atN]; rw [if_pos h]
      rw [e, if_neg (by omega)]
      simp [keysOf, valsFrom, kvGet, keyEq, h]
    · have h' : ¬ nm = r.name := fun e => h e.symm
      have e : atN (r :: l) nm k = atN l nm (k + 1) := by simp only [atN]; rw [if_neg h]
      rw [e, ← ih]
      simp only [keysOf, List.map_cons, valsFrom, kvGet]
      rw [if_neg (by simp [keyEq, h'])]
theorem kvSet_new (nm : ByteArray) (y : AV) : ∀ (l : List RelD) (k : Nat), atN l nm k < 0 → kvSet (.string nm) y (keysOf l) (valsFrom k l) = (keysOf l ++ [.string nm], valsFrom k l ++ [y])
  | [], k, _ => by simp [kvSet, keysOf, valsFrom]
  | r :: l, k, h => by
    simp only [atN] at h
    by_cases hn : r.name = nm
    · rw [if_pos hn] at h; omega
    · rw [if_neg hn] at h
      have ih := kvSet_new nm y l (k + 1) h
      have h' : ¬ nm = r.name := fun e => hn e.symm
      simp only [keysOf] at ih
      simp only [keysOf, List.map_cons, valsFrom, kvSet]
      rw [if_neg (by simp [keyEq, h']), ih]
      rfl
theorem keysOf_kinds (nm : ByteArray) (l : List RelD) : ∀ a ∈ keysOf l, sameKind (.string nm) a = true := by
  intro a ha
  simp only [keysOf, List.mem_map] at ha
  obtain ⟨r, _, rfl⟩ := ha
  rfl
theorem valsFrom_snoc (r : RelD) : ∀ (l : List RelD) (k : Nat), valsFrom k (l ++ [r]) = valsFrom k l ++ [.val (.int .i64 ((k + l.length : Nat) : Int))]
  | [], k => by simp [valsFrom]
  | x :: l, k => by
    simp only [List.cons_append, valsFrom, valsFrom_snoc r l (k + 1)]
    simp [Nat.add_assoc, Nat.add_comm 1]
theorem keysOf_snoc (r : RelD) (l : List RelD) : keysOf (l ++ [r]) = keysOf l ++ [.string r.name] := by simp [keysOf]
@[simp] theorem valsFrom_within (ids : List Nat) : ∀ (l : List RelD) (k : Nat), withinL ids (valsFrom k l) = true
  | [], _ => rfl
  | _ :: l, k => by simp [valsFrom, valsFrom_within ids l]
@[simp] theorem valsFrom_noref : ∀ (l : List RelD) (k : Nat), norefL (valsFrom k l) = true
  | [], _ => rfl
  | _ :: l, k => by simp [valsFrom, valsFrom_noref l]
/-- the map of the names -/
def atMap (m : MMod) : AV := .rmap (keysOf m.rels) (valsFrom 0 m.rels)
/-- the first aggregate -/
def aggN : List ByteArray → Nat → Int
  | [], _ => -1
  | s :: l, k => if s = ByteArray.empty then aggN l (k + 1) else k
theorem aggN_drop (l : List ByteArray) (k : Nat) (h : k < l.length) : aggN (l.drop k) k = if l[k] = ByteArray.empty then aggN (l.drop (k + 1)) (k + 1) else (k : Int) := by
  rw [List.drop_eq_getElem_cons h]; rfl
theorem aggN_any : ∀ (l : List ByteArray) (k : Nat), decide (aggN l k ≥ 0) = l.any fun s => !decide (s = ByteArray.empty)
  | [], k => by simp [aggN]
  | s :: l, k => by
    simp only [aggN, List.any_cons]
    split
    · rename_i h; rw [aggN_any l (k + 1)]; simp [h]
    · rename_i h; simp [h]
end Go.St
