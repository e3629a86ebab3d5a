/- Plans, and the relations that they use. -/
import Derived.Test.YtempphkfacccoaaSlSp
import Derived.Sort.Walk0
import Derived.Lib.SlicesCompact
set_option linter.unusedSimpArgs false
set_option linter.unusedVariables false
namespace Go.Sl
open Go.Aw
inductive PlanD where
  | mk (op : Int) (rel name : ByteArray) (args : List ExprD) (aggs : List ByteArray) (ins : List PlanD)
namespace PlanD
def op : PlanD → Int | .mk k _ _ _ _ _ => k
def rel : PlanD → ByteArray | .mk _ k _ _ _ _ => k
def name : PlanD → ByteArray | .mk _ _ k _ _ _ => k
def args : PlanD → List ExprD | .mk _ _ _ k _ _ => k
def aggs : PlanD → List ByteArray | .mk _ _ _ _ k _ => k
def ins : PlanD → List PlanD | .mk _ _ _ _ _ k => k
end PlanD
mutual
def encP : PlanD → List AV
  | .mk op rel name args aggs ins => [uval op, sval rel, sval name, .rd 9 (args.map encE), .rd 1 (texts aggs), .rd 6 (encPs ins)]
def encPs : List PlanD → List (List AV)
  | [] => []
  | e :: l => encP e :: encPs l
end
theorem encPs_map : ∀ l, encPs l = l.map encP
  | [] => by simp only [encPs, List.map_nil]
  | e :: l => by simp only [encPs, List.map_cons, encPs_map l]
theorem encP_eq (p : PlanD) : encP p = [uval p.op, sval p.rel, sval p.name, .rd 9 (p.args.map encE), .rd 1 (texts p.aggs), .rd 6 (p.ins.map encP)] := by
  cases p; simp only [encP, encPs_map, PlanD.op, PlanD.rel, PlanD.name, PlanD.args, PlanD.aggs, PlanD.ins]
@[simp] theorem encP_len (p : PlanD) : (encP p).length = 6 := by rw [encP_eq]; rfl
def encPX (p : PlanD) : AV := .agg (encP p)
-- how much there is of it
mutual
def psize : PlanD → Nat
  | .mk _ _ _ _ aggs ins => 1 + aggs.length + psizes ins
def psizes : List PlanD → Nat
  | [] => 0
  | e :: l => psize e + psizes l
end
theorem psize_eq (p : PlanD) : psize p = 1 + p.aggs.length + psizes p.ins := by cases p; simp only [psize, PlanD.ins, PlanD.aggs]
theorem psizes_map : ∀ l : List PlanD, psizes l = (l.map psize).sum
  | [] => rfl
  | e :: l => by simp only [psizes, List.map_cons, List.sum_cons, psizes_map l]
theorem psizes_append (a b : List PlanD) : psizes (a ++ b) = psizes a + psizes b := by simp [psizes_map]
theorem psizes_len : ∀ l : List PlanD, l.length ≤ psizes l
  | [] => by simp [psizes]
  | e :: l => by have := psizes_len l; have := psize_eq e; simp only [psizes, List.length_cons]; omega
theorem psizes_snoc (l : List PlanD) (i : Nat) (h : i < l.length) : psizes (l.take (i + 1)) = psizes (l.take i) + psize l[i] := by
  rw [List.take_succ_eq_append_getElem h, psizes_append]; simp [psizes]
theorem psizes_take_le (l : List PlanD) (i : Nat) : psizes (l.take i) ≤ psizes l := by
  have := psizes_append (l.take i) (l.drop i)
  rw [List.take_append_drop] at this; omega
-- how many nodes
mutual
def pn : PlanD → Nat
  | .mk _ _ _ _ _ ins => 1 + pns ins
def pns : List PlanD → Nat
  | [] => 0
  | e :: l => pn e + pns l
end
theorem pn_eq (p : PlanD) : pn p = 1 + pns p.ins := by cases p; simp only [pn, PlanD.ins]
theorem pns_map : ∀ l : List PlanD, pns l = (l.map pn).sum
  | [] => rfl
  | e :: l => by simp only [pns, List.map_cons, List.sum_cons, pns_map l]
theorem pns_append (a b : List PlanD) : pns (a ++ b) = pns a + pns b := by simp [pns_map]
theorem pns_snoc (l : List PlanD) (i : Nat) (h : i < l.length) : pns (l.take (i + 1)) = pns (l.take i) + pn l[i] := by
  rw [List.take_succ_eq_append_getElem h, pns_append]; simp [pns]
theorem pns_take_le (l : List PlanD) (i : Nat) : pns (l.take i) ≤ pns l := by
  have := pns_append (l.take i) (l.drop i)
  rw [List.take_append_drop] at this; omega
/-- as far as a bound -/
def ndN (p : PlanD) (most : Nat) : Nat := min (pn p) most
def ndL (l : List PlanD) (most : Nat) : Nat := min (1 + pns l) most
theorem ndL_step (l : List PlanD) (i most : Nat) (h : i < l.length) (hlt : ndL (l.take i) most < most) : ndL (l.take i) most + ndN l[i] (most - ndL (l.take i) most) = ndL (l.take (i + 1)) most := by
  have h1 := pns_snoc l i h
  simp only [ndL, ndN] at hlt ⊢
  omega
theorem ndL_done (p : PlanD) (i most : Nat) (h : i ≥ p.ins.length ∨ ndL (p.ins.take i) most = most) : ndL (p.ins.take i) most = ndN p most := by
  have h1 := pn_eq p
  rcases h with h | h
  · rw [List.take_of_length_le h]; simp only [ndL, ndN, h1]
  · rw [h]; have := pns_take_le p.ins i; simp only [ndL, ndN] at h ⊢; omega
-- the relations
def isUse (p : PlanD) : Bool := p.op == 2 || p.op == 4
def own1 (p : PlanD) : List ByteArray := if isUse p then [p.rel] else []
mutual
def names : PlanD → List ByteArray
  | .mk op rel _ _ _ ins => (if op == 2 || op == 4 then [rel] else []) ++ namesL ins
def namesL : List PlanD → List ByteArray
  | [] => []
  | e :: l => names e ++ namesL l
end
theorem names_eq (p : PlanD) : names p = own1 p ++ namesL p.ins := by cases p; simp only [names, own1, isUse, PlanD.ins, PlanD.op, PlanD.rel]; rfl
theorem namesL_map : ∀ l : List PlanD, namesL l = (l.map names).flatten
  | [] => rfl
  | e :: l => by simp only [namesL, List.map_cons, List.flatten_cons, namesL_map l]
theorem namesL_snoc (l : List PlanD) (i : Nat) (h : i < l.length) : namesL (l.take (i + 1)) = namesL (l.take i) ++ names l[i] := by
  rw [List.take_succ_eq_append_getElem h, namesL_map, namesL_map, List.map_append, List.flatten_append]; simp
theorem own1_len (p : PlanD) : (own1 p).length ≤ 1 := by unfold own1; split <;> simp
mutual
theorem names_len : ∀ p : PlanD, (names p).length ≤ psize p
  | .mk op rel name args aggs ins => by
    have := namesL_len ins
    simp only [names, psize, List.length_append]
    split <;> simp <;> omega
theorem namesL_len : ∀ l : List PlanD, (namesL l).length ≤ psizes l
  | [] => by simp [namesL, psizes]
  | e :: l => by
    have := names_len e
    have := namesL_len l
    simp only [namesL, psizes, List.length_append]; omega
end
-- a text in its place, once
def ltT (x s : ByteArray) : Bool := Op.bytesLess x.toList s.toList
def posS : List ByteArray → ByteArray → Nat
  | [], _ => 0
  | x :: l, s => if ltT x s then posS l s + 1 else 0
theorem posS_drop (l : List ByteArray) (s : ByteArray) (k : Nat) (h : k < l.length) : posS (l.drop k) s = if ltT l[k] s then posS (l.drop (k + 1)) s + 1 else 0 := by
  rw [List.drop_eq_getElem_cons h]; rfl
theorem posS_le : ∀ (l : List ByteArray) (s : ByteArray), posS l s ≤ l.length
  | [], _ => Nat.le_refl _
  | x :: l, s => by
    have := posS_le l s
    simp only [posS, List.length_cons]; split <;> omega
def addS (l : List ByteArray) (s : ByteArray) : List ByteArray := if l[posS l s]? = some s then l else l.take (posS l s) ++ [s] ++ l.drop (posS l s)
theorem addS_len (l : List ByteArray) (s : ByteArray) : (addS l s).length ≤ l.length + 1 := by
  have := posS_le l s
  unfold addS; split
  · omega
  · simp; omega
def usesP (l : List ByteArray) (p : PlanD) : List ByteArray := (names p).foldl addS l
theorem usesP_eq (l : List ByteArray) (p : PlanD) : usesP l p = p.ins.foldl usesP ((own1 p).foldl addS l) := by
  have key : ∀ (q : List PlanD) (l : List ByteArray), (namesL q).foldl addS l = q.foldl usesP l := by
    intro q
    induction q with
    | nil => intro l; rfl
    | cons x q ih => intro l; simp only [namesL, List.foldl_append, List.foldl_cons, ih, usesP]
  rw [usesP, names_eq, List.foldl_append, key]
theorem foldl_addS_len : ∀ (q l : List ByteArray), (q.foldl addS l).length ≤ l.length + q.length
  | [], l => by simp
  | x :: q, l => by
    have h1 := foldl_addS_len q (addS l x)
    have h2 := addS_len l x
    simp only [List.foldl_cons, List.length_cons]; omega
theorem usesP_len (l : List ByteArray) (p : PlanD) : (usesP l p).length ≤ l.length + psize p := by
  have h1 := foldl_addS_len (names p) l
  have h2 := names_len p
  unfold usesP; omega
theorem foldl_usesP_len : ∀ (q : List PlanD) (l : List ByteArray), (q.foldl usesP l).length ≤ l.length + psizes q
  | [], l => by simp [psizes]
  | x :: q, l => by
    have h1 := foldl_usesP_len q (usesP l x)
    have h2 := usesP_len l x
    simp only [List.foldl_cons, psizes]; omega
def sameL : List ByteArray → List ByteArray → Bool
  | [], [] => true
  | x :: l, y :: r => decide (x = y) && sameL l r
  | _, _ => false
theorem sameL_refl : ∀ l : List ByteArray, sameL l l = true
  | [] => rfl
  | x :: l => by simp [sameL, sameL_refl l]
theorem sameL_drop (l r : List ByteArray) (i : Nat) (h : i < l.length) (h' : i < r.length) : sameL (l.drop i) (r.drop i) = (decide (l[i] = r[i]) && sameL (l.drop (i + 1)) (r.drop (i + 1))) := by
  rw [List.drop_eq_getElem_cons h, List.drop_eq_getElem_cons h']; rfl
theorem sameL_len : ∀ {l r : List ByteArray}, l.length ≠ r.length → sameL l r = false
  | [], [], h => absurd rfl h
  | [], _ :: _, _ => rfl
  | _ :: _, [], _ => rfl
  | x :: l, y :: r, h => by simp only [sameL]; rw [sameL_len (by simpa using h)]; simp
end Go.Sl
