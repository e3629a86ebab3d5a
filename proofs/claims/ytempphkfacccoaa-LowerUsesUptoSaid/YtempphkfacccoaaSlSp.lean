/- Expressions, literals, rules, programs, as the layer of safety reads them. -/
import Derived.Test.YtempphkfacccoaaAwZc
set_option linter.unusedSimpArgs false
set_option linter.unusedVariables false
namespace Go.Sl
open Go.Aw
structure Opq where
  v : Value
  h : v.oneCell' = true
@[simp] theorem Opq.one (x : Opq) : x.v.oneCell' = true := x.h
def ival (n : Int) : AV := .val (.int .i64 n)
def uval (n : Int) : AV := .val (.int .u8 n)
def sval (s : ByteArray) : AV := .val (.string s)
def bval (b : Bool) : AV := .val (.bool b)
inductive ExprD where
  | mk (kind line col : Int) (name : ByteArray) (vk vn : Int) (vs : ByteArray) (vl : Opq) (args : List ExprD)
namespace ExprD
def kind : ExprD → Int | .mk k _ _ _ _ _ _ _ _ => k
def line : ExprD → Int | .mk _ k _ _ _ _ _ _ _ => k
def col : ExprD → Int | .mk _ _ k _ _ _ _ _ _ => k
def name : ExprD → ByteArray | .mk _ _ _ k _ _ _ _ _ => k
def vk : ExprD → Int | .mk _ _ _ _ k _ _ _ _ => k
def vn : ExprD → Int | .mk _ _ _ _ _ k _ _ _ => k
def vs : ExprD → ByteArray | .mk _ _ _ _ _ _ k _ _ => k
def vl : ExprD → Opq | .mk _ _ _ _ _ _ _ k _ => k
def args : ExprD → List ExprD | .mk _ _ _ _ _ _ _ _ k => k
end ExprD
mutual
def encE : ExprD → List AV
  | .mk kind line col name vk vn vs vl args => [uval kind, ival line, ival col, sval name, uval vk, ival vn, sval vs, .val vl.v, .rd 9 (encEs args)]
def encEs : List ExprD → List (List AV)
  | [] => []
  | e :: l => encE e :: encEs l
end
theorem encEs_map : ∀ l, encEs l = l.map encE
  | [] => by simp only [encEs, List.map_nil]
  | e :: l => by simp only [encEs, List.map_cons, encEs_map l]
theorem encE_eq (e : ExprD) : encE e = [uval e.kind, ival e.line, ival e.col, sval e.name, uval e.vk, ival e.vn, sval e.vs, .val e.vl.v, .rd 9 (e.args.map encE)] := by
  cases e; simp only [encE, encEs_map, ExprD.kind, ExprD.line, ExprD.col, ExprD.name, ExprD.vk, ExprD.vn, ExprD.vs, ExprD.vl, ExprD.args]
@[simp] theorem encE_len (e : ExprD) : (encE e).length = 9 := by rw [encE_eq]; rfl
def encX (e : ExprD) : AV := .agg (encE e)
def encT (s : ByteArray) : List AV := [sval s]
def texts (l : List ByteArray) : List (List AV) := l.map encT
def encI (n : Nat) : List AV := [ival n]
def ints (l : List Nat) : List (List AV) := l.map encI
structure LitD where
  kind : Int
  line : Int
  col : Int
  rel : ByteArray
  args : List ExprD
structure RuleD where
  line : Int
  col : Int
  rel : ByteArray
  args : List ExprD
  aggs : List ByteArray
  body : List LitD
def encL (l : LitD) : List AV := [uval l.kind, ival l.line, ival l.col, sval l.rel, .rd 9 (l.args.map encE)]
def encR (r : RuleD) : List AV := [ival r.line, ival r.col, sval r.rel, .rd 9 (r.args.map encE), .rd 1 (texts r.aggs), .rd 5 (r.body.map encL)]
-- how many nodes
mutual
def size : ExprD → Nat
  | .mk _ _ _ _ _ _ _ _ args => 1 + sizes args
def sizes : List ExprD → Nat
  | [] => 0
  | e :: l => size e + sizes l
end
theorem sizes_map : ∀ l : List ExprD, sizes l = (l.map size).sum
  | [] => rfl
  | e :: l => by simp only [sizes, List.map_cons, List.sum_cons, sizes_map l]
theorem size_eq (e : ExprD) : size e = 1 + sizes e.args := by cases e; simp only [size, ExprD.args]
theorem length_le_sizes : ∀ l : List ExprD, l.length ≤ sizes l
  | [] => by simp [sizes]
  | e :: l => by have := length_le_sizes l; have := size_eq e; simp only [sizes, List.length_cons]; omega
-- the variables
def hasT (l : List ByteArray) (s : ByteArray) : Bool := l.any fun x => decide (s = x)
theorem hasT_iff (l : List ByteArray) (s : ByteArray) : hasT l s = true ↔ s ∈ l := by
  simp only [hasT, List.any_eq_true, decide_eq_true_eq]
  exact ⟨fun ⟨x, h, e⟩ => e ▸ h, fun h => ⟨s, h, rfl⟩⟩
def addT (l : List ByteArray) (s : ByteArray) : List ByteArray := if hasT l s then l else l ++ [s]
def idxF (p : ByteArray → Bool) : List ByteArray → Nat → Int
  | [], _ => -1
  | x :: l, k => if p x then (k : Int) else idxF p l (k + 1)
theorem idxF_drop (p : ByteArray → Bool) (l : List ByteArray) (k : Nat) (h : k < l.length) : idxF p (l.drop k) k = if p l[k] then (k : Int) else idxF p (l.drop (k + 1)) (k + 1) := by
  rw [List.drop_eq_getElem_cons h]; rfl
theorem idxF_any (p : ByteArray → Bool) : ∀ (l : List ByteArray) (k : Nat), decide (idxF p l k ≥ 0) = l.any p
  | [], k => by simp [idxF]
  | x :: l, k => by
    rw [List.any_cons, ← idxF_any p l (k + 1)]
    refine Bool.eq_iff_iff.2 ?_
    simp only [decide_eq_true_eq, Bool.or_eq_true, idxF]
    by_cases h : p x = true
    · simp [h]
    · simp [h]
mutual
def varsE (out : List ByteArray) : ExprD → List ByteArray
  | .mk kind _ _ name _ _ _ _ args => if kind = 2 then addT out name else varsEs out args
def varsEs (out : List ByteArray) : List ExprD → List ByteArray
  | [] => out
  | e :: l => varsEs (varsE out e) l
end
theorem varsEs_fold : ∀ (l : List ExprD) (out : List ByteArray), varsEs out l = l.foldl varsE out
  | [], out => by simp only [varsEs, List.foldl_nil]
  | e :: l, out => by simp only [varsEs, List.foldl_cons, varsEs_fold l]
theorem varsE_eq (out : List ByteArray) (e : ExprD) : varsE out e = if e.kind = 2 then addT out e.name else e.args.foldl varsE out := by
  cases e; simp only [varsE, ExprD.kind, ExprD.name, ExprD.args, varsEs_fold]; rfl
theorem addT_len (l : List ByteArray) (s : ByteArray) : (addT l s).length ≤ l.length + 1 := by unfold addT; split <;> simp
mutual
theorem varsE_len : ∀ (e : ExprD) (out : List ByteArray), (varsE out e).length ≤ out.length + size e
  | .mk kind _ _ name _ _ _ _ args, out => by
    simp only [varsE, size]
    split
    · have := addT_len out name; omega
    · have := varsEs_len args out; omega
theorem varsEs_len : ∀ (l : List ExprD) (out : List ByteArray), (varsEs out l).length ≤ out.length + sizes l
  | [], out => by simp [varsEs, sizes]
  | e :: l, out => by
    simp only [varsEs, sizes]
    have h1 := varsE_len e out
    have h2 := varsEs_len l (varsE out e)
    omega
end
theorem wrap_nat (k : Nat) (h : k < 4611686018427387904) : IntKind.i64.wrap ((k : Int) + 1) = ((k + 1 : Nat) : Int) := by
  rw [wrap_in (by omega) (by omega)]; omega
mutual
theorem within_of_noref (l : List Nat) : ∀ x : AV, noref x = true → within l x = true
  | .unk, _ | .val _, _ | .rd .., _ | .fx .., _ | .own .., _ | .elt .., _ | .rmap .., _ | .kset .., _ => by simp only [within]
  | .ptr .., h | .vec .., h | .mapr _, h => by simp [noref] at h
  | .agg x, h | .tup x, h | .clo _ x, h => by simp only [noref] at h; simp only [within, withinL_of_noref l x h]
  | .ifc _ x, h => by simp only [noref] at h; simp only [within, within_of_noref l x h]
theorem withinL_of_noref (l : List Nat) : ∀ x : List AV, norefL x = true → withinL l x = true
  | [], _ => by simp only [withinL]
  | x :: xs, h => by simp only [norefL, Bool.and_eq_true] at h; simp only [withinL, within_of_noref l x h.1, withinL_of_noref l xs h.2, Bool.and_self]
end
attribute [simp] ival uval sval bval encT encI
@[simp] theorem encE_within (l : List Nat) (e : ExprD) : withinL l (encE e) = true := by rw [encE_eq]; rfl
@[simp] theorem encE_noref (e : ExprD) : norefL (encE e) = true := by rw [encE_eq]; rfl
@[simp] theorem encE_ren (x y : Nat) (e : ExprD) : renL x y (encE e) = encE e := renL_noref x y _ (encE_noref e)
@[simp] theorem encL_within (l : List Nat) (e : LitD) : withinL l (encL e) = true := rfl
@[simp] theorem encL_noref (e : LitD) : norefL (encL e) = true := rfl
/-- the variables of a list -/
def varsOf (l : List ExprD) : List ByteArray := l.foldl varsE []
theorem varsOf_len (l : List ExprD) : (varsOf l).length ≤ sizes l := by
  have := varsEs_len l []
  rw [varsEs_fold] at this
  simpa [varsOf] using this
end Go.Sl
