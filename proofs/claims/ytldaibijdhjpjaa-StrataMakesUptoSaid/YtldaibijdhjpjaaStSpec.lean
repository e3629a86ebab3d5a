/- The data of the strata layer, as lists, and what each is as an abstract value. -/
import Derived.Test.YtldaibijdhjpjaaAwV
set_option linter.unusedSimpArgs false
set_option linter.unusedVariables false
namespace Go.St
open Go.Aw

/-- a cell that nobody looks into -/
structure Opq where
  v : Value
  h : v.oneCell' = true
@[simp] theorem Opq.one (x : Opq) : x.v.oneCell' = true := x.h
def ival (n : Int) : AV := .val (.int .i64 n)
def sval (s : ByteArray) : AV := .val (.string s)
def bval (b : Bool) : AV := .val (.bool b)
structure RelD where
  line : Int
  col : Int
  pub : Bool
  inp : Bool
  name : ByteArray
  fields : Opq
structure LitD where
  kind : Int
  line : Int
  col : Int
  rel : ByteArray
  args : Opq
structure RuleD where
  line : Int
  col : Int
  rel : ByteArray
  args : Opq
  aggs : List ByteArray
  body : List LitD
structure NevD where
  line : Int
  col : Int
  name : ByteArray
  body : List LitD
structure MMod where
  name : ByteArray
  imports : Opq
  types : Opq
  rels : List RelD
  rules : List RuleD
  nevers : List NevD
def encRel (r : RelD) : List AV := [ival r.line, ival r.col, bval r.pub, bval r.inp, sval r.name, .val r.fields.v]
def encLit (l : LitD) : List AV := [.val (.int .u8 l.kind), ival l.line, ival l.col, sval l.rel, .val l.args.v]
def encText (s : ByteArray) : List AV := [sval s]
def encBody (l : List LitD) : AV := .rd 5 (l.map encLit)
def encRule (r : RuleD) : List AV := [ival r.line, ival r.col, sval r.rel, .val r.args.v, .rd 1 (r.aggs.map encText), .rd 5 (r.body.map encLit)]
def encNev (r : NevD) : List AV := [ival r.line, ival r.col, sval r.name, .rd 5 (r.body.map encLit)]
def modCells (m : MMod) : List AV := [sval m.name, .val m.imports.v, .val m.types.v, .rd 6 (m.rels.map encRel), .rd 6 (m.rules.map encRule), .rd 4 (m.nevers.map encNev)]
def encMod (m : MMod) : AV := .agg (modCells m)
attribute [simp] ival sval bval encRel encLit encText encBody encRule encNev modCells encMod

def litOK (l : List LitD) : Prop := l.length ≤ 1048576
structure MMod.ok (m : MMod) : Prop where
  rels : m.rels.length ≤ 1048576
  rules : m.rules.length ≤ 1048576
  nevers : m.nevers.length ≤ 1048576
  aggs : ∀ r ∈ m.rules, r.aggs.length ≤ 1048576
  bodies : ∀ r ∈ m.rules, r.body.length ≤ 1048576
  nbodies : ∀ r ∈ m.nevers, r.body.length ≤ 1048576

def atN (l : List RelD) (nm : ByteArray) (k : Nat) : Int := match l with | [] => -1 | r :: l => if r.name = nm then k else atN l nm (k + 1)
def At (m : MMod) (nm : ByteArray) : Int := atN m.rels nm 0
def leads (l : LitD) : Bool := l.kind == 1 || l.kind == 2
/-- where a body names what is not declared -/
def badLit (m : MMod) : List LitD → Option (Int × Int)
  | [] => none
  | l :: r => if leads l && decide (At m l.rel < 0) then some (l.line, l.col) else badLit m r
abbrev PosE := (Int × Int) × Int
def okE : PosE := ((0, 0), 0)
def bodyE (m : MMod) (l : List LitD) : PosE := match badLit m l with | some p => (p, 63) | none => okE
def relsE (m : MMod) : List RelD → Nat → Option PosE
  | [], _ => none
  | r :: l, i => if At m r.name < i then some ((r.line, r.col), 6) else relsE m l (i + 1)
def rulesE (m : MMod) : List RuleD → Option PosE
  | [] => none
  | r :: l => if At m r.rel < 0 then some ((r.line, r.col), 63) else match badLit m r.body with | some p => some (p, 63) | none => rulesE m l
def neversE (m : MMod) : List NevD → Option PosE
  | [] => none
  | r :: l => match badLit m r.body with | some p => some (p, 63) | none => neversE m l
def checkE (m : MMod) : PosE := match relsE m m.rels 0 with
  | some e => e
  | none => match rulesE m m.rules with
    | some e => e
    | none => match neversE m m.nevers with
      | some e => e
      | none => okE
def encPos (p : Int × Int) : AV := .agg [ival p.1, ival p.2]
def encE (e : PosE) : AV := .tup [encPos e.1, ival e.2]
attribute [simp] encPos encE
theorem encE_ok : encE okE = .tup [.agg [.val (.int .i64 0), .val (.int .i64 0)], .val (.int .i64 0)] := rfl
def grouped (r : RuleD) : Bool := r.aggs.any fun s => !decide (s = ByteArray.empty)
theorem wrap_nat (k : Nat) (h : k < 9223372036854775807) : IntKind.i64.wrap ((k : Int) + 1) = ((k + 1 : Nat) : Int) := by
  rw [wrap_in (by omega) (by omega)]; omega
theorem atN_drop (l : List RelD) (nm : ByteArray) (k : Nat) (h : k < l.length) : atN (l.drop k) nm k = if l[k].name = nm then (k : Int) else atN (l.drop (k + 1)) nm (k + 1) := by
  rw [List.drop_eq_getElem_cons h]; rfl
theorem atN_lt (nm : ByteArray) : ∀ (l : List RelD) (k : Nat), atN l nm k < k + l.length ∧ (atN l nm k = -1 ∨ k ≤ atN l nm k)
  | [], k => by simp [atN]; omega
  | r :: l, k => by
    simp only [atN]
    split
    · simp; omega
    · have := atN_lt nm l (k + 1)
      simp only [List.length_cons]
      omega
theorem badLit_drop (m : MMod) (l : List LitD) (k : Nat) (h : k < l.length) : badLit m (l.drop k) = if leads l[k] && decide (At m l[k].rel < 0) then some (l[k].line, l[k].col) else badLit m (l.drop (k + 1)) := by
  rw [List.drop_eq_getElem_cons h]; rfl
theorem relsE_drop (m : MMod) (l : List RelD) (k : Nat) (h : k < l.length) : relsE m (l.drop k) k = if At m l[k].name < k then some ((l[k].line, l[k].col), 6) else relsE m (l.drop (k + 1)) (k + 1) := by
  rw [List.drop_eq_getElem_cons h]; rfl
theorem rulesE_drop (m : MMod) (l : List RuleD) (k : Nat) (h : k < l.length) : rulesE m (l.drop k) = if At m l[k].rel < 0 then some ((l[k].line, l[k].col), 63) else match badLit m l[k].body with | some p => some (p, 63) | none => rulesE m (l.drop (k + 1)) := by
  rw [List.drop_eq_getElem_cons h]; rfl
theorem neversE_drop (m : MMod) (l : List NevD) (k : Nat) (h : k < l.length) : neversE m (l.drop k) = match badLit m l[k].body with | some p => some (p, 63) | none => neversE m (l.drop (k + 1)) := by
  rw [List.drop_eq_getElem_cons h]; rfl
theorem any_drop {α : Type} (p : α → Bool) (l : List α) (k : Nat) (h : k < l.length) : (l.drop k).any p = (p l[k] || (l.drop (k + 1)).any p) := by
  rw [List.drop_eq_getElem_cons h]; rfl
end Go.St
