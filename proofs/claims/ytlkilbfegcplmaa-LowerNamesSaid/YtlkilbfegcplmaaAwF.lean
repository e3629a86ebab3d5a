/- The operations of the program as operations on abstract values. -/
import Derived.Test.YtlkilbfegcplmaaAwE
import Derived.Laws.Entries
import Derived.Laws.Slices
set_option linter.unusedSimpArgs false
set_option linter.unusedVariables false
namespace Go.Aw

def szOf (P : Program) (t : TypeId) : Option Nat := (P.info? t).map (·.size)
def zeroC (P : Program) (t : TypeId) : Option (List Value) := (P.info? t).bind fun i => i.zero.map fun z => z.cells.toList
def isAggT (P : Program) (t : TypeId) : Option Bool :=
  match P.underlying t with
  | some (.struct _) => some true
  | some (.array _ _) => some true
  | some _ => some false
  | none => none
def plainT (P : Program) (t : TypeId) : Bool :=
  match P.underlying t with
  | some (.int _) => true
  | some .string => true
  | some .bool => true
  | _ => false
def partsOf (place : Nat → Option (Nat × Nat)) : List (Nat × Operand) → Option (List (Nat × Nat × Operand))
  | [] => some []
  | (i, x) :: r => match place i, partsOf place r with
    | some p, some l => some ((p.1, p.2, x) :: l)
    | _, _ => none
/-- a struct whose fields are plain, one cell each, one behind the other: their kinds -/
def kindsOf (P : Program) : List Field → Nat → Option (List Nat)
  | [], _ => some []
  | f :: r, n => if f.offset = n ∧ f.name ≠ "_" then (match P.underlying f.type, kindsOf P r (n + 1) with
      | some (.int _), some l => some (0 :: l)
      | some .string, some l => some (1 :: l)
      | some .bool, some l => some (2 :: l)
      | _, _ => none) else none
def kindT (P : Program) (t : TypeId) : Option Nat :=
  match P.underlying t with
  | some (.int _) => some 0
  | some .string => some 1
  | some .bool => some 2
  | _ => none
def trEq (P : Program) (neg : Bool) (op : BinOp) (t : TypeId) (x y : Operand) : Option AOp :=
  match P.underlying t with
  | some (.struct fields) => if P.stoodInHeld t = false ∧ P.eqGuardType P.depth t = false then (match kindsOf P fields.toList 0 with
      | some ks => some (.eqg neg ks x y)
      | none => none) else none
  | some .bool => some (.eqb neg x y)
  | some (.int _) => some (.bin op x y)
  | some .string => some (.bin op x y)
  | some (.map _ _) => match y with
    | .const (.map none) => some (.isnil neg x)
    | _ => none
  | _ => none

def trCall (P : Program) (c : Call) : Option AOp :=
  match c.callee with
  | .value f => some (.call f c.args.toList)
  | .builtin .len => match c.args.toList, c.argTypes.toList with
    | [x], [t] => match P.underlying t with
      | some (.slice _) => some (.len 0 x)
      | some .string => some (.len 1 x)
      | some (.map _ _) => some (.len 2 x)
      | _ => none
    | _, _ => none
  | .builtin .delete => match c.args.toList, c.argTypes.toList with
    | [x, k], [t, u] => match P.underlying t with
      | some (.map kt _) => match kindT P kt with
        | some kd => some (.del kd x k)
        | none => none
      | _ => none
    | _, _ => none
  | .builtin .max => match c.args.toList with
    | [x, y] => some (.mm true x y)
    | _ => none
  | .builtin .min => match c.args.toList with
    | [x, y] => some (.mm false x y)
    | _ => none
  | .builtin .append => match c.args.toList, c.argTypes.toList with
    | [s, x], [t, u] => if t = u then (match P.underlying t with
      | some (.slice e) => match P.info? e with
        | some i => match i.zero with
          | some z => if z.cells.size = i.size then some (.app e i.size i.bytes s x) else none
          | none => none
        | none => none
      | _ => none) else none
    | _, _ => none
  | _ => none

def tr (P : Program) (tk : Bool) : Op → Option AOp
  | .move x => some (.copy tk x)
  | .assign x => some (.copy tk x)
  | .box e x => some (.box e x)
  | .alloc e => match zeroC P e with
    | some z => some (.alloc e z)
    | none => none
  | .build t ps => match P.info? t, P.underlying t with
    | some it, some (.struct fields) => match it.zero, fields.toList.mapM (fun f => (P.info? f.type).map fun i => (f.offset, i.size)) with
      | some z, some places => if z.cells.toList.all Value.oneCell' = true then (match partsOf (places.toArray[·]?) ps.toList with
        | some l => some (.build z.cells.toList l)
        | none => none) else none
      | _, _ => none
    | some it, some (.array _ e) => match it.zero, P.info? e with
      | some z, some ie => if z.cells.toList.all Value.oneCell' = true then (match partsOf (fun i => some (i * ie.size, ie.size)) ps.toList with
        | some l => some (.build z.cells.toList l)
        | none => none) else none
      | _, _ => none
    | _, _ => none
  | .buildSlice t n ps => match P.underlying t with
    | some (.slice e) => match szOf P e, zeroC P e with
      | some w, some z => some (.bslice e w z n ps.toList)
      | _, _ => none
    | _ => none
  | .load t x => match isAggT P t, szOf P t with
    | some ag, some n => some (.load n ag tk x)
    | _, _ => none
  | .store t x v => match szOf P t with
    | some n => some (.store n tk x v)
    | none => none
  | .binOp op t x y _ => match op with
    | .eql => trEq P false .eql t x y
    | .neq => trEq P true .neq t x y
    | op => some (.bin op x y)
  | .unOp op _ x => some (.un op x)
  | .convert s t x => match P.underlying s, P.underlying t with
    | some (.int _), some (.int k) => some (.conv k x)
    | _, _ => none
  | .makeFunc fn first caps => if first.isEmpty then some (.mkf fn caps.toList) else none
  | .makeMap t r => match P.underlying t with
    | some (.map _ _) => some (.mkmap r)
    | _ => none
  | .makeSlice t l c => match P.underlying t with
    | some (.slice e) => match P.info? e with
      | some i => match i.zero with
        | some z => some (.mksl e i.size i.bytes z.cells.toList l c)
        | none => none
      | none => none
    | _ => none
  | .slice t x lo hi mx => match P.underlying t with
    | some (.slice e) => match szOf P e with
      | some w => some (.sub w x lo hi mx)
      | none => none
    | some .string => if mx.isSome then none else some (.subs x lo hi)
    | _ => none
  | .fieldAddr s x f => match P.underlying s with
    | some (.struct fields) => match fields[f]? with
      | some f => match szOf P f.type with
        | some n => if n = 0 then none else some (.fad f.offset x)
        | none => none
      | none => none
    | _ => none
  | .field t x f => match P.underlying t with
    | some (.struct fields) => match fields[f]? with
      | some f => match szOf P f.type, isAggT P f.type with
        | some n, some ag => some (.fld f.offset n ag x)
        | _, _ => none
      | none => none
    | _ => none
  | .indexAddr t x i => match P.underlying t with
    | some (.slice e) => match szOf P e with
      | some w => if w = 0 then none else some (.iad w x i)
      | none => none
    | _ => none
  | .index t x i => match P.underlying t with
    | some .string => some (.idxs x i)
    | _ => none
  | .lookup t x k ok => match P.underlying t with
    | some (.map key e) => match kindT P key, P.info? e with
      | some kd, some i => match i.zero with
        | some z => some (.lkp kd z ok x k)
        | none => none
      | _, _ => none
    | _ => none
  | .mapUpdate t m k v => match P.underlying t with
    | some (.map key _) => match kindT P key with
      | some kd => some (.mupd kd m k v)
      | none => none
    | _ => none
  | .extract x i => some (.ext x i)
  | .pick c x y => some (.pick c x y)
  | .call c => trCall P c
  | _ => none

variable {P : Program} {C : Ctx} {V : View} {a : Act} {w : World} {fz : Fz} {ρ : Ren} {o : Oper} {Q : Exit → Act → World → Prop}

theorem wp_of_value {next : Act → World → Prop} {v : Value} {w' : World} (hr : (execOp a.eval o).run P w = .ok (.value v) w') (h : next (a.put o.dst v) w') : o.wp P a w next Q := by
  unfold Oper.wp; rw [hr]; exact h
theorem wp_of_skip {next : Act → World → Prop} {w' : World} (hr : (execOp a.eval o).run P w = .ok .skip w') (h : next (a.put o.dst undef) w') : o.wp P a w next Q := by
  unfold Oper.wp; rw [hr]; exact h

theorem SimE.ev (h : SimE C V a w fz ρ) (x : Operand) : Holds fz (V.ev x) ρ (a.eval x) := by
  cases x with
  | tmp t => exact h.tm t
  | const v => simp only [View.ev, Act.eval, Holds]
  | global g => simp only [View.ev, Act.eval, Holds]
  | func f => simp only [View.ev, Act.eval, Holds]
theorem SimE.evL (h : SimE C V a w fz ρ) (l : List Operand) : HoldsL fz (l.map V.ev) ρ (l.map a.eval) := by
  induction l with
  | nil => simp [HoldsL]
  | cons x l ih => simp only [List.map_cons, HoldsL]; exact ⟨_, _, rfl, h.ev x, ih⟩

theorem app_out {d : Option Nat} {x : AV} : V.app d { out := x } = V.putO d x := rfl
theorem isOwn_ev_of_not (x : Operand) (h : ∀ t, x ≠ .tmp t) : isOwn (V.ev x) = false := by
  cases x with
  | tmp t => exact absurd rfl (h t)
  | const v => rfl
  | global g => rfl
  | func f => rfl

/-- what an operation must do -/
def Sound (P : Program) (C : Ctx) (V : View) (a : Act) (w : World) (o : Oper) (ef : Eff) : Prop :=
  ∀ Q : Exit → Act → World → Prop, o.wp P a w (fun a' w' => Sim C (V.app o.dst ef) a' w') Q

theorem sound_value (h : SimE C V a w fz ρ) {v : Value} {x : AV} {ob : Prop} (hr : (execOp a.eval o).run P w = .ok (.value v) w) (hd : ∀ i, o.dst = some i → i < C.N) (hx : Holds fz x ρ v) (ho : isOwn x = false) :
    Sound P C V a w o { out := x, ob := ob } := fun _ => wp_of_value hr ⟨fz, ρ, h.putO hd hx ho⟩

theorem opds1 {x : Operand} {f : List AV → Option Eff} {ef : Eff} (h : f ([x].map V.ev) = some ef) : f [V.ev x] = some ef := h

/-- move, assign -/
theorem sound_copy (h : SimE C V a w fz ρ) {tk : Bool} {x : Operand} (hop : o.op = .move x ∨ o.op = .assign x) {ef : Eff} (he : aCopy tk x [V.ev x] = some ef) (hd : ∀ i, o.dst = some i → i < C.N)
    (hne : ∀ t, x = .tmp t → o.dst ≠ some t) : Sound P C V a w o ef := by
  have hr : (execOp a.eval o).run P w = .ok (.value (a.eval x)) w := by
    rcases hop with e | e <;> simp [execOp, e]
  simp only [aCopy] at he
  cases tk with
  | false => simp only [Bool.false_eq_true, if_false, Option.some.injEq] at he; subst he; exact sound_value h hr hd (h.ev x).dem (isOwn_dem _)
  | true =>
    simp only [if_true, Option.some.injEq] at he; subst he
    intro Q
    refine wp_of_value hr ⟨fz, ρ, ?_⟩
    cases x with
    | tmp t =>
      cases hdst : o.dst with
      | none => exact h.demote (p := .t t) trivial
      | some d =>
        have := h.take (p := .t t) trivial (d := d) (hd d hdst) (fun e => hne t rfl (by cases e; exact hdst)) (h.tm t)
        exact this
    | const v => exact h.putO hd (h.ev (.const v)) rfl
    | global g => exact h.putO hd (h.ev (.global g)) rfl
    | func f => exact h.putO hd (h.ev (.func f)) rfl
end Go.Aw
