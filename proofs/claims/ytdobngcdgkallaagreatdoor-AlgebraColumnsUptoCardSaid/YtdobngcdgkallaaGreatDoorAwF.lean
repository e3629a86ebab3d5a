/- The operations of the program as operations on abstract values. -/
import Derived.Test.YtdobngcdgkallaaGreatDoorAwE
import Derived.Laws.Entries
import Derived.Laws.Slices
import Derived.IntWalk
set_option linter.unusedSimpArgs false
set_option linter.unusedVariables false
set_option linter.unusedSectionVars false
section
namespace Go.Aw
variable [GL]

def szOf (P : Program) (t : TypeId) : Option Nat := (P.info? t).map (·.size)
def zeroC (P : Program) (t : TypeId) : Option (List Value) := (P.info? t).bind fun i => i.zero.map fun z => z.cells.toList
def isAggT (P : Program) (t : TypeId) : Option Bool :=
 match P.underlying t with
 | some (.struct _) => some true
 | some (.array _ _) => some true
 | some _ => some false
 | none => none
def plainT (P : Program) (t : TypeId) : Bool :=
 match P.underlying t with
 | some (.int _) => true
 | some .string => true
 | some .bool => true
 | _ => false
def partsOf (place : Nat → Option (Nat × Nat)) : List (Nat × Operand) → Option (List (Nat × Nat × Operand))
 | [] => some []
 | (i, x) :: r => match place i, partsOf place r with
  | some p, some l => some ((p.1, p.2, x) :: l)
  | _, _ => none
/-- a struct whose fields are plain, one cell each, one behind the other: their kinds -/
def kindsOf (P : Program) : List Field → Nat → Option (List Nat)
 | [], _ => some []
 | f :: r, n => if f.offset = n ∧ f.name ≠ "_" then (match P.underlying f.type, kindsOf P r (n + 1) with
   | some (.int _), some l => some (0 :: l)
   | some .string, some l => some (1 :: l)
   | some .bool, some l => some (2 :: l)
   | _, _ => none) else none
def kindT (P : Program) (t : TypeId) : Option Nat :=
 match P.underlying t with
 | some (.int _) => some 0
 | some .string => some 1
 | some .bool => some 2
 | _ => none
def trEq (P : Program) (neg : Bool) (op : BinOp) (t : TypeId) (x y : Operand) : Option AOp :=
 match P.underlying t with
 | some (.struct fields) => if P.stoodInHeld t = false ∧ P.eqGuardType P.depth t = false then (match kindsOf P fields.toList 0 with
   | some ks => some (.eqg neg ks x y)
   | none => none) else none
 | some .bool => some (.eqb neg x y)
 | some (.int _) => some (.bin op x y)
 | some .string => some (.bin op x y)
 | some (.map _ _) => match y with
  | .const (.map none) => some (.isnil neg x)
  | _ => none
 | _ => none

def trCall (P : Program) (c : Call) : Option AOp :=
 match c.callee with
 | .value f => some (.call f c.args.toList)
 | .builtin .len => match c.args.toList, c.argTypes.toList with
  | [x], [t] => match P.underlying t with
   | some (.slice _) => some (.len 0 x)
   | some .string => some (.len 1 x)
   | some (.map _ _) => some (.len 2 x)
   | _ => none
  | _, _ => none
 | .builtin .delete => match c.args.toList, c.argTypes.toList with
  | [x, k], [t, u] => match P.underlying t with
   | some (.map kt _) => match kindT P kt with
    | some kd => some (.del kd x k)
    | none => none
   | _ => none
  | _, _ => none
 | .builtin .max => match c.args.toList with
  | [x, y] => some (.mm true x y)
  | [x, y, z, u] => some (.mx4 x y z u)
  | _ => none
 | .builtin .min => match c.args.toList with
  | [x, y] => some (.mm false x y)
  | _ => none
 | .builtin .append => match c.args.toList, c.argTypes.toList with
  | [s, x], [t, u] => if t = u then (match P.underlying t with
   | some (.slice e) => match P.info? e with
    | some i => match i.zero with
     | some z => if z.cells.size = i.size ∧ z.cells.toList.all Value.oneCell' = true then some (.app e i.size i.bytes s x) else none
     | none => none
    | none => none
   | _ => none) else (match P.underlying t, P.underlying u with
   | some (.slice e), some .string => match P.info? e with
    | some i => match i.zero with
     | some z => if i.size = 1 ∧ z.cells.size = 1 ∧ z.cells.toList.all Value.oneCell' = true then some (.apps e i.bytes s x) else none
     | none => none
    | none => none
   | _, _ => none)
  | _, _ => none
 | _ => none

def tr (P : Program) (tk : Bool) : Op → Option AOp
 | .move x => some (.copy tk x)
 | .assign x => some (.copy tk x)
 | .box e x => some (.box e x)
 | .alloc e => match zeroC P e with
  | some z => some (.alloc e z)
  | none => none
 | .build t ps => match P.info? t, P.underlying t with
  | some it, some (.struct fields) => match it.zero, fields.toList.mapM (fun f => (P.info? f.type).map fun i => (f.offset, i.size)) with
   | some z, some places => if z.cells.toList.all Value.oneCell' = true then (match partsOf (places.toArray[·]?) ps.toList with
    | some l => some (.build z.cells.toList l)
    | none => none) else none
   | _, _ => none
  | some it, some (.array _ e) => match it.zero, P.info? e with
   | some z, some ie => if z.cells.toList.all Value.oneCell' = true then (match partsOf (fun i => some (i * ie.size, ie.size)) ps.toList with
    | some l => some (.build z.cells.toList l)
    | none => none) else none
   | _, _ => none
  | _, _ => none
 | .buildSlice t n ps => match P.underlying t with
  | some (.slice e) => match szOf P e, zeroC P e with
   | some w, some z => some (.bslice e w z n ps.toList)
   | _, _ => none
  | _ => none
 | .load t x => match isAggT P t, szOf P t with
  | some ag, some n => some (.load n ag tk x)
  | _, _ => none
 | .store t x v => match szOf P t with
  | some n => some (.store n tk x v)
  | none => none
 | .binOp op t x y _ => match op with
  | .eql => trEq P false .eql t x y
  | .neq => trEq P true .neq t x y
  | op => some (.bin op x y)
 | .unOp op _ x => some (.un op x)
 | .convert s t x => match P.underlying s, P.underlying t with
  | some (.int _), some (.int k) => some (.conv k x)
  | _, _ => none
 | .makeFunc fn first caps => if first.isEmpty then (match fn with | .func f => some (.mkf (.func f) caps.toList) | _ => none) else if caps.isEmpty then (match fn with | .func f => some (.mkf (.methodOf f "") first.toList) | _ => none) else none
 | .makeMap t r => match P.underlying t with
  | some (.map _ _) => some (.mkmap r)
  | _ => none
 | .makeSlice t l c => match P.underlying t with
  | some (.slice e) => match P.info? e with
   | some i => match i.zero with
    | some z => some (.mksl e i.size i.bytes z.cells.toList l c)
    | none => none
   | none => none
  | _ => none
 | .slice t x lo hi mx => match P.underlying t with
  | some (.slice e) => match szOf P e with
   | some w => some (.sub w x lo hi mx)
   | none => none
  | some .string => if mx.isSome then none else some (.subs x lo hi)
  | _ => none
 | .fieldAddr s x f => match P.underlying s with
  | some (.struct fields) => match fields[f]? with
   | some f => match szOf P f.type with
    | some n => if n = 0 then none else some (.fad f.offset x)
    | none => none
   | none => none
  | _ => none
 | .field t x f => match P.underlying t with
  | some (.struct fields) => match fields[f]? with
   | some f => match szOf P f.type, isAggT P f.type with
    | some n, some ag => some (.fld f.offset n ag x)
    | _, _ => none
   | none => none
  | _ => none
 | .indexAddr t x i => match P.underlying t with
  | some (.slice e) => match szOf P e with
   | some w => if w = 0 then none else some (.iad w x i)
   | none => none
  | _ => none
 | .index t x i => match P.underlying t with
  | some .string => some (.idxs x i)
  | _ => none
 | .lookup t x k ok => match P.underlying t with
  | some (.map key e) => match kindT P key, P.info? e with
   | some kd, some i => match i.zero with
    | some z => some (.lkp kd z ok x k)
    | none => none
   | _, _ => none
  | _ => none
 | .mapUpdate t m k v => match P.underlying t with
  | some (.map key _) => match kindT P key with
   | some kd => some (.mupd kd m k v)
   | none => none
  | _ => none
 | .insert t m k v => match P.underlying t with
  | some (.map key _) => match kindT P key with
   | some kd => some (.mupd kd m k v)
   | none => none
  | _ => none
 | .extract x i => some (.ext x i)
 | .pick c x y => some (.pick c x y)
 | .call c => trCall P c
 | _ => none
/-- further operations -/
def trX (P : Program) : Op → Option AOp
 | .nilCheck x => some (.x1 0 x)
 | .convert s t x => match P.underlying s, P.underlying t with
  | some .string, some (.slice e) => (match P.underlying e with
   | some (.int .u8) => some (.x1 1 x)
   | _ => none)
  | some (.slice e), some .string => (match P.underlying e with
   | some (.int .u8) => some (.x1 2 x)
   | _ => none)
  | _, _ => none
 | .binOp op t x y _ => match y, P.underlying t with
  | .const (.slice none 0 0), some (.slice _) => (match op with
   | .eql => some (.x1 3 x)
   | .neq => some (.x1 4 x)
   | _ => none)
  | .const (.pointer none), some (.pointer _) => (match op with
   | .eql => some (.x1 5 x)
   | .neq => some (.x1 6 x)
   | _ => none)
  | _, _ => none
 | .indexAddr t x i => match P.underlying t with
  | some (.array n e) => (match szOf P e with
   | some w => if w = 0 then none else some (.iada n w x i)
   | none => none)
  | _ => none
 | _ => none
def trN (P : Program) (tk : Bool) (op : Op) : Option AOp :=
 match trX P op with
 | some ao => some ao
 | none => tr P tk op

variable {P : Program} {C : Ctx} {V : View} {a : Act} {w : World} {fz : Fz} {ρ : Ren} {o : Oper} {Q : Exit → Act → World → Prop}

theorem wp_of_value {next : Act → World → Prop} {v : Value} {w' : World} (hr : (execOp a.eval o).run P w = .ok (.value v) w') (h : next (a.put o.dst v) w') : o.wp P a w next Q := by
 unfold Oper.wp; rw [hr]; exact h
theorem wp_of_skip {next : Act → World → Prop} {w' : World} (hr : (execOp a.eval o).run P w = .ok .skip w') (h : next (a.put o.dst undef) w') : o.wp P a w next Q := by
 unfold Oper.wp; rw [hr]; exact h

theorem SimE.ev (h : SimE C V a w fz ρ) (x : Operand) : Holds fz (V.ev x) ρ (a.eval x) := by
 cases x with
 | tmp t => exact h.tm t
 | const v => simp only [View.ev, Act.eval, Holds]
 | global g => simp only [View.ev, Act.eval, Holds]
 | func f => simp only [View.ev, Act.eval, Holds]
theorem SimE.evL (h : SimE C V a w fz ρ) (l : List Operand) : HoldsL fz (l.map V.ev) ρ (l.map a.eval) := by
 induction l with
 | nil => simp [HoldsL]
 | cons x l ih => simp only [List.map_cons, HoldsL]; exact ⟨_, _, rfl, h.ev x, ih⟩

theorem app_out {d : Option Nat} {x : AV} : V.app d { out := x } = V.putO d x := rfl
theorem isOwn_ev_of_not (x : Operand) (h : ∀ t, x ≠ .tmp t) : isOwn (V.ev x) = false := by
 cases x with
 | tmp t => exact absurd rfl (h t)
 | const v => rfl
 | global g => rfl
 | func f => rfl

/-- what an operation must do -/
def Sound (P : Program) (C : Ctx) (V : View) (a : Act) (w : World) (o : Oper) (ef : Eff) : Prop :=
 ∀ Q : Exit → Act → World → Prop, o.wp P a w (fun a' w' => Sim C (V.app o.dst ef) a' w') Q

theorem sound_value (h : SimE C V a w fz ρ) {v : Value} {x : AV} {ob : Prop} (hr : (execOp a.eval o).run P w = .ok (.value v) w) (hd : ∀ i, o.dst = some i → i < C.N) (hx : Holds fz x ρ v) (ho : isOwn x = false) :
  Sound P C V a w o { out := x, ob := ob } := fun _ => wp_of_value hr ⟨fz, ρ, h.putO hd hx ho⟩

theorem opds1 {x : Operand} {f : List AV → Option Eff} {ef : Eff} (h : f ([x].map V.ev) = some ef) : f [V.ev x] = some ef := h

/-- move, assign -/
theorem sound_copy (h : SimE C V a w fz ρ) {tk : Bool} {x : Operand} (hop : o.op = .move x ∨ o.op = .assign x) {ef : Eff} (he : aCopy tk x [V.ev x] = some ef) (hd : ∀ i, o.dst = some i → i < C.N)
  (hne : ∀ t, x = .tmp t → o.dst ≠ some t) : Sound P C V a w o ef := by
 have hr : (execOp a.eval o).run P w = .ok (.value (a.eval x)) w := by
  rcases hop with e | e <;> simp [execOp, e]
 simp only [aCopy] at he
 cases tk with
 | false => simp only [Bool.false_eq_true, if_false, Option.some.injEq] at he; subst he; exact sound_value h hr hd (h.ev x).dem (isOwn_dem _)
 | true =>
  simp only [if_true, Option.some.injEq] at he; subst he
  intro Q
  refine wp_of_value hr ⟨fz, ρ, ?_⟩
  cases x with
  | tmp t =>
   cases hdst : o.dst with
   | none => exact h.demote (p := .t t) trivial
   | some d =>
    have := h.take (p := .t t) trivial (d := d) (hd d hdst) (fun e => hne t rfl (by cases e; exact hdst)) (h.tm t)
    exact this
  | const v => exact h.putO hd (h.ev (.const v)) rfl
  | global g => exact h.putO hd (h.ev (.global g)) rfl
  | func f => exact h.putO hd (h.ev (.func f)) rfl
end Go.Aw
end
section
namespace Go.Aw
variable [GL]
variable {P : Program} {C : Ctx} {V : View} {a : Act} {w : World} {fz : Fz} {ρ : Ren} {o : Oper} {Q : Exit → Act → World → Prop}

theorem Holds.one {x : AV} {v : Value} (h : Holds fz x ρ v) (ho : oneA x = true) : v.oneCell' = true := by
 cases x <;> simp only [oneA, Bool.false_eq_true] at ho <;> simp only [Holds] at h
 ·subst h; exact ho
 ·obtain ⟨a, c, rfl, _⟩ := h; rfl
 ·obtain ⟨a, rfl, _⟩ := h; rfl
 ·obtain ⟨a, c, rfl, _⟩ := h; rfl
 ·obtain ⟨b, o, rfl, _⟩ := h; rfl
 ·obtain ⟨c, _, rfl⟩ := h; rfl
 ·obtain ⟨c, _, rfl⟩ := h; rfl
 ·obtain ⟨c, _, rfl⟩ := h; rfl
 ·rcases h with ⟨rfl, _⟩ | ⟨c, es, clock, rfl, _⟩ <;> rfl
 ·rcases h with ⟨rfl, _⟩ | ⟨c, es, clock, rfl, _⟩ <;> rfl
 ·obtain ⟨c, rfl, _⟩ := h; exact cloV_one _ _
 ·obtain ⟨c, rfl, _⟩ := h; rfl
theorem cells_of_one {v : Value} (h : v.oneCell' = true) : v.cells = #[v] := by
 cases v <;> simp_all [Value.oneCell', Value.cells]
theorem HoldsL.one {l : List AV} {vs : List Value} (h : HoldsL fz l ρ vs) (ho : l.all oneA = true) : ∀ u ∈ vs, u.oneCell' = true := by
 induction l generalizing vs with
 | nil => simp only [HoldsL] at h; subst h; simp
 | cons x l ih =>
  simp only [HoldsL] at h; obtain ⟨v, r, rfl, h1, h2⟩ := h
  simp only [List.all_cons, Bool.and_eq_true] at ho
  intro u hu
  cases List.mem_cons.1 hu with
  | inl e => subst e; exact h1.one ho.1
  | inr e => exact ih h2 ho.2 u e
theorem cellsOf_holds {x : AV} {v : Value} {l : List AV} (h : Holds fz x ρ v) (hc : cellsOf x = some l) : HoldsL fz l ρ v.cells.toList ∧ ∀ u ∈ v.cells.toList, u.oneCell' = true := by
 have plain : ∀ y : AV, Holds fz y ρ v → oneA y = true → HoldsL fz [y] ρ v.cells.toList ∧ ∀ u ∈ v.cells.toList, u.oneCell' = true := by
  intro y hy ho
  have h1 := hy.one ho
  rw [cells_of_one h1]
  refine ⟨by simp only [HoldsL]; exact ⟨v, [], rfl, hy, rfl⟩, by simpa using h1⟩
 unfold cellsOf at hc
 split at hc
 ·rename_i l0
  split at hc
  ·rename_i hall
   cases hc
   simp only [Holds] at h
   obtain ⟨cs, rfl, h⟩ := h
   exact ⟨h, h.one hall⟩
  ·cases hc
 ·rename_i cs
  split at hc
  ·rename_i hall
   cases hc
   simp only [Holds] at h
   subst h
   exact ⟨HoldsL.vals _, fun u hu => List.all_eq_true.1 hall u hu⟩
  ·cases hc
 ·split at hc
  ·rename_i ho
   cases hc
   exact plain _ h ho
  ·cases hc

theorem own_map_dem (cs : List AV) (j : Nat) : isOwn ((cs.map Aw.dem).getD j .unk) = false := by
 rw [List.getD_eq_getElem?_getD, List.getElem?_map]
 cases cs[j]? with
 | none => rfl
 | some x => exact isOwn_dem x
theorem own_map_val (cs : List Value) (j : Nat) : isOwn ((cs.map AV.val).getD j .unk) = false := by
 rw [List.getD_eq_getElem?_getD, List.getElem?_map]
 cases cs[j]? <;> rfl

theorem touched_self {d : Nat} {us : List Nat} {ao : AOp} {vals : List AV} (h : d ∈ touched us (some d) ao vals) : V.filt (touched us (some d) ao vals) d = V.hp d := by
 simp [View.filt, h]
theorem filt_some {l : List Nat} {b : Nat} {k : Blk} (h : V.filt l b = some k) : V.hp b = some k := by
 simp only [View.filt] at h
 split at h
 ·exact h
 ·cases h

/-- a new block, at its slot -/
theorem sound_new (h : SimE C V a w fz ρ) {g : Nat → Option Blk} {out : Nat → AV} {k : Blk} {ob : Prop} {ef : Eff} (hg : ∀ d, o.dst = some d → g d = V.hp d) (he : aNew o.dst g out k ob = some ef) (hd : ∀ i, o.dst = some i → i < C.N)
  {ob' : Obj} {v : Value} (hr : (execOp a.eval o).run P w = .ok (.value v) (w.alloc ob')) (hk : BlkAt fz ρ (w.alloc ob') w.heap.size k) (hown : ∀ j, isOwn (k.at j) = false)
  (hv : ∀ d, Holds fz (out d) (Ren.set ρ d w.heap.size) v) (hno : ∀ d, isOwn (out d) = false) : Sound P C V a w o ef := by
 intro Q
 simp only [aNew] at he
 cases hdst : o.dst with
 | none => rw [hdst] at he; simp at he
 | some d =>
  rw [hdst] at he
  simp only at he
  rw [hg d hdst] at he
  cases hh : V.hp d with
  | some k' => rw [hh] at he; simp at he
  | none =>
   rw [hh] at he
   simp only [Option.some.injEq] at he
   subst he
   refine wp_of_value hr ⟨fz, Ren.set ρ d w.heap.size, ?_⟩
   have h1 := h.newBlk (h.hi d (.inl (hd d hdst))) hh (Ext.alloc w ob') hk hown
   rw [hdst]
   exact h1.put (hd d hdst) (hv d) (hno d)

theorem run_zeroValue {e : TypeId} {i : TypeInfo} {z : Value} (hi : P.info? e = some i) (hz : i.zero = some z) (w : World) : (zeroValue e).run P w = .ok z w := by
 simp [zeroValue, typeInfo, hi, hz]

theorem zeroC_some {e : TypeId} {z : List Value} (h : zeroC P e = some z) : ∃ i zv, P.info? e = some i ∧ i.zero = some zv ∧ zv.cells.toList = z := by
 simp only [zeroC] at h
 cases hi : P.info? e with
 | none => simp [hi] at h
 | some i =>
  simp only [hi, Option.bind_some] at h
  cases hz : i.zero with
  | none => simp [hz] at h
  | some zv => simp [hz] at h; exact ⟨i, zv, rfl, hz, by simpa using h⟩

theorem sound_alloc (h : SimE C V a w fz ρ) {e : TypeId} {z : List Value} (hop : o.op = .alloc e) (hz : zeroC P e = some z) {g : Nat → Option Blk} {ef : Eff} (hg : ∀ d, o.dst = some d → g d = V.hp d)
  (hone : z.all Value.oneCell' = true) (he : aNew o.dst g (fun d => .ptr d 0) (.cells e (z.map .val)) True = some ef) (hd : ∀ i, o.dst = some i → i < C.N) : Sound P C V a w o ef := by
 obtain ⟨i, zv, hi, hzz, rfl⟩ := zeroC_some hz
 refine sound_new h (ob' := .cells zv.cells e) (v := .pointer (some ⟨w.heap.size, 0, none⟩)) hg he hd ?_ ?_ (own_map_val _) (fun d => ?_) (fun _ => rfl)
 ·simp [execOp, hop, Instr.alloc, run_zeroValue hi hzz, newVar, newRow]
 ·exact ⟨zv.cells, heap_alloc_new w _, HoldsL.vals _, fun u hu => List.all_eq_true.1 hone u hu⟩
 ·simp only [Holds]; exact ⟨w.heap.size, by simp [Ren.set], rfl⟩

theorem sound_box (h : SimE C V a w fz ρ) {e : TypeId} {x : Operand} (hop : o.op = .box e x) {g : Nat → Option Blk} {ef : Eff} (hg : ∀ d, o.dst = some d → g d = V.hp d)
  (he : aBox o.dst e g [V.ev x] = some ef) (hd : ∀ i, o.dst = some i → i < C.N) : Sound P C V a w o ef := by
 simp only [aBox] at he
 cases hc : cellsOf (V.ev x) with
 | none => rw [hc] at he; simp at he
 | some cs =>
  rw [hc] at he
  simp only at he
  obtain ⟨h1, h2⟩ := cellsOf_holds (h.ev x) hc
  refine sound_new h (ob' := .cells (a.eval x).cells e) (v := .pointer (some ⟨w.heap.size, 0, none⟩)) hg he hd ?_ ?_ (own_map_dem _) (fun d => ?_) (fun _ => rfl)
  ·simp [execOp, hop, Instr.box, newVar, newRow]
  ·exact ⟨_, heap_alloc_new w _, h1.dem, h2⟩
  ·simp only [Holds]; exact ⟨w.heap.size, by simp [Ren.set], rfl⟩

theorem sound_mkmap (h : SimE C V a w fz ρ) {t : TypeId} {r : Option Operand} (hop : o.op = .makeMap t r) {kt e : TypeId} (ht : P.underlying t = some (.map kt e)) {g : Nat → Option Blk} {ef : Eff} (hg : ∀ d, o.dst = some d → g d = V.hp d)
  (he : aMkmap o.dst g (r.toList.map V.ev) = some ef) (hd : ∀ i, o.dst = some i → i < C.N) : Sound P C V a w o ef := by
 have hr : (execOp a.eval o).run P w = .ok (.value (.map (some w.heap.size))) (w.alloc (.map #[] 0)) ∧ aNew o.dst g (fun d => .mapr d) (.map [] []) True = some ef := by
  cases r with
  | none => exact ⟨by simp [execOp, hop, Instr.makeMap], by simpa [aMkmap] using he⟩
  | some x =>
   have hx := h.ev x
   simp only [Option.toList_some, List.map_cons, List.map_nil] at he
   cases hvx : V.ev x with
   | val v =>
    rw [hvx] at he hx
    simp only [Holds] at hx
    cases v with
    | int k n =>
     refine ⟨?_, by simpa [aMkmap] using he⟩
     simp [execOp, hop, Instr.makeMap, hx, run_underlying ht, asInt, asIntOf]
    | _ => simp [aMkmap] at he
   | _ => rw [hvx] at he; simp [aMkmap] at he
 refine sound_new h (ob' := .map #[] 0) (v := .map (some w.heap.size)) hg hr.2 hd hr.1 ?_ (fun j => by simp [Blk.at, isOwn]) (fun d => ?_) (fun _ => rfl)
 ·exact ⟨#[], 0, heap_alloc_new w _, by simp, by simp [HoldsL], by simp, by simp⟩
 ·simp only [Holds]; exact ⟨w.heap.size, by simp [Ren.set], rfl⟩

theorem arange0 : Array.range 0 = #[] := Array.eq_empty_of_size_eq_zero (by simp)
theorem range_zero_flatten (z : Array Value) (c : Nat) : (((Array.range (c * z.size)).map (fun i => z[i % z.size]!)).toList) = (List.replicate c z.toList).flatten := by
 induction c with
 | zero => simp
 | succ c ih =>
  rw [List.replicate_succ', List.flatten_append, ← ih]
  simp only [Array.toList_map, Array.toList_range, List.flatten_cons, List.flatten_nil, List.append_nil]
  rw [show (c + 1) * z.size = c * z.size + z.size from by rw [Nat.add_mul]; omega, List.range_add, List.map_append, List.map_map]
  congr 1
  apply List.ext_getElem?
  intro j
  by_cases hj : j < z.size
  ·have hm : (c * z.size + j) % z.size = j := by rw [Nat.mul_comm, Nat.mul_add_mod]; exact Nat.mod_eq_of_lt hj
   simp [hj, hm]
  ·simp [hj]
theorem flatten_replicate_map {α β : Type} (f : α → β) (l : List α) (n : Nat) : (List.replicate n (l.map f)).flatten = (List.replicate n l).flatten.map f := by
 induction n with
 | zero => simp
 | succ n ih => rw [List.replicate_succ, List.replicate_succ, List.flatten_cons, List.flatten_cons, List.map_append, ih]

theorem sound_mksl (h : SimE C V a w fz ρ) {t : TypeId} {x y : Operand} (hop : o.op = .makeSlice t x y) {e : TypeId} {i : TypeInfo} {z : Value} (ht : P.underlying t = some (.slice e)) (hi : P.info? e = some i) (hz : i.zero = some z)
  {g : Nat → Option Blk} {ef : Eff} (hg : ∀ d, o.dst = some d → g d = V.hp d) (he : aMksl o.dst e i.size i.bytes z.cells.toList g [V.ev x, V.ev y] = some ef) (hob : ef.ob) (hd : ∀ i, o.dst = some i → i < C.N) : Sound P C V a w o ef := by
 have hx := h.ev x
 have hy := h.ev y
 unfold aMksl at he
 split at he
 ·rename_i l c heq
  simp only [List.cons.injEq, and_true] at heq
  rw [heq.1] at hx
  rw [heq.2] at hy
  simp only [Holds] at hx hy
  split at he
  ·rename_i hc
   obtain ⟨hw0, hzl, hone⟩ := hc
   have hobs : 0 ≤ l ∧ l ≤ c ∧ c * i.bytes ≤ 140737488355328 ∧ c ≤ 4611686018427387904 := by
    simp only [aNew] at he
    split at he
    ·split at he
     ·cases he; exact hob
     ·cases he
    ·cases he
   obtain ⟨h0, hlc, hb, h63⟩ := hobs
   have hwl : IntKind.i64.wrap l = l := IntWalk.i64_in l (by omega)
   have hwc : IntKind.i64.wrap c = c := IntWalk.i64_in c (by omega)
   have hzs : z.cells.size = i.size := by simpa using hzl
   refine sound_new h (ob' := .cells ((Array.range (c.toNat * i.size)).map (fun j => z.cells[j % z.cells.size]!)) e) (v := .slice (some ⟨w.heap.size, 0, none⟩) l.toNat c.toNat) hg he hd ?_ ?_ ?_ (fun d => ?_) (fun _ => rfl)
   ·have hc1 : ¬ c < 0 := by omega
    have hc2 : ¬ (281474976710656 < (i.bytes : Int) * c) := by rw [Int.mul_comm]; omega
    have hl1 : ¬ l < 0 := by omega
    have hl2 : ¬ c < l := by omega
    by_cases hn : c.toNat * i.size = 0
    ·have hc0 : c.toNat = 0 := by
      rcases Nat.mul_eq_zero.1 hn with h | h
      ·exact h
      ·omega
     simp [execOp, hop, Instr.makeSlice, hx, hy, run_underlying ht, typeInfo, hi, asInt, asIntOf, hwl, hwc, hc1, hc2, hl1, hl2, sizeOf, newRow, hc0, arange0]
    ·simp [execOp, hop, Instr.makeSlice, hx, hy, run_underlying ht, typeInfo, hi, asInt, asIntOf, hwl, hwc, hc1, hc2, hl1, hl2, sizeOf, newRow, hn, run_zeroValue hi hz]
   ·refine ⟨_, heap_alloc_new w _, ?_, ?_⟩
    ·rw [← hzs, range_zero_flatten z.cells c.toNat, flatten_replicate_map]; exact HoldsL.vals _
    ·intro u hu
     rw [← hzs, range_zero_flatten z.cells c.toNat] at hu
     obtain ⟨l', hl', hu'⟩ := List.mem_flatten.1 hu
     have := List.eq_of_mem_replicate hl'
     subst this
     exact List.all_eq_true.1 hone u hu'
   ·intro j
    rw [flatten_replicate_map]; exact own_map_val _ j
   ·simp only [Holds]; exact ⟨w.heap.size, by simp [Ren.set], rfl⟩
  ·cases he
 ·cases he
end Go.Aw
end
section
namespace Go.Aw
variable [GL]
variable {P : Program} {C : Ctx} {V : View} {a : Act} {w : World} {fz : Fz} {ρ : Ren} {o : Oper} {Q : Exit → Act → World → Prop}

def CellsAt (w : World) (c o : Nat) (vs : List Value) : Prop := ∀ j v, vs[j]? = some v → w.cell? ⟨c, o + j, none⟩ = some v

theorem HoldsC.list {fz : Fz} : ∀ (l : List AV) (b o : Nat), HoldsC fz l b o → ∃ vs, HoldsL fz l noRen vs ∧ (∀ (j : Nat) (v : Value), vs[j]? = some v → fz.cell b (o + j) = some v) ∧ ∀ v ∈ vs, v.oneCell' = true
 | [], _, _, _ => ⟨[], by simp [HoldsL], by simp, by simp⟩
 | x :: xs, b, o, h => by
  simp only [HoldsC] at h
  obtain ⟨⟨u, hu, h1, hh⟩, h2⟩ := h
  obtain ⟨vs, hv1, hv2, hv3⟩ := HoldsC.list xs b (o + 1) h2
  refine ⟨u :: vs, by simp only [HoldsL]; exact ⟨u, vs, rfl, hh, hv1⟩, fun j v hj => ?_, fun v hv => ?_⟩
  ·cases j with
   | zero => simp at hj; subst hj; exact hu
   | succ j => simp at hj; rw [show o + (j + 1) = o + 1 + j from by omega]; exact hv2 j v hj
  ·cases List.mem_cons.1 hv with
   | inl e => subst e; exact h1
   | inr e => exact hv3 v e

theorem isAgg_run {t : TypeId} {ag : Bool} (h : isAggT P t = some ag) (w : World) : (isAgg t).run P w = .ok ag w := by
 simp only [isAggT] at h
 cases hu : P.underlying t with
 | none => rw [hu] at h; simp at h
 | some d =>
  rw [hu] at h
  cases d <;> simp at h <;> subst h <;> simp [isAgg, run_underlying hu]
theorem szOf_run {t : TypeId} {n : Nat} (h : szOf P t = some n) (w : World) : (sizeOf t).run P w = .ok n w := by
 simp only [szOf] at h
 cases hi : P.info? t with
 | none => simp [hi] at h
 | some i => simp [hi] at h; subst h; simp [sizeOf, typeInfo, hi]
theorem addr_add (c o j : Nat) : (⟨c, o, none⟩ : Addr).add j = ⟨c, o + j, none⟩ := by
 unfold Addr.add; split <;> simp_all

theorem pickA_own {n off : Nat} {ag : Bool} {l : List AV} {y : AV} (h : pickA n ag off l = some y) : isOwn y = false := by
 simp only [pickA] at h
 split at h
 ·split at h
  ·cases h; rfl
  ·cases h
 ·cases hx : l[off]? with
  | none => rw [hx] at h; simp at h
  | some x => rw [hx] at h; simp at h; subst h; exact isOwn_dem x

theorem run_loadVar_at {t : TypeId} {ag : Bool} {n : Nat} (hag : isAggT P t = some ag) (hn : szOf P t = some n) {c o off : Nat} {vs : List Value} (hc : CellsAt w c o vs) {l : List AV} {ρ' : Ren} (hl : HoldsL fz l ρ' vs)
  {y : AV} (hy : pickA n ag off l = some y) : ∃ v, (loadVar t ⟨c, o + off, none⟩).run P w = .ok v w ∧ Holds fz y ρ' v := by
 simp only [pickA] at hy
 cases ag with
 | true =>
  simp only [if_true] at hy
  split at hy
  ·rename_i hlt
   cases hy
   have hlen := hl.len
   have hsl := (hl.drop off).take n
   have hn' : ((vs.drop off).take n).length = n := by simp; omega
   have hrun := run_loadCells_list (P := P) w ⟨c, o + off, none⟩ ((vs.drop off).take n) (fun j v hj => by
    rw [addr_add]
    have : (vs.drop off)[j]? = some v := by
     rw [List.getElem?_take] at hj
     split at hj
     ·exact hj
     ·cases hj
    rw [List.getElem?_drop] at this
    have := hc (off + j) v this
    rwa [← Nat.add_assoc] at this)
   rw [hn'] at hrun
   refine ⟨.agg ((vs.drop off).take n).toArray, ?_, ?_⟩
   ·simp [loadVar, isAgg_run hag, szOf_run hn, hrun]
   ·simp only [Holds]; exact ⟨_, rfl, by simpa using hsl.dem⟩
  ·cases hy
 | false =>
  simp only [Bool.false_eq_true, if_false] at hy
  cases hx : l[off]? with
  | none => rw [hx] at hy; simp at hy
  | some x =>
   rw [hx] at hy; simp at hy; subst hy
   obtain ⟨v, hv, hh⟩ := hl.get _ _ _ off x hx
   refine ⟨v, ?_, hh.dem⟩
   simp [loadVar, isAgg_run hag, hc off v hv]

theorem cellsAt_block {c : Nat} {cur : Array Value} {e : TypeId} {fr : Nat × Nat} (h : w.heap[c]? = some (.cells cur e fr)) : CellsAt w c 0 cur.toList := by
 intro j v hj
 simp only [World.cell?, h, Nat.zero_add, Option.isSome_none, Bool.false_eq_true, if_false]
 simpa using hj

theorem sound_load (h : SimE C V a w fz ρ) {t : TypeId} {x : Operand} (hop : o.op = .load t x) {ag : Bool} {n : Nat} (hag : isAggT P t = some ag) (hn : szOf P t = some n) {tk : Bool} {g : Nat → Option Blk}
  (hg : ∀ b k, g b = some k → V.hp b = some k) {ef : Eff} (he : aLoad n ag tk g [V.ev x] = some ef) (hd : ∀ i, o.dst = some i → i < C.N) : Sound P C V a w o ef := by
 have hx := h.ev x
 unfold aLoad at he
 split at he
 ·rename_i b off heq
  simp only [List.cons.injEq, and_true] at heq
  rw [heq] at hx
  simp only [Holds] at hx
  obtain ⟨c, hρ, hv⟩ := hx
  split at he
  ·rename_i e cs hgb
   have hb := hg _ _ hgb
   obtain ⟨c', hc', _, ⟨cur, hcur, hl, hone⟩, _⟩ := h.hp _ _ hb
   rw [hρ] at hc'; cases hc'
   have hca := cellsAt_block hcur
   cases tk with
   | false =>
    simp only [Bool.false_eq_true, if_false] at he
    split at he
    ·rename_i y hy
     cases he
     obtain ⟨v, hr, hh⟩ := run_loadVar_at (w := w) hag hn hca hl hy
     refine sound_value h ?_ hd hh (pickA_own hy)
     rw [Nat.zero_add] at hr
     simp [execOp, hop, Instr.loadAt, Instr.sureAddr, hv, hr]
    ·cases he
   | true =>
    simp only [if_true] at he
    split at he
    ·rename_i y hy
     split at he
     ·cases he
     ·rename_i hagf
      have hagf' : ag = false := by simpa using hagf
      subst hagf'
      cases he
      obtain ⟨u, hu, hh⟩ := hl.get _ _ _ off y hy
      have hcell : w.cell? ⟨c, off, none⟩ = some u := by simpa using hca off u hu
      have hr : (execOp a.eval o).run P w = .ok (.value u) w := by
       simp [execOp, hop, Instr.loadAt, Instr.sureAddr, hv, loadVar, isAgg_run hag, hcell]
      intro Q
      refine wp_of_value hr ⟨fz, ρ, ?_⟩
      have hat : V.at (.c b off) = y := by simp [View.at, hb, Blk.at, hy]
      have hconc : conc a w ρ (.c b off) = u := by
       have : cur[off]? = some u := by simpa using hu
       simp [conc, hρ, cellAt, hcur, this]
      have hpl : V.hasPl (.c b off) := ⟨_, hb, by
       simp only [Blk.len]
       exact (List.getElem?_eq_some_iff.1 hy).1⟩
      cases hdst : o.dst with
      | none =>
       have := h.demote hpl
       exact this
      | some d =>
       have := h.take hpl (d := d) (hd d hdst) (by intro e; cases e) (by rw [hat, hconc]; exact hh)
       rw [hconc] at this
       rw [hat] at this
       simp only [View.app, View.demP, View.setBO, View.putO]
       rw [hat]; exact this
    ·cases he
  ·cases he
 ·rename_i wd rows i k heq
  simp only [List.cons.injEq, and_true] at heq
  rw [heq] at hx
  simp only [Holds] at hx
  obtain ⟨b, oo, hv, hR⟩ := hx
  split at he
  ·rename_i r hr
   split at he
   ·rename_i y hy
    cases he
    obtain ⟨_, hC⟩ := hR.get _ _ _ _ i r hr
    obtain ⟨vs, hv1, hv2, _⟩ := HoldsC.list _ _ _ hC
    have hca : CellsAt w b (oo + i * wd) vs := fun j v hj => h.fcell _ _ _ (hv2 j v hj)
    obtain ⟨v, hrun, hh⟩ := run_loadVar_at (w := w) hag hn hca hv1 hy
    refine sound_value h ?_ hd (hh.mono (Fz.le_refl _) _ _ _ _ (noRen_le _)) (pickA_own hy)
    rw [Nat.add_assoc] at hrun
    simp [execOp, hop, Instr.loadAt, Instr.sureAddr, hv, hrun]
   ·cases he
  ·cases he
 ·cases he

theorem wrap_in {n : Int} (h0 : -9223372036854775808 ≤ n) (h1 : n ≤ 9223372036854775807) : IntKind.i64.wrap n = n := IntWalk.i64_in n (by omega)

theorem sound_un (h : SimE C V a w fz ρ) {op : UnOp} {t : TypeId} {x : Operand} (hop : o.op = .unOp op t x) {ef : Eff} (he : aUn op [V.ev x] = some ef) (hd : ∀ i, o.dst = some i → i < C.N) : Sound P C V a w o ef := by
 have hx := h.ev x
 unfold aUn at he
 split at he
 ·rename_i b heq
  simp only [List.cons.injEq, and_true] at heq
  rw [heq] at hx; simp only [Holds] at hx
  cases op <;> simp at he
  subst he
  exact sound_value h (v := .bool !b) (by simp [execOp, hop, Op.unary, hx]) hd (by simp only [Holds]) rfl
 ·rename_i k n heq
  simp only [List.cons.injEq, and_true] at heq
  rw [heq] at hx; simp only [Holds] at hx
  cases op <;> simp at he
  ·subst he
   exact sound_value h (v := .int k (k.wrap (-n))) (by simp [execOp, hop, Op.unary, Op.intArith, hx]) hd (by simp only [Holds]) rfl
  ·subst he
   exact sound_value h (v := .int k (complI k n)) (by simp [execOp, hop, Op.unary, Op.intBits, hx, complI, xorI]) hd (by simp only [Holds]) rfl
 ·cases he

theorem sound_conv (h : SimE C V a w fz ρ) {s t : TypeId} {x : Operand} (hop : o.op = .convert s t x) {k k0 : IntKind} (hs : P.underlying s = some (.int k0)) (ht : P.underlying t = some (.int k)) {ef : Eff} (he : aConv k [V.ev x] = some ef)
  (hd : ∀ i, o.dst = some i → i < C.N) : Sound P C V a w o ef := by
 have hx := h.ev x
 unfold aConv at he
 split at he
 ·rename_i k' n heq
  simp only [List.cons.injEq, and_true] at heq
  rw [heq] at hx; simp only [Holds] at hx
  cases he
  exact sound_value h (v := .int k (k.wrap n)) (by simp [execOp, hop, convert, run_underlying hs, run_underlying ht, Conv.intToInt, hx]) hd (by simp only [Holds]) rfl
 ·cases he

theorem sound_mkf (h : SimE C V a w fz ρ) {fn : FuncId} {caps : Array Operand} (hop : o.op = .makeFunc (.func fn) #[] caps) (hd : ∀ i, o.dst = some i → i < C.N) : Sound P C V a w o { out := .clo (.func fn) (caps.toList.map V.ev) } := by
 refine sound_value h (v := .func (.func fn) #[] (caps.map a.eval)) (by simp [execOp, hop, Instr.makeFunc]) hd ?_ rfl
 simp only [Holds]
 exact ⟨caps.map a.eval, rfl, by simpa using h.evL caps.toList⟩
theorem sound_mkb (h : SimE C V a w fz ρ) {fn : FuncId} {first : Array Operand} {nm : String} (hop : o.op = .makeFunc (.func fn) first #[]) (hd : ∀ i, o.dst = some i → i < C.N) : Sound P C V a w o { out := .clo (.methodOf fn nm) (first.toList.map V.ev) } := by
 refine sound_value h (v := .func (.func fn) (first.map a.eval) #[]) (by simp [execOp, hop, Instr.makeFunc]) hd ?_ rfl
 simp only [Holds]
 exact ⟨first.map a.eval, rfl, by simpa using h.evL first.toList⟩

theorem sound_fad (h : SimE C V a w fz ρ) {s : TypeId} {x : Operand} {f : Nat} (hop : o.op = .fieldAddr s x f) {fields : Array Field} (hs : P.underlying s = some (.struct fields)) {fd : Field} (hf : fields[f]? = some fd) {n : Nat}
  (hn : szOf P fd.type = some n) (hn0 : n ≠ 0) {ef : Eff} (he : aFad fd.offset [V.ev x] = some ef) (hd : ∀ i, o.dst = some i → i < C.N) : Sound P C V a w o ef := by
 have hx := h.ev x
 have hrun : ∀ c off, a.eval x = .pointer (some ⟨c, off, none⟩) → (execOp a.eval o).run P w = .ok (.value (.pointer (some ⟨c, off + fd.offset, none⟩))) w := by
  intro c off hv
  simp [execOp, hop, Instr.fieldAt, run_underlying hs, hf, Instr.sureAddr, hv, fieldPlace, szOf_run hn, hn0, addr_add]
 unfold aFad at he
 split at he
 ·rename_i b off heq
  simp only [List.cons.injEq, and_true] at heq
  rw [heq] at hx; simp only [Holds] at hx
  obtain ⟨c, hρ, hv⟩ := hx
  cases he
  exact sound_value h (hrun _ _ hv) hd (by simp only [Holds]; exact ⟨c, hρ, rfl⟩) rfl
 ·rename_i wd rows i k heq
  simp only [List.cons.injEq, and_true] at heq
  rw [heq] at hx; simp only [Holds] at hx
  obtain ⟨b, oo, hv, hR⟩ := hx
  cases he
  refine sound_value h (hrun _ _ hv) hd ?_ rfl
  simp only [Holds]
  exact ⟨b, oo, by simp only [Nat.add_assoc], hR⟩
 ·cases he

theorem sound_ext (h : SimE C V a w fz ρ) {x : Operand} {i : Nat} (hop : o.op = .extract x i) {ef : Eff} (he : aExt i [V.ev x] = some ef) (hd : ∀ i, o.dst = some i → i < C.N) : Sound P C V a w o ef := by
 have hx := h.ev x
 unfold aExt at he
 split at he
 ·rename_i l heq
  simp only [List.cons.injEq, and_true] at heq
  rw [heq] at hx; simp only [Holds] at hx
  obtain ⟨cs, hv, hl⟩ := hx
  split at he
  ·rename_i y hy
   cases he
   obtain ⟨v, hv', hh⟩ := hl.get _ _ _ i y hy
   have hcs : cs[i]? = some v := by simpa using hv'
   exact sound_value h (by simp [execOp, hop, Instr.extract, hv, hcs]) hd hh.dem (isOwn_dem y)
  ·cases he
 ·cases he
end Go.Aw
end
