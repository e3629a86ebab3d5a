/- The operations, on abstract values. -/
import Derived.Laws.BytesArg
import Derived.Laws.IdiomStrings
import Derived.Test.YtdobngcdgkallaaGreatDoorAwB
set_option linter.unusedSimpArgs false
set_option linter.unusedVariables false
set_option linter.unusedSectionVars false
namespace Go.Aw
variable [GL]

/-- one cell each -/
def oneA : AV → Bool
 | .unk | .agg _ | .tup _ => false
 | .val v => v.oneCell'
 | _ => true
def cellsOf : AV → Option (List AV)
 | .agg l => if l.all oneA then some l else none
 | .val (.agg cs) => if cs.toList.all Value.oneCell' then some (cs.toList.map .val) else none
 | x => if oneA x then some [x] else none

-- names no block of the state
mutual
def noref : AV → Bool
 | .ptr .. | .vec .. | .mapr _ => false
 | .agg l | .tup l => norefL l
 | .clo _ l => norefL l
 | .ifc _ x => noref x
 | _ => true
def norefL : List AV → Bool
 | [] => true
 | x :: xs => noref x && norefL xs
end

variable {fz : Fz} {ρ : Ren}
mutual
def within (l : List Nat) : AV → Bool
 | .ptr b _ => l.contains b
 | .vec b _ _ _ _ => l.contains b
 | .mapr b => l.contains b
 | .agg x => withinL l x
 | .tup x => withinL l x
 | .clo _ x => withinL l x
 | .ifc _ x => within l x
 | _ => true
def withinL (l : List Nat) : List AV → Bool
 | [] => true
 | x :: xs => within l x && withinL l xs
end
mutual
theorem Holds.within {l : List Nat} {ρ' : Ren} (hρ : ∀ b, l.contains b = true → ρ' b = ρ b) : ∀ (x : AV) (v : Value), within l x = true → Holds fz x ρ v → Holds fz x ρ' v
 | .unk, _, _, _ => by simp only [Holds]
 | .val u, _, _, h => by simpa only [Holds] using h
 | .agg x, v, hf, h => by
  simp only [Holds] at h ⊢; simp only [Aw.within] at hf; obtain ⟨cs, e, h⟩ := h; exact ⟨cs, e, HoldsL.within hρ x _ hf h⟩
 | .tup x, v, hf, h => by
  simp only [Holds] at h ⊢; simp only [Aw.within] at hf; obtain ⟨cs, e, h⟩ := h; exact ⟨cs, e, HoldsL.within hρ x _ hf h⟩
 | .clo fn x, v, hf, h => by
  simp only [Holds] at h ⊢; simp only [Aw.within] at hf; obtain ⟨cs, e, h⟩ := h; exact ⟨cs, e, HoldsL.within hρ x _ hf h⟩
 | .ifc t x, v, hf, h => by
  simp only [Holds] at h ⊢; simp only [Aw.within] at hf; obtain ⟨u, e, h⟩ := h; exact ⟨u, e, Holds.within hρ x _ hf h⟩
 | .rd .., _, _, h | .fx .., _, _, h | .own .., _, _, h | .elt .., _, _, h | .rmap .., _, _, h | .kset .., _, _, h => by simpa only [Holds] using h
 | .ptr b off, v, hf, h => by
  simp only [Holds] at h ⊢; simp only [Aw.within] at hf; obtain ⟨c, e, h⟩ := h; exact ⟨c, by rw [hρ b hf]; exact e, h⟩
 | .vec b w' off n cap, v, hf, h => by
  simp only [Holds] at h ⊢; simp only [Aw.within] at hf; obtain ⟨c, e, h⟩ := h; exact ⟨c, by rw [hρ b hf]; exact e, h⟩
 | .mapr b, v, hf, h => by
  simp only [Holds] at h ⊢; simp only [Aw.within] at hf; obtain ⟨c, e, h⟩ := h; exact ⟨c, by rw [hρ b hf]; exact e, h⟩
theorem HoldsL.within {l : List Nat} {ρ' : Ren} (hρ : ∀ b, l.contains b = true → ρ' b = ρ b) : ∀ (x : List AV) (vs : List Value), withinL l x = true → HoldsL fz x ρ vs → HoldsL fz x ρ' vs
 | [], _, _, h => by simpa only [HoldsL] using h
 | x :: xs, vs, hf, h => by
  simp only [HoldsL] at h ⊢; simp only [withinL, Bool.and_eq_true] at hf; obtain ⟨v, r, e, h1, h2⟩ := h
  exact ⟨v, r, e, Holds.within hρ x v hf.1 h1, HoldsL.within hρ xs r hf.2 h2⟩
end
def Blk.within (l : List Nat) : Blk → Prop
 | .cells _ cs => withinL l cs = true
 | .map _ vs => withinL l vs = true
 | .mapd _ vs => withinL l vs = true

def chunk {α : Type} (w n : Nat) (l : List α) : List (List α) := (List.range n).map fun i => (l.drop (i * w)).take w

-- a value that names blocks, as a tree
mutual
inductive Rsv (g : Nat → Option Blk) : AV → AV → Prop
 | closed {x : AV} : noref x = true → Rsv g x x
 | own {e : TypeId} {w : Nat} {rows : List (List AV)} : Rsv g (.own e w rows) (.rd w rows)
 | fx {w : Nat} {rows : List (List AV)} : Rsv g (.fx w rows) (.rd w rows)
 | nil {w : Nat} : Rsv g (.val (.slice none 0 0)) (.rd w [])
 | agg {l l' : List AV} : RsvL g l l' → Rsv g (.agg l) (.agg l')
 | tup {l l' : List AV} : RsvL g l l' → Rsv g (.tup l) (.tup l')
 | clo {fn : Fn} {l l' : List AV} : RsvL g l l' → Rsv g (.clo fn l) (.clo fn l')
 | ifc {t : TypeId} {x y : AV} : Rsv g x y → Rsv g (.ifc t x) (.ifc t y)
 | ptr {b off : Nat} {e : TypeId} {cs cs' : List AV} : g b = some (.cells e cs) → RsvL g cs cs' → Rsv g (.ptr b off) (.elt cs'.length [cs'] 0 off)
 | vec {b w off n cap : Nat} {e : TypeId} {cs cs' : List AV} : g b = some (.cells e cs) → RsvL g cs cs' → off + n * w ≤ cs.length → n ≤ cap → Rsv g (.vec b w off n cap) (.rd w (chunk w n (cs'.drop off)))
 | mapr {b : Nat} {ks : List Value} {vs vs' : List AV} : g b = some (.map ks vs) → RsvL g vs vs' → Rsv g (.mapr b) (.rmap ks vs')
inductive RsvL (g : Nat → Option Blk) : List AV → List AV → Prop
 | nil : RsvL g [] []
 | cons {x y : AV} {l l' : List AV} : Rsv g x y → RsvL g l l' → RsvL g (x :: l) (y :: l')
end

def FzOK (fz : Fz) (w : World) : Prop := (∀ c o v, fz.cell c o = some v → w.cell? ⟨c, o, none⟩ = some v) ∧ (∀ c o, fz.obj c = some o → w.heap[c]? = some o)

/-- a slice of the call's own, that may still grow -/
def TipNew (fz : Fz) (w w' : World) (e : TypeId) (wd : Nat) (rows : List (List AV)) (v : Value) : Prop :=
 (v = .slice none 0 0 ∧ rows = []) ∨ ∃ g cap cur, v = .slice (some ⟨g, 0, none⟩) rows.length cap ∧ w.heap.size ≤ g ∧ w'.heap[g]? = some (.cells cur e (0, 0)) ∧
  rows.length ≤ cap ∧ cap ≤ maxLen ∧ Full cur cap wd ∧ (∀ o, rows.length * wd ≤ o → fz.cell g o = none) ∧ fz.obj g = none

/-- what a call of f at ts comes to: r, in new memory; nothing that was there is changed -/
def Enters (P : Program) (f : FuncId) : Prop := ∃ fn, P.funcs[f]? = some fn ∧ (fn.name == "runtime.NumGoroutine") = false ∧ fn.body.isSome = true
def Con (P : Program) (f : FuncId) (ts : List AV) (r : AV) : Prop := Enters P f ∧
 ∀ (fz : Fz) (w : World) (vs : Array Value), FzOK fz w → GLok fz → HoldsL fz ts noRen vs.toList →
  Calls P f vs w fun e w' => ∃ v fz', e = .returned v ∧ Ext w w' ∧ fz.le fz' ∧ FzOK fz' w' ∧
   (∀ c, c < w.heap.size → (∀ o, fz'.cell c o = fz.cell c o) ∧ fz'.obj c = fz.obj c) ∧ Holds fz' r noRen v ∧
   ∀ el wd rows, r = .own el wd rows → TipNew fz' w w' el wd rows v

-- blocks that are handed over, to be written
def hpV (H : Nat → Option Blk) : View := ⟨fun _ => .unk, H⟩
def act0 : Act := { tmps := #[], defers := [] }
def TipM (fz : Fz) (ρ : Ren) (w : World) (e : TypeId) (wd : Nat) (rows : List (List AV)) (v : Value) : Prop :=
 (v = .slice none 0 0 ∧ rows = []) ∨ ∃ g cap cur, v = .slice (some ⟨g, 0, none⟩) rows.length cap ∧ w.heap[g]? = some (.cells cur e (0, 0)) ∧
  rows.length ≤ cap ∧ cap ≤ maxLen ∧ Full cur cap wd ∧ (∀ o, rows.length * wd ≤ o → fz.cell g o = none) ∧ fz.obj g = none ∧ (∀ b, ρ b ≠ some g)
/-- H, as it lies in memory -/
structure Mem (fz : Fz) (ρ : Ren) (w : World) (H : Nat → Option Blk) : Prop where
 hp : ∀ b k, H b = some k → ∃ c, ρ b = some c ∧ BlkAt fz ρ w c k ∧ (∀ o, fz.cell c o = none) ∧ fz.obj c = none
 dom : ∀ b, H b = none → ρ b = none
 inj : ∀ b b' c, ρ b = some c → ρ b' = some c → b = b'
 tips : ∀ p e wd rows, (hpV H).at p = .own e wd rows → TipM fz ρ w e wd rows (conc act0 w ρ p)
 tipinj : ∀ p q, isOwn ((hpV H).at p) = true → isOwn ((hpV H).at q) = true → ∀ g g' n n' c c', conc act0 w ρ p = .slice (some g) n c → conc act0 w ρ q = .slice (some g') n' c' → g.block = g'.block → p = q
/-- what is handed over, with the slices in it that may grow -/
def MuOf (ρ : Ren) (w : World) (H : Nat → Option Blk) (c : Nat) : Prop := (∃ b, ρ b = some c) ∨ ∃ p g n cap, isOwn ((hpV H).at p) = true ∧ conc act0 w ρ p = .slice (some g) n cap ∧ g.block = c
structure MExt (Mu : Nat → Prop) (w w' : World) : Prop where
 os : w'.os = w.os
 tape : w'.tape = w.tape
 output : w'.output = w.output
 size : w.heap.size ≤ w'.heap.size
 block : ∀ k, k < w.heap.size → ¬ Mu k → w'.heap[k]? = w.heap[k]?
/-- what a call of f at ts comes to, where it may write the blocks H: r, and H' -/
def ConM (P : Program) (f : FuncId) (H : List (Nat × Blk)) (ts : List AV) (r : AV) (H' : List (Nat × Blk)) : Prop := Enters P f ∧ isOwn r = false ∧
 ∀ (fz : Fz) (ρ : Ren) (w : World) (vs : Array Value), FzOK fz w → GLok fz → Mem fz ρ w (lk H) → HoldsL fz ts ρ vs.toList →
  Calls P f vs w fun e w' => ∃ v fz' ρ', e = .returned v ∧ MExt (MuOf ρ w (lk H)) w w' ∧ fz.le fz' ∧ FzOK fz' w' ∧
   (∀ c, c < w.heap.size → ¬ MuOf ρ w (lk H) c → (∀ o, fz'.cell c o = fz.cell c o) ∧ fz'.obj c = fz.obj c) ∧
   Mem fz' ρ' w' (lk H') ∧ Ren.le ρ ρ' ∧ (∀ b c, ρ' b = some c → ρ b = some c ∨ w.heap.size ≤ c ∨ MuOf ρ w (lk H) c) ∧
   (∀ c, MuOf ρ' w' (lk H') c → w.heap.size ≤ c ∨ MuOf ρ w (lk H) c) ∧ Holds fz' r ρ' v

def blkOf : Value → Option Nat
 | .slice (some a) _ _ => some a.block
 | _ => none
/-- a slice that is handed over, and may grow -/
def TipA (fz : Fz) (w : World) (e : TypeId) (wd : Nat) (rows : List (List AV)) (v : Value) : Prop :=
 (v = .slice none 0 0 ∧ rows = []) ∨ ∃ g cap cur, v = .slice (some ⟨g, 0, none⟩) rows.length cap ∧ w.heap[g]? = some (.cells cur e (0, 0)) ∧
  rows.length ≤ cap ∧ cap ≤ maxLen ∧ Full cur cap wd ∧ (∀ o, rows.length * wd ≤ o → fz.cell g o = none) ∧ fz.obj g = none
/-- what a call of f comes to, whose first argument is a slice that may grow: that slice, grown -/
def ConO (P : Program) (f : FuncId) (e : TypeId) (wd : Nat) (rows : List (List AV)) (ts : List AV) (rows' : List (List AV)) : Prop := Enters P f ∧
 ∀ (fz : Fz) (w : World) (v : Value) (vs : List Value), FzOK fz w → GLok fz → Holds fz (.own e wd rows) noRen v → HoldsL fz ts noRen vs → TipA fz w e wd rows v →
  Calls P f (v :: vs).toArray w fun en w' => ∃ v' fz', en = .returned v' ∧ MExt (fun c => blkOf v = some c) w w' ∧ fz.le fz' ∧ FzOK fz' w' ∧
   (∀ c, c < w.heap.size → blkOf v ≠ some c → (∀ o, fz'.cell c o = fz.cell c o) ∧ fz'.obj c = fz.obj c) ∧ Holds fz' (.own e wd rows') noRen v' ∧ TipA fz' w' e wd rows' v' ∧
   (∀ c, blkOf v' = some c → w.heap.size ≤ c ∨ blkOf v = some c)

/-- a call's result, and the blocks that its arguments name; bs: the blocks that it has written, or made -/
structure Res where
 r : AV := .unk
 us : List Nat := []
 bs : List (Nat × Blk) := []
 ow : Bool := false

/-- y says no more than x -/
inductive Lt : AV → AV → Prop
 | refl {x : AV} : Lt x x
 | unk {x : AV} : Lt x .unk
 | own {e : TypeId} {w : Nat} {rows : List (List AV)} : Lt (.own e w rows) (.rd w rows)
 | fx {w : Nat} {rows : List (List AV)} : Lt (.fx w rows) (.rd w rows)
 | nil {w : Nat} : Lt (.val (.slice none 0 0)) (.rd w [])
inductive LtL : List AV → List AV → Prop
 | nil : LtL [] []
 | cons {x y : AV} {l l' : List AV} : Lt x y → LtL l l' → LtL (x :: l) (y :: l')
theorem Lt.holds {fz : Fz} {ρ : Ren} {x y : AV} {v : Value} (h : Lt x y) (hx : Holds fz x ρ v) : Holds fz y ρ v := by
 cases h with
 | refl => exact hx
 | unk => simp only [Holds]
 | own => simpa only [Holds] using hx
 | fx => simp only [Holds] at hx ⊢; obtain ⟨a, e, h⟩ := hx; exact ⟨a, _, e, Nat.le_refl _, h⟩
 | nil => simp only [Holds] at hx ⊢; exact ⟨none, 0, hx, Nat.le_refl _, by simp⟩
theorem LtL.holds {fz : Fz} {ρ : Ren} {l l' : List AV} {vs : List Value} (h : LtL l l') (hx : HoldsL fz l ρ vs) : HoldsL fz l' ρ vs := by
 induction h generalizing vs with
 | nil => exact hx
 | cons h _ ih => simp only [HoldsL] at hx ⊢; obtain ⟨v, r, e, h1, h2⟩ := hx; exact ⟨v, r, e, h.holds h1, ih h2⟩

inductive AOp where
 | copy (tk : Bool) (x : Operand)
 | box (e : TypeId) (x : Operand)
 | alloc (e : TypeId) (zero : List Value)
 | build (zero : List Value) (parts : List (Nat × Nat × Operand))
 | bslice (e : TypeId) (w : Nat) (zero : List Value) (n : Nat) (parts : List (Nat × Operand))
 | load (n : Nat) (ag : Bool) (tk : Bool) (x : Operand)
 | store (n : Nat) (tk : Bool) (x v : Operand)
 | bin (op : BinOp) (x y : Operand)
 | eqg (neg : Bool) (ks : List Nat) (x y : Operand)
 | eqb (neg : Bool) (x y : Operand)
 | un (op : UnOp) (x : Operand)
 | conv (k : IntKind) (x : Operand)
 | mkf (fn : Fn) (caps : List Operand)
 | mkmap (r : Option Operand)
 | mksl (e : TypeId) (w bytes : Nat) (zero : List Value) (len cap : Operand)
 | sub (w : Nat) (x : Operand) (lo hi mx : Option Operand)
 | subs (x : Operand) (lo hi : Option Operand)
 | fad (off : Nat) (x : Operand)
 | fld (off n : Nat) (ag : Bool) (x : Operand)
 | iad (w : Nat) (x i : Operand)
 | idxs (x i : Operand)
 | lkp (kd : Nat) (zero : Value) (ok : Bool) (x k : Operand)
 | mupd (kd : Nat) (x k v : Operand)
 | ext (x : Operand) (i : Nat)
 | len (kd : Nat) (x : Operand)
 | app (e : TypeId) (w bytes : Nat) (s x : Operand)
 | del (kd : Nat) (x k : Operand)
 | isnil (neg : Bool) (x : Operand)
 | pick (c x y : Operand)
 | mm (mx : Bool) (x y : Operand)
 | mx4 (x y z u : Operand)
 | apps (e : TypeId) (bytes : Nat) (s x : Operand)
 | x1 (k : Nat) (x : Operand)
 | iada (n w : Nat) (x i : Operand)
 | call (f : Operand) (args : List Operand)
 deriving Inhabited

def AOp.opds : AOp → List Operand
 | .copy _ x | .box _ x | .isnil _ x | .load _ _ _ x | .un _ x | .conv _ x | .fad _ x | .fld _ _ _ x | .ext x _ | .len _ x | .x1 _ x => [x]
 | .alloc _ _ => []
 | .mkmap r => r.toList
 | .build _ ps => ps.map (·.2.2)
 | .bslice _ _ _ _ ps => ps.map (·.2)
 | .store _ _ x v | .bin _ x v | .eqg _ _ x v | .eqb _ x v | .mksl _ _ _ _ x v | .iad _ x v | .iada _ _ x v | .idxs x v | .lkp _ _ _ x v | .app _ _ _ x v | .del _ x v => [x, v]
 | .mkf _ caps => caps
 | .sub _ x lo hi mx => x :: (lo.toList ++ (hi.toList ++ mx.toList))
 | .subs x lo hi => x :: (lo.toList ++ hi.toList)
 | .mupd _ x k v => [x, k, v]
 | .pick c x y => [c, x, y]
 | .mm _ x y => [x, y]
 | .mx4 x y z u => [x, y, z, u]
 | .apps _ _ x v => [x, v]
 | .call f args => f :: args

structure Eff where
 out : AV
 dem : Option Pl := none
 blk : Option (Nat × Blk) := none
 ob : Prop := True
 bs : List (Nat × Blk) := []

def srcPl : Operand → Option Pl
 | .tmp t => some (.t t)
 | _ => none

def splice (l : List AV) (off n : Nat) (x : List AV) : Option (List AV) :=
 if x.length = n ∧ off + n ≤ l.length then some (l.take off ++ x ++ l.drop (off + n)) else none
def fillA : List AV → List (Nat × Nat × AV) → Option (List AV)
 | l, [] => some l
 | l, (off, n, x) :: r => match cellsOf x with
  | some cs => match splice l off n (cs.map Aw.dem) with
   | some l' => fillA l' r
   | none => none
  | none => none

def keyEq : Value → Value → Bool
 | .string a, .string b => decide (a = b)
 | .int j a, .int k b => decide (j = k) && decide (a = b)
 | .bool a, .bool b => a == b
 | _, _ => false
/-- k: 0 an integer, 1 a text, 2 a bool -/
def kindV : Nat → Value → Bool
 | 0, .int _ _ => true
 | 1, .string _ => true
 | 2, .bool _ => true
 | _, _ => false
def sameKind : Value → Value → Bool
 | .string _, .string _ => true
 | .int j _, .int k _ => decide (j = k)
 | .bool _, .bool _ => true
 | _, _ => false
def kvGet (k : Value) : List Value → List AV → Option AV
 | a :: ks, x :: vs => if keyEq k a then some x else kvGet k ks vs
 | _, _ => none
def kvSet (k : Value) (y : AV) : List Value → List AV → List Value × List AV
 | a :: ks, x :: vs => if keyEq k a then (k :: ks, y :: vs) else let r := kvSet k y ks vs; (a :: r.1, x :: r.2)
 | _, _ => ([k], [y])
def kvDel (k : Value) : List Value → List AV → List Value × List AV
 | a :: ks, x :: vs => if keyEq k a then (ks, vs) else let r := kvDel k ks vs; (a :: r.1, x :: r.2)
 | _, _ => ([], [])

def cmpInt (op : BinOp) (a b : Int) : Option Bool :=
 match op with
 | .eql => some (a == b) | .neq => some (a != b) | .lss => some (decide (a < b)) | .leq => some (decide (a ≤ b)) | .gtr => some (decide (a > b)) | .geq => some (decide (a ≥ b))
 | _ => none
def andI (k : IntKind) (a b : Int) : Int := k.wrap ((BitVec.ofInt k.bits a &&& BitVec.ofInt k.bits b).toNat : Nat)
def orI (k : IntKind) (a b : Int) : Int := k.wrap ((BitVec.ofInt k.bits a ||| BitVec.ofInt k.bits b).toNat : Nat)
def xorI (k : IntKind) (a b : Int) : Int := k.wrap ((BitVec.ofInt k.bits a ^^^ BitVec.ofInt k.bits b).toNat : Nat)
def shlI (k : IntKind) (a b : Int) : Int := k.wrap (a * 2 ^ min b.toNat k.bits)
def shrI (k : IntKind) (a b : Int) : Int := a / 2 ^ min b.toNat k.bits
def complI (k : IntKind) (a : Int) : Int := xorI k (if k.signed then -1 else k.max) a
def binI (op : BinOp) (k : IntKind) (a b : Int) : Option Value :=
 match op with
 | .add => some (.int k (k.wrap (a + b)))
 | .sub => some (.int k (k.wrap (a - b)))
 | .mul => some (.int k (k.wrap (a * b)))
 | .and => some (.int k (andI k a b))
 | .or => some (.int k (orI k a b))
 | .xor => some (.int k (xorI k a b))
 | op => (cmpInt op a b).map .bool
/-- k: 0 an integer, 1 a text, 2 a bool -/
def eqV (k : Nat) : AV → AV → Option Bool
 | .val (.int j a), .val (.int j' b) => if k = 0 ∧ j = j' then some (a == b) else none
 | .val (.string a), .val (.string b) => if k = 1 then some (decide (a = b)) else none
 | .val (.bool a), .val (.bool b) => if k = 2 then some (a == b) else none
 | _, _ => none
def eqA : List Nat → List AV → List AV → Option Bool
 | [], [], [] => some true
 | k :: ks, x :: l, y :: r => match eqV k x y, eqA ks l r with
  | some b, some c => some (b && c)
  | _, _ => none
 | _, _, _ => none
def binA (op : BinOp) (x y : AV) : Option (AV × Prop) :=
 match op, x, y with
 | .shl, .val (.int j a), .val (.int _ b) => some (.val (.int j (shlI j a b)), 0 ≤ b)
 | .shr, .val (.int j a), .val (.int _ b) => some (.val (.int j (shrI j a b)), 0 ≤ b)
 | op, .val (.int j a), .val (.int k b) => if j = k then (match op with
   | .quo => some (.val (.int j (j.wrap (a.tdiv b))), b ≠ 0)
   | .rem => some (.val (.int j (a.tmod b)), b ≠ 0)
   | op => (binI op j a b).map fun v => (.val v, True)) else none
 | .eql, .val (.string a), .val (.string b) => some (.val (.bool (decide (a = b))), True)
 | .neq, .val (.string a), .val (.string b) => some (.val (.bool (!decide (a = b))), True)
 | .add, .val (.string a), .val (.string b) => some (.val (.string (a ++ b)), a.size + b.size ≤ 4611686018427387904)
 | .lss, .val (.string a), .val (.string b) => some (.val (.bool (Op.bytesLess a.toList b.toList)), True)
 | _, _, _ => none

/-- a slice's rows -/
def rowsOf : AV → Option (List (List AV))
 | .rd _ rows | .fx _ rows | .own _ _ rows => some rows
 | .val (.slice none 0 0) => some []
 | _ => none
def callee : AV → Option (FuncId × List AV)
 | .val (.func (.func f) first caps) => if first.isEmpty ∧ caps.isEmpty then some (f, []) else none
 | .clo (.func f) caps => some (f, caps)
 | .clo (.methodOf f _) _ => some (f, [])
 | _ => none
/-- the receiver, of a method's value -/
def preOf : AV → List AV
 | .clo (.methodOf _ _) l => l
 | _ => []

def aCopy (tk : Bool) (x : Operand) : List AV → Option Eff
 | [v] => if tk then some { out := v, dem := srcPl x } else some { out := dem v }
 | _ => none
def aNew (d : Option Nat) (g : Nat → Option Blk) (out : Nat → AV) (k : Blk) (ob : Prop) : Option Eff :=
 match d with
 | some d => match g d with
  | none => some { out := out d, blk := some (d, k), ob := ob }
  | some _ => none
 | none => none
def aBox (d : Option Nat) (e : TypeId) (g : Nat → Option Blk) : List AV → Option Eff
 | [v] => match cellsOf v with
  | some cs => aNew d g (fun d => .ptr d 0) (.cells e (cs.map Aw.dem)) True
  | none => none
 | _ => none
def aBuild (zero : List Value) (ps : List (Nat × Nat × Operand)) (vs : List AV) : Option Eff :=
 match fillA (zero.map .val) ((ps.zip vs).map fun (p, v) => (p.1, p.2.1, v)) with
 | some l => some { out := .agg l }
 | none => none
def aBslice (e : TypeId) (w : Nat) (zero : List Value) (n : Nat) (ps : List (Nat × Operand)) (vs : List AV) : Option Eff :=
 if n * w ≤ 16777216 ∧ 0 < w ∧ zero.length = w ∧ zero.all Value.oneCell' = true ∧ norefL vs = true then
  match fillA ((List.replicate n (zero.map AV.val)).flatten) ((ps.zip vs).map fun (p, v) => (p.1 * w, w, v)) with
  | some l => some { out := .own e w (chunk w n l) }
  | none => none
 else none
def aBslice0 (e : TypeId) (w : Nat) (vs : List AV) : Option Eff := if 0 < w ∧ vs.isEmpty = true then some { out := .own e w [] } else none
def pickA (n : Nat) (ag : Bool) (off : Nat) (cs : List AV) : Option AV :=
 if ag then (if off + n ≤ cs.length then some (.agg (((cs.drop off).take n).map Aw.dem)) else none) else (cs[off]?).map Aw.dem
def aLoad (n : Nat) (ag tk : Bool) (g : Nat → Option Blk) : List AV → Option Eff
 | [.ptr b off] => match g b with
  | some (.cells _ cs) => if tk then (match cs[off]? with
    | some y => if ag then none else some { out := y, dem := some (.c b off) }
    | none => none)
   else (match pickA n ag off cs with
    | some y => some { out := y }
    | none => none)
  | _ => none
 | [.elt _ rows i k] => match rows[i]? with
  | some r => match pickA n ag k r with
   | some y => some { out := y }
   | none => none
  | none => none
 | _ => none
def tmpOf : Operand → Option Nat
 | .tmp t => some t
 | _ => none
def aStore0 (n : Nat) (b off : Nat) (e : TypeId) (cs : List AV) (v : AV) : Option Eff :=
 match cellsOf v with
 | some ns => match splice cs off n (ns.map Aw.dem) with
  | some cs' => some { out := .unk, blk := some (b, .cells e cs') }
  | none => none
 | none => none
def aStore (n : Nat) (tk : Bool) (v' : Operand) (g : Nat → Option Blk) : List AV → Option Eff
 | [.ptr b off, v] => match g b with
  | some (.cells e cs) => match v, tmpOf v', tk with
   | .own e' w rows, some t, true => if n = 1 ∧ off < cs.length then some { out := .unk, blk := some (b, .cells e (cs.set off (.own e' w rows))), dem := some (.t t) } else none
   | v, _, _ => aStore0 n b off e cs v
  | _ => none
 | _ => none
def aBin (op : BinOp) : List AV → Option Eff
 | [x, y] => match binA op x y with
  | some r => some { out := r.1, ob := r.2 }
  | none => none
 | _ => none
def aEqg (neg : Bool) (ks : List Nat) : List AV → Option Eff
 | [.agg l, .agg r] => match eqA ks l r with
  | some b => some { out := .val (.bool (if neg then !b else b)) }
  | none => none
 | _ => none
def aEqb (neg : Bool) : List AV → Option Eff
 | [.val (.bool a), .val (.bool b)] => some { out := .val (.bool (if neg then !(a == b) else a == b)) }
 | _ => none
def aUn (op : UnOp) : List AV → Option Eff
 | [.val (.bool b)] => match op with
  | .not => some { out := .val (.bool !b) }
  | _ => none
 | [.val (.int k n)] => match op with
  | .neg => some { out := .val (.int k (k.wrap (0 - n))) }
  | .xor => some { out := .val (.int k (complI k n)) }
  | _ => none
 | _ => none
def aConv (k : IntKind) : List AV → Option Eff
 | [.val (.int _ n)] => some { out := .val (.int k (k.wrap n)) }
 | _ => none
def aMksl (d : Option Nat) (e : TypeId) (w bytes : Nat) (zero : List Value) (g : Nat → Option Blk) : List AV → Option Eff
 | [.val (.int .i64 l), .val (.int .i64 c)] => if 0 < w ∧ zero.length = w ∧ zero.all Value.oneCell' = true then
   aNew d g (fun d => .vec d w 0 l.toNat c.toNat) (.cells e ((List.replicate c.toNat (zero.map AV.val)).flatten)) (0 ≤ l ∧ l ≤ c ∧ c * bytes ≤ 140737488355328 ∧ c ≤ 4611686018427387904)
  else none
 | _ => none
/-- what may be appended to: its rows -/
def growA (e : TypeId) (w : Nat) : AV → Option (List (List AV))
 | .own e' w' rows => if e' = e ∧ w' = w then some rows else none
 | .fx w' rows => if w' = w then some rows else none
 | .val (.slice none 0 0) => some []
 | _ => none
def moreA (w : Nat) : AV → Option (List (List AV))
 | .rd w' rows => if w' = w then some rows else none
 | .fx w' rows => if w' = w then some rows else none
 | .own _ w' rows => if w' = w then some rows else none
 | .val (.slice none 0 0) => some []
 | _ => none
/-- lo, hi, max: each there or not -/
def bnd (b : Bool) (vs : List AV) : Option (Option Int × List AV) :=
 match b with
 | false => some (none, vs)
 | true => match vs with
  | .val (.int .i64 n) :: r => some (some n, r)
  | _ => none
def takeO {α : Type} (h : Option Int) (l : List α) : List α := match h with | some h => l.take h.toNat | none => l
def dropO {α : Type} (h : Option Int) (l : List α) : List α := match h with | some h => l.drop h.toNat | none => l
def aSub (w : Nat) (lo hi mx : Bool) : List AV → Option Eff
 | x :: vs => match moreA w x, bnd lo vs with
  | some rows, some (l, vs) => match bnd hi vs with
   | some (h, vs) => match bnd mx vs with
    | some (none, _) => some { out := .rd w (dropO l (takeO h rows)), ob := 0 ≤ l.getD 0 ∧ l.getD 0 ≤ h.getD rows.length ∧ h.getD rows.length ≤ rows.length }
    | some (some m, _) => some { out := .fx w (dropO l (takeO h rows)), ob := 0 ≤ l.getD 0 ∧ l.getD 0 ≤ h.getD rows.length ∧ h.getD rows.length ≤ rows.length ∧ h = some m }
    | none => none
   | none => none
  | _, _ => none
 | _ => none
def aSubs (lo hi : Bool) : List AV → Option Eff
 | .val (.string s) :: vs => match bnd lo vs with
  | some (l, vs) => match bnd hi vs with
   | some (h, _) => some { out := .val (.string (s.extract (l.getD 0).toNat (h.getD s.size).toNat)), ob := 0 ≤ l.getD 0 ∧ l.getD 0 ≤ h.getD s.size ∧ h.getD s.size ≤ s.size }
   | none => none
  | none => none
 | _ => none
def aFad (off : Nat) : List AV → Option Eff
 | [.ptr b o] => some { out := .ptr b (o + off) }
 | [.elt w rows i k] => some { out := .elt w rows i (k + off) }
 | _ => none
def aFld (off n : Nat) (ag : Bool) : List AV → Option Eff
 | [.agg l] => match pickA n ag off l with
  | some y => some { out := y }
  | none => none
 | _ => none
def aIad (w : Nat) : List AV → Option Eff
 | [x, .val (.int _ i)] => match x with
  | .vec b w' off n _ => if w' = w then some { out := .ptr b (off + i.toNat * w), ob := 0 ≤ i ∧ i < n } else none
  | .rd w' rows => if w' = w then some { out := .elt w rows i.toNat 0, ob := 0 ≤ i ∧ i < rows.length } else none
  | .fx w' rows => if w' = w then some { out := .elt w rows i.toNat 0, ob := 0 ≤ i ∧ i < rows.length } else none
  | .own _ w' rows => if w' = w then some { out := .elt w rows i.toNat 0, ob := 0 ≤ i ∧ i < rows.length } else none
  | _ => none
 | _ => none
def aIdxs : List AV → Option Eff
 | [.val (.string s), .val (.int _ i)] => some { out := .val (.int .u8 (s.get! i.toNat).toNat), ob := 0 ≤ i ∧ i < s.size }
 | _ => none
def lkp1 (zero : Value) (ok : Bool) (k : Value) (ks : List Value) (vs : List AV) : Eff :=
 match kvGet k ks vs with
 | some y => { out := if ok then .tup [dem y, .val (.bool true)] else dem y, ob := ∀ a ∈ ks, sameKind k a = true }
 | none => { out := if ok then .tup [.val zero, .val (.bool false)] else .val zero, ob := ∀ a ∈ ks, sameKind k a = true }
def aLkp (kd : Nat) (zero : Value) (ok : Bool) (g : Nat → Option Blk) : List AV → Option Eff
 | [.mapr b, .val k] => match g b with
  | some (.map ks vs) => if kindV kd k = true then some (lkp1 zero ok k ks vs) else none
  | some (.mapd ks vs) => if kindV kd k = true then some (lkp1 zero ok k ks vs) else none
  | _ => none
 | [.rmap ks vs, .val k] => if kindV kd k = true then some (lkp1 zero ok k ks vs) else none
 | [.kset ks u, .val k] => if kindV kd k = true then some { out := if ok then .tup [.val (if ks.any (keyEq k) then u k else zero), .val (.bool (ks.any (keyEq k)))] else .val (if ks.any (keyEq k) then u k else zero), ob := (∀ a ∈ ks, sameKind k a = true) } else none
 | [.val (.map none), .val k] => if kindV kd k = true then some (lkp1 zero ok k [] []) else none
 | _ => none
def oneOrAgg : AV → Bool
 | .agg _ => true
 | x => oneA x
def aMupd (kd : Nat) (g : Nat → Option Blk) : List AV → Option Eff
 | [.mapr b, .val k, v] => match g b with
  | some (.map ks vs) => if oneOrAgg v = true ∧ kindV kd k = true then
    some { out := .unk, blk := some (b, .map (kvSet k (dem v) ks vs).1 (kvSet k (dem v) ks vs).2), ob := ∀ a ∈ ks, sameKind k a = true } else none
  | _ => none
 | _ => none
def aExt (i : Nat) : List AV → Option Eff
 | [.tup l] => match l[i]? with
  | some y => some { out := dem y }
  | none => none
 | _ => none
/-- kd: 0 a slice, 1 a text, 2 a map -/
def aLen (kd : Nat) (g : Nat → Option Blk) (vs : List AV) : Option Eff :=
 match kd, vs with
 | 0, [x] => match x with
  | .vec _ _ _ n _ => some { out := .val (.int .i64 n) }
  | x => match rowsOf x with
   | some rows => some { out := .val (.int .i64 rows.length) }
   | none => none
 | 1, [.val (.string s)] => some { out := .val (.int .i64 s.size) }
 | 2, [.mapr b] => match g b with
  | some (.map ks _) => some { out := .val (.int .i64 ks.length) }
  | _ => none
 | 2, [.rmap ks _] => some { out := .val (.int .i64 ks.length) }
 | _, _ => none
def isFx : AV → Bool
 | .fx _ _ => true
 | _ => false
def aApp (e : TypeId) (w bytes : Nat) (s : Operand) : List AV → Option Eff
 | [sv, x] => match growA e w sv, moreA w x with
  | some rows, some new => if 0 < w then some { out := .own e w (rows ++ new), dem := srcPl s, ob := (rows.length + new.length) * bytes ≤ 140737488355328 ∧ rows.length + new.length ≤ 4611686018427387904 ∧ (if isFx sv = true then new ≠ [] else True) } else none
  | _, _ => none
 | _ => none
def aDel (kd : Nat) (g : Nat → Option Blk) : List AV → Option Eff
 | [.mapr b, .val k] => match g b with
  | some (.map ks vs) => if kindV kd k = true ∧ (vs.all fun x => !isOwn x) = true then some { out := .val (.tuple #[]), blk := some (b, .mapd (kvDel k ks vs).1 (kvDel k ks vs).2), ob := ∀ a ∈ ks, sameKind k a = true } else none
  | some (.mapd ks vs) => if kindV kd k = true ∧ (vs.all fun x => !isOwn x) = true then some { out := .val (.tuple #[]), blk := some (b, .mapd (kvDel k ks vs).1 (kvDel k ks vs).2), ob := ∀ a ∈ ks, sameKind k a = true } else none
  | _ => none
 | _ => none
/-- what is to be shown of a call that writes blocks -/
structure CallM (P : Program) (fn : FuncId) (g : Nat → Option Blk) (us : List Nat) (vs : List AV) (r : AV) (bs H : List (Nat × Blk)) (ts : List AV) : Prop where
 us : ∀ b k, lk bs b = some k → us.contains b = true
 have_ : ∀ b k, lk H b = some k → g b = some k
 new : ∀ b k, lk bs b = some k → lk H b = none → g b = none ∧ (b < 1000 ∨ 2000 ≤ b)
 all : ∀ b k, lk H b = some k → ∃ k', lk bs b = some k'
 wk : ∀ b k, lk H b = some k → k.within (H.map (·.1))
 wt : withinL (H.map (·.1)) ts = true
 lt : LtL vs ts
 con : ConM P fn H ts r bs
/-- what may be handed over to grow: its rows -/
def growO (e : TypeId) (w : Nat) : AV → Option (List (List AV))
 | .own e' w' rows => if e' = e ∧ w' = w then some rows else none
 | .val (.slice none 0 0) => some []
 | _ => none
def aCallO (P : Program) (c : Res) (d : Option Nat) (sp : Option Pl) (fn : FuncId) (caps : List AV) : List AV → Option Eff
 | a :: ts => match c.r with
  | .own e wd rows' => match growO e wd a with
   | some rows => if norefL (ts ++ caps) = true then some { out := .own e wd rows', dem := sp, ob := (∀ t, sp = some (.t t) → d ≠ some t) ∧ ConO P fn e wd rows (ts ++ caps) rows' } else none
   | none => none
  | _ => none
 | [] => none
def aCall (P : Program) (c : Res) (d : Option Nat) (sp : Option Pl) (g : Nat → Option Blk) : List AV → Option Eff
 | f :: vs => match callee f with
  | some (fn, caps) => match c.bs with
   | [] => if c.ow = true then (if (preOf f).isEmpty = true then aCallO P c d sp fn caps vs else none) else some { out := c.r, ob := ∃ ts, RsvL g (preOf f ++ vs ++ caps) ts ∧ (flat c.r = true ∨ norefL (preOf f ++ vs ++ caps) = true) ∧ Con P fn ts c.r }
   | x :: l => some { out := c.r, bs := x :: l, ob := ∃ H ts, CallM P fn g c.us (preOf f ++ vs ++ caps) c.r (x :: l) H ts }
  | none => none
 | _ => none

def aIsnil (neg : Bool) : List AV → Option Eff
 | [.mapr _] => some { out := .val (.bool neg) }
 | [.val (.map none)] => some { out := .val (.bool !neg) }
 | _ => none
def aPick : List AV → Option Eff
 | [.val (.bool b), x, y] => some { out := if b then dem x else dem y }
 | _ => none
def aMm (mx : Bool) : List AV → Option Eff
 | [.val (.int j a), .val (.int k b)] => if j = k then some { out := .val (.int j (if mx then (if b > a then b else a) else (if b < a then b else a))) } else none
 | _ => none
def mx2 (a b : Int) : Int := if b > a then b else a
def aMx4 : List AV → Option Eff
 | [.val (.int j a), .val (.int k b), .val (.int l c), .val (.int m d)] => if j = k ∧ j = l ∧ j = m then some { out := .val (.int j (mx2 (mx2 (mx2 a b) c) d)) } else none
 | _ => none
/-- a string's bytes, as rows -/
def byteRows (s : ByteArray) : List (List AV) := s.data.toList.map fun b => [.val (.int .u8 (b.toNat : Int))]
def growS (e : TypeId) : AV → Option (List (List AV))
 | .own e' w' rows => if e' = e ∧ w' = 1 then some rows else none
 | .val (.slice none 0 0) => some []
 | _ => none
def aApps (e : TypeId) (bytes : Nat) (s : Operand) : List AV → Option Eff
 | [sv, .val (.string x)] => match growS e sv with
  | some rows => some { out := .own e 1 (rows ++ byteRows x), dem := srcPl s, ob := (rows.length + x.size) * bytes ≤ 140737488355328 ∧ rows.length + x.size ≤ 4611686018427387904 }
  | none => none
 | _ => none
def numsA : List (List AV) → Option (List Int)
 | [] => some []
 | [.val (.int .u8 n)] :: r => (numsA r).map (n :: ·)
 | _ => none
def aNck : List AV → Option Eff
 | [.ptr b off] => some { out := .ptr b off }
 | [.elt w rows i k] => some { out := .elt w rows i k }
 | [.clo (.func f) caps] => some { out := .clo (.func f) caps }
 | _ => none
def aS2b : List AV → Option Eff
 | [.val (.string s)] => some { out := .rd 1 (byteRows s) }
 | _ => none
def aB2s : List AV → Option Eff
 | [x] => match rowsOf x with
  | some rows => match numsA rows with
   | some l => some { out := .val (.string (strOfNums l)) }
   | none => none
  | none => none
 | _ => none
def aSnil (neg : Bool) : List AV → Option Eff
 | [.val (.slice none 0 0)] => some { out := .val (.bool !neg) }
 | [.rd _ (_ :: _)] => some { out := .val (.bool neg) }
 | [.fx _ (_ :: _)] => some { out := .val (.bool neg) }
 | [.own _ _ (_ :: _)] => some { out := .val (.bool neg) }
 | [.vec ..] => some { out := .val (.bool neg) }
 | _ => none
def aPnil (neg : Bool) : List AV → Option Eff
 | [.ptr ..] => some { out := .val (.bool neg) }
 | [.elt ..] => some { out := .val (.bool neg) }
 | _ => none
/-- 0 nil checks; 1 bytes of a string; 2 a string of bytes; 3, 4 slices against nil; 5, 6 pointers -/
def aX1 (k : Nat) (vals : List AV) : Option Eff :=
 if k = 0 then aNck vals else if k = 1 then aS2b vals else if k = 2 then aB2s vals else if k = 3 then aSnil false vals else if k = 4 then aSnil true vals else if k = 5 then aPnil false vals else if k = 6 then aPnil true vals else none
/-- an element of an array -/
def aIada (n w : Nat) : List AV → Option Eff
 | [.ptr b off, .val (.int _ i)] => some { out := .ptr b (off + i.toNat * w), ob := 0 ≤ i ∧ i < n }
 | [.elt w' rows j k, .val (.int _ i)] => some { out := .elt w' rows j (k + i.toNat * w), ob := 0 ≤ i ∧ i < n }
 | _ => none
def aMkmap (d : Option Nat) (g : Nat → Option Blk) : List AV → Option Eff
 | [] => aNew d g (fun d => .mapr d) (.map [] []) True
 | [.val (.int _ _)] => aNew d g (fun d => .mapr d) (.map [] []) True
 | _ => none

/-- what an operation comes to: d: its slot; vals: its operands; g: the blocks that it may look at -/
def act (P : Program) (r : Res) (d : Option Nat) (ao : AOp) (vals : List AV) (g : Nat → Option Blk) : Option Eff :=
 match ao with
 | .copy tk x => aCopy tk x vals
 | .box e _ => aBox d e g vals
 | .alloc e zero => if zero.all Value.oneCell' = true then aNew d g (fun d => .ptr d 0) (.cells e (zero.map .val)) True else none
 | .build zero ps => aBuild zero ps vals
 | .bslice e w zero n ps => if n = 0 then aBslice0 e w vals else aBslice e w zero n ps vals
 | .load n ag tk _ => aLoad n ag tk g vals
 | .store n tk _ v' => aStore n tk v' g vals
 | .bin op _ _ => aBin op vals
 | .eqg neg ks _ _ => aEqg neg ks vals
 | .eqb neg _ _ => aEqb neg vals
 | .un op _ => aUn op vals
 | .conv k _ => aConv k vals
 | .mkf fn _ => some { out := .clo fn vals }
 | .mkmap _ => aMkmap d g vals
 | .mksl e w bytes zero _ _ => aMksl d e w bytes zero g vals
 | .sub w _ lo hi mx => aSub w lo.isSome hi.isSome mx.isSome vals
 | .subs _ lo hi => aSubs lo.isSome hi.isSome vals
 | .fad off _ => aFad off vals
 | .fld off n ag _ => aFld off n ag vals
 | .iad w _ _ => aIad w vals
 | .idxs _ _ => aIdxs vals
 | .lkp kd zero ok _ _ => aLkp kd zero ok g vals
 | .mupd kd _ _ _ => aMupd kd g vals
 | .ext _ i => aExt i vals
 | .len kd _ => aLen kd g vals
 | .app e w bytes s _ => aApp e w bytes s vals
 | .del kd _ _ => aDel kd g vals
 | .isnil neg _ => aIsnil neg vals
 | .pick _ _ _ => aPick vals
 | .mm mx _ _ => aMm mx vals
 | .mx4 _ _ _ _ => aMx4 vals
 | .apps e bytes s _ => aApps e bytes s vals
 | .x1 k _ => aX1 k vals
 | .iada n w _ _ => aIada n w vals
 | .call _ args => aCall P r d (args.head?.bind srcPl) g vals

def View.ev (V : View) : Operand → AV
 | .tmp t => V.tm t
 | .const v => .val v
 | .global g => .val (.pointer (some ⟨g, 0, none⟩))
 | .func f => .val (.func (.func f) #[] #[])

def idOf : AV → List Nat
 | .ptr b _ => [b]
 | .vec b .. => [b]
 | .mapr b => [b]
 | _ => []
/-- the blocks that an operation may look at, or write -/
def touched (us : List Nat) (d : Option Nat) (ao : AOp) (vals : List AV) : List Nat :=
 match ao with
 | .box .. | .alloc .. | .mkmap _ | .mksl .. => d.toList
 | .call _ _ => us
 | .load .. | .store .. | .lkp .. | .mupd .. | .del .. => vals.flatMap idOf
 | .len kd _ => if kd = 2 then vals.flatMap idOf else []
 | _ => []

def View.filt (V : View) (l : List Nat) : Nat → Option Blk := fun b => if b ∈ l then V.hp b else none
def View.demP (V : View) : Option Pl → View
 | none => V
 | some p => V.setAt p (dem (V.at p))
def View.setBO (V : View) : Option (Nat × Blk) → View
 | none => V
 | some (b, k) => V.setB b k
def View.setBs (V : View) : List (Nat × Blk) → View
 | [] => V
 | (b, k) :: r => (V.setBs r).setB b k
def View.app (V : View) (d : Option Nat) (e : Eff) : View := (((V.demP e.dem).setBO e.blk).setBs e.bs).putO d e.out

def effOf (P : Program) (c : Res) (d : Option Nat) (ao : AOp) (V : View) : Option Eff :=
 act P c d ao (ao.opds.map V.ev) (V.filt (touched c.us d ao (ao.opds.map V.ev)))
theorem setBs_tm (V : View) : ∀ l : List (Nat × Blk), (V.setBs l).tm = V.tm
 | [] => rfl
 | (b, k) :: r => by simp only [View.setBs, View.setB, setBs_tm V r]
theorem setBs_hp (V : View) : ∀ (l : List (Nat × Blk)) (b : Nat), (V.setBs l).hp b = match lk l b with | some k => some k | none => V.hp b
 | [], b => rfl
 | (j, k) :: r, b => by
  simp only [View.setBs, View.setB, lk]
  by_cases e : b = j
  ·simp [e]
  ·have e' : ¬ j = b := fun q => e q.symm
   simp only [e, e', if_false]; exact setBs_hp V r b
theorem lk_mem {α : Type} : ∀ {l : List (Nat × α)} {b : Nat} {k : α}, lk l b = some k → (l.map (·.1)).contains b = true
 | (j, x) :: l, b, k, h => by
  simp only [lk] at h
  simp only [List.map_cons, List.contains_cons, Bool.or_eq_true, beq_iff_eq]
  split at h
  ·rename_i e; exact .inl e.symm
  ·exact .inr (lk_mem h)
theorem lk_of_mem {α : Type} : ∀ {l : List (Nat × α)} {b : Nat}, (l.map (·.1)).contains b = true → ∃ k, lk l b = some k
 | (j, x) :: l, b, h => by
  simp only [List.map_cons, List.contains_cons, Bool.or_eq_true, beq_iff_eq] at h
  simp only [lk]
  by_cases e : j = b
  ·exact ⟨x, by rw [if_pos e]⟩
  ·rw [if_neg e]; exact lk_of_mem (h.resolve_left fun q => e q.symm)
end Go.Aw
