/- The abstract state of a call, and what it says of the frame and of memory. -/
import Derived.Test.YtdobngcdgkallaaGreatDoorAwA
set_option linter.unusedSimpArgs false
set_option linter.unusedVariables false
set_option linter.unusedSectionVars false
section
namespace Go.Aw

inductive Blk where
 | cells (e : TypeId) (cs : List AV)
 | map (ks : List Value) (vs : List AV)
 | mapd (ks : List Value) (vs : List AV)
 deriving Inhabited

def lk {α : Type} : List (Nat × α) → Nat → Option α
 | [], _ => none
 | (j, x) :: l, k => if j = k then some x else lk l k
structure View where
 tm : Nat → AV
 hp : Nat → Option Blk

/-- Places of a state. -/
inductive Pl where
 | t (i : Nat)
 | c (b j : Nat)
 deriving DecidableEq

def Blk.at : Blk → Nat → AV
 | .cells _ cs, j => cs.getD j .unk
 | .map _ vs, j => vs.getD j .unk
 | .mapd _ vs, j => vs.getD j .unk

def View.at (V : View) : Pl → AV
 | .t i => V.tm i
 | .c b j => ((V.hp b).map (·.at j)).getD .unk

def cellAt (w : World) (c j : Nat) : Value :=
 match w.heap[c]? with
 | some (.cells cs _ _) => cs.getD j undef
 | some (.map es _) => ((es[j]?).map (·.val)).getD undef
 | _ => undef

def conc (a : Act) (w : World) (ρ : Ren) : Pl → Value
 | .t i => a.tmps.getD i undef
 | .c b j => match ρ b with | some c => cellAt w c j | none => undef

def BlkAt (fz : Fz) (ρ : Ren) (w : World) (c : Nat) : Blk → Prop
 | .cells e cs => ∃ cur, w.heap[c]? = some (.cells cur e (0, 0)) ∧ HoldsL fz cs ρ cur.toList ∧ ∀ u ∈ cur.toList, u.oneCell' = true
 | .map ks vs => ∃ es clock, w.heap[c]? = some (.map es clock) ∧ es.toList.map (·.key) = ks ∧ HoldsL fz vs ρ (es.toList.map (·.val)) ∧
   clock = es.size ∧ ∀ (j : Nat) (x : MapEntry), es[j]? = some x → x.born = j
 | .mapd ks vs => ∃ es clock, w.heap[c]? = some (.map es clock) ∧ es.toList.map (·.key) = ks ∧ HoldsL fz vs ρ (es.toList.map (·.val)) ∧
   es.toList.Pairwise (fun x y => x.born < y.born) ∧ ∀ x ∈ es.toList, x.born < clock

structure Ctx where
 B : Nat
 N : Nat
 w0 : World
 Mu : Nat → Bool
 fz0 : Fz
 ρ0 : Ren := noRen

/-- a slice's memory, as far as it may grow -/
def Full (cur : Array Value) (cap wd : Nat) : Prop := cur.size = cap * wd ∧ ∀ u ∈ cur.toList, u.oneCell' = true
def TipOK (C : Ctx) (fz : Fz) (ρ : Ren) (w : World) (e : TypeId) (wd : Nat) (rows : List (List AV)) (v : Value) : Prop :=
 (v = .slice none 0 0 ∧ rows = []) ∨ ∃ g cap cur, v = .slice (some ⟨g, 0, none⟩) rows.length cap ∧ (C.B ≤ g ∨ C.Mu g = true) ∧ w.heap[g]? = some (.cells cur e (0, 0)) ∧
  rows.length ≤ cap ∧ cap ≤ maxLen ∧ Full cur cap wd ∧ (∀ o, rows.length * wd ≤ o → fz.cell g o = none) ∧ fz.obj g = none ∧ (∀ b, ρ b ≠ some g)

/-- what package variables hold: a block, and what is so of it -/
class GL where
 need : List (Nat × (Obj → Prop))
def GLok [GL] (fz : Fz) : Prop := ∀ x ∈ GL.need, ∃ o, fz.obj x.1 = some o ∧ x.2 o
theorem GLok.mono [GL] {f g : Fz} (h : GLok f) (hl : f.le g) : GLok g := fun x hp => by obtain ⟨o, h1, h2⟩ := h x hp; exact ⟨o, hl.2 _ _ h1, h2⟩
variable [GL]
structure SimE (C : Ctx) (V : View) (a : Act) (w : World) (fz : Fz) (ρ : Ren) : Prop where
 df : a.defers = []
 sz : a.tmps.size = C.N
 tm : ∀ t, Holds fz (V.tm t) ρ (a.tmps.getD t undef)
 hp : ∀ b k, V.hp b = some k → ∃ c, ρ b = some c ∧ (C.B ≤ c ∨ C.Mu c = true) ∧ BlkAt fz ρ w c k ∧ (∀ o, fz.cell c o = none) ∧ fz.obj c = none
 dom : ∀ b, V.hp b = none → ρ b = none
 inj : ∀ b b' c, ρ b = some c → ρ b' = some c → b = b'
 fcell : ∀ c o v, fz.cell c o = some v → w.cell? ⟨c, o, none⟩ = some v
 fobj : ∀ c o, fz.obj c = some o → w.heap[c]? = some o
 f0 : C.fz0.le fz
 gl : GLok C.fz0
 f1 : ∀ c, c < C.B → C.Mu c = false → (∀ o v, fz.cell c o = some v → C.fz0.cell c o = some v) ∧ ∀ o, fz.obj c = some o → C.fz0.obj c = some o
 tips : ∀ p e wd rows, V.at p = .own e wd rows → TipOK C fz ρ w e wd rows (conc a w ρ p)
 tipinj : ∀ p q, isOwn (V.at p) = true → isOwn (V.at q) = true → ∀ g g' n n' c c', conc a w ρ p = .slice (some g) n c → conc a w ρ q = .slice (some g') n' c' → g.block = g'.block → p = q
 os : w.os = C.w0.os
 tape : w.tape = C.w0.tape
 output : w.output = C.w0.output
 bsz : C.B ≤ w.heap.size
 old : ∀ c, c < C.B → C.Mu c = false → w.heap[c]? = C.w0.heap[c]?
 mub : ∀ c, C.Mu c = true → c < C.B
 keep : ∀ b c c', C.ρ0 b = some c → ρ b = some c' → c' = c
 hi : ∀ b, b < C.N ∨ b < 1000 ∨ 2000 ≤ b → C.ρ0 b = none
 muρ : ∀ b c, C.ρ0 b = some c → C.Mu c = true

def Sim (C : Ctx) (V : View) (a : Act) (w : World) : Prop := ∃ fz ρ, SimE C V a w fz ρ

def View.put (V : View) (d : Nat) (x : AV) : View := { V with tm := fun t => if t = d then x else V.tm t }
def View.putO (V : View) (d : Option Nat) (x : AV) : View := match d with | some d => V.put d x | none => V
def View.setB (V : View) (b : Nat) (k : Blk) : View := { V with hp := fun c => if c = b then some k else V.hp c }
def View.demT (V : View) (t : Nat) : View := { V with tm := fun u => if u = t then dem (V.tm u) else V.tm u }
def Blk.set : Blk → Nat → AV → Blk
 | .cells e cs, j, x => .cells e (cs.set j x)
 | .map ks vs, j, x => .map ks (vs.set j x)
 | .mapd ks vs, j, x => .mapd ks (vs.set j x)
def View.setAt (V : View) : Pl → AV → View
 | .t i, x => V.put i x
 | .c b j, x => match V.hp b with | some k => V.setB b (k.set j x) | none => V

variable {C : Ctx} {V : View} {a : Act} {w : World} {fz : Fz} {ρ : Ren}

theorem getD_put (a : Act) (d t : Nat) (v : Value) (h : d < a.tmps.size) : (a.put (some d) v).tmps.getD t undef = if t = d then v else a.tmps.getD t undef := by
 simp only [Act.put, Array.getD_eq_getD_getElem?, Array.getElem?_setIfInBounds]
 by_cases e : d = t
 ·subst e; simp [h]
 ·have e' : ¬ t = d := fun h => e h.symm
  simp [e, e']

theorem conc_put_c (d : Nat) (v : Value) (b j : Nat) : conc (a.put (some d) v) w ρ (.c b j) = conc a w ρ (.c b j) := rfl
theorem conc_put_t (d t : Nat) (v : Value) (h : d < a.tmps.size) : conc (a.put (some d) v) w ρ (.t t) = if t = d then v else conc a w ρ (.t t) := getD_put a d t v h

/-- a value that owns nothing comes into a slot -/
theorem SimE.put (h : SimE C V a w fz ρ) {d : Nat} (hd : d < C.N) {x : AV} {v : Value} (hx : Holds fz x ρ v) (ho : isOwn x = false) : SimE C (V.put d x) (a.put (some d) v) w fz ρ := by
 have hd' : d < a.tmps.size := by rw [h.sz]; exact hd
 have key : ∀ p, isOwn ((V.put d x).at p) = true → p ≠ .t d ∧ (V.put d x).at p = V.at p ∧ conc (a.put (some d) v) w ρ p = conc a w ρ p := by
  intro p hp
  cases p with
  | t i =>
   by_cases e : i = d
   ·subst e; simp [View.at, View.put, ho] at hp
   ·exact ⟨fun h => e (by cases h; rfl), by simp [View.at, View.put, e], by rw [conc_put_t _ _ _ hd', if_neg e]⟩
  | c b j => exact ⟨fun h => (by cases h), rfl, rfl⟩
 refine { h with sz := by simp [Act.put, h.sz], tm := fun t => ?_, tips := fun p e wd rows hp => ?_, tipinj := fun p q hp hq g g' n n' c c' hgp hgq hg => ?_ }
 ·rw [getD_put a d t v hd']
  simp only [View.put]
  split
  ·exact hx
  ·exact h.tm t
 ·obtain ⟨_, h1, h2⟩ := key p (by rw [hp]; rfl)
  rw [h2]; exact h.tips p e wd rows (by rw [← h1]; exact hp)
 ·obtain ⟨_, h1, h2⟩ := key p hp
  obtain ⟨_, h3, h4⟩ := key q hq
  exact h.tipinj p q (by rw [← h1]; exact hp) (by rw [← h3]; exact hq) g g' n n' c c' (by rw [← h2]; exact hgp) (by rw [← h4]; exact hgq) hg

theorem Act.put_none (a : Act) (v : Value) : a.put none v = a := rfl
theorem SimE.putO (h : SimE C V a w fz ρ) {d : Option Nat} (hd : ∀ i, d = some i → i < C.N) {x : AV} {v : Value} (hx : Holds fz x ρ v) (ho : isOwn x = false) : SimE C (V.putO d x) (a.put d v) w fz ρ := by
 cases d with
 | none => exact h
 | some d => exact h.put (hd d rfl) hx ho

def Blk.len : Blk → Nat
 | .cells _ cs => cs.length
 | .map _ vs => vs.length
 | .mapd _ vs => vs.length
def View.hasPl (V : View) : Pl → Prop
 | .t _ => True
 | .c b j => ∃ k, V.hp b = some k ∧ j < k.len

theorem Blk.at_set (k : Blk) (j i : Nat) (x : AV) (h : j < k.len) : (k.set j x).at i = if i = j then x else k.at i := by
 cases k with
 | cells e cs =>
  simp only [Blk.len] at h
  simp only [Blk.set, Blk.at, List.getD_eq_getElem?_getD, List.getElem?_set]
  by_cases e2 : i = j
  ·subst e2; simp [h]
  ·have : ¬ j = i := fun h => e2 h.symm
   simp [e2, this]
 | map ks vs =>
  simp only [Blk.len] at h
  simp only [Blk.set, Blk.at, List.getD_eq_getElem?_getD, List.getElem?_set]
  by_cases e2 : i = j
  ·subst e2; simp [h]
  ·have : ¬ j = i := fun h => e2 h.symm
   simp [e2, this]
 | mapd ks vs =>
  simp only [Blk.len] at h
  simp only [Blk.set, Blk.at, List.getD_eq_getElem?_getD, List.getElem?_set]
  by_cases e2 : i = j
  ·subst e2; simp [h]
  ·have : ¬ j = i := fun h => e2 h.symm
   simp [e2, this]

theorem View.at_setAt (V : View) (p q : Pl) (x : AV) (hp : V.hasPl p) : (V.setAt p x).at q = if q = p then x else V.at q := by
 cases p with
 | t i =>
  cases q with
  | t j => simp only [View.setAt, View.at, View.put, Pl.t.injEq]
  | c b j => simp [View.setAt, View.at, View.put]
 | c b j =>
  obtain ⟨k, hk, hj⟩ := hp
  cases q with
  | t i => simp [View.setAt, hk, View.at, View.setB]
  | c b' j' =>
   simp only [View.setAt, hk, View.at, View.setB, Pl.c.injEq]
   by_cases e : b' = b
   ·subst e
    simp [hk, Blk.at_set k j j' x hj]
   ·simp [e]
theorem View.hasPl_of_own {V : View} {p : Pl} (h : isOwn (V.at p) = true) : V.hasPl p := by
 cases p with
 | t i => trivial
 | c b j =>
  simp only [View.at] at h
  cases hk : V.hp b with
  | none => simp [hk, isOwn] at h
  | some k =>
   refine ⟨k, hk, ?_⟩
   rw [hk] at h
   cases k with
   | cells e cs =>
    simp only [Blk.len]
    refine Nat.lt_of_not_le fun hge => ?_
    simp [Blk.at, List.getElem?_eq_none hge, isOwn] at h
   | map ks vs =>
    simp only [Blk.len]
    refine Nat.lt_of_not_le fun hge => ?_
    simp [Blk.at, List.getElem?_eq_none hge, isOwn] at h
   | mapd ks vs =>
    simp only [Blk.len]
    refine Nat.lt_of_not_le fun hge => ?_
    simp [Blk.at, List.getElem?_eq_none hge, isOwn] at h
end Go.Aw
end
section
namespace Go.Aw
variable [GL]
variable {C : Ctx} {V : View} {a : Act} {w : World} {fz : Fz} {ρ : Ren}

/-- w' is w with new blocks. -/
structure Ext (w w' : World) : Prop where
 os : w'.os = w.os
 tape : w'.tape = w.tape
 output : w'.output = w.output
 size : w.heap.size ≤ w'.heap.size
 block : ∀ k, k < w.heap.size → w'.heap[k]? = w.heap[k]?
theorem Ext.refl (w : World) : Ext w w := ⟨rfl, rfl, rfl, Nat.le_refl _, fun _ _ => rfl⟩
theorem Ext.trans {x y z : World} (h : Ext x y) (k : Ext y z) : Ext x z :=
 ⟨k.os.trans h.os, k.tape.trans h.tape, k.output.trans h.output, Nat.le_trans h.size k.size, fun i hi => (k.block i (Nat.lt_of_lt_of_le hi h.size)).trans (h.block i hi)⟩
theorem Ext.alloc (w : World) (o : Obj) : Ext w (w.alloc o) := ⟨rfl, rfl, rfl, by simp, fun k hk => heap_alloc_old w o k hk⟩
theorem Ext.drawn (w : World) (n : Nat) : Ext w { w with drawn := n } := ⟨rfl, rfl, rfl, Nat.le_refl _, fun _ _ => rfl⟩

theorem lt_of_heap {w : World} {c : Nat} {o : Obj} (h : w.heap[c]? = some o) : c < w.heap.size := (Array.getElem?_eq_some_iff.1 h).1
theorem Ext.heap {w w' : World} (h : Ext w w') {c : Nat} {o : Obj} (e : w.heap[c]? = some o) : w'.heap[c]? = some o := by
 rw [h.block c (lt_of_heap e)]; exact e
theorem Ext.cell {w w' : World} (h : Ext w w') {b o : Nat} {v : Value} (e : w.cell? ⟨b, o, none⟩ = some v) : w'.cell? ⟨b, o, none⟩ = some v := by
 have hlt : b < w.heap.size := World.block_lt_of_cell? w _ e
 rw [World.cell?_of_block (w := w) (h.block b hlt)]; exact e
theorem BlkAt.mono {fz fz' : Fz} {ρ ρ' : Ren} {w w' : World} {c : Nat} {k : Blk} (hf : fz.le fz') (hr : Ren.le ρ ρ') (hw : ∀ o, w.heap[c]? = some o → w'.heap[c]? = some o) (h : BlkAt fz ρ w c k) : BlkAt fz' ρ' w' c k := by
 cases k with
 | cells e cs => obtain ⟨cur, h1, h2, h3⟩ := h; exact ⟨cur, hw _ h1, h2.mono hf _ _ _ _ hr, h3⟩
 | map ks vs => obtain ⟨es, clock, h1, h2, h3, h4⟩ := h; exact ⟨es, clock, hw _ h1, h2, h3.mono hf _ _ _ _ hr, h4⟩
 | mapd ks vs => obtain ⟨es, clock, h1, h2, h3, h4⟩ := h; exact ⟨es, clock, hw _ h1, h2, h3.mono hf _ _ _ _ hr, h4⟩

theorem cellAt_same {w w' : World} {c : Nat} (h : w'.heap[c]? = w.heap[c]?) (j : Nat) : cellAt w' c j = cellAt w c j := by
 simp only [cellAt, h]

/-- what every place's block is: below the heap's size -/
theorem SimE.lt (h : SimE C V a w fz ρ) {b : Nat} {c : Nat} (hb : ρ b = some c) : c < w.heap.size := by
 cases hk : V.hp b with
 | none => rw [h.dom b hk] at hb; cases hb
 | some k =>
  obtain ⟨c', hc, _, hB, _⟩ := h.hp b k hk
  rw [hb] at hc; cases hc
  cases k with
  | cells e cs => obtain ⟨cur, h1, _⟩ := hB; exact lt_of_heap h1
  | map ks vs => obtain ⟨es, clock, h1, _⟩ := hB; exact lt_of_heap h1
  | mapd ks vs => obtain ⟨es, clock, h1, _⟩ := hB; exact lt_of_heap h1
theorem SimE.conc_same (h : SimE C V a w fz ρ) {w' : World} {ρ' : Ren} {p : Pl} (hp : isOwn (V.at p) = true) (hr : Ren.le ρ ρ') (hw : ∀ b j c, p = .c b j → ρ b = some c → w'.heap[c]? = w.heap[c]?) :
  conc a w' ρ' p = conc a w ρ p := by
 cases p with
 | t i => rfl
 | c b j =>
  simp only [View.at] at hp
  cases hk : V.hp b with
  | none => simp [hk, isOwn] at hp
  | some k =>
   obtain ⟨c, hc, _⟩ := h.hp b k hk
   simp only [conc, hc, hr _ _ hc]
   exact cellAt_same (hw b j c rfl hc) j

/-- new blocks, some of them never to be written again -/
theorem SimE.extend (h : SimE C V a w fz ρ) {w' : World} (hw : Ext w w') {fz' : Fz} (hle : fz.le fz') (hcell : ∀ c o v, fz'.cell c o = some v → w'.cell? ⟨c, o, none⟩ = some v)
  (hobj : ∀ c o, fz'.obj c = some o → w'.heap[c]? = some o) (hold : ∀ c, c < w.heap.size → (∀ o, fz'.cell c o = fz.cell c o) ∧ fz'.obj c = fz.obj c) : SimE C V a w' fz' ρ := by
 have hlt := fun {b c} => SimE.lt h (b := b) (c := c)
 refine { h with
  tm := fun t => (h.tm t).mono hle _ _ _ _ (Ren.le_refl _), hp := fun b k hk => ?_, fcell := hcell, fobj := hobj, f0 := Fz.le_trans h.f0 hle,
  f1 := fun c hc hcm => ?_, tips := fun p e wd rows hp => ?_, tipinj := fun p q hp hq g g' n n' c c' hgp hgq hg => ?_,
  os := hw.os.trans h.os, tape := hw.tape.trans h.tape, output := hw.output.trans h.output, bsz := Nat.le_trans h.bsz hw.size, old := fun c hc hm => ?_ }
 ·obtain ⟨c, hc, h1, h2, h3, h4⟩ := h.hp b k hk
  have := hold c (hlt hc)
  exact ⟨c, hc, h1, h2.mono hle (Ren.le_refl _) (fun o ho => hw.heap ho), fun o => (this.1 o).trans (h3 o), this.2.trans h4⟩
 ·have := hold c (Nat.lt_of_lt_of_le hc h.bsz)
  exact ⟨fun o v e => (h.f1 c hc hcm).1 o v (by rw [← this.1 o]; exact e), fun o e => (h.f1 c hc hcm).2 o (by rw [← this.2]; exact e)⟩
 ·have ho : isOwn (V.at p) = true := by rw [hp]; rfl
  rw [h.conc_same (w' := w') ho (Ren.le_refl _) (fun b j c _ hc => hw.block c (hlt hc))]
  rcases h.tips p e wd rows hp with ⟨h1, h2⟩ | ⟨g, cap, cur, h1, h2, h3, h4, h5, h6, h7, h8, h9⟩
  ·exact .inl ⟨h1, h2⟩
  ·have := hold g (lt_of_heap h3)
   exact .inr ⟨g, cap, cur, h1, h2, hw.heap h3, h4, h5, h6, fun o ho => (this.1 o).trans (h7 o ho), this.2.trans h8, h9⟩
 ·rw [h.conc_same (w' := w') hp (Ren.le_refl _) (fun b j c _ hc => hw.block c (hlt hc))] at hgp
  rw [h.conc_same (w' := w') hq (Ren.le_refl _) (fun b j c _ hc => hw.block c (hlt hc))] at hgq
  exact h.tipinj p q hp hq g g' n n' c c' hgp hgq hg
 ·rw [hw.block c (Nat.lt_of_lt_of_le hc h.bsz)]; exact h.old c hc hm

theorem SimE.ext (h : SimE C V a w fz ρ) {w' : World} (hw : Ext w w') : SimE C V a w' fz ρ :=
 h.extend hw (Fz.le_refl _) (fun c o v e => hw.cell (h.fcell c o v e)) (fun c o e => hw.heap (h.fobj c o e)) (fun _ _ => ⟨fun _ => rfl, rfl⟩)

/-- nothing is known to be frozen of what is not there -/
theorem SimE.fz_new (h : SimE C V a w fz ρ) {c : Nat} (hc : w.heap.size ≤ c) : (∀ o, fz.cell c o = none) ∧ fz.obj c = none := by
 constructor
 ·intro o
  cases e : fz.cell c o with
  | none => rfl
  | some v => exact absurd (World.block_lt_of_cell? w _ (h.fcell c o v e)) (by simp; omega)
 ·cases e : fz.obj c with
  | none => rfl
  | some v => exact absurd (lt_of_heap (h.fobj c v e)) (by omega)

def Ren.set (ρ : Ren) (b c : Nat) : Ren := fun x => if x = b then some c else ρ x
theorem Ren.le_set {ρ : Ren} {b c : Nat} (h : ρ b = none) : Ren.le ρ (Ren.set ρ b c) := by
 intro x y e
 simp only [Ren.set]
 split
 ·rename_i hx; subst hx; rw [h] at e; cases e
 ·exact e

/-- a new block that the call will write -/
theorem SimE.newBlk (h : SimE C V a w fz ρ) {d : Nat} (hN : C.ρ0 d = none) (hd : V.hp d = none) {w' : World} (hw : Ext w w') {k : Blk} (hk : BlkAt fz ρ w' w.heap.size k) (hown : ∀ j, isOwn (k.at j) = false) :
  SimE C (V.setB d k) a w' fz (Ren.set ρ d w.heap.size) := by
 have h' := h.ext hw
 have hr : ρ d = none := h.dom d hd
 have hle := Ren.le_set (c := w.heap.size) hr
 have hlt := fun {b c} => SimE.lt h (b := b) (c := c)
 have hnew := h.fz_new (Nat.le_refl _)
 have key : ∀ p, isOwn ((V.setB d k).at p) = true → (V.setB d k).at p = V.at p ∧ conc a w' (Ren.set ρ d w.heap.size) p = conc a w' ρ p := by
  intro p hp
  cases p with
  | t i => exact ⟨rfl, rfl⟩
  | c b j =>
   by_cases e : b = d
   ·subst e; simp [View.at, View.setB, hown] at hp
   ·refine ⟨by simp [View.at, View.setB, e], by simp [conc, Ren.set, e]⟩
 refine { h' with
  tm := fun t => (h'.tm t).mono (Fz.le_refl _) _ _ _ _ hle, hp := fun b k' hk' => ?_, dom := fun b hb => ?_, inj := fun b b' c hb hb' => ?_, keep := fun b c c' h1 h2 => ?_,
  tips := fun p e wd rows hp => ?_, tipinj := fun p q hp hq g g' n n' c c' hgp hgq hg => ?_ }
 ·simp only [View.setB] at hk'
  by_cases e : b = d
  ·subst e
   simp only [if_true] at hk'; cases hk'
   exact ⟨w.heap.size, by simp [Ren.set], .inl h.bsz, hk.mono (Fz.le_refl _) hle (fun _ h => h), hnew.1, hnew.2⟩
  ·simp only [e, if_false] at hk'
   obtain ⟨c, hc, h1, h2, h3⟩ := h'.hp b k' hk'
   exact ⟨c, by simp [Ren.set, e, hc], h1, h2.mono (Fz.le_refl _) hle (fun _ h => h), h3⟩
 ·simp only [View.setB] at hb
  by_cases e : b = d
  ·subst e; simp at hb
  ·simp only [e, if_false] at hb
   simp [Ren.set, e, h.dom b hb]
 ·simp only [Ren.set] at hb hb'
  by_cases e : b = d <;> by_cases e' : b' = d
  ·rw [e, e']
  ·simp only [e, e', if_true, if_false] at hb hb'; cases hb; exact absurd (hlt hb') (by omega)
  ·simp only [e, e', if_true, if_false] at hb hb'; cases hb'; exact absurd (hlt hb) (by omega)
  ·simp only [e, e', if_false] at hb hb'; exact h.inj b b' c hb hb'
 ·obtain ⟨h1, h2⟩ := key p (by rw [hp]; rfl)
  rw [h2]
  rcases h'.tips p e wd rows (by rw [← h1]; exact hp) with ⟨x1, x2⟩ | ⟨g, cap, cur, x1, x2, x3, x4, x5, x6, x7, x8, x9⟩
  ·exact .inl ⟨x1, x2⟩
  ·refine .inr ⟨g, cap, cur, x1, x2, x3, x4, x5, x6, x7, x8, fun b => ?_⟩
   simp only [Ren.set]
   split
   ·intro hh
    cases hh
    -- g is the new block: then the place's slice lies in it; but its tip was known in w
    rcases h.tips p e wd rows (by rw [← h1]; exact hp) with ⟨y1, y2⟩ | ⟨g', cap', cur', y1, y2, y3, _⟩
    ·rw [h.conc_same (w' := w') (ρ' := ρ) (by rw [← h1, hp]; rfl) (Ren.le_refl _) (fun b j c _ hc => hw.block c (hlt hc)), y1] at x1; cases x1
    ·rw [h.conc_same (w' := w') (ρ' := ρ) (by rw [← h1, hp]; rfl) (Ren.le_refl _) (fun b j c _ hc => hw.block c (hlt hc)), y1] at x1
     cases x1
     exact absurd (lt_of_heap y3) (by omega)
   ·exact x9 b
 ·obtain ⟨h1, h2⟩ := key p hp
  obtain ⟨h3, h4⟩ := key q hq
  exact h'.tipinj p q (by rw [← h1]; exact hp) (by rw [← h3]; exact hq) g g' n n' c c' (by rw [← h2]; exact hgp) (by rw [← h4]; exact hgq) hg
 ·simp only [Ren.set] at h2
  by_cases e : b = d
  ·subst e; rw [hN] at h1; cases h1
  ·simp only [e, if_false] at h2; exact h.keep b c c' h1 h2

/-- one of the call's own blocks is written; its owned places stay as they were -/
theorem SimE.setBlk (h : SimE C V a w fz ρ) {b c : Nat} {k0 k : Blk} (hb : V.hp b = some k0) (hc : ρ b = some c) {w' : World} (hos : w'.os = w.os) (htape : w'.tape = w.tape) (hout : w'.output = w.output)
  (hsz : w'.heap.size = w.heap.size) (hoth : ∀ i, i ≠ c → w'.heap[i]? = w.heap[i]?) (hk : BlkAt fz ρ w' c k) (hown : ∀ j, isOwn (k.at j) = true → k.at j = k0.at j ∧ cellAt w' c j = cellAt w c j) :
  SimE C (V.setB b k) a w' fz ρ := by
 obtain ⟨c', hc', hBM, hK0, hfc, hfo⟩ := h.hp b k0 hb
 rw [hc] at hc'; cases hc'
 have key : ∀ p, isOwn ((V.setB b k).at p) = true → (V.setB b k).at p = V.at p ∧ conc a w' ρ p = conc a w ρ p := by
  intro p hp
  cases p with
  | t i => exact ⟨rfl, rfl⟩
  | c b' j =>
   by_cases e : b' = b
   ·subst e
    simp only [View.at, View.setB, if_true, Option.map_some, Option.getD_some] at hp ⊢
    obtain ⟨e1, e2⟩ := hown j hp
    exact ⟨by simp [hb, e1], by simp only [conc, hc, e2]⟩
   ·refine ⟨by simp [View.at, View.setB, e], ?_⟩
    simp only [conc]
    cases hρ : ρ b' with
    | none => rfl
    | some c2 => exact cellAt_same (hoth c2 fun e' => e (h.inj b' b c2 hρ (by rw [e']; exact hc))) j
 refine { h with
  hp := fun b' k' hk' => ?_, dom := fun b' hb' => ?_, fcell := fun c2 o v e => ?_, fobj := fun c2 o e => ?_,
  tips := fun p e wd rows hp => ?_, tipinj := fun p q hp hq g g' n n' x x' hgp hgq hg => ?_, os := hos.trans h.os, tape := htape.trans h.tape, output := hout.trans h.output,
  bsz := by rw [hsz]; exact h.bsz, old := fun c2 hc2 hm => ?_ }
 ·simp only [View.setB] at hk'
  by_cases e : b' = b
  ·subst e
   simp only [if_true] at hk'; cases hk'
   exact ⟨c, hc, hBM, hk, hfc, hfo⟩
  ·simp only [e, if_false] at hk'
   obtain ⟨c2, hc2, h1, h2, h3⟩ := h.hp b' k' hk'
   refine ⟨c2, hc2, h1, h2.mono (Fz.le_refl _) (Ren.le_refl _) (fun o ho => ?_), h3⟩
   rw [hoth c2 fun e' => e (h.inj b' b c2 hc2 (by rw [e']; exact hc))]; exact ho
 ·simp only [View.setB] at hb'
  by_cases e : b' = b
  ·subst e; simp at hb'
  ·simp only [e, if_false] at hb'; exact h.dom b' hb'
 ·by_cases e' : c2 = c
  ·subst e'; rw [hfc o] at e; cases e
  ·rw [World.cell?_of_block (w := w) (hoth c2 e')]; exact h.fcell c2 o v e
 ·by_cases e' : c2 = c
  ·subst e'; rw [hfo] at e; cases e
  ·rw [hoth c2 e']; exact h.fobj c2 o e
 ·obtain ⟨h1, h2⟩ := key p (by rw [hp]; rfl)
  rw [h2]
  rcases h.tips p e wd rows (by rw [← h1]; exact hp) with ⟨x1, x2⟩ | ⟨g, cap, cur, x1, x2, x3, x4, x5, x6, x7, x8, x9⟩
  ·exact .inl ⟨x1, x2⟩
  ·refine .inr ⟨g, cap, cur, x1, x2, ?_, x4, x5, x6, x7, x8, x9⟩
   rw [hoth g fun e' => x9 b (by rw [e']; exact hc)]; exact x3
 ·obtain ⟨h1, h2⟩ := key p hp
  obtain ⟨h3, h4⟩ := key q hq
  exact h.tipinj p q (by rw [← h1]; exact hp) (by rw [← h3]; exact hq) g g' n n' x x' (by rw [← h2]; exact hgp) (by rw [← h4]; exact hgq) hg
 ·have : c2 ≠ c := by
   rintro rfl
   rcases hBM with hx | hx
   ·omega
   ·rw [hm] at hx; cases hx
  rw [hoth c2 this]; exact h.old c2 hc2 hm
end Go.Aw
end
section
namespace Go.Aw
variable [GL]
variable {C : Ctx} {V : View} {a : Act} {w : World} {fz : Fz} {ρ : Ren}

theorem View.hp_setAt_c {V : View} {b j : Nat} {k : Blk} (hk : V.hp b = some k) (y : AV) : (V.setAt (.c b j) y).hp = fun c => if c = b then some (k.set j y) else V.hp c := by
 simp [View.setAt, hk, View.setB]
theorem View.tm_setAt_c {V : View} {b j : Nat} (y : AV) : (V.setAt (.c b j) y).tm = V.tm := by
 simp only [View.setAt]; split <;> rfl

theorem HoldsL.set_same {fz : Fz} {l : List AV} {ρ : Ren} {vs : List Value} (h : HoldsL fz l ρ vs) (i : Nat) (y : AV) (hy : ∀ x v, l[i]? = some x → vs[i]? = some v → Holds fz y ρ v) : HoldsL fz (l.set i y) ρ vs := by
 have hl := h.len
 refine HoldsL.of_get _ _ _ (by simp [hl]) fun j z u hz hu => ?_
 rw [List.getElem?_set] at hz
 by_cases hij : i = j
 ·subst hij
  simp only [if_true] at hz
  split at hz
  ·rename_i hlt
   cases hz
   exact hy l[i] u (by simp) hu
  ·cases hz
 ·simp only [hij, if_false] at hz
  obtain ⟨u', hu', hh⟩ := h.get _ _ _ j z hz
  rw [hu] at hu'; cases hu'; exact hh

/-- the same value, read otherwise -/
theorem SimE.reflag (h : SimE C V a w fz ρ) {p : Pl} (hp : V.hasPl p) {y : AV} (hy : ∀ v, Holds fz (V.at p) ρ v → Holds fz y ρ v)
  (htip : ∀ e wd rows, y = .own e wd rows → TipOK C fz ρ w e wd rows (conc a w ρ p))
  (huniq : isOwn y = true → ∀ q, q ≠ p → isOwn (V.at q) = true → ∀ g g' n n' c c', conc a w ρ p = .slice (some g) n c → conc a w ρ q = .slice (some g') n' c' → g.block ≠ g'.block) :
  SimE C (V.setAt p y) a w fz ρ := by
 have hat := fun q => View.at_setAt V p q y hp
 have tips : ∀ q e wd rows, (V.setAt p y).at q = .own e wd rows → TipOK C fz ρ w e wd rows (conc a w ρ q) := by
  intro q e wd rows hq
  rw [hat q] at hq
  by_cases e1 : q = p
  ·rw [if_pos e1] at hq; subst e1; exact htip e wd rows hq
  ·rw [if_neg e1] at hq; exact h.tips q e wd rows hq
 have tipinj : ∀ q r, isOwn ((V.setAt p y).at q) = true → isOwn ((V.setAt p y).at r) = true → ∀ g g' n n' c c', conc a w ρ q = .slice (some g) n c → conc a w ρ r = .slice (some g') n' c' → g.block = g'.block → q = r := by
  intro q r hq hr g g' n n' c c' h1 h2 h3
  rw [hat q] at hq; rw [hat r] at hr
  by_cases e1 : q = p <;> by_cases e2 : r = p
  ·rw [e1, e2]
  ·rw [if_pos e1] at hq; rw [if_neg e2] at hr; subst e1; exact absurd h3 (huniq hq r e2 hr g g' n n' c c' h1 h2)
  ·rw [if_neg e1] at hq; rw [if_pos e2] at hr; subst e2; exact absurd h3.symm (huniq hr q e1 hq g' g n' n c' c h2 h1)
  ·rw [if_neg e1] at hq; rw [if_neg e2] at hr; exact h.tipinj q r hq hr g g' n n' c c' h1 h2 h3
 cases p with
 | t i =>
  refine { h with
   tm := fun t => ?_, tips := tips, tipinj := tipinj }
  simp only [View.setAt, View.put]
  split
  ·rename_i e; subst e; exact hy _ (h.tm t)
  ·exact h.tm t
 | c b j =>
  obtain ⟨k, hk, hj⟩ := hp
  have hhp := View.hp_setAt_c (j := j) hk y
  refine { h with
   tm := fun t => ?_, hp := fun b' k' hk' => ?_, dom := fun b' hb' => ?_, tips := tips, tipinj := tipinj }
  ·rw [View.tm_setAt_c]; exact h.tm t
  ·rw [hhp] at hk'
   simp only at hk'
   by_cases e : b' = b
   ·subst e
    simp only [if_true] at hk'; cases hk'
    obtain ⟨c, hc, h1, h2, h3⟩ := h.hp b' k hk
    refine ⟨c, hc, h1, ?_, h3⟩
    have hya : ∀ v, Holds fz (k.at j) ρ v → Holds fz y ρ v := by
     intro v hv; exact hy v (by simpa [View.at, hk] using hv)
    cases k with
    | cells e cs =>
     obtain ⟨cur, x1, x2, x3⟩ := h2
     refine ⟨cur, x1, x2.set_same j y fun x v hx hv => ?_, x3⟩
     obtain ⟨v', hv', hh⟩ := x2.get _ _ _ j x hx
     rw [hv] at hv'; cases hv'
     exact hya v (by simpa [Blk.at, hx] using hh)
    | map ks vs =>
     obtain ⟨es, clock, x1, x2, x3, x4⟩ := h2
     refine ⟨es, clock, x1, x2, x3.set_same j y fun x v hx hv => ?_, x4⟩
     obtain ⟨v', hv', hh⟩ := x3.get _ _ _ j x hx
     rw [hv] at hv'; cases hv'
     exact hya v (by simpa [Blk.at, hx] using hh)
    | mapd ks vs =>
     obtain ⟨es, clock, x1, x2, x3, x4⟩ := h2
     refine ⟨es, clock, x1, x2, x3.set_same j y fun x v hx hv => ?_, x4⟩
     obtain ⟨v', hv', hh⟩ := x3.get _ _ _ j x hx
     rw [hv] at hv'; cases hv'
     exact hya v (by simpa [Blk.at, hx] using hh)
   ·simp only [e, if_false] at hk'; exact h.hp b' k' hk'
  ·rw [hhp] at hb'
   simp only at hb'
   by_cases e : b' = b
   ·subst e; simp at hb'
   ·simp only [e, if_false] at hb'; exact h.dom b' hb'

theorem SimE.demote (h : SimE C V a w fz ρ) {p : Pl} (hp : V.hasPl p) : SimE C (V.setAt p (dem (V.at p))) a w fz ρ :=
 h.reflag hp (fun _ hv => hv.dem) (fun e wd rows he => by have := isOwn_dem (V.at p); rw [he] at this; cases this) (fun ho => by rw [isOwn_dem] at ho; cases ho)

/-- what p owns, q owns: both hold the same value -/
theorem SimE.move (h : SimE C V a w fz ρ) {p q : Pl} (hpq : p ≠ q) (hp : isOwn (V.at p) = true) (hq : V.hasPl q) (hqo : V.at q = dem (V.at p)) (hc : conc a w ρ q = conc a w ρ p) :
  SimE C ((V.setAt p (dem (V.at p))).setAt q (V.at p)) a w fz ρ := by
 have hpl := View.hasPl_of_own hp
 have h1 := h.demote hpl
 have hat := fun r => View.at_setAt V p r (dem (V.at p)) hpl
 obtain ⟨e, wd, rows, hown⟩ : ∃ e wd rows, V.at p = .own e wd rows := by
  cases hx : V.at p <;> simp only [hx, isOwn] at hp <;> first | exact ⟨_, _, _, rfl⟩ | cases hp
 have htip := h.tips p e wd rows hown
 refine h1.reflag ?_ (fun v hv => ?_) (fun e' wd' rows' he => ?_) (fun _ r hr hro g g' n n' c c' hg hg' => ?_)
 ·cases q with
  | t i => trivial
  | c b j =>
   obtain ⟨k, hk, hj⟩ := hq
   cases p with
   | t i => exact ⟨k, hk, hj⟩
   | c b' j' =>
    obtain ⟨k', hk', hj'⟩ := hpl
    have hhp := View.hp_setAt_c (j := j') hk' (dem (V.at (.c b' j')))
    by_cases e2 : b = b'
    ·subst e2
     rw [hk] at hk'; cases hk'
     refine ⟨k.set j' (dem (V.at (.c b j'))), by rw [hhp]; simp, ?_⟩
     cases k <;> simpa [Blk.set, Blk.len] using hj
    ·exact ⟨k, by rw [hhp]; simp [e2, hk], hj⟩
 ·rw [hat q, if_neg (fun h => hpq h.symm), hqo, hown] at hv
  rw [hown]; simpa only [Aw.dem, Holds] using hv
 ·rw [hown] at he; cases he
  rw [hc]; exact htip
 ·have hrp : r ≠ p := by
   rintro rfl
   rw [hat r, if_pos rfl, isOwn_dem] at hro; cases hro
  rw [hat r, if_neg hrp] at hro
  intro hgg
  rw [hc] at hg
  exact hrp (h.tipinj p r hp hro g g' n n' c c' hg hg' hgg).symm

/-- a slot takes what a place owns (or reads) -/
theorem SimE.take (h : SimE C V a w fz ρ) {p : Pl} (hp : V.hasPl p) {d : Nat} (hd : d < C.N) (hne : p ≠ .t d) (hv : Holds fz (V.at p) ρ (conc a w ρ p)) :
  SimE C ((V.setAt p (dem (V.at p))).put d (V.at p)) (a.put (some d) (conc a w ρ p)) w fz ρ := by
 have hd' : d < a.tmps.size := by rw [h.sz]; exact hd
 have h1 := h.put hd hv.dem (isOwn_dem _)
 have hatp : (V.put d (dem (V.at p))).at p = V.at p := by
  cases p with
  | t i => have : i ≠ d := fun e => hne (by rw [e]); simp [View.at, View.put, this]
  | c b j => rfl
 have hconc : conc (a.put (some d) (conc a w ρ p)) w ρ p = conc a w ρ p := by
  cases p with
  | t i => have : i ≠ d := fun e => hne (by rw [e]); rw [conc_put_t _ _ _ hd', if_neg this]
  | c b j => rfl
 have hcommV : ∀ x, (V.put d x).setAt p (dem (V.at p)) = (V.setAt p (dem (V.at p))).put d x := by
  intro x
  cases p with
  | t i =>
   have : i ≠ d := fun e => hne (by rw [e])
   simp only [View.setAt, View.put, View.mk.injEq, and_true]
   funext t
   by_cases e1 : t = i <;> by_cases e2 : t = d
   ·omega
   ·simp [e1, this]
   ·simp [e2, this.symm]
   ·simp [e1, e2]
  | c b j =>
   cases hk : V.hp b with
   | none => simp [View.setAt, View.put, hk]
   | some k => simp [View.setAt, View.put, hk, View.setB]
 by_cases ho : isOwn (V.at p) = true
 ·have h2 := h1.move (p := p) (q := .t d) hne (by rw [hatp]; exact ho) trivial (by rw [hatp]; simp [View.at, View.put]) (by rw [conc_put_t _ _ _ hd', if_pos rfl, hconc])
  rw [hatp, hcommV] at h2
  have : (((V.setAt p (dem (V.at p))).put d (dem (V.at p))).setAt (.t d) (V.at p)) = (V.setAt p (dem (V.at p))).put d (V.at p) := by
   simp only [View.setAt, View.put, View.mk.injEq, and_true]
   funext t; split <;> rfl
  rw [this] at h2
  exact h2
 ·have ho' : isOwn (V.at p) = false := by simpa using ho
  have hdem : dem (V.at p) = V.at p := by cases hx : V.at p <;> simp_all [isOwn, Aw.dem]
  have h2 := h1.reflag (p := p) (y := dem (V.at p)) (by cases p with | t i => trivial | c b j => exact hp) (fun v hv => by rw [hatp] at hv; exact hv.dem)
   (fun e wd rows he => by have := isOwn_dem (V.at p); rw [he] at this; cases this) (fun ho => by rw [isOwn_dem] at ho; cases ho)
  rw [hcommV] at h2
  rw [hdem] at h2 ⊢
  exact h2
end Go.Aw
end
