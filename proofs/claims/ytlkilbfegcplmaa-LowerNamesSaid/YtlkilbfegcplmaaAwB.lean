/- The abstract state of a call, and what it says of the frame and of memory. -/
import Derived.Test.YtlkilbfegcplmaaAwA
set_option linter.unusedSimpArgs false
set_option linter.unusedVariables false
namespace Go.Aw

inductive Blk where
  | cells (e : TypeId) (cs : List AV)
  | map (ks : List Value) (vs : List AV)
  | mapd (ks : List Value) (vs : List AV)
  deriving Inhabited

def lk {α : Type} : List (Nat × α) → Nat → Option α
  | [], _ => none
  | (j, x) :: l, k => if j = k then some x else lk l k
structure View where
  tm : Nat → AV
  hp : Nat → Option Blk

/-- Places of a state. -/
inductive Pl where
  | t (i : Nat)
  | c (b j : Nat)
  deriving DecidableEq

def Blk.at : Blk → Nat → AV
  | .cells _ cs, j => cs.getD j .unk
  | .map _ vs, j => vs.getD j .unk
  | .mapd _ vs, j => vs.getD j .unk

def View.at (V : View) : Pl → AV
  | .t i => V.tm i
  | .c b j => ((V.hp b).map (·.at j)).getD .unk

def cellAt (w : World) (c j : Nat) : Value :=
  match w.heap[c]? with
  | some (.cells cs _ _) => cs.getD j undef
  | some (.map es _) => ((es[j]?).map (·.val)).getD undef
  | _ => undef

def conc (a : Act) (w : World) (ρ : Ren) : Pl → Value
  | .t i => a.tmps.getD i undef
  | .c b j => match ρ b with | some c => cellAt w c j | none => undef

def BlkAt (fz : Fz) (ρ : Ren) (w : World) (c : Nat) : Blk → Prop
  | .cells e cs => ∃ cur, w.heap[c]? = some (.cells cur e (0, 0)) ∧ HoldsL fz cs ρ cur.toList ∧ ∀ u ∈ cur.toList, u.oneCell' = true
  | .map ks vs => ∃ es clock, w.heap[c]? = some (.map es clock) ∧ es.toList.map (·.key) = ks ∧ HoldsL fz vs ρ (es.toList.map (·.val)) ∧
      clock = es.size ∧ ∀ (j : Nat) (x : MapEntry), es[j]? = some x → x.born = j
  | .mapd ks vs => ∃ es clock, w.heap[c]? = some (.map es clock) ∧ es.toList.map (·.key) = ks ∧ HoldsL fz vs ρ (es.toList.map (·.val)) ∧
      es.toList.Pairwise (fun x y => x.born < y.born) ∧ ∀ x ∈ es.toList, x.born < clock

structure Ctx where
  B : Nat
  N : Nat
  w0 : World
  Mu : Nat → Bool
  fz0 : Fz
  ρ0 : Ren := noRen

def TipOK (C : Ctx) (fz : Fz) (ρ : Ren) (w : World) (e : TypeId) (wd : Nat) (rows : List (List AV)) (v : Value) : Prop :=
  (v = .slice none 0 0 ∧ rows = []) ∨ ∃ g cap cur, v = .slice (some ⟨g, 0, none⟩) rows.length cap ∧ (C.B ≤ g ∨ C.Mu g = true) ∧ w.heap[g]? = some (.cells cur e (0, 0)) ∧
    rows.length ≤ cap ∧ cap ≤ maxLen ∧ cur.size = cap * wd ∧ (∀ o, rows.length * wd ≤ o → fz.cell g o = none) ∧ fz.obj g = none ∧ (∀ b, ρ b ≠ some g)

structure SimE (C : Ctx) (V : View) (a : Act) (w : World) (fz : Fz) (ρ : Ren) : Prop where
  df : a.defers = []
  sz : a.tmps.size = C.N
  tm : ∀ t, Holds fz (V.tm t) ρ (a.tmps.getD t undef)
  hp : ∀ b k, V.hp b = some k → ∃ c, ρ b = some c ∧ (C.B ≤ c ∨ C.Mu c = true) ∧ BlkAt fz ρ w c k ∧ (∀ o, fz.cell c o = none) ∧ fz.obj c = none
  dom : ∀ b, V.hp b = none → ρ b = none
  inj : ∀ b b' c, ρ b = some c → ρ b' = some c → b = b'
  fcell : ∀ c o v, fz.cell c o = some v → w.cell? ⟨c, o, none⟩ = some v
  fobj : ∀ c o, fz.obj c = some o → w.heap[c]? = some o
  f0 : C.fz0.le fz
  f1 : ∀ c, c < C.B → C.Mu c = false → (∀ o v, fz.cell c o = some v → C.fz0.cell c o = some v) ∧ ∀ o, fz.obj c = some o → C.fz0.obj c = some o
  tips : ∀ p e wd rows, V.at p = .own e wd rows → TipOK C fz ρ w e wd rows (conc a w ρ p)
  tipinj : ∀ p q, isOwn (V.at p) = true → isOwn (V.at q) = true → ∀ g g' n n' c c', conc a w ρ p = .slice (some g) n c → conc a w ρ q = .slice (some g') n' c' → g.block = g'.block → p = q
  os : w.os = C.w0.os
  tape : w.tape = C.w0.tape
  output : w.output = C.w0.output
  bsz : C.B ≤ w.heap.size
  old : ∀ c, c < C.B → C.Mu c = false → w.heap[c]? = C.w0.heap[c]?
  mub : ∀ c, C.Mu c = true → c < C.B
  keep : ∀ b c c', C.ρ0 b = some c → ρ b = some c' → c' = c
  hi : ∀ b, b < C.N ∨ b < 1000 ∨ 2000 ≤ b → C.ρ0 b = none
  muρ : ∀ b c, C.ρ0 b = some c → C.Mu c = true

def Sim (C : Ctx) (V : View) (a : Act) (w : World) : Prop := ∃ fz ρ, SimE C V a w fz ρ

def View.put (V : View) (d : Nat) (x : AV) : View := { V with tm := fun t => if t = d then x else V.tm t }
def View.putO (V : View) (d : Option Nat) (x : AV) : View := match d with | some d => V.put d x | none => V
def View.setB (V : View) (b : Nat) (k : Blk) : View := { V with hp := fun c => if c = b then some k else V.hp c }
def View.demT (V : View) (t : Nat) : View := { V with tm := fun u => if u = t then dem (V.tm u) else V.tm u }
def Blk.set : Blk → Nat → AV → Blk
  | .cells e cs, j, x => .cells e (cs.set j x)
  | .map ks vs, j, x => .map ks (vs.set j x)
  | .mapd ks vs, j, x => .mapd ks (vs.set j x)
def View.setAt (V : View) : Pl → AV → View
  | .t i, x => V.put i x
  | .c b j, x => match V.hp b with | some k => V.setB b (k.set j x) | none => V

variable {C : Ctx} {V : View} {a : Act} {w : World} {fz : Fz} {ρ : Ren}

theorem getD_put (a : Act) (d t : Nat) (v : Value) (h : d < a.tmps.size) : (a.put (some d) v).tmps.getD t undef = if t = d then v else a.tmps.getD t undef := by
  simp only [Act.put, Array.getD_eq_getD_getElem?, Array.getElem?_setIfInBounds]
  by_cases e : d = t
  · subst e; simp [h]
  · have e' : ¬ t = d := fun h => e h.symm
    simp [e, e']

theorem conc_put_c (d : Nat) (v : Value) (b j : Nat) : conc (a.put (some d) v) w ρ (.c b j) = conc a w ρ (.c b j) := rfl
theorem conc_put_t (d t : Nat) (v : Value) (h : d < a.tmps.size) : conc (a.put (some d) v) w ρ (.t t) = if t = d then v else conc a w ρ (.t t) := getD_put a d t v h

/-- a value that owns nothing comes into a slot -/
theorem SimE.put (h : SimE C V a w fz ρ) {d : Nat} (hd : d < C.N) {x : AV} {v : Value} (hx : Holds fz x ρ v) (ho : isOwn x = false) : SimE C (V.put d x) (a.put (some d) v) w fz ρ := by
  have hd' : d < a.tmps.size := by rw [h.sz]; exact hd
  have key : ∀ p, isOwn ((V.put d x).at p) = true → p ≠ .t d ∧ (V.put d x).at p = V.at p ∧ conc (a.put (some d) v) w ρ p = conc a w ρ p := by
    intro p hp
    cases p with
    | t i =>
      by_cases e : i = d
      · subst e; simp [View.at, View.put, ho] at hp
      · exact ⟨fun h => e (by cases h; rfl), by simp [View.at, View.put, e], by rw [conc_put_t _ _ _ hd', if_neg e]⟩
    | c b j => exact ⟨fun h => (by cases h), rfl, rfl⟩
  refine { h with sz := by simp [Act.put, h.sz], tm := fun t => ?_, tips := fun p e wd rows hp => ?_, tipinj := fun p q hp hq g g' n n' c c' hgp hgq hg => ?_ }
  · rw [getD_put a d t v hd']
    simp only [View.put]
    split
    · exact hx
    · exact h.tm t
  · obtain ⟨_, h1, h2⟩ := key p (by rw [hp]; rfl)
    rw [h2]; exact h.tips p e wd rows (by rw [← h1]; exact hp)
  · obtain ⟨_, h1, h2⟩ := key p hp
    obtain ⟨_, h3, h4⟩ := key q hq
    exact h.tipinj p q (by rw [← h1]; exact hp) (by rw [← h3]; exact hq) g g' n n' c c' (by rw [← h2]; exact hgp) (by rw [← h4]; exact hgq) hg

theorem Act.put_none (a : Act) (v : Value) : a.put none v = a := rfl
theorem SimE.putO (h : SimE C V a w fz ρ) {d : Option Nat} (hd : ∀ i, d = some i → i < C.N) {x : AV} {v : Value} (hx : Holds fz x ρ v) (ho : isOwn x = false) : SimE C (V.putO d x) (a.put d v) w fz ρ := by
  cases d with
  | none => exact h
  | some d => exact h.put (hd d rfl) hx ho

def Blk.len : Blk → Nat
  | .cells _ cs => cs.length
  | .map _ vs => vs.length
  | .mapd _ vs => vs.length
def View.hasPl (V : View) : Pl → Prop
  | .t _ => True
  | .c b j => ∃ k, V.hp b = some k ∧ j < k.len

theorem Blk.at_set (k : Blk) (j i : Nat) (x : AV) (h : j < k.len) : (k.set j x).at i = if i = j then x else k.at i := by
  cases k with
  | cells e cs =>
    simp only [Blk.len] at h
    simp only [Blk.set, Blk.at, List.getD_eq_getElem?_getD, List.getElem?_set]
    by_cases e2 : i = j
    · subst e2; simp [h]
    · have : ¬ j = i := fun h => e2 h.symm
      simp [e2, this]
  | map ks vs =>
    simp only [Blk.len] at h
    simp only [Blk.set, Blk.at, List.getD_eq_getElem?_getD, List.getElem?_set]
    by_cases e2 : i = j
    · subst e2; simp [h]
    · have : ¬ j = i := fun h => e2 h.symm
      simp [e2, this]
  | mapd ks vs =>
    simp only [Blk.len] at h
    simp only [Blk.set, Blk.at, List.getD_eq_getElem?_getD, List.getElem?_set]
    by_cases e2 : i = j
    · subst e2; simp [h]
    · have : ¬ j = i := fun h => e2 h.symm
      simp [e2, this]

theorem View.at_setAt (V : View) (p q : Pl) (x : AV) (hp : V.hasPl p) : (V.setAt p x).at q = if q = p then x else V.at q := by
  cases p with
  | t i =>
    cases q with
    | t j => simp only [View.setAt, View.at, View.put, Pl.t.injEq]
    | c b j => simp [View.setAt, View.at, View.put]
  | c b j =>
    obtain ⟨k, hk, hj⟩ := hp
    cases q with
    | t i => simp [View.setAt, hk, View.at, View.setB]
    | c b' j' =>
      simp only [View.setAt, hk, View.at, View.setB, Pl.c.injEq]
      by_cases e : b' = b
      · subst e
        simp [hk, Blk.at_set k j j' x hj]
      · simp [e]
theorem View.hasPl_of_own {V : View} {p : Pl} (h : isOwn (V.at p) = true) : V.hasPl p := by
  cases p with
  | t i => trivial
  | c b j =>
    simp only [View.at] at h
    cases hk : V.hp b with
    | none => simp [hk, isOwn] at h
    | some k =>
      refine ⟨k, hk, ?_⟩
      rw [hk] at h
      cases k with
      | cells e cs =>
        simp only [Blk.len]
        refine Nat.lt_of_not_le fun hge => ?_
        simp [Blk.at, List.getElem?_eq_none hge, isOwn] at h
      | map ks vs =>
        simp only [Blk.len]
        refine Nat.lt_of_not_le fun hge => ?_
        simp [Blk.at, List.getElem?_eq_none hge, isOwn] at h
      | mapd ks vs =>
        simp only [Blk.len]
        refine Nat.lt_of_not_le fun hge => ?_
        simp [Blk.at, List.getElem?_eq_none hge, isOwn] at h
end Go.Aw
