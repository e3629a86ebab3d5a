/- Abstract values: what a value of the program reads as, as a tree; slices that may still grow are marked as owned. -/
import Derived.Tactics
import Derived.Laws.AppendOwn
import Derived.Orders
set_option linter.unusedSimpArgs false
set_option linter.unusedVariables false
set_option linter.unusedSectionVars false
namespace Go.Aw

/-- Abstract values. -/
inductive AV where
 | unk
 | val (v : Value)
 | agg (l : List AV)
 | tup (l : List AV)
 | rd (w : Nat) (rows : List (List AV))
 | fx (w : Nat) (rows : List (List AV))
 | own (e : TypeId) (w : Nat) (rows : List (List AV))
 | elt (w : Nat) (rows : List (List AV)) (i k : Nat)
 | ptr (b off : Nat)
 | vec (b w off n cap : Nat)
 | mapr (b : Nat)
 | rmap (ks : List Value) (vs : List AV)
 | kset (ks : List Value) (u : Value → Value)
 | clo (fn : Fn) (caps : List AV)
 | ifc (t : TypeId) (x : AV)
 deriving Inhabited

/-- What will never be written again: cells, and maps. -/
structure Fz where
 cell : Nat → Nat → Option Value
 obj : Nat → Option Obj

abbrev Ren := Nat → Option Nat
def noRen : Ren := fun _ => none

/-- a function value: with what it has caught; or (methodOf f) a method's, with its receiver -/
def cloV (fn : Fn) (cs : Array Value) : Value := match fn with
 | .methodOf f _ => .func (.func f) cs #[]
 | fn => .func fn #[] cs
theorem cloV_one (fn : Fn) (cs : Array Value) : (cloV fn cs).oneCell' = true := by cases fn <;> rfl
mutual
def Holds (fz : Fz) : AV → Ren → Value → Prop
 | .unk, _, _ => True
 | .val u, _, v => v = u
 | .agg l, ρ, v => ∃ cs : Array Value, v = .agg cs ∧ HoldsL fz l ρ cs.toList
 | .tup l, ρ, v => ∃ cs : Array Value, v = .tuple cs ∧ HoldsL fz l ρ cs.toList
 | .rd w rows, _, v => ∃ a c, v = .slice a rows.length c ∧ rows.length ≤ c ∧
   (rows = [] ∨ ∃ b o, a = some ⟨b, o, none⟩ ∧ HoldsR fz rows w b o)
 | .fx w rows, _, v => ∃ a, v = .slice a rows.length rows.length ∧
   (rows = [] ∨ ∃ b o, a = some ⟨b, o, none⟩ ∧ HoldsR fz rows w b o)
 | .own _ w rows, _, v => ∃ a c, v = .slice a rows.length c ∧ rows.length ≤ c ∧
   (rows = [] ∨ ∃ b o, a = some ⟨b, o, none⟩ ∧ HoldsR fz rows w b o)
 | .elt w rows i k, _, v => ∃ b o, v = .pointer (some ⟨b, o + (i * w + k), none⟩) ∧ HoldsR fz rows w b o
 | .ptr b off, ρ, v => ∃ c, ρ b = some c ∧ v = .pointer (some ⟨c, off, none⟩)
 | .vec b _ off n cap, ρ, v => ∃ c, ρ b = some c ∧ v = .slice (some ⟨c, off, none⟩) n cap
 | .mapr b, ρ, v => ∃ c, ρ b = some c ∧ v = .map (some c)
 | .rmap ks vs, _, v => (v = .map none ∧ ks = [] ∧ vs = []) ∨ ∃ c es clock, v = .map (some c) ∧ fz.obj c = some (.map es clock) ∧
   es.toList.map (·.key) = ks ∧ HoldsL fz vs noRen (es.toList.map (·.val))
 | .kset ks u, _, v => (v = .map none ∧ ks = []) ∨ ∃ c es clock, v = .map (some c) ∧ fz.obj c = some (.map es clock) ∧ (∀ e ∈ es.toList, e.val = u e.key ∧ e.key ∈ ks) ∧ ∀ k ∈ ks, ∃ e ∈ es.toList, e.key = k
 | .clo fn caps, ρ, v => ∃ cs : Array Value, v = cloV fn cs ∧ HoldsL fz caps ρ cs.toList
 | .ifc t x, ρ, v => ∃ u, v = .iface t u ∧ Holds fz x ρ u
def HoldsL (fz : Fz) : List AV → Ren → List Value → Prop
 | [], _, vs => vs = []
 | x :: xs, ρ, vs => ∃ v r, vs = v :: r ∧ Holds fz x ρ v ∧ HoldsL fz xs ρ r
def HoldsC (fz : Fz) : List AV → Nat → Nat → Prop
 | [], _, _ => True
 | x :: xs, b, o => (∃ u, fz.cell b o = some u ∧ u.oneCell' = true ∧ Holds fz x noRen u) ∧ HoldsC fz xs b (o + 1)
def HoldsR (fz : Fz) : List (List AV) → Nat → Nat → Nat → Prop
 | [], _, _, _ => True
 | r :: rs, w, b, o => r.length = w ∧ HoldsC fz r b o ∧ HoldsR fz rs w b (o + w)
end

def Fz.le (f g : Fz) : Prop := (∀ b o v, f.cell b o = some v → g.cell b o = some v) ∧ (∀ b o, f.obj b = some o → g.obj b = some o)
theorem Fz.le_refl (f : Fz) : f.le f := ⟨fun _ _ _ h => h, fun _ _ h => h⟩
theorem Fz.le_trans {f g h : Fz} (a : f.le g) (b : g.le h) : f.le h := ⟨fun x o v e => b.1 x o v (a.1 x o v e), fun x o e => b.2 x o (a.2 x o e)⟩
def Ren.le (f g : Ren) : Prop := ∀ b c, f b = some c → g b = some c
theorem Ren.le_refl (f : Ren) : Ren.le f f := fun _ _ h => h
theorem Ren.le_trans {f g h : Ren} (a : Ren.le f g) (b : Ren.le g h) : Ren.le f h := fun x c e => b x c (a x c e)
theorem noRen_le (f : Ren) : Ren.le noRen f := fun _ _ h => by cases h

mutual
theorem Holds.mono {fz fz' : Fz} (hf : fz.le fz') : ∀ (x : AV) (ρ ρ' : Ren) (v : Value), Ren.le ρ ρ' → Holds fz x ρ v → Holds fz' x ρ' v
 | .unk, _, _, _, _, _ => by simp only [Holds]
 | .val u, _, _, _, _, h => by simpa only [Holds] using h
 | .agg l, ρ, ρ', v, hr, h => by
  simp only [Holds] at h ⊢; obtain ⟨cs, e, h⟩ := h; exact ⟨cs, e, HoldsL.mono hf l ρ ρ' _ hr h⟩
 | .tup l, ρ, ρ', v, hr, h => by
  simp only [Holds] at h ⊢; obtain ⟨cs, e, h⟩ := h; exact ⟨cs, e, HoldsL.mono hf l ρ ρ' _ hr h⟩
 | .rd w rows, ρ, ρ', v, hr, h => by
  simp only [Holds] at h ⊢; obtain ⟨a, c, e, l, h⟩ := h
  exact ⟨a, c, e, l, h.imp id fun ⟨b, o, e, h⟩ => ⟨b, o, e, HoldsR.mono hf rows w b o h⟩⟩
 | .fx w rows, ρ, ρ', v, hr, h => by
  simp only [Holds] at h ⊢; obtain ⟨a, e, h⟩ := h
  exact ⟨a, e, h.imp id fun ⟨b, o, e, h⟩ => ⟨b, o, e, HoldsR.mono hf rows w b o h⟩⟩
 | .own _ w rows, ρ, ρ', v, hr, h => by
  simp only [Holds] at h ⊢; obtain ⟨a, c, e, l, h⟩ := h
  exact ⟨a, c, e, l, h.imp id fun ⟨b, o, e, h⟩ => ⟨b, o, e, HoldsR.mono hf rows w b o h⟩⟩
 | .elt w rows i k, ρ, ρ', v, hr, h => by
  simp only [Holds] at h ⊢; obtain ⟨b, o, e, h⟩ := h
  exact ⟨b, o, e, HoldsR.mono hf rows w b o h⟩
 | .ptr b off, ρ, ρ', v, hr, h => by
  simp only [Holds] at h ⊢; obtain ⟨c, e, h⟩ := h; exact ⟨c, hr _ _ e, h⟩
 | .vec b _ off n cap, ρ, ρ', v, hr, h => by
  simp only [Holds] at h ⊢; obtain ⟨c, e, h⟩ := h; exact ⟨c, hr _ _ e, h⟩
 | .mapr b, ρ, ρ', v, hr, h => by
  simp only [Holds] at h ⊢; obtain ⟨c, e, h⟩ := h; exact ⟨c, hr _ _ e, h⟩
 | .rmap ks vs, ρ, ρ', v, hr, h => by
  simp only [Holds] at h ⊢
  exact h.imp id fun ⟨c, es, clock, e, ho, hk, hv⟩ => ⟨c, es, clock, e, hf.2 _ _ ho, hk, HoldsL.mono hf vs noRen noRen _ (Ren.le_refl _) hv⟩
 | .kset ks u, ρ, ρ', v, hr, h => by
  simp only [Holds] at h ⊢
  exact h.imp id fun ⟨c, es, clock, e, ho, hk⟩ => ⟨c, es, clock, e, hf.2 _ _ ho, hk⟩
 | .clo fn caps, ρ, ρ', v, hr, h => by
  simp only [Holds] at h ⊢; obtain ⟨cs, e, h⟩ := h; exact ⟨cs, e, HoldsL.mono hf caps ρ ρ' _ hr h⟩
 | .ifc t x, ρ, ρ', v, hr, h => by
  simp only [Holds] at h ⊢; obtain ⟨u, e, h⟩ := h; exact ⟨u, e, Holds.mono hf x ρ ρ' _ hr h⟩
theorem HoldsL.mono {fz fz' : Fz} (hf : fz.le fz') : ∀ (l : List AV) (ρ ρ' : Ren) (vs : List Value), Ren.le ρ ρ' → HoldsL fz l ρ vs → HoldsL fz' l ρ' vs
 | [], _, _, _, _, h => by simpa only [HoldsL] using h
 | x :: xs, ρ, ρ', vs, hr, h => by
  simp only [HoldsL] at h ⊢; obtain ⟨v, r, e, h1, h2⟩ := h
  exact ⟨v, r, e, Holds.mono hf x ρ ρ' v hr h1, HoldsL.mono hf xs ρ ρ' r hr h2⟩
theorem HoldsC.mono {fz fz' : Fz} (hf : fz.le fz') : ∀ (l : List AV) (b o : Nat), HoldsC fz l b o → HoldsC fz' l b o
 | [], _, _, _ => by simp only [HoldsC]
 | x :: xs, b, o, h => by
  simp only [HoldsC] at h ⊢; obtain ⟨⟨u, e, o1, h1⟩, h2⟩ := h
  exact ⟨⟨u, hf.1 _ _ _ e, o1, Holds.mono hf x noRen noRen u (Ren.le_refl _) h1⟩, HoldsC.mono hf xs b (o + 1) h2⟩
theorem HoldsR.mono {fz fz' : Fz} (hf : fz.le fz') : ∀ (l : List (List AV)) (w b o : Nat), HoldsR fz l w b o → HoldsR fz' l w b o
 | [], _, _, _, _ => by simp only [HoldsR]
 | x :: xs, w, b, o, h => by
  simp only [HoldsR] at h ⊢; obtain ⟨e, h1, h2⟩ := h
  exact ⟨e, HoldsC.mono hf x b o h1, HoldsR.mono hf xs w b (o + w) h2⟩
end

/-- An owned slice read as one that is not. -/
def dem : AV → AV
 | .own _ w rows => .rd w rows
 | x => x
theorem Holds.dem {fz : Fz} {x : AV} {ρ : Ren} {v : Value} (h : Holds fz x ρ v) : Holds fz (dem x) ρ v := by
 cases x <;> first | exact h | simpa only [Aw.dem, Holds] using h
def isOwn : AV → Bool
 | .own .. => true
 | _ => false
theorem isOwn_dem (x : AV) : isOwn (dem x) = false := by cases x <;> rfl

theorem HoldsL.len {fz : Fz} : ∀ (l : List AV) (ρ : Ren) (vs : List Value), HoldsL fz l ρ vs → vs.length = l.length
 | [], _, _, h => by simp only [HoldsL] at h; simp [h]
 | x :: xs, ρ, vs, h => by
  simp only [HoldsL] at h; obtain ⟨v, r, rfl, _, h⟩ := h
  simp [HoldsL.len xs ρ r h]
theorem HoldsL.get {fz : Fz} : ∀ (l : List AV) (ρ : Ren) (vs : List Value), HoldsL fz l ρ vs → ∀ (i : Nat) (x : AV), l[i]? = some x → ∃ v, vs[i]? = some v ∧ Holds fz x ρ v
 | [], _, _, _, i, x, e => by simp at e
 | y :: ys, ρ, vs, h, i, x, e => by
  simp only [HoldsL] at h; obtain ⟨v, r, rfl, h1, h2⟩ := h
  cases i with
  | zero => simp at e; subst e; exact ⟨v, by simp, h1⟩
  | succ i => simp at e; obtain ⟨u, hu, hh⟩ := HoldsL.get ys ρ r h2 i x e; exact ⟨u, by simpa using hu, hh⟩
theorem HoldsL.of_get {fz : Fz} : ∀ (l : List AV) (ρ : Ren) (vs : List Value), vs.length = l.length → (∀ (i : Nat) (x : AV) (v : Value), l[i]? = some x → vs[i]? = some v → Holds fz x ρ v) → HoldsL fz l ρ vs
 | [], _, vs, e, _ => by simp only [HoldsL]; exact List.eq_nil_of_length_eq_zero (by simpa using e)
 | y :: ys, ρ, [], e, _ => by simp at e
 | y :: ys, ρ, v :: vs, e, h => by
  simp only [HoldsL]
  exact ⟨v, vs, rfl, h 0 y v (by simp) (by simp), HoldsL.of_get ys ρ vs (by simpa using e) fun i x u hx hu => h (i + 1) x u (by simpa using hx) (by simpa using hu)⟩
theorem HoldsL.set {fz : Fz} {l : List AV} {ρ : Ren} {vs : List Value} (h : HoldsL fz l ρ vs) (i : Nat) {x : AV} {v : Value} (hx : Holds fz x ρ v) :
  HoldsL fz (l.set i x) ρ (vs.set i v) := by
 have hl := h.len
 refine HoldsL.of_get _ _ _ (by simp [hl]) fun j y u hy hu => ?_
 rw [List.getElem?_set] at hy hu
 by_cases hij : i = j
 ·subst hij
  simp only [if_true] at hy hu
  split at hy
  ·split at hu
   ·cases hy; cases hu; exact hx
   ·cases hu
  ·cases hy
 ·simp only [hij, if_false] at hy hu
  obtain ⟨u', hu', hh⟩ := h.get _ _ _ j y hy
  rw [hu] at hu'; cases hu'; exact hh
theorem HoldsL.append {fz : Fz} {l l' : List AV} {ρ : Ren} {vs vs' : List Value} (h : HoldsL fz l ρ vs) (h' : HoldsL fz l' ρ vs') : HoldsL fz (l ++ l') ρ (vs ++ vs') := by
 induction l generalizing vs with
 | nil => simp only [HoldsL] at h; subst h; simpa using h'
 | cons x xs ih =>
  simp only [HoldsL] at h; obtain ⟨v, r, rfl, h1, h2⟩ := h
  simp only [List.cons_append, HoldsL]; exact ⟨v, r ++ vs', rfl, h1, ih h2⟩
theorem HoldsL.take {fz : Fz} {l : List AV} {ρ : Ren} {vs : List Value} (h : HoldsL fz l ρ vs) (n : Nat) : HoldsL fz (l.take n) ρ (vs.take n) := by
 induction l generalizing vs n with
 | nil => simp only [HoldsL] at h; subst h; simp [HoldsL]
 | cons x xs ih =>
  simp only [HoldsL] at h; obtain ⟨v, r, rfl, h1, h2⟩ := h
  cases n with
  | zero => simp [HoldsL]
  | succ n => simp only [List.take_succ_cons, HoldsL]; exact ⟨v, r.take n, rfl, h1, ih h2 n⟩
theorem HoldsL.drop {fz : Fz} {l : List AV} {ρ : Ren} {vs : List Value} (h : HoldsL fz l ρ vs) (n : Nat) : HoldsL fz (l.drop n) ρ (vs.drop n) := by
 induction l generalizing vs n with
 | nil => simp only [HoldsL] at h; subst h; simp [HoldsL]
 | cons x xs ih =>
  simp only [HoldsL] at h; obtain ⟨v, r, rfl, h1, h2⟩ := h
  cases n with
  | zero => simp only [List.drop_zero, HoldsL]; exact ⟨v, r, rfl, h1, h2⟩
  | succ n => simp only [List.drop_succ_cons]; exact ih h2 n
theorem HoldsL.dem {fz : Fz} {l : List AV} {ρ : Ren} {vs : List Value} (h : HoldsL fz l ρ vs) : HoldsL fz (l.map Aw.dem) ρ vs := by
 induction l generalizing vs with
 | nil => simpa only [List.map_nil, HoldsL] using h
 | cons x xs ih =>
  simp only [HoldsL] at h; obtain ⟨v, r, rfl, h1, h2⟩ := h
  simp only [List.map_cons, HoldsL]; exact ⟨v, r, rfl, h1.dem, ih h2⟩
theorem HoldsL.vals {fz : Fz} {ρ : Ren} (vs : List Value) : HoldsL fz (vs.map AV.val) ρ vs := by
 induction vs with
 | nil => simp [HoldsL]
 | cons v vs ih => simp only [List.map_cons, HoldsL]; exact ⟨v, vs, rfl, by simp only [Holds], ih⟩

/-- the cells of a frozen row -/
theorem HoldsC.get {fz : Fz} : ∀ (l : List AV) (b o : Nat), HoldsC fz l b o → ∀ (i : Nat) (x : AV), l[i]? = some x → ∃ u, fz.cell b (o + i) = some u ∧ u.oneCell' = true ∧ Holds fz x noRen u
 | [], _, _, _, i, x, e => by simp at e
 | y :: ys, b, o, h, i, x, e => by
  simp only [HoldsC] at h
  cases i with
  | zero => simp at e; subst e; exact h.1
  | succ i =>
   simp at e
   obtain ⟨u, hu, hh⟩ := HoldsC.get ys b (o + 1) h.2 i x e
   exact ⟨u, by rw [show o + (i + 1) = o + 1 + i from by omega]; exact hu, hh⟩
theorem HoldsR.get {fz : Fz} : ∀ (rows : List (List AV)) (w b o : Nat), HoldsR fz rows w b o → ∀ (i : Nat) (r : List AV), rows[i]? = some r → r.length = w ∧ HoldsC fz r b (o + i * w)
 | [], _, _, _, _, i, x, e => by simp at e
 | y :: ys, w, b, o, h, i, r, e => by
  simp only [HoldsR] at h
  cases i with
  | zero => simp at e; subst e; simpa using ⟨h.1, h.2.1⟩
  | succ i =>
   simp at e
   obtain ⟨hl, hh⟩ := HoldsR.get ys w b (o + w) h.2.2 i r e
   exact ⟨hl, by rw [show o + (i + 1) * w = o + w + i * w from by rw [Nat.add_mul]; omega]; exact hh⟩
theorem HoldsR.append {fz : Fz} : ∀ (rows rows' : List (List AV)) (w b o : Nat), HoldsR fz rows w b o → HoldsR fz rows' w b (o + rows.length * w) → HoldsR fz (rows ++ rows') w b o
 | [], rows', w, b, o, _, h' => by simpa using h'
 | y :: ys, rows', w, b, o, h, h' => by
  simp only [HoldsR] at h
  simp only [List.cons_append, HoldsR]
  refine ⟨h.1, h.2.1, HoldsR.append ys rows' w b (o + w) h.2.2 ?_⟩
  rw [show o + w + ys.length * w = o + (y :: ys).length * w from by simp [Nat.add_mul]; omega]; exact h'
theorem HoldsR.take {fz : Fz} : ∀ (rows : List (List AV)) (n w b o : Nat), HoldsR fz rows w b o → HoldsR fz (rows.take n) w b o
 | [], n, w, b, o, _ => by simp [HoldsR]
 | y :: ys, 0, w, b, o, h => by simp [HoldsR]
 | y :: ys, n + 1, w, b, o, h => by
  simp only [HoldsR] at h
  simp only [List.take_succ_cons, HoldsR]; exact ⟨h.1, h.2.1, HoldsR.take ys n w b (o + w) h.2.2⟩
theorem HoldsR.drop {fz : Fz} : ∀ (rows : List (List AV)) (n w b o : Nat), HoldsR fz rows w b o → HoldsR fz (rows.drop n) w b (o + n * w)
 | [], n, w, b, o, _ => by simp [HoldsR]
 | y :: ys, 0, w, b, o, h => by simpa using h
 | y :: ys, n + 1, w, b, o, h => by
  simp only [HoldsR] at h
  simp only [List.drop_succ_cons]
  have := HoldsR.drop ys n w b (o + w) h.2.2
  rw [show o + (n + 1) * w = o + w + n * w from by rw [Nat.add_mul]; omega]; exact this
theorem HoldsR.width {fz : Fz} : ∀ (rows : List (List AV)) (w b o : Nat), HoldsR fz rows w b o → ∀ r ∈ rows, r.length = w := by
 intro rows w b o h r hr
 obtain ⟨i, hi⟩ := List.mem_iff_getElem?.1 hr
 exact (h.get _ _ _ _ i r hi).1
theorem HoldsC.of_get {fz : Fz} : ∀ (l : List AV) (b o : Nat), (∀ (i : Nat) (x : AV), l[i]? = some x → ∃ u, fz.cell b (o + i) = some u ∧ u.oneCell' = true ∧ Holds fz x noRen u) → HoldsC fz l b o
 | [], _, _, _ => by simp only [HoldsC]
 | y :: ys, b, o, h => by
  simp only [HoldsC]
  refine ⟨h 0 y (by simp), HoldsC.of_get ys b (o + 1) fun i x e => ?_⟩
  have := h (i + 1) x (by simpa using e)
  rwa [show o + (i + 1) = o + 1 + i from by omega] at this
theorem HoldsR.of_get {fz : Fz} : ∀ (rows : List (List AV)) (w b o : Nat), (∀ (i : Nat) (r : List AV), rows[i]? = some r → r.length = w ∧ HoldsC fz r b (o + i * w)) → HoldsR fz rows w b o
 | [], _, _, _, _ => by simp only [HoldsR]
 | y :: ys, w, b, o, h => by
  simp only [HoldsR]
  have h0 := h 0 y (by simp)
  refine ⟨h0.1, by simpa using h0.2, HoldsR.of_get ys w b (o + w) fun i r e => ?_⟩
  have := h (i + 1) r (by simpa using e)
  rwa [show o + (i + 1) * w = o + w + i * w from by rw [Nat.add_mul]; omega] at this

-- values that hang on no memory
mutual
def flat : AV → Bool
 | .unk => true
 | .val _ => true
 | .agg l => flatL l
 | .tup l => flatL l
 | .ifc _ x => flat x
 | _ => false
def flatL : List AV → Bool
 | [] => true
 | x :: xs => flat x && flatL xs
end
mutual
theorem Holds.flat {fz fz' : Fz} : ∀ (x : AV) (ρ ρ' : Ren) (v : Value), flat x = true → Holds fz x ρ v → Holds fz' x ρ' v
 | .unk, _, _, _, _, _ => by simp only [Holds]
 | .val u, _, _, _, _, h => by simpa only [Holds] using h
 | .agg l, ρ, ρ', v, hf, h => by
  simp only [Holds] at h ⊢; simp only [Aw.flat] at hf; obtain ⟨cs, e, h⟩ := h; exact ⟨cs, e, HoldsL.flat l ρ ρ' _ hf h⟩
 | .tup l, ρ, ρ', v, hf, h => by
  simp only [Holds] at h ⊢; simp only [Aw.flat] at hf; obtain ⟨cs, e, h⟩ := h; exact ⟨cs, e, HoldsL.flat l ρ ρ' _ hf h⟩
 | .ifc t x, ρ, ρ', v, hf, h => by
  simp only [Holds] at h ⊢; simp only [Aw.flat] at hf; obtain ⟨u, e, h⟩ := h; exact ⟨u, e, Holds.flat x ρ ρ' _ hf h⟩
 | .rd .., _, _, _, hf, _ | .fx .., _, _, _, hf, _ | .own .., _, _, _, hf, _ | .elt .., _, _, _, hf, _ | .ptr .., _, _, _, hf, _ | .vec .., _, _, _, hf, _
 | .mapr .., _, _, _, hf, _ | .rmap .., _, _, _, hf, _ | .kset .., _, _, _, hf, _ | .clo .., _, _, _, hf, _ => by simp [Aw.flat] at hf
theorem HoldsL.flat {fz fz' : Fz} : ∀ (l : List AV) (ρ ρ' : Ren) (vs : List Value), flatL l = true → HoldsL fz l ρ vs → HoldsL fz' l ρ' vs
 | [], _, _, _, _, h => by simpa only [HoldsL] using h
 | x :: xs, ρ, ρ', vs, hf, h => by
  simp only [HoldsL] at h ⊢; simp only [flatL, Bool.and_eq_true] at hf; obtain ⟨v, r, e, h1, h2⟩ := h
  exact ⟨v, r, e, Holds.flat x ρ ρ' v hf.1 h1, HoldsL.flat xs ρ ρ' r hf.2 h2⟩
end
end Go.Aw
