/- Thawing: a slice of the call's own, grown by append, becomes memory that is written by index. -/
import Derived.Test.YtmikljncdgfjpaaGreatDoorAwZe
set_option linter.unusedSimpArgs false
set_option linter.unusedVariables false
namespace Go.Aw
variable {P : Program} {C : Ctx} {V : View} {a : Act} {w : World} {fz : Fz} {ρ : Ren} {o : Oper} {Q : Exit → Act → World → Prop}

mutual
/-- no frozen row of x has only such cells as q leaves out -/
def shp (q : Value → Bool) : AV → Bool
  | .agg l => shpL q l
  | .tup l => shpL q l
  | .rd _ rows => shpR q rows
  | .fx _ rows => shpR q rows
  | .own _ _ rows => shpR q rows
  | .elt _ rows _ _ => shpR q rows
  | .rmap _ vs => shpL q vs
  | .clo _ caps => shpL q caps
  | .ifc _ x => shp q x
  | _ => true
def shpL (q : Value → Bool) : List AV → Bool
  | [] => true
  | x :: xs => shp q x && shpL q xs
def shpR (q : Value → Bool) : List (List AV) → Bool
  | [] => true
  | r :: rs => (r.any (fun x => match x with | .val v => q v | _ => false) && shpL q r) && shpR q rs
end

def Fz.away (fz : Fz) (g : Nat) : Fz := { fz with cell := fun b o => if b = g then none else fz.cell b o }
theorem Fz.away_le (fz : Fz) (g : Nat) : (fz.away g).le fz := by
  refine ⟨fun b o v h => ?_, fun b o h => h⟩
  simp only [Fz.away] at h
  split at h
  · cases h
  · exact h

mutual
theorem Holds.away {q : Value → Bool} {g : Nat} (hq : ∀ o v, fz.cell g o = some v → q v = false) : ∀ (x : AV) (ρ : Ren) (v : Value), shp q x = true → Holds fz x ρ v → Holds (fz.away g) x ρ v
  | .unk, _, _, _, _ => by simp only [Holds]
  | .val u, _, _, _, h => by simpa only [Holds] using h
  | .agg l, ρ, v, hs, h => by
    simp only [Holds] at h ⊢; simp only [shp] at hs; obtain ⟨cs, e, h⟩ := h; exact ⟨cs, e, HoldsL.away hq l ρ _ hs h⟩
  | .tup l, ρ, v, hs, h => by
    simp only [Holds] at h ⊢; simp only [shp] at hs; obtain ⟨cs, e, h⟩ := h; exact ⟨cs, e, HoldsL.away hq l ρ _ hs h⟩
  | .rd w rows, ρ, v, hs, h => by
    simp only [Holds] at h ⊢; simp only [shp] at hs; obtain ⟨a, c, e, l, h⟩ := h
    exact ⟨a, c, e, l, h.imp id fun ⟨b, o, e, h⟩ => ⟨b, o, e, HoldsR.away hq rows w b o hs h⟩⟩
  | .fx w rows, ρ, v, hs, h => by
    simp only [Holds] at h ⊢; simp only [shp] at hs; obtain ⟨a, e, h⟩ := h
    exact ⟨a, e, h.imp id fun ⟨b, o, e, h⟩ => ⟨b, o, e, HoldsR.away hq rows w b o hs h⟩⟩
  | .own _ w rows, ρ, v, hs, h => by
    simp only [Holds] at h ⊢; simp only [shp] at hs; obtain ⟨a, c, e, l, h⟩ := h
    exact ⟨a, c, e, l, h.imp id fun ⟨b, o, e, h⟩ => ⟨b, o, e, HoldsR.away hq rows w b o hs h⟩⟩
  | .elt w rows i k, ρ, v, hs, h => by
    simp only [Holds] at h ⊢; simp only [shp] at hs; obtain ⟨b, o, e, h⟩ := h
    exact ⟨b, o, e, HoldsR.away hq rows w b o hs h⟩
  | .ptr b off, ρ, v, _, h => by simpa only [Holds] using h
  | .vec b _ off n cap, ρ, v, _, h => by simpa only [Holds] using h
  | .mapr b, ρ, v, _, h => by simpa only [Holds] using h
  | .rmap ks vs, ρ, v, hs, h => by
    simp only [Holds] at h ⊢; simp only [shp] at hs
    exact h.imp id fun ⟨c, es, clock, e, ho, hk, hv⟩ => ⟨c, es, clock, e, ho, hk, HoldsL.away hq vs noRen _ hs hv⟩
  | .kset ks u, ρ, v, _, h => by simpa only [Holds, Fz.away] using h
  | .clo fn caps, ρ, v, hs, h => by
    simp only [Holds] at h ⊢; simp only [shp] at hs; obtain ⟨cs, e, h⟩ := h; exact ⟨cs, e, HoldsL.away hq caps ρ _ hs h⟩
  | .ifc t x, ρ, v, hs, h => by
    simp only [Holds] at h ⊢; simp only [shp] at hs; obtain ⟨u, e, h⟩ := h; exact ⟨u, e, Holds.away hq x ρ _ hs h⟩
theorem HoldsL.away {q : Value → Bool} {g : Nat} (hq : ∀ o v, fz.cell g o = some v → q v = false) : ∀ (l : List AV) (ρ : Ren) (vs : List Value), shpL q l = true → HoldsL fz l ρ vs → HoldsL (fz.away g) l ρ vs
  | [], _, _, _, h => by simpa only [HoldsL] using h
  | x :: xs, ρ, vs, hs, h => by
    simp only [HoldsL] at h ⊢; simp only [shpL, Bool.and_eq_true] at hs; obtain ⟨v, r, e, h1, h2⟩ := h
    exact ⟨v, r, e, Holds.away hq x ρ v hs.1 h1, HoldsL.away hq xs ρ r hs.2 h2⟩
theorem HoldsC.away {q : Value → Bool} {g : Nat} (hq : ∀ o v, fz.cell g o = some v → q v = false) : ∀ (l : List AV) (b o : Nat), b ≠ g → shpL q l = true → HoldsC fz l b o → HoldsC (fz.away g) l b o
  | [], _, _, _, _, _ => by simp only [HoldsC]
  | x :: xs, b, o, hb, hs, h => by
    simp only [HoldsC] at h ⊢; simp only [shpL, Bool.and_eq_true] at hs; obtain ⟨⟨u, e, o1, h1⟩, h2⟩ := h
    exact ⟨⟨u, by simp only [Fz.away, if_neg hb]; exact e, o1, Holds.away hq x noRen u hs.1 h1⟩, HoldsC.away hq xs b (o + 1) hb hs.2 h2⟩
theorem HoldsR.away {q : Value → Bool} {g : Nat} (hq : ∀ o v, fz.cell g o = some v → q v = false) : ∀ (l : List (List AV)) (w b o : Nat), shpR q l = true → HoldsR fz l w b o → HoldsR (fz.away g) l w b o
  | [], _, _, _, _, _ => by simp only [HoldsR]
  | r :: rs, w, b, o, hs, h => by
    simp only [HoldsR] at h ⊢; simp only [shpR, Bool.and_eq_true] at hs; obtain ⟨e, h1, h2⟩ := h
    have hb : b ≠ g := by
      rintro rfl
      obtain ⟨x, hx, hv⟩ := List.any_eq_true.1 hs.1.1
      obtain ⟨i, hi⟩ := List.mem_iff_getElem?.1 hx
      obtain ⟨u, hu, _, hh⟩ := h1.get _ _ _ i x hi
      cases x <;> simp at hv
      simp only [Holds] at hh
      subst hh
      rw [hq _ _ hu] at hv; cases hv
    exact ⟨e, HoldsC.away hq r b o hb hs.1.2 h1, HoldsR.away hq rs w b (o + w) hs.2 h2⟩
end

/-- a value at a place of its own: what it owns lies apart from all else that is owned -/
def shpT (q : Value → Bool) : AV → Bool
  | .own _ _ rows => rows.all (shpL q)
  | x => shp q x
def shpTL (q : Value → Bool) (l : List AV) : Bool := l.all (shpT q)
def shpB (q : Value → Bool) : Blk → Bool
  | .cells _ cs => shpTL q cs
  | .map _ vs => shpTL q vs
  | .mapd _ vs => shpTL q vs
theorem shpL_mem {q : Value → Bool} : ∀ {l : List AV}, shpL q l = true ↔ ∀ x ∈ l, shp q x = true
  | [] => by simp [shpL]
  | x :: xs => by simp [shpL, shpL_mem (l := xs)]
theorem HoldsR.awayNe {q : Value → Bool} {g : Nat} (hq : ∀ o v, fz.cell g o = some v → q v = false) : ∀ (l : List (List AV)) (w b o : Nat), b ≠ g → (∀ r ∈ l, shpL q r = true) → HoldsR fz l w b o → HoldsR (fz.away g) l w b o
  | [], _, _, _, _, _, _ => by simp only [HoldsR]
  | r :: rs, w, b, o, hb, hs, h => by
    simp only [HoldsR] at h ⊢; obtain ⟨e, h1, h2⟩ := h
    exact ⟨e, HoldsC.away hq r b o hb (hs r (by simp)) h1, HoldsR.awayNe hq rs w b (o + w) hb (fun r' hr' => hs r' (by simp [hr'])) h2⟩
theorem Holds.awayT {q : Value → Bool} {g : Nat} (hq : ∀ o v, fz.cell g o = some v → q v = false) {x : AV} {v : Value} (hs : shpT q x = true) (hno : isOwn x = true → ∀ ad n c, v = .slice (some ad) n c → ad.block ≠ g) (h : Holds fz x ρ v) : Holds (fz.away g) x ρ v := by
  cases x with
  | own e w rows =>
    simp only [Holds] at h ⊢
    obtain ⟨a, c, rfl, l, h⟩ := h
    simp only [shpT, List.all_eq_true] at hs
    refine ⟨a, c, rfl, l, h.imp id fun ⟨b, o, e, hh⟩ => ⟨b, o, e, ?_⟩⟩
    subst e
    exact HoldsR.awayNe hq rows w b o (hno rfl _ _ _ rfl) hs hh
  | _ => exact Holds.away hq _ _ _ (by simpa only [shpT] using hs) h
theorem shpTL_at {q : Value → Bool} {l : List AV} (h : shpTL q l = true) (j : Nat) : shpT q (l.getD j .unk) = true := by
  rw [List.getD_eq_getElem?_getD]
  cases hx : l[j]? with
  | none => rfl
  | some x => exact List.all_eq_true.1 h x (List.mem_of_getElem? hx)
theorem shpB_at {q : Value → Bool} {k : Blk} (h : shpB q k = true) (j : Nat) : shpT q (k.at j) = true := by
  cases k <;> exact shpTL_at h j
theorem BlkAt.away {g : Nat} {k : Blk} {c : Nat} (H : ∀ j, j < k.len → Holds fz (k.at j) ρ (cellAt w c j) → Holds (fz.away g) (k.at j) ρ (cellAt w c j)) (h : BlkAt fz ρ w c k) : BlkAt (fz.away g) ρ w c k := by
  cases k with
  | cells e cs =>
    obtain ⟨cur, h1, h2, h3⟩ := h
    refine ⟨cur, h1, HoldsL.of_get _ _ _ h2.len fun j x v hx hv => ?_, h3⟩
    have hj : j < cs.length := (List.getElem?_eq_some_iff.1 hx).1
    obtain ⟨v', hv', hh⟩ := h2.get _ _ _ j x hx
    rw [hv] at hv'; cases hv'
    have e1 : cellAt w c j = v := by simp [cellAt, h1, Array.getD_eq_getD_getElem?]; simp at hv; simp [hv]
    have e2 : (Blk.cells e cs).at j = x := by simp [Blk.at, hx]
    have := H j hj
    rw [e1, e2] at this; exact this hh
  | map ks vs =>
    obtain ⟨es, clock, h1, h2, h3, h4⟩ := h
    refine ⟨es, clock, h1, h2, HoldsL.of_get _ _ _ h3.len fun j x v hx hv => ?_, h4⟩
    have hj : j < vs.length := (List.getElem?_eq_some_iff.1 hx).1
    obtain ⟨v', hv', hh⟩ := h3.get _ _ _ j x hx
    rw [hv] at hv'; cases hv'
    have e1 : cellAt w c j = v := by simp [cellAt, h1]; simp at hv; obtain ⟨z, hz, rfl⟩ := hv; simp [hz]
    have e2 : (Blk.map ks vs).at j = x := by simp [Blk.at, hx]
    have := H j hj
    rw [e1, e2] at this; exact this hh
  | mapd ks vs =>
    obtain ⟨es, clock, h1, h2, h3, h4⟩ := h
    refine ⟨es, clock, h1, h2, HoldsL.of_get _ _ _ h3.len fun j x v hx hv => ?_, h4⟩
    have hj : j < vs.length := (List.getElem?_eq_some_iff.1 hx).1
    obtain ⟨v', hv', hh⟩ := h3.get _ _ _ j x hx
    rw [hv] at hv'; cases hv'
    have e1 : cellAt w c j = v := by simp [cellAt, h1]; simp at hv; obtain ⟨z, hz, rfl⟩ := hv; simp [hz]
    have e2 : (Blk.mapd ks vs).at j = x := by simp [Blk.at, hx]
    have := H j hj
    rw [e1, e2] at this; exact this hh

theorem HoldsR.flatten : ∀ (rows : List (List AV)) (wd b o : Nat), HoldsR fz rows wd b o → (∀ r ∈ rows, ∀ x ∈ r, ∃ u, x = .val u) →
    ∀ j (hj : j < rows.length * wd), ∃ u, rows.flatten[j]? = some (.val u) ∧ fz.cell b (o + j) = some u
  | [], _, _, _, _, _, j, hj => by simp at hj
  | r :: rs, wd, b, o, h, hv, j, hj => by
    simp only [HoldsR] at h
    obtain ⟨hl, hc, hr⟩ := h
    simp only [List.flatten_cons]
    by_cases hjw : j < wd
    · obtain ⟨x, hx⟩ : ∃ x, r[j]? = some x := ⟨_, List.getElem?_eq_getElem (by omega)⟩
      obtain ⟨u, rfl⟩ := hv r (by simp) x (List.mem_of_getElem? hx)
      obtain ⟨u', hu', _, hh⟩ := hc.get _ _ _ j _ hx
      simp only [Holds] at hh; subst hh
      exact ⟨u', by rw [List.getElem?_append_left (by omega)]; exact hx, hu'⟩
    · obtain ⟨u, h1, h2⟩ := HoldsR.flatten rs wd b (o + wd) hr (fun r' hr' => hv r' (by simp [hr'])) (j - wd) (by simp [Nat.add_mul] at hj; omega)
      refine ⟨u, by rw [List.getElem?_append_right (by omega), hl]; exact h1, ?_⟩
      rw [← h2]; congr 1; omega

/-- the thawed block -/
def thawed (e : TypeId) (wd cap : Nat) (rows : List (List AV)) : Blk := .cells e (rows.flatten ++ List.replicate ((cap - rows.length) * wd) .unk)


/-- another reading of a cell of the call's own block -/
theorem SimE.putAt (h : SimE C V a w fz ρ) {b j c : Nat} {k : Blk} (hk : V.hp b = some k) (hj : j < k.len) (hc : ρ b = some c) {y : AV} (hy : Holds fz y ρ (cellAt w c j)) (ho : isOwn y = false) : SimE C (V.setB b (k.set j y)) a w fz ρ := by
  have hat : ∀ p, (V.setB b (k.set j y)).at p = if p = .c b j then y else V.at p := by
    intro p
    have := View.at_setAt V (.c b j) p y ⟨k, hk, hj⟩
    simpa [View.setAt, hk] using this
  have hown : ∀ p, isOwn ((V.setB b (k.set j y)).at p) = true → V.at p = (V.setB b (k.set j y)).at p := by
    intro p hp
    rw [hat] at hp ⊢
    split
    · rename_i e; rw [if_pos e, ho] at hp; cases hp
    · rfl
  refine { h with hp := fun b' k' hk' => ?_, dom := fun b' hb' => ?_, tips := fun p e wd rows hp => ?_, tipinj := fun p q hp hq g g' n n' c c' hgp hgq hg => ?_ }
  · simp only [View.setB] at hk'
    by_cases e : b' = b
    · subst e
      simp only [if_true] at hk'; cases hk'
      obtain ⟨c', hc', h1, h2, h3⟩ := h.hp b' k hk
      rw [hc] at hc'; cases hc'
      refine ⟨c, hc, h1, ?_, h3⟩
      cases k with
      | cells e cs =>
        obtain ⟨cur, x1, x2, x3⟩ := h2
        refine ⟨cur, x1, x2.set_same j y fun x v hx hv => ?_, x3⟩
        have : cellAt w c j = v := by simp [cellAt, x1, Array.getD_eq_getD_getElem?]; simp at hv; simp [hv]
        rw [← this]; exact hy
      | map ks vs =>
        obtain ⟨es, clock, x1, x2, x3, x4⟩ := h2
        refine ⟨es, clock, x1, x2, x3.set_same j y fun x v hx hv => ?_, x4⟩
        have : cellAt w c j = v := by simp [cellAt, x1]; simp at hv; obtain ⟨z, hz, rfl⟩ := hv; simp [hz]
        rw [← this]; exact hy
      | mapd ks vs =>
        obtain ⟨es, clock, x1, x2, x3, x4⟩ := h2
        refine ⟨es, clock, x1, x2, x3.set_same j y fun x v hx hv => ?_, x4⟩
        have : cellAt w c j = v := by simp [cellAt, x1]; simp at hv; obtain ⟨z, hz, rfl⟩ := hv; simp [hz]
        rw [← this]; exact hy
    · simp only [e, if_false] at hk'; exact h.hp b' k' hk'
  · simp only [View.setB] at hb'
    by_cases e : b' = b
    · subst e; simp at hb'
    · simp only [e, if_false] at hb'; exact h.dom b' hb'
  · exact h.tips p e wd rows (by rw [hown p (by rw [hp]; rfl)]; exact hp)
  · exact h.tipinj p q (by rw [hown p hp]; exact hp) (by rw [hown q hq]; exact hq) g g' n n' c c' hgp hgq hg

theorem SimE.thaw (h : SimE C V a w fz ρ) (hM : ∀ c, C.Mu c = false) (hF : ∀ c o v, C.fz0.cell c o = some v → c < C.B) {q : Value → Bool} {b0 j0 : Nat} {k0 : Blk} (hk0 : V.hp b0 = some k0) {e : TypeId} {wd : Nat} {rows : List (List AV)} (hp : k0.at j0 = .own e wd rows)
    (hn : rows ≠ []) {d : Nat} (hd : d < C.N) (hd2 : V.hp d = none) (hrows : ∀ r ∈ rows, ∀ x ∈ r, ∃ u, x = .val u ∧ q u = false)
    (htm : ∀ t, shpT q (V.tm t) = true) (hhp : ∀ b k, b ≠ b0 → V.hp b = some k → shpB q k = true) (hk0s : shpB q (k0.set j0 .unk) = true) :
    ∃ cap, rows.length ≤ cap ∧ cap ≤ maxLen ∧ Sim C ((V.setB d (thawed e wd cap rows)).setB b0 (k0.set j0 (.vec d wd 0 rows.length cap))) a w := by
  have hat : V.at (.c b0 j0) = .own e wd rows := by simp only [View.at, hk0, Option.map_some, Option.getD_some]; exact hp
  have hpl := View.hasPl_of_own (V := V) (p := .c b0 j0) (by rw [hat]; rfl)
  obtain ⟨k0', hk0', hj0⟩ := hpl
  rw [hk0] at hk0'; cases hk0'
  obtain ⟨c0, hc0, hc0B, hb0, hc0f, hc0o⟩ := h.hp b0 k0 hk0
  have htip := h.tips _ _ _ _ hat
  have hcon : conc a w ρ (.c b0 j0) = cellAt w c0 j0 := by simp [conc, hc0]
  have hHp : Holds fz (.own e wd rows) ρ (cellAt w c0 j0) := by
    cases k0 with
    | cells e1 cs =>
      obtain ⟨cur, x1, x2, x3⟩ := hb0
      have hx : cs[j0]? = some (.own e wd rows) := by simp [Blk.len] at hj0; simp [Blk.at, hj0] at hp; simp [hj0, hp]
      obtain ⟨v, hv, hh⟩ := x2.get _ _ _ j0 _ hx
      have : cellAt w c0 j0 = v := by simp [cellAt, x1, Array.getD_eq_getD_getElem?]; simp at hv; simp [hv]
      rw [this]; exact hh
    | map ks vs =>
      obtain ⟨es, clock, x1, x2, x3, x4⟩ := hb0
      have hx : vs[j0]? = some (.own e wd rows) := by simp [Blk.len] at hj0; simp [Blk.at, hj0] at hp; simp [hj0, hp]
      obtain ⟨v, hv, hh⟩ := x3.get _ _ _ j0 _ hx
      have : cellAt w c0 j0 = v := by simp [cellAt, x1]; simp at hv; obtain ⟨z, hz, rfl⟩ := hv; simp [hz]
      rw [this]; exact hh
    | mapd ks vs =>
      obtain ⟨es, clock, x1, x2, x3, x4⟩ := hb0
      have hx : vs[j0]? = some (.own e wd rows) := by simp [Blk.len] at hj0; simp [Blk.at, hj0] at hp; simp [hj0, hp]
      obtain ⟨v, hv, hh⟩ := x3.get _ _ _ j0 _ hx
      have : cellAt w c0 j0 = v := by simp [cellAt, x1]; simp at hv; obtain ⟨z, hz, rfl⟩ := hv; simp [hz]
      rw [this]; exact hh
  rw [hcon] at htip
  rcases htip with ⟨_, hr⟩ | ⟨g, cap, cur, x1, x2, x3, x4, x5, x6, x7, x8, x9⟩
  · exact absurd hr hn
  have hgB : C.B ≤ g := by rcases x2 with x2 | x2; exact x2; rw [hM] at x2; cases x2
  have hR : HoldsR fz rows wd g 0 := by
    simp only [Holds] at hHp
    obtain ⟨ad, cap', hsv', _, hr⟩ := hHp
    rw [x1] at hsv'; cases hsv'
    rcases hr with rfl | ⟨b, oo, hr, hR⟩
    · exact absurd rfl hn
    · cases hr; exact hR
  have hfl := hR.flatten _ _ _ _ (fun r hr x hx => (hrows r hr x hx).imp fun u hu => hu.1)
  have hq : ∀ o v, fz.cell g o = some v → q v = false := by
    intro o v hv
    by_cases ho : rows.length * wd ≤ o
    · rw [x7 o ho] at hv; cases hv
    · obtain ⟨u, hu1, hu2⟩ := hfl o (by omega)
      rw [Nat.zero_add] at hu2
      rw [hv] at hu2; cases hu2
      obtain ⟨r, hr, hx⟩ := List.mem_flatten.1 (List.mem_of_getElem? hu1)
      obtain ⟨u', hu', hqu⟩ := hrows r hr _ hx
      cases hu'; exact hqu
  have hlenf : rows.flatten.length = rows.length * wd := by
    have hw := hR.width
    clear hfl hq hHp hat hp hn hrows x1 x4 x7 hR
    induction rows with
    | nil => simp
    | cons r rs ih =>
      rw [List.flatten_cons, List.length_append, ih (fun r' hr' => hw r' (by simp [hr'])), hw r (by simp), List.length_cons, Nat.add_mul]; omega
  refine ⟨cap, x4, x5, ?_⟩
  -- the cell is read as nothing at first
  have h1 := h.putAt hk0 hj0 hc0 (y := .unk) (by simp only [Holds]) rfl
  have hV1 : ∀ p, isOwn ((V.setB b0 (k0.set j0 .unk)).at p) = true → p ≠ .c b0 j0 ∧ V.at p = (V.setB b0 (k0.set j0 .unk)).at p := by
    intro p hp
    have hh := View.at_setAt V (.c b0 j0) p .unk ⟨k0, hk0, hj0⟩
    simp only [View.setAt, hk0] at hh
    rw [hh] at hp ⊢
    split
    · rename_i e; rw [if_pos e] at hp; cases hp
    · rename_i e; exact ⟨e, rfl⟩
  have hnog : ∀ p, isOwn ((V.setB b0 (k0.set j0 .unk)).at p) = true → ∀ ad n c, conc a w ρ p = .slice (some ad) n c → ad.block ≠ g := by
    intro p hp ad n c hc heq
    obtain ⟨p1, p2⟩ := hV1 p hp
    refine p1 (h.tipinj p (.c b0 j0) (by rw [p2]; exact hp) (by rw [hat]; rfl) ad ⟨g, 0, none⟩ n rows.length c cap hc (by rw [hcon]; exact x1) heq)
  have hrd : ρ d = none := h.dom d hd2
  have hle := Ren.le_set (c := g) hrd
  have hbd : b0 ≠ d := by rintro rfl; rw [hk0] at hd2; cases hd2
  have h2 : SimE C ((V.setB b0 (k0.set j0 .unk)).setB d (thawed e wd cap rows)) a w (fz.away g) (Ren.set ρ d g) := by
    have key : ∀ p, isOwn (((V.setB b0 (k0.set j0 .unk)).setB d (thawed e wd cap rows)).at p) = true → (V.setB b0 (k0.set j0 .unk)).at p = ((V.setB b0 (k0.set j0 .unk)).setB d (thawed e wd cap rows)).at p ∧ conc a w (Ren.set ρ d g) p = conc a w ρ p := by
      intro p hp
      cases p with
      | t i => exact ⟨rfl, rfl⟩
      | c b j =>
        by_cases e' : b = d
        · subst e'
          simp only [View.at, View.setB, if_true, Option.map_some, Option.getD_some, thawed, Blk.at, List.getD_eq_getElem?_getD] at hp
          cases hx : (rows.flatten ++ List.replicate ((cap - rows.length) * wd) AV.unk)[j]? with
          | none => rw [hx] at hp; cases hp
          | some x =>
            rw [hx] at hp
            rcases List.mem_append.1 (List.mem_of_getElem? hx) with hm | hm
            · obtain ⟨r, hr, hxr⟩ := List.mem_flatten.1 hm
              obtain ⟨u, rfl, _⟩ := hrows r hr x hxr
              cases hp
            · rw [List.eq_of_mem_replicate hm] at hp; cases hp
        · exact ⟨by simp [View.at, View.setB, e'], by simp [conc, Ren.set, e']⟩
    refine { h1 with
      tm := fun t => (Holds.awayT hq (htm t) (fun ho => hnog (.t t) ho) (h1.tm t)).mono (Fz.le_refl _) _ _ _ _ hle, hp := fun b k hk => ?_, dom := fun b hb => ?_, inj := fun b b' c hb hb' => ?_, keep := fun b c c' h3 h4 => ?_,
      fcell := fun c o v hv => h1.fcell c o v ((Fz.away_le fz g).1 _ _ _ hv), fobj := h1.fobj, f0 := ⟨fun c o v hv => ?_, h1.f0.2⟩, f1 := fun c hc hm => ⟨fun o v hv => (h1.f1 c hc hm).1 o v ((Fz.away_le fz g).1 _ _ _ hv), (h1.f1 c hc hm).2⟩,
      tips := fun p e wd rows hp => ?_, tipinj := fun p q hp hq g g' n n' c c' hgp hgq hg => ?_ }
    · simp only [View.setB] at hk
      by_cases e' : b = d
      · subst e'
        simp only [if_true] at hk; cases hk
        refine ⟨g, by simp [Ren.set], x2, ⟨cur, x3, ?_, x6.2⟩, fun o => by simp [Fz.away], x8⟩
        refine HoldsL.of_get _ _ _ ?_ fun i x v hx hv => ?_
        · have hsz := x6.1
          simp only [Array.length_toList, List.length_append, List.length_replicate, hlenf, ← Nat.add_mul]
          rw [hsz]; congr 1; omega
        · by_cases hi : i < rows.length * wd
          · rw [List.getElem?_append_left (by omega)] at hx
            obtain ⟨u, hu1, hu2⟩ := hfl i hi
            rw [hx] at hu1; cases hu1
            simp only [Holds]
            have := h.fcell _ _ _ hu2
            simp only [World.cell?, x3, Option.isSome_none, Bool.false_eq_true, if_false, Nat.zero_add] at this
            simp at hv
            rw [hv] at this; cases this; rfl
          · rw [List.getElem?_append_right (by omega)] at hx
            rw [List.eq_of_mem_replicate (List.mem_of_getElem? hx)]
            simp only [Holds]
      · simp only [e', if_false] at hk
        obtain ⟨c, y1, y2, y3, y4, y5⟩ := h1.hp b k (by simp only [View.setB]; exact hk)
        refine ⟨c, by simp [Ren.set, e', y1], y2, (BlkAt.away (fun j _ hh => ?_) y3).mono (Fz.le_refl _) hle (fun _ h => h), fun o => ?_, y5⟩
        · have hsb : shpB q k = true := by
            by_cases eb : b = b0
            · simp only [eb, if_true] at hk; cases hk; exact hk0s
            · simp only [eb, if_false] at hk; exact hhp b k eb hk
          refine Holds.awayT hq (shpB_at hsb j) (fun ho ad n c' hc' => hnog (.c b j) ?_ ad n c' ?_) hh
          · simp only [View.at, View.setB]; rw [hk]; exact ho
          · simp only [conc, y1]; exact hc'
        · simp only [Fz.away]; split
          · rfl
          · exact y4 o
    · simp only [View.setB] at hb
      by_cases e' : b = d
      · subst e'; simp at hb
      · simp only [e', if_false] at hb
        simp only [Ren.set, e', if_false]
        exact h1.dom b (by simp only [View.setB]; exact hb)
    · simp only [Ren.set] at hb hb'
      by_cases e1 : b = d <;> by_cases e2 : b' = d
      · rw [e1, e2]
      · simp only [e1, e2, if_true, if_false] at hb hb'; cases hb; exact absurd hb' (x9 b')
      · simp only [e1, e2, if_true, if_false] at hb hb'; cases hb'; exact absurd hb (x9 b)
      · simp only [e1, e2, if_false] at hb hb'; exact h.inj b b' c hb hb'
    · have := hF _ _ _ hv
      simp only [Fz.away]
      rw [if_neg (by omega)]
      exact h1.f0.1 _ _ _ hv
    · obtain ⟨k1, k2⟩ := key p (by rw [hp]; rfl)
      rw [k2]
      rcases h1.tips p e wd rows (by rw [k1]; exact hp) with ⟨z1, z2⟩ | ⟨g', cap', cur', z1, z2, z3, z4, z5, z6, z7, z8, z9⟩
      · exact .inl ⟨z1, z2⟩
      · have hgg : g' ≠ g := hnog p (by rw [k1, hp]; rfl) _ _ _ z1
        refine .inr ⟨g', cap', cur', z1, z2, z3, z4, z5, z6, fun o ho => ?_, z8, fun b => ?_⟩
        · simp only [Fz.away, if_neg hgg]; exact z7 o ho
        · simp only [Ren.set]; split
          · intro hh; cases hh; exact hgg rfl
          · exact z9 b
    · obtain ⟨k1, k2⟩ := key p hp
      obtain ⟨k3, k4⟩ := key q hq
      exact h1.tipinj p q (by rw [k1]; exact hp) (by rw [k3]; exact hq) g g' n n' c c' (by rw [← k2]; exact hgp) (by rw [← k4]; exact hgq) hg
    · by_cases e' : b = d
      · subst e'; rw [h.hi b (.inl hd)] at h3; cases h3
      · simp only [Ren.set, e', if_false] at h4; exact h.keep b c c' h3 h4
  have h3 := h2.putAt (b := b0) (j := j0) (c := c0) (k := k0.set j0 .unk) (by simp [View.setB, hbd]) (by cases k0 <;> simpa [Blk.set, Blk.len] using hj0) (by simp [Ren.set, hbd, hc0]) (y := .vec d wd 0 rows.length cap) (by
    rw [x1]; simp only [Holds]; exact ⟨g, by simp [Ren.set], rfl⟩) rfl
  refine ⟨fz.away g, Ren.set ρ d g, ?_⟩
  · have hv : (V.setB d (thawed e wd cap rows)).setB b0 (k0.set j0 (.vec d wd 0 rows.length cap)) = ((V.setB b0 (k0.set j0 .unk)).setB d (thawed e wd cap rows)).setB b0 ((k0.set j0 .unk).set j0 (.vec d wd 0 rows.length cap)) := by
      refine View.ext (fun t => rfl) (fun b => ?_)
      simp only [View.setB]
      by_cases e1 : b = b0
      · simp only [e1, if_true]
        cases k0 <;> simp [Blk.set]
      · simp only [e1, if_false]
    rw [hv]; exact h3

def AS.shp (q : Value → Bool) (s : AS) : Bool := s.tm.all (fun x => shpT q x.2) && s.hp.all (fun x => shpB q x.2)
theorem lk_memL {α : Type} : ∀ {l : List (Nat × α)} {k : Nat} {x : α}, lk l k = some x → (k, x) ∈ l
  | (j, y) :: l, k, x, h => by
    simp only [lk] at h
    split at h
    · rename_i e; cases h; subst e; simp
    · exact List.mem_cons_of_mem _ (lk_memL h)

/-- cell j0 of block b0, a slice of the call's own, becomes memory d, that is written by index -/
theorem AWp.thaw {c : Code} {Q : Exit → AS → Prop} {s : AS} (hM : ∀ c, C.Mu c = false) (hF : ∀ c o v, C.fz0.cell c o = some v → c < C.B) (q : Value → Bool) (b0 j0 d : Nat) {k0 : Blk} (hk0 : lk s.hp b0 = some k0) {e : TypeId} {wd : Nat} {rows : List (List AV)} (hp : k0.at j0 = .own e wd rows)
    (hn : rows ≠ []) (hd : d < C.N) (hd2 : lk s.hp d = none) (hrows : ∀ r ∈ rows, ∀ x ∈ r, ∃ u, x = .val u ∧ q u = false) (hs : (s.setB b0 (k0.set j0 .unk)).shp q = true)
    (h : ∀ cap, rows.length ≤ cap → cap ≤ maxLen → AWp P C c Q ((s.setB d (thawed e wd cap rows)).setB b0 (k0.set j0 (.vec d wd 0 rows.length cap)))) : AWp P C c Q s := by
  intro a w ⟨fz, ρ, hsim⟩
  simp only [AS.shp, Bool.and_eq_true, List.all_eq_true] at hs
  have hlk : ∀ b k, lk (s.setB b0 (k0.set j0 .unk)).hp b = some k → shpB q k = true := fun b k hk => hs.2 (b, k) (lk_memL hk)
  have htm : ∀ t, shpT q (s.view.tm t) = true := fun t => by
    simp only [AS.view]
    cases hx : lk s.tm t with
    | none => rfl
    | some x => exact hs.1 (t, x) (lk_memL hx)
  have hhp : ∀ b k, b ≠ b0 → s.view.hp b = some k → shpB q k = true := fun b k hb hk => by
    refine hlk b k ?_
    simp only [AS.setB, lk_ins, if_neg hb]; exact hk
  have hks : shpB q (k0.set j0 .unk) = true := by
    refine hlk b0 _ ?_
    simp only [AS.setB, lk_ins, if_true]
  obtain ⟨cap, h1, h2, h3⟩ := hsim.thaw hM hF hk0 hp hn hd hd2 hrows htm hhp hks
  refine h cap h1 h2 a w ?_
  rw [view_setB, view_setB]; exact h3
end Go.Aw
