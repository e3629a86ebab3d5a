/- How the reading of a state fares where memory grows, or is written. -/
import Derived.Test.YtlkilbfegcplmaaAwB
set_option linter.unusedSimpArgs false
set_option linter.unusedVariables false
namespace Go.Aw
variable {C : Ctx} {V : View} {a : Act} {w : World} {fz : Fz} {ρ : Ren}

/-- w' is w with new blocks. -/
structure Ext (w w' : World) : Prop where
  os : w'.os = w.os
  tape : w'.tape = w.tape
  output : w'.output = w.output
  size : w.heap.size ≤ w'.heap.size
  block : ∀ k, k < w.heap.size → w'.heap[k]? = w.heap[k]?
theorem Ext.refl (w : World) : Ext w w := ⟨rfl, rfl, rfl, Nat.le_refl _, fun _ _ => rfl⟩
theorem Ext.trans {x y z : World} (h : Ext x y) (k : Ext y z) : Ext x z :=
  ⟨k.os.trans h.os, k.tape.trans h.tape, k.output.trans h.output, Nat.le_trans h.size k.size, fun i hi => (k.block i (Nat.lt_of_lt_of_le hi h.size)).trans (h.block i hi)⟩
theorem Ext.alloc (w : World) (o : Obj) : Ext w (w.alloc o) := ⟨rfl, rfl, rfl, by simp, fun k hk => heap_alloc_old w o k hk⟩
theorem Ext.drawn (w : World) (n : Nat) : Ext w { w with drawn := n } := ⟨rfl, rfl, rfl, Nat.le_refl _, fun _ _ => rfl⟩

theorem lt_of_heap {w : World} {c : Nat} {o : Obj} (h : w.heap[c]? = some o) : c < w.heap.size := (Array.getElem?_eq_some_iff.1 h).1
theorem Ext.heap {w w' : World} (h : Ext w w') {c : Nat} {o : Obj} (e : w.heap[c]? = some o) : w'.heap[c]? = some o := by
  rw [h.block c (lt_of_heap e)]; exact e
theorem Ext.cell {w w' : World} (h : Ext w w') {b o : Nat} {v : Value} (e : w.cell? ⟨b, o, none⟩ = some v) : w'.cell? ⟨b, o, none⟩ = some v := by
  have hlt : b < w.heap.size := World.block_lt_of_cell? w _ e
  rw [World.cell?_of_block (w := w) (h.block b hlt)]; exact e
theorem BlkAt.mono {fz fz' : Fz} {ρ ρ' : Ren} {w w' : World} {c : Nat} {k : Blk} (hf : fz.le fz') (hr : Ren.le ρ ρ') (hw : ∀ o, w.heap[c]? = some o → w'.heap[c]? = some o) (h : BlkAt fz ρ w c k) : BlkAt fz' ρ' w' c k := by
  cases k with
  | cells e cs => obtain ⟨cur, h1, h2, h3⟩ := h; exact ⟨cur, hw _ h1, h2.mono hf _ _ _ _ hr, h3⟩
  | map ks vs => obtain ⟨es, clock, h1, h2, h3, h4⟩ := h; exact ⟨es, clock, hw _ h1, h2, h3.mono hf _ _ _ _ hr, h4⟩
  | mapd ks vs => obtain ⟨es, clock, h1, h2, h3, h4⟩ := h; exact ⟨es, clock, hw _ h1, h2, h3.mono hf _ _ _ _ hr, h4⟩

theorem cellAt_same {w w' : World} {c : Nat} (h : w'.heap[c]? = w.heap[c]?) (j : Nat) : cellAt w' c j = cellAt w c j := by
  simp only [cellAt, h]

/-- what every place's block is: below the heap's size -/
theorem SimE.lt (h : SimE C V a w fz ρ) {b : Nat} {c : Nat} (hb : ρ b = some c) : c < w.heap.size := by
  cases hk : V.hp b with
  | none => rw [h.dom b hk] at hb; cases hb
  | some k =>
    obtain ⟨c', hc, _, hB, _⟩ := h.hp b k hk
    rw [hb] at hc; cases hc
    cases k with
    | cells e cs => obtain ⟨cur, h1, _⟩ := hB; exact lt_of_heap h1
    | map ks vs => obtain ⟨es, clock, h1, _⟩ := hB; exact lt_of_heap h1
    | mapd ks vs => obtain ⟨es, clock, h1, _⟩ := hB; exact lt_of_heap h1
theorem SimE.conc_same (h : SimE C V a w fz ρ) {w' : World} {ρ' : Ren} {p : Pl} (hp : isOwn (V.at p) = true) (hr : Ren.le ρ ρ') (hw : ∀ b j c, p = .c b j → ρ b = some c → w'.heap[c]? = w.heap[c]?) :
    conc a w' ρ' p = conc a w ρ p := by
  cases p with
  | t i => rfl
  | c b j =>
    simp only [View.at] at hp
    cases hk : V.hp b with
    | none => simp [hk, isOwn] at hp
    | some k =>
      obtain ⟨c, hc, _⟩ := h.hp b k hk
      simp only [conc, hc, hr _ _ hc]
      exact cellAt_same (hw b j c rfl hc) j

/-- new blocks, some of them never to be written again -/
theorem SimE.extend (h : SimE C V a w fz ρ) {w' : World} (hw : Ext w w') {fz' : Fz} (hle : fz.le fz') (hcell : ∀ c o v, fz'.cell c o = some v → w'.cell? ⟨c, o, none⟩ = some v)
    (hobj : ∀ c o, fz'.obj c = some o → w'.heap[c]? = some o) (hold : ∀ c, c < w.heap.size → (∀ o, fz'.cell c o = fz.cell c o) ∧ fz'.obj c = fz.obj c) : SimE C V a w' fz' ρ := by
  have hlt := fun {b c} => SimE.lt h (b := b) (c := c)
  refine { h with
    tm := fun t => (h.tm t).mono hle _ _ _ _ (Ren.le_refl _), hp := fun b k hk => ?_, fcell := hcell, fobj := hobj, f0 := Fz.le_trans h.f0 hle,
    f1 := fun c hc hcm => ?_, tips := fun p e wd rows hp => ?_, tipinj := fun p q hp hq g g' n n' c c' hgp hgq hg => ?_,
    os := hw.os.trans h.os, tape := hw.tape.trans h.tape, output := hw.output.trans h.output, bsz := Nat.le_trans h.bsz hw.size, old := fun c hc hm => ?_ }
  · obtain ⟨c, hc, h1, h2, h3, h4⟩ := h.hp b k hk
    have := hold c (hlt hc)
    exact ⟨c, hc, h1, h2.mono hle (Ren.le_refl _) (fun o ho => hw.heap ho), fun o => (this.1 o).trans (h3 o), this.2.trans h4⟩
  · have := hold c (Nat.lt_of_lt_of_le hc h.bsz)
    exact ⟨fun o v e => (h.f1 c hc hcm).1 o v (by rw [← this.1 o]; exact e), fun o e => (h.f1 c hc hcm).2 o (by rw [← this.2]; exact e)⟩
  · have ho : isOwn (V.at p) = true := by rw [hp]; rfl
    rw [h.conc_same (w' := w') ho (Ren.le_refl _) (fun b j c _ hc => hw.block c (hlt hc))]
    rcases h.tips p e wd rows hp with ⟨h1, h2⟩ | ⟨g, cap, cur, h1, h2, h3, h4, h5, h6, h7, h8, h9⟩
    · exact .inl ⟨h1, h2⟩
    · have := hold g (lt_of_heap h3)
      exact .inr ⟨g, cap, cur, h1, h2, hw.heap h3, h4, h5, h6, fun o ho => (this.1 o).trans (h7 o ho), this.2.trans h8, h9⟩
  · rw [h.conc_same (w' := w') hp (Ren.le_refl _) (fun b j c _ hc => hw.block c (hlt hc))] at hgp
    rw [h.conc_same (w' := w') hq (Ren.le_refl _) (fun b j c _ hc => hw.block c (hlt hc))] at hgq
    exact h.tipinj p q hp hq g g' n n' c c' hgp hgq hg
  · rw [hw.block c (Nat.lt_of_lt_of_le hc h.bsz)]; exact h.old c hc hm

theorem SimE.ext (h : SimE C V a w fz ρ) {w' : World} (hw : Ext w w') : SimE C V a w' fz ρ :=
  h.extend hw (Fz.le_refl _) (fun c o v e => hw.cell (h.fcell c o v e)) (fun c o e => hw.heap (h.fobj c o e)) (fun _ _ => ⟨fun _ => rfl, rfl⟩)

/-- nothing is known to be frozen of what is not there -/
theorem SimE.fz_new (h : SimE C V a w fz ρ) {c : Nat} (hc : w.heap.size ≤ c) : (∀ o, fz.cell c o = none) ∧ fz.obj c = none := by
  constructor
  · intro o
    cases e : fz.cell c o with
    | none => rfl
    | some v => exact absurd (World.block_lt_of_cell? w _ (h.fcell c o v e)) (by simp; omega)
  · cases e : fz.obj c with
    | none => rfl
    | some v => exact absurd (lt_of_heap (h.fobj c v e)) (by omega)

def Ren.set (ρ : Ren) (b c : Nat) : Ren := fun x => if x = b then some c else ρ x
theorem Ren.le_set {ρ : Ren} {b c : Nat} (h : ρ b = none) : Ren.le ρ (Ren.set ρ b c) := by
  intro x y e
  simp only [Ren.set]
  split
  · rename_i hx; subst hx; rw [h] at e; cases e
  · exact e

/-- a new block that the call will write -/
theorem SimE.newBlk (h : SimE C V a w fz ρ) {d : Nat} (hN : C.ρ0 d = none) (hd : V.hp d = none) {w' : World} (hw : Ext w w') {k : Blk} (hk : BlkAt fz ρ w' w.heap.size k) (hown : ∀ j, isOwn (k.at j) = false) :
    SimE C (V.setB d k) a w' fz (Ren.set ρ d w.heap.size) := by
  have h' := h.ext hw
  have hr : ρ d = none := h.dom d hd
  have hle := Ren.le_set (c := w.heap.size) hr
  have hlt := fun {b c} => SimE.lt h (b := b) (c := c)
  have hnew := h.fz_new (Nat.le_refl _)
  have key : ∀ p, isOwn ((V.setB d k).at p) = true → (V.setB d k).at p = V.at p ∧ conc a w' (Ren.set ρ d w.heap.size) p = conc a w' ρ p := by
    intro p hp
    cases p with
    | t i => exact ⟨rfl, rfl⟩
    | c b j =>
      by_cases e : b = d
      · subst e; simp [View.at, View.setB, hown] at hp
      · refine ⟨by simp [View.at, View.setB, e], by simp [conc, Ren.set, e]⟩
  refine { h' with
    tm := fun t => (h'.tm t).mono (Fz.le_refl _) _ _ _ _ hle, hp := fun b k' hk' => ?_, dom := fun b hb => ?_, inj := fun b b' c hb hb' => ?_, keep := fun b c c' h1 h2 => ?_,
    tips := fun p e wd rows hp => ?_, tipinj := fun p q hp hq g g' n n' c c' hgp hgq hg => ?_ }
  · simp only [View.setB] at hk'
    by_cases e : b = d
    · subst e
      simp only [if_true] at hk'; cases hk'
      exact ⟨w.heap.size, by simp [Ren.set], .inl h.bsz, hk.mono (Fz.le_refl _) hle (fun _ h => h), hnew.1, hnew.2⟩
    · simp only [e, if_false] at hk'
      obtain ⟨c, hc, h1, h2, h3⟩ := h'.hp b k' hk'
      exact ⟨c, by simp [Ren.set, e, hc], h1, h2.mono (Fz.le_refl _) hle (fun _ h => h), h3⟩
  · simp only [View.setB] at hb
    by_cases e : b = d
    · subst e; simp at hb
    · simp only [e, if_false] at hb
      simp [Ren.set, e, h.dom b hb]
  · simp only [Ren.set] at hb hb'
    by_cases e : b = d <;> by_cases e' : b' = d
    · rw [e, e']
    · simp only [e, e', if_true, if_false] at hb hb'; cases hb; exact absurd (hlt hb') (by omega)
    · simp only [e, e', if_true, if_false] at hb hb'; cases hb'; exact absurd (hlt hb) (by omega)
    · simp only [e, e', if_false] at hb hb'; exact h.inj b b' c hb hb'
  · obtain ⟨h1, h2⟩ := key p (by rw [hp]; rfl)
    rw [h2]
    rcases h'.tips p e wd rows (by rw [← h1]; exact hp) with ⟨x1, x2⟩ | ⟨g, cap, cur, x1, x2, x3, x4, x5, x6, x7, x8, x9⟩
    · exact .inl ⟨x1, x2⟩
    · refine .inr ⟨g, cap, cur, x1, x2, x3, x4, x5, x6, x7, x8, fun b => ?_⟩
      simp only [Ren.set]
      split
      · intro hh
        cases hh
        -- g is the new block: then the place's slice lies in it; but its tip was known in w
        rcases h.tips p e wd rows (by rw [← h1]; exact hp) with ⟨y1, y2⟩ | ⟨g', cap', cur', y1, y2, y3, _⟩
        · rw [h.conc_same (w' := w') (ρ' := ρ) (by rw [← h1, hp]; rfl) (Ren.le_refl _) (fun b j c _ hc => hw.block c (hlt hc)), y1] at x1; cases x1
        · rw [h.conc_same (w' := w') (ρ' := ρ) (by rw [← h1, hp]; rfl) (Ren.le_refl _) (fun b j c _ hc => hw.block c (hlt hc)), y1] at x1
          cases x1
          exact absurd (lt_of_heap y3) (by omega)
      · exact x9 b
  · obtain ⟨h1, h2⟩ := key p hp
    obtain ⟨h3, h4⟩ := key q hq
    exact h'.tipinj p q (by rw [← h1]; exact hp) (by rw [← h3]; exact hq) g g' n n' c c' (by rw [← h2]; exact hgp) (by rw [← h4]; exact hgq) hg
  · simp only [Ren.set] at h2
    by_cases e : b = d
    · subst e; rw [hN] at h1; cases h1
    · simp only [e, if_false] at h2; exact h.keep b c c' h1 h2

/-- one of the call's own blocks is written; its owned places stay as they were -/
theorem SimE.setBlk (h : SimE C V a w fz ρ) {b c : Nat} {k0 k : Blk} (hb : V.hp b = some k0) (hc : ρ b = some c) {w' : World} (hos : w'.os = w.os) (htape : w'.tape = w.tape) (hout : w'.output = w.output)
    (hsz : w'.heap.size = w.heap.size) (hoth : ∀ i, i ≠ c → w'.heap[i]? = w.heap[i]?) (hk : BlkAt fz ρ w' c k) (hown : ∀ j, isOwn (k.at j) = true → k.at j = k0.at j ∧ cellAt w' c j = cellAt w c j) :
    SimE C (V.setB b k) a w' fz ρ := by
  obtain ⟨c', hc', hBM, hK0, hfc, hfo⟩ := h.hp b k0 hb
  rw [hc] at hc'; cases hc'
  have key : ∀ p, isOwn ((V.setB b k).at p) = true → (V.setB b k).at p = V.at p ∧ conc a w' ρ p = conc a w ρ p := by
    intro p hp
    cases p with
    | t i => exact ⟨rfl, rfl⟩
    | c b' j =>
      by_cases e : b' = b
      · subst e
        simp only [View.at, View.setB, if_true, Option.map_some, Option.getD_some] at hp ⊢
        obtain ⟨e1, e2⟩ := hown j hp
        exact ⟨by simp [hb, e1], by simp only [conc, hc, e2]⟩
      · refine ⟨by simp [View.at, View.setB, e], ?_⟩
        simp only [conc]
        cases hρ : ρ b' with
        | none => rfl
        | some c2 => exact cellAt_same (hoth c2 fun e' => e (h.inj b' b c2 hρ (by rw [e']; exact hc))) j
  refine { h with
    hp := fun b' k' hk' => ?_, dom := fun b' hb' => ?_, fcell := fun c2 o v e => ?_, fobj := fun c2 o e => ?_,
    tips := fun p e wd rows hp => ?_, tipinj := fun p q hp hq g g' n n' x x' hgp hgq hg => ?_, os := hos.trans h.os, tape := htape.trans h.tape, output := hout.trans h.output,
    bsz := by rw [hsz]; exact h.bsz, old := fun c2 hc2 hm => ?_ }
  · simp only [View.setB] at hk'
    by_cases e : b' = b
    · subst e
      simp only [if_true] at hk'; cases hk'
      exact ⟨c, hc, hBM, hk, hfc, hfo⟩
    · simp only [e, if_false] at hk'
      obtain ⟨c2, hc2, h1, h2, h3⟩ := h.hp b' k' hk'
      refine ⟨c2, hc2, h1, h2.mono (Fz.le_refl _) (Ren.le_refl _) (fun o ho => ?_), h3⟩
      rw [hoth c2 fun e' => e (h.inj b' b c2 hc2 (by rw [e']; exact hc))]; exact ho
  · simp only [View.setB] at hb'
    by_cases e : b' = b
    · subst e; simp at hb'
    · simp only [e, if_false] at hb'; exact h.dom b' hb'
  · by_cases e' : c2 = c
    · subst e'; rw [hfc o] at e; cases e
    · rw [World.cell?_of_block (w := w) (hoth c2 e')]; exact h.fcell c2 o v e
  · by_cases e' : c2 = c
    · subst e'; rw [hfo] at e; cases e
    · rw [hoth c2 e']; exact h.fobj c2 o e
  · obtain ⟨h1, h2⟩ := key p (by rw [hp]; rfl)
    rw [h2]
    rcases h.tips p e wd rows (by rw [← h1]; exact hp) with ⟨x1, x2⟩ | ⟨g, cap, cur, x1, x2, x3, x4, x5, x6, x7, x8, x9⟩
    · exact .inl ⟨x1, x2⟩
    · refine .inr ⟨g, cap, cur, x1, x2, ?_, x4, x5, x6, x7, x8, x9⟩
      rw [hoth g fun e' => x9 b (by rw [e']; exact hc)]; exact x3
  · obtain ⟨h1, h2⟩ := key p hp
    obtain ⟨h3, h4⟩ := key q hq
    exact h.tipinj p q (by rw [← h1]; exact hp) (by rw [← h3]; exact hq) g g' n n' x x' (by rw [← h2]; exact hgp) (by rw [← h4]; exact hgq) hg
  · have : c2 ≠ c := by
      rintro rfl
      rcases hBM with hx | hx
      · omega
      · rw [hm] at hx; cases hx
    rw [hoth c2 this]; exact h.old c2 hc2 hm
end Go.Aw
