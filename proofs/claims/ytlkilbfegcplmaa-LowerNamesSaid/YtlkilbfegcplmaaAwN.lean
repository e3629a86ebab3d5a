/- Slices that grow. -/
import Derived.Test.YtlkilbfegcplmaaAwM
set_option linter.unusedSimpArgs false
set_option linter.unusedVariables false
namespace Go.Aw
variable {P : Program} {C : Ctx} {V : View} {a : Act} {w : World} {fz : Fz} {ρ : Ren} {o : Oper} {Q : Exit → Act → World → Prop}

/-- a slot comes to own a slice -/
theorem SimE.putOwn (h : SimE C V a w fz ρ) {d : Nat} (hd : d < C.N) {e : TypeId} {wd : Nat} {rows : List (List AV)} {v : Value} (hv : Holds fz (.own e wd rows) ρ v) (htip : TipOK C fz ρ w e wd rows v)
    (huniq : ∀ q, q ≠ .t d → isOwn (V.at q) = true → ∀ g g' n n' c c', v = .slice (some g) n c → conc a w ρ q = .slice (some g') n' c' → g.block ≠ g'.block) : SimE C (V.put d (.own e wd rows)) (a.put (some d) v) w fz ρ := by
  have hd' : d < a.tmps.size := by rw [h.sz]; exact hd
  have hrd : Holds fz (.rd wd rows) ρ v := by simpa only [Holds] using hv
  have h1 := h.put hd hrd rfl
  have hc : conc (a.put (some d) v) w ρ (.t d) = v := by rw [conc_put_t _ _ _ hd', if_pos rfl]
  have h2 := h1.reflag (p := .t d) (y := .own e wd rows) trivial (fun v hv => by
      have : (V.put d (.rd wd rows)).at (.t d) = .rd wd rows := by simp [View.at, View.put]
      rw [this] at hv; simpa only [Holds] using hv) (fun e' wd' rows' he => by cases he; rw [hc]; exact htip) (fun _ q hq hqo g g' n n' c c' hg hg' => by
      rw [hc] at hg
      cases q with
      | t i =>
        have hi : i ≠ d := fun e => hq (by rw [e])
        have : (V.put d (.rd wd rows)).at (.t i) = V.at (.t i) := by simp [View.at, View.put, hi]
        rw [this] at hqo
        rw [conc_put_t _ _ _ hd', if_neg hi] at hg'
        exact huniq _ hq hqo g g' n n' c c' hg hg'
      | c b j => exact huniq _ hq hqo g g' n n' c c' hg hg')
  have : (V.put d (.rd wd rows)).setAt (.t d) (.own e wd rows) = V.put d (.own e wd rows) := by
    simp only [View.setAt, View.put, View.mk.injEq, and_true]
    funext t; split <;> rfl
  rw [this] at h2
  exact h2

/-- a block of the call's own, that nothing names but slices that are only read, is written beyond what they read -/
theorem SimE.spare (h : SimE C V a w fz ρ) {g : Nat} (hB : C.B ≤ g ∨ C.Mu g = true) (hρ : ∀ b, ρ b ≠ some g) (htip : ∀ p, isOwn (V.at p) = true → ∀ ad n c, conc a w ρ p = .slice (some ad) n c → ad.block ≠ g)
    {w' : World} (hos : w'.os = w.os) (htape : w'.tape = w.tape) (hout : w'.output = w.output) (hsz : w'.heap.size = w.heap.size) (hoth : ∀ i, i ≠ g → w'.heap[i]? = w.heap[i]?)
    {fz' : Fz} (hle : fz.le fz') (hobj : fz'.obj g = none) (hcell : ∀ o v, fz'.cell g o = some v → w'.cell? ⟨g, o, none⟩ = some v) (hsame : ∀ b, b ≠ g → (∀ o, fz'.cell b o = fz.cell b o) ∧ fz'.obj b = fz.obj b) : SimE C V a w' fz' ρ := by
  have hconc : ∀ p, isOwn (V.at p) = true → conc a w' ρ p = conc a w ρ p := fun p hp =>
    h.conc_same hp (Ren.le_refl _) (fun b j c _ hc => hoth c (fun e => hρ b (by rw [← e]; exact hc)))
  refine { h with
    tm := fun t => (h.tm t).mono hle _ _ _ _ (Ren.le_refl _), hp := fun b k hk => ?_, fcell := fun c o v e => ?_, fobj := fun c o e => ?_, f0 := Fz.le_trans h.f0 hle,
    f1 := fun c hc hcm => ?_, tips := fun p e wd rows hp => ?_, tipinj := fun p q hp hq x x' n n' c c' hgp hgq hg => ?_,
    os := hos.trans h.os, tape := htape.trans h.tape, output := hout.trans h.output, bsz := by rw [hsz]; exact h.bsz, old := fun c hc hm => ?_ }
  · obtain ⟨c, hc, h1, h2, h3, h4⟩ := h.hp b k hk
    have hcg : c ≠ g := fun e => hρ b (by rw [← e]; exact hc)
    exact ⟨c, hc, h1, h2.mono hle (Ren.le_refl _) (fun o ho => by rw [hoth c hcg]; exact ho), fun o => ((hsame c hcg).1 o).trans (h3 o), (hsame c hcg).2.trans h4⟩
  · by_cases e' : c = g
    · subst e'; exact hcell o v e
    · rw [(hsame c e').1 o] at e
      rw [World.cell?_of_block (w := w) (hoth c e')]; exact h.fcell c o v e
  · by_cases e' : c = g
    · subst e'; rw [hobj] at e; cases e
    · rw [(hsame c e').2] at e
      rw [hoth c e']; exact h.fobj c o e
  · have hcg : c ≠ g := by
      rintro rfl
      rcases hB with hx | hx
      · omega
      · rw [hcm] at hx; cases hx
    exact ⟨fun o v e => (h.f1 c hc hcm).1 o v (by rw [← (hsame c hcg).1 o]; exact e), fun o e => (h.f1 c hc hcm).2 o (by rw [← (hsame c hcg).2]; exact e)⟩
  · have ho : isOwn (V.at p) = true := by rw [hp]; rfl
    rw [hconc p ho]
    rcases h.tips p e wd rows hp with ⟨h1, h2⟩ | ⟨x, cap, cur, h1, h2, h3, h4, h5, h6, h7, h8, h9⟩
    · exact .inl ⟨h1, h2⟩
    · have hx : x ≠ g := htip p ho _ _ _ h1
      exact .inr ⟨x, cap, cur, h1, h2, by rw [hoth x hx]; exact h3, h4, h5, h6, fun o ho => ((hsame x hx).1 o).trans (h7 o ho), (hsame x hx).2.trans h8, h9⟩
  · rw [hconc p hp] at hgp
    rw [hconc q hq] at hgq
    exact h.tipinj p q hp hq x x' n n' c c' hgp hgq hg
  · have hcg : c ≠ g := by
      rintro rfl
      rcases hB with hx | hx
      · omega
      · rw [hm] at hx; cases hx
    rw [hoth c hcg]; exact h.old c hc hm

theorem HoldsR.list {fz : Fz} : ∀ (rows : List (List AV)) (wd b o : Nat), HoldsR fz rows wd b o → ∃ vs : List Value, vs.length = rows.length * wd ∧ (∀ (j : Nat) (v : Value), vs[j]? = some v → fz.cell b (o + j) = some v) ∧ ∀ v ∈ vs, v.oneCell' = true
  | [], _, _, _, _ => ⟨[], by simp, by simp, by simp⟩
  | r :: rs, wd, b, o, h => by
    simp only [HoldsR] at h
    obtain ⟨h1, h2, h3⟩ := h
    obtain ⟨v1, a1, a2, a3⟩ := HoldsC.list _ _ _ h2
    obtain ⟨v2, b1, b2, b3⟩ := HoldsR.list rs wd b (o + wd) h3
    have hl1 : v1.length = wd := by rw [a1.len, h1]
    refine ⟨v1 ++ v2, by rw [List.length_append, b1, hl1, List.length_cons, Nat.add_mul]; omega, fun j v hj => ?_, fun v hv => ?_⟩
    · by_cases hjl : j < v1.length
      · rw [List.getElem?_append_left hjl] at hj; exact a2 j v hj
      · rw [List.getElem?_append_right (by omega)] at hj
        have := b2 _ v hj
        rwa [show o + wd + (j - v1.length) = o + j from by omega] at this
    · rcases List.mem_append.1 hv with hv | hv
      · exact a3 v hv
      · exact b3 v hv

theorem HoldsC.copy {fz fz' : Fz} (hle : fz.le fz') : ∀ (l : List AV) (b o g o' : Nat), HoldsC fz l b o → (∀ j, j < l.length → ∀ v, fz.cell b (o + j) = some v → fz'.cell g (o' + j) = some v) → HoldsC fz' l g o'
  | [], _, _, _, _, _, _ => by simp only [HoldsC]
  | x :: xs, b, o, g, o', h, hc => by
    simp only [HoldsC] at h ⊢
    obtain ⟨⟨u, hu, h1, hh⟩, h2⟩ := h
    refine ⟨⟨u, hc 0 (by simp) u hu, h1, hh.mono hle _ _ _ _ (Ren.le_refl _)⟩, HoldsC.copy hle xs b (o + 1) g (o' + 1) h2 fun j hj v hv => ?_⟩
    have := hc (j + 1) (by simpa using hj) v (by rw [← Nat.add_assoc, Nat.add_right_comm]; exact hv)
    rwa [show o' + 1 + j = o' + (j + 1) from by omega]
theorem HoldsR.copy {fz fz' : Fz} (hle : fz.le fz') : ∀ (rows : List (List AV)) (wd b o g o' : Nat), HoldsR fz rows wd b o → (∀ j, j < rows.length * wd → ∀ v, fz.cell b (o + j) = some v → fz'.cell g (o' + j) = some v) → HoldsR fz' rows wd g o'
  | [], _, _, _, _, _, _, _ => by simp only [HoldsR]
  | r :: rs, wd, b, o, g, o', h, hc => by
    simp only [HoldsR] at h ⊢
    obtain ⟨h1, h2, h3⟩ := h
    have hmul : (r :: rs).length * wd = wd + rs.length * wd := by rw [List.length_cons, Nat.add_mul]; omega
    refine ⟨h1, HoldsC.copy hle r b o g o' h2 fun j hj v hv => hc j (by omega) v hv, HoldsR.copy hle rs wd b (o + wd) g (o' + wd) h3 fun j hj v hv => ?_⟩
    have := hc (wd + j) (by omega) v (by rw [← Nat.add_assoc]; exact hv)
    rwa [← Nat.add_assoc] at this

/-- a new slice in a new block: its first cells are frozen; it may still grow -/
theorem SimE.grown (h : SimE C V a w fz ρ) {d : Option Nat} (hd : ∀ i, d = some i → i < C.N) {e : TypeId} {wd : Nat} {rows : List (List AV)} {cap : Nat} {cur : Array Value} {pre : List Value} {w' : World}
    (hw : Ext w w') (hg : w'.heap[w.heap.size]? = some (.cells cur e (0, 0))) (hpre : pre.length = rows.length * wd) (hcur : cur.toList.take pre.length = pre) (hcap : rows.length ≤ cap) (hm : cap ≤ maxLen) (hs : cur.size = cap * wd)
    (hR : HoldsR (fz.add w.heap.size pre) rows wd w.heap.size 0) : Sim C (V.putO d (.own e wd rows)) (a.put d (.slice (some ⟨w.heap.size, 0, none⟩) rows.length cap)) w' := by
  have hnew := h.fz_new (Nat.le_refl _)
  have hle := Fz.le_add (cs := pre) hnew.1
  have h1 : SimE C V a w' (fz.add w.heap.size pre) ρ := by
    refine h.extend hw hle (fun c o v hv => ?_) (fun c o hv => hw.heap (h.fobj c o hv)) (fun c hc => ⟨fun o => ?_, rfl⟩)
    · simp only [Fz.add] at hv
      split at hv
      · rename_i hc; subst hc
        simp only [World.cell?, hg, Option.isSome_none, Bool.false_eq_true, if_false]
        rw [← hcur, List.getElem?_take] at hv
        split at hv
        · simpa using hv
        · cases hv
      · exact hw.cell (h.fcell c o v hv)
    · simp only [Fz.add]
      rw [if_neg (by omega)]
  refine ⟨fz.add w.heap.size pre, ρ, ?_⟩
  cases d with
  | none => exact h1
  | some d =>
    refine h1.putOwn (hd d rfl) ?_ (.inr ⟨w.heap.size, cap, cur, rfl, .inl h.bsz, hg, hcap, hm, hs, fun o ho => ?_, hnew.2, fun b hb => ?_⟩) (fun q hq hqo g g' n n' c c' hv hc => ?_)
    · simp only [Holds]; exact ⟨_, _, rfl, hcap, .inr ⟨_, _, rfl, hR⟩⟩
    · simp only [Fz.add, if_true]; exact List.getElem?_eq_none (by omega)
    · exact absurd (h.lt hb) (by omega)
    · cases hv
      have hlt := fun {b c} => SimE.lt h (b := b) (c := c)
      rw [h.conc_same (w' := w') hqo (Ren.le_refl _) (fun b j c _ hc => hw.block c (hlt hc))] at hc
      cases hq' : V.at q <;> rw [hq'] at hqo <;> simp [isOwn] at hqo
      rcases h.tips q _ _ _ hq' with ⟨x1, _⟩ | ⟨x, _, _, x1, _, x3, _⟩
      · rw [hc] at x1; cases x1
      · rw [hc] at x1; cases x1
        have := lt_of_heap x3
        simp; omega

theorem SimE.extDrawn (h : SimE C V a w fz ρ) : SimE C V a w.drew fz ρ := h.ext (Ext.drawn w _)
theorem ext_drew_alloc (w : World) (ob : Obj) : Ext w (w.drew.alloc ob) := (Ext.drawn w _).trans (Ext.alloc w.drew ob)
theorem heap_drew_alloc (w : World) (ob : Obj) : (w.drew.alloc ob).heap[w.heap.size]? = some ob := heap_alloc_new w.drew ob
end Go.Aw
