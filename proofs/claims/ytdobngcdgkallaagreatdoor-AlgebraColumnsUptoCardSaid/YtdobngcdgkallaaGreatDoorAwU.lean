/- Forgetting; a function's contract out of its code. -/
import Derived.Test.YtdobngcdgkallaaGreatDoorAwT
set_option linter.unusedSimpArgs false
set_option linter.unusedVariables false
set_option linter.unusedSectionVars false
namespace Go.Aw
variable [GL]
variable {P : Program} {C : Ctx} {V : View} {a : Act} {w : World} {fz : Fz} {ρ : Ren}

-- names none but these blocks
/-- slots and blocks are forgotten -/
theorem SimE.forget (h : SimE C V a w fz ρ) {V' : View} (l : List Nat) (ht : ∀ t, V'.tm t = V.tm t ∨ V'.tm t = .unk) (htw : ∀ t, within l (V'.tm t) = true) (hb : ∀ b, V'.hp b = if l.contains b then V.hp b else none)
  (hbw : ∀ b k, V'.hp b = some k → k.within l) : SimE C V' a w fz (fun b => if l.contains b then ρ b else none) := by
 let ρ' : Ren := fun b => if l.contains b then ρ b else none
 have hρ : ∀ b, l.contains b = true → ρ' b = ρ b := fun b hb => by simp only [ρ', hb, if_true]
 have hat : ∀ p, isOwn (V'.at p) = true → V'.at p = V.at p ∧ conc a w ρ' p = conc a w ρ p := by
  intro p hp
  cases p with
  | t i =>
   rcases ht i with e | e
   ·exact ⟨e, rfl⟩
   ·simp only [View.at, e] at hp; cases hp
  | c b j =>
   simp only [View.at, hb] at hp ⊢
   split at hp
   ·rename_i hl
    exact ⟨by rw [if_pos hl], by simp only [conc, hρ b hl]⟩
   ·simp [isOwn] at hp
 show SimE C V' a w fz ρ'
 refine { h with
  tm := fun t => ?_, hp := fun b k hk => ?_, dom := fun b hb' => ?_, inj := fun b b' c h1 h2 => ?_, tips := fun p e wd rows hp => ?_, tipinj := fun p q hp hq g g' n n' c c' hgp hgq hg => ?_,
  keep := fun b c c' h1 h2 => by simp only [ρ'] at h2; split at h2; exact h.keep b c c' h1 h2; cases h2 }
 ·rcases ht t with e | e
  ·have := (h.tm t).within hρ _ _ (by rw [← e]; exact htw t)
   rw [e]; exact this
  ·rw [e]; simp only [Holds]
 ·have hk' := hk
  rw [hb] at hk
  split at hk
  ·rename_i hl
   obtain ⟨c, hc, h1, h2, h3⟩ := h.hp b k hk
   refine ⟨c, by rw [hρ b hl]; exact hc, h1, ?_, h3⟩
   have hw := hbw b k hk'
   cases k with
   | cells e cs => obtain ⟨cur, x1, x2, x3⟩ := h2; exact ⟨cur, x1, x2.within hρ _ _ hw, x3⟩
   | map ks vs => obtain ⟨es, clock, x1, x2, x3, x4⟩ := h2; exact ⟨es, clock, x1, x2, x3.within hρ _ _ hw, x4⟩
   | mapd ks vs => obtain ⟨es, clock, x1, x2, x3, x4⟩ := h2; exact ⟨es, clock, x1, x2, x3.within hρ _ _ hw, x4⟩
  ·cases hk
 ·rw [hb] at hb'
  simp only [ρ']
  split at hb'
  ·rename_i hl; rw [if_pos hl]; exact h.dom b hb'
  ·rename_i hl; rw [if_neg hl]
 ·simp only [ρ'] at h1 h2
  split at h1
  ·split at h2
   ·exact h.inj b b' c h1 h2
   ·cases h2
  ·cases h1
 ·obtain ⟨h1, h2⟩ := hat p (by rw [hp]; rfl)
  rw [h2]
  rcases h.tips p e wd rows (by rw [← h1]; exact hp) with hh | ⟨g, cap, cur, x1, x2, x3, x4, x5, x6, x7, x8, x9⟩
  ·exact .inl hh
  ·refine .inr ⟨g, cap, cur, x1, x2, x3, x4, x5, x6, x7, x8, fun b => ?_⟩
   simp only [ρ']
   split
   ·exact x9 b
   ·simp
 ·obtain ⟨h1, h2⟩ := hat p hp
  obtain ⟨h3, h4⟩ := hat q hq
  exact h.tipinj p q (by rw [← h1]; exact hp) (by rw [← h3]; exact hq) g g' n n' c c' (by rw [← h2]; exact hgp) (by rw [← h4]; exact hgq) hg

/-- y may stand for x where it is read only, or nothing has been put there yet -/
def weakP : AV → AV → Prop
 | .val (.slice none 0 0), .own _ _ rows => rows = []
 | .val (.slice none 0 0), .rd _ rows => rows = []
 | .val (.slice none 0 0), .fx _ rows => rows = []
 | .own _ w rows, .rd w' rows' => w = w' ∧ rows = rows'
 | .fx w rows, .rd w' rows' => w = w' ∧ rows = rows'
 | _, .unk => True
 | _, _ => False
theorem weakP.holds {x y : AV} (h : weakP x y) {ρ : Ren} {v : Value} (hx : Holds fz x ρ v) : Holds fz y ρ v := by
 unfold weakP at h
 split at h
 ·subst h; simp only [Holds] at hx ⊢; subst hx; exact ⟨none, 0, rfl, Nat.le_refl _, by simp⟩
 ·subst h; simp only [Holds] at hx ⊢; subst hx; exact ⟨none, 0, rfl, Nat.le_refl _, by simp⟩
 ·subst h; simp only [Holds] at hx ⊢; subst hx; exact ⟨none, rfl, by simp⟩
 ·obtain ⟨rfl, rfl⟩ := h; simpa only [Holds] using hx
 ·obtain ⟨rfl, rfl⟩ := h; simp only [Holds] at hx ⊢; obtain ⟨a, e, h⟩ := hx; exact ⟨a, _, e, Nat.le_refl _, h⟩
 ·simp only [Holds]
 ·exact h.elim
theorem weakP.own {x y : AV} (h : weakP x y) (ho : isOwn y = true) : x = .val (.slice none 0 0) ∧ ∃ e w, y = .own e w [] := by
 unfold weakP at h
 split at h <;> simp [isOwn] at ho
 ·subst h; exact ⟨rfl, _, _, rfl⟩
 ·exact h.elim
def wkL : List AV → List AV → Prop
 | [], [] => True
 | x :: l, y :: r => (x = y ∨ weakP x y) ∧ (l = r ∨ wkL l r)
 | _, _ => False
theorem wkL.get {l r : List AV} (h : l = r ∨ wkL l r) : l.length = r.length ∧ ∀ (i : Nat) (x y : AV), l[i]? = some x → r[i]? = some y → x = y ∨ weakP x y := by
 rcases h with rfl | h
 ·exact ⟨rfl, fun i x y h1 h2 => by rw [h1] at h2; cases h2; exact .inl rfl⟩
 ·induction l generalizing r with
  | nil => cases r with
   | nil => exact ⟨rfl, by simp⟩
   | cons y r => exact h.elim
  | cons x l ih => cases r with
   | nil => exact h.elim
   | cons y r =>
    obtain ⟨h1, h2⟩ := h
    rcases h2 with rfl | h2
    ·refine ⟨rfl, fun i u v hu hv => ?_⟩
     cases i with
     | zero => simp at hu hv; subst hu; subst hv; exact h1
     | succ i => simp at hu hv; rw [hu] at hv; cases hv; exact .inl rfl
    ·obtain ⟨e, hg⟩ := ih h2
     refine ⟨by simp [e], fun i u v hu hv => ?_⟩
     cases i with
     | zero => simp at hu hv; subst hu; subst hv; exact h1
     | succ i => exact hg i u v (by simpa using hu) (by simpa using hv)
def wkB : Blk → Blk → Prop
 | .cells e cs, .cells e' cs' => e = e' ∧ (cs = cs' ∨ wkL cs cs')
 | .map ks vs, .map ks' vs' => ks = ks' ∧ (vs = vs' ∨ wkL vs vs')
 | .mapd ks vs, .mapd ks' vs' => ks = ks' ∧ (vs = vs' ∨ wkL vs vs')
 | .map ks vs, .mapd ks' vs' => ks = ks' ∧ (vs = vs' ∨ wkL vs vs')
 | _, _ => False
theorem wkB.at {k k' : Blk} (h : wkB k k') (j : Nat) : k.at j = k'.at j ∨ weakP (k.at j) (k'.at j) := by
 have key : ∀ {l r : List AV}, (l = r ∨ wkL l r) → l.getD j .unk = r.getD j .unk ∨ weakP (l.getD j .unk) (r.getD j .unk) := by
  intro l r h
  obtain ⟨e, hg⟩ := wkL.get h
  rw [List.getD_eq_getElem?_getD, List.getD_eq_getElem?_getD]
  cases hl : l[j]? with
  | none => rw [List.getElem?_eq_none (by have := List.getElem?_eq_none_iff.1 hl; omega)]; exact .inl rfl
  | some x =>
   have : j < r.length := by have := (List.getElem?_eq_some_iff.1 hl).1; omega
   rw [List.getElem?_eq_getElem this]
   exact hg j x _ hl (List.getElem?_eq_getElem this)
 cases k <;> cases k' <;> simp only [wkB] at h
 ·exact key h.2
 ·exact key h.2
 ·exact key h.2
 ·exact key h.2
theorem wkB.blkAt {k k' : Blk} (h : wkB k k') {ρ : Ren} {c : Nat} (hk : BlkAt fz ρ w c k) : BlkAt fz ρ w c k' := by
 have key : ∀ {l r : List AV} {vs : List Value}, (l = r ∨ wkL l r) → HoldsL fz l ρ vs → HoldsL fz r ρ vs := by
  intro l r vs h hl
  obtain ⟨e, hg⟩ := wkL.get h
  refine HoldsL.of_get _ _ _ (by rw [hl.len, e]) fun i y v hy hv => ?_
  have hi : i < l.length := by have := (List.getElem?_eq_some_iff.1 hy).1; omega
  obtain ⟨v', hv', hx⟩ := hl.get _ _ _ i l[i] (List.getElem?_eq_getElem hi)
  rw [hv] at hv'; cases hv'
  rcases hg i l[i] y (List.getElem?_eq_getElem hi) hy with e | hw
  ·rw [← e]; exact hx
  ·exact hw.holds hx
 cases k <;> cases k' <;> simp only [wkB] at h
 ·obtain ⟨rfl, h⟩ := h; obtain ⟨cur, x1, x2, x3⟩ := hk; exact ⟨cur, x1, key h x2, x3⟩
 ·obtain ⟨rfl, h⟩ := h; obtain ⟨es, clock, x1, x2, x3, x4⟩ := hk; exact ⟨es, clock, x1, x2, key h x3, x4⟩
 ·obtain ⟨rfl, h⟩ := h; obtain ⟨es, clock, x1, x2, x3, x4⟩ := hk.weakMap; exact ⟨es, clock, x1, x2, key h x3, x4⟩
 ·obtain ⟨rfl, h⟩ := h; obtain ⟨es, clock, x1, x2, x3, x4⟩ := hk; exact ⟨es, clock, x1, x2, key h x3, x4⟩
/-- slots and blocks read as less -/
theorem SimE.weak (h : SimE C V a w fz ρ) {V' : View} (ht : ∀ t, V.tm t = V'.tm t ∨ weakP (V.tm t) (V'.tm t)) (hb : ∀ b, (V.hp b = none ∧ V'.hp b = none) ∨ ∃ k k', V.hp b = some k ∧ V'.hp b = some k' ∧ wkB k k') : SimE C V' a w fz ρ := by
 have hat : ∀ p, V.at p = V'.at p ∨ weakP (V.at p) (V'.at p) := by
  intro p
  cases p with
  | t i => exact ht i
  | c b j =>
   simp only [View.at]
   rcases hb b with ⟨e1, e2⟩ | ⟨k, k', e1, e2, hk⟩
   ·rw [e1, e2]; exact .inl rfl
   ·rw [e1, e2]; exact hk.at j
 have hHold : ∀ p v, Holds fz (V.at p) ρ v → Holds fz (V'.at p) ρ v := by
  intro p v hv
  rcases hat p with e | e
  ·rw [← e]; exact hv
  ·exact e.holds hv
 have hconc : ∀ p, V.at p = .val (.slice none 0 0) → conc a w ρ p = .slice none 0 0 := by
  intro p hp
  cases p with
  | t i =>
   have := h.tm i
   simp only [View.at] at hp
   rw [hp] at this; simp only [Holds] at this; exact this
  | c b j =>
   simp only [View.at] at hp
   cases hk : V.hp b with
   | none => rw [hk] at hp; simp at hp
   | some k =>
    rw [hk] at hp
    simp only [Option.map_some, Option.getD_some] at hp
    obtain ⟨c, hc, _, hB, _⟩ := h.hp b k hk
    cases k with
    | cells e cs =>
     obtain ⟨cur, x1, x2, _⟩ := hB
     simp only [Blk.at, List.getD_eq_getElem?_getD] at hp
     cases hj : cs[j]? with
     | none => rw [hj] at hp; simp at hp
     | some x =>
      rw [hj] at hp; simp at hp; subst hp
      obtain ⟨v, hv, hh⟩ := x2.get _ _ _ j _ hj
      simp only [Holds] at hh; subst hh
      simp only [conc, hc, cellAt, x1]
      rw [Array.getD_eq_getD_getElem?]
      have : cur[j]? = some (.slice none 0 0) := by simpa using hv
      rw [this]; rfl
    | map ks vs =>
     obtain ⟨es, clock, x1, _, x2, _⟩ := hB
     simp only [Blk.at, List.getD_eq_getElem?_getD] at hp
     cases hj : vs[j]? with
     | none => rw [hj] at hp; simp at hp
     | some x =>
      rw [hj] at hp; simp at hp; subst hp
      obtain ⟨v, hv, hh⟩ := x2.get _ _ _ j _ hj
      simp only [Holds] at hh; subst hh
      simp only [conc, hc, cellAt, x1]
      have : (es[j]?).map (·.val) = some (.slice none 0 0) := by simpa using hv
      rw [this]; rfl
    | mapd ks vs =>
     obtain ⟨es, clock, x1, _, x2, _⟩ := hB
     simp only [Blk.at, List.getD_eq_getElem?_getD] at hp
     cases hj : vs[j]? with
     | none => rw [hj] at hp; simp at hp
     | some x =>
      rw [hj] at hp; simp at hp; subst hp
      obtain ⟨v, hv, hh⟩ := x2.get _ _ _ j _ hj
      simp only [Holds] at hh; subst hh
      simp only [conc, hc, cellAt, x1]
      have : (es[j]?).map (·.val) = some (.slice none 0 0) := by simpa using hv
      rw [this]; rfl
 have hown : ∀ p, isOwn (V'.at p) = true → V.at p = V'.at p ∨ (conc a w ρ p = .slice none 0 0 ∧ ∃ e wd, V'.at p = .own e wd []) := by
  intro p hp
  rcases hat p with e | e
  ·exact .inl e
  ·obtain ⟨h1, h2⟩ := e.own hp
   exact .inr ⟨hconc p h1, h2⟩
 refine { h with
  tm := fun t => hHold (.t t) _ (h.tm t), hp := fun b k' hk' => ?_, dom := fun b hb' => ?_, tips := fun p e wd rows hp => ?_, tipinj := fun p q hp hq g g' n n' c c' hgp hgq hg => ?_ }
 ·rcases hb b with ⟨e1, e2⟩ | ⟨k, k2, e1, e2, hk⟩
  ·rw [e2] at hk'; cases hk'
  ·rw [e2] at hk'; cases hk'
   obtain ⟨c, hc, h1, h2, h3⟩ := h.hp b k e1
   exact ⟨c, hc, h1, hk.blkAt h2, h3⟩
 ·rcases hb b with ⟨e1, e2⟩ | ⟨k, k2, e1, e2, hk⟩
  ·exact h.dom b e1
  ·rw [e2] at hb'; cases hb'
 ·rcases hown p (by rw [hp]; rfl) with e1 | ⟨e1, e2, wd2, e3⟩
  ·exact h.tips p e wd rows (by rw [e1]; exact hp)
  ·rw [hp] at e3; cases e3; exact .inl ⟨e1, rfl⟩
 ·rcases hown p hp with e1 | ⟨e1, _⟩
  ·rcases hown q hq with e2 | ⟨e2, _⟩
   ·exact h.tipinj p q (by rw [e1]; exact hp) (by rw [e2]; exact hq) g g' n n' c c' hgp hgq hg
   ·rw [e2] at hgq; cases hgq
  ·rw [e1] at hgp; cases hgp

def wk1 : Option AV → AV → Prop
 | some y, x => y = x ∨ weakP y x
 | none, _ => False
def wk2 : Option Blk → Blk → Prop
 | some y, x => wkB y x
 | none, _ => False
theorem wk1_refl (x : AV) : wk1 (some x) x = True := by simp [wk1]
theorem wk1_some (x y : AV) : wk1 (some y) x = (y = x ∨ weakP y x) := rfl
theorem wk2_refl (x : Blk) : wk2 (some x) x = True := by cases x <;> simp [wk2, wkB]
theorem wk2_cells (e e' : TypeId) (cs cs' : List AV) : wk2 (some (.cells e cs)) (.cells e' cs') = (e = e' ∧ (cs = cs' ∨ wkL cs cs')) := rfl
theorem wk2_map (ks ks' : List Value) (vs vs' : List AV) : wk2 (some (.map ks vs)) (.map ks' vs') = (ks = ks' ∧ (vs = vs' ∨ wkL vs vs')) := rfl
theorem wk2_mapd (ks ks' : List Value) (vs vs' : List AV) : wk2 (some (.mapd ks vs)) (.mapd ks' vs') = (ks = ks' ∧ (vs = vs' ∨ wkL vs vs')) := rfl
theorem wk2_mapw (ks ks' : List Value) (vs vs' : List AV) : wk2 (some (.map ks vs)) (.mapd ks' vs') = (ks = ks' ∧ (vs = vs' ∨ wkL vs vs')) := rfl
theorem wk1_spec {o : Option AV} {x : AV} (h : wk1 o x) : ∃ y, o = some y ∧ (y = x ∨ weakP y x) := by
 cases o with
 | none => exact h.elim
 | some y => exact ⟨y, rfl, h⟩
theorem wk2_spec {o : Option Blk} {x : Blk} (h : wk2 o x) : ∃ y, o = some y ∧ wkB y x := by
 cases o with
 | none => exact h.elim
 | some y => exact ⟨y, rfl, h⟩
/-- s' knows no more than s: its slots and blocks (l) are s's -/
def withinTm (l : List Nat) (s : AS) : List (Nat × AV) → Prop
 | [] => True
 | (t, x) :: r => wk1 (lk s.tm t) x ∧ within l x = true ∧ withinTm l s r
def withinHp (l : List Nat) (s : AS) : List (Nat × Blk) → Prop
 | [] => True
 | (b, k) :: r => wk2 (lk s.hp b) k ∧ k.within l ∧ withinHp l s r
def AS.le (s' s : AS) : Prop := withinTm (s'.hp.map (·.1)) s s'.tm ∧ withinHp (s'.hp.map (·.1)) s s'.hp
theorem lk_withinTm {l : List Nat} {s : AS} : ∀ {r : List (Nat × AV)}, withinTm l s r → ∀ t x, lk r t = some x → (∃ y, lk s.tm t = some y ∧ (y = x ∨ weakP y x)) ∧ within l x = true
 | [], _, t, x, h => by simp [lk] at h
 | (u, y) :: r, hw, t, x, h => by
  simp only [withinTm] at hw
  simp only [lk] at h
  split at h
  ·rename_i e; subst e; cases h; exact ⟨wk1_spec hw.1, hw.2.1⟩
  ·exact lk_withinTm hw.2.2 t x h
theorem lk_withinHp {l : List Nat} {s : AS} : ∀ {r : List (Nat × Blk)}, withinHp l s r → ∀ t x, lk r t = some x → (∃ k0, lk s.hp t = some k0 ∧ wkB k0 x) ∧ x.within l
 | [], _, t, x, h => by simp [lk] at h
 | (u, y) :: r, hw, t, x, h => by
  simp only [withinHp] at hw
  simp only [lk] at h
  split at h
  ·rename_i e; subst e; cases h; exact ⟨wk2_spec hw.1, hw.2.1⟩
  ·exact lk_withinHp hw.2.2 t x h
theorem lk_some_of_mem {α : Type} : ∀ (r : List (Nat × α)) (b : Nat), (r.map (·.1)).contains b = true ↔ ∃ x, lk r b = some x
 | [], b => by simp [lk]
 | (u, y) :: r, b => by
  simp only [List.map_cons, List.contains_cons, lk, Bool.or_eq_true, beq_iff_eq]
  by_cases e : u = b
  ·subst e; simp
  ·have : ¬ b = u := fun h => e h.symm
   simp only [this, false_or, e, if_false]
   exact lk_some_of_mem r b
theorem SimE.forgetS {s s' : AS} (hle : s'.le s) (h : SimE C s.view a w fz ρ) : SimE C s'.view a w fz (fun b => if (s'.hp.map (·.1)).contains b then ρ b else none) := by
 -- first what is weaker, then what is forgotten
 let V1 : View := { tm := fun t => (lk s'.tm t).getD ((lk s.tm t).getD .unk), hp := fun b => match lk s'.hp b with | some k => some k | none => lk s.hp b }
 have h1 : SimE C V1 a w fz ρ := by
  refine h.weak (fun t => ?_) (fun b => ?_)
  ·simp only [V1]
   cases hx : lk s'.tm t with
   | none => exact .inl rfl
   | some x =>
    obtain ⟨⟨y, h1, h2⟩, _⟩ := lk_withinTm hle.1 t x hx
    simp only [AS.view, h1, Option.getD_some]; exact h2
  ·simp only [V1]
   cases hx : lk s'.hp b with
   | none =>
    cases hy : lk s.hp b with
    | none => exact .inl ⟨hy, rfl⟩
    | some k => exact .inr ⟨k, k, hy, rfl, by cases k <;> simp [wkB]⟩
   | some k =>
    obtain ⟨⟨k0, h1, h2⟩, _⟩ := lk_withinHp hle.2 b k hx
    exact .inr ⟨k0, k, h1, rfl, h2⟩
 refine h1.forget (s'.hp.map (·.1)) (fun t => ?_) (fun t => ?_) (fun b => ?_) (fun b k hk => ?_)
 ·cases hx : lk s'.tm t with
  | none => right; simp [AS.view, hx]
  | some x => left; simp [AS.view, V1, hx]
 ·cases hx : lk s'.tm t with
  | none => simp [AS.view, hx, Aw.within]
  | some x => have := lk_withinTm hle.1 t x hx; simp [AS.view, hx, this.2]
 ·cases hx : lk s'.hp b with
  | none =>
   have : ¬ (s'.hp.map (·.1)).contains b = true := by
    rw [lk_some_of_mem]; rintro ⟨x, e⟩; rw [hx] at e; cases e
   show lk s'.hp b = _
   rw [if_neg this, hx]
  | some k =>
   have : (s'.hp.map (·.1)).contains b = true := by rw [lk_some_of_mem]; exact ⟨k, hx⟩
   show lk s'.hp b = _
   rw [if_pos this, hx]
   simp only [V1, hx]
 ·exact (lk_withinHp hle.2 b k hk).2
theorem Sim.forget {s s' : AS} (hle : s'.le s) (h : Sim C s.view a w) : Sim C s'.view a w := by
 obtain ⟨fz, ρ, h⟩ := h
 exact ⟨fz, _, h.forgetS hle⟩
theorem AWp.forget {c : Code} {Q : Exit → AS → Prop} {s s' : AS} (hle : s'.le s) (h : AWp P C c Q s') : AWp P C c Q s := fun a w hs => h a w (hs.forget hle)

/-- the results, as the function hands them back -/
def resultA (P : Program) (s : AS) : ResultVar → Option AV
 | .tmp t => lk s.tm t
 | .cell t ty => match lk s.tm t, isAggT P ty, szOf P ty with
  | some (.ptr b off), some ag, some n => match lk s.hp b with
   | some (.cells _ cs) => pickA n ag off cs
   | _ => none
  | _, _, _ => none
def resultsA (P : Program) (s : AS) : List ResultVar → Option (List AV)
 | [] => some []
 | v :: r => match resultA P s v, resultsA P s r with
  | some x, some l => some (x :: l)
  | _, _ => none
def oneOf : List AV → AV
 | [x] => x
 | l => .tup l
/-- the state is one in which the function hands r back -/
def Ends (P : Program) (vars : List ResultVar) (r : AV) (s : AS) : Prop := ∃ l, resultsA P s vars = some l ∧ Rsv (lk s.hp) (oneOf l) r

def resSem (tmps : Array Value) : ResultVar → Sem Value
 | .tmp t => pure (tmps.getD t undef)
 | .cell t ty => do loadVar ty (← asAddr (tmps.getD t undef))
theorem results_eq (fn : Func) (tmps : Array Value) : results fn tmps = (do
  let vs ← fn.results.mapM (resSem tmps)
  pure (if h : vs.size = 1 then vs[0] else .tuple vs)) := by
 simp only [results]
 congr 2
theorem resultA_run {s : AS} (h : SimE C s.view a w fz ρ) {v : ResultVar} {x : AV} (hx : resultA P s v = some x) :
  ∃ u, (resSem a.tmps v).run P w = .ok u w ∧ Holds fz x ρ u ∧
   (isOwn x = true → ∃ p, s.view.at p = x ∧ conc a w ρ p = u) := by
 cases v with
 | tmp t =>
  simp only [resultA] at hx
  have := h.tm t
  have hv : s.view.tm t = x := by simp [AS.view, hx]
  rw [hv] at this
  exact ⟨_, rfl, this, fun _ => ⟨.t t, hv, rfl⟩⟩
 | cell t ty =>
  simp only [resultA] at hx
  split at hx
  ·rename_i b off ag n ht hag hn
   split at hx
   ·rename_i e cs hb
    have hv : s.view.tm t = .ptr b off := by simp [AS.view, ht]
    have h1 := h.tm t
    rw [hv] at h1
    simp only [Holds] at h1
    obtain ⟨c, hρ, hval⟩ := h1
    obtain ⟨c', hc', _, ⟨cur, hcur, hl, _⟩, _⟩ := h.hp b _ hb
    rw [hρ] at hc'; cases hc'
    obtain ⟨u, hr, hh⟩ := run_loadVar_at (P := P) (w := w) hag hn (cellsAt_block hcur) hl hx
    refine ⟨u, ?_, hh, fun ho => by rw [pickA_own hx] at ho; cases ho⟩
    rw [Nat.zero_add] at hr
    simp only [resSem, hval, asAddr, Sem.run_bind, Sem.run_pure, Result.andThen_ok, hr]
   ·cases hx
  ·cases hx
theorem resultsA_run {s : AS} (h : SimE C s.view a w fz ρ) : ∀ (vars : List ResultVar) (l : List AV), resultsA P s vars = some l →
  ∃ us : List Value, (vars.mapM (resSem a.tmps)).run P w = .ok us w ∧ HoldsL fz l ρ us
 | [], l, hl => by
  simp only [resultsA, Option.some.injEq] at hl; subst hl
  exact ⟨[], by simp, by simp [HoldsL]⟩
 | v :: r, l, hl => by
  simp only [resultsA] at hl
  split at hl
  ·rename_i x l' hx hl'
   cases hl
   obtain ⟨u, h1, h2, _⟩ := resultA_run h hx
   obtain ⟨us, h3, h4⟩ := resultsA_run h r l' hl'
   refine ⟨u :: us, ?_, by simp only [HoldsL]; exact ⟨u, us, rfl, h2, h4⟩⟩
   rw [List.mapM_cons]
   simp only [Sem.run_bind]
   rw [h1]
   simp only [Result.andThen_ok]
   rw [h3]
   simp
  ·cases hl

open Classical in
/-- what is frozen behind the call: what was, and the call's own blocks -/
noncomputable def endFz (fz : Fz) (ρ : Ren) (w : World) : Fz :=
 { cell := fun c o => if ∃ b, ρ b = some c then w.cell? ⟨c, o, none⟩ else fz.cell c o, obj := fun c => if ∃ b, ρ b = some c then w.heap[c]? else fz.obj c }

def Ctx.start (w : World) (fz : Fz) (n : Nat) : Ctx := { B := w.heap.size, N := n, w0 := w, Mu := fun _ => false, fz0 := fz }
def zipFrom {α : Type} : Nat → List α → List (Nat × α)
 | _, [] => []
 | i, x :: l => (i, x) :: zipFrom (i + 1) l
theorem lk_zipFrom {α : Type} : ∀ (l : List α) (i k : Nat), lk (zipFrom i l) (i + k) = l[k]?
 | [], i, k => by simp [zipFrom, lk]
 | x :: l, i, k => by
  simp only [zipFrom, lk]
  cases k with
  | zero => simp
  | succ k =>
   rw [if_neg (by omega), show i + (k + 1) = i + 1 + k from by omega, lk_zipFrom l (i + 1) k]
   simp
def AS.start (ts : List AV) : AS := { tm := zipFrom 0 (ts.map dem), hp := [] }

/-- a function's contract, out of its code -/
theorem Con.of_code2 {f : FuncId} {fn : Func} {c : Code} {ts : List AV} {r : AV} (hf : P.funcs[f]? = some fn) (hn : (fn.name == "runtime.NumGoroutine") = false) (hb : fn.body = some c) (hl : ts.length ≤ fn.ntmps)
  (h : ∀ C : Ctx, C.N = fn.ntmps → (∀ c, C.Mu c = false) → (∀ c o v, C.fz0.cell c o = some v → c < C.B) → AWp P C c (fun e s => (e = .normal ∨ e = .ret) ∧ Ends P fn.results.toList r s) (AS.start ts)) : Con P f ts r := by
 refine ⟨⟨fn, hf, hn, by rw [hb]; rfl⟩, fun fz w vs hok hgl hvs => ?_⟩
 have hlen := hvs.len
 refine calls_of_wp hf hb ?_
 have hsz : vs.size = ts.length := by simpa using hlen
 have hstart : SimE (Ctx.start w fz fn.ntmps) (AS.start ts).view { tmps := vs ++ Array.replicate (fn.ntmps - vs.size) undef, defers := [] } w fz noRen := by
  have hno : ∀ p, isOwn ((AS.start ts).view.at p) = false := by
   intro p
   cases p with
   | t i =>
    simp only [View.at, AS.view, AS.start]
    have := lk_zipFrom (ts.map Aw.dem) 0 i
    rw [Nat.zero_add] at this
    rw [this, List.getElem?_map]
    cases ts[i]? with
    | none => rfl
    | some x => exact isOwn_dem x
   | c b j => rfl
  refine {
   df := rfl, sz := ?_, tm := fun t => ?_, hp := fun b k hk => by simp [AS.view, AS.start, lk] at hk, dom := fun _ _ => rfl, inj := fun b b' c h => by simp [noRen] at h,
   fcell := hok.1, fobj := hok.2, gl := hgl, f0 := Fz.le_refl _, f1 := fun c _ _ => ⟨fun _ _ e => e, fun _ e => e⟩, tips := fun p e wd rows hp => ?_, tipinj := fun p q hp => ?_,
   os := rfl, tape := rfl, output := rfl, bsz := Nat.le_refl _, old := fun _ _ _ => rfl, mub := fun c hc => by simp [Ctx.start] at hc, keep := fun b c c' h1 => by simp [Ctx.start, noRen] at h1, hi := fun _ _ => rfl, muρ := fun b c h1 => by simp [Ctx.start, noRen] at h1 }
  ·simp only [Array.size_append, Array.size_replicate, Ctx.start]; omega
  ·simp only [AS.view, AS.start]
   have := lk_zipFrom (ts.map Aw.dem) 0 t
   rw [Nat.zero_add] at this
   rw [this, List.getElem?_map]
   cases hx : ts[t]? with
   | none => simp [Holds]
   | some x =>
    obtain ⟨v, hv, hh⟩ := hvs.get _ _ _ t x hx
    have hvs' : vs[t]? = some v := by simpa using hv
    have hlt : t < vs.size := (Array.getElem?_eq_some_iff.1 hvs').1
    have : (vs ++ Array.replicate (fn.ntmps - vs.size) undef).getD t undef = v := by
     rw [Array.getD_eq_getD_getElem?, Array.getElem?_append_left hlt, hvs']; rfl
    rw [this]
    exact hh.dem
  ·have := hno p; rw [hp] at this; cases this
  ·rw [hno p] at hp; cases hp
 refine wp_mono (h (Ctx.start w fz fn.ntmps) rfl (fun _ => rfl) (fun c o v hv => World.block_lt_of_cell? w _ (hok.1 c o v hv)) _ w ⟨fz, noRen, hstart⟩) ?_
 rintro e a' w' ⟨s', ⟨fz', ρ', hs⟩, he, l, hres, hrsv⟩
 obtain ⟨us, hus, hUL⟩ := resultsA_run hs _ _ hres
 have hval : ∃ v, (results fn a'.tmps).run P w' = .ok v w' ∧ Holds fz' (oneOf l) ρ' v := by
  have hm : (fn.results.mapM (resSem a'.tmps)).run P w' = .ok us.toArray w' := by
   rw [← Array.toArray_toList (xs := fn.results), List.mapM_toArray]
   simp only [Sem.run_map]
   rw [hus]
   rfl
  have hl2 := hUL.len
  refine ⟨if h : us.toArray.size = 1 then us.toArray[0] else .tuple us.toArray, ?_, ?_⟩
  ·rw [results_eq, Sem.run_bind, hm]
   simp
  ·cases l with
   | nil =>
    have : us = [] := List.eq_nil_of_length_eq_zero (by simpa using hl2)
    subst this
    simp [oneOf, Holds, HoldsL]
   | cons x l =>
    cases l with
    | nil =>
     simp only [HoldsL] at hUL
     obtain ⟨v, r', rfl, hv, rfl⟩ := hUL
     simpa [oneOf] using hv
    | cons y l =>
     have : ¬ us.toArray.size = 1 := by simp at hl2 ⊢; omega
     rw [dif_neg this]
     simp only [oneOf, Holds]
     exact ⟨_, rfl, by simpa using hUL⟩
 obtain ⟨v, hvr, hvh⟩ := hval
 have hshow : Shows (endFz fz' ρ' w') fz' w' ρ' := by
  refine ⟨⟨fun b o v e => ?_, fun b o e => ?_⟩, fun b c o v hb hc => ?_, fun b c o hb hc => ?_⟩
  ·simp only [endFz]; split
   ·exact hs.fcell b o v e
   ·exact e
  ·simp only [endFz]; split
   ·exact hs.fobj b o e
   ·exact e
  ·simp only [endFz]; rw [if_pos ⟨b, hb⟩]; exact hc
  ·simp only [endFz]; rw [if_pos ⟨b, hb⟩]; exact hc
 have hnotold : ∀ c, c < w.heap.size → ¬ ∃ b, ρ' b = some c := by
  rintro c hc ⟨b, hb⟩
  cases hk : s'.view.hp b with
  | none => rw [hs.dom b hk] at hb; cases hb
  | some k =>
   obtain ⟨c', hc', hBM, _⟩ := hs.hp b k hk
   rw [hb] at hc'; cases hc'
   rcases hBM with h | h
   ·simp only [Ctx.start] at h; omega
   ·simp [Ctx.start] at h
 have hR : ∃ v fz'', Ending.returned v = Ending.returned v ∧ (results fn a'.tmps).run P w' = .ok v w' ∧ Ext w w' ∧ fz.le fz'' ∧ FzOK fz'' w' ∧
   (∀ c, c < w.heap.size → (∀ o, fz''.cell c o = fz.cell c o) ∧ fz''.obj c = fz.obj c) ∧ Holds fz'' r noRen v ∧ ∀ el wd rows, r = .own el wd rows → TipNew fz'' w w' el wd rows v := by
  refine ⟨v, endFz fz' ρ' w', rfl, hvr, ⟨hs.os, hs.tape, hs.output, hs.bsz, fun k hk => hs.old k hk rfl⟩, Fz.le_trans hs.f0 hshow.le, ⟨fun c o v e => ?_, fun c o e => ?_⟩, fun c hc => ?_, ?_, ?_⟩
  ·simp only [endFz] at e; split at e
   ·exact e
   ·exact hs.fcell c o v e
  ·simp only [endFz] at e; split at e
   ·exact e
   ·exact hs.fobj c o e
  ·have hno := hnotold c hc
   simp only [endFz]
   constructor
   ·intro o
    rw [if_neg hno]
    cases e : fz'.cell c o with
    | none =>
     cases e2 : fz.cell c o with
     | none => rfl
     | some u => have := hs.f0.1 c o u e2; rw [e] at this; cases this
    | some u => exact ((hs.f1 c hc rfl).1 o u e).symm
   ·rw [if_neg hno]
    cases e : fz'.obj c with
    | none =>
     cases e2 : fz.obj c with
     | none => rfl
     | some u => have := hs.f0.2 c u e2; rw [e] at this; cases this
    | some u => exact ((hs.f1 c hc rfl).2 u e).symm
  ·exact hrsv.holds hs hshow (fun b k hk => hk) v hvh
  ·intro el wd rows hr
   subst hr
   -- r is owned: it is the one result, a slot's
   have hone : oneOf l = .own el wd rows := by
    generalize oneOf l = x at hrsv
    cases hrsv; rfl
   obtain ⟨x, rfl⟩ : ∃ x, l = [x] := by
    cases l with
    | nil => simp [oneOf] at hone
    | cons x l => cases l with
     | nil => exact ⟨x, rfl⟩
     | cons y l => simp [oneOf] at hone
   simp only [oneOf] at hone
   subst hone
   cases hvars : fn.results.toList with
   | nil => rw [hvars] at hres; simp [resultsA] at hres
   | cons var rest =>
    rw [hvars] at hres
    simp only [resultsA] at hres
    split at hres
    ·rename_i x' l' hx' hl'
     simp only [Option.some.injEq, List.cons.injEq] at hres
     obtain ⟨rfl, rfl⟩ := hres
     obtain ⟨u, hu, hh, hp⟩ := resultA_run hs hx'
     obtain ⟨p, hp1, hp2⟩ := hp rfl
     have htip := hs.tips p _ _ _ hp1
     have hrest : rest = [] := by
      cases rest with
      | nil => rfl
      | cons v2 r2 =>
       simp only [resultsA] at hl'
       split at hl' <;> simp at hl'
     subst hrest
     have huv : u = v := by
      have hm : fn.results = #[var] := by apply Array.toList_inj.1; simpa using hvars
      rw [results_eq, hm] at hvr
      simp only [Sem.run_bind] at hvr
      cases var with
      | tmp t => simp [resSem] at hvr hu; rw [← hu, hvr]
      | cell t ty =>
       have hone : (#[ResultVar.cell t ty].mapM (resSem a'.tmps)).run P w' = .ok #[u] w' := by
        simp [hu]
       rw [hone] at hvr
       simp at hvr; exact hvr
     rw [hp2, huv] at htip
     rcases htip with hh | ⟨g, cap, cur, x1, x2, x3, x4, x5, x6, x7, x8, x9⟩
     ·exact .inl hh
     ·refine .inr ⟨g, cap, cur, x1, by simpa [Ctx.start] using x2, x3, x4, x5, x6, fun o ho => ?_, ?_⟩
      ·simp only [endFz]; rw [if_neg (fun ⟨b, hb⟩ => x9 b hb)]; exact x7 o ho
      ·simp only [endFz]; rw [if_neg (fun ⟨b, hb⟩ => x9 b hb)]; exact x8
    ·cases hres
 obtain ⟨v', fz'', _, hr1, hr2⟩ := hR
 rcases he with rfl | rfl
 ·exact ⟨hs.df, v', hr1, v', fz'', rfl, hr2⟩
 ·exact ⟨hs.df, v', hr1, v', fz'', rfl, hr2⟩

theorem Con.of_code {f : FuncId} {fn : Func} {c : Code} {ts : List AV} {r : AV} (hf : P.funcs[f]? = some fn) (hn : (fn.name == "runtime.NumGoroutine") = false) (hb : fn.body = some c) (hl : ts.length ≤ fn.ntmps)
  (h : ∀ C : Ctx, C.N = fn.ntmps → (∀ c, C.Mu c = false) → AWp P C c (fun e s => (e = .normal ∨ e = .ret) ∧ Ends P fn.results.toList r s) (AS.start ts)) : Con P f ts r :=
 Con.of_code2 hf hn hb hl fun C h1 h2 _ => h C h1 h2
end Go.Aw
