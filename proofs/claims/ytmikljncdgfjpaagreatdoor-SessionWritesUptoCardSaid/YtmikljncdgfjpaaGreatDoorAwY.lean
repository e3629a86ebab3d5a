/- Freezing: blocks that nobody writes any more become trees that are read. -/
import Derived.Test.YtmikljncdgfjpaaGreatDoorAwV
set_option linter.unusedSimpArgs false
set_option linter.unusedVariables false
namespace Go.Aw
variable {P : Program} {C : Ctx} {V : View} {a : Act} {w : World} {fz : Fz} {ρ : Ren}
open Classical in
noncomputable def frzFz (fz : Fz) (ρ : Ren) (Bs : List Nat) (w : World) : Fz :=
  { cell := fun c o => if ∃ b, Bs.contains b = true ∧ ρ b = some c then w.cell? ⟨c, o, none⟩ else fz.cell c o, obj := fun c => if ∃ b, Bs.contains b = true ∧ ρ b = some c then w.heap[c]? else fz.obj c }
/-- y is x, where the blocks Bs (as g has them) are frozen; x may name those of keep too, but not both -/
def FV (keep Bs : List Nat) (g : Nat → Option Blk) (x y : AV) : Prop := (x = y ∧ within keep x = true) ∨ (isOwn y = false ∧ ((within keep x = true ∧ Wk x y) ∨ (within Bs x = true ∧ ∃ z, Rsv g x z ∧ Wk z y)))
inductive FVL (keep Bs : List Nat) (g : Nat → Option Blk) : List AV → List AV → Prop
  | nil : FVL keep Bs g [] []
  | cons {x y : AV} {l l' : List AV} : FV keep Bs g x y → FVL keep Bs g l l' → FVL keep Bs g (x :: l) (y :: l')
def FB (keep Bs : List Nat) (g : Nat → Option Blk) : Blk → Blk → Prop
  | .cells e cs, .cells e' cs' => e = e' ∧ FVL keep Bs g cs cs'
  | .map ks vs, .map ks' vs' => ks = ks' ∧ FVL keep Bs g vs vs'
  | .mapd ks vs, .mapd ks' vs' => ks = ks' ∧ FVL keep Bs g vs vs'
  | _, _ => False
theorem FVL.refl {keep Bs : List Nat} {g : Nat → Option Blk} : ∀ {l : List AV}, withinL keep l = true → FVL keep Bs g l l
  | [], _ => .nil
  | x :: l, h => by simp only [withinL, Bool.and_eq_true] at h; exact .cons (.inl ⟨rfl, h.1⟩) (FVL.refl h.2)
theorem FVL.set {keep Bs : List Nat} {g : Nat → Option Blk} {x y : AV} (hx : FV keep Bs g x y) : ∀ {l l' : List AV} (i : Nat), FVL keep Bs g l l' → FVL keep Bs g (l.set i x) (l'.set i y)
  | _, _, _, .nil => by simp; exact .nil
  | _, _, 0, .cons _ hl => .cons hx hl
  | _, _, i + 1, .cons h hl => .cons h (FVL.set hx i hl)
theorem FVL.getD {keep Bs : List Nat} {g : Nat → Option Blk} : ∀ {l l' : List AV}, FVL keep Bs g l l' → ∀ j, FV keep Bs g (l.getD j .unk) (l'.getD j .unk)
  | _, _, .nil, _ => .inl ⟨rfl, by simp [within]⟩
  | _, _, .cons h _, 0 => h
  | _, _, .cons _ hl, j + 1 => by simpa using hl.getD j
theorem FB.at {keep Bs : List Nat} {g : Nat → Option Blk} {k k' : Blk} (h : FB keep Bs g k k') (j : Nat) : FV keep Bs g (k.at j) (k'.at j) := by
  cases k <;> cases k' <;> simp only [FB] at h
  · exact h.2.getD j
  · exact h.2.getD j
  · exact h.2.getD j
theorem SimE.freeze (h : SimE C V a w fz ρ) (keep Bs : List Nat) {V' : View} {g : Nat → Option Blk}
    (hdis : ∀ b, keep.contains b = true → Bs.contains b = false)
    (hg : ∀ b k, g b = some k → Bs.contains b = true ∧ V.hp b = some k) (hgw : ∀ b k, V.hp b = some k → Bs.contains b = true → k.within Bs)
    (ht : ∀ t, FV keep Bs g (V.tm t) (V'.tm t) ∨ V'.tm t = .unk)
    (hk : ∀ b, V'.hp b = none ∨ (keep.contains b = true ∧ ∃ k k', V.hp b = some k ∧ V'.hp b = some k' ∧ FB keep Bs g k k')) (hall : ∀ b, keep.contains b = true → V'.hp b ≠ none) : Sim C V' a w := by
  let F := frzFz fz ρ Bs w
  let ρ' : Ren := fun b => if keep.contains b then ρ b else none
  let ρ1 : Ren := fun b => if Bs.contains b then ρ b else none
  have hle : fz.le F := by
    constructor
    · intro c o v e
      simp only [F, frzFz]
      split
      · exact h.fcell c o v e
      · exact e
    · intro c o e
      simp only [F, frzFz]
      split
      · exact h.fobj c o e
      · exact e
  -- a call that has the frozen blocks only
  obtain ⟨V1, hV1t, hV1h⟩ : ∃ V1 : View, (∀ t, V1.tm t = .unk) ∧ ∀ b, V1.hp b = if Bs.contains b then V.hp b else none := ⟨⟨fun _ => .unk, fun b => if Bs.contains b then V.hp b else none⟩, fun _ => rfl, fun _ => rfl⟩
  have hs1 : SimE C V1 a w fz ρ1 := by
    have hρ : ∀ b, Bs.contains b = true → ρ1 b = ρ b := fun b hb => by simp only [ρ1, hb, if_true]
    have hat : ∀ p, isOwn (V1.at p) = true → V1.at p = V.at p ∧ conc a w ρ1 p = conc a w ρ p := by
      intro p hp
      cases p with
      | t i => simp only [View.at, hV1t] at hp; cases hp
      | c b j =>
        simp only [View.at, hV1h] at hp ⊢
        split at hp
        · rename_i hl
          exact ⟨by rw [if_pos hl], by simp only [conc, hρ b hl]⟩
        · simp [isOwn] at hp
    refine { h with
      tm := fun t => by rw [hV1t]; simp only [Holds], hp := fun b k hk => ?_, dom := fun b hb' => ?_, inj := fun b b' c h1 h2 => ?_, tips := fun p e wd rows hp => ?_, tipinj := fun p q hp hq g g' n n' c c' hgp hgq hg => ?_,
      keep := fun b c c' h1 h2 => by simp only [ρ1] at h2; split at h2; exact h.keep b c c' h1 h2; cases h2 }
    · rw [hV1h] at hk
      split at hk
      · rename_i hl
        obtain ⟨c, hc, h1, h2, h3⟩ := h.hp b k hk
        refine ⟨c, by rw [hρ b hl]; exact hc, h1, ?_, h3⟩
        have hw := hgw b k hk hl
        cases k with
        | cells e cs => obtain ⟨cur, x1, x2, x3⟩ := h2; exact ⟨cur, x1, x2.within hρ _ _ hw, x3⟩
        | map ks vs => obtain ⟨es, clock, x1, x2, x3, x4⟩ := h2; exact ⟨es, clock, x1, x2, x3.within hρ _ _ hw, x4⟩
        | mapd ks vs => obtain ⟨es, clock, x1, x2, x3, x4⟩ := h2; exact ⟨es, clock, x1, x2, x3.within hρ _ _ hw, x4⟩
      · cases hk
    · rw [hV1h] at hb'
      simp only [ρ1]
      split at hb'
      · rename_i hl; rw [if_pos hl]; exact h.dom b hb'
      · rename_i hl; rw [if_neg hl]
    · simp only [ρ1] at h1 h2
      split at h1
      · split at h2
        · exact h.inj b b' c h1 h2
        · cases h2
      · cases h1
    · obtain ⟨h1, h2⟩ := hat p (by rw [hp]; rfl)
      rw [h2]
      rcases h.tips p e wd rows (by rw [← h1]; exact hp) with hh | ⟨g, cap, cur, x1, x2, x3, x4, x5, x6, x7, x8, x9⟩
      · exact .inl hh
      · refine .inr ⟨g, cap, cur, x1, x2, x3, x4, x5, x6, x7, x8, fun b => ?_⟩
        simp only [ρ1]
        split
        · exact x9 b
        · simp
    · obtain ⟨h1, h2⟩ := hat p hp
      obtain ⟨h3, h4⟩ := hat q hq
      exact h.tipinj p q (by rw [← h1]; exact hp) (by rw [← h3]; exact hq) g g' n n' c c' (by rw [← h2]; exact hgp) (by rw [← h4]; exact hgq) hg
  have hshow : Shows F fz w ρ1 := by
    refine ⟨hle, fun b c o v hb hc => ?_, fun b c o hb hc => ?_⟩
    · simp only [ρ1] at hb
      split at hb
      · rename_i hl; simp only [F, frzFz]; rw [if_pos ⟨b, hl, hb⟩]; exact hc
      · cases hb
    · simp only [ρ1] at hb
      split at hb
      · rename_i hl; simp only [F, frzFz]; rw [if_pos ⟨b, hl, hb⟩]; exact hc
      · cases hb
  have hg1 : ∀ b k, g b = some k → V1.hp b = some k := fun b k e => by rw [hV1h, if_pos (hg b k e).1]; exact (hg b k e).2
  have hρ1 : ∀ b, Bs.contains b = true → ρ1 b = ρ b := fun b hb => by simp only [ρ1, hb, if_true]
  have hρ' : ∀ b, keep.contains b = true → ρ' b = ρ b := fun b hb => by simp only [ρ', hb, if_true]
  have hFV : ∀ {x y : AV} {v : Value}, FV keep Bs g x y → Holds fz x ρ v → Holds F y ρ' v := by
    intro x y v hxy hv
    rcases hxy with ⟨rfl, hw⟩ | ⟨_, ⟨hw, hk⟩ | ⟨hw, z, hr, hk⟩⟩
    · exact (hv.mono hle _ _ _ _ (Ren.le_refl _)).within hρ' _ _ hw
    · exact hk.holds _ _ ((hv.mono hle _ _ _ _ (Ren.le_refl _)).within hρ' _ _ hw)
    · have hb := hk.holds _ _ (hr.holds hs1 hshow hg1 v (hv.within hρ1 _ _ hw))
      exact hb.mono (Fz.le_refl _) _ _ _ _ (fun b c e => by simp [noRen] at e)
  have hFVL : ∀ {l l' : List AV}, FVL keep Bs g l l' → ∀ vs, HoldsL fz l ρ vs → HoldsL F l' ρ' vs := by
    intro l l' hl
    induction hl with
    | nil => intro vs hv; exact hv
    | cons hx _ ih =>
      intro vs hv
      simp only [HoldsL] at hv ⊢
      obtain ⟨v, r, e, h1, h2⟩ := hv
      exact ⟨v, r, e, hFV hx h1, ih r h2⟩
  have hFno : ∀ c, (∀ b, Bs.contains b = true → ρ b ≠ some c) → (∀ o, F.cell c o = fz.cell c o) ∧ F.obj c = fz.obj c := by
    intro c hc
    have : ¬ ∃ b, Bs.contains b = true ∧ ρ b = some c := fun ⟨b, h1, h2⟩ => hc b h1 h2
    exact ⟨fun o => by simp only [F, frzFz]; rw [if_neg this], by simp only [F, frzFz]; rw [if_neg this]⟩
  have hat : ∀ p, isOwn (V'.at p) = true → V'.at p = V.at p ∧ conc a w ρ' p = conc a w ρ p := by
    intro p hp
    cases p with
    | t i =>
      simp only [View.at] at hp ⊢
      rcases ht i with hf | hu
      · rcases hf with ⟨e, _⟩ | ⟨ho, _⟩
        · exact ⟨e.symm, rfl⟩
        · rw [ho] at hp; cases hp
      · rw [hu] at hp; cases hp
    | c b j =>
      simp only [View.at] at hp ⊢
      rcases hk b with hn | ⟨hkb, k, k', h1, h2, h3⟩
      · rw [hn] at hp; cases hp
      · rw [h2] at hp
        rw [h1, h2]
        simp only [Option.map_some, Option.getD_some] at hp ⊢
        rcases h3.at j with ⟨e, _⟩ | ⟨ho, _⟩
        · exact ⟨e.symm, by simp only [conc, hρ' b hkb]⟩
        · rw [ho] at hp; cases hp
  refine ⟨F, ρ', { h with
    tm := fun t => ?_, hp := fun b k hkk => ?_, dom := fun b hb' => ?_, inj := fun b b' c h1 h2 => ?_, fcell := fun c o v e => ?_, fobj := fun c o e => ?_, f0 := Fz.le_trans h.f0 hle, f1 := fun c hc hcm => ?_,
    tips := fun p e wd rows hp => ?_, tipinj := fun p q hp hq g g' n n' c c' hgp hgq hg => ?_,
    keep := fun b c c' h1 h2 => by simp only [ρ'] at h2; split at h2; exact h.keep b c c' h1 h2; cases h2 }⟩
  · rcases ht t with hf | hu
    · exact hFV hf (h.tm t)
    · rw [hu]; simp only [Holds]
  · rcases hk b with hn | ⟨hkb, k1, k', h1, h2, h3⟩
    · rw [hn] at hkk; cases hkk
    · rw [h2] at hkk; cases hkk
      obtain ⟨c, hc, hB, hblk, hc1, hc2⟩ := h.hp b k1 h1
      have hno : ∀ b', Bs.contains b' = true → ρ b' ≠ some c := by
        intro b' hb' e
        have := h.inj b b' c hc e
        subst this
        rw [hdis b hkb] at hb'; cases hb'
      have hF := hFno c hno
      refine ⟨c, by rw [hρ' b hkb]; exact hc, hB, ?_, fun o => by rw [hF.1]; exact hc1 o, by rw [hF.2]; exact hc2⟩
      cases k1 with
      | cells e cs =>
        cases k with
        | cells e' cs' => simp only [FB] at h3; obtain ⟨rfl, h3⟩ := h3; obtain ⟨cur, x1, x2, x3⟩ := hblk; exact ⟨cur, x1, hFVL h3 _ x2, x3⟩
        | map ks vs => simp only [FB] at h3
        | mapd ks vs => simp only [FB] at h3
      | map ks vs =>
        cases k with
        | cells e' cs' => simp only [FB] at h3
        | map ks' vs' => simp only [FB] at h3; obtain ⟨rfl, h3⟩ := h3; obtain ⟨es, clock, x1, x2, x3, x4⟩ := hblk; exact ⟨es, clock, x1, x2, hFVL h3 _ x3, x4⟩
        | mapd ks vs => simp only [FB] at h3
      | mapd ks vs =>
        cases k with
        | cells e' cs' => simp only [FB] at h3
        | map ks vs => simp only [FB] at h3
        | mapd ks' vs' => simp only [FB] at h3; obtain ⟨rfl, h3⟩ := h3; obtain ⟨es, clock, x1, x2, x3, x4⟩ := hblk; exact ⟨es, clock, x1, x2, hFVL h3 _ x3, x4⟩
  · simp only [ρ']
    split
    · rename_i hl; exact absurd hb' (hall b hl)
    · rfl
  · simp only [ρ'] at h1 h2
    split at h1
    · split at h2
      · exact h.inj b b' c h1 h2
      · cases h2
    · cases h1
  · simp only [F, frzFz] at e
    split at e
    · exact e
    · exact h.fcell c o v e
  · simp only [F, frzFz] at e
    split at e
    · exact e
    · exact h.fobj c o e
  · have hno : ∀ b, Bs.contains b = true → ρ b ≠ some c := by
      intro b _ e
      cases hkb : V.hp b with
      | none => rw [h.dom b hkb] at e; cases e
      | some k =>
        obtain ⟨c', hc', hB, _⟩ := h.hp b k hkb
        rw [e] at hc'; cases hc'
        rcases hB with hB | hB
        · omega
        · rw [hcm] at hB; cases hB
    have hF := hFno c hno
    exact ⟨fun o v e => (h.f1 c hc hcm).1 o v (by rw [← hF.1]; exact e), fun o e => (h.f1 c hc hcm).2 o (by rw [← hF.2]; exact e)⟩
  · obtain ⟨h1, h2⟩ := hat p (by rw [hp]; rfl)
    rw [h2]
    rcases h.tips p e wd rows (by rw [← h1]; exact hp) with hh | ⟨g, cap, cur, x1, x2, x3, x4, x5, x6, x7, x8, x9⟩
    · exact .inl hh
    · have hF := hFno g (fun b _ => x9 b)
      refine .inr ⟨g, cap, cur, x1, x2, x3, x4, x5, x6, fun o ho => by rw [hF.1]; exact x7 o ho, by rw [hF.2]; exact x8, fun b => ?_⟩
      simp only [ρ']
      split
      · exact x9 b
      · simp
  · obtain ⟨h1, h2⟩ := hat p hp
    obtain ⟨h3, h4⟩ := hat q hq
    exact h.tipinj p q (by rw [← h1]; exact hp) (by rw [← h3]; exact hq) g g' n n' c c' (by rw [← h2]; exact hgp) (by rw [← h4]; exact hgq) hg

def frzTm (keep Bs : List Nat) (g : Nat → Option Blk) (s : AS) : List (Nat × AV) → Prop
  | [] => True
  | (t, y) :: r => FV keep Bs g ((lk s.tm t).getD .unk) y ∧ frzTm keep Bs g s r
def frzHp (keep Bs : List Nat) (g : Nat → Option Blk) (s : AS) : List (Nat × Blk) → Prop
  | [] => True
  | (b, k') :: r => (match lk s.hp b with | some k => FB keep Bs g k k' | none => False) ∧ frzHp keep Bs g s r
def frzBs (Bs : List Nat) (s : AS) : List Nat → Prop
  | [] => True
  | b :: r => (match lk s.hp b with | some k => k.within Bs | none => True) ∧ frzBs Bs s r
def frzG (Bs : List Nat) (s : AS) : Nat → Option Blk := fun b => if Bs.contains b then lk s.hp b else none
structure Frz (Bs : List Nat) (s' s : AS) : Prop where
  dis : (s'.hp.map (·.1)).all (fun b => !Bs.contains b) = true
  bs : frzBs Bs s Bs
  tm : frzTm (s'.hp.map (·.1)) Bs (frzG Bs s) s s'.tm
  hp : frzHp (s'.hp.map (·.1)) Bs (frzG Bs s) s s'.hp
theorem frzTm_get {keep Bs : List Nat} {g : Nat → Option Blk} {s : AS} : ∀ {r : List (Nat × AV)}, frzTm keep Bs g s r → ∀ t y, lk r t = some y → FV keep Bs g ((lk s.tm t).getD .unk) y
  | [], _, t, y, h => by simp [lk] at h
  | (u, z) :: r, hw, t, y, h => by
    simp only [frzTm] at hw
    simp only [lk] at h
    split at h
    · rename_i e; subst e; cases h; exact hw.1
    · exact frzTm_get hw.2 t y h
theorem frzHp_get {keep Bs : List Nat} {g : Nat → Option Blk} {s : AS} : ∀ {r : List (Nat × Blk)}, frzHp keep Bs g s r → ∀ b k', lk r b = some k' → ∃ k, lk s.hp b = some k ∧ FB keep Bs g k k'
  | [], _, t, y, h => by simp [lk] at h
  | (u, z) :: r, hw, t, y, h => by
    simp only [frzHp] at hw
    simp only [lk] at h
    split at h
    · rename_i e; subst e; cases h
      have h1 := hw.1
      split at h1
      · rename_i k hk; exact ⟨k, hk, h1⟩
      · exact h1.elim
    · exact frzHp_get hw.2 t y h
theorem frzBs_get {Bs : List Nat} {s : AS} : ∀ {r : List Nat}, frzBs Bs s r → ∀ b k, r.contains b = true → lk s.hp b = some k → k.within Bs
  | [], _, b, k, h, _ => by simp at h
  | u :: r, hw, b, k, h, hk => by
    simp only [frzBs] at hw
    by_cases e : b = u
    · subst e; have h1 := hw.1; rw [hk] at h1; exact h1
    · refine frzBs_get hw.2 b k ?_ hk
      simpa [e] using h
theorem AWp.freezeM {c : Code} {Q : Exit → AS → Prop} {s : AS} (Bs : List Nat) (s' : AS) (hf : Frz Bs s' s) (h : AWp P C c Q s') : AWp P C c Q s := by
  intro a w ⟨fz, ρ, hs⟩
  refine h a w (hs.freeze (s'.hp.map (·.1)) Bs (g := frzG Bs s) (fun b hb => ?_) (fun b k hg => ?_) (fun b k hb hc => ?_) (fun t => ?_) (fun b => ?_) (fun b hb => ?_))
  · have := List.all_eq_true.1 hf.dis b (by simpa using hb)
    simpa using this
  · simp only [frzG] at hg
    split at hg
    · rename_i hb; exact ⟨hb, hg⟩
    · cases hg
  · exact frzBs_get hf.bs b k hc hb
  · cases hx : lk s'.tm t with
    | none => right; simp [AS.view, hx]
    | some y => left; have := frzTm_get hf.tm t y hx; simpa [AS.view, hx] using this
  · cases hx : lk s'.hp b with
    | none => exact .inl hx
    | some k' =>
      obtain ⟨k, h1, h2⟩ := frzHp_get hf.hp b k' hx
      exact .inr ⟨by rw [lk_some_of_mem]; exact ⟨k', hx⟩, k, k', h1, hx, h2⟩
  · rw [lk_some_of_mem] at hb
    obtain ⟨k, hk⟩ := hb
    intro e; simp only [AS.view] at e; rw [hk] at e; cases e
theorem AWp.freeze {c : Code} {Q : Exit → AS → Prop} {s : AS} (_ : ∀ c, C.Mu c = false) (Bs : List Nat) (s' : AS) (hf : Frz Bs s' s) (h : AWp P C c Q s') : AWp P C c Q s := AWp.freezeM Bs s' hf h
attribute [simp] frzTm frzHp frzBs FV FB
end Go.Aw
