/- Ownership moves from place to place. -/
import Derived.Test.YtlkilbfegcplmaaAwC
set_option linter.unusedSimpArgs false
set_option linter.unusedVariables false
namespace Go.Aw
variable {C : Ctx} {V : View} {a : Act} {w : World} {fz : Fz} {ρ : Ren}

theorem View.hp_setAt_c {V : View} {b j : Nat} {k : Blk} (hk : V.hp b = some k) (y : AV) : (V.setAt (.c b j) y).hp = fun c => if c = b then some (k.set j y) else V.hp c := by
  simp [View.setAt, hk, View.setB]
theorem View.tm_setAt_c {V : View} {b j : Nat} (y : AV) : (V.setAt (.c b j) y).tm = V.tm := by
  simp only [View.setAt]; split <;> rfl

theorem HoldsL.set_same {fz : Fz} {l : List AV} {ρ : Ren} {vs : List Value} (h : HoldsL fz l ρ vs) (i : Nat) (y : AV) (hy : ∀ x v, l[i]? = some x → vs[i]? = some v → Holds fz y ρ v) : HoldsL fz (l.set i y) ρ vs := by
  have hl := h.len
  refine HoldsL.of_get _ _ _ (by simp [hl]) fun j z u hz hu => ?_
  rw [List.getElem?_set] at hz
  by_cases hij : i = j
  · subst hij
    simp only [if_true] at hz
    split at hz
    · rename_i hlt
      cases hz
      exact hy l[i] u (by simp) hu
    · cases hz
  · simp only [hij, if_false] at hz
    obtain ⟨u', hu', hh⟩ := h.get _ _ _ j z hz
    rw [hu] at hu'; cases hu'; exact hh

/-- the same value, read otherwise -/
theorem SimE.reflag (h : SimE C V a w fz ρ) {p : Pl} (hp : V.hasPl p) {y : AV} (hy : ∀ v, Holds fz (V.at p) ρ v → Holds fz y ρ v)
    (htip : ∀ e wd rows, y = .own e wd rows → TipOK C fz ρ w e wd rows (conc a w ρ p))
    (huniq : isOwn y = true → ∀ q, q ≠ p → isOwn (V.at q) = true → ∀ g g' n n' c c', conc a w ρ p = .slice (some g) n c → conc a w ρ q = .slice (some g') n' c' → g.block ≠ g'.block) :
    SimE C (V.setAt p y) a w fz ρ := by
  have hat := fun q => View.at_setAt V p q y hp
  have tips : ∀ q e wd rows, (V.setAt p y).at q = .own e wd rows → TipOK C fz ρ w e wd rows (conc a w ρ q) := by
    intro q e wd rows hq
    rw [hat q] at hq
    by_cases e1 : q = p
    · rw [if_pos e1] at hq; subst e1; exact htip e wd rows hq
    · rw [if_neg e1] at hq; exact h.tips q e wd rows hq
  have tipinj : ∀ q r, isOwn ((V.setAt p y).at q) = true → isOwn ((V.setAt p y).at r) = true → ∀ g g' n n' c c', conc a w ρ q = .slice (some g) n c → conc a w ρ r = .slice (some g') n' c' → g.block = g'.block → q = r := by
    intro q r hq hr g g' n n' c c' h1 h2 h3
    rw [hat q] at hq; rw [hat r] at hr
    by_cases e1 : q = p <;> by_cases e2 : r = p
    · rw [e1, e2]
    · rw [if_pos e1] at hq; rw [if_neg e2] at hr; subst e1; exact absurd h3 (huniq hq r e2 hr g g' n n' c c' h1 h2)
    · rw [if_neg e1] at hq; rw [if_pos e2] at hr; subst e2; exact absurd h3.symm (huniq hr q e1 hq g' g n' n c' c h2 h1)
    · rw [if_neg e1] at hq; rw [if_neg e2] at hr; exact h.tipinj q r hq hr g g' n n' c c' h1 h2 h3
  cases p with
  | t i =>
    refine { h with
      tm := fun t => ?_, tips := tips, tipinj := tipinj }
    simp only [View.setAt, View.put]
    split
    · rename_i e; subst e; exact hy _ (h.tm t)
    · exact h.tm t
  | c b j =>
    obtain ⟨k, hk, hj⟩ := hp
    have hhp := View.hp_setAt_c (j := j) hk y
    refine { h with
      tm := fun t => ?_, hp := fun b' k' hk' => ?_, dom := fun b' hb' => ?_, tips := tips, tipinj := tipinj }
    · rw [View.tm_setAt_c]; exact h.tm t
    · rw [hhp] at hk'
      simp only at hk'
      by_cases e : b' = b
      · subst e
        simp only [if_true] at hk'; cases hk'
        obtain ⟨c, hc, h1, h2, h3⟩ := h.hp b' k hk
        refine ⟨c, hc, h1, ?_, h3⟩
        have hya : ∀ v, Holds fz (k.at j) ρ v → Holds fz y ρ v := by
          intro v hv; exact hy v (by simpa [View.at, hk] using hv)
        cases k with
        | cells e cs =>
          obtain ⟨cur, x1, x2, x3⟩ := h2
          refine ⟨cur, x1, x2.set_same j y fun x v hx hv => ?_, x3⟩
          obtain ⟨v', hv', hh⟩ := x2.get _ _ _ j x hx
          rw [hv] at hv'; cases hv'
          exact hya v (by simpa [Blk.at, hx] using hh)
        | map ks vs =>
          obtain ⟨es, clock, x1, x2, x3, x4⟩ := h2
          refine ⟨es, clock, x1, x2, x3.set_same j y fun x v hx hv => ?_, x4⟩
          obtain ⟨v', hv', hh⟩ := x3.get _ _ _ j x hx
          rw [hv] at hv'; cases hv'
          exact hya v (by simpa [Blk.at, hx] using hh)
        | mapd ks vs =>
          obtain ⟨es, clock, x1, x2, x3, x4⟩ := h2
          refine ⟨es, clock, x1, x2, x3.set_same j y fun x v hx hv => ?_, x4⟩
          obtain ⟨v', hv', hh⟩ := x3.get _ _ _ j x hx
          rw [hv] at hv'; cases hv'
          exact hya v (by simpa [Blk.at, hx] using hh)
      · simp only [e, if_false] at hk'; exact h.hp b' k' hk'
    · rw [hhp] at hb'
      simp only at hb'
      by_cases e : b' = b
      · subst e; simp at hb'
      · simp only [e, if_false] at hb'; exact h.dom b' hb'

theorem SimE.demote (h : SimE C V a w fz ρ) {p : Pl} (hp : V.hasPl p) : SimE C (V.setAt p (dem (V.at p))) a w fz ρ :=
  h.reflag hp (fun _ hv => hv.dem) (fun e wd rows he => by have := isOwn_dem (V.at p); rw [he] at this; cases this) (fun ho => by rw [isOwn_dem] at ho; cases ho)

/-- what p owns, q owns: both hold the same value -/
theorem SimE.move (h : SimE C V a w fz ρ) {p q : Pl} (hpq : p ≠ q) (hp : isOwn (V.at p) = true) (hq : V.hasPl q) (hqo : V.at q = dem (V.at p)) (hc : conc a w ρ q = conc a w ρ p) :
    SimE C ((V.setAt p (dem (V.at p))).setAt q (V.at p)) a w fz ρ := by
  have hpl := View.hasPl_of_own hp
  have h1 := h.demote hpl
  have hat := fun r => View.at_setAt V p r (dem (V.at p)) hpl
  obtain ⟨e, wd, rows, hown⟩ : ∃ e wd rows, V.at p = .own e wd rows := by
    cases hx : V.at p <;> simp only [hx, isOwn] at hp <;> first | exact ⟨_, _, _, rfl⟩ | cases hp
  have htip := h.tips p e wd rows hown
  refine h1.reflag ?_ (fun v hv => ?_) (fun e' wd' rows' he => ?_) (fun _ r hr hro g g' n n' c c' hg hg' => ?_)
  · cases q with
    | t i => trivial
    | c b j =>
      obtain ⟨k, hk, hj⟩ := hq
      cases p with
      | t i => exact ⟨k, hk, hj⟩
      | c b' j' =>
        obtain ⟨k', hk', hj'⟩ := hpl
        have hhp := View.hp_setAt_c (j := j') hk' (dem (V.at (.c b' j')))
        by_cases e2 : b = b'
        · subst e2
          rw [hk] at hk'; cases hk'
          refine ⟨k.set j' (dem (V.at (.c b j'))), by rw [hhp]; simp, ?_⟩
          cases k <;> simpa [Blk.set, Blk.len] using hj
        · exact ⟨k, by rw [hhp]; simp [e2, hk], hj⟩
  · rw [hat q, if_neg (fun h => hpq h.symm), hqo, hown] at hv
    rw [hown]; simpa only [Aw.dem, Holds] using hv
  · rw [hown] at he; cases he
    rw [hc]; exact htip
  · have hrp : r ≠ p := by
      rintro rfl
      rw [hat r, if_pos rfl, isOwn_dem] at hro; cases hro
    rw [hat r, if_neg hrp] at hro
    intro hgg
    rw [hc] at hg
    exact hrp (h.tipinj p r hp hro g g' n n' c c' hg hg' hgg).symm

/-- a slot takes what a place owns (or reads) -/
theorem SimE.take (h : SimE C V a w fz ρ) {p : Pl} (hp : V.hasPl p) {d : Nat} (hd : d < C.N) (hne : p ≠ .t d) (hv : Holds fz (V.at p) ρ (conc a w ρ p)) :
    SimE C ((V.setAt p (dem (V.at p))).put d (V.at p)) (a.put (some d) (conc a w ρ p)) w fz ρ := by
  have hd' : d < a.tmps.size := by rw [h.sz]; exact hd
  have h1 := h.put hd hv.dem (isOwn_dem _)
  have hatp : (V.put d (dem (V.at p))).at p = V.at p := by
    cases p with
    | t i => have : i ≠ d := fun e => hne (by rw [e]); simp [View.at, View.put, this]
    | c b j => rfl
  have hconc : conc (a.put (some d) (conc a w ρ p)) w ρ p = conc a w ρ p := by
    cases p with
    | t i => have : i ≠ d := fun e => hne (by rw [e]); rw [conc_put_t _ _ _ hd', if_neg this]
    | c b j => rfl
  have hcommV : ∀ x, (V.put d x).setAt p (dem (V.at p)) = (V.setAt p (dem (V.at p))).put d x := by
    intro x
    cases p with
    | t i =>
      have : i ≠ d := fun e => hne (by rw [e])
      simp only [View.setAt, View.put, View.mk.injEq, and_true]
      funext t
      by_cases e1 : t = i <;> by_cases e2 : t = d
      · omega
      · simp [e1, this]
      · simp [e2, this.symm]
      · simp [e1, e2]
    | c b j =>
      cases hk : V.hp b with
      | none => simp [View.setAt, View.put, hk]
      | some k => simp [View.setAt, View.put, hk, View.setB]
  by_cases ho : isOwn (V.at p) = true
  · have h2 := h1.move (p := p) (q := .t d) hne (by rw [hatp]; exact ho) trivial (by rw [hatp]; simp [View.at, View.put]) (by rw [conc_put_t _ _ _ hd', if_pos rfl, hconc])
    rw [hatp, hcommV] at h2
    have : (((V.setAt p (dem (V.at p))).put d (dem (V.at p))).setAt (.t d) (V.at p)) = (V.setAt p (dem (V.at p))).put d (V.at p) := by
      simp only [View.setAt, View.put, View.mk.injEq, and_true]
      funext t; split <;> rfl
    rw [this] at h2
    exact h2
  · have ho' : isOwn (V.at p) = false := by simpa using ho
    have hdem : dem (V.at p) = V.at p := by cases hx : V.at p <;> simp_all [isOwn, Aw.dem]
    have h2 := h1.reflag (p := p) (y := dem (V.at p)) (by cases p with | t i => trivial | c b j => exact hp) (fun v hv => by rw [hatp] at hv; exact hv.dem)
      (fun e wd rows he => by have := isOwn_dem (V.at p); rw [he] at this; cases this) (fun ho => by rw [isOwn_dem] at ho; cases ho)
    rw [hcommV] at h2
    rw [hdem] at h2 ⊢
    exact h2
end Go.Aw
