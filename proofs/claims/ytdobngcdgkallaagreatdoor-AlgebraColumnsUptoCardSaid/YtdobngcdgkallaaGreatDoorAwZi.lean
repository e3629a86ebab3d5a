/- Regions with guards that are not known, in one way: what is made under a guard is good where the guard holds. -/
import Derived.Test.YtdobngcdgkallaaGreatDoorAwZc
set_option linter.unusedSimpArgs false
set_option linter.unusedVariables false
set_option linter.unusedSectionVars false
namespace Go.Aw
theorem disj_sub {l l' m m' : List Nat} (hl : ∀ x ∈ l, x ∈ l') (hm : ∀ x ∈ m, x ∈ m') (h : disj l' m' = true) : disj l m = true := by
 unfold disj at h ⊢
 rw [List.all_eq_true] at h ⊢
 intro x hx
 have := h x (hl x hx)
 simp only [Bool.not_eq_true', List.contains_eq_mem, decide_eq_false_iff_not] at this ⊢
 exact fun hm' => this (hm x hm')
end Go.Aw
namespace Go.Aw
variable [GL]
variable {P : Program} {C : Ctx} {ops : Array Oper}

abbrev Gd := Nat × Bool
/-- the guards that hold where p holds -/
def anc (G : List (Nat × Gd)) : Nat → Gd → List Gd
 | 0, _ => []
 | n + 1, p => p :: (match lk G p.1 with | some q => anc G n q | none => [])
def okO (G : List (Nat × Gd)) (l : List Gd) : Operand → Bool
 | .tmp t => match lk G t with | none => true | some g => l.contains g
 | _ => true
def okPk (G : List (Nat × Gd)) (l : List Gd) : AOp → Bool
 | .pick (.tmp t) x y => okO G l (.tmp t) && (okO G ((t, true) :: l) x && okO G ((t, false) :: l) y)
 | ao => ao.opds.all (okO G l)
def onV (V : View) (g : Gd) : Prop := V.tm g.1 = .val (.bool g.2)
structure Rel (G : List (Nat × Gd)) (VI VR : View) : Prop where
 hp : ∀ b, VR.hp b = VI.hp b
 free : ∀ t, lk G t = none → VR.tm t = VI.tm t
 good : ∀ t g, lk G t = some g → onV VR g → VR.tm t = VI.tm t
 off : ∀ t g, lk G t = some g → ¬ onV VR g → VR.tm t = .val (.tuple #[])
variable {G : List (Nat × Gd)} {VI VR : View}
theorem Rel.anc (h : Rel G VI VR) : ∀ (n : Nat) (p : Gd), onV VR p → ∀ q ∈ anc G n p, onV VR q
 | 0, _, _, _, hq => by simp [Aw.anc] at hq
 | n + 1, p, hp, q, hq => by
  simp only [Aw.anc, List.mem_cons] at hq
  rcases hq with rfl | hq
  ·exact hp
  ·split at hq
   ·rename_i q' hq'
    refine Rel.anc h n q' ?_ q hq
    refine Classical.byContradiction fun hn => ?_
    have := h.off _ _ hq' hn
    unfold onV at hp; rw [this] at hp; simp at hp
   ·cases hq
theorem Rel.ev (h : Rel G VI VR) {l : List Gd} (hl : ∀ q ∈ l, onV VR q) (o : Operand) (ho : okO G l o = true) : VR.ev o = VI.ev o := by
 cases o with
 | tmp t =>
  simp only [okO] at ho
  simp only [View.ev]
  split at ho
  ·rename_i hg; exact h.free t hg
  ·rename_i g hg; exact h.good t g hg (hl g (by simpa using ho))
 | _ => rfl
/-- an operand's value, or nothing -/
theorem Rel.ev_or (h : Rel G VI VR) (o : Operand) : VR.ev o = VI.ev o ∨ VR.ev o = .val (.tuple #[]) := by
 cases o with
 | tmp t =>
  simp only [View.ev]
  cases hg : lk G t with
  | none => exact .inl (h.free t hg)
  | some g =>
   by_cases ho : onV VR g
   ·exact .inl (h.good t g hg ho)
   ·exact .inr (h.off t g hg ho)
 | _ => exact .inl rfl
theorem Rel.evs (h : Rel G VI VR) {l : List Gd} (hl : ∀ q ∈ l, onV VR q) : ∀ (os : List Operand), os.all (okO G l) = true → os.map VR.ev = os.map VI.ev
 | [], _ => rfl
 | o :: os, ho => by
  simp only [List.all_cons, Bool.and_eq_true] at ho
  simp only [List.map_cons, h.ev hl o ho.1, Rel.evs h hl os ho.2]
theorem Rel.filt (h : Rel G VI VR) (l : List Nat) : VR.filt l = VI.filt l := by
 funext b; simp only [View.filt, h.hp]
theorem okPk_cases (l : List Gd) (ao : AOp) (h : okPk G l ao = true) : ao.opds.all (okO G l) = true ∨ ∃ t x y, ao = .pick (.tmp t) x y ∧ okO G l (.tmp t) = true ∧ okO G ((t, true) :: l) x = true ∧ okO G ((t, false) :: l) y = true := by
 unfold okPk at h
 split at h
 ·rename_i t x y
  simp only [Bool.and_eq_true] at h
  exact .inr ⟨t, x, y, rfl, h.1, h.2.1, h.2.2⟩
 ·exact .inl h
theorem Rel.eff (h : Rel G VI VR) {l : List Gd} (hl : ∀ q ∈ l, onV VR q) {c : Res} {d : Option Nat} {ao : AOp} (ho : okPk G l ao = true) {e : Eff} (he : effOf P c d ao VI = some e) : effOf P c d ao VR = some e := by
 rcases okPk_cases l ao ho with ho | ⟨t, x, y, rfl, h1, h2, h3⟩
 ·simp only [effOf, h.evs hl _ ho, h.filt] at he ⊢
  exact he
 ·simp only [effOf, AOp.opds, List.map_cons, List.map_nil, act, aPick] at he ⊢
  have ht : VR.ev (.tmp t) = VI.ev (.tmp t) := h.ev hl _ h1
  rw [ht]
  split at he
  ·rename_i b x' y' hxy
   simp only [List.cons.injEq, and_true] at hxy
   obtain ⟨e1, e2, e3⟩ := hxy
   rw [e1]
   simp only
   rw [← he]
   cases b with
   | true =>
    have := h.ev (l := (t, true) :: l) (by
     intro q hq
     rcases List.mem_cons.1 hq with rfl | hq
     ·show VR.ev (.tmp t) = _; rw [ht, e1]
     ·exact hl q hq) x h2
    simp only [if_true, this, e2]
   | false =>
    have := h.ev (l := (t, false) :: l) (by
     intro q hq
     rcases List.mem_cons.1 hq with rfl | hq
     ·show VR.ev (.tmp t) = _; rw [ht, e1]
     ·exact hl q hq) y h3
    simp only [Bool.false_eq_true, if_false, this, e3]
  ·cases he
theorem Rel.touch (h : Rel G VI VR) (us : List Nat) (d : Option Nat) (ao : AOp) : ∀ b ∈ touched us d ao (ao.opds.map VR.ev), b ∈ touched us d ao (ao.opds.map VI.ev) := by
 have key : ∀ (os : List Operand) b, b ∈ (os.map VR.ev).flatMap idOf → b ∈ (os.map VI.ev).flatMap idOf := by
  intro os
  induction os with
  | nil => intro b hb; exact hb
  | cons o os ih =>
   intro b hb
   simp only [List.map_cons, List.flatMap_cons, List.mem_append] at hb ⊢
   rcases hb with hb | hb
   ·rcases h.ev_or o with e | e
    ·rw [e] at hb; exact .inl hb
    ·rw [e] at hb; cases hb
   ·exact .inr (ih b hb)
 intro b hb
 unfold touched at hb ⊢
 split at hb <;> first | exact hb | exact key _ b hb | (split at hb <;> first | (rename_i e; rw [if_pos e]; exact key _ b hb) | cases hb)
theorem Rel.lc (h : Rel G VI VR) (ao : AOp) : (lcOf ao (ao.opds.map VR.ev) = lcOf ao (ao.opds.map VI.ev) ∨ lcOf ao (ao.opds.map VR.ev) = []) := by
 rcases lc_cases [] none ao (ao.opds.map VR.ev) with ⟨n, tk, x, b, off, e1, e2⟩ | ⟨e1, _⟩
 ·subst e1
  rcases h.ev_or x with e | e
  ·left; simp only [AOp.opds, List.map_cons, List.map_nil, e]
  ·simp only [AOp.opds, List.map_cons, List.map_nil, e, List.cons.injEq, and_true] at e2; cases e2
 ·exact .inr e1
theorem Rel.touchH (h : Rel G VI VR) (us : List Nat) (d : Option Nat) (ao : AOp) : ∀ b ∈ tbH us d ao (ao.opds.map VR.ev), b ∈ tbH us d ao (ao.opds.map VI.ev) := by
 intro b hb
 rcases lc_cases us d ao (ao.opds.map VI.ev) with ⟨n, tk, x, b', off, e1, e2⟩ | ⟨_, e2⟩
 ·subst e1
  rcases h.ev_or x with e | e
  ·simp only [AOp.opds, List.map_cons, List.map_nil, e] at hb ⊢; exact hb
  ·simp only [AOp.opds, List.map_cons, List.map_nil, e, tbH, touched, List.flatMap_cons, List.flatMap_nil, idOf] at hb
   simp at hb
 ·rw [e2]
  refine h.touch us d ao b ?_
  rcases lc_cases us d ao (ao.opds.map VR.ev) with ⟨n, tk, x, b', off, e1, e3⟩ | ⟨_, e3⟩
  ·subst e1; rw [e3] at hb; simp [tbH] at hb
  ·rw [← e3]; exact hb
-- infos that say no more
def leI (x y : Info) : Prop := x.rt = y.rt ∧ x.wt = y.wt ∧ (∀ b ∈ x.tb, b ∈ y.tb) ∧ (∀ b ∈ x.wb, b ∈ y.wb) ∧ (∀ b ∈ x.lc, b ∈ y.lc) ∧ (∀ b ∈ x.wh, b ∈ y.wh) ∧ ∀ b ∈ x.dc, b ∈ y.dc
inductive LeIs : List Info → List Info → Prop
 | nil : LeIs [] []
 | cons {x y : Info} {l m : List Info} : leI x y → LeIs l m → LeIs (x :: l) (y :: m)
theorem sft_mono {x x' y y' : Info} (h1 : ∀ b ∈ x.wh, b ∈ x'.wh) (h2 : ∀ b ∈ x.dc, b ∈ x'.dc) (h3 : ∀ b ∈ y.lc, b ∈ y'.lc) (h : sft x' y' = true) : sft x y = true := by
 unfold sft at h ⊢
 rw [List.all_eq_true] at h ⊢
 intro p hp
 have := h p (h3 p hp)
 simp only [Bool.and_eq_true, Bool.not_eq_true', List.contains_eq_mem, decide_eq_false_iff_not] at this ⊢
 exact ⟨fun q => this.1 (h1 _ q), fun q => this.2 (h2 _ q)⟩
theorem indep_mono {x x' y y' : Info} (hx : leI x x') (hy : leI y y') (h : indep x' y' = true) : indep x y = true := by
 obtain ⟨a1, a2, a3, a4, a5, a6, a7⟩ := hx
 obtain ⟨b1, b2, b3, b4, b5, b6, b7⟩ := hy
 unfold indep at h ⊢
 simp only [Bool.and_eq_true] at h ⊢
 rw [a1, a2, b1, b2]
 have app : ∀ {l l' m m' : List Nat}, (∀ b ∈ l, b ∈ l') → (∀ b ∈ m, b ∈ m') → ∀ b ∈ l ++ m, b ∈ l' ++ m' := by
  intro l l' m m' h1 h2 b hb
  simp only [List.mem_append] at hb ⊢
  exact hb.imp (h1 b) (h2 b)
 exact ⟨⟨⟨⟨h.1.1.1.1, h.1.1.1.2⟩, disj_sub a4 (app b3 b4) h.1.1.2⟩, disj_sub b4 (app a3 a4) h.1.2⟩, sft_mono a6 a7 b5 h.2.1, sft_mono b6 b7 a5 h.2.2⟩
theorem chkRest_le {reach : List (List Nat)} {i : Nat} {x x' : Info} (hx : leI x x') : ∀ {l m : List Info}, LeIs l m → ∀ j, chkRest reach i x' m j = true → chkRest reach i x l j = true
 | _, _, .nil, _, _ => rfl
 | _, _, .cons hy hl, j, h => by
  simp only [chkRest, Bool.and_eq_true, Bool.or_eq_true] at h ⊢
  exact ⟨h.1.imp id (indep_mono hx hy), chkRest_le hx hl _ h.2⟩
theorem freeP_le {reach : List (List Nat)} : ∀ {l m : List Info}, LeIs l m → ∀ i, freeP reach m i = true → freeP reach l i = true
 | _, _, .nil, _, _ => rfl
 | _, _, .cons hx hl, i, h => by
  simp only [freeP, Bool.and_eq_true] at h ⊢
  exact ⟨chkRest_le hx hl _ h.1, freeP_le hl _ h.2⟩

def isFresh (G : List (Nat × Gd)) : Option Nat → Bool
 | some d => G.all fun p => !decide (p.2.1 = d)
 | none => true
def delG (G : List (Nat × Gd)) (d : Option Nat) : List (Nat × Gd) := match d with | some d => G.filter fun p => !decide (p.1 = d) | none => G
def putG (G : List (Nat × Gd)) (d : Option Nat) (g : Gd) : List (Nat × Gd) := match d with | some d => (d, g) :: delG G (some d) | none => G
def okDem (G : List (Nat × Gd)) (e : Eff) : Bool := match e.dem with | some (.t t) => (lk G t).isNone | _ => true
def pureE (e : Eff) : Bool := e.dem.isNone && (e.blk.isNone && e.bs.isEmpty)
/-- what is to be shown where the guards hold -/
def condA (V : View) : List Gd → Prop → Prop
 | [], X => X
 | g :: l, X => match V.tm g.1 with
  | .val (.bool b) => b = g.2 → condA V l X
  | _ => condA V l X
def clr (G : List (Nat × Gd)) (s : AS) : AS := { tm := s.tm.filter fun p => (lk G p.1).isNone, hp := s.hp }
theorem lk_filter {α : Type} (p : Nat → Bool) (t : Nat) : ∀ l : List (Nat × α), lk (l.filter fun x => p x.1) t = if p t = true then lk l t else none
 | [] => by simp [lk]
 | (j, x) :: l => by
  rw [List.filter_cons]
  simp only [lk]
  by_cases hj : p j = true
  ·rw [if_pos hj]
   simp only [lk, lk_filter p t l]
   by_cases e : j = t
   ·subst e; simp [hj]
   ·simp [e]
  ·rw [if_neg hj, lk_filter p t l]
   by_cases e : j = t
   ·subst e; simp [hj]
   ·simp [e]
theorem lk_delG (d t : Nat) : lk (delG G (some d)) t = if t = d then none else lk G t := by
 unfold delG
 rw [lk_filter (fun j => !decide (j = d))]
 by_cases e : t = d <;> simp [e]
theorem clr_tm (s : AS) (t : Nat) : (clr G s).view.tm t = if (lk G t).isNone = true then s.view.tm t else .unk := by
 simp only [clr, AS.view, lk_filter (fun j => (lk G j).isNone)]
 split <;> rfl
theorem condA_use {V VR : View} {X : Prop} : ∀ {l : List Gd}, (∀ g ∈ l, ∀ b, V.tm g.1 = .val (.bool b) → b = g.2) → condA V l X → X
 | [], _, h => h
 | g :: l, hl, h => by
  unfold condA at h
  split at h
  ·rename_i b hb; exact condA_use (VR := VR) (fun q hq => hl q (List.mem_cons_of_mem _ hq)) (h (hl g (by simp) b hb))
  ·exact condA_use (VR := VR) (fun q hq => hl q (List.mem_cons_of_mem _ hq)) h

def runG (P : Program) : List ROp → List Res → AS → List (Nat × Gd) → List Info → (AS → List Info → Prop) → Prop
 | [], _, s, G, I, K => K (clr G s) I.reverse
 | r :: L, c :: R, s, G, I, K => match r.guard with
  | none => (okPk G [] r.op && isFresh G r.dst) = true ∧ match effOf P c r.dst r.op s.view with
   | some e => okDem G e = true ∧ e.ob ∧ runG P L R (s.app r.dst e) (delG G r.dst) (infoOf c r e s.view :: I) K
   | none => False
  | some g => (okPk G (anc G 8 g) r.op && isFresh G r.dst && !decide (r.dst = some g.1)) = true ∧ match s.view.tm g.1 with
   | .val (.bool _) => match effOf P c r.dst r.op s.view with
    | some e => pureE e = true ∧ condA s.view (anc G 8 g) e.ob ∧ runG P L R (s.app r.dst e) (putG G r.dst g) (infoOf c r e s.view :: I) K
    | none => False
   | _ => False
 | _ :: _, [], _, _, _, _ => False

theorem app_on {V : View} {d : Option Nat} {e : Eff} {g : Gd} (hd : d ≠ some g.1) : onV (V.app d e) g ↔ onV V g := by
 unfold onV
 rw [app_tm]
 unfold appT
 rw [if_neg hd]
 split
 ·constructor
  ·intro h
   cases hv : V.tm g.1 <;> rw [hv] at h <;> first | exact h | (simp [dem] at h)
  ·intro h; rw [h]; rfl
 ·exact Iff.rfl
theorem isFresh_ne {d : Option Nat} (h : isFresh G d = true) {t : Nat} {g : Gd} (hg : lk G t = some g) : d ≠ some g.1 := by
 rintro rfl
 simp only [isFresh, List.all_eq_true] at h
 have : (t, g) ∈ G := by
  clear h
  induction G with
  | nil => cases hg
  | cons p G ih =>
   obtain ⟨j, x⟩ := p
   simp only [lk] at hg
   split at hg
   ·rename_i e; subst e; cases hg; simp
   ·exact List.mem_cons_of_mem _ (ih hg)
 have := h _ this
 simp at this
theorem Rel.app (h : Rel G VI VR) {d : Option Nat} {e : Eff} (hf : isFresh G d = true) (hd : okDem G e = true) : Rel (delG G d) (VI.app d e) (VR.app d e) := by
 have hlk : ∀ t, d ≠ some t → lk (delG G d) t = lk G t := by
  intro t ht
  cases d with
  | none => rfl
  | some d => rw [lk_delG, if_neg (fun e => ht (by rw [e]))]
 have hlk' : ∀ t, d = some t → lk (delG G d) t = none := by
  rintro t rfl; rw [lk_delG, if_pos rfl]
 have hdem : ∀ t g, lk G t = some g → e.dem ≠ some (.t t) := by
  intro t g hg he
  simp only [okDem, he, hg] at hd; cases hd
 refine ⟨fun b => by rw [app_hp, app_hp, h.hp], fun t ht => ?_, fun t g hg ho => ?_, fun t g hg ho => ?_⟩
 ·rw [app_tm, app_tm]
  by_cases e1 : d = some t
  ·simp only [appT, if_pos e1]
  ·rw [hlk t e1] at ht
   rw [h.free t ht]
 ·have e1 : d ≠ some t := fun e1 => by rw [hlk' t e1] at hg; cases hg
  rw [hlk t e1] at hg
  rw [app_on (isFresh_ne hf hg)] at ho
  rw [app_tm, app_tm, h.good t g hg ho]
 ·have e1 : d ≠ some t := fun e1 => by rw [hlk' t e1] at hg; cases hg
  rw [hlk t e1] at hg
  rw [app_on (isFresh_ne hf hg)] at ho
  rw [app_tm, appT, if_neg e1, if_neg (hdem t g hg), h.off t g hg ho]
theorem pureE_iff {e : Eff} (h : pureE e = true) : e.dem = none ∧ e.blk = none ∧ e.bs = [] := by
 simp only [pureE, Bool.and_eq_true, Option.isNone_iff_eq_none, List.isEmpty_iff] at h
 exact ⟨h.1, h.2.1, h.2.2⟩
theorem pure_hp {V : View} {d : Option Nat} {e : Eff} (h : pureE e = true) (b : Nat) : (V.app d e).hp b = V.hp b := by
 obtain ⟨h1, h2, h3⟩ := pureE_iff h
 have : (V.app d e).hp = V.hp := by
  unfold View.app; rw [h1, h2, h3]; cases d <;> rfl
 rw [this]
theorem pure_tm {V : View} {d : Option Nat} {e : Eff} (h : pureE e = true) (t : Nat) : (V.app d e).tm t = if d = some t then e.out else V.tm t := by
 obtain ⟨h1, _, _⟩ := pureE_iff h
 rw [app_tm, appT, h1]; simp
theorem lk_putG {d : Option Nat} {g : Gd} (t : Nat) : lk (putG G d g) t = if d = some t then some g else lk G t := by
 cases d with
 | none => simp [putG]
 | some d =>
  simp only [putG, lk, Option.some.injEq]
  by_cases e : d = t
  ·simp [e]
  ·rw [if_neg e, if_neg e, lk_delG, if_neg (fun h => e h.symm)]
/-- under a guard: done, or skipped -/
theorem Rel.guard (h : Rel G VI VR) {d : Option Nat} {g : Gd} {e e' : Eff} (hf : isFresh G d = true) (hdg : d ≠ some g.1) (hp : pureE e = true) (hp' : pureE e' = true) (h1 : onV VR g → e' = e) (h2 : ¬ onV VR g → e'.out = .val (.tuple #[])) : Rel (putG G d g) (VI.app d e) (VR.app d e') := by
 have hon : ∀ q : Gd, d ≠ some q.1 → (onV (VR.app d e') q ↔ onV VR q) := fun q hq => app_on hq
 refine ⟨fun b => by rw [pure_hp hp, pure_hp hp', h.hp], fun t ht => ?_, fun t q hq ho => ?_, fun t q hq ho => ?_⟩
 ·rw [lk_putG] at ht
  split at ht
  ·cases ht
  ·rename_i e1
   rw [pure_tm hp, pure_tm hp', if_neg e1, if_neg e1, h.free t ht]
 ·rw [lk_putG] at hq
  rw [pure_tm hp, pure_tm hp']
  split at hq
  ·rename_i e1
   cases hq
   rw [hon _ hdg] at ho
   rw [if_pos e1, if_pos e1, h1 ho]
  ·rename_i e1
   rw [hon _ (isFresh_ne hf hq)] at ho
   rw [if_neg e1, if_neg e1, h.good t q hq ho]
 ·rw [lk_putG] at hq
  rw [pure_tm hp']
  split at hq
  ·rename_i e1
   cases hq
   rw [hon _ hdg] at ho
   rw [if_pos e1, h2 ho]
  ·rename_i e1
   rw [hon _ (isFresh_ne hf hq)] at ho
   rw [if_neg e1, h.off t q hq ho]
theorem pureSk : pureE Skipped = true := rfl
theorem runG_runA : ∀ (L : List ROp) (R : List Res) (s t : AS) (G : List (Nat × Gd)) (I : List Info) (K : AS → List Info → Prop), runG P L R s G I K → Rel G s.view t.view →
  ∃ t' ob, runA P L R t = some (t', ob) ∧ ob ∧ ∃ s' G' J, Rel G' s'.view t'.view ∧ K (clr G' s') (I.reverse ++ J) ∧ LeIs (infosA P L R t) J
 | [], R, s, t, G, I, K, h, hr => by
  simp only [runG] at h
  exact ⟨t, True, rfl, trivial, s, G, [], hr, by simpa using h, by cases R <;> exact .nil⟩
 | r :: L, [], s, t, G, I, K, h, hr => h.elim
 | r :: L, c :: R, s, t, G, I, K, h, hr => by
  simp only [runG] at h
  split at h
  ·rename_i hg
   obtain ⟨hk, h⟩ := h
   simp only [Bool.and_eq_true] at hk
   split at h
   ·rename_i e he
    obtain ⟨hd, hob, h⟩ := h
    have he' := hr.eff (l := []) (by simp) hk.1 he
    have hr' : Rel (delG G r.dst) (s.app r.dst e).view (t.app r.dst e).view := by rw [view_app, view_app]; exact hr.app hk.2 hd
    obtain ⟨t', ob, h1, h2, s', G', J, h3, h4, h5⟩ := runG_runA L R _ _ _ _ K h hr'
    refine ⟨t', e.ob ∧ ob, ?_, ⟨hob, h2⟩, s', G', infoOf c r e s.view :: J, h3, by simpa using h4, ?_⟩
    ·simp only [runA, effG, hg, he', h1]
    ·simp only [infosA, effG, hg, he']
     exact .cons ⟨rfl, rfl, hr.touchH _ _ _, fun b hb => hb, fun b hb => (hr.lc r.op).elim (fun e => by simpa only [infoOf, ← e] using hb) (fun e => by simp only [infoOf, e] at hb; cases hb), fun b hb => hb, fun b hb => hb⟩ h5
   ·exact h.elim
  ·rename_i g hg
   obtain ⟨d, w⟩ := g
   obtain ⟨hk, h⟩ := h
   simp only [Bool.and_eq_true, Bool.not_eq_true', decide_eq_false_iff_not] at hk
   obtain ⟨⟨hk1, hk2⟩, hk3⟩ := hk
   split at h
   ·rename_i b hb
    split at h
    ·rename_i e he
     obtain ⟨hp, hob, h⟩ := h
     -- what is really done
     have hcase : (onV t.view (d, w) ∧ effG P c r t.view = some e ∧ e.ob) ∨ (¬ onV t.view (d, w) ∧ effG P c r t.view = some Skipped) := by
      by_cases ho : onV t.view (d, w)
      ·refine .inl ⟨ho, ?_, ?_⟩
       ·have ho' : t.view.tm d = .val (.bool w) := ho
        simp only [effG, hg, ho', if_true]
        exact hr.eff (hr.anc 8 _ ho) hk1 he
       ·refine condA_use (VR := t.view) (fun q hq b' hb' => ?_) hob
        have h1 := hr.anc 8 _ ho q hq
        have h2 : t.view.tm q.1 = .val (.bool q.2) := h1
        have h3 := hr.ev_or (.tmp q.1)
        simp only [View.ev, h2, hb'] at h3
        simp only [AV.val.injEq, Value.bool.injEq, reduceCtorEq, or_false] at h3
        exact h3.symm
      ·refine .inr ⟨ho, ?_⟩
       rcases hr.ev_or (.tmp d) with e1 | e1
       ·simp only [View.ev] at e1
        have hb' : t.view.tm d = .val (.bool b) := by rw [e1]; exact hb
        have hne : ¬ b = w := fun e2 => ho (by show t.view.tm d = _; rw [hb', e2])
        simp only [effG, hg, hb', if_neg hne]
       ·simp only [View.ev] at e1
        simp only [effG, hg, e1]
     rcases hcase with ⟨ho, he', hob'⟩ | ⟨ho, he'⟩
     ·have hr' : Rel (putG G r.dst (d, w)) (s.app r.dst e).view (t.app r.dst e).view := by
       rw [view_app, view_app]; exact hr.guard hk2 hk3 hp hp (fun _ => rfl) (fun h => absurd ho h)
      obtain ⟨t', ob, h1, h2, s', G', J, h3, h4, h5⟩ := runG_runA L R _ _ _ _ K h hr'
      refine ⟨t', e.ob ∧ ob, ?_, ⟨hob', h2⟩, s', G', infoOf c r e s.view :: J, h3, by simpa using h4, ?_⟩
      ·simp only [runA, he', h1]
      ·simp only [infosA, he']
       exact .cons ⟨rfl, rfl, hr.touchH _ _ _, fun b hb => hb, fun b hb => (hr.lc r.op).elim (fun e => by simpa only [infoOf, ← e] using hb) (fun e => by simp only [infoOf, e] at hb; cases hb), fun b hb => hb, fun b hb => hb⟩ h5
     ·have hr' : Rel (putG G r.dst (d, w)) (s.app r.dst e).view (t.app r.dst Skipped).view := by
       rw [view_app, view_app]; exact hr.guard hk2 hk3 hp pureSk (fun h => absurd h ho) (fun _ => rfl)
      obtain ⟨t', ob, h1, h2, s', G', J, h3, h4, h5⟩ := runG_runA L R _ _ _ _ K h hr'
      refine ⟨t', Skipped.ob ∧ ob, ?_, ⟨trivial, h2⟩, s', G', infoOf c r e s.view :: J, h3, by simpa using h4, ?_⟩
      ·simp only [runA, he', h1]
      ·simp only [infosA, he']
       refine .cons ⟨rfl, ?_, hr.touchH _ _ _, fun b hb => (by cases hb), fun b hb => (hr.lc r.op).elim (fun e => by simpa only [infoOf, ← e] using hb) (fun e => by simp only [infoOf, e] at hb; cases hb), fun b hb => (by cases hb), fun b hb => (by cases hb)⟩ h5
       simp only [infoOf, wtm, (pureE_iff hp).1, Skipped]
    ·exact h.elim
   ·exact h.elim
theorem Rel.refl (V : View) : Rel [] V V := ⟨fun _ => rfl, fun _ _ => rfl, fun _ _ h => (by cases h), fun _ _ h => (by cases h)⟩
theorem Rel.sim {s t : AS} {a : Act} {w : World} (h : Rel G s.view t.view) (hs : Sim C t.view a w) : Sim C (clr G s).view a w := by
 obtain ⟨fz, ρ, hs⟩ := hs
 refine ⟨fz, ρ, hs.weak (fun u => ?_) fun b => ?_⟩
 ·rw [clr_tm]
  cases hg : lk G u with
  | none => simp only [Option.isNone_none, if_true]; exact .inl (h.free u hg)
  | some g => right; simp [weakP]
 ·have hb : (clr G s).view.hp b = t.view.hp b := (h.hp b).symm
  rw [hb]
  cases hk : t.view.hp b with
  | none => exact .inl ⟨rfl, rfl⟩
  | some k => exact .inr ⟨k, k, rfl, rfl, by cases k <;> simp [wkB]⟩
theorem AWp.regG {id : Nat} {Q : Exit → AS → Prop} {s : AS} (tks : List Bool) (L : List ROp) (R : List Res) (hops : trOps P ops tks ops.toList = some L) (hok : okAll C.N L = true)
  (h : ∀ K : AS → Prop, (∀ s', Q .normal s' → K s') → runG P L (alignR L R) s [] [] (fun s' _ => K s')) : AWp P C (.region id ops false) Q s := by
 obtain ⟨t', ob, h1, h2, s', G', J, h3, h4, _⟩ := runG_runA L _ s s [] [] _ (h (Q .normal) (fun _ h => h)) (Rel.refl _)
 obtain ⟨E, hR, hV, _⟩ := runA_spec L _ s t' ob h1 h2 hok
 intro a w hs
 exact region_plain hops hR hs fun a' w' hs' => ⟨clr G' s', h3.sim (by rw [← hV]; exact hs'), h4⟩
theorem AWp.regGD {id : Nat} {Q : Exit → AS → Prop} {s : AS} (hm : P.follows .mixedOrders = true) (tks : List Bool) (L : List ROp) (R : List Res) (hops : trOps P ops tks ops.toList = some L) (hok : okAll C.N L = true) (hback : backP L 0 = true)
  (h : ∀ K : AS → Prop, (∀ s', Q .normal s' → K s') → runG P L (alignR L R) s [] [] (fun s' I => freeP (reachL L []) I 0 = true ∧ K s')) : AWp P C (.region id ops true) Q s := by
 obtain ⟨t', ob, h1, h2, s', G', J, h3, h4, h5⟩ := runG_runA L _ s s [] [] _ (h (Q .normal) (fun _ h => h)) (Rel.refl _)
 have hfree : freeP (reachL L []) (infosA P L (alignR L R) s) 0 = true := freeP_le h5 0 (by simpa using h4.1)
 have := AWp.regionD hm (C := C) (Q := fun e t => e = .normal ∧ t.view = t'.view) R hops hok hback hfree h1 h2 ⟨rfl, rfl⟩ (id := id)
 intro a w hs
 refine wp_mono (this a w hs) ?_
 rintro e a' w' ⟨t, ht, rfl, hv⟩
 exact ⟨clr G' s', h3.sim (by rw [← hv]; exact ht), h4.2⟩
/-- the slots that are still asked for -/
def inN : List Nat → Nat → Bool
 | [], _ => false
 | x :: l, k => if x = k then true else inN l k
def keepT (l : List Nat) : List (Nat × AV) → List (Nat × AV)
 | [] => []
 | (j, x) :: r => if inN l j = true then (j, x) :: keepT l r else keepT l r
def keepS (l : List Nat) (s : AS) : AS := { tm := keepT l s.tm, hp := s.hp }
theorem lk_keepT (l : List Nat) (t : Nat) : ∀ r : List (Nat × AV), lk (keepT l r) t = if inN l t = true then lk r t else none
 | [] => by simp [lk, keepT]
 | (j, x) :: r => by
  simp only [keepT, lk]
  by_cases hj : inN l j = true
  ·rw [if_pos hj]
   simp only [lk, lk_keepT l t r]
   by_cases e : j = t
   ·subst e; simp [hj]
   ·simp [e]
  ·rw [if_neg hj, lk_keepT l t r]
   by_cases e : j = t
   ·subst e; simp [hj]
   ·simp [e]
theorem Sim.keep {s : AS} {a : Act} {w : World} (l : List Nat) (hs : Sim C s.view a w) : Sim C (keepS l s).view a w := by
 obtain ⟨fz, ρ, hs⟩ := hs
 refine ⟨fz, ρ, hs.weak (fun u => ?_) fun b => ?_⟩
 ·simp only [keepS, AS.view, lk_keepT]
  split
  ·exact .inl rfl
  ·right; simp [weakP]
 ·simp only [keepS, AS.view]
  cases hk : lk s.hp b with
  | none => exact .inl ⟨rfl, rfl⟩
  | some k => exact .inr ⟨k, k, rfl, rfl, by cases k <;> simp [wkB]⟩
theorem AWp.keep {c : Code} {Q : Exit → AS → Prop} {s : AS} (l : List Nat) (h : AWp P C c Q (keepS l s)) : AWp P C c Q s := fun a w hs => h a w (hs.keep l)
theorem AWp.regK0 {id : Nat} {Q : Exit → AS → Prop} {s : AS} (live : List Nat) (tks : List Bool) (L : List ROp) (R : List Res) (hops : trOps P ops tks ops.toList = some L) (hok : okAll C.N L = true)
  (h : ∀ K : AS → Prop, (∀ s', Q .normal s' → K s') → runG P L (alignR L R) s [] [] (fun s' _ => K (keepS live s'))) : AWp P C (.region id ops false) Q s := by
 obtain ⟨t', ob, h1, h2, s', G', J, h3, h4, _⟩ := runG_runA L _ s s [] [] _ (h (Q .normal) (fun _ h => h)) (Rel.refl _)
 obtain ⟨E, hR, hV, _⟩ := runA_spec L _ s t' ob h1 h2 hok
 intro a w hs
 exact region_plain hops hR hs fun a' w' hs' => ⟨_, (h3.sim (by rw [← hV]; exact hs')).keep live, h4⟩
-- what an operation waits for does not matter where the order is the text's
def bareO (r : ROp) : ROp := { r with after := [] }
theorem runG_bare (P : Program) : ∀ (L : List ROp) (R : List Res) (s : AS) (G : List (Nat × Gd)) (I : List Info) (K : AS → List Info → Prop), runG P (L.map bareO) R s G I K = runG P L R s G I K
 | [], R, s, G, I, K => by cases R <;> rfl
 | r :: L, [], s, G, I, K => rfl
 | r :: L, c :: R, s, G, I, K => by
  simp only [List.map_cons, runG, runG_bare P L]
  rfl
theorem alignR_bare : ∀ (L : List ROp) (R : List Res), alignR (L.map bareO) R = alignR L R
 | [], R => rfl
 | r :: L, R => by
  simp only [List.map_cons, alignR, alignR_bare L]
  rfl
theorem okAll_bare (N : Nat) : ∀ L : List ROp, okAll N (L.map bareO) = okAll N L
 | [] => rfl
 | r :: L => by
  have := okAll_bare N L
  simp only [okAll, List.map_cons, List.all_cons] at this ⊢
  rw [this]; rfl
theorem AWp.regK {id : Nat} {Q : Exit → AS → Prop} {s : AS} (live : List Nat) (tks : List Bool) (L : List ROp) (R : List Res) (hops : (trOps P ops tks ops.toList).map (fun l => l.map bareO) = some L) (hok : okAll C.N L = true)
  (h : ∀ K : AS → Prop, (∀ s', Q .normal s' → K s') → runG P L (alignR L R) s [] [] (fun s' _ => K (keepS live s'))) : AWp P C (.region id ops false) Q s := by
 obtain ⟨L0, h0, rfl⟩ := Option.map_eq_some_iff.1 hops
 rw [okAll_bare] at hok
 simp only [runG_bare, alignR_bare] at h
 exact AWp.regK0 live tks L0 R h0 hok h
theorem AWp.regKD {id : Nat} {Q : Exit → AS → Prop} {s : AS} (hm : P.follows .mixedOrders = true) (live : List Nat) (tks : List Bool) (L : List ROp) (R : List Res) (hops : trOps P ops tks ops.toList = some L) (hok : okAll C.N L = true) (hback : backP L 0 = true)
  (h : ∀ K : AS → Prop, (∀ s', Q .normal s' → K s') → runG P L (alignR L R) s [] [] (fun s' I => freeP (reachL L []) I 0 = true ∧ K (keepS live s'))) : AWp P C (.region id ops true) Q s := by
 obtain ⟨t', ob, h1, h2, s', G', J, h3, h4, h5⟩ := runG_runA L _ s s [] [] _ (h (Q .normal) (fun _ h => h)) (Rel.refl _)
 have hfree : freeP (reachL L []) (infosA P L (alignR L R) s) 0 = true := freeP_le h5 0 (by simpa using h4.1)
 have := AWp.regionD hm (C := C) (Q := fun e t => e = .normal ∧ t.view = t'.view) R hops hok hback hfree h1 h2 ⟨rfl, rfl⟩ (id := id)
 intro a w hs
 refine wp_mono (this a w hs) ?_
 rintro e a' w' ⟨t, ht, rfl, hv⟩
 exact ⟨_, (h3.sim (by rw [← hv]; exact ht)).keep live, h4.2⟩
/-- rl says what comes before what -/
theorem AWp.regKL {id : Nat} {Q : Exit → AS → Prop} {s : AS} (hm : P.follows .mixedOrders = true) (rl : List (List Nat)) (live : List Nat) (tks : List Bool) (L : List ROp) (R : List Res) (hops : trOps P ops tks ops.toList = some L) (hok : okAll C.N L = true) (hback : backP L 0 = true) (hrl : chkRl rl L rl = true)
  (h : ∀ K : AS → Prop, (∀ s', Q .normal s' → K s') → runG P L (alignR L R) s [] [] (fun s' I => freeP rl I 0 = true ∧ K (keepS live s'))) : AWp P C (.region id ops true) Q s := by
 obtain ⟨t', ob, h1, h2, s', G', J, h3, h4, h5⟩ := runG_runA L _ s s [] [] _ (h (Q .normal) (fun _ h => h)) (Rel.refl _)
 have hfree : freeP (reachL L []) (infosA P L (alignR L R) s) 0 = true := freeP_mono (rl_sound hback hrl) _ _ (freeP_le h5 0 (by simpa using h4.1))
 have := AWp.regionD hm (C := C) (Q := fun e t => e = .normal ∧ t.view = t'.view) R hops hok hback hfree h1 h2 ⟨rfl, rfl⟩ (id := id)
 intro a w hs
 refine wp_mono (this a w hs) ?_
 rintro e a' w' ⟨t, ht, rfl, hv⟩
 exact ⟨_, (h3.sim (by rw [← hv]; exact ht)).keep live, h4.2⟩
attribute [simp] inN keepT keepS
theorem sz_pos {s : ByteArray} (h : ¬ s = ⟨#[]⟩) : 0 < s.size := by
 refine Nat.pos_of_ne_zero fun h0 => h ?_
 obtain ⟨⟨l⟩⟩ := s
 have : l = [] := List.eq_nil_of_length_eq_zero h0
 subst this; rfl
theorem Rsv.clos {g : Nat → Option Blk} {x y : AV} (h : x = y) (hn : noref y = true) : Rsv g x y := by subst h; exact .closed hn
attribute [simp] runG okPk okO isFresh delG putG okDem pureE condA clr anc
@[simp] theorem ite_vb (p : Prop) [Decidable p] (x y : Bool) : (if p then AV.val (.bool x) else AV.val (.bool y)) = AV.val (.bool ((decide p && x) || (!decide p && y))) := by by_cases h : p <;> simp [h]
@[simp] theorem int_beq (a b : Int) : (a == b) = decide (a = b) := rfl
@[simp] theorem int_bne (a b : Int) : (a != b) = !decide (a = b) := rfl
@[simp] theorem cast_one (n : Nat) : ((n : Int) = 1) = (n = 1) := propext (by omega)
@[simp] theorem or_nand (a b : Bool) : (a || (!a && b)) = (a || b) := by cases a <;> rfl
@[simp] theorem or_nand' (a b : Bool) : ((!a) || (a && b)) = (!a || b) := by cases a <;> rfl
@[simp] theorem ite_vi (p : Prop) [Decidable p] (k : IntKind) (x y : Int) : (if p then AV.val (.int k x) else AV.val (.int k y)) = AV.val (.int k (if p then x else y)) := by split <;> rfl
end Go.Aw
namespace Go.Aw
variable [GL]
theorem holds_vals {fz : Fz} {ρ : Ren} : ∀ {vs us : List Value}, HoldsL fz (vs.map AV.val) ρ us → us = vs
 | [], us, h => by simpa only [List.map_nil, HoldsL] using h
 | v :: vs, us, h => by
  simp only [List.map_cons, HoldsL, Holds] at h
  obtain ⟨u, r, rfl, rfl, h⟩ := h
  rw [holds_vals h]
/-- a contract of a function of the library, of values that hang on no memory -/
theorem Con.lib {P : Program} {f : FuncId} (vs : List Value) (v : Value) (he : Enters P f) (h : ∀ w, Calls P f vs.toArray w fun e w' => e = .returned v ∧ Ext w w') : Con P f (vs.map .val) (.val v) := by
 refine ⟨he, fun fz w us hok _ hus => ?_⟩
 have hu : us = vs.toArray := by rw [← holds_vals hus]
 subst hu
 refine (h w).mono ?_
 rintro e w' ⟨rfl, hx⟩
 exact ⟨v, fz, rfl, hx, Fz.le_refl _, ⟨fun c o u hu => hx.cell (hok.1 c o u hu), fun c o ho => hx.heap (hok.2 c o ho)⟩, fun _ _ => ⟨fun _ => rfl, rfl⟩, by simp only [Holds], fun el wd rows hr => by cases hr⟩
end Go.Aw
namespace Go.Aw
variable [GL]
theorem WkR.refl : ∀ (l : List (List AV)), WkR l l
 | [] => .nil
 | x :: l => .cons (.refl x) (WkR.refl l)
end Go.Aw
