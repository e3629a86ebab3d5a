/- Contracts of functions that write blocks handed to them; other names for blocks. -/
import Derived.Test.YtdobngcdgkallaaGreatDoorAwZb
import Derived.ScopeJumps
set_option linter.unusedSimpArgs false
set_option linter.unusedVariables false
set_option linter.unusedSectionVars false
namespace Go.Aw
variable [GL]
variable {P : Program} {C : Ctx} {V : View} {a : Act} {w : World} {fz : Fz} {ρ : Ren}

/-- the state is one in which the function hands r back, and H' -/
def EndsM (P : Program) (vars : List ResultVar) (r : AV) (H' : List (Nat × Blk)) (s : AS) : Prop := (∃ l, resultsA P s vars = some l ∧ Lt (oneOf l) r) ∧ Aw.within (H'.map (·.1)) r = true ∧ AS.le { tm := [], hp := H' } s

theorem results_val {fn : Func} {s : AS} (hs : SimE C s.view a w fz ρ) {l : List AV} (hres : resultsA P s fn.results.toList = some l) : ∃ v, (results fn a.tmps).run P w = .ok v w ∧ Holds fz (oneOf l) ρ v := by
 obtain ⟨us, hus, hUL⟩ := resultsA_run hs _ _ hres
 have hm : (fn.results.mapM (resSem a.tmps)).run P w = .ok us.toArray w := by
  rw [← Array.toArray_toList (xs := fn.results), List.mapM_toArray]
  simp only [Sem.run_map]
  rw [hus]
  rfl
 have hl2 := hUL.len
 refine ⟨if h : us.toArray.size = 1 then us.toArray[0] else .tuple us.toArray, ?_, ?_⟩
 ·rw [results_eq, Sem.run_bind, hm]
  simp
 ·cases l with
  | nil =>
   have : us = [] := List.eq_nil_of_length_eq_zero (by simpa using hl2)
   subst this
   simp [oneOf, Holds, HoldsL]
  | cons x l =>
   cases l with
   | nil =>
    simp only [HoldsL] at hUL
    obtain ⟨v, r', rfl, hv, rfl⟩ := hUL
    simpa [oneOf] using hv
   | cons y l =>
    have : ¬ us.toArray.size = 1 := by simp at hl2 ⊢; omega
    rw [dif_neg this]
    simp only [oneOf, Holds]
    exact ⟨_, rfl, by simpa using hUL⟩

open Classical in
noncomputable def Ctx.startM (w : World) (fz : Fz) (ρ : Ren) (H : List (Nat × Blk)) (n : Nat) : Ctx :=
 { B := w.heap.size, N := n, w0 := w, Mu := fun c => decide (MuOf ρ w (lk H) c), fz0 := fz, ρ0 := ρ }

theorem Mem.mu_lt {H : Nat → Option Blk} (h : Mem fz ρ w H) {c : Nat} (hc : MuOf ρ w H c) : c < w.heap.size := by
 rcases hc with ⟨b, hb⟩ | ⟨p, g, n, cap, ho, hcc, rfl⟩
 ·cases hk : H b with
  | none => rw [h.dom b hk] at hb; cases hb
  | some k =>
   obtain ⟨c', hc', hB, _⟩ := h.hp b k hk
   rw [hb] at hc'; cases hc'
   cases k with
   | cells e cs => obtain ⟨cur, h1, _⟩ := hB; exact lt_of_heap h1
   | map ks vs => obtain ⟨es, clock, h1, _⟩ := hB; exact lt_of_heap h1
   | mapd ks vs => obtain ⟨es, clock, h1, _⟩ := hB; exact lt_of_heap h1
 ·cases hx : (hpV H).at p <;> rw [hx] at ho <;> simp [isOwn] at ho
  rcases h.tips p _ _ _ hx with ⟨y1, _⟩ | ⟨g2, _, _, y1, y2, _⟩
  ·rw [hcc] at y1; cases y1
  ·rw [hcc] at y1; cases y1; exact lt_of_heap y2

open Classical in
/-- a contract out of the code, of a function that writes H -/
theorem ConM.of_code {f : FuncId} {fn : Func} {c : Code} {H H' : List (Nat × Blk)} {ts : List AV} {r : AV} (hf : P.funcs[f]? = some fn) (hn : (fn.name == "runtime.NumGoroutine") = false) (hb : fn.body = some c) (hl : ts.length ≤ fn.ntmps)
  (hN : fn.ntmps ≤ 1000) (hH : ∀ b k, lk H b = some k → 1000 ≤ b ∧ b < 2000) (hsub : ∀ b k, lk H b = some k → ∃ k', lk H' b = some k') (hr : isOwn r = false)
  (h : ∀ C : Ctx, C.N = fn.ntmps → (∀ b, lk H b = none → C.ρ0 b = none) → AWp P C c (fun e s => (e = .normal ∨ e = .ret) ∧ EndsM P fn.results.toList r H' s) { tm := zipFrom 0 (ts.map dem), hp := H }) : ConM P f H ts r H' := by
 refine ⟨⟨fn, hf, hn, by rw [hb]; rfl⟩, hr, fun fz ρ w vs hok hgl hmem hvs => ?_⟩
 have hlen := hvs.len
 refine calls_of_wp hf hb ?_
 have hsz : vs.size = ts.length := by simpa using hlen
 let s0 : AS := { tm := zipFrom 0 (ts.map dem), hp := H }
 have hMu : ∀ c, MuOf ρ w (lk H) c → (Ctx.startM w fz ρ H fn.ntmps).Mu c = true := fun c hc => by simp only [Ctx.startM]; exact decide_eq_true hc
 have hMuN : ∀ c, ¬ MuOf ρ w (lk H) c → (Ctx.startM w fz ρ H fn.ntmps).Mu c = false := fun c hc => by simp only [Ctx.startM]; exact decide_eq_false hc
 have hMu' : ∀ c, (Ctx.startM w fz ρ H fn.ntmps).Mu c = true → MuOf ρ w (lk H) c := fun c hc => of_decide_eq_true hc
 have hno : ∀ i, isOwn (s0.view.tm i) = false := by
  intro i
  simp only [AS.view, s0]
  have := lk_zipFrom (ts.map Aw.dem) 0 i
  rw [Nat.zero_add] at this
  rw [this, List.getElem?_map]
  cases ts[i]? with
  | none => rfl
  | some x => exact isOwn_dem x
 have hown : ∀ (a : Act) p, isOwn (s0.view.at p) = true → (hpV (lk H)).at p = s0.view.at p ∧ conc act0 w ρ p = conc a w ρ p := by
  intro a p hp
  cases p with
  | t i => have := hno i; simp only [View.at] at hp; rw [this] at hp; cases hp
  | c b j => exact ⟨rfl, rfl⟩
 have hstart : SimE (Ctx.startM w fz ρ H fn.ntmps) s0.view { tmps := vs ++ Array.replicate (fn.ntmps - vs.size) undef, defers := [] } w fz ρ := by
  refine {
   df := rfl, sz := ?_, tm := fun t => ?_, hp := fun b k hk => ?_, dom := hmem.dom, inj := hmem.inj,
   fcell := hok.1, fobj := hok.2, gl := hgl, f0 := Fz.le_refl _, f1 := fun c _ _ => ⟨fun _ _ e => e, fun _ e => e⟩, tips := fun p e wd rows hp => ?_, tipinj := fun p q hp hq g g' n n' c c' h1 h2 h3 => ?_,
   os := rfl, tape := rfl, output := rfl, bsz := Nat.le_refl _, old := fun _ _ _ => rfl, mub := fun c hc => hmem.mu_lt (hMu' c hc), keep := fun b c c' h1 h2 => ?_, hi := fun b hb => ?_, muρ := fun b c h1 => hMu c (.inl ⟨b, h1⟩) }
  ·simp only [Array.size_append, Array.size_replicate, Ctx.startM]; omega
  ·simp only [AS.view, s0]
   have := lk_zipFrom (ts.map Aw.dem) 0 t
   rw [Nat.zero_add] at this
   rw [this, List.getElem?_map]
   cases hx : ts[t]? with
   | none => simp [Holds]
   | some x =>
    obtain ⟨v, hv, hh⟩ := hvs.get _ _ _ t x hx
    have hvs' : vs[t]? = some v := by simpa using hv
    have hlt : t < vs.size := (Array.getElem?_eq_some_iff.1 hvs').1
    have : (vs ++ Array.replicate (fn.ntmps - vs.size) undef).getD t undef = v := by
     rw [Array.getD_eq_getD_getElem?, Array.getElem?_append_left hlt, hvs']; rfl
    rw [this]
    exact hh.dem
  ·obtain ⟨c, hc, h1, h2⟩ := hmem.hp b k hk
   exact ⟨c, hc, .inr (hMu c (.inl ⟨b, hc⟩)), h1, h2⟩
  ·have ho : isOwn (s0.view.at p) = true := by rw [hp]; rfl
   obtain ⟨e1, e2⟩ := hown { tmps := vs ++ Array.replicate (fn.ntmps - vs.size) undef, defers := [] } p ho
   rw [← e2]
   rcases hmem.tips p e wd rows (by rw [e1]; exact hp) with hh | ⟨gg, cap, cur, x1, x3, x4, x5, x6, x7, x8, x9⟩
   ·exact .inl hh
   ·exact .inr ⟨gg, cap, cur, x1, .inr (hMu gg (.inr ⟨p, _, _, _, by rw [e1]; exact ho, x1, rfl⟩)), x3, x4, x5, x6, x7, x8, x9⟩
  ·obtain ⟨e1, e2⟩ := hown { tmps := vs ++ Array.replicate (fn.ntmps - vs.size) undef, defers := [] } p hp
   obtain ⟨e3, e4⟩ := hown { tmps := vs ++ Array.replicate (fn.ntmps - vs.size) undef, defers := [] } q hq
   exact hmem.tipinj p q (by rw [e1]; exact hp) (by rw [e3]; exact hq) g g' n n' c c' (by rw [e2]; exact h1) (by rw [e4]; exact h2) h3
  ·simp only [Ctx.startM] at h1
   rw [h1] at h2; exact (Option.some.inj h2).symm
  ·simp only [Ctx.startM] at hb ⊢
   cases hk : lk H b with
   | none => exact hmem.dom b hk
   | some k => have := hH b k hk; omega
 refine wp_mono (h (Ctx.startM w fz ρ H fn.ntmps) rfl (fun b hb => hmem.dom b hb) _ w ⟨fz, ρ, hstart⟩) ?_
 rintro e a' w' ⟨s0', ⟨fz', ρ0', hs0⟩, he, ⟨l, hres, hlt⟩, hwr, hle0⟩
 obtain ⟨v, hvr, hvh0⟩ := results_val hs0 hres
 have hs := hs0.forgetS hle0
 generalize hs' : ({ tm := [], hp := H' } : AS) = s' at hs
 have hvh : Holds fz' r (fun b => if (s'.hp.map (·.1)).contains b then ρ0' b else none) v := by
  subst hs'
  refine (hlt.holds hvh0).within (l := H'.map (·.1)) (fun b hb => ?_) _ _ hwr
  simp only [hb, if_true]
 generalize (fun b => if (s'.hp.map (·.1)).contains b then ρ0' b else none) = ρ' at hs hvh
 have hhp' : ∀ b, s'.view.hp b = lk H' b := fun b => by subst hs'; rfl
 have hat : ∀ p, isOwn ((hpV (lk H')).at p) = true → s'.view.at p = (hpV (lk H')).at p ∧ conc act0 w' ρ' p = conc a' w' ρ' p := by
  intro p hp
  obtain ⟨b, j, k, rfl, hk, _⟩ := hpV_own hp
  exact ⟨by simp only [View.at, hpV, hhp'], rfl⟩
 have hnew : ∀ b c, ρ' b = some c → w.heap.size ≤ c ∨ MuOf ρ w (lk H) c := by
  intro b c hb
  cases hk : s'.view.hp b with
  | none => rw [hs.dom b hk] at hb; cases hb
  | some k =>
   obtain ⟨c', hc', hB, _⟩ := hs.hp b k hk
   rw [hb] at hc'; cases hc'
   exact hB.imp id (hMu' c)
 have hR : ∃ fz'' ρ'', Ending.returned v = Ending.returned v ∧ MExt (MuOf ρ w (lk H)) w w' ∧ fz.le fz'' ∧ FzOK fz'' w' ∧
   (∀ c, c < w.heap.size → ¬ MuOf ρ w (lk H) c → (∀ o, fz''.cell c o = fz.cell c o) ∧ fz''.obj c = fz.obj c) ∧
   Mem fz'' ρ'' w' (lk H') ∧ Ren.le ρ ρ'' ∧ (∀ b c, ρ'' b = some c → ρ b = some c ∨ w.heap.size ≤ c ∨ MuOf ρ w (lk H) c) ∧
   (∀ c, MuOf ρ'' w' (lk H') c → w.heap.size ≤ c ∨ MuOf ρ w (lk H) c) ∧ Holds fz'' r ρ'' v := by
  refine ⟨fz', ρ', rfl, ⟨hs.os, hs.tape, hs.output, hs.bsz, fun k hk hm => hs.old k hk (hMuN k hm)⟩, hs.f0, ⟨hs.fcell, hs.fobj⟩, fun c hc hm => ?_, ⟨fun b k hk => ?_, fun b hb => hs.dom b (by rw [hhp']; exact hb), hs.inj, fun p e wd rows hp => ?_, fun p q hp hq g g' n n' c c' h1 h2 h3 => ?_⟩,
   fun b c hb => ?_, fun b c hb => (hnew b c hb).elim (fun h => .inr (.inl h)) (fun h => .inr (.inr h)), fun c hc => ?_, hvh⟩
  ·constructor
   ·intro o
    cases e : fz'.cell c o with
    | none =>
     cases e2 : fz.cell c o with
     | none => rfl
     | some u => have := hs.f0.1 c o u e2; rw [e] at this; cases this
    | some u => exact ((hs.f1 c hc (hMuN c hm)).1 o u e).symm
   ·cases e : fz'.obj c with
    | none =>
     cases e2 : fz.obj c with
     | none => rfl
     | some u => have := hs.f0.2 c u e2; rw [e] at this; cases this
    | some u => exact ((hs.f1 c hc (hMuN c hm)).2 u e).symm
  ·obtain ⟨c, hc, _, h1, h2⟩ := hs.hp b k (by rw [hhp']; exact hk)
   exact ⟨c, hc, h1, h2⟩
  ·obtain ⟨e1, e2⟩ := hat p (by rw [hp]; rfl)
   rw [e2]
   rcases hs.tips p e wd rows (by rw [e1]; exact hp) with hh | ⟨gg, cap, cur, x1, x2, x3, x4, x5, x6, x7, x8, x9⟩
   ·exact .inl hh
   ·exact .inr ⟨gg, cap, cur, x1, x3, x4, x5, x6, x7, x8, x9⟩
  ·obtain ⟨e1, e2⟩ := hat p hp
   obtain ⟨e3, e4⟩ := hat q hq
   exact hs.tipinj p q (by rw [e1]; exact hp) (by rw [e3]; exact hq) g g' n n' c c' (by rw [← e2]; exact h1) (by rw [← e4]; exact h2) h3
  ·cases hk : lk H b with
   | none => rw [hmem.dom b hk] at hb; cases hb
   | some k =>
    obtain ⟨k', hk'⟩ := hsub b k hk
    obtain ⟨c', hc', _⟩ := hs.hp b k' (by rw [hhp']; exact hk')
    have := hs.keep b c c' hb hc'
    rw [← this]; exact hc'
  ·rcases hc with ⟨b, hb⟩ | ⟨p, g, n, cap, ho, hcc, rfl⟩
   ·exact hnew b c hb
   ·obtain ⟨e1, e2⟩ := hat p ho
    rw [e2] at hcc
    cases hx : (hpV (lk H')).at p <;> rw [hx] at ho <;> simp [isOwn] at ho
    rcases hs.tips p _ _ _ (by rw [e1]; exact hx) with ⟨y1, _⟩ | ⟨g2, _, _, y1, y2, _⟩
    ·rw [hcc] at y1; cases y1
    ·rw [hcc] at y1; cases y1; exact y2.imp id (hMu' _)
 obtain ⟨fz'', ρ'', hR⟩ := hR
 rcases he with rfl | rfl
 ·exact ⟨hs.df, v, hvr, v, fz'', ρ'', rfl, hR.2⟩
 ·exact ⟨hs.df, v, hvr, v, fz'', ρ'', rfl, hR.2⟩

-- other names
mutual
def AV.ren (x y : Nat) : AV → AV
 | .ptr b off => .ptr (if b = x then y else b) off
 | .vec b w off n cap => .vec (if b = x then y else b) w off n cap
 | .mapr b => .mapr (if b = x then y else b)
 | .agg l => .agg (renL x y l)
 | .tup l => .tup (renL x y l)
 | .clo fn l => .clo fn (renL x y l)
 | .ifc t z => .ifc t (AV.ren x y z)
 | z => z
def renL (x y : Nat) : List AV → List AV
 | [] => []
 | z :: l => AV.ren x y z :: renL x y l
end
mutual
theorem AV.ren_noref (x y : Nat) : ∀ (z : AV), noref z = true → z.ren x y = z
 | .unk, _ | .val _, _ | .rd .., _ | .fx .., _ | .own .., _ | .elt .., _ | .rmap .., _ | .kset .., _ => by simp only [AV.ren]
 | .ptr .., h | .vec .., h | .mapr _, h => by simp [noref] at h
 | .agg l, h | .tup l, h | .clo _ l, h => by simp only [noref] at h; simp only [AV.ren, renL_noref x y l h]
 | .ifc _ z, h => by simp only [noref] at h; simp only [AV.ren, AV.ren_noref x y z h]
theorem renL_noref (x y : Nat) : ∀ (l : List AV), norefL l = true → renL x y l = l
 | [], _ => by simp only [renL]
 | z :: l, h => by simp only [norefL, Bool.and_eq_true] at h; simp only [renL, AV.ren_noref x y z h.1, renL_noref x y l h.2]
end
mutual
theorem Holds.ren {x y : Nat} {ρ ρ' : Ren} (hρ : ∀ b c, ρ b = some c → ρ' (if b = x then y else b) = some c) : ∀ (z : AV) (v : Value), Holds fz z ρ v → Holds fz (z.ren x y) ρ' v
 | .unk, _, _ => by simp only [AV.ren, Holds]
 | .val u, _, h => by simpa only [AV.ren, Holds] using h
 | .agg l, v, h | .tup l, v, h | .clo fn l, v, h => by
  simp only [AV.ren, Holds] at h ⊢; obtain ⟨cs, e, h⟩ := h; exact ⟨cs, e, HoldsL.ren hρ l _ h⟩
 | .ifc t z, v, h => by
  simp only [AV.ren, Holds] at h ⊢; obtain ⟨u, e, h⟩ := h; exact ⟨u, e, Holds.ren hρ z _ h⟩
 | .rd .., _, h | .fx .., _, h | .own .., _, h | .elt .., _, h | .rmap .., _, h | .kset .., _, h => by simpa only [AV.ren, Holds] using h
 | .ptr b off, v, h => by simp only [AV.ren, Holds] at h ⊢; obtain ⟨c, e, h⟩ := h; exact ⟨c, hρ b c e, h⟩
 | .vec b w off n cap, v, h => by simp only [AV.ren, Holds] at h ⊢; obtain ⟨c, e, h⟩ := h; exact ⟨c, hρ b c e, h⟩
 | .mapr b, v, h => by simp only [AV.ren, Holds] at h ⊢; obtain ⟨c, e, h⟩ := h; exact ⟨c, hρ b c e, h⟩
theorem HoldsL.ren {x y : Nat} {ρ ρ' : Ren} (hρ : ∀ b c, ρ b = some c → ρ' (if b = x then y else b) = some c) : ∀ (l : List AV) (vs : List Value), HoldsL fz l ρ vs → HoldsL fz (renL x y l) ρ' vs
 | [], _, h => by simpa only [renL, HoldsL] using h
 | z :: l, vs, h => by
  simp only [renL, HoldsL] at h ⊢; obtain ⟨v, r, e, h1, h2⟩ := h
  exact ⟨v, r, e, Holds.ren hρ z v h1, HoldsL.ren hρ l r h2⟩
end
theorem isOwn_ren (x y : Nat) (z : AV) : isOwn (z.ren x y) = isOwn z := by cases z <;> simp [AV.ren, isOwn]
theorem ren_isOwn {x y : Nat} {z : AV} (h : isOwn (z.ren x y) = true) : z.ren x y = z := by
 rw [isOwn_ren] at h
 cases z with
 | own e w rows => simp only [AV.ren]
 | _ => cases h
theorem ren_own {x y : Nat} {z : AV} {e : TypeId} {w : Nat} {rows : List (List AV)} (h : z.ren x y = .own e w rows) : z = .own e w rows := by cases z <;> simp_all [AV.ren]
def Blk.ren (x y : Nat) : Blk → Blk
 | .cells e cs => .cells e (renL x y cs)
 | .map ks vs => .map ks (renL x y vs)
 | .mapd ks vs => .mapd ks (renL x y vs)
theorem renL_getD (x y : Nat) : ∀ (l : List AV) (j : Nat), (renL x y l).getD j .unk = (l.getD j .unk).ren x y
 | [], j => by simp [renL, AV.ren]
 | z :: l, 0 => by simp [renL]
 | z :: l, j + 1 => by simpa [renL] using renL_getD x y l j
theorem Blk.ren_at (x y : Nat) (k : Blk) (j : Nat) : (k.ren x y).at j = (k.at j).ren x y := by cases k <;> exact renL_getD x y _ j
theorem BlkAt.ren {x y : Nat} {ρ ρ' : Ren} (hρ : ∀ b c, ρ b = some c → ρ' (if b = x then y else b) = some c) {c : Nat} {k : Blk} (h : BlkAt fz ρ w c k) : BlkAt fz ρ' w c (k.ren x y) := by
 cases k with
 | cells e cs => obtain ⟨cur, h1, h2, h3⟩ := h; exact ⟨cur, h1, h2.ren hρ, h3⟩
 | map ks vs => obtain ⟨es, clock, h1, h2, h3, h4⟩ := h; exact ⟨es, clock, h1, h2, h3.ren hρ, h4⟩
 | mapd ks vs => obtain ⟨es, clock, h1, h2, h3, h4⟩ := h; exact ⟨es, clock, h1, h2, h3.ren hρ, h4⟩
theorem SimE.ren (h : SimE C V a w fz ρ) {x y : Nat} (hxy : x ≠ y) (hy : V.hp y = none) (h0 : C.ρ0 y = none) {V' : View} (ht : ∀ t, V'.tm t = (V.tm t).ren x y)
  (hb : ∀ b, V'.hp b = if b = y then (V.hp x).map (Blk.ren x y) else if b = x then none else (V.hp b).map (Blk.ren x y)) : Sim C V' a w := by
 let ρ' : Ren := fun b => if b = y then ρ x else if b = x then none else ρ b
 have hyn : ρ y = none := h.dom y hy
 have hρ : ∀ b c, ρ b = some c → ρ' (if b = x then y else b) = some c := by
  intro b c e
  simp only [ρ']
  by_cases e1 : b = x
  ·subst e1; simp [e]
  ·rw [if_neg e1]
   by_cases e2 : b = y
   ·subst e2; rw [hyn] at e; cases e
   ·rw [if_neg e2, if_neg e1]; exact e
 -- every name of V' is one of V
 have hback : ∀ b, (∃ b0, ρ' b = ρ b0 ∧ V'.hp b = (V.hp b0).map (Blk.ren x y) ∧ (b = if b0 = x then y else b0) ∧ b0 ≠ y) ∨ (ρ' b = none ∧ V'.hp b = none) := by
  intro b
  by_cases e1 : b = y
  ·exact .inl ⟨x, by simp [ρ', e1], by rw [hb]; simp [e1], by simp [e1], hxy⟩
  ·by_cases e2 : b = x
   ·exact .inr ⟨by simp [ρ', e2, hxy], by rw [hb]; simp [e2, hxy]⟩
   ·exact .inl ⟨b, by simp [ρ', e1, e2], by rw [hb]; simp [e1, e2], by simp [e2], e1⟩
 have hinj : ∀ b b' c, ρ' b = some c → ρ' b' = some c → b = b' := by
  intro b b' c h1 h2
  rcases hback b with ⟨b0, e1, _, e2, _⟩ | ⟨e1, _⟩
  ·rcases hback b' with ⟨b1, f1, _, f2, _⟩ | ⟨f1, _⟩
   ·have := h.inj b0 b1 c (by rw [← e1]; exact h1) (by rw [← f1]; exact h2)
    rw [e2, f2, this]
   ·rw [f1] at h2; cases h2
  ·rw [e1] at h1; cases h1
 -- the place of V that a place of V' is
 have hpl : ∀ p, isOwn (V'.at p) = true → ∃ p0, V.at p0 = V'.at p ∧ conc a w ρ' p = conc a w ρ p0 ∧ p = (match p0 with | .t i => .t i | .c b j => .c (if b = x then y else b) j) := by
  intro p ho
  cases p with
  | t i =>
   have e : V'.at (.t i) = (V.tm i).ren x y := ht i
   rw [e] at ho ⊢
   exact ⟨.t i, (ren_isOwn ho).symm, rfl, rfl⟩
  | c b j =>
   rcases hback b with ⟨b0, e1, e2, e3, e4⟩ | ⟨_, e2⟩
   ·cases hk : V.hp b0 with
    | none => simp only [View.at, e2, hk] at ho; cases ho
    | some k =>
     have e : V'.at (.c b j) = (k.at j).ren x y := by simp only [View.at, e2, hk, Option.map_some, Option.getD_some, Blk.ren_at]
     rw [e] at ho ⊢
     refine ⟨.c b0 j, ?_, ?_, ?_⟩
     ·rw [ren_isOwn ho]; simp only [View.at, hk, Option.map_some, Option.getD_some]
     ·simp only [conc, e1]
     ·rw [e3]
   ·simp only [View.at, e2] at ho; cases ho
 refine ⟨fz, ρ', { h with
  tm := fun t => by rw [ht]; exact (h.tm t).ren hρ, hp := fun b k hk => ?_, dom := fun b hb' => ?_, inj := hinj, tips := fun p e wd rows hp => ?_, tipinj := fun p q hp hq g g' n n' c c' h1 h2 h3 => ?_, keep := fun b c c' h1 h2 => ?_ }⟩
 ·rcases hback b with ⟨b0, e1, e2, _⟩ | ⟨_, e2⟩
  ·rw [e2] at hk
   cases hk0 : V.hp b0 with
   | none => rw [hk0] at hk; cases hk
   | some k0 =>
    rw [hk0] at hk; cases hk
    obtain ⟨c, hc, hB, h2, h3⟩ := h.hp b0 k0 hk0
    exact ⟨c, by rw [e1]; exact hc, hB, h2.ren hρ, h3⟩
  ·rw [e2] at hk; cases hk
 ·rcases hback b with ⟨b0, e1, e2, _⟩ | ⟨e1, _⟩
  ·rw [e1]
   rw [e2] at hb'
   refine h.dom b0 ?_
   cases hk0 : V.hp b0 with
   | none => rfl
   | some k => rw [hk0] at hb'; cases hb'
  ·exact e1
 ·obtain ⟨p0, e1, e2, _⟩ := hpl p (by rw [hp]; rfl)
  rw [e2]
  rcases h.tips p0 e wd rows (by rw [e1]; exact hp) with hh | ⟨gg, cap, cur, x1, x2, x3, x4, x5, x6, x7, x8, x9⟩
  ·exact .inl hh
  ·refine .inr ⟨gg, cap, cur, x1, x2, x3, x4, x5, x6, x7, x8, fun b hb' => ?_⟩
   rcases hback b with ⟨b0, f1, _⟩ | ⟨f1, _⟩
   ·exact x9 b0 (by rw [← f1]; exact hb')
   ·rw [f1] at hb'; cases hb'
 ·obtain ⟨p0, e1, e2, e3⟩ := hpl p hp
  obtain ⟨q0, f1, f2, f3⟩ := hpl q hq
  have := h.tipinj p0 q0 (by rw [e1]; exact hp) (by rw [f1]; exact hq) g g' n n' c c' (by rw [← e2]; exact h1) (by rw [← f2]; exact h2) h3
  rw [e3, f3, this]
 ·simp only [ρ'] at h2
  split at h2
  ·rename_i e; subst e; rw [h0] at h1; cases h1
  ·split at h2
   ·cases h2
   ·exact h.keep b c c' h1 h2
def renHp (x y : Nat) : List (Nat × Blk) → List (Nat × Blk)
 | [] => []
 | (b, k) :: l => (if b = x then y else b, k.ren x y) :: renHp x y l
def renTm (x y : Nat) : List (Nat × AV) → List (Nat × AV)
 | [] => []
 | (t, z) :: l => (t, z.ren x y) :: renTm x y l
theorem lk_renTm (x y : Nat) : ∀ (l : List (Nat × AV)) (t : Nat), lk (renTm x y l) t = (lk l t).map (AV.ren x y)
 | [], _ => rfl
 | (u, z) :: l, t => by
  simp only [renTm, lk]
  split
  ·rfl
  ·exact lk_renTm x y l t
theorem lk_renHp {x y : Nat} (hxy : x ≠ y) : ∀ (l : List (Nat × Blk)), lk l y = none → ∀ b, lk (renHp x y l) b = if b = y then (lk l x).map (Blk.ren x y) else if b = x then none else (lk l b).map (Blk.ren x y)
 | [], _, b => by simp [renHp, lk]
 | (u, k) :: l, hy, b => by
  simp only [lk] at hy
  split at hy
  ·cases hy
  ·rename_i huy
   have ih := lk_renHp hxy l hy b
   simp only [renHp, lk]
   by_cases hux : u = x
   ·subst hux
    simp only [if_true]
    by_cases hby : b = y
    ·subst hby; simp
    ·have : ¬ y = b := fun e => hby e.symm
     rw [if_neg this, ih, if_neg hby, if_neg hby]
     by_cases hbx : b = u
     ·rw [if_pos hbx, if_pos hbx]
     ·have h2 : ¬ u = b := fun e => hbx e.symm
      rw [if_neg hbx, if_neg hbx, if_neg h2]
   ·rw [if_neg hux, if_neg hux]
    by_cases hub : u = b
    ·subst hub
     rw [if_pos rfl, if_neg huy, if_neg hux, if_pos rfl]; rfl
    ·rw [if_neg hub, if_neg hub, ih]
/-- block x is called y from now on -/
theorem AWp.ren {c : Code} {Q : Exit → AS → Prop} {s : AS} (x y : Nat) (hxy : x ≠ y) (hy : lk s.hp y = none) (h0 : C.ρ0 y = none) (s' : AS) (hs' : s' = { tm := renTm x y s.tm, hp := renHp x y s.hp }) (h : AWp P C c Q s') : AWp P C c Q s := by
 intro a w ⟨fz, ρ, hs⟩
 refine h a w (hs.ren hxy hy h0 (fun t => ?_) (fun b => ?_))
 ·subst hs'
  simp only [AS.view, lk_renTm]
  cases lk s.tm t <;> simp [AV.ren]
 ·subst hs'
  exact lk_renHp hxy s.hp hy b
attribute [simp] renTm renHp AV.ren renL Blk.ren
/-- in a function that nothing is handed to -/
theorem SimE.ρ0_none (h : SimE C V a w fz ρ) (hM : ∀ c, C.Mu c = false) (b : Nat) : C.ρ0 b = none := by
 cases e : C.ρ0 b with
 | none => rfl
 | some c => have := h.muρ b c e; rw [hM] at this; cases this
theorem AWp.renP {c : Code} {Q : Exit → AS → Prop} {s : AS} (hM : ∀ c, C.Mu c = false) (x y : Nat) (hxy : x ≠ y) (hy : lk s.hp y = none) (s' : AS) (hs' : s' = { tm := renTm x y s.tm, hp := renHp x y s.hp }) (h : AWp P C c Q s') : AWp P C c Q s := by
 intro a w hs
 obtain ⟨fz, ρ, hs1⟩ := hs
 exact AWp.ren x y hxy hy (hs1.ρ0_none hM y) s' hs' h a w ⟨fz, ρ, hs1⟩
end Go.Aw
namespace Go.Aw
variable [GL]
variable {P : Program} {C : Ctx}
/-- jumps back to label l -/
def jumpQ (l : Nat) (J : AS → Prop) (Q : Exit → AS → Prop) : Exit → AS → Prop
 | .goto l', s => l' = l ∧ J s
 | e, s => Q e s
theorem AWp.goto {l : Nat} {Q : Exit → AS → Prop} {s : AS} (h : Q (.goto l) s) : AWp P C (.goto l) Q s := fun _ _ hs => wp_goto ⟨s, hs, h⟩
theorem AWp.label {l : Nat} {Q : Exit → AS → Prop} {s : AS} (h : Q .normal s) : AWp P C (.label l) Q s := fun _ _ hs => wp_label ⟨s, hs, h⟩
theorem AWp.scope {c rest : Code} {Q : Exit → AS → Prop} {s : AS} (l : Nat) (J : AS → Prop) (μ : AS → Nat) (hf : findLabel c l = some rest) (first : AWp P C c (jumpQ l J Q) s)
  (pass : ∀ s, J s → AWp P C rest (jumpQ l (fun s' => J s' ∧ μ s' < μ s) Q) s) : AWp P C (.scope c) Q s := by
 intro a w hs b k cs
 have hg : gotoIn l (.inScope c :: k) = some (.code rest :: .inScope c :: k) := by simp [gotoIn, hf]
 have key : ∀ n s a w, μ s = n → J s → Sim C s.view a w → ∃ e a' w', (∃ s' : AS, Sim C s'.view a' w' ∧ Q e s') ∧ Arrives P (lone (b.at a (.code rest :: .inScope c :: k)) cs w) b k cs e a' w' := by
  intro n
  induction n using Nat.strongRecOn with
  | _ n ih =>
   intro s a w hn hJ hs
   obtain ⟨e, a₁, w₁, ⟨s1, hs1, hq⟩, harr⟩ := pass s hJ a w hs b (.inScope c :: k) cs
   cases e with
   | normal => exact ⟨.normal, a₁, w₁, ⟨s1, hs1, hq⟩, Steps.trans harr (.one step_inScope)⟩
   | exit id => exact ⟨.exit id, a₁, w₁, ⟨s1, hs1, hq⟩, fun k' hk => harr k' (by simp [exitTo, hk])⟩
   | goto l' =>
    obtain ⟨rfl, hJ', hlt⟩ := hq
    obtain ⟨e₂, a₂, w₂, hq₂, harr₂⟩ := ih _ (by omega) s1 a₁ w₁ rfl hJ' hs1
    exact ⟨e₂, a₂, w₂, hq₂, .of_steps (harr _ hg) harr₂⟩
   | ret => exact ⟨_, a₁, w₁, ⟨s1, hs1, hq⟩, harr⟩
   | panic ch => exact ⟨_, a₁, w₁, ⟨s1, hs1, hq⟩, harr⟩
   | outgrown => exact ⟨_, a₁, w₁, ⟨s1, hs1, hq⟩, harr⟩
 obtain ⟨e, a₁, w₁, ⟨s1, hs1, hq⟩, harr⟩ := first a w hs b (.inScope c :: k) cs
 cases e with
 | normal => exact ⟨.normal, a₁, w₁, ⟨s1, hs1, hq⟩, .head step_scope (Steps.trans harr (.one step_inScope))⟩
 | exit id => exact ⟨.exit id, a₁, w₁, ⟨s1, hs1, hq⟩, fun k' hk => .head step_scope (harr k' (by simp [exitTo, hk]))⟩
 | goto l' =>
  obtain ⟨rfl, hJ'⟩ := hq
  obtain ⟨e₂, a₂, w₂, hq₂, harr₂⟩ := key _ s1 a₁ w₁ rfl hJ' hs1
  exact ⟨e₂, a₂, w₂, hq₂, .of_steps (.head step_scope (harr _ hg)) harr₂⟩
 | ret => exact ⟨_, a₁, w₁, ⟨s1, hs1, hq⟩, .of_steps (.one step_scope) harr⟩
 | panic ch => exact ⟨_, a₁, w₁, ⟨s1, hs1, hq⟩, .of_steps (.one step_scope) harr⟩
 | outgrown => exact ⟨_, a₁, w₁, ⟨s1, hs1, hq⟩, .of_steps (.one step_scope) harr⟩
theorem hand_of {α : Type} : ∀ {H : List (Nat × α)}, (H.all fun p => decide (1000 ≤ p.1) && decide (p.1 < 2000)) = true → ∀ b k, lk H b = some k → 1000 ≤ b ∧ b < 2000
 | [], _, b, k, h => by simp [lk] at h
 | (j, x) :: H, hh, b, k, h => by
  simp only [List.all_cons, Bool.and_eq_true, decide_eq_true_eq] at hh
  simp only [lk] at h
  split at h
  ·rename_i e; subst e; exact hh.1
  ·exact hand_of hh.2 b k h
theorem more_of {α : Type} {H H' : List (Nat × α)} (hm : H.map (·.1) = H'.map (·.1)) : ∀ b k, lk H b = some k → ∃ k', lk H' b = some k' := by
 intro b k h
 exact lk_of_mem (by rw [← hm]; exact lk_mem h)
theorem lk_in {α : Type} : ∀ {H : List (Nat × α)} {b : Nat} {k : α}, lk H b = some k → (b, k) ∈ H
 | (j, x) :: H, b, k, h => by
  simp only [lk] at h
  split at h
  ·rename_i e; subst e; cases h; exact List.mem_cons_self
  ·exact List.mem_cons_of_mem _ (lk_in h)
theorem LtL.rfl' : ∀ {l : List AV}, LtL l l
 | [] => .nil
 | _ :: _ => .cons .refl LtL.rfl'
/-- a call that writes the blocks H, and makes none -/
theorem callM_same {P : Program} {fn : FuncId} {g : Nat → Option Blk} {us : List Nat} {vs ts : List AV} {r : AV} {bs H : List (Nat × Blk)} (hc : ConM P fn H ts r bs) (hlt : LtL vs ts) (hm : H.map (·.1) = bs.map (·.1)) (hus : ((H.map (·.1)).all us.contains) = true)
  (hg : ∀ p ∈ H, g p.1 = some p.2) (hwk : ∀ p ∈ H, p.2.within (H.map (·.1))) (hwt : withinL (H.map (·.1)) ts = true) : ∃ H ts, CallM P fn g us vs r bs H ts := by
 refine ⟨H, ts, fun b k hb => ?_, fun b k hb => hg _ (lk_in hb), fun b k hb hn => ?_, more_of hm, fun b k hb => hwk _ (lk_in hb), hwt, hlt, hc⟩
 ·have := lk_mem hb
  rw [← hm] at this
  exact List.all_eq_true.1 hus b (by simpa using this)
 ·have := lk_mem hb
  rw [← hm] at this
  obtain ⟨k', hk'⟩ := lk_of_mem this
  rw [hn] at hk'; cases hk'
/-- a part of some code: 0 the first, or the inner, 1 what comes behind -/
def codeAt : List Nat → Code → Code
 | 0 :: p, .seq a _ => codeAt p a
 | 1 :: p, .seq _ b => codeAt p b
 | 0 :: p, .scope a => codeAt p a
 | 0 :: p, .loop a => codeAt p a
 | 0 :: p, .block _ a => codeAt p a
 | _, c => c
end Go.Aw
