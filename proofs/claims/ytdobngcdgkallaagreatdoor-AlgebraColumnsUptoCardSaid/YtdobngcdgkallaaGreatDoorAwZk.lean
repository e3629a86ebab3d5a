/- A slice that is handed over, and grown; regions by what holds behind each part; contracts of the library that change nothing, or one cell. -/
import Derived.Test.YtdobngcdgkallaaGreatDoorAwZi
set_option linter.unusedSimpArgs false
set_option linter.unusedVariables false
set_option linter.unusedSectionVars false
namespace Go.Aw
variable [GL]
variable {P : Program} {C : Ctx} {V : View} {a : Act} {w : World} {fz : Fz} {ρ : Ren} {ops : Array Oper}

open Classical in
noncomputable def Ctx.startO (w : World) (fz : Fz) (v : Value) (n : Nat) : Ctx := { B := w.heap.size, N := n, w0 := w, Mu := fun c => decide (blkOf v = some c ∧ c < w.heap.size), fz0 := fz }
/-- the end: the one result is a slot that holds a slice that may grow -/
def EndsO (rs : List ResultVar) (e : TypeId) (wd : Nat) (rows : List (List AV)) (s : AS) : Prop := ∃ t, rs = [.tmp t] ∧ lk s.tm t = some (.own e wd rows)
open Classical in
theorem ConO.of_code {f : FuncId} {fn : Func} {c : Code} {e : TypeId} {wd : Nat} {rows rows' : List (List AV)} {ts : List AV} (hf : P.funcs[f]? = some fn) (hn : (fn.name == "runtime.NumGoroutine") = false) (hb : fn.body = some c) (hl : ts.length + 1 ≤ fn.ntmps)
  (h : ∀ C : Ctx, C.N = fn.ntmps → AWp P C c (fun en s => (en = .normal ∨ en = .ret) ∧ EndsO fn.results.toList e wd rows' s) { tm := (0, .own e wd rows) :: zipFrom 1 (ts.map dem), hp := [] }) : ConO P f e wd rows ts rows' := by
 refine ⟨⟨fn, hf, hn, by rw [hb]; rfl⟩, fun fz w v vs hok hgl hv hvs htip => ?_⟩
 have hlen := hvs.len
 refine calls_of_wp hf hb ?_
 have hMu : ∀ c, (Ctx.startO w fz v fn.ntmps).Mu c = true ↔ (blkOf v = some c ∧ c < w.heap.size) := fun c => by simp only [Ctx.startO, decide_eq_true_eq]
 have hlt : ∀ c, blkOf v = some c → c < w.heap.size := by
  intro c hc
  rcases htip with ⟨hh, _⟩ | ⟨g, cap, cur, x1, x3, _⟩
  ·rw [hh] at hc; simp [blkOf] at hc
  ·rw [x1] at hc; simp only [blkOf, Option.some.injEq] at hc; subst hc; exact lt_of_heap x3
 let s0 : AS := { tm := (0, .own e wd rows) :: zipFrom 1 (ts.map dem), hp := [] }
 have htm0 : s0.view.tm 0 = .own e wd rows := by simp [s0, AS.view, lk]
 have htmS : ∀ t, s0.view.tm (t + 1) = ((ts.map dem)[t]?).getD .unk := by
  intro t
  simp only [s0, AS.view, lk]
  rw [if_neg (by omega), show t + 1 = 1 + t from by omega, lk_zipFrom]
 have hownS : ∀ p, isOwn (s0.view.at p) = true → p = .t 0 := by
  intro p hp
  cases p with
  | t i =>
   cases i with
   | zero => rfl
   | succ i =>
    exfalso
    simp only [View.at, htmS, List.getElem?_map] at hp
    cases hx : ts[i]? with
    | none => rw [hx] at hp; simp [isOwn] at hp
    | some x =>
     rw [hx] at hp
     simp only [Option.map_some, Option.getD_some] at hp
     rw [isOwn_dem] at hp; cases hp
  | c b j => simp [View.at, s0, AS.view, lk, isOwn] at hp
 let tmps : Array Value := (v :: vs).toArray ++ Array.replicate (fn.ntmps - (v :: vs).toArray.size) undef
 have hsz : (v :: vs).toArray.size = ts.length + 1 := by simp [hlen]
 have hg0 : tmps.getD 0 undef = v := by
  simp only [tmps]
  rw [Array.getD_eq_getD_getElem?, Array.getElem?_append_left (by simp)]
  rfl
 have hconc : conc { tmps := tmps, defers := [] } w noRen (.t 0) = v := by simp only [conc]; exact hg0
 have hstart : SimE (Ctx.startO w fz v fn.ntmps) s0.view { tmps := tmps, defers := [] } w fz noRen := by
  refine {
   df := rfl, sz := ?_, tm := fun t => ?_, hp := fun b k hk => by simp [AS.view, s0, lk] at hk, dom := fun _ _ => rfl, inj := fun b b' c h => by simp [noRen] at h,
   fcell := hok.1, fobj := hok.2, gl := hgl, f0 := Fz.le_refl _, f1 := fun c _ _ => ⟨fun _ _ e => e, fun _ e => e⟩, tips := fun p e1 wd1 rows1 hp => ?_, tipinj := fun p q hp hq g g' n n' c c' h1 h2 h3 => ?_,
   os := rfl, tape := rfl, output := rfl, bsz := Nat.le_refl _, old := fun _ _ _ => rfl, mub := fun c hc => ((hMu c).1 hc).2, keep := fun b c c' h1 => by simp [Ctx.startO, noRen] at h1, hi := fun _ _ => rfl, muρ := fun b c h1 => by simp [Ctx.startO, noRen] at h1 }
  ·simp only [tmps, Array.size_append, Array.size_replicate, Ctx.startO]; omega
  ·cases t with
   | zero => rw [htm0]; show Holds fz _ noRen (tmps.getD 0 undef); rw [hg0]; exact hv
   | succ t =>
    rw [htmS]
    rw [List.getElem?_map]
    cases hx : ts[t]? with
    | none => simp [Holds]
    | some x =>
     obtain ⟨u, hu, hh⟩ := hvs.get _ _ _ t x hx
     have : tmps.getD (t + 1) undef = u := by
      have hlt' : t < vs.length := (List.getElem?_eq_some_iff.1 hu).1
      simp only [tmps]
      rw [Array.getD_eq_getD_getElem?, Array.getElem?_append_left (by simp; omega)]
      simp [hu]
     show Holds fz _ noRen (tmps.getD (t + 1) undef)
     rw [this]
     exact hh.dem
  ·have := hownS p (by rw [hp]; rfl)
   subst this
   rw [hconc]
   have hx : s0.view.at (.t 0) = .own e wd rows := htm0
   rw [hx] at hp
   cases hp
   rcases htip with hh | ⟨g, cap, cur, x1, x3, x4, x5, x6, x7, x8⟩
   ·exact .inl hh
   ·exact .inr ⟨g, cap, cur, x1, .inr ((hMu g).2 ⟨by rw [x1]; rfl, lt_of_heap x3⟩), x3, x4, x5, x6, x7, x8, fun b => by simp [noRen]⟩
  ·rw [hownS p hp, hownS q hq]
 refine wp_mono (h (Ctx.startO w fz v fn.ntmps) rfl _ w ⟨fz, noRen, hstart⟩) ?_
 rintro en a' w' ⟨s', ⟨fz', ρ', hs⟩, he, t, hrs, hlk⟩
 have hres : fn.results = #[.tmp t] := by apply Array.toList_inj.1; simpa using hrs
 have hvt : s'.view.tm t = .own e wd rows' := by simp [AS.view, hlk]
 have hh := hs.tm t
 rw [hvt] at hh
 have hrun : (results fn a'.tmps).run P w' = .ok (a'.tmps.getD t undef) w' := by
  rw [results_eq, hres]
  simp [resSem]
 have htp := hs.tips (.t t) e wd rows' (by simpa [View.at] using hvt)
 have hcc : conc a' w' ρ' (.t t) = a'.tmps.getD t undef := rfl
 rw [hcc] at htp
 have fin : ∃ v' fz'', Ending.returned (a'.tmps.getD t undef) = Ending.returned v' ∧ MExt (fun c => blkOf v = some c) w w' ∧ fz.le fz'' ∧ FzOK fz'' w' ∧
   (∀ c, c < w.heap.size → blkOf v ≠ some c → (∀ o, fz''.cell c o = fz.cell c o) ∧ fz''.obj c = fz.obj c) ∧ Holds fz'' (.own e wd rows') noRen v' ∧ TipA fz'' w' e wd rows' v' ∧ (∀ c, blkOf v' = some c → w.heap.size ≤ c ∨ blkOf v = some c) := by
  have hMf : ∀ c, blkOf v ≠ some c → (Ctx.startO w fz v fn.ntmps).Mu c = false := by
   intro c hc
   cases hm : (Ctx.startO w fz v fn.ntmps).Mu c with
   | false => rfl
   | true => exact absurd ((hMu c).1 hm).1 hc
  refine ⟨_, fz', rfl, ⟨hs.os, hs.tape, hs.output, hs.bsz, fun k hk hn => hs.old k hk (hMf k hn)⟩, hs.f0, ⟨hs.fcell, hs.fobj⟩, fun c hc hn => ⟨fun o => ?_, ?_⟩, by simpa only [Holds] using hh, ?_, fun c hc => ?_⟩
  ·cases e1 : fz'.cell c o with
   | none =>
    cases e2 : fz.cell c o with
    | none => rfl
    | some u => have := hs.f0.1 c o u e2; rw [e1] at this; cases this
   | some u => exact ((hs.f1 c hc (hMf c hn)).1 o u e1).symm
  ·cases e1 : fz'.obj c with
   | none =>
    cases e2 : fz.obj c with
    | none => rfl
    | some u => have := hs.f0.2 c u e2; rw [e1] at this; cases this
   | some u => exact ((hs.f1 c hc (hMf c hn)).2 u e1).symm
  ·rcases htp with hh | ⟨g, cap, cur, x1, x2, x3, x4, x5, x6, x7, x8, x9⟩
   ·exact .inl hh
   ·exact .inr ⟨g, cap, cur, x1, x3, x4, x5, x6, x7, x8⟩
  ·rcases htp with ⟨hh, _⟩ | ⟨g, cap, cur, x1, x2, x3, x4, x5, x6, x7, x8, x9⟩
   ·rw [hh] at hc; simp [blkOf] at hc
   ·rw [x1] at hc; simp only [blkOf, Option.some.injEq] at hc; subst hc
    rcases x2 with x2 | x2
    ·exact .inl x2
    ·exact .inr ((hMu g).1 x2).1
 rcases he with rfl | rfl
 ·exact ⟨hs.df, _, hrun, fin⟩
 ·exact ⟨hs.df, _, hrun, fin⟩
end Go.Aw
namespace Go.Aw
variable [GL]
/-- a contract of a function of the library that reads package variables -/
theorem Con.libG {P : Program} {f : FuncId} (vs : List Value) (v : Value) (he : Enters P f) (h : ∀ fz w, FzOK fz w → GLok fz → Calls P f vs.toArray w fun e w' => e = .returned v ∧ Ext w w') : Con P f (vs.map .val) (.val v) := by
 refine ⟨he, fun fz w us hok hgl hus => ?_⟩
 have hu : us = vs.toArray := by rw [← holds_vals hus]
 subst hu
 refine (h fz w hok hgl).mono ?_
 rintro e w' ⟨rfl, hx⟩
 exact ⟨v, fz, rfl, hx, Fz.le_refl _, ⟨fun c o u hu => hx.cell (hok.1 c o u hu), fun c o ho => hx.heap (hok.2 c o ho)⟩, fun _ _ => ⟨fun _ => rfl, rfl⟩, by simp only [Holds], fun el wd rows hr => by cases hr⟩
end Go.Aw
namespace Go.Aw
variable [GL]
variable {P : Program}
theorem hpV_one {b : Nat} {t : TypeId} {x y : AV} (hx : isOwn x = false) {p : Pl} (hp : isOwn ((hpV (lk [(b, Blk.cells t [x, y])])).at p) = true) : p = .c b 1 := by
 cases p with
 | t i => simp [View.at, hpV, isOwn] at hp
 | c b' j =>
  simp only [View.at, hpV, lk] at hp
  split at hp
  ·rename_i e; subst e
   simp only [Option.map_some, Option.getD_some, Blk.at] at hp
   match j, hp with
   | 0, hp => simp [hx] at hp
   | 1, _ => rfl
   | j + 2, hp => simp [isOwn] at hp
  ·simp [isOwn] at hp
theorem lk_one {α : Type} {b b' : Nat} {k k' : α} (h : lk [(b, k)] b' = some k') : b' = b ∧ k' = k := by
 simp only [lk] at h
 split at h
 ·rename_i e; exact ⟨e.symm, (Option.some.inj h).symm⟩
 ·cases h
/-- a block of two cells is handed over; its first cell is set -/
theorem ConM.set0 {f : FuncId} {t : TypeId} {b : Nat} {x0 x1 y r : AV} (nv rv : Nat → Value) (he : Enters P f) (hr : isOwn r = false) (h0 : isOwn x0 = false) (h1 : isOwn x1 = false)
  (hnv : ∀ (fz : Fz) (ρ : Ren) (c : Nat), ρ b = some c → Holds fz x1 ρ (nv c)) (hone : ∀ c, (nv c).oneCell' = true) (hrv : ∀ (fz : Fz) (ρ : Ren) (c : Nat), ρ b = some c → Holds fz r ρ (rv c))
  (h : ∀ (fz : Fz) (ρ : Ren) (w : World) (c : Nat) (v0 v1 : Value), ρ b = some c → w.heap[c]? = some (.cells #[v0, v1] t (0, 0)) → Holds fz x0 ρ v0 →
   Calls P f #[.pointer (some ⟨c, 0, none⟩)] w fun e w' => e = .returned (rv c) ∧ w'.os = w.os ∧ w'.tape = w.tape ∧ w'.output = w.output ∧ w'.heap.size = w.heap.size ∧ (∀ k, k ≠ c → w'.heap[k]? = w.heap[k]?) ∧ w'.heap[c]? = some (.cells #[nv c, v1] t (0, 0))) :
  ConM P f [(b, .cells t [x0, y])] [.ptr b 0] r [(b, .cells t [x1, y])] := by
 refine ⟨he, hr, fun fz ρ w vs hok _ hm hvs => ?_⟩
 obtain ⟨c, hbc, hB, hfc, hfo⟩ := hm.hp b (.cells t [x0, y]) (by simp [lk])
 obtain ⟨cur, k1, k2, k3⟩ := hB
 obtain ⟨v0, v1, rfl, hv0, hv1⟩ : ∃ v0 v1, cur = #[v0, v1] ∧ Holds fz x0 ρ v0 ∧ Holds fz y ρ v1 := by
  simp only [HoldsL] at k2
  obtain ⟨v0, r0, e0, a0, v1, r1, e1, a1, rfl⟩ := k2
  exact ⟨v0, v1, Array.toList_inj.1 (by rw [e0, e1]), a0, a1⟩
 have hv : vs = #[.pointer (some ⟨c, 0, none⟩)] := by
  simp only [HoldsL, Holds] at hvs
  obtain ⟨v, r', h4, ⟨c', h5, rfl⟩, rfl⟩ := hvs
  rw [hbc] at h5; cases h5
  exact Array.toList_inj.1 (by simpa using h4)
 subst hv
 refine (h fz ρ w c v0 v1 hbc k1 hv0).mono ?_
 rintro e w' ⟨rfl, x1', x2, x3, x4, x5, x6⟩
 have hcM : MuOf ρ w (lk [(b, Blk.cells t [x0, y])]) c := .inl ⟨b, hbc⟩
 have hcell : conc act0 w' ρ (.c b 1) = conc act0 w ρ (.c b 1) := by simp [conc, hbc, cellAt, k1, x6]
 have hatY : ∀ x : AV, (hpV (lk [(b, Blk.cells t [x, y])])).at (.c b 1) = y := fun x => by simp [View.at, hpV, lk, Blk.at]
 have hne : ∀ g, (∀ b', ρ b' ≠ some g) → g ≠ c := fun g hg e => hg b (by rw [e]; exact hbc)
 refine ⟨rv c, fz, ρ, rfl, ⟨x1', x2, x3, by omega, fun k hk hn => x5 k fun e => hn (by rw [e]; exact hcM)⟩, Fz.le_refl _, ⟨fun c' o v hv => ?_, fun c' o hv => ?_⟩, fun _ _ _ => ⟨fun _ => rfl, rfl⟩, ?_, Ren.le_refl _, fun _ _ h => .inl h, fun c' hc => .inr ?_, hrv fz ρ c hbc⟩
 ·have hne : c' ≠ c := by rintro rfl; rw [hfc] at hv; cases hv
  have hold := hok.1 _ _ _ hv
  simp only [World.cell?] at hold ⊢
  rw [x5 c' hne]; exact hold
 ·have hne : c' ≠ c := by rintro rfl; rw [hfo] at hv; cases hv
  rw [x5 c' hne]; exact hok.2 _ _ hv
 ·refine ⟨fun b' k hk => ?_, fun b' hb' => ?_, hm.inj, fun p e wd rows hp => ?_, fun p q hp hq => ?_⟩
  ·obtain ⟨rfl, rfl⟩ := lk_one hk
   refine ⟨c, hbc, ⟨#[nv c, v1], x6, ?_, fun u hu => ?_⟩, hfc, hfo⟩
   ·simp only [HoldsL]
    exact ⟨_, _, rfl, hnv fz ρ c hbc, _, _, rfl, hv1, rfl⟩
   ·simp at hu
    rcases hu with rfl | rfl
    ·exact hone c
    ·exact k3 u (by simp)
  ·refine hm.dom b' ?_
   simp only [lk] at hb' ⊢
   split at hb'
   ·cases hb'
   ·rename_i e; rw [if_neg e]
  ·have hpc := hpV_one h1 (p := p) (by rw [hp]; rfl)
   subst hpc
   rw [hatY] at hp
   have ht := hm.tips (.c b 1) e wd rows (by rw [hatY]; exact hp)
   rw [hcell]
   rcases ht with hh | ⟨g, cap, cu, y1, y2, y3, y4, y5, y6, y7, y8⟩
   ·exact .inl hh
   ·exact .inr ⟨g, cap, cu, y1, by rw [x5 g (hne g y8)]; exact y2, y3, y4, y5, y6, y7, y8⟩
  ·intro g g' n n' d d' _ _ _
   rw [hpV_one h1 hp, hpV_one h1 hq]
 ·rcases hc with hc | ⟨p, g, n', cap', ho, hcc, hgc⟩
  ·exact .inl hc
  ·have hpc := hpV_one h1 ho
   subst hpc
   refine .inr ⟨.c b 1, g, n', cap', by rw [hatY] at ho ⊢; exact ho, by rw [← hcell]; exact hcc, hgc⟩
/-- what was written is read as a text: its bytes are frozen -/
theorem ConM.text {f : FuncId} {t e1 : TypeId} {b : Nat} {x0 : AV} {l : List UInt8} (he : Enters P f) (h0 : isOwn x0 = false) (hl : l ≠ [])
  (h : ∀ (w : World) (c g cap : Nat) (v0 : Value) (cur : Array Value), w.heap[c]? = some (.cells #[v0, .slice (some ⟨g, 0, none⟩) l.length cap] t (0, 0)) → w.heap[g]? = some (.cells cur e1 (0, 0)) → l.length ≤ cap → cur.size = cap → cap ≤ maxLen →
   (∀ (j : Nat) (x : UInt8), l[j]? = some x → cur[j]? = some (.int .u8 x.toNat)) →
   Calls P f #[.pointer (some ⟨c, 0, none⟩)] w fun e w' => e = .returned (.string ⟨l.toArray⟩) ∧ w' = w.drew.freeze ⟨g, 0, none⟩ l.length) :
  ConM P f [(b, .cells t [x0, .own e1 1 (l.map fun b => [AV.val (.int .u8 (b.toNat : Int))])])] [.ptr b 0] (.val (.string ⟨l.toArray⟩)) [(b, .cells t [x0, .unk])] := by
 refine ⟨he, rfl, fun fz ρ w vs hok _ hm hvs => ?_⟩
 obtain ⟨c, hbc, hB, hfc, hfo⟩ := hm.hp b _ (by simp [lk]; rfl)
 obtain ⟨cur0, k1, k2, k3⟩ := hB
 obtain ⟨v0, v1, rfl, hv0, hv1⟩ : ∃ v0 v1, cur0 = #[v0, v1] ∧ Holds fz x0 ρ v0 ∧ Holds fz (.own e1 1 (l.map fun b => [AV.val (.int .u8 (b.toNat : Int))])) ρ v1 := by
  simp only [HoldsL] at k2
  obtain ⟨v0, r0, e0, a0, v1, r1, e1, a1, rfl⟩ := k2
  exact ⟨v0, v1, Array.toList_inj.1 (by rw [e0, e1]), a0, a1⟩
 have hv : vs = #[.pointer (some ⟨c, 0, none⟩)] := by
  simp only [HoldsL, Holds] at hvs
  obtain ⟨v, r', h4, ⟨c', h5, rfl⟩, rfl⟩ := hvs
  rw [hbc] at h5; cases h5
  exact Array.toList_inj.1 (by simpa using h4)
 subst hv
 have hat : (hpV (lk [(b, Blk.cells t [x0, .own e1 1 (l.map fun b => [AV.val (.int .u8 (b.toNat : Int))])])])).at (.c b 1) = .own e1 1 (l.map fun b => [AV.val (.int .u8 (b.toNat : Int))]) := by simp [View.at, hpV, lk, Blk.at]
 have ht := hm.tips (.c b 1) _ _ _ hat
 have hcc : conc act0 w ρ (.c b 1) = v1 := by simp [conc, hbc, cellAt, k1]
 rw [hcc] at ht
 have hll : (l.map fun b => [AV.val (.int .u8 (b.toNat : Int))]).length = l.length := by simp
 rcases ht with ⟨_, hh⟩ | ⟨g, cap, cur, y1, y2, y3, y4, y5, y6, y7, y8⟩
 ·exact absurd (List.map_eq_nil_iff.1 hh) hl
 ·subst y1
  rw [hll] at y3 k1 hcc
  simp only [Holds] at hv1
  obtain ⟨ad, cp, hsl, _, hR⟩ := hv1
  have hbytes : ∀ (j : Nat) (x : UInt8), l[j]? = some x → cur[j]? = some (.int .u8 x.toNat) := by
   intro j x hj
   rcases hR with hn | ⟨b', o', had, hR⟩
   ·exact absurd (List.map_eq_nil_iff.1 hn) hl
   ·cases hsl
    cases had
    have hrow : (l.map fun b => [AV.val (.int .u8 (b.toNat : Int))])[j]? = some [AV.val (.int .u8 (x.toNat : Int))] := by rw [List.getElem?_map, hj]; rfl
    obtain ⟨vs1, l1, c1', _⟩ := HoldsR.list _ 1 g 0 hR
    have key : ∀ (l : List UInt8) (o : Nat), HoldsR fz (l.map fun b => [AV.val (.int .u8 (b.toNat : Int))]) 1 g o → ∀ (j : Nat) (x : UInt8), l[j]? = some x → fz.cell g (o + j) = some (.int .u8 x.toNat) := by
     intro l
     induction l with
     | nil => intro o _ j x hx; simp at hx
     | cons a l ih =>
      intro o hR j x hx
      simp only [List.map_cons, HoldsR, HoldsC, Holds] at hR
      obtain ⟨_, ⟨⟨u, hu, _, rfl⟩, _⟩, hR2⟩ := hR
      cases j with
      | zero => simp at hx; subst hx; exact hu
      | succ j =>
       have := ih (o + 1) hR2 j x (by simpa using hx)
       rwa [show o + 1 + j = o + (j + 1) from by omega] at this
    have hfz := key l 0 hR j x hj
    rw [Nat.zero_add] at hfz
    have := hok.1 _ _ _ hfz
    simp only [World.cell?, y2, Option.isSome_none, Bool.false_eq_true, if_false] at this
    exact this
  have hgc : g ≠ c := fun e => y8 b (by rw [e]; exact hbc)
  refine (h w c g cap v0 cur k1 y2 y3 (by have := y5.1; rw [Nat.mul_one] at this; exact this) y4 hbytes).mono ?_
  rintro e w' ⟨rfl, rfl⟩
  have hl0 : l.length ≠ 0 := by intro e; exact hl (List.eq_nil_of_length_eq_zero e)
  have hoth : ∀ k, k ≠ g → (w.drew.freeze ⟨g, 0, none⟩ l.length).heap[k]? = w.heap[k]? := by
   intro k hk
   unfold World.freeze
   rw [if_neg hl0]
   simp only [Array.getElem?_modify]
   rw [if_neg (fun e => hk e.symm)]
   rfl
  have hgcell : ∃ fr, (w.drew.freeze ⟨g, 0, none⟩ l.length).heap[g]? = some (.cells cur e1 fr) := by
   unfold World.freeze
   rw [if_neg hl0]
   have : w.drew.heap[g]? = some (.cells cur e1 (0, 0)) := y2
   simp only [Array.getElem?_modify, if_true, this, Option.map_some]
   exact ⟨_, rfl⟩
  obtain ⟨fr, hgf⟩ := hgcell
  have hsz : (w.drew.freeze ⟨g, 0, none⟩ l.length).heap.size = w.heap.size := by
   unfold World.freeze
   rw [if_neg hl0]
   simp
  have hMg : MuOf ρ w (lk [(b, Blk.cells t [x0, .own e1 1 (l.map fun b => [AV.val (.int .u8 (b.toNat : Int))])])]) g := .inr ⟨.c b 1, ⟨g, 0, none⟩, l.length, cap, by rw [hat]; rfl, hcc, rfl⟩
  have hno : ∀ p, isOwn ((hpV (lk [(b, Blk.cells t [x0, .unk])])).at p) = false := by
   intro p
   cases ho : isOwn ((hpV (lk [(b, Blk.cells t [x0, .unk])])).at p) with
   | false => rfl
   | true =>
    have := hpV_one h0 ho
    subst this
    simp [View.at, hpV, lk, Blk.at, isOwn] at ho
  have hw : (w.drew.freeze ⟨g, 0, none⟩ l.length).os = w.os ∧ (w.drew.freeze ⟨g, 0, none⟩ l.length).tape = w.tape ∧ (w.drew.freeze ⟨g, 0, none⟩ l.length).output = w.output := by
   unfold World.freeze
   rw [if_neg hl0]
   exact ⟨rfl, rfl, rfl⟩
  refine ⟨_, fz, ρ, rfl, ⟨hw.1, hw.2.1, hw.2.2, by rw [hsz]; exact Nat.le_refl _, fun k hk hn => hoth k fun e => hn (by rw [e]; exact hMg)⟩, Fz.le_refl _, ⟨fun c' o v hv => ?_, fun c' o hv => ?_⟩, fun _ _ _ => ⟨fun _ => rfl, rfl⟩, ?_, Ren.le_refl _, fun _ _ h => .inl h, fun c' hc => .inr ?_, by simp only [Holds]⟩
  ·have hold := hok.1 _ _ _ hv
   by_cases e : c' = g
   ·subst e
    simp only [World.cell?, y2] at hold
    simp only [World.cell?, hgf]
    exact hold
   ·simp only [World.cell?] at hold ⊢
    rw [hoth c' e]; exact hold
  ·have hne : c' ≠ g := by rintro rfl; rw [y7] at hv; cases hv
   rw [hoth c' hne]; exact hok.2 _ _ hv
  ·refine ⟨fun b' k hk => ?_, fun b' hb' => ?_, hm.inj, fun p e wd rows hp => ?_, fun p q hp hq => ?_⟩
   ·obtain ⟨rfl, rfl⟩ := lk_one hk
    refine ⟨c, hbc, ⟨_, by rw [hoth c (fun e => hgc e.symm), hll]; exact k1, ?_, k3⟩, hfc, hfo⟩
    simp only [HoldsL, Holds]
    exact ⟨_, _, rfl, hv0, _, _, rfl, trivial, rfl⟩
   ·refine hm.dom b' ?_
    simp only [lk] at hb' ⊢
    split at hb'
    ·cases hb'
    ·rename_i e; rw [if_neg e]
   ·have := hno p; rw [hp] at this; cases this
   ·rw [hno p] at hp; cases hp
  ·rcases hc with hc | ⟨p, g', n', cap', ho, _⟩
   ·exact .inl hc
   ·rw [hno p] at ho; cases ho
end Go.Aw
