/- Closed runs: functions; a closed run is a contract. -/
import Derived.Test.YtempphkfacccoaaEvQ
set_option linter.unusedSimpArgs false
set_option linter.unusedVariables false
namespace Go.Ev
variable {P : Program} {C : Ctx} {a : Act} {w : World} {Q : Exit → Act → World → Prop}

inductive XRes where
  | tmp (t : Nat)
  | cell (t n : Nat) (ag : Bool)
def trRes (P : Program) : List ResultVar → Option (List XRes)
  | [] => some []
  | .tmp t :: r => match trRes P r with
    | some l => some (.tmp t :: l)
    | none => none
  | .cell t ty :: r => match Aw.szOf P ty, Aw.isAggT P ty, trRes P r with
    | some n, some ag, some l => some (.cell t n ag :: l)
    | _, _, _ => none
def resX (E : Env) (H : Tr EBlk) : XRes → Option EV
  | .tmp t => some (gt E t)
  | .cell t n ag => match eLoad n ag H.get [gt E t] with
    | some ef => some ef.out
    | none => none
def ress (E : Env) (H : Tr EBlk) : List XRes → Option (List EV)
  | [] => some []
  | r :: rs => match resX E H r, ress E H rs with
    | some x, some l => some (x :: l)
    | _, _ => none
def oneOf : List EV → EV
  | [v] => v
  | l => .tup l
structure XF where
  np : Nat
  body : XC
  res : List XRes
def compF (P : Program) (f : FuncId) : Option XF :=
  match P.funcs[f]? with
  | none => none
  | some fn => match fn.name == "runtime.NumGoroutine" with
    | true => none
    | false => match fn.body with
      | none => none
      | some c => match trRes P fn.results.toList with
        | none => none
        | some rs => some ⟨fn.ntmps, comp P fn.ntmps c, rs⟩
def enterE : List EV → Nat → Env → Env
  | [], _, E => E
  | v :: vs, i, E => enterE vs (i + 1) (E.set i (some v))
def leaveE (xf : XF) : Option (Ex × Env × Hp) → Option (EV × Hp)
  | some (.normal, E, H) => match ress E H.t xf.res with
    | some l => some (oneOf l, H)
    | none => none
  | some (.ret, E, H) => match ress E H.t xf.res with
    | some l => some (oneOf l, H)
    | none => none
  | _ => none
/-- the program, run: fuel for code, depth of calls -/
def runF (cf : FuncId → Option XF) (fuel : Nat) : Nat → Fn'
  | 0 => fun _ _ _ => none
  | n + 1 => fun f args H => match cf f with
    | none => none
    | some xf => match Nat.ble args.length xf.np with
      | false => none
      | true => leaveE xf (semC (runF cf fuel n) fuel xf.body (enterE args 0 .nil) H)

theorem gt_enter : ∀ (vs : List EV) (i : Nat) (E : Env) (t : Nat), gt (enterE vs i E) t = if i ≤ t ∧ t < i + vs.length then vs.getD (t - i) .unk else gt E t
  | [], i, E, t => by simp only [enterE, List.length_nil]; rw [if_neg (by omega)]
  | v :: vs, i, E, t => by
    simp only [enterE]
    rw [gt_enter vs (i + 1)]
    simp only [List.length_cons]
    by_cases h1 : i + 1 ≤ t ∧ t < i + 1 + vs.length
    · rw [if_pos h1, if_pos (by omega), show t - i = (t - (i + 1)) + 1 from by omega]; simp
    · rw [if_neg h1]
      have e : gt (E.set i (some v)) t = if t = i then v else gt E t := by
        simp only [gt, get_set]
        by_cases h : t = i
        · simp [h]
        · simp [h]
      rw [e]
      by_cases h2 : t = i
      · subst h2; rw [if_pos rfl, if_pos (by omega)]; simp
      · rw [if_neg h2, if_neg (by omega)]

theorem res_run {V : View} {ρ : Ren} (h : SimE C V a w ρ) {v : ResultVar} {r : XRes} {x : EV} {E : Env} {H : Tr EBlk} (hV : V = vw E H.get) (htr : trRes P [v] = some [r]) (hx : resX E H r = some x) :
    ∃ u, (Aw.resSem a.tmps v).run P w = .ok u w ∧ Holds ρ x u := by
  subst hV
  cases v with
  | tmp t =>
    simp only [trRes, Option.some.injEq, List.cons.injEq, and_true] at htr; subst htr
    simp only [resX, Option.some.injEq] at hx; subst hx
    exact ⟨_, rfl, h.tm t⟩
  | cell t ty =>
    simp only [trRes] at htr
    split at htr
    · rename_i n ag l hn hag hl
      simp only [Option.some.injEq, List.cons.injEq] at htr
      obtain ⟨rfl, _⟩ := htr
      simp only [resX] at hx
      split at hx
      · rename_i ef hef
        cases hx
        have hx := h.tm t
        change Holds ρ (gt E t) (a.tmps.getD t undef) at hx
        unfold eLoad at hef
        split at hef
        · rename_i b i k heq
          simp only [List.cons.injEq, and_true] at heq
          rw [heq] at hx
          simp only [Holds] at hx
          obtain ⟨L, hρ, hv⟩ := hx
          split at hef
          · rename_i e wd ro al rows hb
            split at hef
            · rename_i r hr
              split at hef
              · rename_i y hy
                cases hef
                obtain ⟨L', hL', _, hB⟩ := h.mem.live (b := b) (k := .cells e wd ro al rows) hb (by simp)
                rw [hρ] at hL'; cases hL'
                have hLw : L.w = wd := by obtain ⟨_, _, _, h3, _⟩ := hB; exact h3
                obtain ⟨vs, hvs, hca, _⟩ := hB.row hr
                obtain ⟨v, hrun, hh⟩ := run_loadVar_at (P := P) hag hn hca hvs hy
                refine ⟨v, ?_, hh⟩
                rw [← hLw] at hrun
                simp only [Aw.resSem, hv, asAddr, Sem.run_bind, Sem.run_pure, Result.andThen_ok, hrun]
              · cases hef
            · cases hef
          · cases hef
        · cases hef
      · cases hx
    · cases htr
theorem ress_run {V : View} {ρ : Ren} (h : SimE C V a w ρ) {E : Env} {H : Tr EBlk} (hV : V = vw E H.get) : ∀ (vars : List ResultVar) (rs : List XRes) (l : List EV), trRes P vars = some rs → ress E H rs = some l →
    ∃ us : List Value, (vars.mapM (Aw.resSem a.tmps)).run P w = .ok us w ∧ HoldsL ρ l us
  | [], rs, l, htr, hl => by
    simp only [trRes, Option.some.injEq] at htr; subst htr
    simp only [ress, Option.some.injEq] at hl; subst hl
    exact ⟨[], by simp, by simp [HoldsL]⟩
  | v :: vars, rs, l, htr, hl => by
    have split1 : ∃ r rs', rs = r :: rs' ∧ trRes P [v] = some [r] ∧ trRes P vars = some rs' := by
      cases v with
      | tmp t =>
        simp only [trRes] at htr ⊢
        split at htr
        · rename_i l' hl'; cases htr; exact ⟨_, _, rfl, rfl, hl'⟩
        · cases htr
      | cell t ty =>
        simp only [trRes] at htr ⊢
        split at htr
        · rename_i n ag l' hn hag hl'
          cases htr
          exact ⟨_, _, rfl, by simp [hn, hag], hl'⟩
        · cases htr
    obtain ⟨r, rs', rfl, h1, h2⟩ := split1
    simp only [ress] at hl
    split at hl
    · rename_i x l' hx hl'
      cases hl
      obtain ⟨u, e1, e2⟩ := res_run h hV h1 hx
      obtain ⟨us, e3, e4⟩ := ress_run h hV vars rs' l' h2 hl'
      refine ⟨u :: us, ?_, by simp only [HoldsL]; exact ⟨u, us, rfl, e2, e4⟩⟩
      rw [List.mapM_cons]
      simp only [Sem.run_bind]
      rw [e1]
      simp only [Result.andThen_ok]
      rw [e3]
      simp
    · cases hl

theorem compF_some {f : FuncId} {xf : XF} (h : compF P f = some xf) : ∃ fn c, P.funcs[f]? = some fn ∧ (fn.name == "runtime.NumGoroutine") = false ∧ fn.body = some c ∧ trRes P fn.results.toList = some xf.res ∧ xf.np = fn.ntmps ∧ xf.body = comp P fn.ntmps c := by
  unfold compF at h
  split at h
  · cases h
  · rename_i fn hfn
    split at h
    · cases h
    · rename_i hname
      split at h
      · cases h
      · rename_i c hc
        split at h
        · cases h
        · rename_i rs hrs
          cases h
          exact ⟨fn, c, hfn, hname, hc, hrs, rfl, rfl⟩

theorem leaveE_some {xf : XF} {r : Option (Ex × Env × Hp)} {v : EV} {H' : Hp} (h : leaveE xf r = some (v, H')) : ∃ e E l, r = some (e, E, H') ∧ (e = .normal ∨ e = .ret) ∧ ress E H'.t xf.res = some l ∧ v = oneOf l := by
  unfold leaveE at h
  split at h
  · rename_i E H
    split at h
    · rename_i l hl; cases h; exact ⟨_, E, l, rfl, .inl rfl, hl, rfl⟩
    · cases h
  · rename_i E H
    split at h
    · rename_i l hl; cases h; exact ⟨_, E, l, rfl, .inr rfl, hl, rfl⟩
    · cases h
  · cases h

theorem runF_ok (hm : P.follows .mixedOrders = true) {cf : FuncId → Option XF} (hcf : ∀ f xf, cf f = some xf → compF P f = some xf) (fuel : Nat) : ∀ n, FOK P (runF cf fuel n)
  | 0 => fun f args H v H' R h => by simp [runF] at h
  | n + 1 => fun f args H v H' R h hok => by
    have ih := runF_ok hm hcf fuel n
    simp only [runF] at h
    split at h
    · cases h
    · rename_i xf hxf
      obtain ⟨fn, c, hfn, hname, hbody, hres, hnp, hcomp⟩ := compF_some (hcf f xf hxf)
      split at h
      · cases h
      · rename_i hle
        obtain ⟨e, E', l, hrun, he, hl, rfl⟩ := leaveE_some h
        have hlen : args.length ≤ fn.ntmps := by rw [← hnp]; exact Nat.le_of_ble_eq_true hle
        rw [hcomp] at hrun
        obtain ⟨g, _⟩ := (semC_sound (C := { callCtx default (fun _ => none) H.t.get with N := fn.ntmps }) ih hm (R := R) fuel).1 c _ _ _ _ _ hrun hok
        refine ⟨⟨⟨fn, hfn, hname, by rw [hbody]; rfl⟩, g.2.stay, fun w ρ vs hmem hargs => ?_⟩, g.1, g.2.nx, g.2.low⟩
        let C : Ctx := { callCtx w ρ H.t.get with N := fn.ntmps }
        obtain ⟨_, hw⟩ := (semC_sound (C := C) ih hm (R := R) fuel).1 c _ _ _ _ _ hrun hok
        have hvs := hargs.len
        have hsz : vs.size = args.length := by simpa using hvs
        have hstart : SimE C (vw (enterE args 0 .nil) H.t.get) { tmps := vs ++ Array.replicate (fn.ntmps - vs.size) undef, defers := [] } w ρ := by
          refine { df := rfl, sz := ?_, tm := fun t => ?_, mem := { hp := hmem.hp, dom := hmem.dom, alias := hmem.alias, ext := hmem.ext, kept := hmem.kept, os := hmem.os, tape := hmem.tape, output := hmem.output, bsz := hmem.bsz, old := hmem.old } }
          · simp only [Array.size_append, Array.size_replicate]; show _ = fn.ntmps; omega
          · simp only [vw]
            rw [gt_enter]
            by_cases ht : 0 ≤ t ∧ t < 0 + args.length
            · rw [if_pos ht]
              have hx : args[t]? = some (args[t]'(by omega)) := List.getElem?_eq_getElem _
              obtain ⟨v, hv, hh⟩ := hargs.get t _ hx
              have hvs' : vs[t]? = some v := by simpa using hv
              have hlt : t < vs.size := by omega
              rw [Nat.sub_zero, List.getD_eq_getElem?_getD, hx, Array.getD_eq_getD_getElem?, Array.getElem?_append_left hlt, hvs']
              exact hh
            · rw [if_neg ht]
              simp [gt, Tr.get, Holds]
        refine calls_of_wp hfn hbody ?_
        refine wp_mono (hw _ w ⟨ρ, hstart⟩) ?_
        rintro e' a' w' ⟨rfl, ρ', hs⟩
        obtain ⟨us, hus, hUL⟩ := ress_run hs rfl _ _ _ hres hl
        have hval : ∃ v, (results fn a'.tmps).run P w' = .ok v w' ∧ Holds ρ' (oneOf l) v := by
          have hm : (fn.results.mapM (Aw.resSem a'.tmps)).run P w' = .ok us.toArray w' := by
            rw [← Array.toArray_toList (xs := fn.results), List.mapM_toArray]
            simp only [Sem.run_map]
            rw [hus]
            rfl
          have hl2 := hUL.len
          refine ⟨if h : us.toArray.size = 1 then us.toArray[0] else .tuple us.toArray, ?_, ?_⟩
          · rw [Aw.results_eq, Sem.run_bind, hm]
            simp
          · cases l with
            | nil =>
              have : us = [] := List.eq_nil_of_length_eq_zero (by simpa using hl2)
              subst this
              simp [oneOf, Holds, HoldsL]
            | cons x l =>
              cases l with
              | nil =>
                simp only [HoldsL] at hUL
                obtain ⟨v, r', rfl, hv, rfl⟩ := hUL
                simpa [oneOf] using hv
              | cons y l =>
                have : ¬ us.toArray.size = 1 := by simp at hl2 ⊢; omega
                rw [dif_neg this]
                simp only [oneOf, Holds]
                exact ⟨_, rfl, by simpa using hUL⟩
        obtain ⟨v, hvr, hvh⟩ := hval
        have hmem' : MemE (callCtx w ρ H.t.get) H'.t.get w' ρ' := { hp := hs.mem.hp, dom := hs.mem.dom, alias := hs.mem.alias, ext := hs.mem.ext, kept := hs.mem.kept, os := hs.mem.os, tape := hs.mem.tape, output := hs.mem.output, bsz := hs.mem.bsz, old := hs.mem.old }
        have hfin : a'.defers = [] ∧ ∃ v, (results fn a'.tmps).run P w' = .ok v w' ∧ ∃ u ρ', Ending.returned v = .returned u ∧ Ren.le ρ ρ' ∧ Holds ρ' (oneOf l) u ∧ MemE (callCtx w ρ H.t.get) H'.t.get w' ρ' :=
          ⟨hs.df, v, hvr, v, ρ', rfl, hmem'.ext, hvh, hmem'⟩
        rcases he with rfl | rfl
        · exact hfin
        · exact hfin

/-- a closed run that ends in a plain value is a contract -/
theorem con_of_run (hm : P.follows .mixedOrders = true) {fuel n : Nat} {f : FuncId} {b : Bool} {H' : Hp} (h : runF (compF P) fuel n f [] ⟨.nil, 0⟩ = some (.bool b, H')) : Aw.Con P f [] (.val (.bool b)) := by
  obtain ⟨⟨hent, _, hcon⟩, _⟩ := runF_ok hm (fun _ _ h => h) fuel n f [] ⟨.nil, 0⟩ _ _ (fun _ => False) h ⟨fun b _ => by simp [Tr.get], fun x k e => by simp [Tr.get] at e, fun b hb => hb.elim⟩
  refine ⟨hent, fun fz w vs hok hvs => ?_⟩
  have hvs0 : vs.toList = [] := by simpa only [Aw.HoldsL] using hvs
  have hmem : MemE (callCtx w (fun _ => none) (Tr.nil : Tr EBlk).get) (Tr.nil : Tr EBlk).get w (fun _ => none) := by
    refine { hp := fun b k e => by simp [Tr.get] at e, dom := fun _ _ => rfl, alias := fun b b' k k' L L' _ e => by simp [Tr.get] at e, ext := Ren.le_refl _, kept := fun b hb => ?_, os := rfl, tape := rfl, output := rfl, bsz := Nat.le_refl _, old := fun _ _ => rfl }
    have : (Tr.nil : Tr EBlk).get b = some .dead := hb
    simp [Tr.get] at this
  refine (hcon w _ vs hmem (by rw [hvs0]; simp [HoldsL])).mono ?_
  rintro e w' ⟨u, ρ', rfl, _, hh, hm'⟩
  simp only [Holds] at hh
  subst hh
  have hext : Aw.Ext w w' := ⟨hm'.os, hm'.tape, hm'.output, hm'.bsz, fun k hk => hm'.old k ⟨hk, fun b L ⟨kb, hb, _⟩ => by simp [Tr.get] at hb⟩⟩
  refine ⟨_, fz, rfl, hext, Aw.Fz.le_refl _, ⟨fun c o v e => hext.cell (hok.1 c o v e), fun c o e => hext.heap (hok.2 c o e)⟩, fun c _ => ⟨fun _ => rfl, rfl⟩, by simp only [Aw.Holds], fun el wd rows e => by cases e⟩
end Go.Ev
