/- Calls; every operation. -/
import Derived.Test.YtldaibijdhjpjaaAwO
set_option linter.unusedSimpArgs false
set_option linter.unusedVariables false
namespace Go.Aw
variable {P : Program} {C : Ctx} {V : View} {a : Act} {w : World} {fz : Fz} {ρ : Ren} {o : Oper} {Q : Exit → Act → World → Prop}

theorem sound_bslice0 (h : SimE C V a w fz ρ) {t e : TypeId} {ps : Array (Nat × Operand)} (hop : o.op = .buildSlice t 0 ps) (ht : P.underlying t = some (.slice e)) {i : TypeInfo} (hi : P.info? e = some i)
    {ef : Eff} (he : aBslice0 e i.size (ps.toList.map fun p => V.ev p.2) = some ef) (hd : ∀ i, o.dst = some i → i < C.N) : Sound P C V a w o ef := by
  simp only [aBslice0] at he
  split at he
  · rename_i hc
    cases he
    have hps : ps = #[] := by
      have := hc.2
      simp only [List.isEmpty_iff, List.map_eq_nil_iff] at this
      exact Array.toList_eq_nil_iff.1 this
    subst hps
    intro Q
    refine wp_of_value (v := .slice (some ⟨w.heap.size, 0, none⟩) 0 0) (w' := w.alloc (.cells #[] e)) ?_ (h.grown hd (pre := []) (cur := #[]) (cap := 0) (Ext.alloc w _) (heap_alloc_new w _) (by simp) (by simp) (by simp) (by simp) (by simp) (by simp [HoldsR]))
    simp [execOp, hop, Instr.buildSlice, run_underlying ht, sizeOf, typeInfo, hi, arange0, Instr.fill, newRow]
  · cases he

theorem sound_pick (h : SimE C V a w fz ρ) {c x y : Operand} (hop : o.op = .pick c x y) {ef : Eff} (he : aPick [V.ev c, V.ev x, V.ev y] = some ef) (hd : ∀ i, o.dst = some i → i < C.N) : Sound P C V a w o ef := by
  have hc := h.ev c
  unfold aPick at he
  split at he
  · rename_i b xv yv heq
    simp only [List.cons.injEq, and_true] at heq
    obtain ⟨e1, e2, e3⟩ := heq
    rw [e1] at hc; simp only [Holds] at hc
    subst e2; subst e3
    cases he
    refine sound_value h (v := if b then a.eval x else a.eval y) (by simp [execOp, hop, hc, asBool]) hd ?_ ?_
    · cases b
      · exact (h.ev y).dem
      · exact (h.ev x).dem
    · cases b
      · exact isOwn_dem _
      · exact isOwn_dem _
  · cases he
theorem sound_mm (h : SimE C V a w fz ρ) {mx : Bool} {x y : Operand} {ats : Array TypeId} (hop : o.op = .call { callee := .builtin (if mx then .max else .min), args := #[x, y], argTypes := ats }) {ef : Eff} (he : aMm mx [V.ev x, V.ev y] = some ef) (hd : ∀ i, o.dst = some i → i < C.N) : Sound P C V a w o ef := by
  have hx := h.ev x
  have hy := h.ev y
  unfold aMm at he
  split at he
  · rename_i j n k m heq
    simp only [List.cons.injEq, and_true] at heq
    obtain ⟨e1, e2⟩ := heq
    rw [e1] at hx; rw [e2] at hy; simp only [Holds] at hx hy
    split at he
    · rename_i hjk
      subst hjk
      cases he
      refine sound_value h (v := .int j (if mx then (if m > n then m else n) else (if m < n then m else n))) ?_ hd (by simp only [Holds]) rfl
      cases mx <;> simp [execOp, hop, resolve, invoke, builtin, Builtin.max_, Builtin.min_, Builtin.max2, Builtin.min2, hx, hy]
    · cases he
  · cases he

def fullFz (w : World) : Fz := { cell := fun c o => w.cell? ⟨c, o, none⟩, obj := fun c => w.heap[c]? }
theorem SimE.le_full (h : SimE C V a w fz ρ) : fz.le (fullFz w) := ⟨h.fcell, h.fobj⟩
theorem fullFz_ok (w : World) : FzOK (fullFz w) w := ⟨fun _ _ _ h => h, fun _ _ h => h⟩

/-- F shows all that is frozen, and the call's own blocks as they are -/
structure Shows (F fz : Fz) (w : World) (ρ : Ren) : Prop where
  le : fz.le F
  cell : ∀ b c o v, ρ b = some c → w.cell? ⟨c, o, none⟩ = some v → F.cell c o = some v
  obj : ∀ b c o, ρ b = some c → w.heap[c]? = some o → F.obj c = some o
theorem Shows.cells {F fz : Fz} {w : World} {ρ : Ren} (h : Shows F fz w ρ) {b c : Nat} (hb : ρ b = some c) {cur : Array Value} {e : TypeId} (hc : w.heap[c]? = some (.cells cur e (0, 0))) (j : Nat) (v : Value) (hj : cur.toList[j]? = some v) : F.cell c j = some v := by
  refine h.cell b c j v hb ?_
  simp only [World.cell?, hc, Option.isSome_none, Bool.false_eq_true, if_false]
  simpa using hj
theorem SimE.shows_full (h : SimE C V a w fz ρ) : Shows (fullFz w) fz w ρ := ⟨h.le_full, fun _ _ _ _ _ e => e, fun _ _ _ _ e => e⟩
theorem cells_full {c : Nat} {cur : Array Value} {e : TypeId} (hc : w.heap[c]? = some (.cells cur e (0, 0))) (j : Nat) (v : Value) (hj : cur.toList[j]? = some v) : (fullFz w).cell c j = some v := by
  simp only [fullFz, World.cell?, hc, Option.isSome_none, Bool.false_eq_true, if_false]
  simpa using hj

mutual
theorem Rsv.holds (h : SimE C V a w fz ρ) {F : Fz} (hF : Shows F fz w ρ) {g : Nat → Option Blk} (hg : ∀ b k, g b = some k → V.hp b = some k) : ∀ {x y : AV}, Rsv g x y → ∀ v, Holds fz x ρ v → Holds F y noRen v
  | _, _, .closed hc, v, hv => (hv.mono hF.le _ _ _ _ (Ren.le_refl _)).noref _ _ _ _ hc
  | _, _, .own, v, hv => by
    have := hv.mono hF.le _ _ _ _ (Ren.le_refl _)
    simpa only [Holds] using this
  | _, _, .fx, v, hv => by
    have := hv.mono hF.le _ _ _ _ (Ren.le_refl _)
    simp only [Holds] at this ⊢
    obtain ⟨a, e, h⟩ := this
    exact ⟨a, _, e, Nat.le_refl _, h⟩
  | _, _, .nil, v, hv => by
    simp only [Holds] at hv ⊢
    exact ⟨none, 0, hv, Nat.le_refl _, by simp⟩
  | _, _, .agg hl, v, hv => by
    simp only [Holds] at hv ⊢; obtain ⟨cs, e, hv⟩ := hv; exact ⟨cs, e, RsvL.holds h hF hg hl _ hv⟩
  | _, _, .tup hl, v, hv => by
    simp only [Holds] at hv ⊢; obtain ⟨cs, e, hv⟩ := hv; exact ⟨cs, e, RsvL.holds h hF hg hl _ hv⟩
  | _, _, .clo hl, v, hv => by
    simp only [Holds] at hv ⊢; obtain ⟨cs, e, hv⟩ := hv; exact ⟨cs, e, RsvL.holds h hF hg hl _ hv⟩
  | _, _, .ifc hx, v, hv => by
    simp only [Holds] at hv ⊢; obtain ⟨u, e, hv⟩ := hv; exact ⟨u, e, Rsv.holds h hF hg hx _ hv⟩
  | _, _, .ptr (b := b) (off := off) (e := e) (cs := cs) (cs' := cs') hb hl, v, hv => by
    simp only [Holds] at hv ⊢
    obtain ⟨c, hρ, rfl⟩ := hv
    obtain ⟨c', hc', _, ⟨cur, hcur, hcl, hone⟩, _⟩ := h.hp _ _ (hg _ _ hb)
    rw [hρ] at hc'; cases hc'
    have hH := RsvL.holds h hF hg hl _ hcl
    refine ⟨c, 0, by simp, ?_⟩
    simp only [HoldsR, true_and, and_true]
    refine HoldsC.of_get _ _ _ fun j x hj => ?_
    obtain ⟨u, hu, hh⟩ := hH.get _ _ _ j x hj
    exact ⟨u, by rw [Nat.zero_add]; exact (hF.cells hρ) hcur j u hu, hone u (List.mem_of_getElem? hu), hh⟩
  | _, _, .vec (b := b) (w := wd) (off := off) (n := n) (cap := cap) (e := e) (cs := cs) (cs' := cs') hb hl hfit hcap, v, hv => by
    simp only [Holds] at hv ⊢
    obtain ⟨c, hρ, rfl⟩ := hv
    obtain ⟨c', hc', _, ⟨cur, hcur, hcl, hone⟩, _⟩ := h.hp _ _ (hg _ _ hb)
    rw [hρ] at hc'; cases hc'
    have hH := RsvL.holds h hF hg hl _ hcl
    have hlen : cs'.length = cs.length := by rw [← hH.len, hcl.len]
    have hcl2 : (chunk wd n (cs'.drop off)).length = n := by simp [chunk]
    rw [hcl2]
    refine ⟨_, _, rfl, hcap, .inr ⟨c, off, rfl, ?_⟩⟩
    refine HoldsR.of_get _ _ _ _ fun i r hr => ?_
    simp only [Aw.chunk, List.getElem?_map] at hr
    cases hi : (List.range n)[i]? with
    | none => rw [hi] at hr; simp at hr
    | some i' =>
      rw [hi] at hr
      obtain ⟨hlt, he⟩ := List.getElem?_eq_some_iff.1 hi
      simp only [List.getElem_range] at he
      subst he
      simp at hr; subst hr
      have hin : i < n := by simpa using hlt
      have hmul : i * wd + wd ≤ n * wd := by
        have := Nat.mul_le_mul_right wd (show i + 1 ≤ n from hin)
        rw [Nat.add_mul] at this; omega
      refine ⟨by simp; omega, HoldsC.of_get _ _ _ fun j x hj => ?_⟩
      rw [List.getElem?_take] at hj
      split at hj
      · rw [List.getElem?_drop] at hj
        obtain ⟨u, hu, hh⟩ := hH.get _ _ _ _ x hj
        exact ⟨u, (hF.cells hρ) hcur _ u hu, hone u (List.mem_of_getElem? hu), hh⟩
      · cases hj
  | _, _, .mapr (b := b) (ks := ks) (vs := vs) (vs' := vs') hb hl, v, hv => by
    simp only [Holds] at hv ⊢
    obtain ⟨c, hρ, rfl⟩ := hv
    obtain ⟨c', hc', _, ⟨es, clock, hm, hks, hvs, _⟩, _⟩ := h.hp _ _ (hg _ _ hb)
    rw [hρ] at hc'; cases hc'
    exact .inr ⟨c, es, clock, rfl, hF.obj _ _ _ hρ hm, hks, RsvL.holds h hF hg hl _ hvs⟩
theorem RsvL.holds (h : SimE C V a w fz ρ) {F : Fz} (hF : Shows F fz w ρ) {g : Nat → Option Blk} (hg : ∀ b k, g b = some k → V.hp b = some k) : ∀ {l l' : List AV}, RsvL g l l' → ∀ vs, HoldsL fz l ρ vs → HoldsL F l' noRen vs
  | _, _, .nil, vs, hv => by simpa only [HoldsL] using hv
  | _, _, .cons hx hl, vs, hv => by
    simp only [HoldsL] at hv ⊢
    obtain ⟨v, r, e, h1, h2⟩ := hv
    exact ⟨v, r, e, Rsv.holds h hF hg hx v h1, RsvL.holds h hF hg hl r h2⟩
end
mutual
theorem Rsv.holds_noref {g : Nat → Option Blk} : ∀ {x y : AV}, Rsv g x y → noref x = true → ∀ v, Holds fz x ρ v → Holds fz y noRen v
  | _, _, .closed hc, _, v, hv => hv.noref _ _ _ _ hc
  | _, _, .own, _, v, hv => by simpa only [Holds] using hv
  | _, _, .fx, _, v, hv => by
    simp only [Holds] at hv ⊢
    obtain ⟨a, e, h⟩ := hv
    exact ⟨a, _, e, Nat.le_refl _, h⟩
  | _, _, .nil, _, v, hv => by
    simp only [Holds] at hv ⊢
    exact ⟨none, 0, hv, Nat.le_refl _, by simp⟩
  | _, _, .agg hl, hn, v, hv => by
    simp only [Aw.noref] at hn; simp only [Holds] at hv ⊢; obtain ⟨cs, e, hv⟩ := hv; exact ⟨cs, e, RsvL.holds_noref hl hn _ hv⟩
  | _, _, .tup hl, hn, v, hv => by
    simp only [Aw.noref] at hn; simp only [Holds] at hv ⊢; obtain ⟨cs, e, hv⟩ := hv; exact ⟨cs, e, RsvL.holds_noref hl hn _ hv⟩
  | _, _, .clo hl, hn, v, hv => by
    simp only [Aw.noref] at hn; simp only [Holds] at hv ⊢; obtain ⟨cs, e, hv⟩ := hv; exact ⟨cs, e, RsvL.holds_noref hl hn _ hv⟩
  | _, _, .ifc hx, hn, v, hv => by
    simp only [Aw.noref] at hn; simp only [Holds] at hv ⊢; obtain ⟨u, e, hv⟩ := hv; exact ⟨u, e, Rsv.holds_noref hx hn _ hv⟩
  | _, _, .ptr _ _, hn, _, _ => by simp [Aw.noref] at hn
  | _, _, .vec _ _ _ _, hn, _, _ => by simp [Aw.noref] at hn
  | _, _, .mapr _ _, hn, _, _ => by simp [Aw.noref] at hn
theorem RsvL.holds_noref {g : Nat → Option Blk} : ∀ {l l' : List AV}, RsvL g l l' → norefL l = true → ∀ vs, HoldsL fz l ρ vs → HoldsL fz l' noRen vs
  | _, _, .nil, _, vs, hv => by simpa only [HoldsL] using hv
  | _, _, .cons hx hl, hn, vs, hv => by
    simp only [norefL, Bool.and_eq_true] at hn
    simp only [HoldsL] at hv ⊢
    obtain ⟨v, r, e, h1, h2⟩ := hv
    exact ⟨v, r, e, Rsv.holds_noref hx hn.1 v h1, RsvL.holds_noref hl hn.2 r h2⟩
end

theorem callee_run (h : SimE C V a w fz ρ) {f : Operand} {fn : FuncId} {caps : List AV} (hc : callee (V.ev f) = some (fn, caps)) : ∃ cs : Array Value, a.eval f = .func (.func fn) #[] cs ∧ HoldsL fz caps ρ cs.toList := by
  have hf := h.ev f
  unfold callee at hc
  split at hc
  · rename_i f' first cs heq
    split at hc
    · rename_i hcond
      cases hc
      rw [heq] at hf; simp only [Holds] at hf
      have h1 : first = #[] := by simpa using hcond.1
      have h2 : cs = #[] := by simpa using hcond.2
      subst h1; subst h2
      exact ⟨#[], hf, by simp [HoldsL]⟩
    · cases hc
  · rename_i f' cs heq
    cases hc
    rw [heq] at hf; simp only [Holds] at hf
    obtain ⟨vs, hv, hl⟩ := hf
    exact ⟨vs, hv, hl⟩
  · cases hc

theorem sound_call (h : SimE C V a w fz ρ) {f : Operand} {args : Array Operand} {ats : Array TypeId} (hop : o.op = .call { callee := .value f, args := args, argTypes := ats }) {r : AV} {g : Nat → Option Blk}
    (hg : ∀ b k, g b = some k → V.hp b = some k) {ef : Eff} (he : aCall P r g (V.ev f :: args.toList.map V.ev) = some ef) (hob : ef.ob) (hd : ∀ i, o.dst = some i → i < C.N) : Sound P C V a w o ef := by
  simp only [aCall] at he
  split at he
  · rename_i fn caps hc
    cases he
    obtain ⟨ts, hts, hfl, ⟨fnn, hfn, hname, hbody⟩, hcon⟩ := hob
    obtain ⟨cs, hfv, hcl⟩ := callee_run h hc
    have hargs : HoldsL fz (args.toList.map V.ev ++ caps) ρ ((args.map a.eval) ++ cs).toList := by
      simp only [Array.toList_append, Array.toList_map]
      exact (h.evL args.toList).append hcl
    have hex : (execOp a.eval o).run P w = .ok (.enter fn ((args.map a.eval) ++ cs)) w := by
      have hb : ¬ fnn.body = none := by intro e; rw [e] at hbody; simp at hbody
      have hn' : ¬ fnn.name = "runtime.NumGoroutine" := by intro e; rw [e] at hname; simp at hname
      simp [execOp, hop, resolve, hfv, Deferred.ofValue, invoke, callFunc, hfn, hn', hb]
    intro Q
    unfold Oper.wp
    rw [hex]
    simp only [Oper.upon]
    rcases hfl with hflat | hnr
    · -- the result hangs on no memory
      refine (hcon (fullFz w) w _ (fullFz_ok w) (hts.holds h h.shows_full hg _ hargs)).mono ?_
      rintro e w' ⟨v, fz', rfl, hext, _, _, _, hr, _⟩
      exact ⟨fz, ρ, (h.ext hext).putO hd (hr.flat _ _ _ _ hflat) (by cases r <;> simp_all [Aw.flat, isOwn])⟩
    · -- the arguments name no block of the call's own
      refine (hcon fz w _ ⟨h.fcell, h.fobj⟩ (hts.holds_noref hnr _ hargs)).mono ?_
      rintro e w' ⟨v, fz', rfl, hext, hle, hok, hsame, hr, htip⟩
      have h1 := h.extend hext hle hok.1 hok.2 hsame
      refine ⟨fz', ρ, ?_⟩
      by_cases ho : isOwn r = true
      · obtain ⟨el, wd, rows, rfl⟩ : ∃ el wd rows, r = .own el wd rows := by
          cases r <;> simp [isOwn] at ho
          exact ⟨_, _, _, rfl⟩
        cases hdst : o.dst with
        | none => exact h1
        | some d =>
          refine h1.putOwn (hd d hdst) (hr.mono (Fz.le_refl _) _ _ _ _ (noRen_le _)) ?_ (fun q _ hqo x x' n n' c c' hv hc => ?_)
          · rcases htip el wd rows rfl with hh | ⟨gg, cap, cur, x1, x2, x3, x4, x5, x6, x7, x8⟩
            · exact .inl hh
            · exact .inr ⟨gg, cap, cur, x1, Nat.le_trans h.bsz x2, x3, x4, x5, x6, x7, x8, fun b hb => absurd (h.lt hb) (by omega)⟩
          · have hlt := fun {b c} => SimE.lt h (b := b) (c := c)
            rw [h.conc_same (w' := w') hqo (Ren.le_refl _) (fun b j c _ hc => hext.block c (hlt hc))] at hc
            cases hq' : V.at q <;> rw [hq'] at hqo <;> simp [isOwn] at hqo
            rcases h.tips q _ _ _ hq' with ⟨x1, _⟩ | ⟨y, _, _, x1, _, x3, _⟩
            · rw [hc] at x1; cases x1
            · rw [hc] at x1; cases x1
              have hy := lt_of_heap x3
              rcases htip el wd rows rfl with ⟨hh, _⟩ | ⟨gg, cap, cur, y1, y2, _⟩
              · rw [hv] at hh; cases hh
              · rw [hv] at y1; cases y1
                simp; omega
      · have ho' : isOwn r = false := by simpa using ho
        exact h1.putO hd (hr.mono (Fz.le_refl _) _ _ _ _ (noRen_le _)) ho'
  · cases he
end Go.Aw
