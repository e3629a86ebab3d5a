/- Calls; every operation. -/
import Derived.Test.YtdobngcdgkallaaGreatDoorAwOb
set_option linter.unusedSimpArgs false
set_option linter.unusedVariables false
set_option linter.unusedSectionVars false
namespace Go.Aw
variable [GL]
variable {P : Program} {C : Ctx} {V : View} {a : Act} {w : World} {fz : Fz} {ρ : Ren} {o : Oper} {Q : Exit → Act → World → Prop}

theorem sound_bslice0 (h : SimE C V a w fz ρ) {t e : TypeId} {ps : Array (Nat × Operand)} (hop : o.op = .buildSlice t 0 ps) (ht : P.underlying t = some (.slice e)) {i : TypeInfo} (hi : P.info? e = some i)
  {ef : Eff} (he : aBslice0 e i.size (ps.toList.map fun p => V.ev p.2) = some ef) (hd : ∀ i, o.dst = some i → i < C.N) : Sound P C V a w o ef := by
 simp only [aBslice0] at he
 split at he
 ·rename_i hc
  cases he
  have hps : ps = #[] := by
   have := hc.2
   simp only [List.isEmpty_iff, List.map_eq_nil_iff] at this
   exact Array.toList_eq_nil_iff.1 this
  subst hps
  intro Q
  refine wp_of_value (v := .slice (some ⟨w.heap.size, 0, none⟩) 0 0) (w' := w.alloc (.cells #[] e)) ?_ (h.grown hd (pre := []) (cur := #[]) (cap := 0) (Ext.alloc w _) (heap_alloc_new w _) (by simp) (by simp) (by simp) (by simp) ⟨by simp, by simp⟩ (by simp [HoldsR]))
  simp [execOp, hop, Instr.buildSlice, run_underlying ht, sizeOf, typeInfo, hi, arange0, Instr.fill, newRow]
 ·cases he

theorem sound_bslice (h : SimE C V a w fz ρ) {t e : TypeId} {n : Nat} {ps : Array (Nat × Operand)} (hop : o.op = .buildSlice t n ps) (ht : P.underlying t = some (.slice e)) {i : TypeInfo} {z : Value} (hi : P.info? e = some i) (hz : i.zero = some z)
  {ef : Eff} (he : aBslice e i.size z.cells.toList n ps.toList (ps.toList.map fun p => V.ev p.2) = some ef) (hd : ∀ i, o.dst = some i → i < C.N) : Sound P C V a w o ef := by
 simp only [aBslice, zip_map_self, List.map_map] at he
 split at he
 ·rename_i hc
  obtain ⟨h24, hw0, hzl, hone, hnr⟩ := hc
  have hzs : z.cells.size = i.size := by simpa using hzl
  split at he
  ·rename_i l hl
   cases he
   have hps : partsOf (fun j => some (j * i.size, i.size)) ps.toList = some (ps.toList.map fun p => (p.1 * i.size, i.size, p.2)) := by
    generalize ps.toList = L
    induction L with
    | nil => rfl
    | cons p L ih => simp [partsOf, ih]
   have hnr' := norefL_mem hnr
   let base : Array Value := (Array.range (n * i.size)).map (fun j => z.cells[j % z.cells.size]!)
   have hbase : base.toList = (List.replicate n z.cells.toList).flatten := by
    show ((Array.range (n * i.size)).map (fun j => z.cells[j % z.cells.size]!)).toList = _
    rw [← hzs]; exact range_zero_flatten z.cells n
   obtain ⟨cells', hf, h1, h2, hlen⟩ := fill_holds (fz := fz) V a (ρ := noRen) (fun j => some (j * i.size, i.size)) ps.toList _ hps (fun p hp => (h.ev p.2).noref _ _ _ _ (hnr' _ (List.mem_map.2 ⟨p, hp, rfl⟩)))
    ((List.replicate n (z.cells.toList.map AV.val)).flatten) l base (by rw [hbase, flatten_replicate_map]; exact HoldsL.vals _) (fun u hu => by
     rw [hbase] at hu
     obtain ⟨l', hl', hu'⟩ := List.mem_flatten.1 hu
     have := List.eq_of_mem_replicate hl'
     subst this
     exact List.all_eq_true.1 hone u hu') (by simpa [Function.comp_def] using hl)
   have hll : l.length = n * i.size := by rw [hlen, flatten_replicate_map, List.length_map, ← hbase]; simp [base]
   intro Q
   have hrun : (Instr.buildSlice t n (ps.map fun (i, x) => (i, a.eval x))).run P w = .ok (.slice (some ⟨w.heap.size, 0, none⟩) n n) (w.alloc (.cells cells' e)) := by
    by_cases hn0 : n * i.size = 0
    ·have hf' : Instr.fill (fun j => some (j * i.size, i.size)) ((Array.range (n * i.size)).map (fun j => (#[] : Array Value)[j % (#[] : Array Value).size]!)) (ps.map fun (i, x) => (i, a.eval x)).toList = some cells' := by
      have hb0 : base = #[] := by simp [base, hn0, arange0]
      rw [hb0] at hf
      simpa [hn0, arange0] using hf
     simp only [hn0] at hf'
     simp [Instr.buildSlice, run_underlying ht, sizeOf, typeInfo, hi, hn0, newRow]
     simp at hf'
     simp [hf']
    ·exact run_buildSlice w t e n _ cells' i z ht hi hz (by simpa using h24) hn0 (by simpa [base] using hf)
   have hcl : (chunk i.size n l).length = n := by simp [chunk]
   have hnew := h.fz_new (Nat.le_refl _)
   have hsz : cells'.toList.length = n * i.size := by rw [h1.len]; exact hll
   have hR : HoldsR (fz.add w.heap.size cells'.toList) (chunk i.size n l) i.size w.heap.size 0 := by
    refine HoldsR.chunk (vs := cells'.toList) (h1.mono (Fz.le_add hnew.1) _ _ _ _ (Ren.le_refl _)) h2 hll (fun j v hv => ?_)
    simp only [Fz.add, if_true]; exact hv
   have hg := h.grown hd (e := e) (wd := i.size) (rows := chunk i.size n l) (cap := n) (cur := cells') (pre := cells'.toList) (Ext.alloc w (.cells cells' e)) (heap_alloc_new w _) (by rw [hsz, hcl]) (List.take_length) (by rw [hcl]; exact Nat.le_refl _)
    (Nat.le_trans (Nat.le_trans (Nat.le_mul_of_pos_right n hw0) h24) (by decide)) ⟨by simpa using hsz, h2⟩ hR
   rw [hcl] at hg
   exact wp_of_value (v := .slice (some ⟨w.heap.size, 0, none⟩) n n) (w' := w.alloc (.cells cells' e)) (by simp [execOp, hop, hrun]) hg
  ·cases he
 ·cases he
theorem sound_pick (h : SimE C V a w fz ρ) {c x y : Operand} (hop : o.op = .pick c x y) {ef : Eff} (he : aPick [V.ev c, V.ev x, V.ev y] = some ef) (hd : ∀ i, o.dst = some i → i < C.N) : Sound P C V a w o ef := by
 have hc := h.ev c
 unfold aPick at he
 split at he
 ·rename_i b xv yv heq
  simp only [List.cons.injEq, and_true] at heq
  obtain ⟨e1, e2, e3⟩ := heq
  rw [e1] at hc; simp only [Holds] at hc
  subst e2; subst e3
  cases he
  refine sound_value h (v := if b then a.eval x else a.eval y) (by simp [execOp, hop, hc, asBool]) hd ?_ ?_
  ·cases b
   ·exact (h.ev y).dem
   ·exact (h.ev x).dem
  ·cases b
   ·exact isOwn_dem _
   ·exact isOwn_dem _
 ·cases he
theorem sound_mm (h : SimE C V a w fz ρ) {mx : Bool} {x y : Operand} {ats : Array TypeId} (hop : o.op = .call { callee := .builtin (if mx then .max else .min), args := #[x, y], argTypes := ats }) {ef : Eff} (he : aMm mx [V.ev x, V.ev y] = some ef) (hd : ∀ i, o.dst = some i → i < C.N) : Sound P C V a w o ef := by
 have hx := h.ev x
 have hy := h.ev y
 unfold aMm at he
 split at he
 ·rename_i j n k m heq
  simp only [List.cons.injEq, and_true] at heq
  obtain ⟨e1, e2⟩ := heq
  rw [e1] at hx; rw [e2] at hy; simp only [Holds] at hx hy
  split at he
  ·rename_i hjk
   subst hjk
   cases he
   refine sound_value h (v := .int j (if mx then (if m > n then m else n) else (if m < n then m else n))) ?_ hd (by simp only [Holds]) rfl
   cases mx <;> simp [execOp, hop, resolve, invoke, builtin, Builtin.max_, Builtin.min_, Builtin.max2, Builtin.min2, hx, hy]
  ·cases he
 ·cases he

theorem sound_mx4 (h : SimE C V a w fz ρ) {x y z u : Operand} {ats : Array TypeId} (hop : o.op = .call { callee := .builtin .max, args := #[x, y, z, u], argTypes := ats }) {ef : Eff} (he : aMx4 [V.ev x, V.ev y, V.ev z, V.ev u] = some ef) (hd : ∀ i, o.dst = some i → i < C.N) : Sound P C V a w o ef := by
 have hx := h.ev x
 have hy := h.ev y
 have hz := h.ev z
 have hu := h.ev u
 unfold aMx4 at he
 split at he
 ·rename_i j n1 k n2 l n3 m n4 heq
  simp only [List.cons.injEq, and_true] at heq
  obtain ⟨e1, e2, e3, e4⟩ := heq
  rw [e1] at hx; rw [e2] at hy; rw [e3] at hz; rw [e4] at hu
  simp only [Holds] at hx hy hz hu
  split at he
  ·rename_i hjk
   obtain ⟨rfl, rfl, rfl⟩ := hjk
   cases he
   refine sound_value h (v := .int j (mx2 (mx2 (mx2 n1 n2) n3) n4)) ?_ hd (by simp only [Holds]) rfl
   simp [execOp, hop, resolve, invoke, builtin, Builtin.max_, Builtin.max2, hx, hy, hz, hu, mx2]
  ·cases he
 ·cases he

def fullFz (w : World) : Fz := { cell := fun c o => w.cell? ⟨c, o, none⟩, obj := fun c => w.heap[c]? }
theorem SimE.le_full (h : SimE C V a w fz ρ) : fz.le (fullFz w) := ⟨h.fcell, h.fobj⟩
theorem fullFz_ok (w : World) : FzOK (fullFz w) w := ⟨fun _ _ _ h => h, fun _ _ h => h⟩

/-- F shows all that is frozen, and the call's own blocks as they are -/
structure Shows (F fz : Fz) (w : World) (ρ : Ren) : Prop where
 le : fz.le F
 cell : ∀ b c o v, ρ b = some c → w.cell? ⟨c, o, none⟩ = some v → F.cell c o = some v
 obj : ∀ b c o, ρ b = some c → w.heap[c]? = some o → F.obj c = some o
theorem Shows.cells {F fz : Fz} {w : World} {ρ : Ren} (h : Shows F fz w ρ) {b c : Nat} (hb : ρ b = some c) {cur : Array Value} {e : TypeId} (hc : w.heap[c]? = some (.cells cur e (0, 0))) (j : Nat) (v : Value) (hj : cur.toList[j]? = some v) : F.cell c j = some v := by
 refine h.cell b c j v hb ?_
 simp only [World.cell?, hc, Option.isSome_none, Bool.false_eq_true, if_false]
 simpa using hj
theorem SimE.shows_full (h : SimE C V a w fz ρ) : Shows (fullFz w) fz w ρ := ⟨h.le_full, fun _ _ _ _ _ e => e, fun _ _ _ _ e => e⟩
theorem cells_full {c : Nat} {cur : Array Value} {e : TypeId} (hc : w.heap[c]? = some (.cells cur e (0, 0))) (j : Nat) (v : Value) (hj : cur.toList[j]? = some v) : (fullFz w).cell c j = some v := by
 simp only [fullFz, World.cell?, hc, Option.isSome_none, Bool.false_eq_true, if_false]
 simpa using hj

mutual
theorem Rsv.holds (h : SimE C V a w fz ρ) {F : Fz} (hF : Shows F fz w ρ) {g : Nat → Option Blk} (hg : ∀ b k, g b = some k → V.hp b = some k) : ∀ {x y : AV}, Rsv g x y → ∀ v, Holds fz x ρ v → Holds F y noRen v
 | _, _, .closed hc, v, hv => (hv.mono hF.le _ _ _ _ (Ren.le_refl _)).noref _ _ _ _ hc
 | _, _, .own, v, hv => by
  have := hv.mono hF.le _ _ _ _ (Ren.le_refl _)
  simpa only [Holds] using this
 | _, _, .fx, v, hv => by
  have := hv.mono hF.le _ _ _ _ (Ren.le_refl _)
  simp only [Holds] at this ⊢
  obtain ⟨a, e, h⟩ := this
  exact ⟨a, _, e, Nat.le_refl _, h⟩
 | _, _, .nil, v, hv => by
  simp only [Holds] at hv ⊢
  exact ⟨none, 0, hv, Nat.le_refl _, by simp⟩
 | _, _, .agg hl, v, hv => by
  simp only [Holds] at hv ⊢; obtain ⟨cs, e, hv⟩ := hv; exact ⟨cs, e, RsvL.holds h hF hg hl _ hv⟩
 | _, _, .tup hl, v, hv => by
  simp only [Holds] at hv ⊢; obtain ⟨cs, e, hv⟩ := hv; exact ⟨cs, e, RsvL.holds h hF hg hl _ hv⟩
 | _, _, .clo hl, v, hv => by
  simp only [Holds] at hv ⊢; obtain ⟨cs, e, hv⟩ := hv; exact ⟨cs, e, RsvL.holds h hF hg hl _ hv⟩
 | _, _, .ifc hx, v, hv => by
  simp only [Holds] at hv ⊢; obtain ⟨u, e, hv⟩ := hv; exact ⟨u, e, Rsv.holds h hF hg hx _ hv⟩
 | _, _, .ptr (b := b) (off := off) (e := e) (cs := cs) (cs' := cs') hb hl, v, hv => by
  simp only [Holds] at hv ⊢
  obtain ⟨c, hρ, rfl⟩ := hv
  obtain ⟨c', hc', _, ⟨cur, hcur, hcl, hone⟩, _⟩ := h.hp _ _ (hg _ _ hb)
  rw [hρ] at hc'; cases hc'
  have hH := RsvL.holds h hF hg hl _ hcl
  refine ⟨c, 0, by simp, ?_⟩
  simp only [HoldsR, true_and, and_true]
  refine HoldsC.of_get _ _ _ fun j x hj => ?_
  obtain ⟨u, hu, hh⟩ := hH.get _ _ _ j x hj
  exact ⟨u, by rw [Nat.zero_add]; exact (hF.cells hρ) hcur j u hu, hone u (List.mem_of_getElem? hu), hh⟩
 | _, _, .vec (b := b) (w := wd) (off := off) (n := n) (cap := cap) (e := e) (cs := cs) (cs' := cs') hb hl hfit hcap, v, hv => by
  simp only [Holds] at hv ⊢
  obtain ⟨c, hρ, rfl⟩ := hv
  obtain ⟨c', hc', _, ⟨cur, hcur, hcl, hone⟩, _⟩ := h.hp _ _ (hg _ _ hb)
  rw [hρ] at hc'; cases hc'
  have hH := RsvL.holds h hF hg hl _ hcl
  have hlen : cs'.length = cs.length := by rw [← hH.len, hcl.len]
  have hcl2 : (chunk wd n (cs'.drop off)).length = n := by simp [chunk]
  rw [hcl2]
  refine ⟨_, _, rfl, hcap, .inr ⟨c, off, rfl, ?_⟩⟩
  refine HoldsR.of_get _ _ _ _ fun i r hr => ?_
  simp only [Aw.chunk, List.getElem?_map] at hr
  cases hi : (List.range n)[i]? with
  | none => rw [hi] at hr; simp at hr
  | some i' =>
   rw [hi] at hr
   obtain ⟨hlt, he⟩ := List.getElem?_eq_some_iff.1 hi
   simp only [List.getElem_range] at he
   subst he
   simp at hr; subst hr
   have hin : i < n := by simpa using hlt
   have hmul : i * wd + wd ≤ n * wd := by
    have := Nat.mul_le_mul_right wd (show i + 1 ≤ n from hin)
    rw [Nat.add_mul] at this; omega
   refine ⟨by simp; omega, HoldsC.of_get _ _ _ fun j x hj => ?_⟩
   rw [List.getElem?_take] at hj
   split at hj
   ·rw [List.getElem?_drop] at hj
    obtain ⟨u, hu, hh⟩ := hH.get _ _ _ _ x hj
    exact ⟨u, (hF.cells hρ) hcur _ u hu, hone u (List.mem_of_getElem? hu), hh⟩
   ·cases hj
 | _, _, .mapr (b := b) (ks := ks) (vs := vs) (vs' := vs') hb hl, v, hv => by
  simp only [Holds] at hv ⊢
  obtain ⟨c, hρ, rfl⟩ := hv
  obtain ⟨c', hc', _, ⟨es, clock, hm, hks, hvs, _⟩, _⟩ := h.hp _ _ (hg _ _ hb)
  rw [hρ] at hc'; cases hc'
  exact .inr ⟨c, es, clock, rfl, hF.obj _ _ _ hρ hm, hks, RsvL.holds h hF hg hl _ hvs⟩
theorem RsvL.holds (h : SimE C V a w fz ρ) {F : Fz} (hF : Shows F fz w ρ) {g : Nat → Option Blk} (hg : ∀ b k, g b = some k → V.hp b = some k) : ∀ {l l' : List AV}, RsvL g l l' → ∀ vs, HoldsL fz l ρ vs → HoldsL F l' noRen vs
 | _, _, .nil, vs, hv => by simpa only [HoldsL] using hv
 | _, _, .cons hx hl, vs, hv => by
  simp only [HoldsL] at hv ⊢
  obtain ⟨v, r, e, h1, h2⟩ := hv
  exact ⟨v, r, e, Rsv.holds h hF hg hx v h1, RsvL.holds h hF hg hl r h2⟩
end
mutual
theorem Rsv.holds_noref {g : Nat → Option Blk} : ∀ {x y : AV}, Rsv g x y → noref x = true → ∀ v, Holds fz x ρ v → Holds fz y noRen v
 | _, _, .closed hc, _, v, hv => hv.noref _ _ _ _ hc
 | _, _, .own, _, v, hv => by simpa only [Holds] using hv
 | _, _, .fx, _, v, hv => by
  simp only [Holds] at hv ⊢
  obtain ⟨a, e, h⟩ := hv
  exact ⟨a, _, e, Nat.le_refl _, h⟩
 | _, _, .nil, _, v, hv => by
  simp only [Holds] at hv ⊢
  exact ⟨none, 0, hv, Nat.le_refl _, by simp⟩
 | _, _, .agg hl, hn, v, hv => by
  simp only [Aw.noref] at hn; simp only [Holds] at hv ⊢; obtain ⟨cs, e, hv⟩ := hv; exact ⟨cs, e, RsvL.holds_noref hl hn _ hv⟩
 | _, _, .tup hl, hn, v, hv => by
  simp only [Aw.noref] at hn; simp only [Holds] at hv ⊢; obtain ⟨cs, e, hv⟩ := hv; exact ⟨cs, e, RsvL.holds_noref hl hn _ hv⟩
 | _, _, .clo hl, hn, v, hv => by
  simp only [Aw.noref] at hn; simp only [Holds] at hv ⊢; obtain ⟨cs, e, hv⟩ := hv; exact ⟨cs, e, RsvL.holds_noref hl hn _ hv⟩
 | _, _, .ifc hx, hn, v, hv => by
  simp only [Aw.noref] at hn; simp only [Holds] at hv ⊢; obtain ⟨u, e, hv⟩ := hv; exact ⟨u, e, Rsv.holds_noref hx hn _ hv⟩
 | _, _, .ptr _ _, hn, _, _ => by simp [Aw.noref] at hn
 | _, _, .vec _ _ _ _, hn, _, _ => by simp [Aw.noref] at hn
 | _, _, .mapr _ _, hn, _, _ => by simp [Aw.noref] at hn
theorem RsvL.holds_noref {g : Nat → Option Blk} : ∀ {l l' : List AV}, RsvL g l l' → norefL l = true → ∀ vs, HoldsL fz l ρ vs → HoldsL fz l' noRen vs
 | _, _, .nil, _, vs, hv => by simpa only [HoldsL] using hv
 | _, _, .cons hx hl, hn, vs, hv => by
  simp only [norefL, Bool.and_eq_true] at hn
  simp only [HoldsL] at hv ⊢
  obtain ⟨v, r, e, h1, h2⟩ := hv
  exact ⟨v, r, e, Rsv.holds_noref hx hn.1 v h1, RsvL.holds_noref hl hn.2 r h2⟩
end

theorem callee_run (h : SimE C V a w fz ρ) {f : Operand} {fn : FuncId} {caps : List AV} (hc : callee (V.ev f) = some (fn, caps)) : ∃ ps cs : Array Value, a.eval f = .func (.func fn) ps cs ∧ HoldsL fz (preOf (V.ev f)) ρ ps.toList ∧ HoldsL fz caps ρ cs.toList := by
 have hf := h.ev f
 unfold callee at hc
 split at hc
 ·rename_i f' first cs heq
  split at hc
  ·rename_i hcond
   cases hc
   rw [heq] at hf; simp only [Holds] at hf
   have h1 : first = #[] := by simpa using hcond.1
   have h2 : cs = #[] := by simpa using hcond.2
   subst h1; subst h2
   exact ⟨#[], #[], hf, by simp [heq, preOf, HoldsL], by simp [HoldsL]⟩
  ·cases hc
 ·rename_i f' cs heq
  cases hc
  rw [heq] at hf; simp only [Holds] at hf
  obtain ⟨vs, hv, hl⟩ := hf
  exact ⟨#[], vs, hv, by simp [heq, preOf, HoldsL], hl⟩
 ·rename_i f' nm l heq
  cases hc
  rw [heq] at hf; simp only [Holds] at hf
  obtain ⟨vs, hv, hl⟩ := hf
  exact ⟨vs, #[], hv, by simpa [heq, preOf] using hl, by simp [HoldsL]⟩
 ·cases hc

theorem conc_c {a a' : Act} {w : World} {ρ ρ' : Ren} {b j : Nat} (h : ρ' b = ρ b) : conc a w ρ' (.c b j) = conc a' w ρ (.c b j) := by simp only [conc, h]
theorem hpV_own {H : Nat → Option Blk} {p : Pl} (h : isOwn ((hpV H).at p) = true) : ∃ b j k, p = .c b j ∧ H b = some k ∧ (hpV H).at p = k.at j := by
 cases p with
 | t i => simp [View.at, hpV, isOwn] at h
 | c b j =>
  simp only [View.at, hpV] at h ⊢
  cases hk : H b with
  | none => rw [hk] at h; simp [isOwn] at h
  | some k => exact ⟨b, j, k, rfl, hk, by simp⟩
/-- a call that writes blocks -/
theorem sound_callM (h : SimE C V a w fz ρ) {f : Operand} {args : Array Operand} {ats : Array TypeId} (hop : o.op = .call { callee := .value f, args := args, argTypes := ats }) {us : List Nat} {g : Nat → Option Blk}
  (hg : ∀ b k, g b = some k → V.hp b = some k) (hgn : ∀ b, us.contains b = true → g b = none → V.hp b = none) {fn : FuncId} {caps : List AV} (hc : callee (V.ev f) = some (fn, caps)) {r : AV} {bs H : List (Nat × Blk)} {ts : List AV}
  (hob : CallM P fn g us (preOf (V.ev f) ++ args.toList.map V.ev ++ caps) r bs H ts) (hd : ∀ i, o.dst = some i → i < C.N) {ob : Prop} : Sound P C V a w o { out := r, bs := bs, ob := ob } := by
 obtain ⟨hus, hH, hnew, hsub, hwk, hwt, hts, ⟨fnn, hfn, hname, hbody⟩, hro, hcon⟩ := hob
 obtain ⟨ps, cs, hfv, hpl, hcl⟩ := callee_run h hc
 have hargs : HoldsL fz (preOf (V.ev f) ++ args.toList.map V.ev ++ caps) ρ (ps ++ (args.map a.eval) ++ cs).toList := by
  simp only [Array.toList_append, Array.toList_map]
  exact (hpl.append (h.evL args.toList)).append hcl
 have hex : (execOp a.eval o).run P w = .ok (.enter fn (ps ++ (args.map a.eval) ++ cs)) w := by
  have hb : ¬ fnn.body = none := by intro e; rw [e] at hbody; simp at hbody
  have hn' : ¬ fnn.name = "runtime.NumGoroutine" := by intro e; rw [e] at hname; simp at hname
  simp [execOp, hop, resolve, hfv, Deferred.ofValue, invoke, callFunc, hfn, hn', hb]
 intro Q
 unfold Oper.wp
 rw [hex]
 simp only [Oper.upon]
 let ρ1 : Ren := fun b => if (lk H b).isSome then ρ b else none
 have hVH : ∀ b k, lk H b = some k → V.hp b = some k := fun b k e => hg b k (hH b k e)
 have hρ1 : ∀ b k, lk H b = some k → ρ1 b = ρ b := fun b k e => by simp only [ρ1, e]; rfl
 have hρ1n : ∀ b, lk H b = none → ρ1 b = none := fun b e => by simp only [ρ1, e]; rfl
 have hρ1s : ∀ b c, ρ1 b = some c → ρ b = some c ∧ ∃ k, lk H b = some k := by
  intro b c e
  cases hk : lk H b with
  | none => rw [hρ1n b hk] at e; cases e
  | some k => rw [hρ1 b k hk] at e; exact ⟨e, k, rfl⟩
 have hcont : ∀ b, (H.map (·.1)).contains b = true → ρ1 b = ρ b := by
  intro b hb
  obtain ⟨k, hk⟩ := lk_of_mem hb
  exact hρ1 b k hk
 have hownV : ∀ p, isOwn ((hpV (lk H)).at p) = true → (hpV (lk H)).at p = V.at p ∧ conc act0 w ρ1 p = conc a w ρ p ∧ ∃ b j k, p = .c b j ∧ lk H b = some k := by
  intro p hp
  obtain ⟨b, j, k, rfl, hk, he⟩ := hpV_own hp
  refine ⟨?_, conc_c (hρ1 b k hk), b, j, k, rfl, hk⟩
  simp only [View.at, hpV, hk, hVH b k hk]
 have hmem1 : Mem fz ρ1 w (lk H) := by
  refine ⟨fun b k hk => ?_, hρ1n, fun b b' c h1 h2 => h.inj b b' c (hρ1s b c h1).1 (hρ1s b' c h2).1, fun p e wd rows hp => ?_, fun p q hp hq g g' n n' c c' h1 h2 h3 => ?_⟩
  ·obtain ⟨c, hc, _, h2, h3⟩ := h.hp b k (hVH b k hk)
   refine ⟨c, by rw [hρ1 b k hk]; exact hc, ?_, h3⟩
   have hw := hwk b k hk
   cases k with
   | cells e cs => obtain ⟨cur, x1, x2, x3⟩ := h2; exact ⟨cur, x1, x2.within hcont _ _ hw, x3⟩
   | map ks vs => obtain ⟨es, clock, x1, x2, x3, x4⟩ := h2; exact ⟨es, clock, x1, x2, x3.within hcont _ _ hw, x4⟩
   | mapd ks vs => obtain ⟨es, clock, x1, x2, x3, x4⟩ := h2; exact ⟨es, clock, x1, x2, x3.within hcont _ _ hw, x4⟩
  ·obtain ⟨e1, e2, _⟩ := hownV p (by rw [hp]; rfl)
   rw [e2]
   rcases h.tips p e wd rows (by rw [← e1]; exact hp) with hh | ⟨g, cap, cur, x1, x2, x3, x4, x5, x6, x7, x8, x9⟩
   ·exact .inl hh
   ·exact .inr ⟨g, cap, cur, x1, x3, x4, x5, x6, x7, x8, fun b hb => x9 b (hρ1s b g hb).1⟩
  ·obtain ⟨e1, e2, _⟩ := hownV p hp
   obtain ⟨e3, e4, _⟩ := hownV q hq
   exact h.tipinj p q (by rw [← e1]; exact hp) (by rw [← e3]; exact hq) g g' n n' c c' (by rw [← e2]; exact h1) (by rw [← e4]; exact h2) h3
 -- what may be written is the call's own
 have hMu : ∀ c, MuOf ρ1 w (lk H) c → C.B ≤ c ∨ C.Mu c = true := by
  rintro c (⟨b, hb⟩ | ⟨p, gg, n, cap, ho, hcc, rfl⟩)
  ·obtain ⟨e1, k, hk⟩ := hρ1s b c hb
   obtain ⟨c', hc', hB, _⟩ := h.hp b k (hVH b k hk)
   rw [e1] at hc'; cases hc'; exact hB
  ·obtain ⟨e1, e2, _⟩ := hownV p ho
   rw [e2] at hcc
   cases hx : V.at p <;> rw [e1, hx] at ho <;> simp [isOwn] at ho
   rcases h.tips p _ _ _ hx with ⟨y1, _⟩ | ⟨g2, _, _, y1, y2, _⟩
   ·rw [hcc] at y1; cases y1
   ·rw [hcc] at y1; cases y1; exact y2
 -- other blocks that are named, and other tips, are not written
 have hMuN : ∀ b c, ρ b = some c → lk H b = none → ¬ MuOf ρ1 w (lk H) c := by
  rintro b c hb hk (⟨b0, hb0⟩ | ⟨p, gg, n, cap, ho, hcc, rfl⟩)
  ·obtain ⟨e1, k, hk0⟩ := hρ1s b0 c hb0
   have := h.inj b b0 c hb e1
   subst this; rw [hk] at hk0; cases hk0
  ·obtain ⟨e1, e2, _⟩ := hownV p ho
   rw [e2] at hcc
   cases hx : V.at p <;> rw [e1, hx] at ho <;> simp [isOwn] at ho
   rcases h.tips p _ _ _ hx with ⟨y1, _⟩ | ⟨g2, _, _, y1, _, _, _, _, _, _, _, y9⟩
   ·rw [hcc] at y1; cases y1
   ·rw [hcc] at y1; cases y1; exact y9 b hb
 have hMuT : ∀ p, isOwn (V.at p) = true → (∀ b j k, p = .c b j → lk H b = some k → False) → ∀ gg n cap, conc a w ρ p = .slice (some gg) n cap → ¬ MuOf ρ1 w (lk H) gg.block := by
  rintro p ho hno gg n cap hcc (⟨b0, hb0⟩ | ⟨q, g2, n2, cap2, hq, hqc, hbl⟩)
  ·obtain ⟨e1, _⟩ := hρ1s b0 _ hb0
   cases hx : V.at p <;> rw [hx] at ho <;> simp [isOwn] at ho
   rcases h.tips p _ _ _ hx with ⟨y1, _⟩ | ⟨g3, _, _, y1, _, _, _, _, _, _, _, y9⟩
   ·rw [hcc] at y1; cases y1
   ·rw [hcc] at y1; cases y1; exact y9 b0 e1
  ·obtain ⟨e1, e2, b, j, k, rfl, hk⟩ := hownV q hq
   rw [e2] at hqc
   have := h.tipinj p (.c b j) ho (by rw [← e1]; exact hq) gg g2 n n2 cap cap2 hcc hqc hbl.symm
   exact hno b j k this hk
 have hlt := fun {b c} => SimE.lt h (b := b) (c := c)
 refine (hcon fz ρ1 w _ ⟨h.fcell, h.fobj⟩ (h.gl.mono h.f0) hmem1 ((hts.holds hargs).within hcont _ _ hwt)).mono ?_
 rintro e w' ⟨v, fz', ρ', rfl, hext, hle, hok, hsame, hmem, hρle, hρnew, htipnew, hr⟩
 let ρ2 : Ren := fun b => if (lk bs b).isSome then ρ' b else ρ b
 have hρ2 : ∀ b k, lk bs b = some k → ρ2 b = ρ' b := fun b k e => by simp only [ρ2, e]; rfl
 have hρ2n : ∀ b, lk bs b = none → ρ2 b = ρ b := fun b e => by simp only [ρ2, e]; rfl
 have hbH : ∀ b, lk bs b = none → lk H b = none := by
  intro b hb
  cases hk : lk H b with
  | none => rfl
  | some k => obtain ⟨k', hk'⟩ := hsub b k hk; rw [hb] at hk'; cases hk'
 have hVnew : ∀ b k, lk bs b = some k → lk H b = none → V.hp b = none := fun b k h1 h2 => hgn b (hus b k h1) (hnew b k h1 h2).1
 have hA : Ren.le ρ ρ2 := by
  intro b c hb
  cases hk : lk bs b with
  | none => rw [hρ2n b hk]; exact hb
  | some k =>
   rw [hρ2 b k hk]
   cases hk2 : lk H b with
   | none => rw [h.dom b (hVnew b k hk hk2)] at hb; cases hb
   | some k2 => exact hρle b c (by rw [hρ1 b k2 hk2]; exact hb)
 have hA' : Ren.le ρ' ρ2 := by
  intro b c hb
  cases hk : lk bs b with
  | none => rw [hmem.dom b hk] at hb; cases hb
  | some k => rw [hρ2 b k hk]; exact hb
 have hblk : ∀ b c, ρ b = some c → lk bs b = none → w'.heap[c]? = w.heap[c]? ∧ (∀ o, fz'.cell c o = fz.cell c o) ∧ fz'.obj c = fz.obj c := by
  intro b c hb hk
  have hm := hMuN b c hb (hbH b hk)
  exact ⟨hext.block c (hlt hb) hm, hsame c (hlt hb) hm⟩
 have hhp : ∀ b, (V.setBs bs).hp b = match lk bs b with | some k => some k | none => V.hp b := setBs_hp V bs
 have hρ2new : ∀ b k c, lk bs b = some k → ρ' b = some c → ρ b = some c ∨ w.heap.size ≤ c ∨ MuOf ρ1 w (lk H) c := by
  intro b k c hk hb
  rcases hρnew b c hb with h1 | h1 | h1
  ·exact .inl (hρ1s b c h1).1
  ·exact .inr (.inl h1)
  ·exact .inr (.inr h1)
 -- places that own
 have hown : ∀ p, isOwn ((V.setBs bs).at p) = true → (((hpV (lk bs)).at p = (V.setBs bs).at p ∧ conc act0 w' ρ' p = conc a w' ρ2 p ∧ isOwn ((hpV (lk bs)).at p) = true) ∨
   ((V.setBs bs).at p = V.at p ∧ conc a w' ρ2 p = conc a w ρ p ∧ (∀ b j k, p = .c b j → lk H b = some k → False))) := by
  intro p hp
  cases p with
  | t i =>
   refine .inr ⟨?_, rfl, fun b j k e => by cases e⟩
   simp only [View.at, setBs_tm]
  | c b j =>
   cases hk : lk bs b with
   | some k =>
    have e1 : (hpV (lk bs)).at (.c b j) = (V.setBs bs).at (.c b j) := by simp only [View.at, hpV, hhp, hk]
    exact .inl ⟨e1, conc_c (hρ2 b k hk).symm, by rw [e1]; exact hp⟩
   | none =>
    have e1 : (V.setBs bs).at (.c b j) = V.at (.c b j) := by simp only [View.at, hhp, hk]
    refine .inr ⟨e1, ?_, fun b' j' k e hk' => by cases e; rw [hbH b hk] at hk'; cases hk'⟩
    simp only [conc, hρ2n b hk]
    cases hb : ρ b with
    | none => rfl
    | some c => exact cellAt_same (hblk b c hb hk).1 j
 have htipold : ∀ p, isOwn (V.at p) = true → (∀ b j k, p = .c b j → lk H b = some k → False) → ∀ gg n cap, conc a w ρ p = .slice (some gg) n cap → gg.block < w.heap.size := by
  intro p ho _ gg n cap hcc
  cases hx : V.at p <;> rw [hx] at ho <;> simp [isOwn] at ho
  rcases h.tips p _ _ _ hx with ⟨y1, _⟩ | ⟨g3, _, _, y1, _, y3, _⟩
  ·rw [hcc] at y1; cases y1
  ·rw [hcc] at y1; cases y1; exact lt_of_heap y3
 have hsim : SimE C (V.setBs bs) a w' fz' ρ2 := by
  refine { h with
   tm := fun t => by rw [setBs_tm]; exact (h.tm t).mono hle _ _ _ _ hA, hp := fun b k hk => ?_, dom := fun b hb => ?_, inj := fun b b' c h1 h2 => ?_, fcell := hok.1, fobj := hok.2, f0 := Fz.le_trans h.f0 hle,
   f1 := fun c hc hcm => ?_, tips := fun p e wd rows hp => ?_, tipinj := fun p q hp hq g g' n n' c c' h1 h2 h3 => ?_, os := hext.os.trans h.os, tape := hext.tape.trans h.tape, output := hext.output.trans h.output,
   bsz := Nat.le_trans h.bsz hext.size, old := fun c hc hcm => ?_, keep := fun b c c' h1 h2 => ?_ }
  ·rw [hhp] at hk
   cases hkb : lk bs b with
   | some k1 =>
    rw [hkb] at hk; cases hk
    obtain ⟨c, hc, h1, h2⟩ := hmem.hp b _ hkb
    refine ⟨c, by rw [hρ2 b _ hkb]; exact hc, ?_, h1.mono (Fz.le_refl _) hA' (fun _ h => h), h2⟩
    rcases hρ2new b _ c hkb hc with x | x | x
    ·cases hk2 : V.hp b with
     | none => rw [h.dom b hk2] at x; cases x
     | some k2 =>
      obtain ⟨c', hc', hB, _⟩ := h.hp b k2 hk2
      rw [x] at hc'; cases hc'; exact hB
    ·exact .inl (Nat.le_trans h.bsz x)
    ·exact hMu c x
   | none =>
    rw [hkb] at hk
    obtain ⟨c, hc, hB, h2, h3, h4⟩ := h.hp b k hk
    obtain ⟨x1, x2, x3⟩ := hblk b c hc hkb
    exact ⟨c, by rw [hρ2n b hkb]; exact hc, hB, h2.mono hle hA (fun o ho => by rw [x1]; exact ho), fun o => (x2 o).trans (h3 o), x3.trans h4⟩
  ·rw [hhp] at hb
   cases hkb : lk bs b with
   | some k1 => rw [hkb] at hb; cases hb
   | none => rw [hkb] at hb; rw [hρ2n b hkb]; exact h.dom b hb
  ·have mixed : ∀ b b' k, lk bs b = some k → lk bs b' = none → ρ' b = some c → ρ b' = some c → b = b' := by
    intro b b' k hk hk' x1 x2
    rcases hρ2new b k c hk x1 with y | y | y
    ·exact h.inj b b' c y x2
    ·have := hlt x2; omega
    ·exact absurd y (hMuN b' c x2 (hbH b' hk'))
   cases hkb : lk bs b with
   | some k1 =>
    rw [hρ2 b _ hkb] at h1
    cases hkb' : lk bs b' with
    | some k2 => rw [hρ2 b' _ hkb'] at h2; exact hmem.inj b b' c h1 h2
    | none => rw [hρ2n b' hkb'] at h2; exact mixed b b' k1 hkb hkb' h1 h2
   | none =>
    rw [hρ2n b hkb] at h1
    cases hkb' : lk bs b' with
    | some k2 => rw [hρ2 b' _ hkb'] at h2; exact (mixed b' b k2 hkb' hkb h2 h1).symm
    | none => rw [hρ2n b' hkb'] at h2; exact h.inj b b' c h1 h2
  ·have hm : ¬ MuOf ρ1 w (lk H) c := fun hm => by
    rcases hMu c hm with x | x
    ·omega
    ·rw [hcm] at x; cases x
   have := hsame c (Nat.lt_of_lt_of_le hc h.bsz) hm
   exact ⟨fun o v e => (h.f1 c hc hcm).1 o v (by rw [← this.1 o]; exact e), fun o e => (h.f1 c hc hcm).2 o (by rw [← this.2]; exact e)⟩
  ·rcases hown p (by rw [hp]; rfl) with ⟨e1, e2, e3⟩ | ⟨e1, e2, e3⟩
   ·rw [← e2]
    rcases hmem.tips p e wd rows (by rw [e1]; exact hp) with hh | ⟨gg, cap, cur, x1, x3, x4, x5, x6, x7, x8, x9⟩
    ·exact .inl hh
    ·have hgm := htipnew gg (.inr ⟨p, _, _, _, e3, x1, rfl⟩)
     refine .inr ⟨gg, cap, cur, x1, ?_, x3, x4, x5, x6, x7, x8, fun b hb => ?_⟩
     ·exact hgm.elim (fun x => .inl (Nat.le_trans h.bsz x)) (hMu gg)
     ·cases hkb : lk bs b with
      | some k1 => rw [hρ2 b _ hkb] at hb; exact x9 b hb
      | none =>
       rw [hρ2n b hkb] at hb
       rcases hgm with x | x
       ·have := hlt hb; omega
       ·exact hMuN b gg hb (hbH b hkb) x
   ·rw [e2]
    rcases h.tips p e wd rows (by rw [← e1]; exact hp) with hh | ⟨gg, cap, cur, x1, x2, x3, x4, x5, x6, x7, x8, x9⟩
    ·exact .inl hh
    ·have ho : isOwn (V.at p) = true := by rw [← e1, hp]; rfl
     have hm := hMuT p ho e3 _ _ _ x1
     have hl := lt_of_heap x3
     have hs := hsame gg hl hm
     refine .inr ⟨gg, cap, cur, x1, x2, by rw [hext.block gg hl hm]; exact x3, x4, x5, x6, fun o ho => (hs.1 o).trans (x7 o ho), hs.2.trans x8, fun b hb => ?_⟩
     cases hkb : lk bs b with
     | some k1 =>
      rw [hρ2 b _ hkb] at hb
      rcases hρ2new b k1 gg hkb hb with y | y | y
      ·exact x9 b y
      ·omega
      ·exact hm y
     | none => rw [hρ2n b hkb] at hb; exact x9 b hb
  ·have mixed : ∀ p q, ((hpV (lk bs)).at p = (V.setBs bs).at p ∧ conc act0 w' ρ' p = conc a w' ρ2 p ∧ isOwn ((hpV (lk bs)).at p) = true) → ((V.setBs bs).at q = V.at q ∧ conc a w' ρ2 q = conc a w ρ q ∧ (∀ b j k, q = .c b j → lk H b = some k → False)) →
     isOwn ((V.setBs bs).at q) = true → ∀ g g' n n' c c', conc a w' ρ2 p = .slice (some g) n c → conc a w' ρ2 q = .slice (some g') n' c' → g.block = g'.block → False := by
    rintro p q ⟨e1, e2, e3⟩ ⟨f1, f2, f3⟩ hq g g' n n' c c' h1 h2 h3
    rw [f2] at h2
    rw [f1] at hq
    have hm := hMuT q hq f3 g' n' c' h2
    have hl := htipold q hq f3 g' n' c' h2
    rcases htipnew g.block (.inr ⟨p, g, n, c, e3, by rw [e2]; exact h1, rfl⟩) with x | x
    ·rw [h3] at x; omega
    ·rw [h3] at x; exact hm x
   rcases hown p hp with hx | hx <;> rcases hown q hq with hy | hy
   ·exact hmem.tipinj p q hx.2.2 hy.2.2 g g' n n' c c' (by rw [hx.2.1]; exact h1) (by rw [hy.2.1]; exact h2) h3
   ·exact (mixed p q hx hy hq g g' n n' c c' h1 h2 h3).elim
   ·exact (mixed q p hy hx hp g' g n' n c' c h2 h1 h3.symm).elim
   ·exact h.tipinj p q (by rw [← hx.1]; exact hp) (by rw [← hy.1]; exact hq) g g' n n' c c' (by rw [← hx.2.1]; exact h1) (by rw [← hy.2.1]; exact h2) h3
  ·have hm : ¬ MuOf ρ1 w (lk H) c := fun hm => by
    rcases hMu c hm with x | x
    ·omega
    ·rw [hcm] at x; cases x
   rw [hext.block c (Nat.lt_of_lt_of_le hc h.bsz) hm]; exact h.old c hc hcm
  ·cases hkb : lk bs b with
   | none => rw [hρ2n b hkb] at h2; exact h.keep b c c' h1 h2
   | some k =>
    cases hk2 : lk H b with
    | none => rw [h.hi b (.inr (hnew b k hkb hk2).2)] at h1; cases h1
    | some k2 =>
     obtain ⟨c0, hc0, _⟩ := h.hp b k2 (hVH b k2 hk2)
     have := hA b c0 hc0
     rw [this] at h2; cases h2
     exact h.keep b c _ h1 hc0
 exact ⟨fz', ρ2, hsim.putO hd (hr.mono (Fz.le_refl _) _ _ _ _ hA') hro⟩

/-- blocks of M are written -/
theorem SimE.extendO (h : SimE C V a w fz ρ) {w' : World} {M : Nat → Prop} (hw : MExt M w w') {fz' : Fz} (hle : fz.le fz') (hcell : ∀ c o v, fz'.cell c o = some v → w'.cell? ⟨c, o, none⟩ = some v)
  (hobj : ∀ c o, fz'.obj c = some o → w'.heap[c]? = some o) (hold : ∀ c, c < w.heap.size → ¬ M c → (∀ o, fz'.cell c o = fz.cell c o) ∧ fz'.obj c = fz.obj c) (hB : ∀ c, M c → C.B ≤ c ∨ C.Mu c = true)
  (hρ : ∀ b c, ρ b = some c → ¬ M c) (htip : ∀ p, isOwn (V.at p) = true → ∀ ad n c, conc a w ρ p = .slice (some ad) n c → ¬ M ad.block) : SimE C V a w' fz' ρ := by
 have hlt := fun {b c} => SimE.lt h (b := b) (c := c)
 have hconc : ∀ p, isOwn (V.at p) = true → conc a w' ρ p = conc a w ρ p := fun p hp =>
  h.conc_same hp (Ren.le_refl _) (fun b j c _ hc => hw.block c (hlt hc) (hρ b c hc))
 have hnm : ∀ c, c < C.B → C.Mu c = false → ¬ M c := by
  intro c h1 h2 hm
  rcases hB c hm with x | x
  ·omega
  ·rw [h2] at x; cases x
 refine { h with
  tm := fun t => (h.tm t).mono hle _ _ _ _ (Ren.le_refl _), hp := fun b k hk => ?_, fcell := hcell, fobj := hobj, f0 := Fz.le_trans h.f0 hle,
  f1 := fun c hc hcm => ?_, tips := fun p e wd rows hp => ?_, tipinj := fun p q hp hq g g' n n' c c' hgp hgq hg => ?_,
  os := hw.os.trans h.os, tape := hw.tape.trans h.tape, output := hw.output.trans h.output, bsz := Nat.le_trans h.bsz hw.size, old := fun c hc hm => ?_ }
 ·obtain ⟨c, hc, h1, h2, h3, h4⟩ := h.hp b k hk
  have := hold c (hlt hc) (hρ b c hc)
  exact ⟨c, hc, h1, h2.mono hle (Ren.le_refl _) (fun o ho => by rw [hw.block c (hlt hc) (hρ b c hc)]; exact ho), fun o => (this.1 o).trans (h3 o), this.2.trans h4⟩
 ·have := hold c (Nat.lt_of_lt_of_le hc h.bsz) (hnm c hc hcm)
  exact ⟨fun o v e => (h.f1 c hc hcm).1 o v (by rw [← this.1 o]; exact e), fun o e => (h.f1 c hc hcm).2 o (by rw [← this.2]; exact e)⟩
 ·have ho : isOwn (V.at p) = true := by rw [hp]; rfl
  rw [hconc p ho]
  rcases h.tips p e wd rows hp with ⟨h1, h2⟩ | ⟨g, cap, cur, h1, h2, h3, h4, h5, h6, h7, h8, h9⟩
  ·exact .inl ⟨h1, h2⟩
  ·have hg : ¬ M g := htip p ho _ _ _ h1
   have := hold g (lt_of_heap h3) hg
   exact .inr ⟨g, cap, cur, h1, h2, by rw [hw.block g (lt_of_heap h3) hg]; exact h3, h4, h5, h6, fun o ho => (this.1 o).trans (h7 o ho), this.2.trans h8, h9⟩
 ·rw [hconc p hp] at hgp
  rw [hconc q hq] at hgq
  exact h.tipinj p q hp hq g g' n n' c c' hgp hgq hg
 ·rw [hw.block c (Nat.lt_of_lt_of_le hc h.bsz) (hnm c hc hm)]; exact h.old c hc hm
/-- a call whose first argument may grow -/
theorem sound_callO (h : SimE C V a w fz ρ) {f : Operand} {args : Array Operand} {ats : Array TypeId} (hop : o.op = .call { callee := .value f, args := args, argTypes := ats }) {cr : Res} {fn : FuncId} {caps : List AV}
  (hc : callee (V.ev f) = some (fn, caps)) (hpr : preOf (V.ev f) = []) {ef : Eff} (he : aCallO P cr o.dst (args.toList.head?.bind srcPl) fn caps (args.toList.map V.ev) = some ef) (hob : ef.ob) (hd : ∀ i, o.dst = some i → i < C.N) : Sound P C V a w o ef := by
 obtain ⟨ps, cs, hfv, hpl, hcl⟩ := callee_run h hc
 have hps : ps = #[] := by
  rw [hpr] at hpl
  simp only [HoldsL] at hpl
  exact Array.toList_inj.1 (by simpa using hpl)
 subst hps
 cases hal : args.toList with
 | nil =>
  rw [hal] at he
  simp [aCallO] at he
 | cons a0 as =>
  rw [hal] at he
  simp only [List.map_cons, List.head?_cons, Option.bind_some, aCallO] at he
  split at he
  ·rename_i e wd rows' hr
   split at he
   ·rename_i rows hgr
    split at he
    ·rename_i hn
     cases he
     obtain ⟨hne, ⟨fnn, hfn, hname, hbody⟩, hcon⟩ := hob
     have hargs : HoldsL fz (as.map V.ev ++ caps) noRen ((as.map a.eval) ++ cs.toList) := ((h.evL as).append hcl).noref _ _ _ _ hn
     have hex : (execOp a.eval o).run P w = .ok (.enter fn ((args.map a.eval) ++ cs)) w := by
      have hb : ¬ fnn.body = none := by intro e; rw [e] at hbody; simp at hbody
      have hn' : ¬ fnn.name = "runtime.NumGoroutine" := by intro e; rw [e] at hname; simp at hname
      simp [execOp, hop, resolve, hfv, Deferred.ofValue, invoke, callFunc, hfn, hn', hb]
     have hav : (args.map a.eval) ++ cs = (a.eval a0 :: (as.map a.eval ++ cs.toList)).toArray := by
      apply Array.toList_inj.1
      simp [hal]
     have hdem := demP_srcPl h a0
     -- what is handed over
     have hv0 : Holds fz (.own e wd rows) noRen (a.eval a0) ∧ TipA fz w e wd rows (a.eval a0) ∧ (∀ c, blkOf (a.eval a0) = some c → (C.B ≤ c ∨ C.Mu c = true) ∧ ∀ b, ρ b ≠ some c) ∧
       (∀ p, isOwn ((V.demP (srcPl a0)).at p) = true → ∀ ad n c, conc a w ρ p = .slice (some ad) n c → blkOf (a.eval a0) ≠ some ad.block) := by
      have hev := h.ev a0
      unfold growO at hgr
      split at hgr
      ·rename_i e' w' r' heq
       split at hgr
       ·rename_i hee
        obtain ⟨rfl, rfl⟩ := hee
        cases hgr
        obtain ⟨tt, rfl⟩ : ∃ tt, a0 = .tmp tt := by
         cases a0 with
         | tmp tt => exact ⟨tt, rfl⟩
         | _ => simp [View.ev] at heq
        have hvt : V.at (.t tt) = .own e' w' rows := by simpa [View.ev, View.at] using heq
        rw [heq] at hev
        have htip := h.tips (.t tt) _ _ _ hvt
        have hconc : conc a w ρ (.t tt) = a.eval (.tmp tt) := rfl
        rw [hconc] at htip
        refine ⟨by simpa only [Holds] using hev, ?_, ?_, ?_⟩
        ·rcases htip with hh | ⟨g, cap, cur, x1, x2, x3, x4, x5, x6, x7, x8, x9⟩
         ·exact .inl hh
         ·exact .inr ⟨g, cap, cur, x1, x3, x4, x5, x6, x7, x8⟩
        ·intro c hbc
         rcases htip with ⟨hh, _⟩ | ⟨g, cap, cur, x1, x2, x3, x4, x5, x6, x7, x8, x9⟩
         ·rw [hh] at hbc; simp [blkOf] at hbc
         ·rw [x1] at hbc; simp only [blkOf, Option.some.injEq] at hbc; subst hbc
          exact ⟨x2, x9⟩
        ·intro p hp ad n c hcp hb
         have hpt : p ≠ .t tt ∧ V.at p = (V.demP (srcPl (.tmp tt))).at p := by
          simp only [srcPl, View.demP] at hp ⊢
          rw [View.at_setAt V (.t tt) p _ trivial] at hp ⊢
          by_cases e : p = .t tt
          ·rw [if_pos e, isOwn_dem] at hp; cases hp
          ·exact ⟨e, by rw [if_neg e]⟩
         rcases htip with ⟨hh, _⟩ | ⟨g, cap, cur, x1, _⟩
         ·rw [hh] at hb; simp [blkOf] at hb
         ·rw [x1] at hb; simp only [blkOf, Option.some.injEq] at hb
          exact hpt.1 (h.tipinj p (.t tt) (by rw [hpt.2]; exact hp) (by rw [hvt]; rfl) ad ⟨g, 0, none⟩ n rows.length c cap hcp x1 hb.symm)
       ·cases hgr
      ·rename_i heq
       cases hgr
       rw [heq] at hev
       simp only [Holds] at hev
       rw [hev]
       refine ⟨by simp only [Holds]; exact ⟨none, 0, rfl, Nat.le_refl _, .inl (by simp)⟩, .inl ⟨rfl, rfl⟩, fun c hc => by simp [blkOf] at hc, fun p _ ad n c _ hb => by simp [blkOf] at hb⟩
      ·cases hgr
     obtain ⟨hH, hT, hown, hoth⟩ := hv0
     intro Q
     unfold Oper.wp
     rw [hex]
     simp only [Oper.upon]
     rw [hav]
     refine (hcon fz w _ _ ⟨h.fcell, h.fobj⟩ (h.gl.mono h.f0) hH hargs hT).mono ?_
     rintro en w' ⟨v', fz', rfl, hext, hle, hok, hsame, hr', htip', hblk⟩
     have h1 := hdem.extendO hext hle hok.1 hok.2 (fun c hc hm => hsame c hc hm) (fun c hm => (hown c hm).1) (fun b c hb hm => (hown c hm).2 b hb) (fun p hp ad n c hcp hm => hoth p hp ad n c hcp hm)
     refine ⟨fz', ρ, ?_⟩
     show SimE C (((V.demP (srcPl a0)).setBO none).putO o.dst (.own e wd rows')) _ w' fz' ρ
     simp only [View.setBO]
     cases hdst : o.dst with
     | none => exact h1
     | some d =>
      refine h1.putOwn (hd d hdst) (by simpa only [Holds] using hr') ?_ (fun q hq hqo g g' n n' c c' hvv hcq => ?_)
      ·rcases htip' with hh | ⟨g, cap, cur, x1, x3, x4, x5, x6, x7, x8⟩
       ·exact .inl hh
       ·have hg := hblk g (by rw [x1]; rfl)
        refine .inr ⟨g, cap, cur, x1, ?_, x3, x4, x5, x6, x7, x8, fun b hb => ?_⟩
        ·rcases hg with hg | hg
         ·exact .inl (Nat.le_trans h.bsz hg)
         ·exact (hown g hg).1
        ·rcases hg with hg | hg
         ·have := h.lt hb; omega
         ·exact (hown g hg).2 b hb
      ·have hlt := fun {b c} => SimE.lt h (b := b) (c := c)
       rw [hdem.conc_same (w' := w') hqo (Ren.le_refl _) (fun b j c _ hc => hext.block c (hlt hc) (fun hm => (hown c hm).2 b hc))] at hcq
       have hg := hblk g.block (by rw [hvv]; rfl)
       intro heq
       rcases hg with hg | hg
       ·cases hq' : (V.demP (srcPl a0)).at q <;> rw [hq'] at hqo <;> simp [isOwn] at hqo
        rcases hdem.tips q _ _ _ hq' with ⟨x1, _⟩ | ⟨y, _, _, x1, _, x3, _⟩
        ·rw [hcq] at x1; cases x1
        ·rw [hcq] at x1; cases x1
         have := lt_of_heap x3
         simp at heq; omega
       ·exact hoth q hqo g' n' c' hcq (by rw [hg, heq])
    ·cases he
   ·cases he
  ·cases he

theorem sound_call (h : SimE C V a w fz ρ) {f : Operand} {args : Array Operand} {ats : Array TypeId} (hop : o.op = .call { callee := .value f, args := args, argTypes := ats }) {cr : Res} {g : Nat → Option Blk}
  (hg : ∀ b k, g b = some k → V.hp b = some k) (hgn : ∀ b, cr.us.contains b = true → g b = none → V.hp b = none) {ef : Eff} (he : aCall P cr o.dst (args.toList.head?.bind srcPl) g (V.ev f :: args.toList.map V.ev) = some ef) (hob : ef.ob) (hd : ∀ i, o.dst = some i → i < C.N) : Sound P C V a w o ef := by
 simp only [aCall] at he
 split at he
 ·rename_i fn caps hc
  split at he
  rotate_left
  ·rename_i x l _
   cases he
   obtain ⟨H, ts, hob⟩ := hob
   exact sound_callM h hop hg hgn hc hob hd
  split at he
  ·split at he
   ·rename_i hpr
    exact sound_callO h hop hc (by simpa using hpr) he hob hd
   ·cases he
  obtain ⟨r, us, bs, ow⟩ := cr
  cases he
  obtain ⟨ts, hts, hfl, ⟨fnn, hfn, hname, hbody⟩, hcon⟩ := hob
  obtain ⟨ps, cs, hfv, hpl, hcl⟩ := callee_run h hc
  have hargs : HoldsL fz (preOf (V.ev f) ++ args.toList.map V.ev ++ caps) ρ (ps ++ (args.map a.eval) ++ cs).toList := by
   simp only [Array.toList_append, Array.toList_map]
   exact (hpl.append (h.evL args.toList)).append hcl
  have hex : (execOp a.eval o).run P w = .ok (.enter fn (ps ++ (args.map a.eval) ++ cs)) w := by
   have hb : ¬ fnn.body = none := by intro e; rw [e] at hbody; simp at hbody
   have hn' : ¬ fnn.name = "runtime.NumGoroutine" := by intro e; rw [e] at hname; simp at hname
   simp [execOp, hop, resolve, hfv, Deferred.ofValue, invoke, callFunc, hfn, hn', hb]
  intro Q
  unfold Oper.wp
  rw [hex]
  simp only [Oper.upon]
  rcases hfl with hflat | hnr
  ·-- the result hangs on no memory
   refine (hcon (fullFz w) w _ (fullFz_ok w) (h.gl.mono (Fz.le_trans h.f0 h.le_full)) (hts.holds h h.shows_full hg _ hargs)).mono ?_
   rintro e w' ⟨v, fz', rfl, hext, _, _, _, hr, _⟩
   exact ⟨fz, ρ, (h.ext hext).putO hd (hr.flat _ _ _ _ hflat) (by cases r <;> simp_all [Aw.flat, isOwn])⟩
  ·-- the arguments name no block of the call's own
   refine (hcon fz w _ ⟨h.fcell, h.fobj⟩ (h.gl.mono h.f0) (hts.holds_noref hnr _ hargs)).mono ?_
   rintro e w' ⟨v, fz', rfl, hext, hle, hok, hsame, hr, htip⟩
   have h1 := h.extend hext hle hok.1 hok.2 hsame
   refine ⟨fz', ρ, ?_⟩
   by_cases ho : isOwn r = true
   ·obtain ⟨el, wd, rows, rfl⟩ : ∃ el wd rows, r = .own el wd rows := by
     cases r <;> simp [isOwn] at ho
     exact ⟨_, _, _, rfl⟩
    cases hdst : o.dst with
    | none => exact h1
    | some d =>
     refine h1.putOwn (hd d hdst) (hr.mono (Fz.le_refl _) _ _ _ _ (noRen_le _)) ?_ (fun q _ hqo x x' n n' c c' hv hc => ?_)
     ·rcases htip el wd rows rfl with hh | ⟨gg, cap, cur, x1, x2, x3, x4, x5, x6, x7, x8⟩
      ·exact .inl hh
      ·exact .inr ⟨gg, cap, cur, x1, .inl (Nat.le_trans h.bsz x2), x3, x4, x5, x6, x7, x8, fun b hb => absurd (h.lt hb) (by omega)⟩
     ·have hlt := fun {b c} => SimE.lt h (b := b) (c := c)
      rw [h.conc_same (w' := w') hqo (Ren.le_refl _) (fun b j c _ hc => hext.block c (hlt hc))] at hc
      cases hq' : V.at q <;> rw [hq'] at hqo <;> simp [isOwn] at hqo
      rcases h.tips q _ _ _ hq' with ⟨x1, _⟩ | ⟨y, _, _, x1, _, x3, _⟩
      ·rw [hc] at x1; cases x1
      ·rw [hc] at x1; cases x1
       have hy := lt_of_heap x3
       rcases htip el wd rows rfl with ⟨hh, _⟩ | ⟨gg, cap, cur, y1, y2, _⟩
       ·rw [hv] at hh; cases hh
       ·rw [hv] at y1; cases y1
        simp; omega
   ·have ho' : isOwn r = false := by simpa using ho
    exact h1.putO hd (hr.mono (Fz.le_refl _) _ _ _ _ (noRen_le _)) ho'
 ·cases he
end Go.Aw
