/- Fields, lengths; structs and slices that are built; stores. -/
import Derived.Test.YtlkilbfegcplmaaAwJ
import Derived.Great.BuildSlice
set_option linter.unusedSimpArgs false
set_option linter.unusedVariables false
namespace Go.Aw
variable {P : Program} {C : Ctx} {V : View} {a : Act} {w : World} {fz : Fz} {ρ : Ren} {o : Oper} {Q : Exit → Act → World → Prop}

theorem sound_fld (h : SimE C V a w fz ρ) {t : TypeId} {x : Operand} {f : Nat} (hop : o.op = .field t x f) {fields : Array Field} (ht : P.underlying t = some (.struct fields)) {fd : Field} (hf : fields[f]? = some fd)
    {n : Nat} {ag : Bool} (hn : szOf P fd.type = some n) (hag : isAggT P fd.type = some ag) {ef : Eff} (he : aFld fd.offset n ag [V.ev x] = some ef) (hd : ∀ i, o.dst = some i → i < C.N) : Sound P C V a w o ef := by
  have hx := h.ev x
  unfold aFld at he
  split at he
  · rename_i l heq
    simp only [List.cons.injEq, and_true] at heq
    rw [heq] at hx; simp only [Holds] at hx
    obtain ⟨cs, hv, hl⟩ := hx
    split at he
    · rename_i y hy
      cases he
      have hyo := pickA_own hy
      simp only [pickA] at hy
      cases ag with
      | true =>
        simp only [if_true] at hy
        split at hy
        · rename_i hlt
          cases hy
          have hsl := ((hl.drop fd.offset).take n).dem
          refine sound_value h (v := .agg (cs.extract fd.offset (fd.offset + n))) ?_ hd ?_ rfl
          · simp [execOp, hop, Instr.field, run_underlying ht, hf, hv, asAgg, part, isAgg_run hag, szOf_run hn]
          · simp only [Holds]
            refine ⟨_, rfl, ?_⟩
            have e : (cs.extract fd.offset (fd.offset + n)).toList = (cs.toList.drop fd.offset).take n := by
              rw [Array.toList_extract, List.extract_eq_take_drop, Nat.add_sub_cancel_left]
            rw [e]; exact hsl
        · cases hy
      | false =>
        simp only [Bool.false_eq_true, if_false] at hy
        cases hx : l[fd.offset]? with
        | none => rw [hx] at hy; simp at hy
        | some z =>
          rw [hx] at hy; simp at hy; subst hy
          obtain ⟨v, hv', hh⟩ := hl.get _ _ _ _ z hx
          have : cs[fd.offset]? = some v := by simpa using hv'
          exact sound_value h (v := v) (by simp [execOp, hop, Instr.field, run_underlying ht, hf, hv, asAgg, part, isAgg_run hag, this]) hd hh.dem hyo
    · cases he
  · cases he

theorem rowsOf_holds {x : AV} {rows : List (List AV)} (h : rowsOf x = some rows) {v : Value} (hx : Holds fz x ρ v) : ∃ a c, v = .slice a rows.length c := by
  unfold rowsOf at h
  split at h
  · cases h; simp only [Holds] at hx; obtain ⟨a, c, e, _⟩ := hx; exact ⟨a, c, e⟩
  · cases h; simp only [Holds] at hx; obtain ⟨a, e, _⟩ := hx; exact ⟨a, _, e⟩
  · cases h; simp only [Holds] at hx; obtain ⟨a, c, e, _⟩ := hx; exact ⟨a, c, e⟩
  · cases h; simp only [Holds] at hx; exact ⟨none, 0, hx⟩
  · cases h

theorem sound_len (h : SimE C V a w fz ρ) {t : TypeId} {x : Operand} (hop : o.op = .call { callee := .builtin .len, args := #[x], argTypes := #[t] }) {kd : Nat}
    (ht : (kd = 0 ∧ ∃ e, P.underlying t = some (.slice e)) ∨ (kd = 1 ∧ P.underlying t = some .string) ∨ (kd = 2 ∧ ∃ k e, P.underlying t = some (.map k e)))
    {g : Nat → Option Blk} (hg : ∀ b k, g b = some k → V.hp b = some k) {ef : Eff} (he : aLen kd g [V.ev x] = some ef) (hd : ∀ i, o.dst = some i → i < C.N) : Sound P C V a w o ef := by
  have hx := h.ev x
  have run : ∀ n : Nat, (Builtin.len_ #[t] o.type #[a.eval x]).run P w = .ok (.int .i64 n) w → Sound P C V a w o { out := .val (.int .i64 n) } := by
    intro n hr
    exact sound_value h (v := .int .i64 n) (by simp [execOp, hop, resolve, invoke, builtin, hr]) hd (by simp only [Holds]) rfl
  rcases ht with ⟨rfl, e, ht⟩ | ⟨rfl, ht⟩ | ⟨rfl, k, e, ht⟩
  · simp only [aLen] at he
    split at he
    · rename_i b w' off n cap heq
      rw [heq] at hx; simp only [Holds] at hx
      obtain ⟨c, _, hv⟩ := hx
      cases he
      exact run n (by simp [Builtin.len_, run_underlying ht, hv, goInt])
    · split at he
      · rename_i rows hr
        cases he
        obtain ⟨ad, c, hv⟩ := rowsOf_holds hr hx
        exact run rows.length (by simp [Builtin.len_, run_underlying ht, hv, goInt])
      · cases he
  · cases hvx : V.ev x with
    | val v =>
      rw [hvx] at he hx
      cases v with
      | string s =>
        simp [aLen] at he; subst he
        simp only [Holds] at hx
        exact run s.size (by simp [Builtin.len_, run_underlying ht, hx, goInt])
      | _ => simp [aLen] at he
    | _ => rw [hvx] at he; simp [aLen] at he
  · cases hvx : V.ev x with
    | mapr b =>
      rw [hvx] at he hx
      simp only [aLen] at he
      split at he
      · rename_i ks vs hgb
        cases he
        simp only [Holds] at hx
        obtain ⟨c, hρ, hv⟩ := hx
        obtain ⟨c', hc', _, ⟨es, clock, hm, hks, _⟩, _⟩ := h.hp _ _ (hg _ _ hgb)
        rw [hρ] at hc'; cases hc'
        have : es.size = ks.length := by rw [← hks]; simp
        exact run ks.length (by simp [Builtin.len_, run_underlying ht, hv, goInt, getObj, Sem.run, hm, this])
      · cases he
    | rmap ks vs =>
      rw [hvx] at he hx
      simp [aLen] at he; subst he
      simp only [Holds] at hx
      rcases hx with ⟨hv, rfl, _⟩ | ⟨c, es, clock, hv, ho, hks, _⟩
      · exact run 0 (by simp [Builtin.len_, run_underlying ht, hv, goInt])
      · have : es.size = ks.length := by rw [← hks]; simp
        exact run ks.length (by simp [Builtin.len_, run_underlying ht, hv, goInt, getObj, Sem.run, h.fobj c _ ho, this])
    | _ => rw [hvx] at he; simp [aLen] at he

theorem fill_holds {fz : Fz} (V : View) (a : Act) {ρ : Ren} (place : Nat → Option (Nat × Nat)) : ∀ (ps : List (Nat × Operand)) (tps : List (Nat × Nat × Operand)), partsOf place ps = some tps → (∀ p ∈ ps, Holds fz (V.ev p.2) ρ (a.eval p.2)) →
    ∀ (l l' : List AV) (cells : Array Value), HoldsL fz l ρ cells.toList → (∀ u ∈ cells.toList, u.oneCell' = true) → fillA l (tps.map fun p => (p.1, p.2.1, V.ev p.2.2)) = some l' →
    ∃ cells', Instr.fill place cells (ps.map fun p => (p.1, a.eval p.2)) = some cells' ∧ HoldsL fz l' ρ cells'.toList ∧ (∀ u ∈ cells'.toList, u.oneCell' = true) ∧ l'.length = l.length
  | [], tps, hp, _, l, l', cells, hl, h1, he => by
    simp only [partsOf, Option.some.injEq] at hp; subst hp
    simp only [List.map_nil, fillA, Option.some.injEq] at he; subst he
    exact ⟨cells, rfl, hl, h1, rfl⟩
  | (i, x) :: ps, tps, hp, hev, l, l', cells, hl, h1, he => by
    simp only [partsOf] at hp
    split at hp
    · rename_i q r hq hr
      cases hp
      simp only [List.map_cons, fillA] at he
      split at he
      · rename_i cs hcs
        split at he
        · rename_i l2 hsp
          obtain ⟨hc1, hc2⟩ := cellsOf_holds (hev (i, x) (by simp)) hcs
          simp only [splice] at hsp
          split at hsp
          · rename_i hlen
            cases hsp
            have hcl := hc1.len
            have hll := hl.len
            simp only [List.length_map] at hlen
            have hvs : (a.eval x).cells.size = q.2 := by simpa using hcl.trans hlen.1
            have hcsz : cells.size = l.length := by simpa using hll
            let cells2 : Array Value := (a.eval x).cells.zipIdx.foldl (fun cs (c, j) => cs.setIfInBounds (q.1 + j) c) cells
            have hset := Great.foldl_set q.1 (a.eval x).cells.toList 0 cells
            have hc2' : cells2 = ((a.eval x).cells.toList.zipIdx 0).foldl (fun cs (x : Value × Nat) => cs.setIfInBounds (q.1 + x.2) x.1) cells := by
              show (a.eval x).cells.zipIdx.foldl (fun cs (c, j) => cs.setIfInBounds (q.1 + j) c) cells = _
              rw [← Array.foldl_toList, Array.toList_zipIdx]
            rw [← hc2'] at hset
            have hl2 : cells2.toList = cells.toList.take q.1 ++ (a.eval x).cells.toList ++ cells.toList.drop (q.1 + q.2) := by
              apply List.ext_getElem?
              intro k
              have := hset.2 k
              simp only [Nat.add_zero, Array.length_toList] at this
              rw [Array.getElem?_toList, this]
              by_cases hk1 : k < q.1
              · rw [if_neg (by omega), List.append_assoc, List.getElem?_append_left (by simp; omega)]
                simp [hk1]
              · by_cases hk2 : k < q.1 + q.2
                · rw [if_pos (by omega), List.append_assoc, List.getElem?_append_right (by simp; omega), List.getElem?_append_left (by simp; omega)]
                  congr 1
                  simp; omega
                · rw [if_neg (by omega), List.getElem?_append_right (by simp; omega)]
                  simp only [List.getElem?_drop, Array.getElem?_toList]
                  congr 1
                  simp; omega
            have hnew : HoldsL fz (l.take q.1 ++ cs.map Aw.dem ++ l.drop (q.1 + q.2)) ρ cells2.toList := by
              rw [hl2]; exact ((hl.take _).append hc1.dem).append (hl.drop _)
            obtain ⟨cells', hf, h3, h4, h5⟩ := fill_holds V a place ps r hr (fun p hp => hev p (by simp [hp])) _ _ cells2 hnew (fun u hu => by
              rw [hl2] at hu
              rcases List.mem_append.1 hu with hu | hu
              · rcases List.mem_append.1 hu with hu | hu
                · exact h1 u (List.mem_of_mem_take hu)
                · exact hc2 u hu
              · exact h1 u (List.mem_of_mem_drop hu)) he
            refine ⟨cells', ?_, h3, h4, by rw [h5]; simp; omega⟩
            simp only [List.map_cons, Instr.fill, hq]
            rw [if_neg (by simp; omega)]
            exact hf
          · cases hsp
        · cases he
      · cases he
    · cases hp

theorem zip_map_self {α β : Type} (l : List α) (f : α → β) : l.zip (l.map f) = l.map fun x => (x, f x) := by
  induction l with
  | nil => rfl
  | cons x l ih => simp [ih]

theorem sound_build (h : SimE C V a w fz ρ) {t : TypeId} {ps : Array (Nat × Operand)} (hop : o.op = .build t ps) {place : Nat → Option (Nat × Nat)} {z : Value} {tps : List (Nat × Nat × Operand)}
    (hb : ∀ parts, P.built t parts = Instr.fill place z.cells parts) (hz : z.cells.toList.all Value.oneCell' = true) (hp : partsOf place ps.toList = some tps)
    {ef : Eff} (he : aBuild z.cells.toList tps (tps.map fun p => V.ev p.2.2) = some ef) (hd : ∀ i, o.dst = some i → i < C.N) : Sound P C V a w o ef := by
  simp only [aBuild, zip_map_self, List.map_map] at he
  split at he
  · rename_i l hl
    cases he
    obtain ⟨cells', hf, h1, h2, _⟩ := fill_holds (fz := fz) V a (ρ := ρ) place ps.toList tps hp (fun p _ => h.ev p.2) _ l z.cells (HoldsL.vals _) (fun u hu => List.all_eq_true.1 hz u hu) hl
    refine sound_value h (v := .agg cells') ?_ hd (by simp only [Holds]; exact ⟨_, rfl, h1⟩) rfl
    have := run_build (P := P) w t (ps.map fun (i, x) => (i, a.eval x)) cells' (by rw [hb]; simpa using hf)
    simp [execOp, hop, this]
  · cases he

mutual
theorem Holds.noref {fz : Fz} : ∀ (x : AV) (ρ ρ' : Ren) (v : Value), noref x = true → Holds fz x ρ v → Holds fz x ρ' v
  | .unk, _, _, _, _, _ => by simp only [Holds]
  | .val u, _, _, _, _, h => by simpa only [Holds] using h
  | .agg l, ρ, ρ', v, hf, h => by
    simp only [Holds] at h ⊢; simp only [Aw.noref] at hf; obtain ⟨cs, e, h⟩ := h; exact ⟨cs, e, HoldsL.noref l ρ ρ' _ hf h⟩
  | .tup l, ρ, ρ', v, hf, h => by
    simp only [Holds] at h ⊢; simp only [Aw.noref] at hf; obtain ⟨cs, e, h⟩ := h; exact ⟨cs, e, HoldsL.noref l ρ ρ' _ hf h⟩
  | .clo fn l, ρ, ρ', v, hf, h => by
    simp only [Holds] at h ⊢; simp only [Aw.noref] at hf; obtain ⟨cs, e, h⟩ := h; exact ⟨cs, e, HoldsL.noref l ρ ρ' _ hf h⟩
  | .ifc t x, ρ, ρ', v, hf, h => by
    simp only [Holds] at h ⊢; simp only [Aw.noref] at hf; obtain ⟨u, e, h⟩ := h; exact ⟨u, e, Holds.noref x ρ ρ' _ hf h⟩
  | .rd .., _, _, _, _, h | .fx .., _, _, _, _, h | .own .., _, _, _, _, h | .elt .., _, _, _, _, h | .rmap .., _, _, _, _, h | .kset .., _, _, _, _, h => by simpa only [Holds] using h
  | .ptr .., _, _, _, hf, _ | .vec .., _, _, _, hf, _ | .mapr .., _, _, _, hf, _ => by simp [Aw.noref] at hf
theorem HoldsL.noref {fz : Fz} : ∀ (l : List AV) (ρ ρ' : Ren) (vs : List Value), norefL l = true → HoldsL fz l ρ vs → HoldsL fz l ρ' vs
  | [], _, _, _, _, h => by simpa only [HoldsL] using h
  | x :: xs, ρ, ρ', vs, hf, h => by
    simp only [HoldsL] at h ⊢; simp only [norefL, Bool.and_eq_true] at hf; obtain ⟨v, r, e, h1, h2⟩ := h
    exact ⟨v, r, e, Holds.noref x ρ ρ' v hf.1 h1, HoldsL.noref xs ρ ρ' r hf.2 h2⟩
end
theorem norefL_mem {l : List AV} (h : norefL l = true) : ∀ x ∈ l, noref x = true := by
  induction l with
  | nil => simp
  | cons y l ih =>
    simp only [norefL, Bool.and_eq_true] at h
    intro x hx
    cases List.mem_cons.1 hx with
    | inl e => subst e; exact h.1
    | inr e => exact ih h.2 x e

/-- the cells of block g are never to be written again -/
def Fz.add (fz : Fz) (g : Nat) (cs : List Value) : Fz := { cell := fun b o => if b = g then cs[o]? else fz.cell b o, obj := fz.obj }
theorem Fz.le_add {fz : Fz} {g : Nat} {cs : List Value} (h : ∀ o, fz.cell g o = none) : fz.le (fz.add g cs) := by
  refine ⟨fun b o v e => ?_, fun b o e => e⟩
  simp only [Fz.add]
  split
  · rename_i hb; subst hb; rw [h o] at e; cases e
  · exact e
theorem HoldsR.chunk {fz : Fz} {g wd n : Nat} {l : List AV} {vs : List Value} (hl : HoldsL fz l noRen vs) (h1 : ∀ u ∈ vs, u.oneCell' = true) (hlen : l.length = n * wd) (hc : ∀ (j : Nat) (v : Value), vs[j]? = some v → fz.cell g j = some v) :
    HoldsR fz (chunk wd n l) wd g 0 := by
  refine HoldsR.of_get _ _ _ _ fun i r hr => ?_
  simp only [Aw.chunk, List.getElem?_map] at hr
  cases hi : (List.range n)[i]? with
  | none => rw [hi] at hr; simp at hr
  | some i' =>
    rw [hi] at hr
    obtain ⟨hlt, he⟩ := List.getElem?_eq_some_iff.1 hi
    simp only [List.getElem_range] at he
    subst he
    simp at hr; subst hr
    have hin : i < n := by simpa using hlt
    have hmul : i * wd + wd ≤ n * wd := by
      have := Nat.mul_le_mul_right wd (show i + 1 ≤ n from hin)
      rw [Nat.add_mul] at this; omega
    refine ⟨by simp; omega, HoldsC.of_get _ _ _ fun j x hj => ?_⟩
    rw [List.getElem?_take] at hj
    split at hj
    · rw [List.getElem?_drop] at hj
      obtain ⟨v, hv, hh⟩ := hl.get _ _ _ _ x hj
      exact ⟨v, by rw [Nat.zero_add]; exact hc _ v hv, h1 v (List.mem_of_getElem? hv), hh⟩
    · cases hj

/-- a new block, never to be written again -/
theorem SimE.newFz (h : SimE C V a w fz ρ) {e : TypeId} {cells : Array Value} : SimE C V a (w.alloc (.cells cells e)) (fz.add w.heap.size cells.toList) ρ := by
  have hnew := h.fz_new (Nat.le_refl _)
  have hext := Ext.alloc w (.cells cells e)
  refine h.extend hext (Fz.le_add hnew.1) (fun c o v hv => ?_) (fun c o hv => hext.heap (h.fobj c o hv)) (fun c hc => ⟨fun o => ?_, rfl⟩)
  · simp only [Fz.add] at hv
    split at hv
    · rename_i hc; subst hc
      have := heap_alloc_new w (.cells cells e)
      simp only [World.cell?, this, Option.isSome_none, Bool.false_eq_true, if_false]
      simpa using hv
    · exact hext.cell (h.fcell c o v hv)
  · simp only [Fz.add]
    rw [if_neg (by omega)]

theorem sound_bslice (h : SimE C V a w fz ρ) {t e : TypeId} {n : Nat} {ps : Array (Nat × Operand)} (hop : o.op = .buildSlice t n ps) (ht : P.underlying t = some (.slice e)) {i : TypeInfo} {z : Value} (hi : P.info? e = some i) (hz : i.zero = some z)
    {ef : Eff} (he : aBslice i.size z.cells.toList n ps.toList (ps.toList.map fun p => V.ev p.2) = some ef) (hd : ∀ i, o.dst = some i → i < C.N) : Sound P C V a w o ef := by
  simp only [aBslice, zip_map_self, List.map_map] at he
  split at he
  · rename_i hc
    obtain ⟨h24, hw0, hzl, hone, hnr⟩ := hc
    have hzs : z.cells.size = i.size := by simpa using hzl
    split at he
    · rename_i l hl
      cases he
      have hps : partsOf (fun j => some (j * i.size, i.size)) ps.toList = some (ps.toList.map fun p => (p.1 * i.size, i.size, p.2)) := by
        generalize ps.toList = L
        induction L with
        | nil => rfl
        | cons p L ih => simp [partsOf, ih]
      have hnr' := norefL_mem hnr
      let base : Array Value := (Array.range (n * i.size)).map (fun j => z.cells[j % z.cells.size]!)
      have hbase : base.toList = (List.replicate n z.cells.toList).flatten := by
        show ((Array.range (n * i.size)).map (fun j => z.cells[j % z.cells.size]!)).toList = _
        rw [← hzs]; exact range_zero_flatten z.cells n
      obtain ⟨cells', hf, h1, h2, hlen⟩ := fill_holds (fz := fz) V a (ρ := noRen) (fun j => some (j * i.size, i.size)) ps.toList _ hps (fun p hp => (h.ev p.2).noref _ _ _ _ (hnr' _ (List.mem_map.2 ⟨p, hp, rfl⟩)))
        ((List.replicate n (z.cells.toList.map AV.val)).flatten) l base (by rw [hbase, flatten_replicate_map]; exact HoldsL.vals _) (fun u hu => by
          rw [hbase] at hu
          obtain ⟨l', hl', hu'⟩ := List.mem_flatten.1 hu
          have := List.eq_of_mem_replicate hl'
          subst this
          exact List.all_eq_true.1 hone u hu') (by simpa [Function.comp_def] using hl)
      have hll : l.length = n * i.size := by rw [hlen, flatten_replicate_map, List.length_map, ← hbase]; simp [base]
      intro Q
      have hrun : (Instr.buildSlice t n (ps.map fun (i, x) => (i, a.eval x))).run P w = .ok (.slice (some ⟨w.heap.size, 0, none⟩) n n) (w.alloc (.cells cells' e)) := by
        by_cases hn0 : n * i.size = 0
        · have hf' : Instr.fill (fun j => some (j * i.size, i.size)) ((Array.range (n * i.size)).map (fun j => (#[] : Array Value)[j % (#[] : Array Value).size]!)) (ps.map fun (i, x) => (i, a.eval x)).toList = some cells' := by
            have hb0 : base = #[] := by simp [base, hn0, arange0]
            rw [hb0] at hf
            simpa [hn0, arange0] using hf
          simp only [hn0] at hf'
          simp [Instr.buildSlice, run_underlying ht, sizeOf, typeInfo, hi, hn0, newRow]
          simp at hf'
          simp [hf']
        · exact run_buildSlice w t e n _ cells' i z ht hi hz (by simpa using h24) hn0 (by simpa [base] using hf)
      refine wp_of_value (v := .slice (some ⟨w.heap.size, 0, none⟩) n n) (w' := w.alloc (.cells cells' e)) (by simp [execOp, hop, hrun]) ⟨_, ρ, (h.newFz (e := e) (cells := cells')).putO hd ?_ rfl⟩
      have hnew := h.fz_new (Nat.le_refl _)
      have hcl : (chunk i.size n l).length = n := by simp [chunk]
      simp only [Holds, hcl]
      refine ⟨some ⟨w.heap.size, 0, none⟩, rfl, .inr ⟨_, _, rfl, ?_⟩⟩
      refine HoldsR.chunk (vs := cells'.toList) (h1.mono (Fz.le_add hnew.1) _ _ _ _ (Ren.le_refl _)) h2 hll (fun j v hv => ?_)
      simp only [Fz.add, if_true]; exact hv
    · cases he
  · cases he
end Go.Aw
