/- Closed runs: structs and slices that are built; copies; tests of pointers. -/
import Derived.Test.YtempphkfacccoaaEvG
set_option linter.unusedSimpArgs false
set_option linter.unusedVariables false
namespace Go.Ev
open Go.Aw (szOf zeroC isAggT partsOf)
variable {P : Program} {C : Ctx} {V : View} {a : Act} {w : World} {ρ ρ' : Ren} {o : Oper} {Q : Exit → Act → World → Prop}

def splice (l : List EV) (off n : Nat) (x : List EV) : Option (List EV) :=
  if x.length = n ∧ off + n ≤ l.length then some (l.take off ++ x ++ l.drop (off + n)) else none
def fillE : List EV → List (Nat × Nat × EV) → Option (List EV)
  | l, [] => some l
  | l, (off, n, x) :: r => match cellsE x with
    | some cs => match splice l off n cs with
      | some l' => fillE l' r
      | none => none
    | none => none
theorem fill_holds (V : View) (a : Act) (place : Nat → Option (Nat × Nat)) : ∀ (ps : List (Nat × Operand)) (tps : List (Nat × Nat × Operand)), partsOf place ps = some tps → (∀ p ∈ ps, Holds ρ (V.ev p.2) (a.eval p.2)) →
    ∀ (l l' : List EV) (cells : Array Value), HoldsL ρ l cells.toList → (∀ u ∈ cells.toList, u.oneCell' = true) → fillE l (tps.map fun p => (p.1, p.2.1, V.ev p.2.2)) = some l' →
    ∃ cells', Instr.fill place cells (ps.map fun p => (p.1, a.eval p.2)) = some cells' ∧ HoldsL ρ l' cells'.toList ∧ (∀ u ∈ cells'.toList, u.oneCell' = true) ∧ l'.length = l.length
  | [], tps, hp, _, l, l', cells, hl, h1, he => by
    simp only [partsOf, Option.some.injEq] at hp; subst hp
    simp only [List.map_nil, fillE, Option.some.injEq] at he; subst he
    exact ⟨cells, rfl, hl, h1, rfl⟩
  | (i, x) :: ps, tps, hp, hev, l, l', cells, hl, h1, he => by
    simp only [partsOf] at hp
    split at hp
    · rename_i q r hq hr
      cases hp
      simp only [List.map_cons, fillE] at he
      split at he
      · rename_i cs hcs
        split at he
        · rename_i l2 hsp
          obtain ⟨hc1, hc2⟩ := cellsE_holds (hev (i, x) (by simp)) hcs
          simp only [splice] at hsp
          split at hsp
          · rename_i hlen
            cases hsp
            have hcl := hc1.len
            have hll := hl.len
            have hvs : (a.eval x).cells.size = q.2 := by simpa using hcl.trans hlen.1
            have hcsz : cells.size = l.length := by simpa using hll
            let cells2 : Array Value := (a.eval x).cells.zipIdx.foldl (fun cs (c, j) => cs.setIfInBounds (q.1 + j) c) cells
            have hset := Great.foldl_set q.1 (a.eval x).cells.toList 0 cells
            have hc2' : cells2 = ((a.eval x).cells.toList.zipIdx 0).foldl (fun cs (x : Value × Nat) => cs.setIfInBounds (q.1 + x.2) x.1) cells := by
              show (a.eval x).cells.zipIdx.foldl (fun cs (c, j) => cs.setIfInBounds (q.1 + j) c) cells = _
              rw [← Array.foldl_toList, Array.toList_zipIdx]
            rw [← hc2'] at hset
            have hl2 : cells2.toList = cells.toList.take q.1 ++ (a.eval x).cells.toList ++ cells.toList.drop (q.1 + q.2) := by
              apply List.ext_getElem?
              intro k
              have := hset.2 k
              simp only [Nat.add_zero, Array.length_toList] at this
              rw [Array.getElem?_toList, this]
              by_cases hk1 : k < q.1
              · rw [if_neg (by omega), List.append_assoc, List.getElem?_append_left (by simp; omega)]
                simp [hk1]
              · by_cases hk2 : k < q.1 + q.2
                · rw [if_pos (by omega), List.append_assoc, List.getElem?_append_right (by simp; omega), List.getElem?_append_left (by simp; omega)]
                  congr 1
                  simp; omega
                · rw [if_neg (by omega), List.getElem?_append_right (by simp; omega)]
                  simp only [List.getElem?_drop, Array.getElem?_toList]
                  congr 1
                  simp; omega
            have hnew : HoldsL ρ (l.take q.1 ++ cs ++ l.drop (q.1 + q.2)) cells2.toList := by
              rw [hl2]; exact ((hl.take _).append hc1).append (hl.drop _)
            obtain ⟨cells', hf, h3, h4, h5⟩ := fill_holds V a place ps r hr (fun p hp => hev p (by simp [hp])) _ _ cells2 hnew (fun u hu => by
              rw [hl2] at hu
              rcases List.mem_append.1 hu with hu | hu
              · rcases List.mem_append.1 hu with hu | hu
                · exact h1 u (List.mem_of_mem_take hu)
                · exact hc2 u hu
              · exact h1 u (List.mem_of_mem_drop hu)) he
            refine ⟨cells', ?_, h3, h4, by rw [h5]; simp; omega⟩
            simp only [List.map_cons, Instr.fill, hq]
            rw [if_neg (by simp; omega)]
            exact hf
          · cases hsp
        · cases he
      · cases he
    · cases hp

def eBuild (zero : List Value) (ps : List (Nat × Nat × Operand)) (vs : List EV) : Option Eff :=
  match fillE (zero.map cst1) ((ps.zip vs).map fun (p, v) => (p.1, p.2.1, v)) with
  | some l => some { out := .agg l }
  | none => none
theorem sound_build (h : SimE C V a w ρ) {t : TypeId} {ps : Array (Nat × Operand)} (hop : o.op = .build t ps) {place : Nat → Option (Nat × Nat)} {z : Value} {tps : List (Nat × Nat × Operand)}
    (hb : ∀ parts, P.built t parts = Instr.fill place z.cells parts) (hz : z.cells.toList.all Value.oneCell' = true) (hp : partsOf place ps.toList = some tps)
    {ef : Eff} (he : eBuild z.cells.toList tps (tps.map fun p => V.ev p.2.2) = some ef) (hd : ∀ i, o.dst = some i → i < C.N) : Sound P C V a w o ef := by
  simp only [eBuild, Aw.zip_map_self, List.map_map] at he
  split at he
  · rename_i l hl
    cases he
    obtain ⟨cells', hf, h1, h2, _⟩ := fill_holds V a (ρ := ρ) place ps.toList tps hp (fun p _ => h.ev p.2) _ l z.cells (cst1_holdsL _ _) (fun u hu => List.all_eq_true.1 hz u hu) hl
    refine sound_value h (v := .agg cells') ?_ hd (by simp only [Holds]; exact ⟨_, rfl, h1⟩)
    have := run_build (P := P) w t (ps.map fun (i, x) => (i, a.eval x)) cells' (by rw [hb]; simpa using hf)
    simp [execOp, hop, this]
  · cases he

def fillR (wd : Nat) : List (List EV) → List (Nat × EV) → Option (List (List EV))
  | rows, [] => some rows
  | rows, (i, x) :: r => match cellsE x with
    | some l => if l.length = wd ∧ i < rows.length then fillR wd (rows.set i l) r else none
    | none => none
theorem flatten_set {wd : Nat} : ∀ (rows : List (List EV)) (i : Nat) (l : List EV), (∀ r ∈ rows, r.length = wd) → i < rows.length → rows.flatten.take (i * wd) ++ l ++ rows.flatten.drop (i * wd + wd) = (rows.set i l).flatten
  | [], i, l, _, hi => by simp at hi
  | r :: rs, 0, l, hw, _ => by
    have := hw r (by simp)
    simp [this.symm]
  | r :: rs, i + 1, l, hw, hi => by
    have hr := hw r (by simp)
    have ih := flatten_set rs i l (fun q hq => hw q (by simp [hq])) (by simpa using hi)
    simp only [List.flatten_cons, List.set_cons_succ]
    rw [← ih, Nat.add_mul, Nat.one_mul]
    have e1 : (r ++ rs.flatten).take (i * wd + wd) = r ++ rs.flatten.take (i * wd) := by
      rw [List.take_append, hr, show i * wd + wd - wd = i * wd from by omega, List.take_of_length_le (by omega)]
    have e2 : (r ++ rs.flatten).drop (i * wd + wd + wd) = rs.flatten.drop (i * wd + wd) := by
      rw [List.drop_append, hr, show i * wd + wd + wd - wd = i * wd + wd from by omega, List.drop_eq_nil_of_le (by omega), List.nil_append]
    rw [e1, e2, List.append_assoc, List.append_assoc, List.append_assoc]
theorem fillR_E {wd : Nat} : ∀ (ps : List (Nat × EV)) (rows rows' : List (List EV)), (∀ r ∈ rows, r.length = wd) → fillR wd rows ps = some rows' →
    fillE rows.flatten (ps.map fun p => (p.1 * wd, wd, p.2)) = some rows'.flatten ∧ (∀ r ∈ rows', r.length = wd) ∧ rows'.length = rows.length
  | [], rows, rows', hw, h => by simp only [fillR, Option.some.injEq] at h; subst h; exact ⟨rfl, hw, rfl⟩
  | (i, x) :: ps, rows, rows', hw, h => by
    simp only [fillR] at h
    split at h
    · rename_i l hl
      split at h
      · rename_i hc
        have hw2 : ∀ r ∈ rows.set i l, r.length = wd := fun r hr => by
          rcases List.mem_or_eq_of_mem_set hr with hr | hr
          · exact hw r hr
          · subst hr; exact hc.1
        obtain ⟨h1, h2, h3⟩ := fillR_E ps _ _ hw2 h
        refine ⟨?_, h2, by rw [h3]; simp⟩
        have hfl : rows.flatten.length = rows.length * wd := by
          clear h h1 h2 h3 hw2 hc
          induction rows with
          | nil => simp
          | cons r rs ih => simp only [List.flatten_cons, List.length_append, List.length_cons, Nat.add_mul, Nat.one_mul]; rw [ih (fun q hq => hw q (by simp [hq])), hw r (by simp)]; omega
        have hfit : i * wd + wd ≤ rows.flatten.length := by
          rw [hfl]
          have := Nat.mul_le_mul_right wd (show i + 1 ≤ rows.length from hc.2)
          rw [Nat.add_mul] at this; omega
        simp only [List.map_cons, fillE, hl, splice]
        rw [if_pos ⟨hc.1, hfit⟩, flatten_set rows i l hw hc.2]
        exact h1
      · cases h
    · cases h
theorem flatten_cell {wd : Nat} : ∀ (rows : List (List EV)) (i k : Nat) (x : EV), (∀ r ∈ rows, r.length = wd) → rowCell rows i k = some x → rows.flatten[i * wd + k]? = some x
  | [], i, k, x, _, h => by simp [rowCell] at h
  | r :: rs, 0, k, x, hw, h => by
    have hr := hw r (by simp)
    simp only [rowCell, List.getElem?_cons_zero, Option.bind_some] at h
    have := (List.getElem?_eq_some_iff.1 h).1
    rw [Nat.zero_mul, Nat.zero_add, List.flatten_cons, List.getElem?_append_left this]; exact h
  | r :: rs, i + 1, k, x, hw, h => by
    have hr := hw r (by simp)
    have ih := flatten_cell rs i k x (fun q hq => hw q (by simp [hq])) (by simpa [rowCell] using h)
    rw [List.flatten_cons, List.getElem?_append_right (by rw [Nat.add_mul]; omega), hr, show (i + 1) * wd + k - wd = i * wd + k from by rw [Nat.add_mul]; omega]
    exact ih

def eBslice (d : Nat) (e : TypeId) (wd : Nat) (zero : List Value) (n : Nat) (ps : List (Nat × EV)) : Option Eff :=
  if (n * wd ≤ 16777216 ∧ 0 < wd) ∧ zero.length = wd ∧ zero.all Value.oneCell' = true then
    match fillR wd (List.replicate n (zero.map cst1)) ps with
    | some rows => some { out := .sl d wd 0 n n true, upd := [(d, .cells e wd false [] rows)] }
    | none => none
  else none
theorem sound_bslice (h : SimE C V a w ρ) {t e : TypeId} {n : Nat} {ps : Array (Nat × Operand)} (hop : o.op = .buildSlice t n ps) (ht : P.underlying t = some (.slice e)) {i : TypeInfo} {z : Value} (hi : P.info? e = some i) (hz : i.zero = some z)
    {d : Nat} (hfr : V.hp d = none) {ef : Eff} (he : eBslice d e i.size z.cells.toList n (ps.toList.map fun p => (p.1, V.ev p.2)) = some ef) (hd : ∀ i, o.dst = some i → i < C.N) : Sound P C V a w o ef := by
  simp only [eBslice] at he
  split at he
  · rename_i hc
    obtain ⟨⟨h24, hw0⟩, hzl, hone⟩ := hc
    have hzs : z.cells.size = i.size := by simpa using hzl
    split at he
    · rename_i rows hrows
      cases he
      have hps : partsOf (fun j => some (j * i.size, i.size)) ps.toList = some (ps.toList.map fun p => (p.1 * i.size, i.size, p.2)) := by
        generalize ps.toList = L
        induction L with
        | nil => rfl
        | cons p L ih => simp [partsOf, ih]
      obtain ⟨hf1, hf2, hf3⟩ := fillR_E _ _ _ (fun r hr => by have := List.eq_of_mem_replicate hr; subst this; simpa using hzl) hrows
      let base : Array Value := (Array.range (n * i.size)).map (fun j => z.cells[j % z.cells.size]!)
      have hbase : base.toList = (List.replicate n z.cells.toList).flatten := by
        show ((Array.range (n * i.size)).map (fun j => z.cells[j % z.cells.size]!)).toList = _
        rw [← hzs]; exact Aw.range_zero_flatten z.cells n
      have hr0 := h.mem.dom d hfr
      let L : Loc := ⟨w.heap.size, 0, i.size, n * i.size⟩
      have hle := Ren.le_set (L := L) hr0
      obtain ⟨cells', hf, h1, h2, hlen⟩ := fill_holds V a (ρ := ρ) (fun j => some (j * i.size, i.size)) ps.toList _ hps (fun p _ => h.ev p.2)
        ((List.replicate n (z.cells.toList.map cst1)).flatten) rows.flatten base (by rw [hbase, Aw.flatten_replicate_map]; exact cst1_holdsL _ _) (fun u hu => by
          rw [hbase] at hu
          obtain ⟨l', hl', hu'⟩ := List.mem_flatten.1 hu
          have := List.eq_of_mem_replicate hl'
          subst this
          exact List.all_eq_true.1 hone u hu') (by simpa [Function.comp_def] using hf1)
      have hcs : cells'.size = n * i.size := by
        have := h1.len
        rw [hlen, Aw.flatten_replicate_map, List.length_map, ← hbase] at this
        simpa [base] using this
      have hrun : (Instr.buildSlice t n (ps.map fun (i, x) => (i, a.eval x))).run P w = .ok (.slice (some ⟨w.heap.size, 0, none⟩) n n) (w.alloc (.cells cells' e)) := by
        by_cases hn0 : n * i.size = 0
        · have hf' : Instr.fill (fun j => some (j * i.size, i.size)) ((Array.range (n * i.size)).map (fun j => (#[] : Array Value)[j % (#[] : Array Value).size]!)) (ps.map fun (i, x) => (i, a.eval x)).toList = some cells' := by
            have hb0 : base = #[] := by simp [base, hn0, Aw.arange0]
            rw [hb0] at hf
            simpa [hn0, Aw.arange0] using hf
          simp only [hn0] at hf'
          simp [Instr.buildSlice, run_underlying ht, sizeOf, typeInfo, hi, hn0, newRow]
          simp at hf'
          simp [hf']
        · exact run_buildSlice w t e n _ cells' i z ht hi hz (by simpa using h24) hn0 (by simpa [base] using hf)
      refine sound_new h hfr (L := L) rfl (ob := .cells cells' e) (v := .slice (some ⟨w.heap.size, 0, none⟩) n n) (by simp [execOp, hop, hrun]) ?_ ?_ hd
      · refine ⟨_, heap_alloc_new w _, by simp [L, hcs], rfl, hw0, hf2, fun m k x hx => ?_⟩
        obtain ⟨v, hv, hh⟩ := (h1.mono hle _ _).get _ x (flatten_cell rows m k x hf2 hx)
        refine ⟨v, ?_, h2 v (List.mem_of_getElem? hv), hh⟩
        simp only [L, Nat.zero_add]
        simpa using hv
      · have h63 : n ≤ maxLen := by
          have := Nat.mul_le_mul_left n hw0
          simp only [Nat.succ_eq_add_one, Nat.zero_add, Nat.mul_one] at this
          simp only [maxLen]; omega
        simp only [Holds]
        exact ⟨L, n, _, Ren.set_self, rfl, rfl, fun _ => by simp [L], Nat.le_refl _, Nat.le_refl _, fun _ => rfl, by simp [L], h63⟩
    · cases he
  · cases he

def eNilck : List EV → Option Eff
  | [.ptr b i k] => some { out := .ptr b i k }
  | [.clo (.func f) caps] => some { out := .clo (.func f) caps }
  | _ => none
theorem sound_nilck (h : SimE C V a w ρ) {x : Operand} (hop : o.op = .nilCheck x) {ef : Eff} (he : eNilck [V.ev x] = some ef) (hd : ∀ i, o.dst = some i → i < C.N) : Sound P C V a w o ef := by
  have hx := h.ev x
  unfold eNilck at he
  split at he
  · rename_i b i k heq
    simp only [List.cons.injEq, and_true] at heq
    cases he
    rw [heq] at hx
    have hx0 := hx
    simp only [Holds] at hx
    obtain ⟨L, _, hv⟩ := hx
    exact sound_value h (v := a.eval x) (by simp [execOp, hop, hv]) hd hx0
  · rename_i f caps heq
    simp only [List.cons.injEq, and_true] at heq
    cases he
    rw [heq] at hx
    have hx0 := hx
    simp only [Holds] at hx
    obtain ⟨cs, hv, _⟩ := hx
    exact sound_value h (v := a.eval x) (by simp [execOp, hop, hv]) hd hx0
  · cases he
end Go.Ev
