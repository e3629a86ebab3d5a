/- Closed runs: slices that grow. -/
import Derived.Test.YtempphkfacccoaaEvF
import Derived.Deep.AppendSrc
set_option linter.unusedSimpArgs false
set_option linter.unusedVariables false
namespace Go.Ev
variable {P : Program} {C : Ctx} {V : View} {a : Act} {w : World} {ρ ρ' : Ren} {o : Oper} {Q : Exit → Act → World → Prop}

/-- rows, as a list of values: row by row -/
structure RowsAt (ρ : Ren) (wd : Nat) (rows : List (List EV)) (vs : List Value) : Prop where
  len : vs.length = rows.length * wd
  width : ∀ r ∈ rows, r.length = wd
  one : ∀ u ∈ vs, u.oneCell' = true
  at_ : ∀ i k x, rowCell rows i k = some x → ∃ u, vs[i * wd + k]? = some u ∧ Holds ρ x u
theorem RowsAt.nil {wd : Nat} : RowsAt ρ wd [] [] := ⟨by simp, by simp, by simp, fun i k x h => by simp [rowCell] at h⟩
theorem rowCell_lt {rows : List (List EV)} {wd : Nat} (hw : ∀ r ∈ rows, r.length = wd) {i k : Nat} {x : EV} (h : rowCell rows i k = some x) : i < rows.length ∧ k < wd := by
  obtain ⟨r, hr, hk⟩ := rowCell_some h
  have := hw r (List.mem_of_getElem? hr)
  exact ⟨(List.getElem?_eq_some_iff.1 hr).1, this ▸ (List.getElem?_eq_some_iff.1 hk).1⟩
theorem RowsAt.append {wd : Nat} {r1 r2 : List (List EV)} {v1 v2 : List Value} (h1 : RowsAt ρ wd r1 v1) (h2 : RowsAt ρ wd r2 v2) : RowsAt ρ wd (r1 ++ r2) (v1 ++ v2) := by
  have hw : ∀ r ∈ r1 ++ r2, r.length = wd := fun r hr => (List.mem_append.1 hr).elim (h1.width r) (h2.width r)
  refine ⟨by rw [List.length_append, List.length_append, h1.len, h2.len, Nat.add_mul], hw, fun u hu => (List.mem_append.1 hu).elim (h1.one u) (h2.one u), fun i k x hx => ?_⟩
  obtain ⟨r, hr, hk⟩ := rowCell_some hx
  have hkw : k < wd := (rowCell_lt hw hx).2
  by_cases hi : i < r1.length
  · rw [List.getElem?_append_left hi] at hr
    obtain ⟨u, hu, hh⟩ := h1.at_ i k x (by simp [rowCell, hr, hk])
    have := (List.getElem?_eq_some_iff.1 hu).1
    exact ⟨u, by rw [List.getElem?_append_left this]; exact hu, hh⟩
  · rw [List.getElem?_append_right (by omega)] at hr
    obtain ⟨u, hu, hh⟩ := h2.at_ (i - r1.length) k x (by simp [rowCell, hr, hk])
    refine ⟨u, ?_, hh⟩
    have hle : r1.length * wd ≤ i * wd := Nat.mul_le_mul_right _ (by omega)
    rw [List.getElem?_append_right (by rw [h1.len]; omega), h1.len, show i * wd + k - r1.length * wd = (i - r1.length) * wd + k from by rw [Nat.sub_mul]; omega]
    exact hu
theorem RowsAt.mono {wd : Nat} {r : List (List EV)} {v : List Value} (hr : Ren.le ρ ρ') (h : RowsAt ρ wd r v) : RowsAt ρ' wd r v :=
  ⟨h.len, h.width, h.one, fun i k x hx => by obtain ⟨u, hu, hh⟩ := h.at_ i k x hx; exact ⟨u, hu, hh.mono hr _ _⟩⟩

/-- n rows from the i-th on, as they lie in memory -/
theorem BlkAt.rowsAt {L : Loc} {e : TypeId} {wd : Nat} {ro : Bool} {al : List Nat} {rows : List (List EV)} (h : BlkAt ρ w L (.cells e wd ro al rows)) {i n : Nat} (hin : i + n ≤ rows.length) :
    ∃ vs, RowsAt ρ wd ((rows.drop i).take n) vs ∧ ∀ j u, vs[j]? = some u → w.cell? ⟨L.c, L.base + i * wd + j, none⟩ = some u := by
  obtain ⟨cur, h1, h2, h3, h0, h5, h6⟩ := h
  have hfit : ∀ m, m < rows.length → L.base + m * wd + wd ≤ cur.size := by
    intro m hm
    have hr := h5 rows[m] (by simp)
    have hlast : rowCell rows m (wd - 1) = some (rows[m][wd - 1]'(by omega)) := by
      simp only [rowCell, List.getElem?_eq_getElem hm, Option.bind_some]; rw [List.getElem?_eq_getElem (by omega)]
    obtain ⟨u, hu, _⟩ := h6 m (wd - 1) _ hlast
    have := (Array.getElem?_eq_some_iff.1 hu).1
    omega
  have hall : n = 0 ∨ L.base + i * wd + n * wd ≤ cur.size := by
    cases n with
    | zero => exact .inl rfl
    | succ n =>
      have := hfit (i + n) (by omega)
      rw [Nat.add_mul] at this
      exact .inr (by rw [Nat.add_mul, Nat.one_mul]; omega)
  have hw : ∀ r ∈ (rows.drop i).take n, r.length = wd := fun r hr => h5 r (List.mem_of_mem_drop (List.mem_of_mem_take hr))
  have hlen : ((rows.drop i).take n).length = n := by simp; omega
  have hidx : ∀ m k x, rowCell ((rows.drop i).take n) m k = some x → rowCell rows (i + m) k = some x ∧ m < n ∧ k < wd := by
    intro m k x hx
    obtain ⟨hm, hk⟩ := rowCell_lt hw hx
    rw [hlen] at hm
    obtain ⟨r, hr, hrk⟩ := rowCell_some hx
    rw [List.getElem?_take, if_pos hm, List.getElem?_drop] at hr
    exact ⟨by simp [rowCell, hr, hrk], hm, hk⟩
  refine ⟨(cur.toList.drop (L.base + i * wd)).take (n * wd), ⟨?_, hw, fun u hu => ?_, fun m k x hx => ?_⟩, fun j u hj => ?_⟩
  · rw [hlen]; simp only [List.length_take, List.length_drop, Array.length_toList]
    rcases hall with rfl | hall
    · simp
    · omega
  · obtain ⟨j, hj⟩ := List.mem_iff_getElem?.1 hu
    have hjn : j < n * wd := by have := (List.getElem?_eq_some_iff.1 hj).1; simp at this; omega
    rw [List.getElem?_take, if_pos hjn, List.getElem?_drop, Array.getElem?_toList] at hj
    have hq : j / wd < n := Nat.div_lt_of_lt_mul (by rw [Nat.mul_comm]; exact hjn)
    have hr : j % wd < wd := Nat.mod_lt _ h0
    have hlt : i + j / wd < rows.length := by omega
    have hrw := h5 rows[i + j / wd] (by simp)
    have hc : rowCell rows (i + j / wd) (j % wd) = some (rows[i + j / wd][j % wd]'(by omega)) := by
      simp only [rowCell, List.getElem?_eq_getElem hlt, Option.bind_some]; rw [List.getElem?_eq_getElem (by omega)]
    obtain ⟨v, hv, ho, _⟩ := h6 _ _ _ hc
    have hdm := Nat.div_add_mod j wd
    rw [show L.base + (i + j / wd) * wd + j % wd = L.base + i * wd + j from by rw [Nat.add_mul, Nat.mul_comm (j / wd)]; omega, hj] at hv
    cases hv; exact ho
  · obtain ⟨hx', hm, hk⟩ := hidx m k x hx
    obtain ⟨v, hv, ho, hh⟩ := h6 _ _ _ hx'
    refine ⟨v, ?_, hh⟩
    have hmul : m * wd + wd ≤ n * wd := by
      have := Nat.mul_le_mul_right wd (show m + 1 ≤ n from hm)
      rw [Nat.add_mul] at this; omega
    rw [List.getElem?_take, if_pos (by omega), List.getElem?_drop, Array.getElem?_toList, ← hv]
    congr 1; rw [Nat.add_mul]; omega
  · rw [List.getElem?_take] at hj
    split at hj
    · rw [List.getElem?_drop, Array.getElem?_toList] at hj
      simp only [World.cell?, h1, Option.isSome_none, Bool.false_eq_true, if_false]
      exact hj
    · cases hj

/-- a block's known rows end within it -/
theorem BlkAt.fits {L : Loc} {e : TypeId} {wd : Nat} {ro : Bool} {al : List Nat} {rows : List (List EV)} (h : BlkAt ρ w L (.cells e wd ro al rows)) (hne : rows ≠ []) : L.base + rows.length * wd ≤ L.sz := by
  obtain ⟨cur, h1, h2, h3, h0, h5, h6⟩ := h
  have hpos := List.length_pos_iff.2 hne
  have hm : rows.length - 1 < rows.length := by omega
  have hr := h5 rows[rows.length - 1] (by simp)
  have hlast : rowCell rows (rows.length - 1) (wd - 1) = some (rows[rows.length - 1][wd - 1]'(by omega)) := by
    simp only [rowCell, List.getElem?_eq_getElem hm, Option.bind_some]; rw [List.getElem?_eq_getElem (by omega)]
  obtain ⟨u, hu, _⟩ := h6 _ _ _ hlast
  have := (Array.getElem?_eq_some_iff.1 hu).1
  have e : rows.length * wd = (rows.length - 1) * wd + wd := by
    conv => lhs; rw [show rows.length = rows.length - 1 + 1 from by omega, Nat.add_mul, Nat.one_mul]
  omega

/-- what is appended -/
def NewOK (P : Program) (ρ : Ren) (w : World) (wd : Nat) (tx : TypeId) (v : Value) (new : List (List EV)) : Prop := ∃ news, Src P wd tx v new.length news w ∧ RowsAt ρ wd new news
def rowsE (g : Hv) (wd : Nat) : EV → Option (List (List EV))
  | .sl b wd' i n _ _ => if wd' = wd then (match n with
    | 0 => some []
    | n => match g b with
      | some (.cells _ wd'' _ _ rows) => if wd'' = wd ∧ i + n ≤ rows.length then some ((rows.drop i).take n) else none
      | _ => none) else none
  | .lit (.slice none 0 0) => some []
  | _ => none
theorem rowsE_ok (h : SimE C V a w ρ) {wd : Nat} {x : Operand} {new : List (List EV)} (he : rowsE V.hp wd (V.ev x) = some new) {tx e' : TypeId} (hk : P.underlying tx = some (.slice e')) : NewOK P ρ w wd tx (a.eval x) new := by
  have hx := h.ev x
  unfold rowsE at he
  split at he
  · rename_i b wd' i n cap ex heq
    rw [heq] at hx; simp only [Holds] at hx
    obtain ⟨L, c, A, hρ, hLw, hv, hA, hnc, hcc, _⟩ := hx
    split at he
    · rename_i hww
      subst hww
      split at he
      · cases he
        exact ⟨[], by rw [hv]; exact Src.ofSlice w hk A 0 c [] (by simp) (by simp) (by simp), .nil⟩
      · rename_i hn0
        split at he
        · rename_i e wd'' ro al rows hb
          split at he
          · rename_i hc
            obtain ⟨rfl, hin⟩ := hc
            cases he
            obtain ⟨L', hL', _, hB⟩ := h.mem.live hb (by simp)
            rw [hρ] at hL'; cases hL'
            obtain ⟨vs, h1, h2⟩ := hB.rowsAt hin
            have hlen : ((rows.drop i).take n).length = n := by simp; omega
            refine ⟨vs, ?_, h1⟩
            have hc0 : 0 < c := by
              have : n ≠ 0 := fun e => hn0 e
              omega
            rw [hv, hA hc0, hlen]
            exact Src.ofSlice w hk _ n c vs (by rw [h1.len, hlen]) (fun j u hj => by rw [Aw.addr_add]; exact h2 j u hj) h1.one
          · cases he
        · cases he
    · cases he
  · rename_i heq
    cases he
    rw [heq] at hx; simp only [Holds] at hx
    exact ⟨[], by rw [hx]; exact Src.ofNil w hk 0, .nil⟩
  · cases he
def strRows (s l : Nat) : List (List EV) := (digs l s).map fun b => [.int .u8 (.ofNat b)]
theorem strRows_ok {s l : Nat} {tx : TypeId} (hk : P.underlying tx = some .string) : NewOK P ρ w 1 tx (.string (bytesOf s l)) (strRows s l) := by
  have hsz : (strRows s l).length = l := by simp [strRows, digs_eq, bytesL_length]
  have hbc : byteCells (bytesOf s l) = (bytesL l s).map fun b => Value.int .u8 b.toNat := by simp [byteCells, bytesOf]
  have hsrc := Src.ofString (P := P) w hk (bytesOf s l)
  rw [bytesOf_size] at hsrc
  refine ⟨_, by rw [hsz]; exact hsrc, ?_⟩
  refine ⟨by rw [hbc, hsz]; simp [bytesL_length], fun r hr => ?_, fun u hu => ?_, fun i k x hx => ?_⟩
  · simp only [strRows, List.mem_map] at hr
    obtain ⟨b, _, rfl⟩ := hr; rfl
  · rw [hbc] at hu
    obtain ⟨b, _, rfl⟩ := List.mem_map.1 hu; rfl
  · obtain ⟨r, hr, hk⟩ := rowCell_some hx
    simp only [strRows, digs_eq, List.map_map, List.getElem?_map] at hr
    cases hb : (bytesL l s)[i]? with
    | none => rw [hb] at hr; simp at hr
    | some b =>
      rw [hb] at hr
      simp at hr; subst hr
      cases k with
      | zero =>
        simp at hk; subst hk
        refine ⟨.int .u8 b.toNat, ?_, by simp [Holds]⟩
        rw [hbc]; simp [hb]
      | succ k => simp at hk

def eApp (d : Nat) (e : TypeId) (wd bytes : Nat) (g : Hv) (new : List (List EV)) : EV → Option Eff
  | .lit (.slice none 0 0) => match new with
    | [] => some { out := .lit (.slice none 0 0) }
    | new => if new.length * bytes ≤ 140737488355328 ∧ new.length ≤ 4611686018427387904 ∧ 0 < wd then some { out := .sl d wd 0 new.length new.length false, upd := [(d, .cells e wd false [] new)] } else none
  | .sl b wd' i n cap ex => if wd' = wd then (match new with
    | [] => some { out := .sl b wd' i n cap ex }
    | new => if n + new.length ≤ cap then (match g b with
        | some (.cells e' wd'' false al rows) => if wd'' = wd ∧ i + n ≤ rows.length then
            some { out := .sl b wd i (n + new.length) cap ex, upd := (b, .cells e' wd false [] (rows.take (i + n) ++ new ++ rows.drop (i + n + new.length))) :: al.map fun b => (b, EBlk.dead) } else none
        | _ => none)
      else if (n + new.length) * bytes ≤ 140737488355328 ∧ n + new.length ≤ 4611686018427387904 then (match n, ex with
        | 0, true => if 0 < wd then some { out := .sl d wd 0 new.length new.length false, upd := [(d, .cells e wd false [] new)] } else none
        | n, true => match g b with
          | some (.cells _ wd'' _ _ rows) => if wd'' = wd ∧ i + n ≤ rows.length then some { out := .sl d wd 0 (n + new.length) (n + new.length) false, upd := [(d, .cells e wd false [] ((rows.drop i).take n ++ new))] } else none
          | _ => none
        | n, false => match g b with
          | some (.cells e' wd'' false al rows) => if wd'' = wd ∧ e' = e ∧ i + n = rows.length then
              some { out := .sl d wd 0 (n + new.length) (n + new.length) false, upd := [(d, .cells e wd false (b :: al) (rows.drop i ++ new)), (b, .cells e wd true al rows)] } else none
          | _ => none) else none) else none
  | _ => none

theorem append_exec {t tx : TypeId} {s x : Operand} (hop : o.op = .call { callee := .builtin .append, args := #[s, x], argTypes := #[t, tx] }) {v : Value} {w' : World}
    (hr : (Builtin.append_ #[t, tx] o.type #[a.eval s, a.eval x]).run P w = .ok v w') : (execOp a.eval o).run P w = .ok (.value v) w' := by
  simp [execOp, hop, resolve, invoke, builtin, hr]
theorem run_append_none {t tx e : TypeId} {i : TypeInfo} (ht : P.underlying t = some (.slice e)) (hi : P.info? e = some i) {ty : TypeId} {base : Option Addr} {n cap : Nat} (hcap : n ≤ cap) {x : Value} {news : List Value} (hs : Src P i.size tx x 0 news w) :
    (Builtin.append_ #[t, tx] ty #[.slice base n cap, x]).run P w = .ok (.slice base n cap) w := by
  have hn : news = [] := List.eq_nil_of_length_eq_zero (by rw [hs.newsLen]; simp)
  have hc := hs.cells
  rw [hn] at hc
  rcases hs.kind with ⟨e', hk⟩ | hk <;> cases base <;> simp [Builtin.append_, run_underlying ht, run_underlying hk, sizeOf, typeInfo, hi, hs.len, hcap, hc, storeCells]
theorem run_append_room_at {t tx e : TypeId} {i : TypeInfo} (ht : P.underlying t = some (.slice e)) (hi : P.info? e = some i) {ty : TypeId} {b off sLen sCap : Nat} {x : Value} {n : Nat} {news : List Value} (hs : Src P i.size tx x n news w)
    (hroom : sLen + n ≤ sCap) {cur : Array Value} {e' : TypeId} (hcur : w.heap[b]? = some (.cells cur e' (0, 0))) (hfit : off + sLen * i.size + news.length ≤ cur.size) :
    (Builtin.append_ #[t, tx] ty #[.slice (some ⟨b, off, none⟩) sLen sCap, x]).run P w = .ok (.slice (some ⟨b, off, none⟩) (sLen + n) sCap)
      (w.setRow b (cur.toList.take (off + sLen * i.size) ++ news ++ cur.toList.drop (off + sLen * i.size + news.length)).toArray) := by
  have hst := run_storeCells_at P b (off + sLen * i.size) e' news 0 cur w hcur (by omega) hs.one
  simp only [Nat.add_zero] at hst
  rcases hs.kind with ⟨e2, hk⟩ | hk <;> simp [Builtin.append_, run_underlying ht, run_underlying hk, sizeOf, typeInfo, hi, hs.len, hroom, hs.cells, Addr.add_lit, hst]

theorem app_new {e : TypeId} {wd cap : Nat} {rows : List (List EV)} {vs : List Value} {tail : Array Value} (hR : RowsAt ρ wd rows vs) (hw0 : 0 < wd) (hcap : rows.length ≤ cap) (htl : tail.size = (cap - rows.length) * wd) {w' : World} {c : Nat}
    (hw : w'.heap[c]? = some (.cells (vs.toArray ++ tail) e (0, 0))) {ro : Bool} {al : List Nat} : BlkAt ρ w' ⟨c, 0, wd, cap * wd⟩ (.cells e wd ro al rows) := by
  refine ⟨_, hw, ?_, rfl, hw0, hR.width, fun i k x hx => ?_⟩
  · simp only [Array.size_append, List.size_toArray, hR.len, htl, ← Nat.add_mul]; congr 1; omega
  · obtain ⟨u, hu, hh⟩ := hR.at_ i k x hx
    refine ⟨u, ?_, hR.one u (List.mem_of_getElem? hu), hh⟩
    have := (List.getElem?_eq_some_iff.1 hu).1
    simp only [Nat.zero_add]
    rw [Array.getElem?_append_left (by simpa using this)]
    simpa using hu

theorem sound_app (h : SimE C V a w ρ) {t tx e : TypeId} {s x : Operand} (hop : o.op = .call { callee := .builtin .append, args := #[s, x], argTypes := #[t, tx] }) (ht : P.underlying t = some (.slice e)) {i : TypeInfo} {z : Value}
    (hi : P.info? e = some i) (hz : i.zero = some z) (hzs : z.cells.size = i.size) {new : List (List EV)} (hnew : NewOK P ρ w i.size tx (a.eval x) new) {d : Nat} (hfr : V.hp d = none) {ef : Eff} (he : eApp d e i.size i.bytes V.hp new (V.ev s) = some ef)
    (hd : ∀ i, o.dst = some i → i < C.N) : Sound P C V a w o ef := by
  have hsh := h.ev s
  obtain ⟨news, hsrc, hR⟩ := hnew
  have hr0 := h.mem.dom d hfr
  -- a new row, out of old cells and the new ones
  have grow : ∀ (base : Option Addr) (sLen sCap : Nat) (old : List (List EV)) (olds : List Value), a.eval s = .slice base sLen sCap → old.length = sLen → RowsAt ρ i.size old olds →
      ((Builtin.firstCells i.size sLen (.slice base sLen sCap)).run P w.drew = .ok olds.toArray w.drew) → sCap < sLen + new.length → (sLen + new.length) * i.bytes ≤ 140737488355328 → sLen + new.length ≤ 4611686018427387904 → 0 < i.size →
      ∃ w' cap, (execOp a.eval o).run P w = .ok (.value (.slice (some ⟨w.heap.size, 0, none⟩) (sLen + new.length) cap)) w' ∧ Aw.Ext w w' ∧ sLen + new.length ≤ cap ∧ cap ≤ maxLen ∧
        ∀ ro al, BlkAt (Ren.set ρ d ⟨w.heap.size, 0, i.size, cap * i.size⟩) w' ⟨w.heap.size, 0, i.size, cap * i.size⟩ (.cells e i.size ro al (old ++ new)) := by
    intro base sLen sCap old olds hs hol hRo hold hlt hb h63 hw0
    have hrun := run_append_grow_src (P := P) w t tx o.type e i z ht hi hz base sLen sCap olds hold (a.eval x) new.length news hsrc hlt (by omega) (growslice_fits hlt hb)
    refine ⟨_, grownCap w (sLen + new.length) sCap e, append_exec hop (by rw [hs]; exact hrun), (Aw.Ext.drawn w _).trans (Aw.Ext.alloc w.drew _), grownCap_ge _ _ _ _, grownCap_le_maxLen _ _ _ _ (by simp only [maxLen]; omega), fun ro al => ?_⟩
    have hRR := (hRo.append hR).mono (Ren.le_set (b := d) (L := ⟨w.heap.size, 0, i.size, grownCap w (sLen + new.length) sCap e * i.size⟩) hr0)
    refine app_new hRR hw0 (by rw [List.length_append, hol]; exact grownCap_ge _ _ _ _) ?_ (heap_alloc_new w.drew _)
    rw [size_zeroCells, hzs, List.length_append, hol]
  have fresh : ∀ (base : Option Addr) (sLen sCap : Nat) (old : List (List EV)) (olds : List Value), a.eval s = .slice base sLen sCap → old.length = sLen → RowsAt ρ i.size old olds →
      ((Builtin.firstCells i.size sLen (.slice base sLen sCap)).run P w.drew = .ok olds.toArray w.drew) → sCap < sLen + new.length → (sLen + new.length) * i.bytes ≤ 140737488355328 → sLen + new.length ≤ 4611686018427387904 → 0 < i.size →
      Sound P C V a w o { out := .sl d i.size 0 (sLen + new.length) (sLen + new.length) false, upd := [(d, .cells e i.size false [] (old ++ new))] } := by
    intro base sLen sCap old olds hs hol hRo hold hlt hb h63 hw0
    obtain ⟨w', cap, hr, hext, hc1, hc2, hB⟩ := grow base sLen sCap old olds hs hol hRo hold hlt hb h63 hw0
    refine sound_mem h hr (Ren.le_set hr0) (h.mem.new hfr hext rfl (hB false [])) hd ?_
    simp only [Holds]
    exact ⟨_, cap, _, Ren.set_self, rfl, rfl, fun _ => by simp, Nat.le_refl _, hc1, by simp, by simp, hc2⟩
  unfold eApp at he
  split at he
  · rename_i heq
    rw [heq] at hsh; simp only [Holds] at hsh
    split at he
    · cases he
      have : news = [] := List.eq_nil_of_length_eq_zero (by rw [hR.len]; simp)
      exact sound_value h (append_exec hop (by rw [hsh]; exact run_append_none ht hi (Nat.le_refl _) hsrc)) hd (by simp only [Holds])
    · rename_i hne
      split at he
      · rename_i hc
        cases he
        have hlen : 0 < new.length := List.length_pos_iff.2 (fun e => hne e)
        have := fresh none 0 0 [] [] hsh rfl .nil (run_firstCells_none w.drew i.size 0 0 0) (by omega) (by simpa using hc.1) (by simpa using hc.2.1) hc.2.2
        simpa using this
      · cases he
  · rename_i b wd' i0 n cap ex heq
    rw [heq] at hsh
    have hsh0 := hsh
    simp only [Holds] at hsh
    obtain ⟨L, c, A, hρ, hLw, hv, hA, hnc, hcc, hex, hsz, hmx⟩ := hsh
    split at he
    · rename_i hww
      subst hww
      split at he
      · cases he
        exact sound_value h (append_exec hop (by rw [hv]; exact run_append_none ht hi (by omega) hsrc)) hd (by rw [← hv]; exact hsh0)
      · rename_i hne
        have hlen : 0 < new.length := List.length_pos_iff.2 (fun e => hne e)
        split at he
        · -- there is room
          rename_i hroom
          split at he
          · rename_i e' wd'' al rows hb
            split at he
            · rename_i hc
              obtain ⟨rfl, hin⟩ := hc
              cases he
              obtain ⟨L', hL', _, hB⟩ := h.mem.live hb (by simp)
              rw [hρ] at hL'; cases hL'
              obtain ⟨cur, hcur, hcsz, _, hw0, hrl, hcell⟩ := hB
              have hv' := hv
              rw [hA (by omega)] at hv'
              have hfit : L.base + i0 * i.size + n * i.size + news.length ≤ cur.size := by
                rw [hR.len, hcsz]
                have := Nat.mul_le_mul_right i.size (show i0 + (n + new.length) ≤ i0 + c from by omega)
                rw [Nat.add_mul, Nat.add_mul] at this
                omega
              have hrun := run_append_room_at (P := P) (ty := o.type) ht hi (b := L.c) (off := L.base + i0 * i.size) (sLen := n) (sCap := c) hsrc (by omega) hcur hfit
              have hset := setRow_heap w L.c cur (cur.toList.take (L.base + i0 * i.size + n * i.size) ++ news ++ cur.toList.drop (L.base + i0 * i.size + n * i.size + news.length)).toArray e' (0, 0) hcur
              have hgetN : ∀ j, (cur.toList.take (L.base + i0 * i.size + n * i.size) ++ news ++ cur.toList.drop (L.base + i0 * i.size + n * i.size + news.length))[j]? =
                  if j < L.base + i0 * i.size + n * i.size then cur[j]? else if j < L.base + i0 * i.size + n * i.size + news.length then news[j - (L.base + i0 * i.size + n * i.size)]? else cur[j]? := by
                intro j
                by_cases k1 : j < L.base + i0 * i.size + n * i.size
                · rw [if_pos k1, List.append_assoc, List.getElem?_append_left (by simp; omega), List.getElem?_take, if_pos k1, Array.getElem?_toList]
                · rw [if_neg k1]
                  have hmin : min (L.base + i0 * i.size + n * i.size) cur.size = L.base + i0 * i.size + n * i.size := by omega
                  by_cases k2 : j < L.base + i0 * i.size + n * i.size + news.length
                  · rw [if_pos k2, List.append_assoc, List.getElem?_append_right (by simp; omega), List.getElem?_append_left (by simp; omega)]
                    simp [hmin]
                  · rw [if_neg k2, List.getElem?_append_right (by simp; omega), List.getElem?_drop]
                    simp only [List.length_append, List.length_take, Array.length_toList, hmin, Array.getElem?_toList]
                    congr 1; omega
              refine sound_mem h (append_exec hop (by rw [hv']; exact hrun)) (Ren.le_refl _) (us := (b, .cells e' i.size false [] (rows.take (i0 + n) ++ new ++ rows.drop (i0 + n + new.length))) :: al.map fun b => (b, EBlk.dead)) ?_ hd ?_
              · simp only [Hv.upds, Hv.upds_kill]
                refine h.mem.write hb (by simp) rfl hρ Wr.setRow ⟨_, hset, ?_, hLw, hw0, fun q hq => ?_, fun i' k' y hy => ?_⟩
                · rw [← hcsz]; simp; omega
                · simp only [List.mem_append] at hq
                  rcases hq with (hq | hq) | hq
                  · exact hrl q (List.mem_of_mem_take hq)
                  · exact hR.width q hq
                  · exact hrl q (List.mem_of_mem_drop hq)
                · obtain ⟨q, hq, hqk⟩ := rowCell_some hy
                  have hmin : min (i0 + n) rows.length = i0 + n := by omega
                  have hmm : L.base + i0 * i.size + n * i.size = L.base + (i0 + n) * i.size := by rw [Nat.add_mul]; omega
                  simp only [List.getElem?_toArray, hgetN]
                  by_cases k1 : i' < i0 + n
                  · rw [List.append_assoc, List.getElem?_append_left (by simp; omega), List.getElem?_take, if_pos k1] at hq
                    have hk' : k' < i.size := by have := hrl q (List.mem_of_getElem? hq); have := (List.getElem?_eq_some_iff.1 hqk).1; omega
                    have := Nat.mul_le_mul_right i.size (show i' + 1 ≤ i0 + n from k1)
                    rw [Nat.add_mul, Nat.one_mul] at this
                    rw [if_pos (by omega)]
                    exact hcell i' k' y (by simp [rowCell, hq, hqk])
                  · by_cases k2 : i' < i0 + n + new.length
                    · rw [List.append_assoc, List.getElem?_append_right (by simp; omega), List.getElem?_append_left (by simp; omega)] at hq
                      simp only [List.length_take, hmin] at hq
                      obtain ⟨u, hu, hh⟩ := hR.at_ (i' - (i0 + n)) k' y (by simp [rowCell, hq, hqk])
                      have hul := (List.getElem?_eq_some_iff.1 hu).1
                      have hsub : (i' - (i0 + n)) * i.size + (i0 + n) * i.size = i' * i.size := by rw [← Nat.add_mul]; congr 1; omega
                      refine ⟨u, ?_, hR.one u (List.mem_of_getElem? hu), hh⟩
                      rw [if_neg (by omega), if_pos (by omega), ← hu]; congr 1; omega
                    · rw [List.getElem?_append_right (by simp; omega), List.getElem?_drop] at hq
                      simp only [List.length_append, List.length_take, hmin] at hq
                      rw [show i0 + n + new.length + (i' - (i0 + n + new.length)) = i' from by omega] at hq
                      have := Nat.mul_le_mul_right i.size (show i0 + n + new.length ≤ i' from by omega)
                      rw [Nat.add_mul] at this
                      have hnl := hR.len
                      rw [if_neg (by omega), if_neg (by omega)]
                      exact hcell i' k' y (by simp [rowCell, hq, hqk])
              · simp only [Holds]
                exact ⟨L, c, _, hρ, hLw, rfl, fun _ => rfl, hroom, hcc, hex, hsz, hmx⟩
            · cases he
          · cases he
        · rename_i hroom
          split at he
          · rename_i hbd
            have old0 : n = 0 → (Builtin.firstCells i.size 0 (.slice (some A) 0 c)).run P w.drew = .ok ([] : List Value).toArray w.drew := fun _ => run_firstCells_some w.drew i.size 0 A 0 c [] (by simp) (by simp)
            split at he
            · -- nothing was there
              split at he
              · rename_i hw0
                cases he
                have hcc' := hex rfl
                have := fresh (some A) 0 c [] [] hv rfl .nil (old0 rfl) (by omega) (by simpa using hbd.1) (by simpa using hbd.2) hw0
                simpa using this
              · cases he
            · rename_i hn0
              have hcc' := hex rfl
              split at he
              · rename_i e0 wd'' ro al rows hb
                split at he
                · rename_i hc
                  obtain ⟨rfl, hin⟩ := hc
                  cases he
                  obtain ⟨L', hL', _, hB⟩ := h.mem.live hb (by simp)
                  rw [hρ] at hL'; cases hL'
                  obtain ⟨vs, h1, h2⟩ := hB.rowsAt hin
                  have hol : ((rows.drop i0).take n).length = n := by simp; omega
                  have hc0 : 0 < c := by have : n ≠ 0 := fun e => hn0 e; omega
                  obtain ⟨_, _, _, _, hw0, _⟩ := hB
                  refine fresh (some A) n c _ vs hv hol h1 ?_ (by omega) hbd.1 hbd.2 hw0
                  refine run_firstCells_some w.drew i.size n A n c vs (by rw [h1.len, hol]) (fun j u hj => ?_)
                  rw [hA hc0, Aw.addr_add]
                  simpa using h2 j u hj
                · cases he
              · cases he
            · -- it may be in place, or not
              split at he
              · rename_i e0 wd'' al rows hb
                split at he
                · rename_i hc
                  obtain ⟨rfl, rfl, hin⟩ := hc
                  cases he
                  have hb0 := hb
                  obtain ⟨L', hL', _, hB⟩ := h.mem.live hb (by simp)
                  rw [hρ] at hL'; cases hL'
                  have hB0 := hB
                  obtain ⟨vs, h1, h2⟩ := hB.rowsAt (i := i0) (n := n) (by omega)
                  have htk : (rows.drop i0).take n = rows.drop i0 := List.take_of_length_le (by simp; omega)
                  rw [htk] at h1
                  have hol : (rows.drop i0).length = n := by simp; omega
                  obtain ⟨cur, hcur, hcsz, _, hw0, hrl, hcell⟩ := hB
                  have hfirst : (Builtin.firstCells i.size n (.slice (some A) n c)).run P w.drew = .ok vs.toArray w.drew := by
                    refine run_firstCells_some w.drew i.size n A n c vs (by rw [h1.len, hol]) (fun j u hj => ?_)
                    have hc0 : 0 < c := by
                      have := (List.getElem?_eq_some_iff.1 hj).1
                      rw [h1.len, hol] at this
                      have : n ≠ 0 := by rintro rfl; simp at this
                      omega
                    rw [hA hc0, Aw.addr_add]
                    simpa using h2 j u hj
                  by_cases hin2 : n + new.length ≤ c
                  · -- in place
                    have hv' := hv
                    rw [hA (by omega)] at hv'
                    have hfit : L.base + i0 * i.size + n * i.size + news.length ≤ cur.size := by
                      rw [hR.len, hcsz]
                      have := Nat.mul_le_mul_right i.size (show i0 + (n + new.length) ≤ i0 + c from by omega)
                      rw [Nat.add_mul, Nat.add_mul] at this
                      omega
                    have hrun := run_append_room_at (P := P) (ty := o.type) ht hi (b := L.c) (off := L.base + i0 * i.size) (sLen := n) (sCap := c) hsrc hin2 hcur hfit
                    have hset := setRow_heap w L.c cur (cur.toList.take (L.base + i0 * i.size + n * i.size) ++ news ++ cur.toList.drop (L.base + i0 * i.size + n * i.size + news.length)).toArray e0 (0, 0) hcur
                    have hend : L.base + i0 * i.size + n * i.size = L.base + rows.length * i.size := by rw [← hin, Nat.add_mul]; omega
                    let L2 : Loc := ⟨L.c, L.base + i0 * i.size, i.size, L.sz⟩
                    have hle := Ren.le_set (b := d) (L := L2) hr0
                    refine sound_mem h (append_exec hop (by rw [hv']; exact hrun)) hle (us := [(d, .cells e0 i.size false (b :: al) (rows.drop i0 ++ new)), (b, .cells e0 i.size true al rows)]) ?_ hd ?_
                    · simp only [Hv.upds]
                      refine h.mem.share (L' := L2) hb hfr hρ Wr.setRow rfl (fun cur1 hcur1 => ?_) ?_ ?_
                      · rw [hcur] at hcur1; cases hcur1
                        refine ⟨_, hset, by simp; omega, fun j hj => ?_⟩
                        rw [List.getElem?_toArray, List.append_assoc, List.getElem?_append_left (by simp; omega), List.getElem?_take, if_pos (by omega), Array.getElem?_toList]
                      · simp only [L2, List.length_append, hol]
                        rw [← hend, Nat.add_mul]; omega
                      · have hRR := (h1.append hR).mono hle
                        refine ⟨_, hset, by simp only [L2]; rw [← hcsz]; simp; omega, rfl, hw0, hRR.width, fun m k y hy => ?_⟩
                        obtain ⟨u, hu, hh⟩ := hRR.at_ m k y hy
                        refine ⟨u, ?_, hRR.one u (List.mem_of_getElem? hu), hh⟩
                        have hul := (List.getElem?_eq_some_iff.1 hu).1
                        rw [List.getElem?_toArray]
                        by_cases k1 : m * i.size + k < vs.length
                        · rw [List.getElem?_append_left k1] at hu
                          have hcc2 := h2 _ u hu
                          simp only [World.cell?, hcur, Option.isSome_none, Bool.false_eq_true, if_false] at hcc2
                          have hvl : vs.length = n * i.size := by rw [h1.len, hol]
                          rw [List.append_assoc, List.getElem?_append_left (by simp only [L2]; simp; omega), List.getElem?_take, if_pos (by simp only [L2]; omega), Array.getElem?_toList]
                          rw [← hcc2]; congr 1; simp only [L2]; omega
                        · rw [List.getElem?_append_right (by omega)] at hu
                          have hvl : vs.length = n * i.size := by rw [h1.len, hol]
                          have hmin : min (L.base + i0 * i.size + n * i.size) cur.size = L.base + i0 * i.size + n * i.size := by omega
                          have hul2 := (List.getElem?_eq_some_iff.1 hu).1
                          rw [List.append_assoc, List.getElem?_append_right (by simp only [L2]; simp; omega), List.getElem?_append_left (by simp only [L2]; simp; omega)]
                          rw [← hu]; congr 1; simp only [L2, List.length_take, Array.length_toList, hmin]; omega
                    · simp only [Holds]
                      refine ⟨L2, c, _, Ren.set_self, rfl, rfl, fun _ => by simp [L2], Nat.le_refl _, hin2, by simp, ?_, hmx⟩
                      simp only [L2]; rw [Nat.add_mul] at hsz; rw [Nat.zero_add]; omega
                  · -- a new row
                    obtain ⟨w', cap', hr, hext, hc1, hc2, hBn⟩ := grow (some A) n c _ vs hv hol h1 hfirst (by omega) hbd.1 hbd.2 hw0
                    have hrd := h.mem.rdonly hb
                    simp only [EBlk.rd] at hrd
                    have hbd2 : b ≠ d := by rintro rfl; rw [hfr] at hb; cases hb
                    have hfr2 : Hv.set V.hp b (.cells e0 i.size true al rows) d = none := by simp only [Hv.set]; rw [if_neg (fun e => hbd2 e.symm)]; exact hfr
                    refine sound_mem (ρ' := Ren.set ρ d ⟨w.heap.size, 0, i.size, cap' * i.size⟩) h hr (Ren.le_set hr0) (us := [(d, .cells e0 i.size false (b :: al) (rows.drop i0 ++ new)), (b, .cells e0 i.size true al rows)]) ?_ hd ?_
                    · simp only [Hv.upds]
                      exact hrd.new hfr2 hext rfl (hBn false (b :: al))
                    · simp only [Holds]
                      exact ⟨_, cap', _, Ren.set_self, rfl, rfl, fun _ => by simp, Nat.le_refl _, hc1, by simp, by simp, hc2⟩
                · cases he
              · cases he
          · cases he
    · cases he
  · cases he
end Go.Ev
