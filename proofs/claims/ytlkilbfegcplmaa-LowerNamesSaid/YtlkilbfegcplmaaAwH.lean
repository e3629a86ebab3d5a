/- Reading memory; operations that only reckon. -/
import Derived.Test.YtlkilbfegcplmaaAwG
set_option linter.unusedSimpArgs false
set_option linter.unusedVariables false
namespace Go.Aw
variable {P : Program} {C : Ctx} {V : View} {a : Act} {w : World} {fz : Fz} {ρ : Ren} {o : Oper} {Q : Exit → Act → World → Prop}

def CellsAt (w : World) (c o : Nat) (vs : List Value) : Prop := ∀ j v, vs[j]? = some v → w.cell? ⟨c, o + j, none⟩ = some v

theorem HoldsC.list {fz : Fz} : ∀ (l : List AV) (b o : Nat), HoldsC fz l b o → ∃ vs, HoldsL fz l noRen vs ∧ (∀ (j : Nat) (v : Value), vs[j]? = some v → fz.cell b (o + j) = some v) ∧ ∀ v ∈ vs, v.oneCell' = true
  | [], _, _, _ => ⟨[], by simp [HoldsL], by simp, by simp⟩
  | x :: xs, b, o, h => by
    simp only [HoldsC] at h
    obtain ⟨⟨u, hu, h1, hh⟩, h2⟩ := h
    obtain ⟨vs, hv1, hv2, hv3⟩ := HoldsC.list xs b (o + 1) h2
    refine ⟨u :: vs, by simp only [HoldsL]; exact ⟨u, vs, rfl, hh, hv1⟩, fun j v hj => ?_, fun v hv => ?_⟩
    · cases j with
      | zero => simp at hj; subst hj; exact hu
      | succ j => simp at hj; rw [show o + (j + 1) = o + 1 + j from by omega]; exact hv2 j v hj
    · cases List.mem_cons.1 hv with
      | inl e => subst e; exact h1
      | inr e => exact hv3 v e

theorem isAgg_run {t : TypeId} {ag : Bool} (h : isAggT P t = some ag) (w : World) : (isAgg t).run P w = .ok ag w := by
  simp only [isAggT] at h
  cases hu : P.underlying t with
  | none => rw [hu] at h; simp at h
  | some d =>
    rw [hu] at h
    cases d <;> simp at h <;> subst h <;> simp [isAgg, run_underlying hu]
theorem szOf_run {t : TypeId} {n : Nat} (h : szOf P t = some n) (w : World) : (sizeOf t).run P w = .ok n w := by
  simp only [szOf] at h
  cases hi : P.info? t with
  | none => simp [hi] at h
  | some i => simp [hi] at h; subst h; simp [sizeOf, typeInfo, hi]
theorem addr_add (c o j : Nat) : (⟨c, o, none⟩ : Addr).add j = ⟨c, o + j, none⟩ := by
  unfold Addr.add; split <;> simp_all

theorem pickA_own {n off : Nat} {ag : Bool} {l : List AV} {y : AV} (h : pickA n ag off l = some y) : isOwn y = false := by
  simp only [pickA] at h
  split at h
  · split at h
    · cases h; rfl
    · cases h
  · cases hx : l[off]? with
    | none => rw [hx] at h; simp at h
    | some x => rw [hx] at h; simp at h; subst h; exact isOwn_dem x

theorem run_loadVar_at {t : TypeId} {ag : Bool} {n : Nat} (hag : isAggT P t = some ag) (hn : szOf P t = some n) {c o off : Nat} {vs : List Value} (hc : CellsAt w c o vs) {l : List AV} {ρ' : Ren} (hl : HoldsL fz l ρ' vs)
    {y : AV} (hy : pickA n ag off l = some y) : ∃ v, (loadVar t ⟨c, o + off, none⟩).run P w = .ok v w ∧ Holds fz y ρ' v := by
  simp only [pickA] at hy
  cases ag with
  | true =>
    simp only [if_true] at hy
    split at hy
    · rename_i hlt
      cases hy
      have hlen := hl.len
      have hsl := (hl.drop off).take n
      have hn' : ((vs.drop off).take n).length = n := by simp; omega
      have hrun := run_loadCells_list (P := P) w ⟨c, o + off, none⟩ ((vs.drop off).take n) (fun j v hj => by
        rw [addr_add]
        have : (vs.drop off)[j]? = some v := by
          rw [List.getElem?_take] at hj
          split at hj
          · exact hj
          · cases hj
        rw [List.getElem?_drop] at this
        have := hc (off + j) v this
        rwa [← Nat.add_assoc] at this)
      rw [hn'] at hrun
      refine ⟨.agg ((vs.drop off).take n).toArray, ?_, ?_⟩
      · simp [loadVar, isAgg_run hag, szOf_run hn, hrun]
      · simp only [Holds]; exact ⟨_, rfl, by simpa using hsl.dem⟩
    · cases hy
  | false =>
    simp only [Bool.false_eq_true, if_false] at hy
    cases hx : l[off]? with
    | none => rw [hx] at hy; simp at hy
    | some x =>
      rw [hx] at hy; simp at hy; subst hy
      obtain ⟨v, hv, hh⟩ := hl.get _ _ _ off x hx
      refine ⟨v, ?_, hh.dem⟩
      simp [loadVar, isAgg_run hag, hc off v hv]

theorem cellsAt_block {c : Nat} {cur : Array Value} {e : TypeId} {fr : Nat × Nat} (h : w.heap[c]? = some (.cells cur e fr)) : CellsAt w c 0 cur.toList := by
  intro j v hj
  simp only [World.cell?, h, Nat.zero_add, Option.isSome_none, Bool.false_eq_true, if_false]
  simpa using hj

theorem sound_load (h : SimE C V a w fz ρ) {t : TypeId} {x : Operand} (hop : o.op = .load t x) {ag : Bool} {n : Nat} (hag : isAggT P t = some ag) (hn : szOf P t = some n) {tk : Bool} {g : Nat → Option Blk}
    (hg : ∀ b k, g b = some k → V.hp b = some k) {ef : Eff} (he : aLoad n ag tk g [V.ev x] = some ef) (hd : ∀ i, o.dst = some i → i < C.N) : Sound P C V a w o ef := by
  have hx := h.ev x
  unfold aLoad at he
  split at he
  · rename_i b off heq
    simp only [List.cons.injEq, and_true] at heq
    rw [heq] at hx
    simp only [Holds] at hx
    obtain ⟨c, hρ, hv⟩ := hx
    split at he
    · rename_i e cs hgb
      have hb := hg _ _ hgb
      obtain ⟨c', hc', _, ⟨cur, hcur, hl, hone⟩, _⟩ := h.hp _ _ hb
      rw [hρ] at hc'; cases hc'
      have hca := cellsAt_block hcur
      cases tk with
      | false =>
        simp only [Bool.false_eq_true, if_false] at he
        split at he
        · rename_i y hy
          cases he
          obtain ⟨v, hr, hh⟩ := run_loadVar_at (w := w) hag hn hca hl hy
          refine sound_value h ?_ hd hh (pickA_own hy)
          rw [Nat.zero_add] at hr
          simp [execOp, hop, Instr.loadAt, Instr.sureAddr, hv, hr]
        · cases he
      | true =>
        simp only [if_true] at he
        split at he
        · rename_i y hy
          split at he
          · cases he
          · rename_i hagf
            have hagf' : ag = false := by simpa using hagf
            subst hagf'
            cases he
            obtain ⟨u, hu, hh⟩ := hl.get _ _ _ off y hy
            have hcell : w.cell? ⟨c, off, none⟩ = some u := by simpa using hca off u hu
            have hr : (execOp a.eval o).run P w = .ok (.value u) w := by
              simp [execOp, hop, Instr.loadAt, Instr.sureAddr, hv, loadVar, isAgg_run hag, hcell]
            intro Q
            refine wp_of_value hr ⟨fz, ρ, ?_⟩
            have hat : V.at (.c b off) = y := by simp [View.at, hb, Blk.at, hy]
            have hconc : conc a w ρ (.c b off) = u := by
              have : cur[off]? = some u := by simpa using hu
              simp [conc, hρ, cellAt, hcur, this]
            have hpl : V.hasPl (.c b off) := ⟨_, hb, by
              simp only [Blk.len]
              exact (List.getElem?_eq_some_iff.1 hy).1⟩
            cases hdst : o.dst with
            | none =>
              have := h.demote hpl
              exact this
            | some d =>
              have := h.take hpl (d := d) (hd d hdst) (by intro e; cases e) (by rw [hat, hconc]; exact hh)
              rw [hconc] at this
              rw [hat] at this
              simp only [View.app, View.demP, View.setBO, View.putO]
              rw [hat]; exact this
        · cases he
    · cases he
  · rename_i wd rows i k heq
    simp only [List.cons.injEq, and_true] at heq
    rw [heq] at hx
    simp only [Holds] at hx
    obtain ⟨b, oo, hv, hR⟩ := hx
    split at he
    · rename_i r hr
      split at he
      · rename_i y hy
        cases he
        obtain ⟨_, hC⟩ := hR.get _ _ _ _ i r hr
        obtain ⟨vs, hv1, hv2, _⟩ := HoldsC.list _ _ _ hC
        have hca : CellsAt w b (oo + i * wd) vs := fun j v hj => h.fcell _ _ _ (hv2 j v hj)
        obtain ⟨v, hrun, hh⟩ := run_loadVar_at (w := w) hag hn hca hv1 hy
        refine sound_value h ?_ hd (hh.mono (Fz.le_refl _) _ _ _ _ (noRen_le _)) (pickA_own hy)
        rw [Nat.add_assoc] at hrun
        simp [execOp, hop, Instr.loadAt, Instr.sureAddr, hv, hrun]
      · cases he
    · cases he
  · cases he

theorem wrap_in {n : Int} (h0 : -9223372036854775808 ≤ n) (h1 : n ≤ 9223372036854775807) : IntKind.i64.wrap n = n := IntWalk.i64_in n (by omega)

theorem sound_un (h : SimE C V a w fz ρ) {op : UnOp} {t : TypeId} {x : Operand} (hop : o.op = .unOp op t x) {ef : Eff} (he : aUn op [V.ev x] = some ef) (hd : ∀ i, o.dst = some i → i < C.N) : Sound P C V a w o ef := by
  have hx := h.ev x
  unfold aUn at he
  split at he
  · rename_i b heq
    simp only [List.cons.injEq, and_true] at heq
    rw [heq] at hx; simp only [Holds] at hx
    cases op <;> simp at he
    subst he
    exact sound_value h (v := .bool !b) (by simp [execOp, hop, Op.unary, hx]) hd (by simp only [Holds]) rfl
  · rename_i k n heq
    simp only [List.cons.injEq, and_true] at heq
    rw [heq] at hx; simp only [Holds] at hx
    cases op <;> simp at he
    subst he
    exact sound_value h (v := .int k (k.wrap (-n))) (by simp [execOp, hop, Op.unary, Op.intArith, hx]) hd (by simp only [Holds]) rfl
  · cases he

theorem sound_conv (h : SimE C V a w fz ρ) {s t : TypeId} {x : Operand} (hop : o.op = .convert s t x) {k k0 : IntKind} (hs : P.underlying s = some (.int k0)) (ht : P.underlying t = some (.int k)) {ef : Eff} (he : aConv k [V.ev x] = some ef)
    (hd : ∀ i, o.dst = some i → i < C.N) : Sound P C V a w o ef := by
  have hx := h.ev x
  unfold aConv at he
  split at he
  · rename_i k' n heq
    simp only [List.cons.injEq, and_true] at heq
    rw [heq] at hx; simp only [Holds] at hx
    cases he
    exact sound_value h (v := .int k (k.wrap n)) (by simp [execOp, hop, convert, run_underlying hs, run_underlying ht, Conv.intToInt, hx]) hd (by simp only [Holds]) rfl
  · cases he

theorem sound_mkf (h : SimE C V a w fz ρ) {fn : Fn} {caps : Array Operand} (hop : o.op = .makeFunc fn #[] caps) (hd : ∀ i, o.dst = some i → i < C.N) : Sound P C V a w o { out := .clo fn (caps.toList.map V.ev) } := by
  refine sound_value h (v := .func fn #[] (caps.map a.eval)) (by simp [execOp, hop, Instr.makeFunc]) hd ?_ rfl
  simp only [Holds]
  exact ⟨_, rfl, by simpa using h.evL caps.toList⟩

theorem sound_fad (h : SimE C V a w fz ρ) {s : TypeId} {x : Operand} {f : Nat} (hop : o.op = .fieldAddr s x f) {fields : Array Field} (hs : P.underlying s = some (.struct fields)) {fd : Field} (hf : fields[f]? = some fd) {n : Nat}
    (hn : szOf P fd.type = some n) (hn0 : n ≠ 0) {ef : Eff} (he : aFad fd.offset [V.ev x] = some ef) (hd : ∀ i, o.dst = some i → i < C.N) : Sound P C V a w o ef := by
  have hx := h.ev x
  have hrun : ∀ c off, a.eval x = .pointer (some ⟨c, off, none⟩) → (execOp a.eval o).run P w = .ok (.value (.pointer (some ⟨c, off + fd.offset, none⟩))) w := by
    intro c off hv
    simp [execOp, hop, Instr.fieldAt, run_underlying hs, hf, Instr.sureAddr, hv, fieldPlace, szOf_run hn, hn0, addr_add]
  unfold aFad at he
  split at he
  · rename_i b off heq
    simp only [List.cons.injEq, and_true] at heq
    rw [heq] at hx; simp only [Holds] at hx
    obtain ⟨c, hρ, hv⟩ := hx
    cases he
    exact sound_value h (hrun _ _ hv) hd (by simp only [Holds]; exact ⟨c, hρ, rfl⟩) rfl
  · rename_i wd rows i k heq
    simp only [List.cons.injEq, and_true] at heq
    rw [heq] at hx; simp only [Holds] at hx
    obtain ⟨b, oo, hv, hR⟩ := hx
    cases he
    refine sound_value h (hrun _ _ hv) hd ?_ rfl
    simp only [Holds]
    exact ⟨b, oo, by simp only [Nat.add_assoc], hR⟩
  · cases he

theorem sound_ext (h : SimE C V a w fz ρ) {x : Operand} {i : Nat} (hop : o.op = .extract x i) {ef : Eff} (he : aExt i [V.ev x] = some ef) (hd : ∀ i, o.dst = some i → i < C.N) : Sound P C V a w o ef := by
  have hx := h.ev x
  unfold aExt at he
  split at he
  · rename_i l heq
    simp only [List.cons.injEq, and_true] at heq
    rw [heq] at hx; simp only [Holds] at hx
    obtain ⟨cs, hv, hl⟩ := hx
    split at he
    · rename_i y hy
      cases he
      obtain ⟨v, hv', hh⟩ := hl.get _ _ _ i y hy
      have hcs : cs[i]? = some v := by simpa using hv'
      exact sound_value h (by simp [execOp, hop, Instr.extract, hv, hcs]) hd hh.dem (isOwn_dem y)
    · cases he
  · cases he
end Go.Aw
