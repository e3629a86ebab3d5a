/- Slices of slices; places in slices; maps. -/
import Derived.Test.YtlkilbfegcplmaaAwI
set_option linter.unusedSimpArgs false
set_option linter.unusedVariables false
namespace Go.Aw
variable {P : Program} {C : Ctx} {V : View} {a : Act} {w : World} {fz : Fz} {ρ : Ren} {o : Oper} {Q : Exit → Act → World → Prop}

theorem moreA_holds {wd : Nat} {x : AV} {rows : List (List AV)} (h : moreA wd x = some rows) {v : Value} (hx : Holds fz x ρ v) :
    ∃ a c, v = .slice a rows.length c ∧ rows.length ≤ c ∧ (rows = [] ∨ ∃ b o, a = some ⟨b, o, none⟩ ∧ HoldsR fz rows wd b o) := by
  unfold moreA at h
  split at h
  · split at h
    · rename_i e; cases h; subst e; simpa only [Holds] using hx
    · cases h
  · split at h
    · rename_i e; cases h; subst e
      simp only [Holds] at hx
      obtain ⟨a, e, hr⟩ := hx
      exact ⟨a, _, e, Nat.le_refl _, hr⟩
    · cases h
  · split at h
    · rename_i e; cases h; subst e; simpa only [Holds] using hx
    · cases h
  · cases h
    simp only [Holds] at hx
    exact ⟨none, 0, hx, Nat.le_refl _, .inl rfl⟩
  · cases h

theorem sliceBound_run {n : Int} {y : Nat} {code : BoundsCode} {k : IntKind} (h0 : 0 ≤ n) (h1 : n ≤ y) (w : World) : (Instr.sliceBound (.int k n) y code).run P w = .ok n.toNat w := by
  simp [Instr.sliceBound, asIntOf, h0, h1]

theorem sub_holds {wd : Nat} {rows : List (List AV)} {ad : Option Addr} (hr : rows = [] ∨ ∃ b o, ad = some ⟨b, o, none⟩ ∧ HoldsR fz rows wd b o) {l h m : Nat} (hl : l ≤ h) (hh : h ≤ rows.length) (hm : h ≤ m) :
    (rows.take h).drop l = [] ∨
      ∃ b o, (if m = l then ad else ad.map (·.add (l * wd))) = some ⟨b, o, none⟩ ∧ HoldsR fz ((rows.take h).drop l) wd b o := by
  rcases hr with rfl | ⟨b, o, rfl, hR⟩
  · exact .inl (by simp)
  · refine .inr ?_
    split
    · rename_i e
      refine ⟨b, o, rfl, ?_⟩
      have : (rows.take h).drop l = [] := by rw [List.drop_eq_nil_iff, List.length_take]; omega
      rw [this]; simp [HoldsR]
    · exact ⟨b, o + l * wd, by simp [addr_add], (hR.take _ h _ _ _).drop _ l _ _ _⟩

/-- where the bounds come out so -/
theorem sound_sub_at (h : SimE C V a w fz ρ) {t e : TypeId} {x : Operand} {lo hi mx : Option Operand} (hop : o.op = .slice t x lo hi mx) (ht : P.underlying t = some (.slice e)) {wd : Nat} (hn : szOf P e = some wd)
    {rows : List (List AV)} (hm : moreA wd (V.ev x) = some rows) {l h' : Nat} {full : Bool}
    (hbs : ∀ cap, rows.length ≤ cap → ∃ m, (Instr.sliceBounds true rows.length cap (lo.map a.eval) (hi.map a.eval) (mx.map a.eval)).run P w = .ok (l, h', m) w ∧ h' ≤ m ∧ (full = true → m = h')) (hl : l ≤ h') (hh : h' ≤ rows.length)
    {ob : Prop} (hd : ∀ i, o.dst = some i → i < C.N) : Sound P C V a w o { out := if full then .fx wd ((rows.take h').drop l) else .rd wd ((rows.take h').drop l), ob := ob } := by
  obtain ⟨ad, c, hv, hc, hr⟩ := moreA_holds hm (h.ev x)
  obtain ⟨m, hrun, hm1, hm2⟩ := hbs c hc
  have hsub := sub_holds (l := l) (h := h') (m := m) hr hl hh hm1
  have hlen : ((rows.take h').drop l).length = h' - l := by simp; omega
  refine sound_value h (v := .slice (if m = l then ad else ad.map (·.add (l * wd))) (h' - l) (m - l)) ?_ hd ?_ (by cases full <;> rfl)
  · simp [execOp, hop, Instr.sliceAt, Instr.slice, run_underlying ht, hv, hrun, szOf_run hn]
  · cases full with
    | true =>
      simp only [if_true, Holds, hlen]
      rw [hm2 rfl] at hsub ⊢
      exact ⟨_, rfl, hsub⟩
    | false =>
      simp only [Bool.false_eq_true, if_false, Holds, hlen]
      exact ⟨_, _, rfl, by omega, hsub⟩

theorem ev_int (h : SimE C V a w fz ρ) {x : Operand} {k : IntKind} {n : Int} (e : V.ev x = .val (.int k n)) : a.eval x = .int k n := by
  have := h.ev x; rw [e] at this; simpa only [Holds] using this

theorem bnd_run (h : SimE C V a w fz ρ) {q : Option Operand} {r : List Operand} {n : Option Int} {vs : List AV} (hb : bnd q.isSome ((q.toList ++ r).map V.ev) = some (n, vs)) :
    q.map a.eval = n.map (fun n => Value.int .i64 n) ∧ vs = r.map V.ev := by
  cases q with
  | none => simp [bnd] at hb; obtain ⟨rfl, rfl⟩ := hb; simp
  | some y =>
    simp only [Option.isSome_some, Option.toList_some, List.cons_append, List.nil_append, List.map_cons, bnd] at hb
    split at hb
    · rename_i m r' heq
      simp only [List.cons.injEq] at heq
      obtain ⟨h1, h2⟩ := heq
      cases hb
      simp [ev_int h h1, h2]
    · cases hb

theorem dropO_takeO {α : Type} {l h : Option Int} {rows : List α} (hh : h.getD rows.length ≤ rows.length) (h0 : 0 ≤ h.getD rows.length) : dropO l (takeO h rows) = (rows.take (h.getD rows.length).toNat).drop (l.getD 0).toNat := by
  cases l <;> cases h <;> simp [dropO, takeO]

theorem sound_sub (h : SimE C V a w fz ρ) {t e : TypeId} {x : Operand} {lo hi mx : Option Operand} (hop : o.op = .slice t x lo hi mx) (ht : P.underlying t = some (.slice e)) {wd : Nat} (hn : szOf P e = some wd)
    {ef : Eff} (he : aSub wd lo.isSome hi.isSome mx.isSome ((x :: (lo.toList ++ (hi.toList ++ mx.toList))).map V.ev) = some ef) (hob : ef.ob) (hd : ∀ i, o.dst = some i → i < C.N) : Sound P C V a w o ef := by
  simp only [List.map_cons, aSub] at he
  split at he
  · rename_i rows l vs hm hl
    obtain ⟨el, rfl⟩ := bnd_run h hl
    split at he
    · rename_i hh vs hhb
      obtain ⟨eh, rfl⟩ := bnd_run h hhb
      have key : ∀ (m : Option Int) (vs : List AV) , bnd mx.isSome (mx.toList.map V.ev) = some (m, vs) → 0 ≤ l.getD 0 → l.getD 0 ≤ hh.getD rows.length → hh.getD rows.length ≤ rows.length → (∀ m', m = some m' → hh = some m') → ∀ ob : Prop,
          Sound P C V a w o { out := if m.isSome then .fx wd ((rows.take (hh.getD rows.length).toNat).drop (l.getD 0).toNat) else .rd wd ((rows.take (hh.getD rows.length).toNat).drop (l.getD 0).toNat), ob := ob } := by
        intro m vs hmb h0 h1 h2 h3 ob
        obtain ⟨em, _⟩ := bnd_run (r := []) h (by simpa using hmb)
        refine sound_sub_at h hop ht hn hm (fun cap hcap => ?_) (by omega) (by omega) hd
        rw [el, eh, em]
        cases m with
        | none =>
          refine ⟨cap, ?_, by omega, by simp⟩
          cases l with
          | none =>
            cases hh with
            | none => simp [Instr.sliceBounds]
            | some hh =>
              simp only [Option.getD_some, Option.getD_none] at h0 h1 h2 ⊢
              simp [Instr.sliceBounds, sliceBound_run (P := P) (n := hh) (y := cap) (code := .sliceAcap) (k := .i64) (by omega) (by omega) w]
          | some l =>
            cases hh with
            | none =>
              simp only [Option.getD_some, Option.getD_none] at h0 h1 h2 ⊢
              simp [Instr.sliceBounds, sliceBound_run (P := P) (n := l) (y := rows.length) (code := .sliceB) (k := .i64) (by omega) (by omega) w]
            | some hh =>
              simp only [Option.getD_some] at h0 h1 h2 ⊢
              simp [Instr.sliceBounds, sliceBound_run (P := P) (n := hh) (y := cap) (code := .sliceAcap) (k := .i64) (by omega) (by omega) w,
                sliceBound_run (P := P) (n := l) (y := hh.toNat) (code := .sliceB) (k := .i64) (by omega) (by omega) w]
        | some m =>
          have := h3 m rfl
          subst this
          simp only [Option.getD_some] at h0 h1 h2 ⊢
          refine ⟨m.toNat, ?_, by omega, by simp⟩
          cases l with
          | none =>
            simp only [Option.getD_none] at h0 h1 ⊢
            simp [Instr.sliceBounds, sliceBound_run (P := P) (n := m) (y := cap) (code := .slice3Acap) (k := .i64) (by omega) (by omega) w, sliceBound_run (P := P) (n := m) (y := m.toNat) (code := .slice3B) (k := .i64) (by omega) (by omega) w]
          | some l =>
            simp only [Option.getD_some] at h0 h1 ⊢
            simp [Instr.sliceBounds, sliceBound_run (P := P) (n := m) (y := cap) (code := .slice3Acap) (k := .i64) (by omega) (by omega) w, sliceBound_run (P := P) (n := m) (y := m.toNat) (code := .slice3B) (k := .i64) (by omega) (by omega) w,
              sliceBound_run (P := P) (n := l) (y := m.toNat) (code := .slice3C) (k := .i64) (by omega) (by omega) w]
      split at he
      · rename_i vs' hmb
        cases he
        have := key none vs' hmb hob.1 hob.2.1 hob.2.2 (by simp) (0 ≤ l.getD 0 ∧ l.getD 0 ≤ hh.getD rows.length ∧ hh.getD rows.length ≤ rows.length)
        rw [dropO_takeO hob.2.2 (by have := hob.1; have := hob.2.1; omega)]
        simpa using this
      · rename_i m vs' hmb
        cases he
        have := key (some m) vs' hmb hob.1 hob.2.1 hob.2.2.1 (fun m' e => by cases e; exact hob.2.2.2) (0 ≤ l.getD 0 ∧ l.getD 0 ≤ hh.getD rows.length ∧ hh.getD rows.length ≤ rows.length ∧ hh = some m)
        rw [dropO_takeO hob.2.2.1 (by have := hob.1; have := hob.2.1; omega)]
        simpa using this
      · cases he
    · cases he
  · cases he

theorem sound_subs (h : SimE C V a w fz ρ) {t : TypeId} {x : Operand} {lo hi : Option Operand} (hop : o.op = .slice t x lo hi none) (ht : P.underlying t = some .string)
    {ef : Eff} (he : aSubs lo.isSome hi.isSome ((x :: (lo.toList ++ hi.toList)).map V.ev) = some ef) (hob : ef.ob) (hd : ∀ i, o.dst = some i → i < C.N) : Sound P C V a w o ef := by
  have hx := h.ev x
  simp only [List.map_cons] at he
  unfold aSubs at he
  split at he
  · rename_i s vs heq
    simp only [List.cons.injEq] at heq
    obtain ⟨e1, e2⟩ := heq
    subst e2
    rw [e1] at hx; simp only [Holds] at hx
    split at he
    · rename_i l vs hl
      obtain ⟨el, rfl⟩ := bnd_run h hl
      split at he
      · rename_i hh vs hhb
        obtain ⟨eh, _⟩ := bnd_run (r := []) h (by simpa using hhb)
        cases he
        obtain ⟨h0, h1, h2⟩ := hob
        refine sound_value h (v := .string (s.extract (l.getD 0).toNat (hh.getD s.size).toNat)) ?_ hd (by simp only [Holds]) rfl
        have hb : ∃ m, (Instr.sliceBounds false s.size s.size (lo.map a.eval) (hi.map a.eval) none).run P w = .ok ((l.getD 0).toNat, (hh.getD s.size).toNat, m) w := by
          rw [el, eh]
          refine ⟨s.size, ?_⟩
          cases l with
          | none =>
            cases hh with
            | none => simp [Instr.sliceBounds]
            | some hh =>
              simp only [Option.getD_some, Option.getD_none] at h0 h1 h2 ⊢
              simp [Instr.sliceBounds, sliceBound_run (P := P) (n := hh) (y := s.size) (code := .sliceAlen) (k := .i64) (by omega) (by omega) w]
          | some l =>
            cases hh with
            | none =>
              simp only [Option.getD_some, Option.getD_none] at h0 h1 h2 ⊢
              simp [Instr.sliceBounds, sliceBound_run (P := P) (n := l) (y := s.size) (code := .sliceB) (k := .i64) (by omega) (by omega) w]
            | some hh =>
              simp only [Option.getD_some] at h0 h1 h2 ⊢
              simp [Instr.sliceBounds, sliceBound_run (P := P) (n := hh) (y := s.size) (code := .sliceAlen) (k := .i64) (by omega) (by omega) w,
                sliceBound_run (P := P) (n := l) (y := hh.toNat) (code := .sliceB) (k := .i64) (by omega) (by omega) w]
        obtain ⟨m, hb⟩ := hb
        simp [execOp, hop, Instr.sliceAt, Instr.slice, run_underlying ht, hx, hb]
      · cases he
    · cases he
  · cases he

theorem indexAt_run {t e : TypeId} (ht : P.underlying t = some (.slice e)) {wd : Nat} (hn : szOf P e = some wd) {c off len cap : Nat} {k : IntKind} {i : Int} (h0 : 0 ≤ i) (h1 : i < len) (w : World) :
    (Instr.indexAt t (.slice (some ⟨c, off, none⟩) len cap) (.int k i)).run P w = .ok (.pointer (some ⟨c, off + i.toNat * wd, none⟩)) w := by
  simp [Instr.indexAt, asIntOf, run_underlying ht, h0, h1, szOf_run hn, addr_add]

theorem sound_iad (h : SimE C V a w fz ρ) {t e : TypeId} {x i : Operand} (hop : o.op = .indexAddr t x i) (ht : P.underlying t = some (.slice e)) {wd : Nat} (hn : szOf P e = some wd)
    {ef : Eff} (he : aIad wd [V.ev x, V.ev i] = some ef) (hob : ef.ob) (hd : ∀ i, o.dst = some i → i < C.N) : Sound P C V a w o ef := by
  have hx := h.ev x
  unfold aIad at he
  split at he
  · rename_i xv k n heq
    simp only [List.cons.injEq, and_true] at heq
    obtain ⟨e1, e2⟩ := heq
    have hi := ev_int h e2
    rw [e1] at hx
    have frozen : ∀ (rows : List (List AV)) , moreA wd xv = some rows → 0 ≤ n ∧ n < rows.length → ∀ ob : Prop, Sound P C V a w o { out := .elt wd rows n.toNat 0, ob := ob } := by
      intro rows hm hb ob
      obtain ⟨ad, c, hv, hc, hr⟩ := moreA_holds hm hx
      rcases hr with ⟨_, rfl⟩ | ⟨b, o', rfl, hR⟩
      · exact absurd hb.2 (by simp; omega)
      · refine sound_value h (v := .pointer (some ⟨b, o' + n.toNat * wd, none⟩)) ?_ hd ?_ rfl
        · simp only [execOp, hop, hv, hi, Sem.run_bind, indexAt_run ht hn hb.1 hb.2 w, Result.andThen_ok, Sem.run_pure]
        · simp only [Holds]; exact ⟨b, o', by simp, hR⟩
    split at he
    · rename_i b w' off m cap
      split at he
      · rename_i e; subst e
        cases he
        simp only [Holds] at hx
        obtain ⟨c, hρ, hv⟩ := hx
        refine sound_value h (v := .pointer (some ⟨c, off + n.toNat * w', none⟩)) ?_ hd ?_ rfl
        · simp only [execOp, hop, hv, hi, Sem.run_bind, indexAt_run ht hn hob.1 hob.2 w, Result.andThen_ok, Sem.run_pure]
        · simp only [Holds]; exact ⟨c, hρ, rfl⟩
      · cases he
    · split at he
      · rename_i e; subst e; cases he; exact frozen _ (by simp [moreA]) hob _
      · cases he
    · split at he
      · rename_i e; subst e; cases he; exact frozen _ (by simp [moreA]) hob _
      · cases he
    · split at he
      · rename_i e; subst e; cases he; exact frozen _ (by simp [moreA]) hob _
      · cases he
    · cases he
  · cases he

theorem sound_idxs (h : SimE C V a w fz ρ) {t : TypeId} {x i : Operand} (hop : o.op = .index t x i) (ht : P.underlying t = some .string)
    {ef : Eff} (he : aIdxs [V.ev x, V.ev i] = some ef) (hob : ef.ob) (hd : ∀ i, o.dst = some i → i < C.N) : Sound P C V a w o ef := by
  have hx := h.ev x
  unfold aIdxs at he
  split at he
  · rename_i s k n heq
    simp only [List.cons.injEq, and_true] at heq
    obtain ⟨e1, e2⟩ := heq
    have hi := ev_int h e2
    rw [e1] at hx; simp only [Holds] at hx
    cases he
    obtain ⟨h0, h1⟩ := hob
    have hlt : n.toNat < s.size := by omega
    refine sound_value h (v := .int .u8 (s.get! n.toNat).toNat) ?_ hd (by simp only [Holds]) rfl
    have hg : s[n.toNat]? = some (s.get! n.toNat) := by
      obtain ⟨d⟩ := s
      have hlt' : n.toNat < d.size := hlt
      show (if h : n.toNat < (ByteArray.mk d).size then some ((ByteArray.mk d)[n.toNat]'h) else none) = _
      rw [dif_pos hlt]
      congr 1
      show d[n.toNat] = d[n.toNat]!
      rw [getElem!_pos d n.toNat hlt']
    simp [execOp, hop, Instr.index, asIntOf, run_underlying ht, hx, hi, h0, hg]
  · cases he
end Go.Aw
