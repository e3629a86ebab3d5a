/- Closed runs: slices, texts, lengths; structs and slices that are built. -/
import Derived.Test.YtempphkfacccoaaEvD
set_option linter.unusedSimpArgs false
set_option linter.unusedVariables false
namespace Go.Ev
open Go.Aw (AOp szOf zeroC isAggT kindsOf kindT partsOf sliceBound_run)
variable {P : Program} {C : Ctx} {V : View} {a : Act} {w : World} {ρ ρ' : Ren} {o : Oper} {Q : Exit → Act → World → Prop}

theorem ev_int (h : SimE C V a w ρ) {x : Operand} {k : IntKind} {n : Int} (e : V.ev x = .int k n) : a.eval x = .int k n := by
  have := h.ev x; rw [e] at this; simpa only [Holds] using this

/-- lo, hi, max: each there or not -/
def bnd (b : Bool) (vs : List EV) : Option (Option Nat × List EV) :=
  match b with
  | false => some (none, vs)
  | true => match vs with
    | .int .i64 (.ofNat n) :: r => some (some n, r)
    | _ => none
theorem bnd_run (h : SimE C V a w ρ) {q : Option Operand} {r : List Operand} {n : Option Nat} {vs : List EV} (hb : bnd q.isSome ((q.toList ++ r).map V.ev) = some (n, vs)) :
    q.map a.eval = n.map (fun n => Value.int .i64 (n : Int)) ∧ vs = r.map V.ev := by
  cases q with
  | none => simp [bnd] at hb; obtain ⟨rfl, rfl⟩ := hb; simp
  | some y =>
    simp only [Option.isSome_some, Option.toList_some, List.cons_append, List.nil_append, List.map_cons, bnd] at hb
    split at hb
    · rename_i m r' heq
      simp only [List.cons.injEq] at heq
      obtain ⟨h1, h2⟩ := heq
      cases hb
      simp [ev_int h h1, h2]
    · cases hb

/-- a slice of a slice: s of length n, of capacity cap or more -/
def eSub (wd : Nat) (lo hi mx : Bool) : List EV → Option Eff
  | .sl b wd' i n cap ex :: vs => if wd' = wd then (match bnd lo vs with
    | some (l, vs) => match bnd hi vs with
      | some (h, vs) => match bnd mx vs with
        | some (m, _) => match m with
          | none => if l.getD 0 ≤ h.getD n ∧ h.getD n ≤ cap then some { out := .sl b wd (i + l.getD 0) (h.getD n - l.getD 0) (cap - l.getD 0) ex } else none
          | some m => if l.getD 0 ≤ h.getD n ∧ h.getD n ≤ m ∧ m ≤ cap then some { out := .sl b wd (i + l.getD 0) (h.getD n - l.getD 0) (m - l.getD 0) true } else none
        | none => none
      | none => none
    | none => none) else none
  | .lit (.slice none 0 0) :: vs => match bnd lo vs with
    | some (l, vs) => match bnd hi vs with
      | some (h, vs) => match bnd mx vs with
        | some (m, _) => if l.getD 0 = 0 ∧ h.getD 0 = 0 ∧ m.getD 0 = 0 then some { out := .lit (.slice none 0 0) } else none
        | none => none
      | none => none
    | none => none
  | _ => none

theorem bounds_run {n cap : Nat} {l h m : Option Nat} (h1 : l.getD 0 ≤ h.getD n) (h2 : h.getD n ≤ m.getD cap) (h3 : m.getD cap ≤ cap) (hn : n ≤ cap) (hm : m.isSome = true → h.isSome = true) (w : World) :
    (Instr.sliceBounds true n cap (l.map fun n => Value.int .i64 (n : Int)) (h.map fun n => Value.int .i64 (n : Int)) (m.map fun n => Value.int .i64 (n : Int))).run P w = .ok (l.getD 0, h.getD n, m.getD cap) w := by
  cases m with
  | none =>
    cases l with
    | none =>
      cases h with
      | none => simp [Instr.sliceBounds]
      | some hh =>
        simp only [Option.getD_some, Option.getD_none] at h1 h2 ⊢
        simp [Instr.sliceBounds, sliceBound_run (P := P) (n := (hh : Int)) (y := cap) (code := .sliceAcap) (k := .i64) (by omega) (by omega) w]
    | some l =>
      cases h with
      | none =>
        simp only [Option.getD_some, Option.getD_none] at h1 h2 ⊢
        simp [Instr.sliceBounds, sliceBound_run (P := P) (n := (l : Int)) (y := n) (code := .sliceB) (k := .i64) (by omega) (by omega) w]
      | some hh =>
        simp only [Option.getD_some, Option.getD_none] at h1 h2 ⊢
        simp [Instr.sliceBounds, sliceBound_run (P := P) (n := (hh : Int)) (y := cap) (code := .sliceAcap) (k := .i64) (by omega) (by omega) w,
          sliceBound_run (P := P) (n := (l : Int)) (y := hh) (code := .sliceB) (k := .i64) (by omega) (by omega) w]
  | some m =>
    cases h with
    | none => simp at hm
    | some hh =>
      simp only [Option.getD_some] at h1 h2 h3 ⊢
      cases l with
      | none =>
        simp only [Option.getD_none] at h1 ⊢
        simp [Instr.sliceBounds, sliceBound_run (P := P) (n := (m : Int)) (y := cap) (code := .slice3Acap) (k := .i64) (by omega) (by omega) w, sliceBound_run (P := P) (n := (hh : Int)) (y := m) (code := .slice3B) (k := .i64) (by omega) (by omega) w]
      | some l =>
        simp only [Option.getD_some] at h1 ⊢
        simp [Instr.sliceBounds, sliceBound_run (P := P) (n := (m : Int)) (y := cap) (code := .slice3Acap) (k := .i64) (by omega) (by omega) w, sliceBound_run (P := P) (n := (hh : Int)) (y := m) (code := .slice3B) (k := .i64) (by omega) (by omega) w,
          sliceBound_run (P := P) (n := (l : Int)) (y := hh) (code := .slice3C) (k := .i64) (by omega) (by omega) w]

theorem sound_sub (h : SimE C V a w ρ) {t e : TypeId} {x : Operand} {lo hi mx : Option Operand} (hop : o.op = .slice t x lo hi mx) (ht : P.underlying t = some (.slice e)) {wd : Nat} (hn : szOf P e = some wd) (hmh : mx.isSome = true → hi.isSome = true)
    {ef : Eff} (he : eSub wd lo.isSome hi.isSome mx.isSome ((x :: (lo.toList ++ (hi.toList ++ mx.toList))).map V.ev) = some ef) (hd : ∀ i, o.dst = some i → i < C.N) : Sound P C V a w o ef := by
  have hx := h.ev x
  simp only [List.map_cons] at he
  unfold eSub at he
  split at he
  · rename_i b wd' i n cap ex vs heq
    simp only [List.cons.injEq] at heq
    obtain ⟨e1, e2⟩ := heq
    subst e2
    rw [e1] at hx; simp only [Holds] at hx
    obtain ⟨L, c, A, hρ, hLw, hv, hA, hnc, hcc, hex, hsz, hmx⟩ := hx
    split at he
    · rename_i hww
      subst hww
      split at he
      · rename_i l vs hl
        obtain ⟨el, rfl⟩ := bnd_run h hl
        split at he
        · rename_i hh vs hhb
          obtain ⟨eh, rfl⟩ := bnd_run h hhb
          split at he
          · rename_i m vs' hmb
            obtain ⟨em, _⟩ := bnd_run (r := []) h (by simpa using hmb)
            have hms : m.isSome = true → hh.isSome = true := by
              intro e
              have e2 : mx.isSome = true := by
                cases mx with
                | none => cases m <;> simp at em e
                | some _ => rfl
              have := hmh e2
              cases hi with
              | none => simp at this
              | some _ => cases hh <;> simp at eh ⊢
            have fin : ∀ (ml : Nat), ml ≤ c → m.getD c = ml → ∀ (cap' : Nat) (ex' : Bool), l.getD 0 ≤ hh.getD n → hh.getD n ≤ ml → hh.getD n - l.getD 0 ≤ cap' → cap' ≤ ml - l.getD 0 → (ex' = true → ml - l.getD 0 = cap') →
                Sound P C V a w o { out := .sl b wd' (i + l.getD 0) (hh.getD n - l.getD 0) cap' ex' } := by
              intro ml hml hme cap' ex' g1 g2 g3 g4 g5
              have hb := bounds_run (P := P) (n := n) (cap := c) (l := l) (h := hh) (m := m) g1 (by rw [hme]; exact g2) (by rw [hme]; exact hml) (by omega) hms w
              rw [hme] at hb
              refine sound_value h (v := .slice (some (if ml = l.getD 0 then A else A.add (l.getD 0 * wd'))) (hh.getD n - l.getD 0) (ml - l.getD 0)) ?_ hd ?_
              · rw [← el, ← eh, ← em] at hb
                by_cases hml2 : ml = l.getD 0
                · simp [execOp, hop, Instr.sliceAt, Instr.slice, run_underlying ht, hv, hb, Aw.szOf_run hn, hml2]
                · simp [execOp, hop, Instr.sliceAt, Instr.slice, run_underlying ht, hv, hb, Aw.szOf_run hn, hml2]
              · simp only [Holds]
                have hmul : (i + l.getD 0 + (ml - l.getD 0)) * wd' ≤ (i + c) * wd' := Nat.mul_le_mul_right _ (by omega)
                refine ⟨L, _, _, hρ, hLw, rfl, fun hpos => ?_, g3, g4, g5, by omega, by omega⟩
                rw [if_neg (by omega), hA (by omega), Aw.addr_add, Nat.add_mul, Nat.add_assoc]
            split at he
            · split at he
              · rename_i hc
                cases he
                exact fin c (Nat.le_refl _) rfl _ _ hc.1 (by omega) (by omega) (by omega) (fun e => by rw [hex e])
              · cases he
            · rename_i m0
              split at he
              · rename_i hc
                cases he
                exact fin m0 (by omega) rfl _ _ hc.1 hc.2.1 (by omega) (Nat.le_refl _) (fun _ => rfl)
              · cases he
          · cases he
        · cases he
      · cases he
    · cases he
  · rename_i vs heq
    simp only [List.cons.injEq] at heq
    obtain ⟨e1, e2⟩ := heq
    subst e2
    rw [e1] at hx; simp only [Holds] at hx
    split at he
    · rename_i l vs hl
      obtain ⟨el, rfl⟩ := bnd_run h hl
      split at he
      · rename_i hh vs hhb
        obtain ⟨eh, rfl⟩ := bnd_run h hhb
        split at he
        · rename_i m vs' hmb
          obtain ⟨em, _⟩ := bnd_run (r := []) h (by simpa using hmb)
          split at he
          · rename_i hc
            cases he
            have hms : m.isSome = true → hh.isSome = true := by
              intro e
              have e2 : mx.isSome = true := by
                cases mx with
                | none => cases m <;> simp at em e
                | some _ => rfl
              have := hmh e2
              cases hi with
              | none => simp at this
              | some _ => cases hh <;> simp at eh ⊢
            have hb := bounds_run (P := P) (n := 0) (cap := 0) (l := l) (h := hh) (m := m) (by omega) (by omega) (by omega) (Nat.le_refl _) hms w
            rw [hc.1, hc.2.1, hc.2.2, ← el, ← eh, ← em] at hb
            exact sound_value h (v := .slice none 0 0) (by simp [execOp, hop, Instr.sliceAt, Instr.slice, run_underlying ht, hx, hb, Aw.szOf_run hn]) hd (by simp only [Holds])
          · cases he
        · cases he
      · cases he
    · cases he
  · cases he

def eSubs (lo hi : Bool) : List EV → Option Eff
  | .str s len :: vs => match bnd lo vs with
    | some (l, vs) => match bnd hi vs with
      | some (h, _) => if l.getD 0 ≤ h.getD len ∧ h.getD len ≤ len then some { out := .str (s / 256 ^ l.getD 0 % 256 ^ (h.getD len - l.getD 0)) (h.getD len - l.getD 0) } else none
      | none => none
    | none => none
  | _ => none
theorem ba_extract (s : ByteArray) (i j : Nat) : (s.extract i j).data.toList = (s.data.toList.drop i).take (j - i) := by
  rw [ByteArray.data_extract, Array.toList_extract, List.extract_eq_take_drop]
theorem bytesOf_extract {s len l h : Nat} (hl : l ≤ h) (hh : h ≤ len) : (bytesOf s len).extract l h = bytesOf (s / 256 ^ l % 256 ^ (h - l)) (h - l) := by
  apply ba_ext
  rw [ba_extract]
  simp only [bytesOf]
  rw [bytesL_drop, bytesL_take _ _ _ (by omega)]
theorem sound_subs (h : SimE C V a w ρ) {t : TypeId} {x : Operand} {lo hi : Option Operand} (hop : o.op = .slice t x lo hi none) (ht : P.underlying t = some .string)
    {ef : Eff} (he : eSubs lo.isSome hi.isSome ((x :: (lo.toList ++ hi.toList)).map V.ev) = some ef) (hd : ∀ i, o.dst = some i → i < C.N) : Sound P C V a w o ef := by
  have hx := h.ev x
  simp only [List.map_cons] at he
  unfold eSubs at he
  split at he
  · rename_i s len vs heq
    simp only [List.cons.injEq] at heq
    obtain ⟨e1, e2⟩ := heq
    subst e2
    rw [e1] at hx; simp only [Holds] at hx
    obtain ⟨hx, hlt⟩ := hx
    split at he
    · rename_i l vs hl
      obtain ⟨el, rfl⟩ := bnd_run h hl
      split at he
      · rename_i hh vs hhb
        obtain ⟨eh, _⟩ := bnd_run (r := []) h (by simpa using hhb)
        split at he
        · rename_i hc
          cases he
          obtain ⟨h1, h2⟩ := hc
          refine sound_value h (v := .string ((bytesOf s len).extract (l.getD 0) (hh.getD len))) ?_ hd ?_
          · have hb : ∃ m, (Instr.sliceBounds false len len (lo.map a.eval) (hi.map a.eval) none).run P w = .ok ((l.getD 0), (hh.getD len), m) w := by
              rw [el, eh]
              refine ⟨len, ?_⟩
              cases l with
              | none =>
                cases hh with
                | none => simp [Instr.sliceBounds]
                | some hh =>
                  simp only [Option.getD_some, Option.getD_none] at h1 h2 ⊢
                  simp [Instr.sliceBounds, sliceBound_run (P := P) (n := (hh : Int)) (y := len) (code := .sliceAlen) (k := .i64) (by omega) (by omega) w]
              | some l =>
                cases hh with
                | none =>
                  simp only [Option.getD_some, Option.getD_none] at h1 h2 ⊢
                  simp [Instr.sliceBounds, sliceBound_run (P := P) (n := (l : Int)) (y := len) (code := .sliceB) (k := .i64) (by omega) (by omega) w]
                | some hh =>
                  simp only [Option.getD_some] at h1 h2 ⊢
                  simp [Instr.sliceBounds, sliceBound_run (P := P) (n := (hh : Int)) (y := len) (code := .sliceAlen) (k := .i64) (by omega) (by omega) w,
                    sliceBound_run (P := P) (n := (l : Int)) (y := hh) (code := .sliceB) (k := .i64) (by omega) (by omega) w]
            obtain ⟨m, hb⟩ := hb
            simp [execOp, hop, Instr.sliceAt, Instr.slice, run_underlying ht, hx, bytesOf_size, hb]
          · simp only [Holds]
            exact ⟨by rw [bytesOf_extract h1 h2], Nat.mod_lt _ (Nat.pow_pos (by omega))⟩
        · cases he
      · cases he
    · cases he
  · cases he

def eIad (wd : Nat) : List EV → Option Eff
  | [.sl b wd' i n _ _, .int _ (.ofNat j)] => if wd' = wd ∧ j < n then some { out := .ptr b (i + j) 0 } else none
  | _ => none
theorem sound_iad (h : SimE C V a w ρ) {t e : TypeId} {x i : Operand} (hop : o.op = .indexAddr t x i) (ht : P.underlying t = some (.slice e)) {wd : Nat} (hn : szOf P e = some wd)
    {ef : Eff} (he : eIad wd [V.ev x, V.ev i] = some ef) (hd : ∀ i, o.dst = some i → i < C.N) : Sound P C V a w o ef := by
  have hx := h.ev x
  unfold eIad at he
  split at he
  · rename_i b wd' i' n cap ex k j heq
    simp only [List.cons.injEq, and_true] at heq
    obtain ⟨e1, e2⟩ := heq
    have hi := ev_int h e2
    rw [e1] at hx; simp only [Holds] at hx
    obtain ⟨L, c, A, hρ, hLw, hv, hA, hnc, hcc, _⟩ := hx
    split at he
    · rename_i hc
      obtain ⟨rfl, hj⟩ := hc
      cases he
      rw [hA (by omega)] at hv
      refine sound_value h (v := .pointer (some ⟨L.c, L.base + i' * wd' + j * wd', none⟩)) ?_ hd ?_
      · have := Aw.indexAt_run (P := P) ht hn (c := L.c) (off := L.base + i' * wd') (len := n) (cap := c) (k := k) (i := Int.ofNat j) (Int.natCast_nonneg j) (by simp only [Int.ofNat_eq_natCast]; omega) w
        simp only [execOp, hop, hv, hi, Sem.run_bind, this, Result.andThen_ok, Sem.run_pure]
        rfl
      · simp only [Holds]
        exact ⟨L, hρ, by rw [hLw, Nat.add_mul, Nat.add_zero, Nat.add_assoc]⟩
    · cases he
  · cases he

def eIdxs : List EV → Option Eff
  | [.str s len, .int _ (.ofNat j)] => if j < len then some { out := .int .u8 (.ofNat (s / 256 ^ j % 256)) } else none
  | _ => none
theorem sound_idxs (h : SimE C V a w ρ) {t : TypeId} {x i : Operand} (hop : o.op = .index t x i) (ht : P.underlying t = some .string)
    {ef : Eff} (he : eIdxs [V.ev x, V.ev i] = some ef) (hd : ∀ i, o.dst = some i → i < C.N) : Sound P C V a w o ef := by
  have hx := h.ev x
  unfold eIdxs at he
  split at he
  · rename_i s len k j heq
    simp only [List.cons.injEq, and_true] at heq
    obtain ⟨e1, e2⟩ := heq
    have hi := ev_int h e2
    rw [e1] at hx; simp only [Holds] at hx
    obtain ⟨hx, _⟩ := hx
    split at he
    · rename_i hj
      cases he
      refine sound_value h (v := .int .u8 (Int.ofNat (s / 256 ^ j % 256))) ?_ hd (by simp only [Holds])
      have hg : (bytesOf s len)[j]? = some (UInt8.ofNat (s / 256 ^ j % 256)) := by
        have h1 := bytesL_getElem? len s j hj
        have h2 : j < (bytesOf s len).size := by rw [bytesOf_size]; exact hj
        show (if h : j < (bytesOf s len).size then some ((bytesOf s len)[j]'h) else none) = _
        rw [dif_pos h2, ← h1]
        have h3 : j < (bytesL len s).length := by rw [bytesL_length]; exact hj
        rw [List.getElem?_eq_getElem h3]
        rfl
      have h0 : (0 : Int) ≤ Int.ofNat j := Int.natCast_nonneg j
      have htn : (Int.ofNat j).toNat = j := rfl
      simp [execOp, hop, Instr.index, asIntOf, run_underlying ht, hx, hi, hg]
    · cases he
  · cases he

/-- kd: 0 a slice, 1 a text, 2 a map -/
def eLen (kd : Nat) (g : Hv) (vs : List EV) : Option Eff :=
  match kd, vs with
  | 0, [.sl _ _ _ n _ _] => some { out := .int .i64 (.ofNat n) }
  | 0, [.lit (.slice none 0 0)] => some { out := .int .i64 (.ofNat 0) }
  | 1, [.str _ l] => some { out := .int .i64 (.ofNat l) }
  | 2, [.mp b] => match g b with
    | some (.map ks _) => some { out := .int .i64 (.ofNat ks.length) }
    | _ => none
  | 2, [.lit (.map none)] => some { out := .int .i64 (.ofNat 0) }
  | _, _ => none
theorem sound_len (h : SimE C V a w ρ) {t : TypeId} {x : Operand} (hop : o.op = .call { callee := .builtin .len, args := #[x], argTypes := #[t] }) {kd : Nat}
    (ht : (kd = 0 ∧ ∃ e, P.underlying t = some (.slice e)) ∨ (kd = 1 ∧ P.underlying t = some .string) ∨ (kd = 2 ∧ ∃ k e, P.underlying t = some (.map k e)))
    {ef : Eff} (he : eLen kd V.hp [V.ev x] = some ef) (hd : ∀ i, o.dst = some i → i < C.N) : Sound P C V a w o ef := by
  have hx := h.ev x
  have run : ∀ n : Nat, (Builtin.len_ #[t] o.type #[a.eval x]).run P w = .ok (.int .i64 n) w → Sound P C V a w o { out := .int .i64 (.ofNat n) } := by
    intro n hr
    exact sound_value h (v := .int .i64 n) (by simp [execOp, hop, resolve, invoke, builtin, hr]) hd (by simp only [Holds]; rfl)
  unfold eLen at he
  split at he
  · rename_i b wd i n cap ex heq
    simp only [List.cons.injEq, and_true] at heq
    rw [heq] at hx; simp only [Holds] at hx
    obtain ⟨L, c, A, _, _, hv, _⟩ := hx
    cases he
    rcases ht with ⟨_, e, ht⟩ | ⟨h0, _⟩ | ⟨h0, _⟩
    · exact run n (by simp [Builtin.len_, run_underlying ht, hv, goInt])
    · cases h0
    · cases h0
  · rename_i heq
    simp only [List.cons.injEq, and_true] at heq
    rw [heq] at hx; simp only [Holds] at hx
    cases he
    rcases ht with ⟨_, e, ht⟩ | ⟨h0, _⟩ | ⟨h0, _⟩
    · exact run 0 (by simp [Builtin.len_, run_underlying ht, hx, goInt])
    · cases h0
    · cases h0
  · rename_i s l heq
    simp only [List.cons.injEq, and_true] at heq
    rw [heq] at hx; simp only [Holds] at hx
    cases he
    rcases ht with ⟨h0, _⟩ | ⟨_, ht⟩ | ⟨h0, _⟩
    · cases h0
    · exact run l (by simp [Builtin.len_, run_underlying ht, hx.1, goInt, bytesOf_size])
    · cases h0
  · rename_i b heq
    simp only [List.cons.injEq, and_true] at heq
    rw [heq] at hx; simp only [Holds] at hx
    obtain ⟨L, hρ, hv⟩ := hx
    split at he
    · rename_i ks vs hb
      cases he
      obtain ⟨L', hL', _, ⟨es, clock, hm, hks, _⟩⟩ := h.mem.live hb (by simp)
      rw [hρ] at hL'; cases hL'
      rcases ht with ⟨h0, _⟩ | ⟨h0, _⟩ | ⟨_, k, e, ht⟩
      · cases h0
      · cases h0
      · have : es.size = ks.length := by have := hks.len; simpa using this
        exact run ks.length (by simp [Builtin.len_, run_underlying ht, hv, goInt, getObj, Sem.run, hm, this])
    · cases he
  · rename_i heq
    simp only [List.cons.injEq, and_true] at heq
    rw [heq] at hx; simp only [Holds] at hx
    cases he
    rcases ht with ⟨h0, _⟩ | ⟨h0, _⟩ | ⟨_, k, e, ht⟩
    · cases h0
    · cases h0
    · exact run 0 (by simp [Builtin.len_, run_underlying ht, hx, goInt])
  · cases he
end Go.Ev
