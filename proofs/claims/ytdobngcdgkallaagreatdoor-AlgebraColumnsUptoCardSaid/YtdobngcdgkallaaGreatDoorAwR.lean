/- Regions: operations in whatever order their edges allow. -/
import Derived.Test.YtdobngcdgkallaaGreatDoorAwQ
set_option linter.unusedSimpArgs false
set_option linter.unusedVariables false
set_option linter.unusedSectionVars false
namespace Go.Aw
variable [GL]
variable {P : Program} {C : Ctx} {V : View} {a : Act} {w : World} {fz : Fz} {ρ : Ren} {o : Oper} {Q : Exit → Act → World → Prop}

structure ROp where
 dst : Option Nat
 op : AOp
 after : List Nat
 guard : Option (Nat × Bool)
 deriving Inhabited

def edgesOf (o : Oper) : List Nat := o.after.toList.filterMap fun e => if Region.binds .any e then some e.on else none
def trOper (P : Program) (tk : Bool) (ops : Array Oper) (o : Oper) : Option ROp :=
 match trN P tk o.op with
 | some ao => match o.guard with
  | none => some { dst := o.dst, op := ao, after := edgesOf o, guard := none }
  | some (g, want) => match (ops[g]?).bind (·.dst) with
   | some d => some { dst := o.dst, op := ao, after := edgesOf o, guard := some (d, want) }
   | none => none
 | none => none
def trOps (P : Program) (ops : Array Oper) : List Bool → List Oper → Option (List ROp)
 | _, [] => some []
 | tks, o :: os => match trOper P (tks.headD false) ops o, trOps P ops tks.tail os with
  | some r, some l => some (r :: l)
  | _, _ => none
def Skipped : Eff := { out := .val (.tuple #[]) }
def effG (P : Program) (c : Res) (r : ROp) (V : View) : Option Eff :=
 match r.guard with
 | none => effOf P c r.dst r.op V
 | some (d, want) => match V.tm d with
  | .val (.bool b) => if b = want then effOf P c r.dst r.op V else some Skipped
  | .val (.tuple _) => some Skipped
  | _ => none

theorem trOps_get : ∀ (os : List Oper) (ops : Array Oper) (tks : List Bool) (L : List ROp), trOps P ops tks os = some L → L.length = os.length ∧ ∀ (i : Nat) (o : Oper), os[i]? = some o → ∃ tk r, L[i]? = some r ∧ trOper P tk ops o = some r
 | [], ops, tks, L, h => by simp [trOps] at h; subst h; simp
 | o :: os, ops, tks, L, h => by
  simp only [trOps] at h
  split at h
  ·rename_i r l hr hl
   cases h
   obtain ⟨h1, h2⟩ := trOps_get os ops tks.tail l hl
   refine ⟨by simp [h1], fun i o' hi => ?_⟩
   cases i with
   | zero => simp at hi; subst hi; exact ⟨_, r, by simp, hr⟩
   | succ i => simp at hi; obtain ⟨tk, r', e1, e2⟩ := h2 i o' hi; exact ⟨tk, r', by simpa using e1, e2⟩
  ·cases h

/-- one operation of a region -/
theorem step_op {ops : Array Oper} {i : Nat} (ho : ops[i]? = some o) {tk : Bool} {r : ROp} (htr : trOper P tk ops o = some r) (h : Sim C V a w) {c : Res} {e : Eff} (he : effG P c r V = some e) (hob : e.ob) (hN : okDst C.N r.dst r.op = true)
  {K : Act → World → Prop} (hK : ∀ a' w', Sim C (V.app r.dst e) a' w' → K a' w') : wpOp P ops Q i K a w := by
 obtain ⟨fz, ρ, h⟩ := h
 simp only [trOper] at htr
 split at htr
 ·rename_i ao hao
  unfold wpOp
  rw [ho]
  simp only
  have hd : ∀ j, o.dst = some j → okDst C.N o.dst ao = true → j < C.N := by
   intro j hj hh
   simp only [okDst, hj, Bool.and_eq_true, decide_eq_true_eq] at hh
   exact hh.1
  cases hgd : o.guard with
  | none =>
   rw [hgd] at htr
   cases htr
   rw [if_pos (by simp [Region.wanted, hgd])]
   simp only [effG] at he
   exact .inl (Oper.wp_mono hK (opN_sound h hao he hob hN Q))
  | some gw =>
   obtain ⟨g, want⟩ := gw
   rw [hgd] at htr
   simp only at htr
   split at htr
   ·rename_i d hgdst
    cases htr
    simp only [effG] at he
    split at he
    ·rename_i b hvb
     have ht := h.tm d
     rw [hvb] at ht
     simp only [Holds] at ht
     have hy : yielded ops a.tmps g = some b := by
      have : a.tmps[d]? = some (.bool b) := by
       rw [Array.getD_eq_getD_getElem?] at ht
       cases hx : a.tmps[d]? with
       | none => rw [hx] at ht; simp [undef] at ht
       | some v => rw [hx] at ht; simp at ht; rw [ht]
      simp [yielded, hgdst, this]
     split at he
     ·rename_i hbw
      subst hbw
      rw [if_pos (by simp [Region.wanted, hgd, hy])]
      exact .inl (Oper.wp_mono hK (opN_sound h hao he hob hN Q))
     ·rename_i hbw
      cases he
      rw [if_neg (by simp [Region.wanted, hgd, hy, hbw])]
      exact hK _ _ ⟨fz, ρ, h.putO (x := .val undef) (v := undef) (fun j hj => hd j hj hN) (by simp only [Holds]) rfl⟩
    ·rename_i vs hvb
     have ht := h.tm d
     rw [hvb] at ht
     simp only [Holds] at ht
     have hy : yielded ops a.tmps g = none := by
      have : ∀ v, a.tmps[d]? = some v → v = .tuple vs := by
       intro v hv
       rw [Array.getD_eq_getD_getElem?, hv] at ht
       simpa using ht
      simp only [yielded, hgdst, Option.bind_some]
      cases hx : a.tmps[d]? with
      | none => rfl
      | some v => rw [this v hx]
     cases he
     rw [if_neg (by simp [Region.wanted, hgd, hy])]
     exact hK _ _ ⟨fz, ρ, h.putO (x := .val undef) (v := undef) (fun j hj => hd j hj hN) (by simp only [Holds]) rfl⟩
    ·cases he
   ·cases htr
 ·cases htr

/-- the state behind those that are selected -/
def Vsel : List ROp → List Eff → (Nat → Bool) → Nat → View → View
 | r :: L, e :: E, sel, k, V => Vsel L E sel (k + 1) (if sel k then V.app r.dst e else V)
 | _, _, _, _, V => V

def appT (d : Option Nat) (e : Eff) (t : Nat) (cur : AV) : AV := if d = some t then e.out else if e.dem = some (.t t) then dem cur else cur
def appB0 (e : Eff) (b : Nat) (cur : Option Blk) : Option Blk :=
 match e.blk with
 | some (b', k) => if b = b' then some k else (match e.dem with
  | some (.c b' j) => if b = b' then cur.map (fun k => k.set j (dem (k.at j))) else cur
  | _ => cur)
 | none => match e.dem with
  | some (.c b' j) => if b = b' then cur.map (fun k => k.set j (dem (k.at j))) else cur
  | _ => cur
def appB (e : Eff) (b : Nat) (cur : Option Blk) : Option Blk := match lk e.bs b with | some k => some k | none => appB0 e b cur
theorem app_tm (V : View) (d : Option Nat) (e : Eff) (t : Nat) : (V.app d e).tm t = appT d e t (V.tm t) := by
 have h1 : ∀ V : View, ((V.setBO e.blk).setBs e.bs).tm = V.tm := by intro V; rw [setBs_tm]; cases e.blk <;> rfl
 have h2 : (V.demP e.dem).tm t = if e.dem = some (.t t) then dem (V.tm t) else V.tm t := by
  cases e.dem with
  | none => simp [View.demP]
  | some p =>
   cases p with
   | t i =>
    simp only [View.demP, View.setAt, View.put, View.at, Option.some.injEq, Pl.t.injEq]
    by_cases e' : t = i
    ·subst e'; simp
    ·have : ¬ i = t := fun h => e' h.symm
     simp [e', this]
   | c b j => rw [View.demP, View.tm_setAt_c, if_neg (by simp)]
 unfold View.app
 cases d with
 | none => simp only [View.putO, h1, h2, appT]; simp
 | some d =>
  simp only [View.putO, View.put, h1, appT, Option.some.injEq]
  by_cases e' : t = d
  ·subst e'; simp
  ·have : ¬ d = t := fun h => e' h.symm
   simp only [e', this, if_false]; exact h2
theorem app_hp (V : View) (d : Option Nat) (e : Eff) (b : Nat) : (V.app d e).hp b = appB e b (V.hp b) := by
 have h0 : ∀ (V : View), (V.putO d e.out).hp = V.hp := by intro V; cases d <;> rfl
 have h2 : (V.demP e.dem).hp b = (match e.dem with
  | some (.c b' j) => if b = b' then (V.hp b).map (fun k => k.set j (dem (k.at j))) else V.hp b
  | _ => V.hp b) := by
  cases e.dem with
  | none => rfl
  | some p =>
   cases p with
   | t i => rfl
   | c b' j =>
    simp only [View.demP, View.setAt]
    cases hk : V.hp b' with
    | none =>
     simp only
     by_cases e' : b = b'
     ·subst e'; simp [hk]
     ·simp [e']
    | some k =>
     simp only [View.setB, View.at, hk, Option.map_some, Option.getD_some]
     by_cases e' : b = b'
     ·subst e'; simp [hk]
     ·simp [e']
 unfold View.app
 rw [h0, setBs_hp]
 simp only [appB]
 cases lk e.bs b with
 | some k => rfl
 | none =>
 simp only [appB0]
 cases hb : e.blk with
 | none => simp only [View.setBO]; exact h2
 | some bk =>
  obtain ⟨b', k⟩ := bk
  simp only [View.setBO, View.setB]
  by_cases e' : b = b'
  ·simp [e']
  ·simp only [e', if_false]; exact h2

/-- slots and blocks that are read, and written -/
def rtm (r : ROp) : List Nat := (r.op.opds.filterMap fun | .tmp t => some t | _ => none) ++ (match r.guard with | some (d, _) => [d] | none => [])
def wtm (r : ROp) (e : Eff) : List Nat := r.dst.toList ++ (match e.dem with | some (.t t) => [t] | _ => [])
def wbk (e : Eff) : List Nat := (match e.blk with | some (b, _) => [b] | none => []) ++ ((match e.dem with | some (.c b _) => [b] | _ => []) ++ e.bs.map (·.1))
theorem lk_none' : ∀ {l : List (Nat × Blk)} {b : Nat}, b ∉ l.map (·.1) → lk l b = none
 | [], _, _ => rfl
 | (j, k) :: r, b, h => by
  simp only [List.map_cons, List.mem_cons, not_or] at h
  simp only [lk]; rw [if_neg (fun e => h.1 e.symm)]; exact lk_none' h.2

theorem appT_other {r : ROp} {e : Eff} {t : Nat} (h : t ∉ wtm r e) (cur : AV) : appT r.dst e t cur = cur := by
 simp only [wtm, List.mem_append, not_or] at h
 simp only [appT]
 rw [if_neg (fun hd => h.1 (by simp [hd])), if_neg (fun hd => h.2 (by simp [hd]))]
theorem appB_other {e : Eff} {b : Nat} (h : b ∉ wbk e) (cur : Option Blk) : appB e b cur = cur := by
 simp only [wbk, List.mem_append, not_or] at h
 simp only [appB, lk_none' h.2.2, appB0]
 replace h := (⟨h.1, h.2.1⟩ : _ ∧ _)
 have hdem : (match e.dem with
  | some (.c b' j) => if b = b' then cur.map (fun k => k.set j (dem (k.at j))) else cur
  | _ => cur) = cur := by
  cases hd : e.dem with
  | none => rfl
  | some p =>
   cases p with
   | t i => rfl
   | c b' j =>
    simp only
    rw [if_neg (fun hb => h.2 (by simp [hd, hb]))]
 cases hb : e.blk with
 | none => exact hdem
 | some bk =>
  obtain ⟨b', k⟩ := bk
  simp only
  rw [if_neg (fun hh => h.1 (by simp [hb, hh]))]
  exact hdem

theorem Vsel_tm : ∀ (L : List ROp) (E : List Eff) (sel sel' : Nat → Bool) (k : Nat) (V V' : View) (t : Nat), V.tm t = V'.tm t →
  (∀ (i : Nat) (r : ROp) (e : Eff), L[i]? = some r → E[i]? = some e → t ∈ wtm r e → sel (k + i) = sel' (k + i)) → (Vsel L E sel k V).tm t = (Vsel L E sel' k V').tm t
 | [], E, sel, sel', k, V, V', t, h, _ => by simpa [Vsel] using h
 | r :: L, [], sel, sel', k, V, V', t, h, _ => by simpa [Vsel] using h
 | r :: L, e :: E, sel, sel', k, V, V', t, h, hs => by
  simp only [Vsel]
  refine Vsel_tm L E sel sel' (k + 1) _ _ t ?_ (fun i r' e' hr he ht => ?_)
  ·by_cases ht : t ∈ wtm r e
   ·have := hs 0 r e (by simp) (by simp) ht
    simp only [Nat.add_zero] at this
    rw [this]
    split
    ·rw [app_tm, app_tm, h]
    ·exact h
   ·have e1 : ∀ (c : Bool) (V : View), (if c = true then V.app r.dst e else V).tm t = V.tm t := by
     intro c V
     cases c with
     | true => simp only [if_true, app_tm, appT_other ht]
     | false => rfl
    rw [e1, e1]; exact h
  ·have := hs (i + 1) r' e' (by simpa using hr) (by simpa using he) ht
   rwa [show k + 1 + i = k + (i + 1) from by omega]
theorem Vsel_hp : ∀ (L : List ROp) (E : List Eff) (sel sel' : Nat → Bool) (k : Nat) (V V' : View) (b : Nat), V.hp b = V'.hp b →
  (∀ (i : Nat) (r : ROp) (e : Eff), L[i]? = some r → E[i]? = some e → b ∈ wbk e → sel (k + i) = sel' (k + i)) → (Vsel L E sel k V).hp b = (Vsel L E sel' k V').hp b
 | [], E, sel, sel', k, V, V', b, h, _ => by simpa [Vsel] using h
 | r :: L, [], sel, sel', k, V, V', b, h, _ => by simpa [Vsel] using h
 | r :: L, e :: E, sel, sel', k, V, V', b, h, hs => by
  simp only [Vsel]
  refine Vsel_hp L E sel sel' (k + 1) _ _ b ?_ (fun i r' e' hr he ht => ?_)
  ·by_cases ht : b ∈ wbk e
   ·have := hs 0 r e (by simp) (by simp) ht
    simp only [Nat.add_zero] at this
    rw [this]
    split
    ·rw [app_hp, app_hp, h]
    ·exact h
   ·have e1 : ∀ (c : Bool) (V : View), (if c = true then V.app r.dst e else V).hp b = V.hp b := by
     intro c V
     cases c with
     | true => simp only [if_true, app_hp, appB_other ht]
     | false => rfl
    rw [e1, e1]; exact h
  ·have := hs (i + 1) r' e' (by simpa using hr) (by simpa using he) ht
   rwa [show k + 1 + i = k + (i + 1) from by omega]
/-- one more is selected, the last of them -/
theorem Vsel_snoc : ∀ (L : List ROp) (E : List Eff) (k i : Nat) (V : View) (r : ROp) (e : Eff), L[i]? = some r → E[i]? = some e →
  Vsel L E (fun j => decide (j < k + i + 1)) k V = (Vsel L E (fun j => decide (j < k + i)) k V).app r.dst e
 | [], E, k, i, V, r, e, hr, he => by simp at hr
 | r0 :: L, [], k, i, V, r, e, hr, he => by simp at he
 | r0 :: L, e0 :: E, k, i, V, r, e, hr, he => by
  have none : ∀ (L : List ROp) (E : List Eff) (m k : Nat) (V : View), m ≤ k → Vsel L E (fun j => decide (j < m)) k V = V := by
   intro L
   induction L with
   | nil => intro E m k V _; rfl
   | cons r L ih =>
    intro E m k V hm
    cases E with
    | nil => rfl
    | cons e E =>
     simp only [Vsel]
     rw [if_neg (by simp; omega)]
     exact ih E m (k + 1) V (by omega)
  cases i with
  | zero =>
   simp at hr he; subst hr; subst he
   simp only [Vsel, Nat.add_zero]
   rw [if_pos (by simp), if_neg (by simp), none L E (k + 1) (k + 1) _ (Nat.le_refl _), none L E k (k + 1) _ (Nat.le_succ k)]
  | succ i =>
   simp only [Vsel]
   rw [if_pos (by simp; omega), if_pos (decide_eq_true (by omega))]
   have := Vsel_snoc L E (k + 1) i (V.app r0.dst e0) r e (by simpa using hr) (by simpa using he)
   rw [show k + 1 + i + 1 = k + (i + 1) + 1 from by omega, show k + 1 + i = k + (i + 1) from by omega] at this
   exact this
theorem View.ext {V V' : View} (h1 : ∀ t, V.tm t = V'.tm t) (h2 : ∀ b, V.hp b = V'.hp b) : V = V' := by
 cases V; cases V'; congr
 ·funext t; exact h1 t
 ·funext b; exact h2 b

theorem effG_congr {c : Res} {r : ROp} {V V' : View} (h1 : ∀ t ∈ rtm r, V.tm t = V'.tm t) (h2 : ∀ b ∈ touched c.us r.dst r.op (r.op.opds.map V.ev), V.hp b = V'.hp b) : effG P c r V = effG P c r V' := by
 have hev : r.op.opds.map V.ev = r.op.opds.map V'.ev := by
  refine List.map_congr_left fun x hx => ?_
  cases x with
  | tmp t => exact h1 t (by simp only [rtm, List.mem_append, List.mem_filterMap]; exact .inl ⟨.tmp t, hx, rfl⟩)
  | _ => rfl
 have hE : effOf P c r.dst r.op V = effOf P c r.dst r.op V' := by
  simp only [effOf]
  rw [← hev]
  congr 1
  funext b
  simp only [View.filt]
  split
  ·rename_i hb; exact h2 b hb
  ·rfl
 simp only [effG]
 cases hg : r.guard with
 | none => exact hE
 | some dw =>
  obtain ⟨d, want⟩ := dw
  simp only
  rw [h1 d (by simp [rtm, hg])]
  split
  ·rw [hE]
  ·rfl
  ·rfl

-- one cell that is loaded; one cell that is demoted
def cellOf (k : Option Blk) (off : Nat) : Option AV := match k with
 | some (.cells _ cs) => cs[off]?
 | _ => none
def lcOf (ao : AOp) (vals : List AV) : List (Nat × Nat) := match ao, vals with
 | .load _ false _ _, [.ptr b off] => [(b, off)]
 | _, _ => []
def tbH (us : List Nat) (d : Option Nat) (ao : AOp) (vals : List AV) : List Nat := match ao, vals with
 | .load _ false _ _, [.ptr _ _] => []
 | _, _ => touched us d ao vals
def whk (e : Eff) : List Nat := (match e.blk with | some (b, _) => [b] | none => []) ++ e.bs.map (·.1)
def dck (e : Eff) : List (Nat × Nat) := match e.dem with | some (.c b j) => [(b, j)] | _ => []
theorem aLoad_cell (n : Nat) (tk : Bool) (g : Nat → Option Blk) (b off : Nat) : aLoad n false tk g [.ptr b off] = (match cellOf (g b) off with
  | some y => if tk = true then some { out := y, dem := some (.c b off) } else some { out := dem y }
  | none => none) := by
 simp only [aLoad, cellOf]
 cases hg : g b with
 | none => rfl
 | some k =>
  cases k with
  | cells e cs =>
   simp only [pickA, Bool.false_eq_true, if_false]
   cases hc : cs[off]? with
   | none => cases tk <;> rfl
   | some y => cases tk <;> rfl
  | map ks vs => rfl
  | mapd ks vs => rfl
theorem lc_cases (us : List Nat) (d : Option Nat) (ao : AOp) (vals : List AV) : (∃ n tk x b off, ao = .load n false tk x ∧ vals = [.ptr b off]) ∨ (lcOf ao vals = [] ∧ tbH us d ao vals = touched us d ao vals) := by
 unfold lcOf tbH
 split
 ·exact .inl ⟨_, _, _, _, _, rfl, rfl⟩
 ·exact .inr ⟨rfl, rfl⟩
theorem effG_congrC {c : Res} {r : ROp} {V V' : View} (h1 : ∀ t ∈ rtm r, V.tm t = V'.tm t) (h2 : ∀ b ∈ tbH c.us r.dst r.op (r.op.opds.map V.ev), V.hp b = V'.hp b)
  (h3 : ∀ p ∈ lcOf r.op (r.op.opds.map V.ev), cellOf (V.hp p.1) p.2 = cellOf (V'.hp p.1) p.2) : effG P c r V = effG P c r V' := by
 rcases lc_cases c.us r.dst r.op (r.op.opds.map V.ev) with ⟨n, tk, x, b, off, e1, e2⟩ | ⟨_, e2⟩
 ·have hev : r.op.opds.map V.ev = r.op.opds.map V'.ev := by
   refine List.map_congr_left fun x hx => ?_
   cases x with
   | tmp t => exact h1 t (by simp only [rtm, List.mem_append, List.mem_filterMap]; exact .inl ⟨.tmp t, hx, rfl⟩)
   | _ => rfl
  have h3' := h3 (b, off) (by rw [e2, e1]; simp [lcOf])
  have hE : effOf P c r.dst r.op V = effOf P c r.dst r.op V' := by
   simp only [effOf]
   rw [← hev, e2, e1]
   simp only [act, aLoad_cell, touched, List.flatMap_cons, List.flatMap_nil, idOf, View.filt, List.append_nil, List.mem_singleton, if_true]
   rw [h3']
  simp only [effG]
  cases hg : r.guard with
  | none => exact hE
  | some dw =>
   obtain ⟨d, want⟩ := dw
   simp only
   rw [h1 d (by simp [rtm, hg])]
   split
   ·rw [hE]
   ·rfl
   ·rfl
 ·rw [e2] at h2; exact effG_congr h1 h2
/-- what an operation makes of one cell hangs on that cell alone -/
theorem appB_cell (e : Eff) (b off : Nat) {cur cur' : Option Blk} (h : cellOf cur off = cellOf cur' off) : cellOf (appB e b cur) off = cellOf (appB e b cur') off := by
 have hdem : ∀ j, cellOf (cur.map (fun k => k.set j (dem (k.at j)))) off = cellOf (cur'.map (fun k => k.set j (dem (k.at j)))) off := by
  have key : ∀ (k : Option Blk) (j : Nat), cellOf (k.map (fun k => k.set j (dem (k.at j)))) off = if j = off then (cellOf k off).map dem else cellOf k off := by
   intro k j
   cases k with
   | none => simp [cellOf]
   | some k =>
    cases k with
    | cells e cs =>
     simp only [cellOf, Option.map_some, Blk.set, Blk.at, List.getElem?_set]
     by_cases hj : j = off
     ·subst hj
      simp only [if_true]
      by_cases hl : j < cs.length
      ·rw [if_pos hl, List.getElem?_eq_getElem hl, List.getD_eq_getElem?_getD, List.getElem?_eq_getElem hl]; rfl
      ·rw [if_neg hl, List.getElem?_eq_none (by omega)]; rfl
     ·simp [hj]
    | map ks vs => simp [cellOf, Blk.set]
    | mapd ks vs => simp [cellOf, Blk.set]
  intro j
  rw [key, key, h]
 unfold appB
 split
 ·rfl
 ·unfold appB0
  split
  ·split
   ·rfl
   ·split
    ·split
     ·exact hdem _
     ·exact h
    ·exact h
  ·split
   ·split
    ·exact hdem _
    ·exact h
   ·exact h
theorem appB_soft {e : Eff} {b off : Nat} (hw : b ∉ whk e) (hd : (b, off) ∉ dck e) (cur : Option Blk) : cellOf (appB e b cur) off = cellOf cur off := by
 simp only [whk, List.mem_append, not_or] at hw
 have hdem : ∀ j, j ≠ off → cellOf (cur.map (fun k => k.set j (dem (k.at j)))) off = cellOf cur off := by
  intro j hj
  cases cur with
  | none => rfl
  | some k => cases k <;> simp [cellOf, Blk.set, List.getElem?_set, hj]
 have h0 : cellOf (match e.dem with
  | some (.c b' j) => if b = b' then cur.map (fun k => k.set j (dem (k.at j))) else cur
  | _ => cur) off = cellOf cur off := by
  cases hde : e.dem with
  | none => rfl
  | some p =>
   cases p with
   | t i => rfl
   | c b' j =>
    simp only
    split
    ·rename_i e1; subst e1
     refine hdem j fun e2 => hd ?_
     subst e2
     simp [dck, hde]
    ·rfl
 simp only [appB, lk_none' hw.2, appB0]
 cases hb : e.blk with
 | none => exact h0
 | some bk =>
  obtain ⟨b', k⟩ := bk
  simp only
  rw [if_neg (fun hh => hw.1 (by simp [hb, hh]))]
  exact h0
theorem Vsel_cell : ∀ (L : List ROp) (E : List Eff) (sel sel' : Nat → Bool) (k : Nat) (V V' : View) (b off : Nat), cellOf (V.hp b) off = cellOf (V'.hp b) off →
  (∀ (i : Nat) (r : ROp) (e : Eff), L[i]? = some r → E[i]? = some e → b ∈ wbk e → sel (k + i) = sel' (k + i) ∨ (b ∉ whk e ∧ (b, off) ∉ dck e)) → cellOf ((Vsel L E sel k V).hp b) off = cellOf ((Vsel L E sel' k V').hp b) off
 | [], E, sel, sel', k, V, V', b, off, h, _ => by simpa [Vsel] using h
 | r :: L, [], sel, sel', k, V, V', b, off, h, _ => by simpa [Vsel] using h
 | r :: L, e :: E, sel, sel', k, V, V', b, off, h, hs => by
  simp only [Vsel]
  refine Vsel_cell L E sel sel' (k + 1) _ _ b off ?_ (fun i r' e' hr he ht => ?_)
  ·have soft : b ∉ whk e → (b, off) ∉ dck e → ∀ (c c' : Bool), cellOf ((if c = true then V.app r.dst e else V).hp b) off = cellOf ((if c' = true then V'.app r.dst e else V').hp b) off := by
    intro h1 h2 c c'
    have e1 : ∀ (c : Bool) (V : View), cellOf ((if c = true then V.app r.dst e else V).hp b) off = cellOf (V.hp b) off := by
     intro c V
     cases c with
     | true => simp only [if_true, app_hp, appB_soft h1 h2]
     | false => rfl
    rw [e1, e1, h]
   by_cases ht : b ∈ wbk e
   ·rcases hs 0 r e (by simp) (by simp) ht with h1 | ⟨h1, h2⟩
    ·simp only [Nat.add_zero] at h1
     rw [h1]
     split
     ·rw [app_hp, app_hp]; exact appB_cell e b off h
     ·exact h
    ·exact soft h1 h2 _ _
   ·refine soft (fun hh => ht ?_) (fun hh => ht ?_) _ _
    ·simp only [whk, wbk, List.mem_append] at hh ⊢
     exact hh.elim .inl fun h => .inr (.inr h)
    ·simp only [dck] at hh
     simp only [wbk, List.mem_append]
     refine .inr (.inl ?_)
     split at hh
     ·rename_i hde; simp only [List.mem_singleton, Prod.mk.injEq] at hh; simp [hh.1]
     ·cases hh
  ·have := hs (i + 1) r' e' (by simpa using hr) (by simpa using he) ht
   rwa [show k + 1 + i = k + (i + 1) from by omega]
end Go.Aw
