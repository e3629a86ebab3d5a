/- Comparisons and sums; slices of slices; maps. -/
import Derived.Test.YtdobngcdgkallaaGreatDoorAwF
import Derived.Laws.StructEq
import Derived.Laws.Shifts
import Derived.Great.BuildSlice
set_option linter.unusedSimpArgs false
set_option linter.unusedVariables false
set_option linter.unusedSectionVars false
section
namespace Go.Aw
variable [GL]
variable {P : Program} {C : Ctx} {V : View} {a : Act} {w : World} {fz : Fz} {ρ : Ren} {o : Oper} {Q : Exit → Act → World → Prop}

theorem toList_beq (x y : ByteArray) : (x.toList == y.toList) = decide (x = y) := by
 rw [ByteArray.toList_eq, ByteArray.toList_eq]
 obtain ⟨⟨x⟩⟩ := x
 obtain ⟨⟨y⟩⟩ := y
 rw [Bool.eq_iff_iff]; simp

theorem eqGuard_plain (op : BinOp) (t : TypeId) (x y : Operand) (u v : Value) (hu : u.oneCell' = true) (hn : u ≠ .nilIface) : (eqGuard op t x y u v).run P w = .ok () w := by
 cases op <;> simp only [eqGuard, Bool.not_false, Bool.not_true, if_true, Bool.false_eq_true, if_false, Sem.run_pure] <;>
  (cases u <;> simp_all [Value.oneCell'])

theorem binI_run {op : BinOp} {k : IntKind} {x y : Int} {r : Value} (h : binI op k x y = some r) (t : TypeId) : (binOp op t (.int k x) (.int k y)).run P w = .ok r w := by
 cases op <;> simp [binI, cmpInt] at h <;> subst h <;> simp [binOp, Op.intArith, Op.intCmp, Op.intBits, andI, orI, xorI]

theorem sound_bin (h : SimE C V a w fz ρ) {op : BinOp} {t u : TypeId} {x y : Operand} (hop : o.op = .binOp op t x y u) {ef : Eff} (he : aBin op [V.ev x, V.ev y] = some ef) (hob : ef.ob) (hd : ∀ i, o.dst = some i → i < C.N) : Sound P C V a w o ef := by
 have hx := h.ev x
 have hy := h.ev y
 simp only [aBin] at he
 split at he
 ·rename_i r hr
  cases he
  simp only at hob
  have run : ∀ v, (eqGuard op t x y (a.eval x) (a.eval y)).run P w = .ok () w → (binOp op t (a.eval x) (a.eval y)).run P w = .ok v w → (execOp a.eval o).run P w = .ok (.value v) w := by
   intro v h1 h2
   simp [execOp, hop, h1, h2]
  unfold binA at hr
  split at hr
  ·rename_i j x' k y' hvx hvy
   rw [hvx] at hx; rw [hvy] at hy; simp only [Holds] at hx hy
   cases hr
   simp only at hob
   refine sound_value h (run (.int j (shlI j x' y')) ?_ ?_) hd (by simp only [Holds]) rfl
   ·rw [hx]; exact eqGuard_plain _ _ _ _ _ _ rfl (by simp)
   ·rw [hx, hy]; simp [binOp, shift_shl_any _ _ _ _ hob, shlI]
  ·rename_i j x' k y' hvx hvy
   rw [hvx] at hx; rw [hvy] at hy; simp only [Holds] at hx hy
   cases hr
   simp only at hob
   refine sound_value h (run (.int j (shrI j x' y')) ?_ ?_) hd (by simp only [Holds]) rfl
   ·rw [hx]; exact eqGuard_plain _ _ _ _ _ _ rfl (by simp)
   ·rw [hx, hy]; simp [binOp, shift_shr_any _ _ _ _ hob, shrI]
  ·rename_i op' _ _ _ j x' k y' _ _ hvx hvy
   rw [hvx] at hx; rw [hvy] at hy; simp only [Holds] at hx hy
   split at hr
   ·rename_i hjk
    subst hjk
    split at hr
    ·cases hr
     simp only at hob
     refine sound_value h (run (.int j (j.wrap (x'.tdiv y'))) ?_ ?_) hd (by simp only [Holds]) rfl
     ·rw [hx]; exact eqGuard_plain _ _ _ _ _ _ rfl (by simp)
     ·rw [hx, hy]; simp [binOp, Op.intDiv, hob]
    ·cases hr
     simp only at hob
     refine sound_value h (run (.int j (x'.tmod y')) ?_ ?_) hd (by simp only [Holds]) rfl
     ·rw [hx]; exact eqGuard_plain _ _ _ _ _ _ rfl (by simp)
     ·rw [hx, hy]; simp [binOp, Op.intDiv, hob]
    ·cases hI : binI op' j x' y' with
     | none => rw [hI] at hr; simp at hr
     | some v =>
      rw [hI] at hr; simp at hr; subst hr
      refine sound_value h (run v ?_ ?_) hd (by simp only [Holds]) rfl
      ·rw [hx]; exact eqGuard_plain _ _ _ _ _ _ rfl (by simp)
      ·rw [hx, hy]; exact binI_run hI t
   ·cases hr
  ·rename_i x' y' hvx hvy
   rw [hvx] at hx; rw [hvy] at hy; simp only [Holds] at hx hy
   cases hr
   refine sound_value h (run _ ?_ ?_) hd (by simp only [Holds]; rfl) rfl
   ·rw [hx]; exact eqGuard_plain _ _ _ _ _ _ rfl (by simp)
   ·rw [hx, hy]; simp [binOp, Op.stringOp, toList_beq]
  ·rename_i x' y' hvx hvy
   rw [hvx] at hx; rw [hvy] at hy; simp only [Holds] at hx hy
   cases hr
   refine sound_value h (run _ ?_ ?_) hd (by simp only [Holds]; rfl) rfl
   ·rw [hx]; exact eqGuard_plain _ _ _ _ _ _ rfl (by simp)
   ·rw [hx, hy]; simp [binOp, Op.stringOp, toList_beq]
  ·rename_i x' y' hvx hvy
   rw [hvx] at hx; rw [hvy] at hy; simp only [Holds] at hx hy
   cases hr
   simp only at hob
   refine sound_value h (run (.string (x' ++ y')) ?_ ?_) hd (by simp only [Holds]) rfl
   ·rw [hx]; exact eqGuard_plain _ _ _ _ _ _ rfl (by simp)
   ·rw [hx, hy]
    have hm : IntKind.i64.max = 9223372036854775807 := rfl
    have : ¬ (9223372036854775807 < (x'.size : Int) + y'.size) := by omega
    simp [binOp, Op.stringOp, hm, this]
  ·rename_i x' y' hvx hvy
   rw [hvx] at hx; rw [hvy] at hy; simp only [Holds] at hx hy
   cases hr
   refine sound_value h (run _ ?_ ?_) hd (by simp only [Holds]; rfl) rfl
   ·rw [hx]; exact eqGuard_plain _ _ _ _ _ _ rfl (by simp)
   ·rw [hx, hy]; simp [binOp, Op.stringOp]
  ·cases hr
 ·cases he

theorem sound_eqb (h : SimE C V a w fz ρ) {neg : Bool} {op : BinOp} (hneg : op = if neg then .neq else .eql) {t u : TypeId} {x y : Operand} (hop : o.op = .binOp op t x y u) (ht : P.underlying t = some .bool)
  {ef : Eff} (he : aEqb neg [V.ev x, V.ev y] = some ef) (hd : ∀ i, o.dst = some i → i < C.N) : Sound P C V a w o ef := by
 have hx := h.ev x
 have hy := h.ev y
 unfold aEqb at he
 split at he
 ·rename_i b c heq
  simp only [List.cons.injEq, and_true] at heq
  rw [heq.1] at hx; rw [heq.2] at hy; simp only [Holds] at hx hy
  cases he
  refine sound_value h (v := .bool (if neg then !(b == c) else b == c)) ?_ hd (by simp only [Holds]) rfl
  have h1 : (eqGuard op t x y (a.eval x) (a.eval y)).run P w = .ok () w := by rw [hx]; exact eqGuard_plain _ _ _ _ _ _ rfl (by simp)
  cases neg <;> simp only [Bool.false_eq_true, if_false, if_true] at hneg <;> subst hneg <;> rw [hx, hy] at h1 <;>
   simp [execOp, hop, h1, hx, hy, binOp, Op.equal, Op.maxDepth, run_equalIn_bool' w 9999 t b c ht]
 ·cases he

theorem eqFields_plain : ∀ (fs : List Field) (n : Nat) (ks : List Nat), kindsOf P fs n = some ks → ∀ (l r : List AV) (xs ys : Array Value) (b : Bool), eqA ks l r = some b →
  (∀ (j : Nat) (x : AV), l[j]? = some x → ∃ v, xs[n + j]? = some v ∧ Holds fz x ρ v) → (∀ (j : Nat) (x : AV), r[j]? = some x → ∃ v, ys[n + j]? = some v ∧ Holds fz x ρ v) → ∀ d,
  (Op.eqFields (d + 1) xs ys fs).run P w = .ok b w
 | [], n, ks, hk, l, r, xs, ys, b, he, hl, hr, d => by
  simp only [kindsOf, Option.some.injEq] at hk; subst hk
  cases l <;> cases r <;> simp [eqA] at he
  subst he
  simp [Op.eqFields]
 | f :: fs, n, ks, hk, l, r, xs, ys, b, he, hl, hr, d => by
  simp only [kindsOf] at hk
  split at hk
  ·rename_i hc
   obtain ⟨hoff, hname⟩ := hc
   have key : ∀ (k : Nat) (ks' : List Nat), kindsOf P fs (n + 1) = some ks' → ks = k :: ks' → isAggT P f.type = some false →
     (∀ x y c u v, eqV k x y = some c → Holds fz x ρ u → Holds fz y ρ v → (Op.equalIn (d + 1) f.type u v).run P w = .ok c w) → (Op.eqFields (d + 1) xs ys (f :: fs)).run P w = .ok b w := by
    intro k ks' hk' hks hag hrun
    subst hks
    cases l with
    | nil => simp [eqA] at he
    | cons x l =>
     cases r with
     | nil => simp [eqA] at he
     | cons y r =>
      simp only [eqA] at he
      cases hv : eqV k x y with
      | none => rw [hv] at he; simp at he
      | some c =>
       rw [hv] at he
       cases hA : eqA ks' l r with
       | none => rw [hA] at he; simp at he
       | some c' =>
        rw [hA] at he; simp at he; subst he
        obtain ⟨u, hu, hhu⟩ := hl 0 x (by simp)
        obtain ⟨v, hv', hhv⟩ := hr 0 y (by simp)
        have ih := eqFields_plain fs (n + 1) ks' hk' l r xs ys c' hA (fun j x hj => by
          have := hl (j + 1) x (by simpa using hj)
          rwa [show n + (j + 1) = n + 1 + j from by omega] at this) (fun j x hj => by
          have := hr (j + 1) x (by simpa using hj)
          rwa [show n + (j + 1) = n + 1 + j from by omega] at this) d
        simp only [Nat.add_zero] at hu hv'
        have hp1 : (part f.type xs f.offset).run P w = .ok u w := by simp [part, isAgg_run hag, hoff, hu]
        have hp2 : (part f.type ys f.offset).run P w = .ok v w := by simp [part, isAgg_run hag, hoff, hv']
        have he1 := hrun x y c u v hv hhu hhv
        cases c <;> simp [Op.eqFields, hname, hp1, hp2, he1, ih]
   cases hu : P.underlying f.type with
   | none => rw [hu] at hk; simp at hk
   | some dd =>
    cases hks : kindsOf P fs (n + 1) with
    | none => rw [hu, hks] at hk; cases dd <;> simp at hk
    | some ks' =>
     rw [hu, hks] at hk
     cases dd with
     | int k' =>
      simp at hk
      refine key 0 ks' hks hk.symm (by simp [isAggT, hu]) fun x y c u v hc hx hy => ?_
      unfold eqV at hc
      split at hc
      ·split at hc
       ·rename_i hjj
        cases hc
        simp only [Holds] at hx hy
        subst hx; subst hy
        rw [← hjj.2]
        exact run_equalIn_int w d _ _ k' _ _ hu
       ·cases hc
      ·simp at hc
      ·simp at hc
      ·cases hc
     | string =>
      simp at hk
      refine key 1 ks' hks hk.symm (by simp [isAggT, hu]) fun x y c u v hc hx hy => ?_
      unfold eqV at hc
      split at hc
      ·simp at hc
      ·simp at hc
       simp only [Holds] at hx hy
       subst hx; subst hy; subst hc
       rw [run_equalIn_string w d _ _ _ hu, toList_beq]
      ·simp at hc
      ·cases hc
     | bool =>
      simp at hk
      refine key 2 ks' hks hk.symm (by simp [isAggT, hu]) fun x y c u v hc hx hy => ?_
      unfold eqV at hc
      split at hc
      ·simp at hc
      ·simp at hc
      ·simp at hc
       simp only [Holds] at hx hy
       subst hx; subst hy; subst hc
       exact run_equalIn_bool' w d _ _ _ hu
      ·cases hc
     | _ => simp at hk
  ·cases hk

theorem sound_eqg (h : SimE C V a w fz ρ) {neg : Bool} {op : BinOp} (hneg : op = if neg then .neq else .eql) {t u : TypeId} {x y : Operand} (hop : o.op = .binOp op t x y u) {fields : Array Field} (ht : P.underlying t = some (.struct fields))
  (hs : P.stoodInHeld t = false) (hg : P.eqGuardType P.depth t = false) {ks : List Nat} (hk : kindsOf P fields.toList 0 = some ks)
  {ef : Eff} (he : aEqg neg ks [V.ev x, V.ev y] = some ef) (hd : ∀ i, o.dst = some i → i < C.N) : Sound P C V a w o ef := by
 have hx := h.ev x
 have hy := h.ev y
 unfold aEqg at he
 split at he
 ·rename_i l r heq
  simp only [List.cons.injEq, and_true] at heq
  rw [heq.1] at hx; rw [heq.2] at hy; simp only [Holds] at hx hy
  obtain ⟨xs, hx, hl⟩ := hx
  obtain ⟨ys, hy, hr⟩ := hy
  split at he
  ·rename_i b hb
   cases he
   have hf : P.fieldsOf t = fields := by simp [Program.fieldsOf, ht]
   have hE := eqFields_plain (w := w) fields.toList 0 ks hk l r xs ys b hb (fun j x hj => by
     obtain ⟨v, hv, hh⟩ := hl.get _ _ _ j x hj
     exact ⟨v, by simpa using hv, hh⟩) (fun j x hj => by
     obtain ⟨v, hv, hh⟩ := hr.get _ _ _ j x hj
     exact ⟨v, by simpa using hv, hh⟩) 9998
   have hEq : (Op.equalIn 10000 t (.agg xs) (.agg ys)).run P w = .ok b w := by
    rw [run_equalIn_struct w 9999 t xs ys (by rw [hf]; exact ht) hs, hf]; exact hE
   have h1 := run_eqGuard_agg (P := P) w op t x y xs ys hg
   refine sound_value h (v := .bool (if neg then !b else b)) ?_ hd (by simp only [Holds]) rfl
   cases neg <;> simp only [Bool.false_eq_true, if_false, if_true] at hneg <;> subst hneg
   ·have := run_eql_struct (P := P) w t xs ys
    rw [hEq] at this
    simp [execOp, hop, hx, hy, h1, this]
   ·have := run_neq_struct (P := P) w t xs ys
    rw [hEq] at this
    simp [execOp, hop, hx, hy, h1, this]
  ·cases he
 ·cases he
end Go.Aw
end
section
namespace Go.Aw
variable [GL]
variable {P : Program} {C : Ctx} {V : View} {a : Act} {w : World} {fz : Fz} {ρ : Ren} {o : Oper} {Q : Exit → Act → World → Prop}

theorem moreA_holds {wd : Nat} {x : AV} {rows : List (List AV)} (h : moreA wd x = some rows) {v : Value} (hx : Holds fz x ρ v) :
  ∃ a c, v = .slice a rows.length c ∧ rows.length ≤ c ∧ (rows = [] ∨ ∃ b o, a = some ⟨b, o, none⟩ ∧ HoldsR fz rows wd b o) := by
 unfold moreA at h
 split at h
 ·split at h
  ·rename_i e; cases h; subst e; simpa only [Holds] using hx
  ·cases h
 ·split at h
  ·rename_i e; cases h; subst e
   simp only [Holds] at hx
   obtain ⟨a, e, hr⟩ := hx
   exact ⟨a, _, e, Nat.le_refl _, hr⟩
  ·cases h
 ·split at h
  ·rename_i e; cases h; subst e; simpa only [Holds] using hx
  ·cases h
 ·cases h
  simp only [Holds] at hx
  exact ⟨none, 0, hx, Nat.le_refl _, .inl rfl⟩
 ·cases h

theorem sliceBound_run {n : Int} {y : Nat} {code : BoundsCode} {k : IntKind} (h0 : 0 ≤ n) (h1 : n ≤ y) (w : World) : (Instr.sliceBound (.int k n) y code).run P w = .ok n.toNat w := by
 simp [Instr.sliceBound, asIntOf, h0, h1]

theorem sub_holds {wd : Nat} {rows : List (List AV)} {ad : Option Addr} (hr : rows = [] ∨ ∃ b o, ad = some ⟨b, o, none⟩ ∧ HoldsR fz rows wd b o) {l h m : Nat} (hl : l ≤ h) (hh : h ≤ rows.length) (hm : h ≤ m) :
  (rows.take h).drop l = [] ∨
   ∃ b o, (if m = l then ad else ad.map (·.add (l * wd))) = some ⟨b, o, none⟩ ∧ HoldsR fz ((rows.take h).drop l) wd b o := by
 rcases hr with rfl | ⟨b, o, rfl, hR⟩
 ·exact .inl (by simp)
 ·refine .inr ?_
  split
  ·rename_i e
   refine ⟨b, o, rfl, ?_⟩
   have : (rows.take h).drop l = [] := by rw [List.drop_eq_nil_iff, List.length_take]; omega
   rw [this]; simp [HoldsR]
  ·exact ⟨b, o + l * wd, by simp [addr_add], (hR.take _ h _ _ _).drop _ l _ _ _⟩

/-- where the bounds come out so -/
theorem sound_sub_at (h : SimE C V a w fz ρ) {t e : TypeId} {x : Operand} {lo hi mx : Option Operand} (hop : o.op = .slice t x lo hi mx) (ht : P.underlying t = some (.slice e)) {wd : Nat} (hn : szOf P e = some wd)
  {rows : List (List AV)} (hm : moreA wd (V.ev x) = some rows) {l h' : Nat} {full : Bool}
  (hbs : ∀ cap, rows.length ≤ cap → ∃ m, (Instr.sliceBounds true rows.length cap (lo.map a.eval) (hi.map a.eval) (mx.map a.eval)).run P w = .ok (l, h', m) w ∧ h' ≤ m ∧ (full = true → m = h')) (hl : l ≤ h') (hh : h' ≤ rows.length)
  {ob : Prop} (hd : ∀ i, o.dst = some i → i < C.N) : Sound P C V a w o { out := if full then .fx wd ((rows.take h').drop l) else .rd wd ((rows.take h').drop l), ob := ob } := by
 obtain ⟨ad, c, hv, hc, hr⟩ := moreA_holds hm (h.ev x)
 obtain ⟨m, hrun, hm1, hm2⟩ := hbs c hc
 have hsub := sub_holds (l := l) (h := h') (m := m) hr hl hh hm1
 have hlen : ((rows.take h').drop l).length = h' - l := by simp; omega
 refine sound_value h (v := .slice (if m = l then ad else ad.map (·.add (l * wd))) (h' - l) (m - l)) ?_ hd ?_ (by cases full <;> rfl)
 ·simp [execOp, hop, Instr.sliceAt, Instr.slice, run_underlying ht, hv, hrun, szOf_run hn]
 ·cases full with
  | true =>
   simp only [if_true, Holds, hlen]
   rw [hm2 rfl] at hsub ⊢
   exact ⟨_, rfl, hsub⟩
  | false =>
   simp only [Bool.false_eq_true, if_false, Holds, hlen]
   exact ⟨_, _, rfl, by omega, hsub⟩

theorem ev_int (h : SimE C V a w fz ρ) {x : Operand} {k : IntKind} {n : Int} (e : V.ev x = .val (.int k n)) : a.eval x = .int k n := by
 have := h.ev x; rw [e] at this; simpa only [Holds] using this

theorem bnd_run (h : SimE C V a w fz ρ) {q : Option Operand} {r : List Operand} {n : Option Int} {vs : List AV} (hb : bnd q.isSome ((q.toList ++ r).map V.ev) = some (n, vs)) :
  q.map a.eval = n.map (fun n => Value.int .i64 n) ∧ vs = r.map V.ev := by
 cases q with
 | none => simp [bnd] at hb; obtain ⟨rfl, rfl⟩ := hb; simp
 | some y =>
  simp only [Option.isSome_some, Option.toList_some, List.cons_append, List.nil_append, List.map_cons, bnd] at hb
  split at hb
  ·rename_i m r' heq
   simp only [List.cons.injEq] at heq
   obtain ⟨h1, h2⟩ := heq
   cases hb
   simp [ev_int h h1, h2]
  ·cases hb

theorem dropO_takeO {α : Type} {l h : Option Int} {rows : List α} (hh : h.getD rows.length ≤ rows.length) (h0 : 0 ≤ h.getD rows.length) : dropO l (takeO h rows) = (rows.take (h.getD rows.length).toNat).drop (l.getD 0).toNat := by
 cases l <;> cases h <;> simp [dropO, takeO]

theorem sound_sub (h : SimE C V a w fz ρ) {t e : TypeId} {x : Operand} {lo hi mx : Option Operand} (hop : o.op = .slice t x lo hi mx) (ht : P.underlying t = some (.slice e)) {wd : Nat} (hn : szOf P e = some wd)
  {ef : Eff} (he : aSub wd lo.isSome hi.isSome mx.isSome ((x :: (lo.toList ++ (hi.toList ++ mx.toList))).map V.ev) = some ef) (hob : ef.ob) (hd : ∀ i, o.dst = some i → i < C.N) : Sound P C V a w o ef := by
 simp only [List.map_cons, aSub] at he
 split at he
 ·rename_i rows l vs hm hl
  obtain ⟨el, rfl⟩ := bnd_run h hl
  split at he
  ·rename_i hh vs hhb
   obtain ⟨eh, rfl⟩ := bnd_run h hhb
   have key : ∀ (m : Option Int) (vs : List AV) , bnd mx.isSome (mx.toList.map V.ev) = some (m, vs) → 0 ≤ l.getD 0 → l.getD 0 ≤ hh.getD rows.length → hh.getD rows.length ≤ rows.length → (∀ m', m = some m' → hh = some m') → ∀ ob : Prop,
     Sound P C V a w o { out := if m.isSome then .fx wd ((rows.take (hh.getD rows.length).toNat).drop (l.getD 0).toNat) else .rd wd ((rows.take (hh.getD rows.length).toNat).drop (l.getD 0).toNat), ob := ob } := by
    intro m vs hmb h0 h1 h2 h3 ob
    obtain ⟨em, _⟩ := bnd_run (r := []) h (by simpa using hmb)
    refine sound_sub_at h hop ht hn hm (fun cap hcap => ?_) (by omega) (by omega) hd
    rw [el, eh, em]
    cases m with
    | none =>
     refine ⟨cap, ?_, by omega, by simp⟩
     cases l with
     | none =>
      cases hh with
      | none => simp [Instr.sliceBounds]
      | some hh =>
       simp only [Option.getD_some, Option.getD_none] at h0 h1 h2 ⊢
       simp [Instr.sliceBounds, sliceBound_run (P := P) (n := hh) (y := cap) (code := .sliceAcap) (k := .i64) (by omega) (by omega) w]
     | some l =>
      cases hh with
      | none =>
       simp only [Option.getD_some, Option.getD_none] at h0 h1 h2 ⊢
       simp [Instr.sliceBounds, sliceBound_run (P := P) (n := l) (y := rows.length) (code := .sliceB) (k := .i64) (by omega) (by omega) w]
      | some hh =>
       simp only [Option.getD_some] at h0 h1 h2 ⊢
       simp [Instr.sliceBounds, sliceBound_run (P := P) (n := hh) (y := cap) (code := .sliceAcap) (k := .i64) (by omega) (by omega) w,
        sliceBound_run (P := P) (n := l) (y := hh.toNat) (code := .sliceB) (k := .i64) (by omega) (by omega) w]
    | some m =>
     have := h3 m rfl
     subst this
     simp only [Option.getD_some] at h0 h1 h2 ⊢
     refine ⟨m.toNat, ?_, by omega, by simp⟩
     cases l with
     | none =>
      simp only [Option.getD_none] at h0 h1 ⊢
      simp [Instr.sliceBounds, sliceBound_run (P := P) (n := m) (y := cap) (code := .slice3Acap) (k := .i64) (by omega) (by omega) w, sliceBound_run (P := P) (n := m) (y := m.toNat) (code := .slice3B) (k := .i64) (by omega) (by omega) w]
     | some l =>
      simp only [Option.getD_some] at h0 h1 ⊢
      simp [Instr.sliceBounds, sliceBound_run (P := P) (n := m) (y := cap) (code := .slice3Acap) (k := .i64) (by omega) (by omega) w, sliceBound_run (P := P) (n := m) (y := m.toNat) (code := .slice3B) (k := .i64) (by omega) (by omega) w,
       sliceBound_run (P := P) (n := l) (y := m.toNat) (code := .slice3C) (k := .i64) (by omega) (by omega) w]
   split at he
   ·rename_i vs' hmb
    cases he
    have := key none vs' hmb hob.1 hob.2.1 hob.2.2 (by simp) (0 ≤ l.getD 0 ∧ l.getD 0 ≤ hh.getD rows.length ∧ hh.getD rows.length ≤ rows.length)
    rw [dropO_takeO hob.2.2 (by have := hob.1; have := hob.2.1; omega)]
    simpa using this
   ·rename_i m vs' hmb
    cases he
    have := key (some m) vs' hmb hob.1 hob.2.1 hob.2.2.1 (fun m' e => by cases e; exact hob.2.2.2) (0 ≤ l.getD 0 ∧ l.getD 0 ≤ hh.getD rows.length ∧ hh.getD rows.length ≤ rows.length ∧ hh = some m)
    rw [dropO_takeO hob.2.2.1 (by have := hob.1; have := hob.2.1; omega)]
    simpa using this
   ·cases he
  ·cases he
 ·cases he

theorem sound_subs (h : SimE C V a w fz ρ) {t : TypeId} {x : Operand} {lo hi : Option Operand} (hop : o.op = .slice t x lo hi none) (ht : P.underlying t = some .string)
  {ef : Eff} (he : aSubs lo.isSome hi.isSome ((x :: (lo.toList ++ hi.toList)).map V.ev) = some ef) (hob : ef.ob) (hd : ∀ i, o.dst = some i → i < C.N) : Sound P C V a w o ef := by
 have hx := h.ev x
 simp only [List.map_cons] at he
 unfold aSubs at he
 split at he
 ·rename_i s vs heq
  simp only [List.cons.injEq] at heq
  obtain ⟨e1, e2⟩ := heq
  subst e2
  rw [e1] at hx; simp only [Holds] at hx
  split at he
  ·rename_i l vs hl
   obtain ⟨el, rfl⟩ := bnd_run h hl
   split at he
   ·rename_i hh vs hhb
    obtain ⟨eh, _⟩ := bnd_run (r := []) h (by simpa using hhb)
    cases he
    obtain ⟨h0, h1, h2⟩ := hob
    refine sound_value h (v := .string (s.extract (l.getD 0).toNat (hh.getD s.size).toNat)) ?_ hd (by simp only [Holds]) rfl
    have hb : ∃ m, (Instr.sliceBounds false s.size s.size (lo.map a.eval) (hi.map a.eval) none).run P w = .ok ((l.getD 0).toNat, (hh.getD s.size).toNat, m) w := by
     rw [el, eh]
     refine ⟨s.size, ?_⟩
     cases l with
     | none =>
      cases hh with
      | none => simp [Instr.sliceBounds]
      | some hh =>
       simp only [Option.getD_some, Option.getD_none] at h0 h1 h2 ⊢
       simp [Instr.sliceBounds, sliceBound_run (P := P) (n := hh) (y := s.size) (code := .sliceAlen) (k := .i64) (by omega) (by omega) w]
     | some l =>
      cases hh with
      | none =>
       simp only [Option.getD_some, Option.getD_none] at h0 h1 h2 ⊢
       simp [Instr.sliceBounds, sliceBound_run (P := P) (n := l) (y := s.size) (code := .sliceB) (k := .i64) (by omega) (by omega) w]
      | some hh =>
       simp only [Option.getD_some] at h0 h1 h2 ⊢
       simp [Instr.sliceBounds, sliceBound_run (P := P) (n := hh) (y := s.size) (code := .sliceAlen) (k := .i64) (by omega) (by omega) w,
        sliceBound_run (P := P) (n := l) (y := hh.toNat) (code := .sliceB) (k := .i64) (by omega) (by omega) w]
    obtain ⟨m, hb⟩ := hb
    simp [execOp, hop, Instr.sliceAt, Instr.slice, run_underlying ht, hx, hb]
   ·cases he
  ·cases he
 ·cases he

theorem indexAt_run {t e : TypeId} (ht : P.underlying t = some (.slice e)) {wd : Nat} (hn : szOf P e = some wd) {c off len cap : Nat} {k : IntKind} {i : Int} (h0 : 0 ≤ i) (h1 : i < len) (w : World) :
  (Instr.indexAt t (.slice (some ⟨c, off, none⟩) len cap) (.int k i)).run P w = .ok (.pointer (some ⟨c, off + i.toNat * wd, none⟩)) w := by
 simp [Instr.indexAt, asIntOf, run_underlying ht, h0, h1, szOf_run hn, addr_add]

theorem sound_iad (h : SimE C V a w fz ρ) {t e : TypeId} {x i : Operand} (hop : o.op = .indexAddr t x i) (ht : P.underlying t = some (.slice e)) {wd : Nat} (hn : szOf P e = some wd)
  {ef : Eff} (he : aIad wd [V.ev x, V.ev i] = some ef) (hob : ef.ob) (hd : ∀ i, o.dst = some i → i < C.N) : Sound P C V a w o ef := by
 have hx := h.ev x
 unfold aIad at he
 split at he
 ·rename_i xv k n heq
  simp only [List.cons.injEq, and_true] at heq
  obtain ⟨e1, e2⟩ := heq
  have hi := ev_int h e2
  rw [e1] at hx
  have frozen : ∀ (rows : List (List AV)) , moreA wd xv = some rows → 0 ≤ n ∧ n < rows.length → ∀ ob : Prop, Sound P C V a w o { out := .elt wd rows n.toNat 0, ob := ob } := by
   intro rows hm hb ob
   obtain ⟨ad, c, hv, hc, hr⟩ := moreA_holds hm hx
   rcases hr with ⟨_, rfl⟩ | ⟨b, o', rfl, hR⟩
   ·exact absurd hb.2 (by simp; omega)
   ·refine sound_value h (v := .pointer (some ⟨b, o' + n.toNat * wd, none⟩)) ?_ hd ?_ rfl
    ·simp only [execOp, hop, hv, hi, Sem.run_bind, indexAt_run ht hn hb.1 hb.2 w, Result.andThen_ok, Sem.run_pure]
    ·simp only [Holds]; exact ⟨b, o', by simp, hR⟩
  split at he
  ·rename_i b w' off m cap
   split at he
   ·rename_i e; subst e
    cases he
    simp only [Holds] at hx
    obtain ⟨c, hρ, hv⟩ := hx
    refine sound_value h (v := .pointer (some ⟨c, off + n.toNat * w', none⟩)) ?_ hd ?_ rfl
    ·simp only [execOp, hop, hv, hi, Sem.run_bind, indexAt_run ht hn hob.1 hob.2 w, Result.andThen_ok, Sem.run_pure]
    ·simp only [Holds]; exact ⟨c, hρ, rfl⟩
   ·cases he
  ·split at he
   ·rename_i e; subst e; cases he; exact frozen _ (by simp [moreA]) hob _
   ·cases he
  ·split at he
   ·rename_i e; subst e; cases he; exact frozen _ (by simp [moreA]) hob _
   ·cases he
  ·split at he
   ·rename_i e; subst e; cases he; exact frozen _ (by simp [moreA]) hob _
   ·cases he
  ·cases he
 ·cases he

theorem sound_idxs (h : SimE C V a w fz ρ) {t : TypeId} {x i : Operand} (hop : o.op = .index t x i) (ht : P.underlying t = some .string)
  {ef : Eff} (he : aIdxs [V.ev x, V.ev i] = some ef) (hob : ef.ob) (hd : ∀ i, o.dst = some i → i < C.N) : Sound P C V a w o ef := by
 have hx := h.ev x
 unfold aIdxs at he
 split at he
 ·rename_i s k n heq
  simp only [List.cons.injEq, and_true] at heq
  obtain ⟨e1, e2⟩ := heq
  have hi := ev_int h e2
  rw [e1] at hx; simp only [Holds] at hx
  cases he
  obtain ⟨h0, h1⟩ := hob
  have hlt : n.toNat < s.size := by omega
  refine sound_value h (v := .int .u8 (s.get! n.toNat).toNat) ?_ hd (by simp only [Holds]) rfl
  have hg : s[n.toNat]? = some (s.get! n.toNat) := by
   obtain ⟨d⟩ := s
   have hlt' : n.toNat < d.size := hlt
   show (if h : n.toNat < (ByteArray.mk d).size then some ((ByteArray.mk d)[n.toNat]'h) else none) = _
   rw [dif_pos hlt]
   congr 1
   show d[n.toNat] = d[n.toNat]!
   rw [getElem!_pos d n.toNat hlt']
  simp [execOp, hop, Instr.index, asIntOf, run_underlying ht, hx, hi, h0, hg]
 ·cases he
end Go.Aw
end
section
namespace Go.Aw
variable [GL]
variable {P : Program} {C : Ctx} {V : View} {a : Act} {w : World} {fz : Fz} {ρ : Ren} {o : Oper} {Q : Exit → Act → World → Prop}

theorem sound_fld (h : SimE C V a w fz ρ) {t : TypeId} {x : Operand} {f : Nat} (hop : o.op = .field t x f) {fields : Array Field} (ht : P.underlying t = some (.struct fields)) {fd : Field} (hf : fields[f]? = some fd)
  {n : Nat} {ag : Bool} (hn : szOf P fd.type = some n) (hag : isAggT P fd.type = some ag) {ef : Eff} (he : aFld fd.offset n ag [V.ev x] = some ef) (hd : ∀ i, o.dst = some i → i < C.N) : Sound P C V a w o ef := by
 have hx := h.ev x
 unfold aFld at he
 split at he
 ·rename_i l heq
  simp only [List.cons.injEq, and_true] at heq
  rw [heq] at hx; simp only [Holds] at hx
  obtain ⟨cs, hv, hl⟩ := hx
  split at he
  ·rename_i y hy
   cases he
   have hyo := pickA_own hy
   simp only [pickA] at hy
   cases ag with
   | true =>
    simp only [if_true] at hy
    split at hy
    ·rename_i hlt
     cases hy
     have hsl := ((hl.drop fd.offset).take n).dem
     refine sound_value h (v := .agg (cs.extract fd.offset (fd.offset + n))) ?_ hd ?_ rfl
     ·simp [execOp, hop, Instr.field, run_underlying ht, hf, hv, asAgg, part, isAgg_run hag, szOf_run hn]
     ·simp only [Holds]
      refine ⟨_, rfl, ?_⟩
      have e : (cs.extract fd.offset (fd.offset + n)).toList = (cs.toList.drop fd.offset).take n := by
       rw [Array.toList_extract, List.extract_eq_take_drop, Nat.add_sub_cancel_left]
      rw [e]; exact hsl
    ·cases hy
   | false =>
    simp only [Bool.false_eq_true, if_false] at hy
    cases hx : l[fd.offset]? with
    | none => rw [hx] at hy; simp at hy
    | some z =>
     rw [hx] at hy; simp at hy; subst hy
     obtain ⟨v, hv', hh⟩ := hl.get _ _ _ _ z hx
     have : cs[fd.offset]? = some v := by simpa using hv'
     exact sound_value h (v := v) (by simp [execOp, hop, Instr.field, run_underlying ht, hf, hv, asAgg, part, isAgg_run hag, this]) hd hh.dem hyo
  ·cases he
 ·cases he

theorem rowsOf_holds {x : AV} {rows : List (List AV)} (h : rowsOf x = some rows) {v : Value} (hx : Holds fz x ρ v) : ∃ a c, v = .slice a rows.length c := by
 unfold rowsOf at h
 split at h
 ·cases h; simp only [Holds] at hx; obtain ⟨a, c, e, _⟩ := hx; exact ⟨a, c, e⟩
 ·cases h; simp only [Holds] at hx; obtain ⟨a, e, _⟩ := hx; exact ⟨a, _, e⟩
 ·cases h; simp only [Holds] at hx; obtain ⟨a, c, e, _⟩ := hx; exact ⟨a, c, e⟩
 ·cases h; simp only [Holds] at hx; exact ⟨none, 0, hx⟩
 ·cases h

theorem sound_len (h : SimE C V a w fz ρ) {t : TypeId} {x : Operand} (hop : o.op = .call { callee := .builtin .len, args := #[x], argTypes := #[t] }) {kd : Nat}
  (ht : (kd = 0 ∧ ∃ e, P.underlying t = some (.slice e)) ∨ (kd = 1 ∧ P.underlying t = some .string) ∨ (kd = 2 ∧ ∃ k e, P.underlying t = some (.map k e)))
  {g : Nat → Option Blk} (hg : ∀ b k, g b = some k → V.hp b = some k) {ef : Eff} (he : aLen kd g [V.ev x] = some ef) (hd : ∀ i, o.dst = some i → i < C.N) : Sound P C V a w o ef := by
 have hx := h.ev x
 have run : ∀ n : Nat, (Builtin.len_ #[t] o.type #[a.eval x]).run P w = .ok (.int .i64 n) w → Sound P C V a w o { out := .val (.int .i64 n) } := by
  intro n hr
  exact sound_value h (v := .int .i64 n) (by simp [execOp, hop, resolve, invoke, builtin, hr]) hd (by simp only [Holds]) rfl
 rcases ht with ⟨rfl, e, ht⟩ | ⟨rfl, ht⟩ | ⟨rfl, k, e, ht⟩
 ·simp only [aLen] at he
  split at he
  ·rename_i b w' off n cap heq
   rw [heq] at hx; simp only [Holds] at hx
   obtain ⟨c, _, hv⟩ := hx
   cases he
   exact run n (by simp [Builtin.len_, run_underlying ht, hv, goInt])
  ·split at he
   ·rename_i rows hr
    cases he
    obtain ⟨ad, c, hv⟩ := rowsOf_holds hr hx
    exact run rows.length (by simp [Builtin.len_, run_underlying ht, hv, goInt])
   ·cases he
 ·cases hvx : V.ev x with
  | val v =>
   rw [hvx] at he hx
   cases v with
   | string s =>
    simp [aLen] at he; subst he
    simp only [Holds] at hx
    exact run s.size (by simp [Builtin.len_, run_underlying ht, hx, goInt])
   | _ => simp [aLen] at he
  | _ => rw [hvx] at he; simp [aLen] at he
 ·cases hvx : V.ev x with
  | mapr b =>
   rw [hvx] at he hx
   simp only [aLen] at he
   split at he
   ·rename_i ks vs hgb
    cases he
    simp only [Holds] at hx
    obtain ⟨c, hρ, hv⟩ := hx
    obtain ⟨c', hc', _, ⟨es, clock, hm, hks, _⟩, _⟩ := h.hp _ _ (hg _ _ hgb)
    rw [hρ] at hc'; cases hc'
    have : es.size = ks.length := by rw [← hks]; simp
    exact run ks.length (by simp [Builtin.len_, run_underlying ht, hv, goInt, getObj, Sem.run, hm, this])
   ·cases he
  | rmap ks vs =>
   rw [hvx] at he hx
   simp [aLen] at he; subst he
   simp only [Holds] at hx
   rcases hx with ⟨hv, rfl, _⟩ | ⟨c, es, clock, hv, ho, hks, _⟩
   ·exact run 0 (by simp [Builtin.len_, run_underlying ht, hv, goInt])
   ·have : es.size = ks.length := by rw [← hks]; simp
    exact run ks.length (by simp [Builtin.len_, run_underlying ht, hv, goInt, getObj, Sem.run, h.fobj c _ ho, this])
  | _ => rw [hvx] at he; simp [aLen] at he

theorem fill_holds {fz : Fz} (V : View) (a : Act) {ρ : Ren} (place : Nat → Option (Nat × Nat)) : ∀ (ps : List (Nat × Operand)) (tps : List (Nat × Nat × Operand)), partsOf place ps = some tps → (∀ p ∈ ps, Holds fz (V.ev p.2) ρ (a.eval p.2)) →
  ∀ (l l' : List AV) (cells : Array Value), HoldsL fz l ρ cells.toList → (∀ u ∈ cells.toList, u.oneCell' = true) → fillA l (tps.map fun p => (p.1, p.2.1, V.ev p.2.2)) = some l' →
  ∃ cells', Instr.fill place cells (ps.map fun p => (p.1, a.eval p.2)) = some cells' ∧ HoldsL fz l' ρ cells'.toList ∧ (∀ u ∈ cells'.toList, u.oneCell' = true) ∧ l'.length = l.length
 | [], tps, hp, _, l, l', cells, hl, h1, he => by
  simp only [partsOf, Option.some.injEq] at hp; subst hp
  simp only [List.map_nil, fillA, Option.some.injEq] at he; subst he
  exact ⟨cells, rfl, hl, h1, rfl⟩
 | (i, x) :: ps, tps, hp, hev, l, l', cells, hl, h1, he => by
  simp only [partsOf] at hp
  split at hp
  ·rename_i q r hq hr
   cases hp
   simp only [List.map_cons, fillA] at he
   split at he
   ·rename_i cs hcs
    split at he
    ·rename_i l2 hsp
     obtain ⟨hc1, hc2⟩ := cellsOf_holds (hev (i, x) (by simp)) hcs
     simp only [splice] at hsp
     split at hsp
     ·rename_i hlen
      cases hsp
      have hcl := hc1.len
      have hll := hl.len
      simp only [List.length_map] at hlen
      have hvs : (a.eval x).cells.size = q.2 := by simpa using hcl.trans hlen.1
      have hcsz : cells.size = l.length := by simpa using hll
      let cells2 : Array Value := (a.eval x).cells.zipIdx.foldl (fun cs (c, j) => cs.setIfInBounds (q.1 + j) c) cells
      have hset := Great.foldl_set q.1 (a.eval x).cells.toList 0 cells
      have hc2' : cells2 = ((a.eval x).cells.toList.zipIdx 0).foldl (fun cs (x : Value × Nat) => cs.setIfInBounds (q.1 + x.2) x.1) cells := by
       show (a.eval x).cells.zipIdx.foldl (fun cs (c, j) => cs.setIfInBounds (q.1 + j) c) cells = _
       rw [← Array.foldl_toList, Array.toList_zipIdx]
      rw [← hc2'] at hset
      have hl2 : cells2.toList = cells.toList.take q.1 ++ (a.eval x).cells.toList ++ cells.toList.drop (q.1 + q.2) := by
       apply List.ext_getElem?
       intro k
       have := hset.2 k
       simp only [Nat.add_zero, Array.length_toList] at this
       rw [Array.getElem?_toList, this]
       by_cases hk1 : k < q.1
       ·rw [if_neg (by omega), List.append_assoc, List.getElem?_append_left (by simp; omega)]
        simp [hk1]
       ·by_cases hk2 : k < q.1 + q.2
        ·rw [if_pos (by omega), List.append_assoc, List.getElem?_append_right (by simp; omega), List.getElem?_append_left (by simp; omega)]
         congr 1
         simp; omega
        ·rw [if_neg (by omega), List.getElem?_append_right (by simp; omega)]
         simp only [List.getElem?_drop, Array.getElem?_toList]
         congr 1
         simp; omega
      have hnew : HoldsL fz (l.take q.1 ++ cs.map Aw.dem ++ l.drop (q.1 + q.2)) ρ cells2.toList := by
       rw [hl2]; exact ((hl.take _).append hc1.dem).append (hl.drop _)
      obtain ⟨cells', hf, h3, h4, h5⟩ := fill_holds V a place ps r hr (fun p hp => hev p (by simp [hp])) _ _ cells2 hnew (fun u hu => by
       rw [hl2] at hu
       rcases List.mem_append.1 hu with hu | hu
       ·rcases List.mem_append.1 hu with hu | hu
        ·exact h1 u (List.mem_of_mem_take hu)
        ·exact hc2 u hu
       ·exact h1 u (List.mem_of_mem_drop hu)) he
      refine ⟨cells', ?_, h3, h4, by rw [h5]; simp; omega⟩
      simp only [List.map_cons, Instr.fill, hq]
      rw [if_neg (by simp; omega)]
      exact hf
     ·cases hsp
    ·cases he
   ·cases he
  ·cases hp

theorem zip_map_self {α β : Type} (l : List α) (f : α → β) : l.zip (l.map f) = l.map fun x => (x, f x) := by
 induction l with
 | nil => rfl
 | cons x l ih => simp [ih]

theorem sound_build (h : SimE C V a w fz ρ) {t : TypeId} {ps : Array (Nat × Operand)} (hop : o.op = .build t ps) {place : Nat → Option (Nat × Nat)} {z : Value} {tps : List (Nat × Nat × Operand)}
  (hb : ∀ parts, P.built t parts = Instr.fill place z.cells parts) (hz : z.cells.toList.all Value.oneCell' = true) (hp : partsOf place ps.toList = some tps)
  {ef : Eff} (he : aBuild z.cells.toList tps (tps.map fun p => V.ev p.2.2) = some ef) (hd : ∀ i, o.dst = some i → i < C.N) : Sound P C V a w o ef := by
 simp only [aBuild, zip_map_self, List.map_map] at he
 split at he
 ·rename_i l hl
  cases he
  obtain ⟨cells', hf, h1, h2, _⟩ := fill_holds (fz := fz) V a (ρ := ρ) place ps.toList tps hp (fun p _ => h.ev p.2) _ l z.cells (HoldsL.vals _) (fun u hu => List.all_eq_true.1 hz u hu) hl
  refine sound_value h (v := .agg cells') ?_ hd (by simp only [Holds]; exact ⟨_, rfl, h1⟩) rfl
  have := run_build (P := P) w t (ps.map fun (i, x) => (i, a.eval x)) cells' (by rw [hb]; simpa using hf)
  simp [execOp, hop, this]
 ·cases he

mutual
theorem Holds.noref {fz : Fz} : ∀ (x : AV) (ρ ρ' : Ren) (v : Value), noref x = true → Holds fz x ρ v → Holds fz x ρ' v
 | .unk, _, _, _, _, _ => by simp only [Holds]
 | .val u, _, _, _, _, h => by simpa only [Holds] using h
 | .agg l, ρ, ρ', v, hf, h => by
  simp only [Holds] at h ⊢; simp only [Aw.noref] at hf; obtain ⟨cs, e, h⟩ := h; exact ⟨cs, e, HoldsL.noref l ρ ρ' _ hf h⟩
 | .tup l, ρ, ρ', v, hf, h => by
  simp only [Holds] at h ⊢; simp only [Aw.noref] at hf; obtain ⟨cs, e, h⟩ := h; exact ⟨cs, e, HoldsL.noref l ρ ρ' _ hf h⟩
 | .clo fn l, ρ, ρ', v, hf, h => by
  simp only [Holds] at h ⊢; simp only [Aw.noref] at hf; obtain ⟨cs, e, h⟩ := h; exact ⟨cs, e, HoldsL.noref l ρ ρ' _ hf h⟩
 | .ifc t x, ρ, ρ', v, hf, h => by
  simp only [Holds] at h ⊢; simp only [Aw.noref] at hf; obtain ⟨u, e, h⟩ := h; exact ⟨u, e, Holds.noref x ρ ρ' _ hf h⟩
 | .rd .., _, _, _, _, h | .fx .., _, _, _, _, h | .own .., _, _, _, _, h | .elt .., _, _, _, _, h | .rmap .., _, _, _, _, h | .kset .., _, _, _, _, h => by simpa only [Holds] using h
 | .ptr .., _, _, _, hf, _ | .vec .., _, _, _, hf, _ | .mapr .., _, _, _, hf, _ => by simp [Aw.noref] at hf
theorem HoldsL.noref {fz : Fz} : ∀ (l : List AV) (ρ ρ' : Ren) (vs : List Value), norefL l = true → HoldsL fz l ρ vs → HoldsL fz l ρ' vs
 | [], _, _, _, _, h => by simpa only [HoldsL] using h
 | x :: xs, ρ, ρ', vs, hf, h => by
  simp only [HoldsL] at h ⊢; simp only [norefL, Bool.and_eq_true] at hf; obtain ⟨v, r, e, h1, h2⟩ := h
  exact ⟨v, r, e, Holds.noref x ρ ρ' v hf.1 h1, HoldsL.noref xs ρ ρ' r hf.2 h2⟩
end
theorem norefL_mem {l : List AV} (h : norefL l = true) : ∀ x ∈ l, noref x = true := by
 induction l with
 | nil => simp
 | cons y l ih =>
  simp only [norefL, Bool.and_eq_true] at h
  intro x hx
  cases List.mem_cons.1 hx with
  | inl e => subst e; exact h.1
  | inr e => exact ih h.2 x e

/-- the cells of block g are never to be written again -/
def Fz.add (fz : Fz) (g : Nat) (cs : List Value) : Fz := { cell := fun b o => if b = g then cs[o]? else fz.cell b o, obj := fz.obj }
theorem Fz.le_add {fz : Fz} {g : Nat} {cs : List Value} (h : ∀ o, fz.cell g o = none) : fz.le (fz.add g cs) := by
 refine ⟨fun b o v e => ?_, fun b o e => e⟩
 simp only [Fz.add]
 split
 ·rename_i hb; subst hb; rw [h o] at e; cases e
 ·exact e
theorem HoldsR.chunk {fz : Fz} {g wd n : Nat} {l : List AV} {vs : List Value} (hl : HoldsL fz l noRen vs) (h1 : ∀ u ∈ vs, u.oneCell' = true) (hlen : l.length = n * wd) (hc : ∀ (j : Nat) (v : Value), vs[j]? = some v → fz.cell g j = some v) :
  HoldsR fz (chunk wd n l) wd g 0 := by
 refine HoldsR.of_get _ _ _ _ fun i r hr => ?_
 simp only [Aw.chunk, List.getElem?_map] at hr
 cases hi : (List.range n)[i]? with
 | none => rw [hi] at hr; simp at hr
 | some i' =>
  rw [hi] at hr
  obtain ⟨hlt, he⟩ := List.getElem?_eq_some_iff.1 hi
  simp only [List.getElem_range] at he
  subst he
  simp at hr; subst hr
  have hin : i < n := by simpa using hlt
  have hmul : i * wd + wd ≤ n * wd := by
   have := Nat.mul_le_mul_right wd (show i + 1 ≤ n from hin)
   rw [Nat.add_mul] at this; omega
  refine ⟨by simp; omega, HoldsC.of_get _ _ _ fun j x hj => ?_⟩
  rw [List.getElem?_take] at hj
  split at hj
  ·rw [List.getElem?_drop] at hj
   obtain ⟨v, hv, hh⟩ := hl.get _ _ _ _ x hj
   exact ⟨v, by rw [Nat.zero_add]; exact hc _ v hv, h1 v (List.mem_of_getElem? hv), hh⟩
  ·cases hj

/-- a new block, never to be written again -/
theorem SimE.newFz (h : SimE C V a w fz ρ) {e : TypeId} {cells : Array Value} : SimE C V a (w.alloc (.cells cells e)) (fz.add w.heap.size cells.toList) ρ := by
 have hnew := h.fz_new (Nat.le_refl _)
 have hext := Ext.alloc w (.cells cells e)
 refine h.extend hext (Fz.le_add hnew.1) (fun c o v hv => ?_) (fun c o hv => hext.heap (h.fobj c o hv)) (fun c hc => ⟨fun o => ?_, rfl⟩)
 ·simp only [Fz.add] at hv
  split at hv
  ·rename_i hc; subst hc
   have := heap_alloc_new w (.cells cells e)
   simp only [World.cell?, this, Option.isSome_none, Bool.false_eq_true, if_false]
   simpa using hv
  ·exact hext.cell (h.fcell c o v hv)
 ·simp only [Fz.add]
  rw [if_neg (by omega)]

end Go.Aw
end
