/- Comparisons and sums; slices of slices; maps. -/
import Derived.Test.YtlkilbfegcplmaaAwH
import Derived.Laws.StructEq
set_option linter.unusedSimpArgs false
set_option linter.unusedVariables false
namespace Go.Aw
variable {P : Program} {C : Ctx} {V : View} {a : Act} {w : World} {fz : Fz} {ρ : Ren} {o : Oper} {Q : Exit → Act → World → Prop}

theorem toList_beq (x y : ByteArray) : (x.toList == y.toList) = decide (x = y) := by
  rw [ByteArray.toList_eq, ByteArray.toList_eq]
  obtain ⟨⟨x⟩⟩ := x
  obtain ⟨⟨y⟩⟩ := y
  rw [Bool.eq_iff_iff]; simp

theorem eqGuard_plain (op : BinOp) (t : TypeId) (x y : Operand) (u v : Value) (hu : u.oneCell' = true) (hn : u ≠ .nilIface) : (eqGuard op t x y u v).run P w = .ok () w := by
  cases op <;> simp only [eqGuard, Bool.not_false, Bool.not_true, if_true, Bool.false_eq_true, if_false, Sem.run_pure] <;>
    (cases u <;> simp_all [Value.oneCell'])

theorem binI_run {op : BinOp} {k : IntKind} {x y : Int} {r : Value} (h : binI op k x y = some r) (t : TypeId) : (binOp op t (.int k x) (.int k y)).run P w = .ok r w := by
  cases op <;> simp [binI, cmpInt] at h <;> subst h <;> simp [binOp, Op.intArith, Op.intCmp]

theorem sound_bin (h : SimE C V a w fz ρ) {op : BinOp} {t u : TypeId} {x y : Operand} (hop : o.op = .binOp op t x y u) {ef : Eff} (he : aBin op [V.ev x, V.ev y] = some ef) (hob : ef.ob) (hd : ∀ i, o.dst = some i → i < C.N) : Sound P C V a w o ef := by
  have hx := h.ev x
  have hy := h.ev y
  simp only [aBin] at he
  split at he
  · rename_i r hr
    cases he
    simp only at hob
    have run : ∀ v, (eqGuard op t x y (a.eval x) (a.eval y)).run P w = .ok () w → (binOp op t (a.eval x) (a.eval y)).run P w = .ok v w → (execOp a.eval o).run P w = .ok (.value v) w := by
      intro v h1 h2
      simp [execOp, hop, h1, h2]
    unfold binA at hr
    split at hr
    · rename_i op' _ _ _ j x' k y' hvx hvy
      rw [hvx] at hx; rw [hvy] at hy; simp only [Holds] at hx hy
      split at hr
      · rename_i hjk
        subst hjk
        split at hr
        · cases hr
          simp only at hob
          refine sound_value h (run (.int j (j.wrap (x'.tdiv y'))) ?_ ?_) hd (by simp only [Holds]) rfl
          · rw [hx]; exact eqGuard_plain _ _ _ _ _ _ rfl (by simp)
          · rw [hx, hy]; simp [binOp, Op.intDiv, hob]
        · cases hr
          simp only at hob
          refine sound_value h (run (.int j (x'.tmod y')) ?_ ?_) hd (by simp only [Holds]) rfl
          · rw [hx]; exact eqGuard_plain _ _ _ _ _ _ rfl (by simp)
          · rw [hx, hy]; simp [binOp, Op.intDiv, hob]
        · cases hI : binI op' j x' y' with
          | none => rw [hI] at hr; simp at hr
          | some v =>
            rw [hI] at hr; simp at hr; subst hr
            refine sound_value h (run v ?_ ?_) hd (by simp only [Holds]) rfl
            · rw [hx]; exact eqGuard_plain _ _ _ _ _ _ rfl (by simp)
            · rw [hx, hy]; exact binI_run hI t
      · cases hr
    · rename_i x' y' hvx hvy
      rw [hvx] at hx; rw [hvy] at hy; simp only [Holds] at hx hy
      cases hr
      refine sound_value h (run _ ?_ ?_) hd (by simp only [Holds]; rfl) rfl
      · rw [hx]; exact eqGuard_plain _ _ _ _ _ _ rfl (by simp)
      · rw [hx, hy]; simp [binOp, Op.stringOp, toList_beq]
    · rename_i x' y' hvx hvy
      rw [hvx] at hx; rw [hvy] at hy; simp only [Holds] at hx hy
      cases hr
      refine sound_value h (run _ ?_ ?_) hd (by simp only [Holds]; rfl) rfl
      · rw [hx]; exact eqGuard_plain _ _ _ _ _ _ rfl (by simp)
      · rw [hx, hy]; simp [binOp, Op.stringOp, toList_beq]
    · rename_i x' y' hvx hvy
      rw [hvx] at hx; rw [hvy] at hy; simp only [Holds] at hx hy
      cases hr
      simp only at hob
      refine sound_value h (run (.string (x' ++ y')) ?_ ?_) hd (by simp only [Holds]) rfl
      · rw [hx]; exact eqGuard_plain _ _ _ _ _ _ rfl (by simp)
      · rw [hx, hy]
        have hm : IntKind.i64.max = 9223372036854775807 := rfl
        have : ¬ (9223372036854775807 < (x'.size : Int) + y'.size) := by omega
        simp [binOp, Op.stringOp, hm, this]
    · rename_i x' y' hvx hvy
      rw [hvx] at hx; rw [hvy] at hy; simp only [Holds] at hx hy
      cases hr
      refine sound_value h (run _ ?_ ?_) hd (by simp only [Holds]; rfl) rfl
      · rw [hx]; exact eqGuard_plain _ _ _ _ _ _ rfl (by simp)
      · rw [hx, hy]; simp [binOp, Op.stringOp]
    · cases hr
  · cases he

theorem sound_eqb (h : SimE C V a w fz ρ) {neg : Bool} {op : BinOp} (hneg : op = if neg then .neq else .eql) {t u : TypeId} {x y : Operand} (hop : o.op = .binOp op t x y u) (ht : P.underlying t = some .bool)
    {ef : Eff} (he : aEqb neg [V.ev x, V.ev y] = some ef) (hd : ∀ i, o.dst = some i → i < C.N) : Sound P C V a w o ef := by
  have hx := h.ev x
  have hy := h.ev y
  unfold aEqb at he
  split at he
  · rename_i b c heq
    simp only [List.cons.injEq, and_true] at heq
    rw [heq.1] at hx; rw [heq.2] at hy; simp only [Holds] at hx hy
    cases he
    refine sound_value h (v := .bool (if neg then !(b == c) else b == c)) ?_ hd (by simp only [Holds]) rfl
    have h1 : (eqGuard op t x y (a.eval x) (a.eval y)).run P w = .ok () w := by rw [hx]; exact eqGuard_plain _ _ _ _ _ _ rfl (by simp)
    cases neg <;> simp only [Bool.false_eq_true, if_false, if_true] at hneg <;> subst hneg <;> rw [hx, hy] at h1 <;>
      simp [execOp, hop, h1, hx, hy, binOp, Op.equal, Op.maxDepth, run_equalIn_bool' w 9999 t b c ht]
  · cases he

theorem eqFields_plain : ∀ (fs : List Field) (n : Nat) (ks : List Nat), kindsOf P fs n = some ks → ∀ (l r : List AV) (xs ys : Array Value) (b : Bool), eqA ks l r = some b →
    (∀ (j : Nat) (x : AV), l[j]? = some x → ∃ v, xs[n + j]? = some v ∧ Holds fz x ρ v) → (∀ (j : Nat) (x : AV), r[j]? = some x → ∃ v, ys[n + j]? = some v ∧ Holds fz x ρ v) → ∀ d,
    (Op.eqFields (d + 1) xs ys fs).run P w = .ok b w
  | [], n, ks, hk, l, r, xs, ys, b, he, hl, hr, d => by
    simp only [kindsOf, Option.some.injEq] at hk; subst hk
    cases l <;> cases r <;> simp [eqA] at he
    subst he
    simp [Op.eqFields]
  | f :: fs, n, ks, hk, l, r, xs, ys, b, he, hl, hr, d => by
    simp only [kindsOf] at hk
    split at hk
    · rename_i hc
      obtain ⟨hoff, hname⟩ := hc
      have key : ∀ (k : Nat) (ks' : List Nat), kindsOf P fs (n + 1) = some ks' → ks = k :: ks' → isAggT P f.type = some false →
          (∀ x y c u v, eqV k x y = some c → Holds fz x ρ u → Holds fz y ρ v → (Op.equalIn (d + 1) f.type u v).run P w = .ok c w) → (Op.eqFields (d + 1) xs ys (f :: fs)).run P w = .ok b w := by
        intro k ks' hk' hks hag hrun
        subst hks
        cases l with
        | nil => simp [eqA] at he
        | cons x l =>
          cases r with
          | nil => simp [eqA] at he
          | cons y r =>
            simp only [eqA] at he
            cases hv : eqV k x y with
            | none => rw [hv] at he; simp at he
            | some c =>
              rw [hv] at he
              cases hA : eqA ks' l r with
              | none => rw [hA] at he; simp at he
              | some c' =>
                rw [hA] at he; simp at he; subst he
                obtain ⟨u, hu, hhu⟩ := hl 0 x (by simp)
                obtain ⟨v, hv', hhv⟩ := hr 0 y (by simp)
                have ih := eqFields_plain fs (n + 1) ks' hk' l r xs ys c' hA (fun j x hj => by
                    have := hl (j + 1) x (by simpa using hj)
                    rwa [show n + (j + 1) = n + 1 + j from by omega] at this) (fun j x hj => by
                    have := hr (j + 1) x (by simpa using hj)
                    rwa [show n + (j + 1) = n + 1 + j from by omega] at this) d
                simp only [Nat.add_zero] at hu hv'
                have hp1 : (part f.type xs f.offset).run P w = .ok u w := by simp [part, isAgg_run hag, hoff, hu]
                have hp2 : (part f.type ys f.offset).run P w = .ok v w := by simp [part, isAgg_run hag, hoff, hv']
                have he1 := hrun x y c u v hv hhu hhv
                cases c <;> simp [Op.eqFields, hname, hp1, hp2, he1, ih]
      cases hu : P.underlying f.type with
      | none => rw [hu] at hk; simp at hk
      | some dd =>
        cases hks : kindsOf P fs (n + 1) with
        | none => rw [hu, hks] at hk; cases dd <;> simp at hk
        | some ks' =>
          rw [hu, hks] at hk
          cases dd with
          | int k' =>
            simp at hk
            refine key 0 ks' hks hk.symm (by simp [isAggT, hu]) fun x y c u v hc hx hy => ?_
            unfold eqV at hc
            split at hc
            · split at hc
              · rename_i hjj
                cases hc
                simp only [Holds] at hx hy
                subst hx; subst hy
                rw [← hjj.2]
                exact run_equalIn_int w d _ _ k' _ _ hu
              · cases hc
            · simp at hc
            · simp at hc
            · cases hc
          | string =>
            simp at hk
            refine key 1 ks' hks hk.symm (by simp [isAggT, hu]) fun x y c u v hc hx hy => ?_
            unfold eqV at hc
            split at hc
            · simp at hc
            · simp at hc
              simp only [Holds] at hx hy
              subst hx; subst hy; subst hc
              rw [run_equalIn_string w d _ _ _ hu, toList_beq]
            · simp at hc
            · cases hc
          | bool =>
            simp at hk
            refine key 2 ks' hks hk.symm (by simp [isAggT, hu]) fun x y c u v hc hx hy => ?_
            unfold eqV at hc
            split at hc
            · simp at hc
            · simp at hc
            · simp at hc
              simp only [Holds] at hx hy
              subst hx; subst hy; subst hc
              exact run_equalIn_bool' w d _ _ _ hu
            · cases hc
          | _ => simp at hk
    · cases hk

theorem sound_eqg (h : SimE C V a w fz ρ) {neg : Bool} {op : BinOp} (hneg : op = if neg then .neq else .eql) {t u : TypeId} {x y : Operand} (hop : o.op = .binOp op t x y u) {fields : Array Field} (ht : P.underlying t = some (.struct fields))
    (hs : P.stoodInHeld t = false) (hg : P.eqGuardType P.depth t = false) {ks : List Nat} (hk : kindsOf P fields.toList 0 = some ks)
    {ef : Eff} (he : aEqg neg ks [V.ev x, V.ev y] = some ef) (hd : ∀ i, o.dst = some i → i < C.N) : Sound P C V a w o ef := by
  have hx := h.ev x
  have hy := h.ev y
  unfold aEqg at he
  split at he
  · rename_i l r heq
    simp only [List.cons.injEq, and_true] at heq
    rw [heq.1] at hx; rw [heq.2] at hy; simp only [Holds] at hx hy
    obtain ⟨xs, hx, hl⟩ := hx
    obtain ⟨ys, hy, hr⟩ := hy
    split at he
    · rename_i b hb
      cases he
      have hf : P.fieldsOf t = fields := by simp [Program.fieldsOf, ht]
      have hE := eqFields_plain (w := w) fields.toList 0 ks hk l r xs ys b hb (fun j x hj => by
          obtain ⟨v, hv, hh⟩ := hl.get _ _ _ j x hj
          exact ⟨v, by simpa using hv, hh⟩) (fun j x hj => by
          obtain ⟨v, hv, hh⟩ := hr.get _ _ _ j x hj
          exact ⟨v, by simpa using hv, hh⟩) 9998
      have hEq : (Op.equalIn 10000 t (.agg xs) (.agg ys)).run P w = .ok b w := by
        rw [run_equalIn_struct w 9999 t xs ys (by rw [hf]; exact ht) hs, hf]; exact hE
      have h1 := run_eqGuard_agg (P := P) w op t x y xs ys hg
      refine sound_value h (v := .bool (if neg then !b else b)) ?_ hd (by simp only [Holds]) rfl
      cases neg <;> simp only [Bool.false_eq_true, if_false, if_true] at hneg <;> subst hneg
      · have := run_eql_struct (P := P) w t xs ys
        rw [hEq] at this
        simp [execOp, hop, hx, hy, h1, this]
      · have := run_neq_struct (P := P) w t xs ys
        rw [hEq] at this
        simp [execOp, hop, hx, hy, h1, this]
    · cases he
  · cases he
end Go.Aw
