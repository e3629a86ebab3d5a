/- Closed runs: a region, run, is sound. -/
import Derived.Test.YtempphkfacccoaaEvO
set_option linter.unusedSimpArgs false
set_option linter.unusedVariables false
namespace Go.Ev
open Go.Aw (edgesOf)
variable {P : Program} {C : Ctx} {a : Act} {w : World} {ops : Array Oper} {Q : Exit → Act → World → Prop} {o : Oper} {x y : XOp} {i : Nat}

theorem Sim.draw {V : View} (h : Sim C V a w) : Sim C V a { w with drawn := w.drawn + 1 } := by
  obtain ⟨ρ, h⟩ := h
  refine ⟨ρ, { df := h.df, sz := h.sz, tm := h.tm, mem := ?_ }⟩
  have hb : ∀ {L : Loc} {k : EBlk}, BlkAt ρ w L k → BlkAt ρ { w with drawn := w.drawn + 1 } L k := fun {L k} hB => hB.mono (Ren.le_refl _) rfl
  exact { h.mem with hp := fun b k e => (h.mem.hp b k e).imp id fun ⟨L, h1, h2, h3⟩ => ⟨L, h1, h2, hb h3⟩ }

theorem compReg_spec {N : Nat} {mixed : Bool} {r : XReg} (h : compReg P N ops mixed = some r) : r.L.length = ops.size ∧ r.n = r.L.length ∧
    (∀ (j : Nat) (x : XOp), r.L[j]? = some x → ∃ o, ops[j]? = some o ∧ IsX P N ops o x ∧ ∀ q ∈ x.kill, j < q ∧ q < r.n) ∧ (r.kl = false → ∀ x ∈ r.L, x.kill = []) ∧
    (mixed = true → (∀ (j : Nat) (o : Oper), ops[j]? = some o → ∀ e ∈ edgesOf o, e < j) ∧ ∀ (i j : Nat) (x y : XOp), i < j → r.L[i]? = some x → r.L[j]? = some y →
      i ∈ (reachS (ops.toList.map edgesOf) []).getD j [] ∨ (indT x y = true ∧ (statI x y j = true ∨ (i, j) ∈ r.prs))) := by
  unfold compReg at h
  split at h
  · cases h
  · rename_i L0 hL0
    obtain ⟨h1, h2⟩ := trXs_get _ _ hL0
    have hk0 : ∀ x ∈ L0, x.kill = [] := by
      intro x hx
      obtain ⟨i, hi, rfl⟩ := List.getElem_of_mem hx
      obtain ⟨o, _, ho⟩ := h2 i _ (List.getElem?_eq_getElem hi)
      simp only [trX] at ho
      repeat' split at ho
      all_goals first | (cases ho; done) | (simp only [Option.some.injEq] at ho; rw [← ho])
    have hlen : L0.length = ops.size := by simpa using h1
    split at h
    · simp only [Option.some.injEq] at h; subst h
      refine ⟨hlen, rfl, fun j x hx => ?_, fun _ => hk0, fun hm => (Bool.noConfusion hm)⟩
      obtain ⟨o, ho, htr⟩ := h2 j x hx
      refine ⟨o, by simpa using ho, ?_, ?_⟩
      · have := trX_is htr x.kill
        cases x; exact this
      · rw [hk0 x (List.mem_of_getElem? hx)]; simp
    · split at h
      · cases h
      · rename_i hback
        split at h
        · cases h
        · rename_i prs hprs
          simp only [Option.some.injEq] at h; subst h
          obtain ⟨k1, k2⟩ := withKill_get (ms := masksT (ops.toList.map edgesOf) 0 .nil) L0 0 hk0
          refine ⟨by rw [k1, hlen], by simp only; rw [k1], fun j x hx => ?_, fun hkl x hx => ?_, fun _ => ⟨fun j o ho e he => ?_, fun i j x y hij hx hy => ?_⟩⟩
          · obtain ⟨x0, l, e1, rfl, e3⟩ := k2 j x hx
            obtain ⟨o, ho, htr⟩ := h2 j x0 e1
            refine ⟨o, by simpa using ho, trX_is htr l, fun q hq => ?_⟩
            have := e3 q hq
            simp only; omega
          · have := List.any_eq_false.1 hkl x hx
            simpa using this
          · have := backE_spec _ 0 hback j (edgesOf o) (by rw [List.getElem?_map]; simp [ho]) e he
            omega
          · have := allP_spec _ 0 prs hprs i j x y hij hx hy
            simp only [Nat.zero_add] at this
            refine this.imp (fun hb => ?_) id
            rw [bitOf_eq] at hb
            have := masksT_spec (ops.toList.map edgesOf) .nil [] (fun e i h => by simp [tmask, Tr.get] at h) j i hb
            simpa using this

theorem noal_of {I : List Inf} (h : noalI I = true) {i j : Nat} {D : List Nat} {H0 H1 : Tr EBlk} {J : Inf} (hi : I[i]? = some (.call D H0 H1)) (hj : I[j]? = some J) : noalI1 D J = true := by
  simp only [noalI, List.all_eq_true] at h
  have := h _ (List.mem_of_getElem? hi)
  simp only [List.all_eq_true] at this
  exact this J (List.mem_of_getElem? hj)

theorem reg_sound {F : Fn'} (hF : FOK P F) (hm : P.follows .mixedOrders = true) {mixed : Bool} {r : XReg} (hc : compReg P C.N ops mixed = some r) {E E' : Env} {H H' : Hp} {R : Nat → Prop} (hok : HOK H.t.get H.nx R)
    (hs : semReg F H.nx r.L H.nx E ⟨H.t, H.nx + r.n⟩ = some (E', H')) (hk : chkR r.prs r.kl (infs F H.nx r.L H.nx E ⟨H.t, H.nx + r.n⟩) = true) :
    (HOK H'.t.get H'.nx R ∧ Aft H.nx H H') ∧ ∀ (id : Nat) (Q : Exit → Act → World → Prop) (a : Act) (w : World), Sim C (vw E H.t.get) a w → (∀ a' w', Sim C (vw E' H'.t.get) a' w' → Q .normal a' w') → (Code.region id ops mixed).wp P Q a w := by
  obtain ⟨c1, c2, c3, c4, c5⟩ := compReg_spec hc
  let af : Nat → List Nat := fun j => match ops[j]? with | some o => edgesOf o | none => []
  have hN : Nm H.nx r.n 0 ⟨H.t, H.nx + r.n⟩ R := ⟨⟨fun b hb => hok.free b (by have : H.nx + r.n ≤ b := hb; omega), hok.al, hok.res⟩, Nat.le_refl _, fun j _ _ => hok.free _ (by omega)⟩
  obtain ⟨S, k1, k2, k3, k4, k5, k6, k7⟩ := semReg_spec (C := C) (ops := ops) hF (base := H.nx) (n := r.n) (R := R) af r.L 0 E E' ⟨H.t, H.nx + r.n⟩ H' (by simpa using hs) (fun j x hx => by
    obtain ⟨o, h1, h2, h3⟩ := c3 j x hx
    exact ⟨o, by simpa using h1, h2, by simpa using h3⟩) (by omega) hN
  rw [Nat.add_zero] at k3 k4
  refine ⟨⟨k6.ok, ⟨Nat.le_trans (Nat.le_add_right _ _) k7.nx, k7.low, k7.stay⟩⟩, fun id Q a w hsim hQ => ?_⟩
  have hget : ∀ (j : Nat) (s : Step), S[j]? = some s → ∃ x inf v o, r.L[j]? = some x ∧ (infs F H.nx r.L H.nx E ⟨H.t, H.nx + r.n⟩)[j]? = some inf ∧ s = stepOf x v (af j) inf ∧ ops[j]? = some o ∧ IsX P C.N ops o x := by
    intro j s hj
    have hlt := (List.getElem?_eq_some_iff.1 hj).1
    have hL : r.L[j]? = some (r.L[j]'(by omega)) := List.getElem?_eq_getElem _
    have hI : (infs F H.nx r.L H.nx E ⟨H.t, H.nx + r.n⟩)[j]? = some ((infs F H.nx r.L H.nx E ⟨H.t, H.nx + r.n⟩)[j]'(by omega)) := List.getElem?_eq_getElem _
    obtain ⟨v, hv⟩ := k3 j s _ _ hj hL hI
    obtain ⟨o, ho, hx, _⟩ := c3 j _ hL
    rw [Nat.zero_add] at hv
    exact ⟨_, _, v, o, hL, hI, hv, ho, hx⟩
  simp only [chkR, Bool.and_eq_true] at hk
  have hran : Ran P C ops S (vw E H.t.get) := by
    refine ⟨by omega, fun j s hj => by have := k2 j s hj; rwa [Nat.zero_add] at this, fun j s o hj ho => ?_, fun j s hj b hfr => ?_⟩
    · obtain ⟨x, inf, v, o', hL, hI, rfl, ho', hx⟩ := hget j s hj
      have : (stepOf x v (af j) inf).after = af j := by cases inf <;> rfl
      rw [this]
      simp only [af, ho]
    · obtain ⟨x, inf, v, o, hL, hI, rfl, ho, hx⟩ := hget j s hj
      cases inf with
      | mem t u => exact hfr.elim
      | call D H0 H1 =>
        have hbD : b ∈ D := hfr
        obtain ⟨y, E1, Ha, Hb, v1, hy, hop⟩ := infs_get _ _ _ _ _ _ hI
        rw [hL] at hy; cases hy
        have hD := (inf_of hop).2.2.2 D H0 H1 rfl
        have hkl : r.kl = true := by
          cases h : r.kl with
          | true => rfl
          | false =>
            have := c4 h x (List.mem_of_getElem? hL)
            rw [hD, this] at hbD; simp at hbD
        rw [hkl] at hk
        have hb0 : H.t.get b = none := by
          rw [hD] at hbD
          obtain ⟨q, _, rfl⟩ := List.mem_map.1 hbD
          exact hok.free _ (by omega)
        refine ⟨by show NoAl (H.t.get b); rw [hb0]; trivial, fun j' s' hj' k hk' => ?_⟩
        obtain ⟨x', inf', v', o', hL', hI', rfl, ho', hx'⟩ := hget j' s' hj'
        have hna := noal_of hk.2 hI hI'
        cases inf' with
        | mem t u =>
          simp only [noalI1, List.all_eq_true, Bool.or_eq_true, Bool.not_eq_true'] at hna
          rcases hna _ (lk_mem hk') with h | h
          · rw [mmem_iff.2 hbD] at h; cases h
          · simpa using h
        | call D' H0' H1' =>
          simp only [noalI1, List.all_eq_true] at hna
          simp only [stepOf] at hk'
          split at hk'
          · cases hk'
          · have := hna b hbD
            rw [hk'] at this
            simpa using this
  cases mixed with
  | false => exact region_plain hran hsim fun a' w' hs' => hQ a' w' (by rw [← k5]; exact hs')
  | true =>
    obtain ⟨d1, d2⟩ := c5 rfl
    refine region_any hm hran ⟨fun j s hj e he => ?_, fun i j s s' hij hi hj => ?_⟩ (fun h => h.draw) hsim fun a' w' hs' => hQ a' w' (by rw [← k5]; exact hs')
    · obtain ⟨x, inf, v, o, hL, hI, rfl, ho, hx⟩ := hget j s hj
      have : (stepOf x v (af j) inf).after = af j := by cases inf <;> rfl
      rw [this] at he
      simp only [af, ho] at he
      exact d1 j o ho e he
    · have hmap : S.map (·.after) = ops.toList.map edgesOf := by
        apply List.ext_getElem?
        intro m
        rw [List.getElem?_map, List.getElem?_map]
        cases hm' : S[m]? with
        | none =>
          have : S.length ≤ m := List.getElem?_eq_none_iff.1 hm'
          rw [List.getElem?_eq_none (by simp; omega)]; rfl
        | some s0 =>
          obtain ⟨x, inf, v, o, hL, hI, rfl, ho, hx⟩ := hget m s0 hm'
          have : (stepOf x v (af m) inf).after = af m := by cases inf <;> rfl
          rw [Option.map_some, this]
          have h2 : af m = edgesOf o := by simp only [af, ho]
          rw [h2]; simp [ho]
      rw [hmap]
      obtain ⟨x, inf, v, o, hL, hI, rfl, ho, hx⟩ := hget i s hi
      obtain ⟨y, inf', v', o', hL', hI', rfl, ho', hx'⟩ := hget j s' hj
      rcases d2 i j x y hij hL hL' with h | ⟨hT, h⟩
      · exact .inl h
      · refine .inr (indep_of hT ?_)
        rcases h with h | h
        · obtain ⟨z, E1, Ha, Hb, v1, hz, hop⟩ := infs_get _ _ _ _ _ _ hI
          rw [hL] at hz; cases hz
          obtain ⟨z, E2, Hc, Hd, v2, hz, hop'⟩ := infs_get _ _ _ _ _ _ hI'
          rw [hL'] at hz; cases hz
          exact indI_stat (by omega) hop hop' h
        · obtain ⟨p, q, hp, hq, hpq⟩ := indP_spec _ hk.1 i j h
          rw [hI] at hp; rw [hI'] at hq; cases hp; cases hq
          exact hpq
end Go.Ev
