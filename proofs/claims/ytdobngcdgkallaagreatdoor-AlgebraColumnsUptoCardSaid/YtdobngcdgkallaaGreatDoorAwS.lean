/- Regions, in whatever order. -/
import Derived.Test.YtdobngcdgkallaaGreatDoorAwR
set_option linter.unusedSimpArgs false
set_option linter.unusedVariables false
set_option linter.unusedSectionVars false
namespace Go.Aw
variable [GL]
variable {P : Program} {C : Ctx} {a : Act} {w : World} {ops : Array Oper} {Q : Exit → Act → World → Prop}

structure Ran (P : Program) (N : Nat) (L : List ROp) (R : List Res) (V0 : View) (E : List Eff) : Prop where
 len : E.length = L.length
 eff : ∀ (i : Nat) (r : ROp) (e : Eff), L[i]? = some r → E[i]? = some e → effG P (R.getD i {}) r (Vsel L E (fun j => decide (j < i)) 0 V0) = some e ∧ e.ob
 ok : ∀ r ∈ L, okDst N r.dst r.op = true

theorem Vsel_all {L : List ROp} {E : List Eff} (V0 : View) (sel : Nat → Bool) (h : ∀ i, i < L.length → sel i = true) : Vsel L E sel 0 V0 = Vsel L E (fun _ => true) 0 V0 := by
 refine View.ext (fun t => Vsel_tm _ _ _ _ _ _ _ _ rfl fun i r e hr _ _ => ?_) (fun b => Vsel_hp _ _ _ _ _ _ _ _ rfl fun i r e hr _ _ => ?_)
 all_goals
  obtain ⟨hlt, _⟩ := List.getElem?_eq_some_iff.1 hr
  rw [Nat.zero_add]; exact h i hlt

theorem Vsel_none : ∀ (L : List ROp) (E : List Eff) (sel : Nat → Bool) (k : Nat) (V : View), (∀ j, k ≤ j → sel j = false) → Vsel L E sel k V = V
 | [], _, _, _, _, _ => by simp [Vsel]
 | _ :: _, [], _, _, _, _ => by simp [Vsel]
 | r :: L, e :: E, sel, k, V, h => by
  simp only [Vsel]
  rw [if_neg (by rw [h k (Nat.le_refl _)]; simp)]
  exact Vsel_none L E sel (k + 1) V (fun j hj => h j (by omega))

theorem region_plain {id : Nat} {tks : List Bool} {L : List ROp} {R : List Res} {V0 : View} {E : List Eff} (hops : trOps P ops tks ops.toList = some L) (hran : Ran P C.N L R V0 E) (h : Sim C V0 a w)
  (hQ : ∀ a' w', Sim C (Vsel L E (fun _ => true) 0 V0) a' w' → Q .normal a' w') : (Code.region id ops false).wp P Q a w := by
 obtain ⟨hlen, hget⟩ := trOps_get _ _ _ _ hops
 have hlen' : L.length = ops.size := by simpa using hlen
 refine wp_region ?_
 have key : ∀ (m k : Nat) (a : Act) (w : World), k + m = ops.size → Sim C (Vsel L E (fun j => decide (j < k)) 0 V0) a w → wpOps P ops Q (List.range' k m) a w := by
  intro m
  induction m with
  | zero =>
   intro k a w hk hs
   simp only [List.range'_zero, wpOps]
   rw [Vsel_all V0 _ (fun i hi => by simp; omega)] at hs
   exact hQ a w hs
  | succ m ih =>
   intro k a w hk hs
   rw [List.range'_succ, wpOps_cons]
   have hkl : k < ops.size := by omega
   have ho : ops[k]? = some ops[k] := by simp [hkl]
   obtain ⟨tk, r, hr, htr⟩ := hget k ops[k] (by simp [hkl])
   have hE : ∃ e, E[k]? = some e := ⟨E[k]'(by rw [hran.len, hlen']; exact hkl), by simp⟩
   obtain ⟨e, he⟩ := hE
   obtain ⟨h1, h2⟩ := hran.eff k r e hr he
   refine step_op ho htr hs h1 h2 (hran.ok r (List.mem_of_getElem? hr)) fun a' w' hs' => ?_
   refine ih (k + 1) a' w' (by omega) ?_
   have := Vsel_snoc L E 0 k V0 r e hr he
   simp only [Nat.zero_add] at this
   rw [this]; exact hs'
 rw [List.range_eq_range']
 refine key ops.size 0 a w (by omega) ?_
 rw [Vsel_none L E _ 0 V0 (fun j _ => by simp)]
 exact h

def reachL : List ROp → List (List Nat) → List (List Nat)
 | [], acc => acc
 | r :: L, acc => reachL L (acc ++ [r.after ++ r.after.flatMap (fun e => acc.getD e [])])
theorem reachL_spec (S : Nat → Prop) : ∀ (L : List ROp) (acc : List (List Nat)), (∀ (m : Nat), S m → ∀ k ∈ acc.getD m [], S k) →
  (∀ (i : Nat) (r : ROp), L[i]? = some r → S (acc.length + i) → ∀ e ∈ r.after, S e) →
  (∀ (m : Nat), S m → ∀ k ∈ (reachL L acc).getD m [], S k) ∧ (∀ (i : Nat) (r : ROp), L[i]? = some r → (∀ e ∈ r.after, S e) → ∀ k ∈ (reachL L acc).getD (acc.length + i) [], S k) ∧ (∀ m, m < acc.length → (reachL L acc).getD m [] = acc.getD m [])
 | [], acc, hacc, _ => ⟨by simpa [reachL] using hacc, by simp, by simp [reachL]⟩
 | r :: L, acc, hacc, hcl => by
  simp only [reachL]
  have hnew : (∀ e ∈ r.after, S e) → ∀ k ∈ r.after ++ r.after.flatMap (fun e => acc.getD e []), S k := by
   intro hr k hk
   rcases List.mem_append.1 hk with hk | hk
   ·exact hr k hk
   ·obtain ⟨e, he, hke⟩ := List.mem_flatMap.1 hk
    exact hacc e (hr e he) k hke
  have hlenA : (acc ++ [r.after ++ r.after.flatMap (fun e => acc.getD e [])]).length = acc.length + 1 := by simp
  have hacc' : ∀ (m : Nat), S m → ∀ k ∈ (acc ++ [r.after ++ r.after.flatMap (fun e => acc.getD e [])]).getD m [], S k := by
   intro m hm k hk
   rw [List.getD_eq_getElem?_getD] at hk
   by_cases h1 : m < acc.length
   ·rw [List.getElem?_append_left h1] at hk
    exact hacc m hm k (by rw [List.getD_eq_getElem?_getD]; exact hk)
   ·by_cases h2 : m = acc.length
    ·subst h2
     simp at hk
     exact hnew (hcl 0 r (by simp) hm) k (by simpa using hk)
    ·rw [List.getElem?_eq_none (by rw [hlenA]; omega)] at hk; simp at hk
  obtain ⟨c1, c2, c3⟩ := reachL_spec S L _ hacc' (fun i r' hr' hs e he => hcl (i + 1) r' (by simpa using hr') (by rw [hlenA] at hs; rwa [show acc.length + (i + 1) = acc.length + 1 + i from by omega]) e he)
  refine ⟨c1, fun i r' hr' hs k hk => ?_, fun m hm => ?_⟩
  ·cases i with
   | zero =>
    simp at hr'; subst hr'
    rw [Nat.add_zero, c3 acc.length (by rw [hlenA]; omega)] at hk
    simp at hk
    exact hnew hs k (by simpa using hk)
   | succ i =>
    exact c2 i r' (by simpa using hr') hs k (by rw [hlenA]; rwa [show acc.length + 1 + i = acc.length + (i + 1) from by omega])
  ·rw [c3 m (by rw [hlenA]; omega), List.getD_eq_getElem?_getD, List.getElem?_append_left hm, ← List.getD_eq_getElem?_getD]

/-- what the i-th operation looks at, and writes -/
structure Info where
 rt : List Nat
 wt : List Nat
 tb : List Nat
 wb : List Nat
 lc : List (Nat × Nat) := []
 wh : List Nat := []
 dc : List (Nat × Nat) := []
def disj (l m : List Nat) : Bool := l.all fun x => !m.contains x
/-- what x writes is not the one cell that y loads -/
def sft (x y : Info) : Bool := y.lc.all fun p => !x.wh.contains p.1 && !x.dc.contains p
def indep (x y : Info) : Bool := disj x.wt (y.rt ++ y.wt) && disj y.wt (x.rt ++ x.wt) && disj x.wb (y.tb ++ y.wb) && disj y.wb (x.tb ++ x.wb) && (sft x y && sft y x)
theorem disj_spec {l m : List Nat} (h : disj l m = true) {x : Nat} (hl : x ∈ l) (hm : x ∈ m) : False := by
 have := List.all_eq_true.1 h x hl
 simp at this
 exact this hm
theorem disj_comm' {l m : List Nat} (h : disj l m = true) {x : Nat} (hm : x ∈ m) (hl : x ∈ l) : False := disj_spec h hl hm

def infoOf (c : Res) (r : ROp) (e : Eff) (V : View) : Info := { rt := rtm r, wt := wtm r e, tb := tbH c.us r.dst r.op (r.op.opds.map V.ev), wb := wbk e, lc := lcOf r.op (r.op.opds.map V.ev), wh := whk e, dc := dck e }

structure Free (L : List ROp) (R : List Res) (V0 : View) (E : List Eff) : Prop where
 back : ∀ (i : Nat) (r : ROp), L[i]? = some r → ∀ e ∈ r.after, e < i
 pair : ∀ (i j : Nat) (r r' : ROp) (e e' : Eff), i < j → L[i]? = some r → E[i]? = some e → L[j]? = some r' → E[j]? = some e' → i ∈ (reachL L []).getD j [] ∨
  indep (infoOf (R.getD i {}) r e (Vsel L E (fun k => decide (k < i)) 0 V0)) (infoOf (R.getD j {}) r' e' (Vsel L E (fun k => decide (k < j)) 0 V0)) = true

theorem countP_lt {p q : Nat → Bool} : ∀ (l : List Nat), (∀ x, q x = true → p x = true) → ∀ i ∈ l, p i = true → q i = false → l.countP q < l.countP p
 | [], _, i, hi, _, _ => by simp at hi
 | x :: l, h, i, hi, hp, hq => by
  have hle : l.countP q ≤ l.countP p := List.countP_mono_left fun x _ hx => h x hx
  rw [List.countP_cons, List.countP_cons]
  rcases List.mem_cons.1 hi with rfl | hi
  ·simp [hp, hq]; omega
  ·have := countP_lt l h i hi hp hq
   have hx : (if q x = true then 1 else 0) ≤ (if p x = true then 1 else 0) := by
    by_cases hqx : q x = true
    ·simp [hqx, h x hqx]
    ·simp [hqx]
   omega

theorem region_any {id : Nat} (hm : P.follows .mixedOrders = true) {tks : List Bool} {L : List ROp} {R : List Res} {V0 : View} {E : List Eff} (hops : trOps P ops tks ops.toList = some L) (hran : Ran P C.N L R V0 E) (hfree : Free L R V0 E)
  (h : Sim C V0 a w) (hQ : ∀ a' w', Sim C (Vsel L E (fun _ => true) 0 V0) a' w' → Q .normal a' w') : (Code.region id ops true).wp P Q a w := by
 obtain ⟨hlen, hget⟩ := trOps_get _ _ _ _ hops
 have hlen' : L.length = ops.size := by simpa using hlen
 have hafter : ∀ (i : Nat) (o : Oper) (r : ROp) (tk : Bool), trOper P tk ops o = some r → r.after = edgesOf o := by
  intro i o r tk htr
  simp only [trOper] at htr
  split at htr
  ·split at htr
   ·cases htr; rfl
   ·split at htr
    ·cases htr; rfl
    ·cases htr
  ·cases htr
 refine wp_region_any hm ?_
 have hE : ∀ i, i < ops.size → ∃ r e tk, L[i]? = some r ∧ E[i]? = some e ∧ ∃ o, ops[i]? = some o ∧ trOper P tk ops o = some r := by
  intro i hi
  obtain ⟨tk, r, hr, htr⟩ := hget i ops[i] (by simp [hi])
  exact ⟨r, E[i]'(by rw [hran.len, hlen']; exact hi), tk, hr, by simp, ops[i], by simp [hi], htr⟩
 have key : ∀ (fuel : Nat) (listed : Array Bool) (a : Act) (w : World), listed.size = ops.size → (∀ (i : Nat) (r : ROp), L[i]? = some r → listed.getD i false = true → ∀ e ∈ r.after, listed.getD e false = true) →
   (List.range ops.size).countP (fun i => !listed.getD i false) ≤ fuel → Sim C (Vsel L E (fun j => listed.getD j false) 0 V0) a w → wpAny P .any ops Q fuel listed a w := by
  intro fuel
  induction fuel with
  | zero =>
   intro listed a w hsz hcl hcnt hs
   have hall : ∀ i, i < ops.size → listed.getD i false = true := by
    intro i hi
    have := List.countP_eq_zero.1 (Nat.le_zero.1 hcnt) i (List.mem_range.2 hi)
    simpa using this
   refine ⟨?_, ?_⟩
   ·refine List.eq_nil_iff_forall_not_mem.2 fun j hj => ?_
    obtain ⟨h2, oj, hoj, _⟩ := mem_ready.1 hj
    have h1 : j < ops.size := (Array.getElem?_eq_some_iff.1 hoj).1
    have := hall j h1
    have hjl : j < listed.size := by rw [hsz]; exact h1
    simp [Array.getD, hjl] at h2 this
    rw [h2] at this; cases this
   ·rw [Vsel_all V0 _ (fun i hi => hall i (by rw [← hlen']; exact hi))] at hs
    exact hQ a w hs
  | succ fuel ih =>
   intro listed a w hsz hcl hcnt hs
   refine ⟨fun hnil => ?_, fun i hi => ?_⟩
   ·-- nothing is ready: all is done
    have hall : ∀ i, i < ops.size → listed.getD i false = true := by
     intro i
     induction i using Nat.strongRecOn with
     | _ i ihi =>
      intro hi
      cases hli : listed.getD i false with
      | true => rfl
      | false =>
       exfalso
       obtain ⟨r, e, tk, hr, _, o, ho, htr⟩ := hE i hi
       have hjl : i < listed.size := by rw [hsz]; exact hi
       have : i ∈ Region.ready .any ops listed := by
        refine mem_ready.2 ⟨by simp [Array.getD, hjl] at hli ⊢; exact hli, o, ho, fun ed hed hb => ?_⟩
        have hmem : ed.on ∈ r.after := by
         rw [hafter i o r tk htr]
         simp only [edgesOf, List.mem_filterMap]
         exact ⟨ed, by simpa using hed, by rw [if_pos hb]⟩
        have hlt := hfree.back i r hr _ hmem
        exact ihi _ hlt (by omega)
       rw [hnil] at this; simp at this
    rw [Vsel_all V0 _ (fun i hi => hall i (by rw [← hlen']; exact hi))] at hs
    exact hQ a w hs
   ·obtain ⟨h2, o', ho', hedge⟩ := mem_ready.1 hi
    have h1 : i < ops.size := (Array.getElem?_eq_some_iff.1 ho').1
    obtain ⟨r, e, tk, hr, he, o, ho, htr⟩ := hE i h1
    have hoo : o' = o := by rw [ho] at ho'; exact (Option.some.inj ho').symm
    subst hoo
    have hil : i < listed.size := by rw [hsz]; exact h1
    have hif : listed.getD i false = false := by simp [Array.getD, hil] at h2 ⊢; exact h2
    have hpre : ∀ x ∈ r.after, listed.getD x false = true := by
     intro x hx
     rw [hafter i _ r tk htr] at hx
     simp only [edgesOf, List.mem_filterMap] at hx
     obtain ⟨ed, hed, hx⟩ := hx
     split at hx
     ·rename_i hb
      cases hx
      exact hedge ed (by simpa using hed) hb
     ·cases hx
    obtain ⟨r1, r2, _⟩ := reachL_spec (fun k => listed.getD k false = true) L [] (by simp) (fun k r' hr' hs' x hx => hcl k r' hr' (by simpa using hs') x hx)
    have hbefore : ∀ k ∈ (reachL L []).getD i [], listed.getD k false = true := by
     have := r2 i r hr hpre
     simpa using this
    -- every other that conflicts is ordered
    have hord : ∀ (k : Nat) (rk : ROp) (ek : Eff), L[k]? = some rk → E[k]? = some ek → k ≠ i →
      indep (infoOf (R.getD k {}) rk ek (Vsel L E (fun j => decide (j < k)) 0 V0)) (infoOf (R.getD i {}) r e (Vsel L E (fun j => decide (j < i)) 0 V0)) = true ∨
      indep (infoOf (R.getD i {}) r e (Vsel L E (fun j => decide (j < i)) 0 V0)) (infoOf (R.getD k {}) rk ek (Vsel L E (fun j => decide (j < k)) 0 V0)) = true ∨
      (k < i ∧ listed.getD k false = true) ∨ (i < k ∧ listed.getD k false = false) := by
     intro k rk ek hrk hek hki
     by_cases hlt : k < i
     ·rcases hfree.pair k i rk r ek e hlt hrk hek hr he with hp | hp
      ·exact .inr (.inr (.inl ⟨hlt, hbefore k hp⟩))
      ·exact .inl hp
     ·have hgt : i < k := by omega
      rcases hfree.pair i k r rk e ek hgt hr he hrk hek with hp | hp
      ·refine .inr (.inr (.inr ⟨hgt, ?_⟩))
       cases hlk : listed.getD k false with
       | false => rfl
       | true => have := r1 k hlk i hp; rw [hif] at this; cases this
      ·exact .inr (.inl hp)
    have agT : ∀ t, t ∈ rtm r ++ wtm r e → (Vsel L E (fun j => decide (j < i)) 0 V0).tm t = (Vsel L E (fun j => listed.getD j false) 0 V0).tm t := by
     intro t ht
     refine Vsel_tm _ _ _ _ _ _ _ _ rfl fun k rk ek hrk hek hw => ?_
     rw [Nat.zero_add]
     by_cases hki : k = i
     ·subst hki; simp [hif]
     ·rcases hord k rk ek hrk hek hki with hp | hp | ⟨hp, hq⟩ | ⟨hp, hq⟩
      ·simp only [indep, infoOf, Bool.and_eq_true] at hp
       exact (disj_spec hp.1.1.1.1 hw ht).elim
      ·simp only [indep, infoOf, Bool.and_eq_true] at hp
       exact (disj_spec hp.1.1.1.2 hw ht).elim
      ·rw [hq]; simp [hp]
      ·rw [hq]; simp; omega
    have agB : ∀ b, b ∈ tbH (R.getD i {}).us r.dst r.op (r.op.opds.map (Vsel L E (fun j => decide (j < i)) 0 V0).ev) ++ wbk e → (Vsel L E (fun j => decide (j < i)) 0 V0).hp b = (Vsel L E (fun j => listed.getD j false) 0 V0).hp b := by
     intro b hb
     refine Vsel_hp _ _ _ _ _ _ _ _ rfl fun k rk ek hrk hek hw => ?_
     rw [Nat.zero_add]
     by_cases hki : k = i
     ·subst hki; simp [hif]
     ·rcases hord k rk ek hrk hek hki with hp | hp | ⟨hp, hq⟩ | ⟨hp, hq⟩
      ·simp only [indep, infoOf, Bool.and_eq_true] at hp
       exact (disj_spec hp.1.1.2 hw hb).elim
      ·simp only [indep, infoOf, Bool.and_eq_true] at hp
       exact (disj_spec hp.1.2 hw hb).elim
      ·rw [hq]; simp [hp]
      ·rw [hq]; simp; omega
    have agC : ∀ p ∈ lcOf r.op (r.op.opds.map (Vsel L E (fun j => decide (j < i)) 0 V0).ev), cellOf ((Vsel L E (fun j => decide (j < i)) 0 V0).hp p.1) p.2 = cellOf ((Vsel L E (fun j => listed.getD j false) 0 V0).hp p.1) p.2 := by
     intro p hp0
     refine Vsel_cell _ _ _ _ _ _ _ _ _ rfl fun k rk ek hrk hek hw => ?_
     rw [Nat.zero_add]
     have soft : ∀ (x y : Info), sft x y = true → p ∈ y.lc → p.1 ∉ x.wh ∧ p ∉ x.dc := by
      intro x y h hp
      have := List.all_eq_true.1 h p hp
      simpa using this
     by_cases hki : k = i
     ·subst hki; simp [hif]
     ·rcases hord k rk ek hrk hek hki with hp | hp | ⟨hp, hq⟩ | ⟨hp, hq⟩
      ·simp only [indep, Bool.and_eq_true] at hp
       exact .inr (soft _ _ hp.2.1 hp0)
      ·simp only [indep, Bool.and_eq_true] at hp
       exact .inr (soft _ _ hp.2.2 hp0)
      ·rw [hq]; simp [hp]
      ·rw [hq]; simp; omega
    obtain ⟨e1, e2⟩ := hran.eff i r e hr he
    have eS : effG P (R.getD i {}) r (Vsel L E (fun j => listed.getD j false) 0 V0) = some e := by
     rw [← e1]
     exact (effG_congrC (fun t ht => agT t (List.mem_append.2 (.inl ht))) (fun b hb => agB b (List.mem_append.2 (.inl hb))) agC).symm
    have hgetset : ∀ k, (listed.setIfInBounds i true).getD k false = if k = i then true else listed.getD k false := by
     intro k
     rw [Array.getD_eq_getD_getElem?, Array.getD_eq_getD_getElem?, Array.getElem?_setIfInBounds]
     by_cases hk : i = k
     ·subst hk; simp [hil]
     ·have : ¬ k = i := fun h => hk h.symm
      simp [hk, this]
    refine step_op ho htr hs eS e2 (hran.ok r (List.mem_of_getElem? hr)) fun a' w' hs' => ?_
    refine ih (listed.setIfInBounds i true) a' w' (by simp [hsz]) (fun k rk hrk hk x hx => ?_) ?_ ?_
    ·rw [hgetset] at hk ⊢
     by_cases hki : k = i
     ·subst hki
      rw [hr] at hrk; cases hrk
      rw [hpre x hx]; simp
     ·rw [if_neg hki] at hk
      rw [hcl k rk hrk hk x hx]; simp
    ·have hlt := countP_lt (p := fun j => !listed.getD j false) (q := fun j => !(listed.setIfInBounds i true).getD j false) (List.range ops.size) (fun x hx => by
      rw [hgetset] at hx
      by_cases hxi : x = i
      ·simp [hxi] at hx
      ·simpa [hxi] using hx) i (List.mem_range.2 h1) (by simp [hif]) (by rw [hgetset]; simp)
     omega
    ·have : (Vsel L E (fun j => listed.getD j false) 0 V0).app r.dst e = Vsel L E (fun j => (listed.setIfInBounds i true).getD j false) 0 V0 := by
      have hsn := Vsel_snoc L E 0 i V0 r e hr he
      simp only [Nat.zero_add] at hsn
      refine View.ext (fun t => ?_) (fun b => ?_)
      ·by_cases ht : t ∈ wtm r e
       ·rw [app_tm, ← agT t (List.mem_append.2 (.inr ht)), ← app_tm, ← hsn]
        refine Vsel_tm _ _ _ _ _ _ _ _ rfl fun k rk ek hrk hek hw => ?_
        rw [Nat.zero_add, hgetset]
        by_cases hki : k = i
        ·subst hki; simp
        ·rw [if_neg hki]
         rcases hord k rk ek hrk hek hki with hp | hp | ⟨hp, hq⟩ | ⟨hp, hq⟩
         ·simp only [indep, infoOf, Bool.and_eq_true] at hp
          exact (disj_spec hp.1.1.1.1 hw (List.mem_append.2 (.inr ht))).elim
         ·simp only [indep, infoOf, Bool.and_eq_true] at hp
          exact (disj_spec hp.1.1.1.2 hw (List.mem_append.2 (.inr ht))).elim
         ·rw [hq]; simp; omega
         ·rw [hq]; simp; omega
       ·rw [app_tm, appT_other ht]
        refine Vsel_tm _ _ _ _ _ _ _ _ rfl fun k rk ek hrk hek hw => ?_
        rw [Nat.zero_add, hgetset]
        by_cases hki : k = i
        ·subst hki
         rw [hr] at hrk; cases hrk
         rw [he] at hek; cases hek
         exact absurd hw ht
        ·rw [if_neg hki]
      ·by_cases hb : b ∈ wbk e
       ·rw [app_hp, ← agB b (List.mem_append.2 (.inr hb)), ← app_hp, ← hsn]
        refine Vsel_hp _ _ _ _ _ _ _ _ rfl fun k rk ek hrk hek hw => ?_
        rw [Nat.zero_add, hgetset]
        by_cases hki : k = i
        ·subst hki; simp
        ·rw [if_neg hki]
         rcases hord k rk ek hrk hek hki with hp | hp | ⟨hp, hq⟩ | ⟨hp, hq⟩
         ·simp only [indep, infoOf, Bool.and_eq_true] at hp
          exact (disj_spec hp.1.1.2 hw (List.mem_append.2 (.inr hb))).elim
         ·simp only [indep, infoOf, Bool.and_eq_true] at hp
          exact (disj_spec hp.1.2 hw (List.mem_append.2 (.inr hb))).elim
         ·rw [hq]; simp; omega
         ·rw [hq]; simp; omega
       ·rw [app_hp, appB_other hb]
        refine Vsel_hp _ _ _ _ _ _ _ _ rfl fun k rk ek hrk hek hw => ?_
        rw [Nat.zero_add, hgetset]
        by_cases hki : k = i
        ·subst hki
         rw [hr] at hrk; cases hrk
         rw [he] at hek; cases hek
         exact absurd hw hb
        ·rw [if_neg hki]
     rw [← this]; exact hs'
 refine key ops.size _ a _ (by simp) (fun i r _ hh => ?_) ?_ ?_
 ·simp [Array.getD_eq_getD_getElem?, Array.getElem?_replicate] at hh
  split at hh <;> simp at hh
 ·refine Nat.le_trans List.countP_le_length ?_
  simp
 ·rw [Vsel_none L E _ 0 V0 (fun j _ => by
   rw [Array.getD_eq_getD_getElem?, Array.getElem?_replicate]; split <;> rfl)]
  obtain ⟨fz, ρ, hs⟩ := h
  exact ⟨fz, ρ, hs.ext (Ext.drawn w _)⟩
end Go.Aw
