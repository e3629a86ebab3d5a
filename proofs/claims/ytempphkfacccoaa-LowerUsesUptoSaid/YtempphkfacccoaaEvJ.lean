/- Closed runs: regions, in whatever order. -/
import Derived.Test.YtempphkfacccoaaEvI
import Derived.Test.YtempphkfacccoaaAwS
set_option linter.unusedSimpArgs false
set_option linter.unusedVariables false
namespace Go.Ev
open Go.Aw (edgesOf)
variable {P : Program} {C : Ctx} {a : Act} {w : World} {ops : Array Oper} {Q : Exit → Act → World → Prop}

structure XEff where
  out : EV
  upd : Nat → Option EBlk
def View.appX (V : View) (d : Option Nat) (e : XEff) : View := View.putO { V with hp := fun b => match e.upd b with | some k => some k | none => V.hp b } d e.out
def Eff.x (e : Eff) : XEff := ⟨e.out, Aw.lk e.upd⟩
theorem upds_lk (H : Hv) (b : Nat) : ∀ l : List (Nat × EBlk), Hv.upds H l b = match Aw.lk l b with | some k => some k | none => H b
  | [] => rfl
  | (j, k) :: r => by
    simp only [Hv.upds, Hv.set, Aw.lk]
    by_cases e : b = j
    · simp [e]
    · have e' : ¬ j = b := fun q => e q.symm
      simp only [e, e', if_false]; exact upds_lk H b r
theorem View.ext {V V' : View} (h1 : ∀ t, V.tm t = V'.tm t) (h2 : ∀ b, V.hp b = V'.hp b) : V = V' := by
  cases V; cases V'; congr
  · funext t; exact h1 t
  · funext b; exact h2 b
theorem app_x (V : View) (d : Option Nat) (e : Eff) : V.app d e = V.appX d e.x := by
  have : Hv.upds V.hp e.upd = fun b => match (e.x).upd b with | some k => some k | none => V.hp b := by funext b; exact upds_lk V.hp b e.upd
  simp only [View.app, View.appX, this]; rfl
theorem appX_tm (V : View) (d : Option Nat) (e : XEff) (t : Nat) : (V.appX d e).tm t = if d = some t then e.out else V.tm t := by
  cases d with
  | none => simp [View.appX, View.putO]
  | some d =>
    simp only [View.appX, View.putO, View.put, Option.some.injEq]
    by_cases h : t = d
    · subst h; simp
    · have : ¬ d = t := fun e => h e.symm
      simp [h, this]
theorem appX_hp (V : View) (d : Option Nat) (e : XEff) (b : Nat) : (V.appX d e).hp b = match e.upd b with | some k => some k | none => V.hp b := by
  cases d <;> rfl

def NoAl : Option EBlk → Prop
  | some k => k.al = []
  | none => True
structure Step where
  dst : Option Nat
  rt : List Nat
  tb : Nat → Prop
  fr : Nat → Prop
  e : XEff
  after : List Nat

/-- the i-th operation does so, wherever what it looks at is as it is here -/
def OpOK (P : Program) (C : Ctx) (ops : Array Oper) (i : Nat) (V : View) (s : Step) : Prop :=
  ∀ (V' : View) (a : Act) (w : World) (Q : Exit → Act → World → Prop) (K : Act → World → Prop), (∀ t ∈ s.rt, V'.tm t = V.tm t) → (∀ b, s.tb b → V'.hp b = V.hp b) → (∀ b, s.fr b → NoAl (V'.hp b)) → Sim C V' a w →
    (∀ a' w', Sim C (V'.appX s.dst s.e) a' w' → K a' w') → wpOp P ops Q i K a w

def Vsel : List Step → (Nat → Bool) → Nat → View → View
  | s :: S, sel, k, V => Vsel S sel (k + 1) (if sel k then V.appX s.dst s.e else V)
  | [], _, _, V => V
theorem Vsel_tm : ∀ (S : List Step) (sel sel' : Nat → Bool) (k : Nat) (V V' : View) (t : Nat), V.tm t = V'.tm t → (∀ (i : Nat) (s : Step), S[i]? = some s → s.dst = some t → sel (k + i) = sel' (k + i)) → (Vsel S sel k V).tm t = (Vsel S sel' k V').tm t
  | [], sel, sel', k, V, V', t, h, _ => by simpa [Vsel] using h
  | s :: S, sel, sel', k, V, V', t, h, hs => by
    simp only [Vsel]
    refine Vsel_tm S sel sel' (k + 1) _ _ t ?_ (fun i r hr ht => ?_)
    · by_cases ht : s.dst = some t
      · have := hs 0 s (by simp) ht
        simp only [Nat.add_zero] at this
        rw [this]
        split
        · rw [appX_tm, appX_tm, h]
        · exact h
      · have e1 : ∀ (c : Bool) (V : View), (if c = true then V.appX s.dst s.e else V).tm t = V.tm t := by
          intro c V
          cases c with
          | true => simp only [if_true, appX_tm, if_neg ht]
          | false => rfl
        rw [e1, e1]; exact h
    · have := hs (i + 1) r (by simpa using hr) ht
      rwa [show k + 1 + i = k + (i + 1) from by omega]
theorem Vsel_hp : ∀ (S : List Step) (sel sel' : Nat → Bool) (k : Nat) (V V' : View) (b : Nat), V.hp b = V'.hp b → (∀ (i : Nat) (s : Step), S[i]? = some s → s.e.upd b ≠ none → sel (k + i) = sel' (k + i)) → (Vsel S sel k V).hp b = (Vsel S sel' k V').hp b
  | [], sel, sel', k, V, V', b, h, _ => by simpa [Vsel] using h
  | s :: S, sel, sel', k, V, V', b, h, hs => by
    simp only [Vsel]
    refine Vsel_hp S sel sel' (k + 1) _ _ b ?_ (fun i r hr ht => ?_)
    · by_cases ht : s.e.upd b = none
      · have e1 : ∀ (c : Bool) (V : View), (if c = true then V.appX s.dst s.e else V).hp b = V.hp b := by
          intro c V
          cases c with
          | true => simp only [if_true, appX_hp, ht]
          | false => rfl
        rw [e1, e1]; exact h
      · have := hs 0 s (by simp) ht
        simp only [Nat.add_zero] at this
        rw [this]
        split
        · rw [appX_hp, appX_hp, h]
        · exact h
    · have := hs (i + 1) r (by simpa using hr) ht
      rwa [show k + 1 + i = k + (i + 1) from by omega]
theorem Vsel_none : ∀ (S : List Step) (sel : Nat → Bool) (k : Nat) (V : View), (∀ j, k ≤ j → sel j = false) → Vsel S sel k V = V
  | [], _, _, _, _ => by simp [Vsel]
  | s :: S, sel, k, V, h => by
    simp only [Vsel]
    rw [if_neg (by rw [h k (Nat.le_refl _)]; simp)]
    exact Vsel_none S sel (k + 1) V (fun j hj => h j (by omega))
theorem Vsel_all {S : List Step} (V0 : View) (sel : Nat → Bool) (h : ∀ i, i < S.length → sel i = true) : Vsel S sel 0 V0 = Vsel S (fun _ => true) 0 V0 := by
  refine View.ext (fun t => Vsel_tm _ _ _ _ _ _ _ rfl fun i r hr _ => ?_) (fun b => Vsel_hp _ _ _ _ _ _ _ rfl fun i r hr _ => ?_)
  all_goals
    obtain ⟨hlt, _⟩ := List.getElem?_eq_some_iff.1 hr
    rw [Nat.zero_add]; exact h i hlt
theorem Vsel_shift : ∀ (S : List Step) (sel : Nat → Bool) (k : Nat) (V : View), Vsel S sel (k + 1) V = Vsel S (fun j => sel (j + 1)) k V
  | [], _, _, _ => by simp [Vsel]
  | s :: S, sel, k, V => by
    simp only [Vsel]
    rw [Vsel_shift S sel (k + 1)]
theorem Vsel_snoc : ∀ (S : List Step) (k i : Nat) (V : View) (s : Step), S[i]? = some s →
    Vsel S (fun j => decide (j < k + i + 1)) k V = (Vsel S (fun j => decide (j < k + i)) k V).appX s.dst s.e
  | [], k, i, V, s, hr => by simp at hr
  | s0 :: S, k, i, V, s, hr => by
    cases i with
    | zero =>
      simp at hr; subst hr
      simp only [Vsel, Nat.add_zero]
      rw [if_pos (by simp), if_neg (by simp), Vsel_none S _ (k + 1) _ (fun j hj => by simp; omega), Vsel_none S _ (k + 1) _ (fun j hj => by simp; omega)]
    | succ i =>
      simp only [Vsel]
      rw [if_pos (by simp; omega), if_pos (decide_eq_true (by omega))]
      have := Vsel_snoc S (k + 1) i (V.appX s0.dst s0.e) s (by simpa using hr)
      rw [show k + 1 + i + 1 = k + (i + 1) + 1 from by omega, show k + 1 + i = k + (i + 1) from by omega] at this
      exact this

structure Ran (P : Program) (C : Ctx) (ops : Array Oper) (S : List Step) (V0 : View) : Prop where
  len : S.length = ops.size
  ok : ∀ (i : Nat) (s : Step), S[i]? = some s → OpOK P C ops i (Vsel S (fun j => decide (j < i)) 0 V0) s
  after : ∀ (i : Nat) (s : Step) (o : Oper), S[i]? = some s → ops[i]? = some o → s.after = edgesOf o
  noal : ∀ (i : Nat) (s : Step), S[i]? = some s → ∀ b, s.fr b → NoAl (V0.hp b) ∧ ∀ (j : Nat) (s' : Step), S[j]? = some s' → ∀ k, s'.e.upd b = some k → k.al = []
theorem Vsel_noal (b : Nat) : ∀ (S : List Step) (sel : Nat → Bool) (k : Nat) (V : View), NoAl (V.hp b) → (∀ (j : Nat) (s' : Step), S[j]? = some s' → ∀ k, s'.e.upd b = some k → k.al = []) → NoAl ((Vsel S sel k V).hp b)
  | [], _, _, V, h, _ => by simpa [Vsel] using h
  | s :: S, sel, k, V, h, hs => by
    simp only [Vsel]
    refine Vsel_noal b S sel (k + 1) _ ?_ fun j s' hj => hs (j + 1) s' (by simpa using hj)
    split
    · rw [appX_hp]
      cases hu : s.e.upd b with
      | none => exact h
      | some q => exact hs 0 s (by simp) q hu
    · exact h

theorem region_plain {id : Nat} {S : List Step} {V0 : View} (hran : Ran P C ops S V0) (h : Sim C V0 a w) (hQ : ∀ a' w', Sim C (Vsel S (fun _ => true) 0 V0) a' w' → Q .normal a' w') : (Code.region id ops false).wp P Q a w := by
  have hlen' := hran.len
  refine wp_region ?_
  have key : ∀ (m k : Nat) (a : Act) (w : World), k + m = ops.size → Sim C (Vsel S (fun j => decide (j < k)) 0 V0) a w → wpOps P ops Q (List.range' k m) a w := by
    intro m
    induction m with
    | zero =>
      intro k a w hk hs
      simp only [List.range'_zero, wpOps]
      rw [Vsel_all V0 _ (fun i hi => by simp; omega)] at hs
      exact hQ a w hs
    | succ m ih =>
      intro k a w hk hs
      rw [List.range'_succ, wpOps_cons]
      have hr : S[k]? = some (S[k]'(by omega)) := by simp
      refine hran.ok k _ hr _ a w Q _ (fun _ _ => rfl) (fun _ _ => rfl) (fun b hb => Vsel_noal b S _ 0 V0 (hran.noal k _ hr b hb).1 (hran.noal k _ hr b hb).2) hs fun a' w' hs' => ?_
      refine ih (k + 1) a' w' (by omega) ?_
      have := Vsel_snoc S 0 k V0 _ hr
      simp only [Nat.zero_add] at this
      rw [this]; exact hs'
  rw [List.range_eq_range']
  refine key ops.size 0 a w (by omega) ?_
  rw [Vsel_none S _ 0 V0 (fun j _ => by simp)]
  exact h

def reachS : List (List Nat) → List (List Nat) → List (List Nat)
  | [], acc => acc
  | r :: L, acc => reachS L (acc ++ [r ++ r.flatMap (fun e => acc.getD e [])])
theorem reachS_spec (S : Nat → Prop) : ∀ (L : List (List Nat)) (acc : List (List Nat)), (∀ (m : Nat), S m → ∀ k ∈ acc.getD m [], S k) →
    (∀ (i : Nat) (r : List Nat), L[i]? = some r → S (acc.length + i) → ∀ e ∈ r, S e) →
    (∀ (m : Nat), S m → ∀ k ∈ (reachS L acc).getD m [], S k) ∧ (∀ (i : Nat) (r : List Nat), L[i]? = some r → (∀ e ∈ r, S e) → ∀ k ∈ (reachS L acc).getD (acc.length + i) [], S k) ∧ (∀ m, m < acc.length → (reachS L acc).getD m [] = acc.getD m [])
  | [], acc, hacc, _ => ⟨by simpa [reachS] using hacc, by simp, by simp [reachS]⟩
  | r :: L, acc, hacc, hcl => by
    simp only [reachS]
    have hnew : (∀ e ∈ r, S e) → ∀ k ∈ r ++ r.flatMap (fun e => acc.getD e []), S k := by
      intro hr k hk
      rcases List.mem_append.1 hk with hk | hk
      · exact hr k hk
      · obtain ⟨e, he, hke⟩ := List.mem_flatMap.1 hk
        exact hacc e (hr e he) k hke
    have hlenA : (acc ++ [r ++ r.flatMap (fun e => acc.getD e [])]).length = acc.length + 1 := by simp
    have hacc' : ∀ (m : Nat), S m → ∀ k ∈ (acc ++ [r ++ r.flatMap (fun e => acc.getD e [])]).getD m [], S k := by
      intro m hm k hk
      rw [List.getD_eq_getElem?_getD] at hk
      by_cases h1 : m < acc.length
      · rw [List.getElem?_append_left h1] at hk
        exact hacc m hm k (by rw [List.getD_eq_getElem?_getD]; exact hk)
      · by_cases h2 : m = acc.length
        · subst h2
          simp at hk
          exact hnew (hcl 0 r (by simp) hm) k (by simpa using hk)
        · rw [List.getElem?_eq_none (by rw [hlenA]; omega)] at hk; simp at hk
    obtain ⟨c1, c2, c3⟩ := reachS_spec S L _ hacc' (fun i r' hr' hs e he => hcl (i + 1) r' (by simpa using hr') (by rw [hlenA] at hs; rwa [show acc.length + (i + 1) = acc.length + 1 + i from by omega]) e he)
    refine ⟨c1, fun i r' hr' hs k hk => ?_, fun m hm => ?_⟩
    · cases i with
      | zero =>
        simp at hr'; subst hr'
        rw [Nat.add_zero, c3 acc.length (by rw [hlenA]; omega)] at hk
        simp at hk
        exact hnew hs k (by simpa using hk)
      | succ i =>
        exact c2 i r' (by simpa using hr') hs k (by rw [hlenA]; rwa [show acc.length + 1 + i = acc.length + (i + 1) from by omega])
    · rw [c3 m (by rw [hlenA]; omega), List.getD_eq_getElem?_getD, List.getElem?_append_left hm, ← List.getD_eq_getElem?_getD]

structure Indep (x y : Step) : Prop where
  t1 : ∀ t, x.dst = some t → t ∉ y.rt ∧ y.dst ≠ some t
  t2 : ∀ t, y.dst = some t → t ∉ x.rt
  b1 : ∀ b, x.e.upd b ≠ none → ¬ y.tb b ∧ y.e.upd b = none
  b2 : ∀ b, y.e.upd b ≠ none → ¬ x.tb b
structure Free (S : List Step) : Prop where
  back : ∀ (i : Nat) (s : Step), S[i]? = some s → ∀ e ∈ s.after, e < i
  pair : ∀ (i j : Nat) (s s' : Step), i < j → S[i]? = some s → S[j]? = some s' → i ∈ (reachS (S.map (·.after)) []).getD j [] ∨ Indep s s'

theorem region_any {id : Nat} (hm : P.follows .mixedOrders = true) {S : List Step} {V0 : View} (hran : Ran P C ops S V0) (hfree : Free S)
    (hdr : ∀ {V a w}, Sim C V a w → Sim C V a { w with drawn := w.drawn + 1 }) (h : Sim C V0 a w) (hQ : ∀ a' w', Sim C (Vsel S (fun _ => true) 0 V0) a' w' → Q .normal a' w') : (Code.region id ops true).wp P Q a w := by
  have hlen' := hran.len
  refine wp_region_any hm ?_
  have hE : ∀ i, i < ops.size → ∃ s o, S[i]? = some s ∧ ops[i]? = some o ∧ s.after = edgesOf o := by
    intro i hi
    exact ⟨S[i]'(by omega), ops[i], by simp, by simp [hi], hran.after i _ _ (by simp) (by simp [hi])⟩
  have key : ∀ (fuel : Nat) (listed : Array Bool) (a : Act) (w : World), listed.size = ops.size → (∀ (i : Nat) (s : Step), S[i]? = some s → listed.getD i false = true → ∀ e ∈ s.after, listed.getD e false = true) →
      (List.range ops.size).countP (fun i => !listed.getD i false) ≤ fuel → Sim C (Vsel S (fun j => listed.getD j false) 0 V0) a w → wpAny P .any ops Q fuel listed a w := by
    intro fuel
    induction fuel with
    | zero =>
      intro listed a w hsz hcl hcnt hs
      have hall : ∀ i, i < ops.size → listed.getD i false = true := by
        intro i hi
        have := List.countP_eq_zero.1 (Nat.le_zero.1 hcnt) i (List.mem_range.2 hi)
        simpa using this
      refine ⟨?_, ?_⟩
      · refine List.eq_nil_iff_forall_not_mem.2 fun j hj => ?_
        obtain ⟨h2, oj, hoj, _⟩ := mem_ready.1 hj
        have h1 : j < ops.size := (Array.getElem?_eq_some_iff.1 hoj).1
        have := hall j h1
        have hjl : j < listed.size := by rw [hsz]; exact h1
        simp [Array.getD, hjl] at h2 this
        rw [h2] at this; cases this
      · rw [Vsel_all V0 _ (fun i hi => hall i (by rw [← hlen']; exact hi))] at hs
        exact hQ a w hs
    | succ fuel ih =>
      intro listed a w hsz hcl hcnt hs
      refine ⟨fun hnil => ?_, fun i hi => ?_⟩
      · have hall : ∀ i, i < ops.size → listed.getD i false = true := by
          intro i
          induction i using Nat.strongRecOn with
          | _ i ihi =>
            intro hi
            cases hli : listed.getD i false with
            | true => rfl
            | false =>
              exfalso
              obtain ⟨s, o, hr, ho, haf⟩ := hE i hi
              have hjl : i < listed.size := by rw [hsz]; exact hi
              have : i ∈ Region.ready .any ops listed := by
                refine mem_ready.2 ⟨by simp [Array.getD, hjl] at hli ⊢; exact hli, o, ho, fun ed hed hb => ?_⟩
                have hmem : ed.on ∈ s.after := by
                  rw [haf]
                  simp only [edgesOf, List.mem_filterMap]
                  exact ⟨ed, by simpa using hed, by rw [if_pos hb]⟩
                have hlt := hfree.back i s hr _ hmem
                exact ihi _ hlt (by omega)
              rw [hnil] at this; simp at this
        rw [Vsel_all V0 _ (fun i hi => hall i (by rw [← hlen']; exact hi))] at hs
        exact hQ a w hs
      · obtain ⟨h2, o', ho', hedge⟩ := mem_ready.1 hi
        have h1 : i < ops.size := (Array.getElem?_eq_some_iff.1 ho').1
        obtain ⟨s, o, hr, ho, haf⟩ := hE i h1
        have hoo : o' = o := by rw [ho] at ho'; exact (Option.some.inj ho').symm
        subst hoo
        have hil : i < listed.size := by rw [hsz]; exact h1
        have hif : listed.getD i false = false := by simp [Array.getD, hil] at h2 ⊢; exact h2
        have hpre : ∀ x ∈ s.after, listed.getD x false = true := by
          intro x hx
          rw [haf] at hx
          simp only [edgesOf, List.mem_filterMap] at hx
          obtain ⟨ed, hed, hx⟩ := hx
          split at hx
          · rename_i hb
            cases hx
            exact hedge ed (by simpa using hed) hb
          · cases hx
        have hmapget : ∀ (k : Nat) (r : List Nat), (S.map (·.after))[k]? = some r → ∃ s' : Step, S[k]? = some s' ∧ s'.after = r := by
          intro k r hk
          rw [List.getElem?_map] at hk
          cases hsk : S[k]? with
          | none => rw [hsk] at hk; simp at hk
          | some s' => rw [hsk] at hk; simp at hk; exact ⟨s', rfl, hk⟩
        obtain ⟨r1, r2, _⟩ := reachS_spec (fun k => listed.getD k false = true) (S.map (·.after)) [] (by simp) (fun k r' hr' hs' x hx => by
          obtain ⟨s', hs1, rfl⟩ := hmapget k r' hr'
          exact hcl k s' hs1 (by simpa using hs') x hx)
        have hbefore : ∀ k ∈ (reachS (S.map (·.after)) []).getD i [], listed.getD k false = true := by
          have := r2 i s.after (by rw [List.getElem?_map, hr]; rfl) hpre
          simpa using this
        have hord : ∀ (k : Nat) (sk : Step), S[k]? = some sk → k ≠ i → Indep sk s ∨ Indep s sk ∨ (k < i ∧ listed.getD k false = true) ∨ (i < k ∧ listed.getD k false = false) := by
          intro k sk hrk hki
          by_cases hlt : k < i
          · rcases hfree.pair k i sk s hlt hrk hr with hp | hp
            · exact .inr (.inr (.inl ⟨hlt, hbefore k hp⟩))
            · exact .inl hp
          · have hgt : i < k := by omega
            rcases hfree.pair i k s sk hgt hr hrk with hp | hp
            · refine .inr (.inr (.inr ⟨hgt, ?_⟩))
              cases hlk : listed.getD k false with
              | false => rfl
              | true => have := r1 k hlk i hp; rw [hif] at this; cases this
            · exact .inr (.inl hp)
        have agT : ∀ t, (t ∈ s.rt ∨ s.dst = some t) → (Vsel S (fun j => decide (j < i)) 0 V0).tm t = (Vsel S (fun j => listed.getD j false) 0 V0).tm t := by
          intro t ht
          refine Vsel_tm _ _ _ _ _ _ _ rfl fun k sk hrk hw => ?_
          rw [Nat.zero_add]
          by_cases hki : k = i
          · subst hki; simp [hif]
          · rcases hord k sk hrk hki with hp | hp | ⟨hp, hq⟩ | ⟨hp, hq⟩
            · rcases ht with ht | ht
              · exact ((hp.t1 t hw).1 ht).elim
              · exact ((hp.t1 t hw).2 ht).elim
            · rcases ht with ht | ht
              · exact (hp.t2 t hw ht).elim
              · exact ((hp.t1 t ht).2 hw).elim
            · rw [hq]; simp [hp]
            · rw [hq]; simp; omega
        have agB : ∀ b, (s.tb b ∨ s.e.upd b ≠ none) → (Vsel S (fun j => decide (j < i)) 0 V0).hp b = (Vsel S (fun j => listed.getD j false) 0 V0).hp b := by
          intro b hb
          refine Vsel_hp _ _ _ _ _ _ _ rfl fun k sk hrk hw => ?_
          rw [Nat.zero_add]
          by_cases hki : k = i
          · subst hki; simp [hif]
          · rcases hord k sk hrk hki with hp | hp | ⟨hp, hq⟩ | ⟨hp, hq⟩
            · rcases hb with hb | hb
              · exact ((hp.b1 b hw).1 hb).elim
              · exact (hb (hp.b1 b hw).2).elim
            · rcases hb with hb | hb
              · exact (hp.b2 b hw hb).elim
              · exact (hw (hp.b1 b hb).2).elim
            · rw [hq]; simp [hp]
            · rw [hq]; simp; omega
        have hgetset : ∀ k, (listed.setIfInBounds i true).getD k false = if k = i then true else listed.getD k false := by
          intro k
          rw [Array.getD_eq_getD_getElem?, Array.getD_eq_getD_getElem?, Array.getElem?_setIfInBounds]
          by_cases hk : i = k
          · subst hk; simp [hil]
          · have : ¬ k = i := fun h => hk h.symm
            simp [hk, this]
        refine hran.ok i s hr _ a w Q _ (fun t ht => (agT t (.inl ht)).symm) (fun b hb => (agB b (.inl hb)).symm) (fun b hb => Vsel_noal b S _ 0 V0 (hran.noal i _ hr b hb).1 (hran.noal i _ hr b hb).2) hs fun a' w' hs' => ?_
        refine ih (listed.setIfInBounds i true) a' w' (by simp [hsz]) (fun k sk hrk hk x hx => ?_) ?_ ?_
        · rw [hgetset] at hk ⊢
          by_cases hki : k = i
          · subst hki
            rw [hr] at hrk; cases hrk
            rw [hpre x hx]; simp
          · rw [if_neg hki] at hk
            rw [hcl k sk hrk hk x hx]; simp
        · have hlt := Aw.countP_lt (p := fun j => !listed.getD j false) (q := fun j => !(listed.setIfInBounds i true).getD j false) (List.range ops.size) (fun x hx => by
            rw [hgetset] at hx
            by_cases hxi : x = i
            · simp [hxi] at hx
            · simpa [hxi] using hx) i (List.mem_range.2 h1) (by simp [hif]) (by rw [hgetset]; simp)
          omega
        · have : (Vsel S (fun j => listed.getD j false) 0 V0).appX s.dst s.e = Vsel S (fun j => (listed.setIfInBounds i true).getD j false) 0 V0 := by
            have hsn := Vsel_snoc S 0 i V0 s hr
            simp only [Nat.zero_add] at hsn
            refine View.ext (fun t => ?_) (fun b => ?_)
            · by_cases ht : s.dst = some t
              · rw [appX_tm, if_pos ht]
                have e1 : (Vsel S (fun j => decide (j < i + 1)) 0 V0).tm t = s.e.out := by rw [hsn, appX_tm, if_pos ht]
                rw [← e1]
                refine Vsel_tm _ _ _ _ _ _ _ rfl fun k sk hrk hw => ?_
                rw [Nat.zero_add, hgetset]
                by_cases hki : k = i
                · subst hki; simp
                · rw [if_neg hki]
                  rcases hord k sk hrk hki with hp | hp | ⟨hp, hq⟩ | ⟨hp, hq⟩
                  · exact ((hp.t1 t hw).2 ht).elim
                  · exact ((hp.t1 t ht).2 hw).elim
                  · rw [hq]; simp; omega
                  · rw [hq]; simp; omega
              · rw [appX_tm, if_neg ht]
                refine Vsel_tm _ _ _ _ _ _ _ rfl fun k sk hrk hw => ?_
                rw [Nat.zero_add, hgetset]
                by_cases hki : k = i
                · subst hki
                  rw [hr] at hrk; cases hrk
                  exact absurd hw ht
                · rw [if_neg hki]
            · by_cases hb : s.e.upd b = none
              · rw [appX_hp, hb]
                refine Vsel_hp _ _ _ _ _ _ _ rfl fun k sk hrk hw => ?_
                rw [Nat.zero_add, hgetset]
                by_cases hki : k = i
                · subst hki
                  rw [hr] at hrk; cases hrk
                  exact absurd hb hw
                · rw [if_neg hki]
              · have e1 : (Vsel S (fun j => decide (j < i + 1)) 0 V0).hp b = s.e.upd b := by
                  rw [hsn, appX_hp]
                  cases hu : s.e.upd b with
                  | none => exact absurd hu hb
                  | some k => rfl
                rw [appX_hp]
                have e2 : (match s.e.upd b with | some k => some k | none => (Vsel S (fun j => listed.getD j false) 0 V0).hp b) = s.e.upd b := by
                  cases hu : s.e.upd b with
                  | none => exact absurd hu hb
                  | some k => rfl
                rw [e2, ← e1]
                refine Vsel_hp _ _ _ _ _ _ _ rfl fun k sk hrk hw => ?_
                rw [Nat.zero_add, hgetset]
                by_cases hki : k = i
                · subst hki; simp
                · rw [if_neg hki]
                  rcases hord k sk hrk hki with hp | hp | ⟨hp, hq⟩ | ⟨hp, hq⟩
                  · exact (hb (hp.b1 b hw).2).elim
                  · exact (hw (hp.b1 b hb).2).elim
                  · rw [hq]; simp; omega
                  · rw [hq]; simp; omega
          rw [← this]; exact hs'
  refine key ops.size _ a _ (by simp) (fun i r _ hh => ?_) ?_ ?_
  · simp [Array.getD_eq_getD_getElem?, Array.getElem?_replicate] at hh
    split at hh <;> simp at hh
  · refine Nat.le_trans List.countP_le_length ?_
    simp
  · rw [Vsel_none S _ 0 V0 (fun j _ => by
      rw [Array.getD_eq_getD_getElem?, Array.getElem?_replicate]; split <;> rfl)]
    exact hdr h
end Go.Ev
