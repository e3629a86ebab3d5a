/- Closed runs: regions, run: each operation is a step. -/
import Derived.Test.YtempphkfacccoaaEvL
set_option linter.unusedSimpArgs false
set_option linter.unusedVariables false
namespace Go.Ev
open Go.Aw (edgesOf)
variable {P : Program} {C : Ctx} {a : Act} {w : World} {ops : Array Oper} {Q : Exit → Act → World → Prop} {o : Oper} {x : XOp} {i : Nat}

def rtX (x : XOp) : List Nat := (x.op.opds.filterMap fun | .tmp t => some t | _ => none) ++ (match x.guard with | some (d, _) => [d] | none => [])
structure IsX (P : Program) (N : Nat) (ops : Array Oper) (o : Oper) (x : XOp) : Prop where
  op : trE P o.op = some x.op
  dst : o.dst = x.dst
  lt : ∀ i, x.dst = some i → i < N
  guard : match o.guard with
    | none => x.guard = none
    | some (g, want) => ∃ d, (ops[g]?).bind (·.dst) = some d ∧ x.guard = some (d, want)

theorem wpOp_run {V' : View} (ho : ops[i]? = some o) (hx : IsX P C.N ops o x) (h : Sim C V' a w) (hg : ∀ t want, x.guard = some (t, want) → V'.tm t = .bool want) {K : Act → World → Prop} (hop : o.wp P a w K Q) : wpOp P ops Q i K a w := by
  obtain ⟨ρ, h⟩ := h
  unfold wpOp
  rw [ho]
  simp only
  have hxg := hx.guard
  cases hgd : o.guard with
  | none => rw [if_pos (by simp [Region.wanted, hgd])]; exact .inl hop
  | some gw =>
    obtain ⟨g, want⟩ := gw
    rw [hgd] at hxg
    obtain ⟨d, hgdst, hxg⟩ := hxg
    have ht := h.tm d
    rw [hg d want hxg] at ht
    simp only [Holds] at ht
    have hy : yielded ops a.tmps g = some want := by
      have : a.tmps[d]? = some (.bool want) := by
        rw [Array.getD_eq_getD_getElem?] at ht
        cases hx : a.tmps[d]? with
        | none => rw [hx] at ht; simp [undef] at ht
        | some v => rw [hx] at ht; simp at ht; rw [ht]
      simp [yielded, hgdst, this]
    rw [if_pos (by simp [Region.wanted, hgd, hy])]
    exact .inl hop
theorem wpOp_skip {V' : View} (ho : ops[i]? = some o) (hx : IsX P C.N ops o x) (h : Sim C V' a w) {t : Nat} {want : Bool} (hg : x.guard = some (t, want)) (hv : (∃ b, V'.tm t = .bool b ∧ b ≠ want) ∨ ∃ vs, V'.tm t = .lit (.tuple vs))
    {K : Act → World → Prop} (hK : K (a.put o.dst undef) w) : wpOp P ops Q i K a w := by
  obtain ⟨ρ, h⟩ := h
  unfold wpOp
  rw [ho]
  simp only
  have hxg := hx.guard
  cases hgd : o.guard with
  | none => rw [hgd] at hxg; rw [hg] at hxg; cases hxg
  | some gw =>
    obtain ⟨g, want'⟩ := gw
    rw [hgd] at hxg
    obtain ⟨d, hgdst, hxg⟩ := hxg
    rw [hg] at hxg; cases hxg
    have ht := h.tm t
    rcases hv with ⟨b, hvb, hbw⟩ | ⟨vs, hvb⟩
    · rw [hvb] at ht
      simp only [Holds] at ht
      have hy : yielded ops a.tmps g = some b := by
        have : a.tmps[t]? = some (.bool b) := by
          rw [Array.getD_eq_getD_getElem?] at ht
          cases hx : a.tmps[t]? with
          | none => rw [hx] at ht; simp [undef] at ht
          | some v => rw [hx] at ht; simp at ht; rw [ht]
        simp [yielded, hgdst, this]
      rw [if_neg (by simp [Region.wanted, hgd, hy, hbw])]
      exact hK
    · rw [hvb] at ht
      simp only [Holds] at ht
      have hy : yielded ops a.tmps g = none := by
        have : ∀ v, a.tmps[t]? = some v → v = .tuple vs := by
          intro v hv
          rw [Array.getD_eq_getD_getElem?, hv] at ht
          simpa using ht
        simp only [yielded, hgdst, Option.bind_some]
        cases hx : a.tmps[t]? with
        | none => rfl
        | some v => rw [this v hx]
      rw [if_neg (by simp [Region.wanted, hgd, hy])]
      exact hK

open Classical in
noncomputable def stepOf (x : XOp) (v : EV) (after : List Nat) : Inf → Step
  | .mem tb upd => ⟨x.dst, rtX x, (· ∈ tb), fun _ => False, ⟨v, Aw.lk upd⟩, after⟩
  | .call D H0 H1 => ⟨x.dst, rtX x, (· ∉ D), (· ∈ D), ⟨v, fun b => if b ∈ D ∨ H1.get b = H0.get b then none else H1.get b⟩, after⟩

theorem ev_agree {V V' : View} {x : XOp} (h : ∀ t ∈ rtX x, V'.tm t = V.tm t) {q : Operand} (hq : q ∈ x.op.opds) : V'.ev q = V.ev q := by
  cases q with
  | tmp t =>
    refine h t ?_
    simp only [rtX, List.mem_append, List.mem_filterMap]
    exact .inl ⟨.tmp t, hq, rfl⟩
  | _ => rfl
theorem evs_agree {V V' : View} {x : XOp} (h : ∀ t ∈ rtX x, V'.tm t = V.tm t) : x.op.opds.map V'.ev = x.op.opds.map V.ev :=
  List.map_congr_left fun _ hq => ev_agree h hq
theorem guard_agree {V V' : View} {x : XOp} (h : ∀ t ∈ rtX x, V'.tm t = V.tm t) {t : Nat} {want : Bool} (hg : x.guard = some (t, want)) : V'.tm t = V.tm t := by
  refine h t ?_
  simp only [rtX, hg, List.mem_append, List.mem_singleton, or_true]

theorem trE_call {op : Op} {f : Operand} {args : List Operand} (h : trE P op = some (.call f args)) : ∃ c : Call, op = .call c ∧ c.callee = .value f ∧ c.args.toList = args := by
  cases op with
  | call c =>
    simp only [trE] at h
    split at h
    · rename_i g hc
      cases h
      exact ⟨c, rfl, hc, rfl⟩
    · split at h
      · cases h
      · split at h
        · simp only [trApp] at h
          repeat' split at h
          all_goals cases h
        · cases h
    · split at h <;> cases h
  | insert t m k v => simp only [trE] at h; repeat' split at h
                      all_goals cases h
  | nilCheck y => simp [trE] at h
  | binOp op t y z u =>
    simp only [trE] at h
    split at h
    · cases h
    · split at h <;> cases h
  | _ => simp only [trE] at h; split at h <;> cases h

theorem appX_vw (E : Env) (H H' : Hv) (d : Option Nat) (v : EV) (upd : Nat → Option EBlk) (h : ∀ b, (match upd b with | some k => some k | none => H b) = H' b) : (vw E H).appX d ⟨v, upd⟩ = vw (putE E d v) H' := by
  refine View.ext (fun t => ?_) (fun b => ?_)
  · rw [appX_tm]; simp only [vw, gt_put]
  · rw [appX_hp]; exact h b

/-- names from base on, given to the operations of a region; those from k on are still free -/
structure Nm (base n k : Nat) (H : Hp) (R : Nat → Prop) : Prop where
  ok : HOK H.t.get H.nx R
  top : base + n ≤ H.nx
  free : ∀ j, k ≤ j → j < n → H.t.get (base + j) = none

/-- names: no fewer, and none below base but those that were given -/
structure Aft (base : Nat) (H H' : Hp) : Prop where
  nx : H.nx ≤ H'.nx
  low : ∀ b, b < base → H.t.get b = none → H'.t.get b = none
  stay : ∀ b, H'.t.get b = none → H.t.get b = none
theorem Aft.refl (base : Nat) (H : Hp) : Aft base H H := ⟨Nat.le_refl _, fun _ _ h => h, fun _ h => h⟩
theorem Aft.trans {base : Nat} {H H1 H2 : Hp} (h : Aft base H H1) (h' : Aft base H1 H2) : Aft base H H2 := ⟨Nat.le_trans h.nx h'.nx, fun b hb h0 => h'.low b hb (h.low b hb h0), fun b h0 => h.stay b (h'.stay b h0)⟩
theorem not_call {eo : EOp} (h : ∀ f args, eo ≠ .call f args) (F : Fn') (x : XOp) (hx : x.op = eo) (base d : Nat) (E : Env) (H : Hp) :
    opX F x base d E H = match actE d eo (eo.opds.map (ev E)) H.t.get with
    | some ef => some (ef.out, ⟨H.t.sets ef.upd, H.nx⟩, .mem (tbE eo d (eo.opds.map (ev E))) ef.upd)
    | none => none := by
  unfold opX
  rw [hx]
  cases eo with
  | call f args => exact absurd rfl (h f args)
  | _ => rfl

theorem evs_vw (E : Env) (H : Hv) (l : List Operand) : l.map (vw E H).ev = l.map (ev E) := List.map_congr_left fun q _ => vw_ev E H q

theorem opX_ok {F : Fn'} (hF : FOK P F) {base n : Nat} {E : Env} {H H' : Hp} {v : EV} {inf : Inf} (ho : ops[i]? = some o) (hx : IsX P C.N ops o x) (hi : i < n) (hk : ∀ j ∈ x.kill, i < j ∧ j < n) {R : Nat → Prop} (hN : Nm base n i H R)
    (hr : opX F x base (base + i) E H = some (v, H', inf)) (hg : ∀ t want, x.guard = some (t, want) → gt E t = .bool want) (after : List Nat) :
    OpOK P C ops i (vw E H.t.get) (stepOf x v after inf) ∧ (vw E H.t.get).appX x.dst (stepOf x v after inf).e = vw (putE E x.dst v) H'.t.get ∧ Nm base n (i + 1) H' R ∧ Aft base H H' := by
  by_cases hc : ∃ f args, x.op = .call f args
  · obtain ⟨f, args, hc⟩ := hc
    simp only [opX, hc] at hr
    split at hr
    · rename_i fid caps hcal
      split at hr
      · rename_i v1 H1 hF1
        simp only [Option.some.injEq, Prod.mk.injEq] at hr
        obtain ⟨rfl, rfl, rfl⟩ := hr
        let D := x.kill.map (base + ·)
        have hD0 : ∀ b ∈ D, H.t.get b = none := by
          intro b hb
          obtain ⟨j, hj, rfl⟩ := List.mem_map.1 hb
          exact hN.free j (by have := hk j hj; omega) (hk j hj).2
        have hDlt : ∀ b ∈ D, b < H.nx := by
          intro b hb
          obtain ⟨j, hj, rfl⟩ := List.mem_map.1 hb
          have := hN.top; have := hk j hj; show base + j < H.nx; omega
        have hkok : HOK (H.t.kills D).get H.nx (fun b => R b ∨ b ∈ D) := by
          rw [kills_get]
          refine ⟨fun b hb => ?_, fun y k hy b hb => ?_, fun b hb => ?_⟩
          · have : b ∉ D := fun h => by have := hDlt b h; omega
            simp only [Hv.kill, List.contains_iff_mem, this, if_false]; exact hN.ok.free b hb
          · simp only [Hv.kill] at hy
            split at hy
            · cases hy; simp [EBlk.al] at hb
            · have := hN.ok.al y k hy b hb
              refine ⟨?_, fun h => h.elim this.2 fun h => this.1 (hD0 b h)⟩
              simp only [Hv.kill]; split
              · simp
              · exact this.1
          · simp only [Hv.kill]; split
            · rfl
            · rename_i hc; exact hb.elim (hN.ok.res b) fun h => absurd (by simpa using h) hc
        obtain ⟨hcall, hok1, hnx1, hfr1⟩ := hF _ _ _ _ _ _ hF1 hkok
        simp only at hcall hok1 hnx1 hfr1
        have hst := hcall.2.1
        have hst' : ∀ b, b ∉ D → H1.t.get b = none → H.t.get b = none := by
          intro b hb h1
          have := hst b h1
          rw [kills_get] at this
          have hb' : b ∉ x.kill.map (base + ·) := hb
          simp only [Hv.kill, List.contains_iff_mem, if_neg hb'] at this
          exact this
        have hout : ∀ b, (H1.t.wipes D).get b = if b ∈ D then none else H1.t.get b := fun b => wipes_get _ _ _
        refine ⟨?_, ?_, ⟨⟨fun b hb => ?_, fun y k hy b hb => ?_, fun b hb => ?_⟩, ?_, fun j h1 h2 => ?_⟩, hnx1, fun b hb h0 => ?_, fun b h0 => ?_⟩
        · intro V' a w Q K hrt htb hfr hs hK
          simp only [stepOf] at hrt htb hfr hK
          obtain ⟨c, hop, hcl, hca⟩ := trE_call (by rw [hx.op, hc])
          obtain ⟨cal, cargs, cats⟩ := c
          simp only at hcl hca
          subst hcl
          have hev : ∀ q ∈ f :: args, V'.ev q = ev E q := fun q hq => by
            rw [ev_agree hrt (by rw [hc]; exact hq), vw_ev]
          have hargs : cargs.toList.map V'.ev = args.map (ev E) := by
            rw [hca]; exact List.map_congr_left fun q hq => hev q (List.mem_cons_of_mem _ hq)
          refine wpOp_run ho hx hs (fun t want hg' => ?_) ?_
          · rw [guard_agree hrt hg']; exact hg t want hg'
          · refine Oper.wp_mono ?_ (sound_call (D := D) (H1 := H1.t.get) (v := v1) hs hop (fn := fid) (caps := caps) (by rw [hev f (by simp)]; exact hcal) ?_ (fun b hb => hfr b hb) (fun y hy k hyk b hb hal => ?_) (fun i hi => hx.lt i (by rw [← hx.dst]; exact hi)) Q)
            · intro a' w' hs'
              refine hK a' w' ?_
              rw [hx.dst] at hs'
              refine cast ?_ hs'
              congr 1
              refine View.ext (fun t => ?_) (fun b => ?_)
              · rw [appX_tm]; cases x.dst <;> simp [View.putO, View.put, eq_comm]
              · rw [appX_hp]
                have e1 : (View.putO { V' with hp := fun b => if b ∈ D then V'.hp b else H1.t.get b } x.dst v1).hp b = if b ∈ D then V'.hp b else H1.t.get b := by cases x.dst <;> rfl
                rw [e1]
                by_cases hbD : b ∈ D
                · have hbD' : b ∈ x.kill.map (base + ·) := hbD
                  rw [if_pos hbD]; simp only [if_pos (Or.inl hbD' : _ ∨ H1.t.get b = H.t.get b)]
                · have hbD' : b ∉ x.kill.map (base + ·) := hbD
                  rw [if_neg hbD]
                  by_cases he : H1.t.get b = H.t.get b
                  · simp only [if_pos (Or.inr he : b ∈ x.kill.map (base + ·) ∨ _)]
                    rw [htb b hbD']; exact he
                  · simp only [if_neg (fun h => h.elim hbD' he : ¬ (b ∈ x.kill.map (base + ·) ∨ H1.t.get b = H.t.get b))]
                    cases hh : H1.t.get b with
                    | none => exact absurd (by rw [hh, hst' b hbD hh]) he
                    | some k => rfl
            · rw [hargs]
              have : Hv.kill V'.hp D = (H.t.kills D).get := by
                rw [kills_get]; funext b
                simp only [Hv.kill]
                split
                · rfl
                · rename_i hb; exact htb b (by rw [List.contains_iff_mem] at hb; exact hb)
              rw [this]
              exact hcall
            · have := htb y hy
              rw [this] at hyk
              exact (hN.ok.al y k hyk b hal).1 (hD0 b hb)
        · simp only [stepOf]
          refine appX_vw _ _ _ _ _ _ fun b => ?_
          rw [hout]
          by_cases hbD : b ∈ D
          · have hbD' : b ∈ x.kill.map (base + ·) := hbD
            simp only [if_pos (Or.inl hbD' : _ ∨ H1.t.get b = H.t.get b), if_pos hbD]; exact hD0 b hbD
          · have hbD' : b ∉ x.kill.map (base + ·) := hbD
            rw [if_neg hbD]
            by_cases he : H1.t.get b = H.t.get b
            · simp only [if_pos (Or.inr he : b ∈ x.kill.map (base + ·) ∨ _)]; exact he.symm
            · simp only [if_neg (fun h => h.elim hbD' he : ¬ (b ∈ x.kill.map (base + ·) ∨ H1.t.get b = H.t.get b))]
              cases hh : H1.t.get b with
              | none => exact absurd (by rw [hh, hst' b hbD hh]) he
              | some k => rfl
        · rw [show (⟨H1.t.wipes (x.kill.map (base + ·)), H1.nx⟩ : Hp).t.get b = _ from hout b]
          split
          · rfl
          · exact hok1.free b hb
        · have hy' := hy
          rw [show (⟨H1.t.wipes (x.kill.map (base + ·)), H1.nx⟩ : Hp).t.get y = _ from hout y] at hy'
          split at hy'
          · cases hy'
          · have := hok1.al y k hy' b hb
            rw [show (⟨H1.t.wipes (x.kill.map (base + ·)), H1.nx⟩ : Hp).t.get b = _ from hout b]
            rw [if_neg (fun h => this.2 (.inr h))]
            exact ⟨this.1, fun h => this.2 (.inl h)⟩
        · rw [show (⟨H1.t.wipes (x.kill.map (base + ·)), H1.nx⟩ : Hp).t.get b = _ from hout b]
          rw [if_neg (fun h => by have := hN.ok.res b hb; rw [hD0 b h] at this; cases this)]
          exact hok1.res b (.inl hb)
        · have := hN.top; show base + n ≤ H1.nx; omega
        · rw [show (⟨H1.t.wipes (x.kill.map (base + ·)), H1.nx⟩ : Hp).t.get (base + j) = _ from hout (base + j)]
          split
          · rfl
          · rename_i hb
            refine hfr1 _ (by have := hN.top; omega) ?_
            rw [kills_get]
            have hb' : base + j ∉ x.kill.map (base + ·) := hb
            simp only [Hv.kill, List.contains_iff_mem, if_neg hb']
            exact hN.free j (by omega) h2
        · rw [show (⟨H1.t.wipes (x.kill.map (base + ·)), H1.nx⟩ : Hp).t.get b = _ from hout b]
          split
          · rfl
          · rename_i hb'
            refine hfr1 _ (by have := hN.top; omega) ?_
            rw [kills_get]
            have hb'' : b ∉ x.kill.map (base + ·) := hb'
            simp only [Hv.kill, List.contains_iff_mem, if_neg hb'']
            exact h0
        · rw [show (⟨H1.t.wipes (x.kill.map (base + ·)), H1.nx⟩ : Hp).t.get b = _ from hout b] at h0
          by_cases hb' : b ∈ D
          · exact hD0 b hb'
          · rw [if_neg hb'] at h0; exact hst' b hb' h0
      · cases hr
    · cases hr
  · have hc' : ∀ f args, x.op ≠ .call f args := fun f args h => hc ⟨f, args, h⟩
    rw [not_call hc' F x rfl] at hr
    split at hr
    · rename_i ef hef
      simp only [Option.some.injEq, Prod.mk.injEq] at hr
      obtain ⟨rfl, rfl, rfl⟩ := hr
      have hnm := actE_names hN.ok.al hN.ok.res hef
      have hout : ∀ b, (H.t.sets ef.upd).get b = match Aw.lk ef.upd b with | some k => some k | none => H.t.get b := fun b => by rw [sets_get]; exact upds_lk _ _ _
      have hlk : ∀ b k, Aw.lk ef.upd b = some k → (b, k) ∈ ef.upd := by
        intro b k
        generalize ef.upd = l
        induction l with
        | nil => simp [Aw.lk]
        | cons p l ih =>
          obtain ⟨c, q⟩ := p
          simp only [Aw.lk]
          split
          · rename_i e; intro h; cases h; subst e; simp
          · intro h; exact List.mem_cons_of_mem _ (ih h)
      have hnone : ∀ b, b ≠ base + i → H.t.get b = none → (H.t.sets ef.upd).get b = none := by
        intro b hb h0
        rw [hout]
        cases hl : Aw.lk ef.upd b with
        | none => exact h0
        | some k =>
          rcases (hnm b k (hlk b k hl)).1 with e | e
          · exact absurd e.1 hb
          · exact absurd h0 e.1
      have hsome : ∀ b, H.t.get b ≠ none → (H.t.sets ef.upd).get b ≠ none := by
        intro b hb
        rw [hout]
        cases Aw.lk ef.upd b with
        | none => exact hb
        | some k => simp
      refine ⟨?_, ?_, ⟨⟨fun b hb => ?_, fun y k hy b hb => ?_, fun b hb => ?_⟩, hN.top, fun j h1 h2 => ?_⟩, Nat.le_refl _, fun b hb h0 => ?_, fun b h0 => ?_⟩
      · intro V' a w Q K hrt htb _ hs hK
        simp only [stepOf] at hrt htb hK
        have hev : x.op.opds.map V'.ev = x.op.opds.map (ev E) := by rw [evs_agree hrt, evs_vw]
        have hfr : x.op.fresh = true → V'.hp (base + i) = none := fun hf => by
          rw [htb _ (by simp [tbE, hf])]; exact hN.free i (Nat.le_refl _) hi
        have he' : actE (base + i) x.op (x.op.opds.map V'.ev) V'.hp = some ef := by
          rw [hev, ← hef]
          refine actE_congr fun hrd b hb => htb b ?_
          simp [tbE, hrd, hb]
        refine wpOp_run ho hx hs (fun t want hg' => ?_) ?_
        · rw [guard_agree hrt hg']; exact hg t want hg'
        · obtain ⟨ρ, hs⟩ := hs
          refine Oper.wp_mono ?_ (op_sound hs hx.op hfr he' (fun i hi => hx.lt i (by rw [← hx.dst]; exact hi)) Q)
          intro a' w' hs'
          refine hK a' w' ?_
          rw [app_x, hx.dst] at hs'
          exact hs'
      · simp only [stepOf]
        refine appX_vw _ _ _ _ _ _ fun b => ?_
        rw [hout]
      · have hb' : H.nx ≤ b := hb
        refine hnone b ?_ (hN.ok.free b hb)
        have := hN.top; omega
      · have hy' := hy
        rw [show (⟨H.t.sets ef.upd, H.nx⟩ : Hp).t.get y = _ from hout y] at hy'
        cases hl : Aw.lk ef.upd y with
        | none => rw [hl] at hy'; exact ⟨hsome b (hN.ok.al y k hy' b hb).1, (hN.ok.al y k hy' b hb).2⟩
        | some k' => rw [hl] at hy'; cases hy'; have := (hnm y k (hlk y k hl)).2 b hb; exact ⟨hsome b this.1, this.2⟩
      · rw [show (⟨H.t.sets ef.upd, H.nx⟩ : Hp).t.get b = _ from hout b]
        have h0 := hN.ok.res b hb
        cases hl : Aw.lk ef.upd b with
        | none => exact h0
        | some k =>
          rcases (hnm b k (hlk b k hl)).1 with e | e
          · have := hN.free i (Nat.le_refl _) hi; rw [e.1, this] at h0; cases h0
          · exact absurd hb e.2
      · exact hnone _ (by omega) (hN.free j (by omega) h2)
      · exact hnone b (by omega) h0
      · cases hb : H.t.get b with
        | none => rfl
        | some k => exact absurd h0 (hsome b (by rw [hb]; simp))
    · cases hr
end Go.Ev
