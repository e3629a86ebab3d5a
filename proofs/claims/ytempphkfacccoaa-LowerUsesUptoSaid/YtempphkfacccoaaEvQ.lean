/- Closed runs: code, and functions. -/
import Derived.Test.YtempphkfacccoaaEvP
import Derived.Scope
set_option linter.unusedSimpArgs false
set_option linter.unusedVariables false
namespace Go.Ev
variable {P : Program} {C : Ctx} {a : Act} {w : World} {Q : Exit → Act → World → Prop}

inductive XC where
  | skip
  | reg (r : XReg)
  | seq (a b : XC)
  | cond (c : Operand) (a b : XC)
  | block (id : Nat) (a : XC)
  | loop (a : XC)
  | exit (id : Nat)
  | scope (a r : XC)
  | label (l : Nat)
  | goto (l : Nat)
  | ret
  | bad
  deriving Inhabited
def comp (P : Program) (N : Nat) : Code → XC
  | .skip => .skip
  | .region _ ops mixed => match compReg P N ops mixed with
    | some r => .reg r
    | none => .bad
  | .seq a b => .seq (comp P N a) (comp P N b)
  | .cond c a b => .cond c (comp P N a) (comp P N b)
  | .block i a => .block i (comp P N a)
  | .loop a => .loop (comp P N a)
  | .scope a => .scope (comp P N a) (comp P N a)
  | .exit i => .exit i
  | .label l => .label l
  | .goto l => .goto l
  | .ret => .ret
  | _ => .bad
def flX : XC → Nat → Option XC
  | .seq a b, l => match flX a l with
    | some r => some (.seq r b)
    | none => flX b l
  | .label m, l => match Nat.beq m l with
    | true => some .skip
    | false => none
  | _, _ => none
theorem flX_comp (N : Nat) : ∀ (c : Code) (l : Nat) (r : XC), flX (comp P N c) l = some r → ∃ c', findLabel c l = some c' ∧ comp P N c' = r
  | .seq a b, l, r, h => by
    simp only [comp, flX] at h
    split at h
    · rename_i r' hr'
      obtain ⟨c', h1, h2⟩ := flX_comp N a l r' hr'
      cases h
      exact ⟨.seq c' b, by simp [findLabel, h1], by simp [comp, h2]⟩
    · rename_i hn
      obtain ⟨c', h1, h2⟩ := flX_comp N b l r h
      refine ⟨c', ?_, h2⟩
      have : findLabel a l = none := by
        cases hf : findLabel a l with
        | none => rfl
        | some c0 =>
          exfalso
          have key : ∀ (c : Code) (c0 : Code), findLabel c l = some c0 → flX (comp P N c) l ≠ none := by
            intro c
            induction c with
            | seq x y ihx ihy =>
              intro c0 h
              simp only [findLabel] at h
              simp only [comp, flX]
              split at h
              · rename_i hx
                split
                · simp
                · rename_i hxn; exact absurd hxn (ihx _ hx)
              · split
                · simp
                · exact ihy _ h
            | label m =>
              intro c0 h
              simp only [findLabel] at h
              split at h
              · rename_i e; simp at e; subst e
                simp [comp, flX]
              · cases h
            | _ => intro c0 h; simp [findLabel] at h
          exact key a c0 hf hn
      simp [findLabel, this, h1]
  | .label m, l, r, h => by
    simp only [comp, flX] at h
    split at h
    · rename_i e
      cases h
      have := nbeq.1 e; subst this
      exact ⟨.skip, by simp [findLabel], rfl⟩
    · cases h
  | .region id ops mixed, l, r, h => by simp only [comp] at h; split at h <;> simp [flX] at h
  | .skip, l, r, h => by simp [comp, flX] at h
  | .cond .., l, r, h => by simp [comp, flX] at h
  | .block .., l, r, h => by simp [comp, flX] at h
  | .loop .., l, r, h => by simp [comp, flX] at h
  | .scope .., l, r, h => by simp [comp, flX] at h
  | .exit .., l, r, h => by simp [comp, flX] at h
  | .goto .., l, r, h => by simp [comp, flX] at h
  | .ret, l, r, h => by simp [comp, flX] at h
  | .rangeFunc .., l, r, h => by simp [comp, flX] at h
  | .refuse .., l, r, h => by simp [comp, flX] at h

inductive Ex where
  | normal
  | ret
  | exit (id : Nat)
  | goto (l : Nat)
def Ex.to : Ex → Exit
  | .normal => .normal
  | .ret => .ret
  | .exit id => .exit id
  | .goto l => .goto l
def semC (F : Fn') : Nat → XC → Env → Hp → Option (Ex × Env × Hp)
  | 0, _, _, _ => none
  | n + 1, c, E, H => match c with
    | .skip => some (.normal, E, H)
    | .label _ => some (.normal, E, H)
    | .reg r => match semReg F H.nx r.L H.nx E ⟨H.t, H.nx + r.n⟩ with
      | some (E', H') => match chkR r.prs r.kl (infs F H.nx r.L H.nx E ⟨H.t, H.nx + r.n⟩) with
        | true => some (.normal, E', H')
        | false => none
      | none => none
    | .seq a b => match semC F n a E H with
      | some (.normal, E', H') => semC F n b E' H'
      | some (.ret, E', H') => some (.ret, E', H')
      | some (.exit i, E', H') => some (.exit i, E', H')
      | some (.goto i, E', H') => some (.goto i, E', H')
      | none => none
    | .cond c a b => match ev E c with
      | .bool true => semC F n a E H
      | .bool false => semC F n b E H
      | _ => none
    | .block id a => match semC F n a E H with
      | some (.normal, E', H') => some (.normal, E', H')
      | some (.ret, E', H') => some (.ret, E', H')
      | some (.exit i, E', H') => match Nat.beq i id with
        | true => some (.normal, E', H')
        | false => some (.exit i, E', H')
      | some (.goto i, E', H') => some (.goto i, E', H')
      | none => none
    | .loop a => match semC F n a E H with
      | some (.normal, E', H') => semC F n (.loop a) E' H'
      | some (.ret, E', H') => some (.ret, E', H')
      | some (.exit i, E', H') => some (.exit i, E', H')
      | some (.goto i, E', H') => some (.goto i, E', H')
      | none => none
    | .scope a r => match semC F n r E H with
      | some (.normal, E', H') => some (.normal, E', H')
      | some (.ret, E', H') => some (.ret, E', H')
      | some (.exit i, E', H') => some (.exit i, E', H')
      | some (.goto i, E', H') => match flX a i with
        | some r' => semC F n (.scope a r') E' H'
        | none => none
      | none => none
    | .exit id => some (.exit id, E, H)
    | .goto l => some (.goto l, E, H)
    | .ret => some (.ret, E, H)
    | .bad => none

def Post (C : Ctx) (e : Ex) (E' : Env) (H' : Hp) : Exit → Act → World → Prop := fun e' a' w' => e' = e.to ∧ Sim C (vw E' H'.t.get) a' w'
def From (P : Program) (its : List Item) (Q : Exit → Act → World → Prop) (a : Act) (w : World) : Prop :=
  ∀ (b : Frame) (k : List Item) (cs : List Frame), ∃ e a' w', Q e a' w' ∧ Arrives P (lone (b.at a (its ++ k)) cs w) b k cs e a' w'
def Good (R : Nat → Prop) (H H' : Hp) : Prop := HOK H'.t.get H'.nx R ∧ Aft H.nx H H'
theorem Good.trans {R : Nat → Prop} {H H1 H2 : Hp} (h : Good R H H1) (h' : Good R H1 H2) : Good R H H2 :=
  ⟨h'.1, Nat.le_trans h.2.nx h'.2.nx, fun b hb h0 => h'.2.low b (Nat.lt_of_lt_of_le hb h.2.nx) (h.2.low b hb h0), fun b h0 => h.2.stay b (h'.2.stay b h0)⟩

theorem semC_sound {F : Fn'} (hF : FOK P F) (hm : P.follows .mixedOrders = true) {R : Nat → Prop} : ∀ (n : Nat),
    (∀ (c : Code) (E E' : Env) (H H' : Hp) (e : Ex), semC F n (comp P C.N c) E H = some (e, E', H') → HOK H.t.get H.nx R → Good R H H' ∧ ∀ a w, Sim C (vw E H.t.get) a w → From P [.code c] (Post C e E' H') a w) ∧
    (∀ (c : Code) (E E' : Env) (H H' : Hp) (e : Ex), semC F n (.loop (comp P C.N c)) E H = some (e, E', H') → HOK H.t.get H.nx R → Good R H H' ∧ ∀ a w, Sim C (vw E H.t.get) a w → From P [.code c, .inLoop c] (Post C e E' H') a w) ∧
    (∀ (c c' : Code) (E E' : Env) (H H' : Hp) (e : Ex), semC F n (.scope (comp P C.N c) (comp P C.N c')) E H = some (e, E', H') → HOK H.t.get H.nx R → Good R H H' ∧ ∀ a w, Sim C (vw E H.t.get) a w → From P [.code c', .inScope c] (Post C e E' H') a w)
  | 0 => ⟨fun _ _ _ _ _ _ h => by simp [semC] at h, fun _ _ _ _ _ _ h => by simp [semC] at h, fun _ _ _ _ _ _ _ h => by simp [semC] at h⟩
  | n + 1 => by
    obtain ⟨ihC, ihL, ihS⟩ := semC_sound hF hm (R := R) n
    have B : ∀ (c : Code) (E E' : Env) (H H' : Hp) (e : Ex), semC F (n + 1) (.loop (comp P C.N c)) E H = some (e, E', H') → HOK H.t.get H.nx R → Good R H H' ∧ ∀ a w, Sim C (vw E H.t.get) a w → From P [.code c, .inLoop c] (Post C e E' H') a w := by
      intro c E E' H H' e h hok
      simp only [semC] at h
      have pass : ∀ {e1 : Ex} {E1 H1}, e1 ≠ .normal → semC F n (comp P C.N c) E H = some (e1, E1, H1) → (e1, E1, H1) = (e, E', H') → Good R H H' ∧ ∀ a w, Sim C (vw E H.t.get) a w → From P [.code c, .inLoop c] (Post C e E' H') a w := by
        rintro e1 E1 H1 hne h1 he
        cases he
        obtain ⟨g, hw⟩ := ihC c _ _ _ _ _ h1 hok
        refine ⟨g, fun a w hs b k cs => ?_⟩
        obtain ⟨ex, a1, w1, ⟨rfl, hs1⟩, harr⟩ := hw a w hs b (.inLoop c :: k) cs
        refine ⟨_, a1, w1, ⟨rfl, hs1⟩, ?_⟩
        cases e with
        | normal => exact absurd rfl hne
        | ret => exact .pass (x := .inLoop c) rfl (fun _ _ => .inl (by simp [Ex.to])) harr
        | exit id => exact .pass (x := .inLoop c) rfl (fun _ _ => .inl (by simp [Ex.to])) harr
        | goto l => exact .pass (x := .inLoop c) rfl (fun _ _ => .inl (by simp [Ex.to])) harr
      split at h
      · rename_i E1 H1 h1
        obtain ⟨g, hw⟩ := ihC c _ _ _ _ _ h1 hok
        obtain ⟨g2, hw2⟩ := ihL c _ _ _ _ _ h g.1
        refine ⟨g.trans g2, fun a w hs b k cs => ?_⟩
        obtain ⟨ex, a1, w1, ⟨rfl, hs1⟩, harr⟩ := hw a w hs b (.inLoop c :: k) cs
        obtain ⟨e2, a2, w2, hq2, harr2⟩ := hw2 a1 w1 hs1 b k cs
        exact ⟨e2, a2, w2, hq2, .of_steps (Steps.trans harr (.one step_inLoop)) harr2⟩
      · rename_i E1 H1 h1; exact pass (by simp) h1 (by simpa using h)
      · rename_i i E1 H1 h1; exact pass (by simp) h1 (by simpa using h)
      · rename_i i E1 H1 h1; exact pass (by simp) h1 (by simpa using h)
      · cases h
    have S : ∀ (c c' : Code) (E E' : Env) (H H' : Hp) (e : Ex), semC F (n + 1) (.scope (comp P C.N c) (comp P C.N c')) E H = some (e, E', H') → HOK H.t.get H.nx R → Good R H H' ∧ ∀ a w, Sim C (vw E H.t.get) a w → From P [.code c', .inScope c] (Post C e E' H') a w := by
      intro c c' E E' H H' e h hok
      simp only [semC] at h
      split at h
      · rename_i E1 H1 h1
        cases h
        obtain ⟨g, hw⟩ := ihC c' _ _ _ _ _ h1 hok
        refine ⟨g, fun a w hs b k cs => ?_⟩
        obtain ⟨ex, a1, w1, ⟨rfl, hs1⟩, harr⟩ := hw a w hs b (.inScope c :: k) cs
        exact ⟨_, a1, w1, ⟨rfl, hs1⟩, Steps.trans harr (.one step_inScope)⟩
      · rename_i E1 H1 h1
        cases h
        obtain ⟨g, hw⟩ := ihC c' _ _ _ _ _ h1 hok
        refine ⟨g, fun a w hs b k cs => ?_⟩
        obtain ⟨ex, a1, w1, ⟨rfl, hs1⟩, harr⟩ := hw a w hs b (.inScope c :: k) cs
        exact ⟨_, a1, w1, ⟨rfl, hs1⟩, harr⟩
      · rename_i i E1 H1 h1
        cases h
        obtain ⟨g, hw⟩ := ihC c' _ _ _ _ _ h1 hok
        refine ⟨g, fun a w hs b k cs => ?_⟩
        obtain ⟨ex, a1, w1, ⟨rfl, hs1⟩, harr⟩ := hw a w hs b (.inScope c :: k) cs
        exact ⟨_, a1, w1, ⟨rfl, hs1⟩, fun k' hk => harr k' (by simp [exitTo, hk])⟩
      · rename_i i E1 H1 h1
        split at h
        · rename_i r' hr'
          obtain ⟨c2, hf, hc2⟩ := flX_comp C.N c i r' hr'
          subst hc2
          obtain ⟨g, hw⟩ := ihC c' _ _ _ _ _ h1 hok
          obtain ⟨g2, hw2⟩ := ihS c c2 _ _ _ _ _ h g.1
          refine ⟨g.trans g2, fun a w hs b k cs => ?_⟩
          have hg : gotoIn i (.inScope c :: k) = some (.code c2 :: .inScope c :: k) := by simp [gotoIn, hf]
          obtain ⟨ex, a1, w1, ⟨rfl, hs1⟩, harr⟩ := hw a w hs b (.inScope c :: k) cs
          obtain ⟨e2, a2, w2, hq2, harr2⟩ := hw2 a1 w1 hs1 b k cs
          exact ⟨e2, a2, w2, hq2, .of_steps (harr _ hg) harr2⟩
        · cases h
      · cases h
    refine ⟨?_, B, S⟩
    intro c E E' H H' e h hok
    have stay : ∀ {e1 : Ex}, some (e1, E, H) = some (e, E', H') → (∀ a w, Sim C (vw E H.t.get) a w → From P [.code c] (Post C e1 E H) a w) → Good R H H' ∧ ∀ a w, Sim C (vw E H.t.get) a w → From P [.code c] (Post C e E' H') a w := by
      rintro e1 he hw
      cases he
      exact ⟨⟨hok, Aft.refl _ _⟩, hw⟩
    cases c with
    | skip => exact stay (by simpa [semC, comp] using h) fun a w hs => wp_skip ⟨rfl, hs⟩
    | label l => exact stay (by simpa [semC, comp] using h) fun a w hs => wp_label ⟨rfl, hs⟩
    | exit id => exact stay (by simpa [semC, comp] using h) fun a w hs => wp_exit ⟨rfl, hs⟩
    | goto l => exact stay (by simpa [semC, comp] using h) fun a w hs => wp_goto ⟨rfl, hs⟩
    | ret => exact stay (by simpa [semC, comp] using h) fun a w hs => wp_ret ⟨rfl, hs⟩
    | rangeFunc f ps x y => simp [semC, comp] at h
    | refuse why => simp [semC, comp] at h
    | region id ops mixed =>
      simp only [comp] at h
      split at h
      · rename_i r hr
        simp only [semC] at h
        split at h
        · rename_i E1 H1 h1
          split at h
          · rename_i hk
            cases h
            obtain ⟨g, hw⟩ := reg_sound hF hm hr hok h1 hk
            exact ⟨g, fun a w hs => hw id _ a w hs fun a' w' hs' => ⟨rfl, hs'⟩⟩
          · cases h
        · cases h
      · simp [semC] at h
    | seq x y =>
      simp only [comp, semC] at h
      have pass : ∀ {e1 : Ex} {E1 H1}, e1 ≠ .normal → semC F n (comp P C.N x) E H = some (e1, E1, H1) → (e1, E1, H1) = (e, E', H') → Good R H H' ∧ ∀ a w, Sim C (vw E H.t.get) a w → From P [.code (.seq x y)] (Post C e E' H') a w := by
        rintro e1 E1 H1 hne h1 he
        cases he
        obtain ⟨g, hw⟩ := ihC x _ _ _ _ _ h1 hok
        refine ⟨g, fun a w hs => wp_seq (wp_mono (hw a w hs) ?_)⟩
        rintro e' a' w' ⟨rfl, hs'⟩
        cases e with
        | normal => exact absurd rfl hne
        | _ => exact ⟨rfl, hs'⟩
      split at h
      · rename_i E1 H1 h1
        obtain ⟨g, hw⟩ := ihC x _ _ _ _ _ h1 hok
        obtain ⟨g2, hw2⟩ := ihC y _ _ _ _ _ h g.1
        refine ⟨g.trans g2, fun a w hs => wp_seq (wp_mono (hw a w hs) ?_)⟩
        rintro e' a' w' ⟨rfl, hs'⟩
        exact hw2 a' w' hs'
      · rename_i E1 H1 h1; exact pass (by simp) h1 (by simpa using h)
      · rename_i i E1 H1 h1; exact pass (by simp) h1 (by simpa using h)
      · rename_i i E1 H1 h1; exact pass (by simp) h1 (by simpa using h)
      · cases h
    | cond c x y =>
      simp only [comp, semC] at h
      split at h
      · rename_i hb
        obtain ⟨g, hw⟩ := ihC x _ _ _ _ _ h hok
        refine ⟨g, fun a w hs => ?_⟩
        have hc : a.eval c = .bool true := by
          obtain ⟨ρ, hs⟩ := hs
          have := hs.ev c
          rw [vw_ev, hb] at this; simpa only [Holds] using this
        exact wp_cond_split hc (fun _ => hw a w hs) (fun e => by cases e)
      · rename_i hb
        obtain ⟨g, hw⟩ := ihC y _ _ _ _ _ h hok
        refine ⟨g, fun a w hs => ?_⟩
        have hc : a.eval c = .bool false := by
          obtain ⟨ρ, hs⟩ := hs
          have := hs.ev c
          rw [vw_ev, hb] at this; simpa only [Holds] using this
        exact wp_cond_split hc (fun e => by cases e) (fun _ => hw a w hs)
      · cases h
    | block id x =>
      simp only [comp, semC] at h
      have run : ∀ {e1 : Ex} {E1 H1 e2}, semC F n (comp P C.N x) E H = some (e1, E1, H1) → (e2, E1, H1) = (e, E', H') → (∀ Q a w, Q e2.to a w → Exit.inBlock id Q e1.to a w) → Good R H H' ∧ ∀ a w, Sim C (vw E H.t.get) a w → From P [.code (.block id x)] (Post C e E' H') a w := by
        rintro e1 E1 H1 e2 h1 he hq
        cases he
        obtain ⟨g, hw⟩ := ihC x _ _ _ _ _ h1 hok
        refine ⟨g, fun a w hs => wp_block (wp_mono (hw a w hs) ?_)⟩
        rintro e' a' w' ⟨rfl, hs'⟩
        exact hq _ _ _ ⟨rfl, hs'⟩
      split at h
      · rename_i E1 H1 h1; exact run h1 (by simpa using h) fun Q a w hq => hq
      · rename_i E1 H1 h1; exact run h1 (by simpa using h) fun Q a w hq => hq
      · rename_i i E1 H1 h1
        split at h
        · rename_i hb
          refine run (e2 := .normal) h1 (by simpa using h) fun Q a w hq => ?_
          simp only [Ex.to, Exit.inBlock, if_pos (nbeq.1 hb)]; exact hq
        · rename_i hb
          refine run (e2 := .exit i) h1 (by simpa using h) fun Q a w hq => ?_
          have : ¬ i = id := fun e => by subst e; rw [nbeq.2 rfl] at hb; cases hb
          simp only [Ex.to, Exit.inBlock, if_neg this]; exact hq
      · rename_i i E1 H1 h1; exact run h1 (by simpa using h) fun Q a w hq => hq
      · cases h
    | loop x =>
      obtain ⟨g, hw⟩ := B x _ _ _ _ _ (by simpa only [comp] using h) hok
      refine ⟨g, fun a w hs b k cs => ?_⟩
      obtain ⟨e1, a1, w1, hq, harr⟩ := hw a w hs b k cs
      exact ⟨e1, a1, w1, hq, .of_steps (.one step_loop) harr⟩
    | scope x =>
      obtain ⟨g, hw⟩ := S x x _ _ _ _ _ (by simpa only [comp] using h) hok
      refine ⟨g, fun a w hs b k cs => ?_⟩
      obtain ⟨e1, a1, w1, hq, harr⟩ := hw a w hs b k cs
      exact ⟨e1, a1, w1, hq, .of_steps (.one step_scope) harr⟩
end Go.Ev
