/- Closed runs: regions, run: what is checked where the order is open. -/
import Derived.Test.YtempphkfacccoaaEvM
set_option linter.unusedSimpArgs false
set_option linter.unusedVariables false
namespace Go.Ev
open Go.Aw (edgesOf)
variable {P : Program} {C : Ctx} {a : Act} {w : World} {ops : Array Oper} {Q : Exit → Act → World → Prop} {o : Oper} {x y : XOp} {i : Nat}

theorem opG_ok {F : Fn'} (hF : FOK P F) {base n : Nat} {E : Env} {H H' : Hp} {v : EV} {inf : Inf} (ho : ops[i]? = some o) (hx : IsX P C.N ops o x) (hi : i < n) (hk : ∀ j ∈ x.kill, i < j ∧ j < n) {R : Nat → Prop} (hN : Nm base n i H R)
    (hr : opG F x base (base + i) E H = some (v, H', inf)) (after : List Nat) :
    OpOK P C ops i (vw E H.t.get) (stepOf x v after inf) ∧ (vw E H.t.get).appX x.dst (stepOf x v after inf).e = vw (putE E x.dst v) H'.t.get ∧ Nm base n (i + 1) H' R ∧ Aft base H H' := by
  have skip : ∀ {t want}, x.guard = some (t, want) → ((∃ b, gt E t = .bool b ∧ b ≠ want) ∨ ∃ vs, gt E t = .lit (.tuple vs)) → (v = skipV ∧ H' = H ∧ inf = .mem [] []) →
      OpOK P C ops i (vw E H.t.get) (stepOf x v after inf) ∧ (vw E H.t.get).appX x.dst (stepOf x v after inf).e = vw (putE E x.dst v) H'.t.get ∧ Nm base n (i + 1) H' R ∧ Aft base H H' := by
    rintro t want hg hv ⟨rfl, rfl, rfl⟩
    refine ⟨?_, ?_, ⟨hN.ok, hN.top, fun j h1 h2 => hN.free j (by omega) h2⟩, Aft.refl _ _⟩
    · intro V' a w Q K hrt htb _ hs hK
      simp only [stepOf] at hrt htb hK
      refine wpOp_skip ho hx hs hg ?_ ?_
      · rw [guard_agree hrt hg]; exact hv
      · obtain ⟨ρ, hs⟩ := hs
        refine hK _ _ ⟨ρ, ?_⟩
        have := hs.putO (d := o.dst) (x := skipV) (v := undef) (fun i hi => hx.lt i (by rw [← hx.dst]; exact hi)) (by simp only [skipV, Holds]; rfl)
        rw [hx.dst] at this ⊢
        refine cast ?_ this
        congr 1
    · simp only [stepOf]
      exact appX_vw _ _ _ _ _ _ fun b => rfl
  unfold opG at hr
  split at hr
  · rename_i hg
    exact opX_ok hF ho hx hi hk hN hr (fun t want h => by rw [hg] at h; cases h) after
  · rename_i t want hg
    split at hr
    · rename_i b hv
      split at hr
      · rename_i hb
        refine opX_ok hF ho hx hi hk hN hr (fun t' want' h => ?_) after
        rw [hg] at h; cases h
        rw [hv]; simp at hb; rw [hb]
      · rename_i hb
        cases hr
        exact skip hg (.inl ⟨b, hv, by simpa using hb⟩) ⟨rfl, rfl, rfl⟩
    · rename_i vs hv
      cases hr
      exact skip hg (.inr ⟨vs, hv⟩) ⟨rfl, rfl, rfl⟩
    · cases hr

theorem semReg_spec {F : Fn'} (hF : FOK P F) {base n : Nat} {R : Nat → Prop} (af : Nat → List Nat) : ∀ (L : List XOp) (i : Nat) (E E' : Env) (H H' : Hp), semReg F base L (base + i) E H = some (E', H') →
    (∀ j x, L[j]? = some x → ∃ o, ops[i + j]? = some o ∧ IsX P C.N ops o x ∧ ∀ q ∈ x.kill, i + j < q ∧ q < n) → i + L.length ≤ n → Nm base n i H R →
    ∃ S : List Step, S.length = L.length ∧ (∀ j s, S[j]? = some s → OpOK P C ops (i + j) (Vsel S (fun m => decide (m < j)) 0 (vw E H.t.get)) s) ∧
      (∀ (j : Nat) (s : Step) (x : XOp) (inf : Inf), S[j]? = some s → L[j]? = some x → (infs F base L (base + i) E H)[j]? = some inf → ∃ v, s = stepOf x v (af (i + j)) inf) ∧ (infs F base L (base + i) E H).length = L.length ∧
      Vsel S (fun _ => true) 0 (vw E H.t.get) = vw E' H'.t.get ∧ Nm base n (i + L.length) H' R ∧ Aft base H H'
  | [], i, E, E', H, H', hr, _, _, hN => by
    simp only [semReg, Option.some.injEq, Prod.mk.injEq] at hr
    obtain ⟨rfl, rfl⟩ := hr
    exact ⟨[], rfl, by simp, by simp, rfl, rfl, by simpa using hN, Aft.refl _ _⟩
  | x :: L, i, E, E', H, H', hr, hL, hn, hN => by
    simp only [semReg] at hr
    split at hr
    · rename_i v H1 inf hop
      obtain ⟨o, ho, hx, hk⟩ := hL 0 x (by simp)
      simp only [Nat.add_zero] at ho hk
      simp only [List.length_cons] at hn
      obtain ⟨h1, h2, h3, h4⟩ := opG_ok hF ho hx (by omega) hk hN hop (af i)
      rw [Nat.add_assoc] at hr
      obtain ⟨S, k1, k2, k3, k4, k5, k6, k7⟩ := semReg_spec hF af L (i + 1) _ E' H1 H' hr (fun j y hy => by
        have := hL (j + 1) y (by simpa using hy)
        rwa [show i + (j + 1) = i + 1 + j from by omega] at this) (by omega) h3
      have hinf : infs F base (x :: L) (base + i) E H = inf :: infs F base L (base + (i + 1)) (putE E x.dst v) H1 := by simp only [infs, hop]; rfl
      have hdst : (stepOf x v (af i) inf).dst = x.dst := by cases inf <;> rfl
      refine ⟨stepOf x v (af i) inf :: S, by simp [k1], fun j s hs => ?_, fun j s y inf' hs hy hi' => ?_, by rw [hinf]; simp [k4], ?_, ?_, h4.trans k7⟩
      · cases j with
        | zero =>
          simp at hs; subst hs
          rw [Vsel_none _ _ _ _ (by simp)]
          exact h1
        | succ j =>
          simp only [Vsel]
          rw [if_pos (by simp), Vsel_shift, hdst, h2]
          have := k2 j s (by simpa using hs)
          rw [show i + (j + 1) = i + 1 + j from by omega]
          simpa using this
      · rw [hinf] at hi'
        cases j with
        | zero => simp at hs hy hi'; subst hs; subst hy; subst hi'; exact ⟨v, rfl⟩
        | succ j =>
          rw [show i + (j + 1) = i + 1 + j from by omega]
          exact k3 j s y inf' (by simpa using hs) (by simpa using hy) (by simpa using hi')
      · simp only [Vsel, if_true]
        rw [Vsel_shift, hdst, h2]; exact k5
      · rw [show i + (x :: L).length = i + 1 + L.length from by simp; omega]; exact k6
    · cases hr

theorem nbeq {a b : Nat} : Nat.beq a b = true ↔ a = b := ⟨Nat.eq_of_beq_eq_true, fun h => by subst h; exact Nat.beq_refl a⟩
/-- is it the same? (no answer is no) -/
def eqV1 : EV → EV → Bool
  | .int j x, .int k y => decide (j = k) && decide (x = y)
  | .bool x, .bool y => x == y
  | .str n l, .str m k => Nat.beq n m && Nat.beq l k
  | .ptr b i k, .ptr b' i' k' => Nat.beq b b' && Nat.beq i i' && Nat.beq k k'
  | .sl b w i n c e, .sl b' w' i' n' c' e' => Nat.beq b b' && Nat.beq w w' && Nat.beq i i' && Nat.beq n n' && Nat.beq c c' && e == e'
  | .mp b, .mp b' => Nat.beq b b'
  | .lit (.slice none 0 0), .lit (.slice none 0 0) => true
  | .lit (.pointer none), .lit (.pointer none) => true
  | .lit (.map none), .lit (.map none) => true
  | .lit .nilFunc, .lit .nilFunc => true
  | .lit .nilIface, .lit .nilIface => true
  | _, _ => false
theorem eqV1_eq {x y : EV} (h : eqV1 x y = true) : x = y := by
  unfold eqV1 at h
  split at h <;> first | (simp only [Bool.and_eq_true, decide_eq_true_eq, beq_iff_eq, nbeq, Bool.false_eq_true] at h; done) | skip
  all_goals try simp only [Bool.and_eq_true, decide_eq_true_eq, beq_iff_eq, nbeq] at h
  · obtain ⟨rfl, rfl⟩ := h; rfl
  · subst h; rfl
  · obtain ⟨rfl, rfl⟩ := h; rfl
  · obtain ⟨⟨rfl, rfl⟩, rfl⟩ := h; rfl
  · obtain ⟨⟨⟨⟨⟨rfl, rfl⟩, rfl⟩, rfl⟩, rfl⟩, rfl⟩ := h; rfl
  · subst h; rfl
  all_goals rfl
def eqR1 : List EV → List EV → Bool
  | [], [] => true
  | x :: xs, y :: ys => eqV1 x y && eqR1 xs ys
  | _, _ => false
theorem eqR1_eq : ∀ {x y : List EV}, eqR1 x y = true → x = y
  | [], [], _ => rfl
  | x :: xs, y :: ys, h => by
    simp only [eqR1, Bool.and_eq_true] at h
    rw [eqV1_eq h.1, eqR1_eq h.2]
  | [], _ :: _, h => by simp [eqR1] at h
  | _ :: _, [], h => by simp [eqR1] at h
def eqR2 : List (List EV) → List (List EV) → Bool
  | [], [] => true
  | x :: xs, y :: ys => eqR1 x y && eqR2 xs ys
  | _, _ => false
theorem eqR2_eq : ∀ {x y : List (List EV)}, eqR2 x y = true → x = y
  | [], [], _ => rfl
  | x :: xs, y :: ys, h => by
    simp only [eqR2, Bool.and_eq_true] at h
    rw [eqR1_eq h.1, eqR2_eq h.2]
  | [], _ :: _, h => by simp [eqR2] at h
  | _ :: _, [], h => by simp [eqR2] at h
def eqB1 : Option EBlk → Option EBlk → Bool
  | some (.cells e w ro al rows), some (.cells e' w' ro' al' rows') => Nat.beq e e' && Nat.beq w w' && ro == ro' && decide (al = al') && eqR2 rows rows'
  | some (.map ks vs), some (.map ks' vs') => eqR1 ks ks' && eqR1 vs vs'
  | none, none => true
  | some .dead, some .dead => true
  | _, _ => false
theorem eqB1_eq {x y : Option EBlk} (h : eqB1 x y = true) : x = y := by
  unfold eqB1 at h
  split at h <;> first | (simp only [Bool.and_eq_true, decide_eq_true_eq, beq_iff_eq, nbeq, Bool.false_eq_true] at h; done) | skip
  all_goals try simp only [Bool.and_eq_true, decide_eq_true_eq, beq_iff_eq, nbeq] at h
  · obtain ⟨⟨⟨⟨rfl, rfl⟩, rfl⟩, rfl⟩, h⟩ := h; rw [eqR2_eq h]
  · rw [eqR1_eq h.1, eqR1_eq h.2]
  all_goals rfl

def mmem (b : Nat) (l : List Nat) : Bool := l.any (Nat.beq b)
theorem mmem_iff {b : Nat} {l : List Nat} : mmem b l = true ↔ b ∈ l := by
  simp only [mmem, List.any_eq_true, nbeq]
  exact ⟨fun ⟨c, h, e⟩ => by rw [e]; exact h, fun h => ⟨b, h, rfl⟩⟩
def indI : Inf → Inf → Bool
  | .mem t1 u1, .mem t2 u2 => u1.all (fun p => !mmem p.1 t2 && !mmem p.1 (u2.map (·.1))) && u2.all (fun p => !mmem p.1 t1)
  | .mem t1 u1, .call _ H0 H1 => u1.isEmpty && t1.all (fun b => eqB1 (H1.get b) (H0.get b))
  | .call D H0 H1, .mem t2 u2 => t2.all (fun b => mmem b D || eqB1 (H1.get b) (H0.get b)) && u2.all (fun p => mmem p.1 D)
  | .call .., .call .. => false
/-- slots of the one are none of the other -/
def indT (x y : XOp) : Bool :=
  (match x.dst with | some t => !mmem t (rtX y) && (match y.dst with | some u => !Nat.beq t u | none => true) | none => true) && (match y.dst with | some t => !mmem t (rtX x) | none => true)
def memless (eo : EOp) : Bool := !eo.fresh && !eo.reads && !eo.isCall
def pureNew (eo : EOp) : Bool := eo.fresh && !eo.reads && !eo.isCall

theorem lk_mem {α : Type} {b : Nat} {k : α} : ∀ {l : List (Nat × α)}, Aw.lk l b = some k → (b, k) ∈ l
  | [], h => by simp [Aw.lk] at h
  | (c, q) :: l, h => by
    simp only [Aw.lk] at h
    split at h
    · rename_i e; cases h; subst e; simp
    · exact List.mem_cons_of_mem _ (lk_mem h)
theorem lk_ne {α : Type} {b : Nat} {l : List (Nat × α)} (h : Aw.lk l b ≠ none) : ∃ k, (b, k) ∈ l := by
  cases hl : Aw.lk l b with
  | none => exact absurd hl h
  | some k => exact ⟨k, lk_mem hl⟩

theorem indep_of {v v' : EV} {af af' : List Nat} {I J : Inf} (hT : indT x y = true) (hI : indI I J = true) : Indep (stepOf x v af I) (stepOf y v' af' J) := by
  have d1 : (stepOf x v af I).dst = x.dst := by cases I <;> rfl
  have d2 : (stepOf y v' af' J).dst = y.dst := by cases J <;> rfl
  have r1 : (stepOf x v af I).rt = rtX x := by cases I <;> rfl
  have r2 : (stepOf y v' af' J).rt = rtX y := by cases J <;> rfl
  simp only [indT, Bool.and_eq_true] at hT
  refine ⟨fun t ht => ?_, fun t ht => ?_, fun b hb => ?_, fun b hb => ?_⟩
  · rw [d1] at ht; rw [r2, d2]
    have := hT.1
    rw [ht] at this
    simp only [Bool.and_eq_true, Bool.not_eq_true'] at this
    refine ⟨fun h => (by rw [mmem_iff.2 h] at this; cases this.1), fun h => ?_⟩
    rw [h] at this; simp at this
  · rw [d2] at ht; rw [r1]
    have := hT.2
    rw [ht] at this
    simp only [Bool.not_eq_true'] at this
    exact fun h => by rw [mmem_iff.2 h] at this; cases this
  · cases I with
    | mem t1 u1 =>
      obtain ⟨k, hk⟩ := lk_ne hb
      cases J with
      | mem t2 u2 =>
        simp only [indI, Bool.and_eq_true, List.all_eq_true, Bool.not_eq_true'] at hI
        have := hI.1 _ hk
        refine ⟨fun h => (by rw [mmem_iff.2 h] at this; cases this.1), ?_⟩
        simp only [stepOf]
        cases hl : Aw.lk u2 b with
        | none => rfl
        | some k' =>
          have h2 := this.2
          have h3 : mmem b (u2.map (·.1)) = true := mmem_iff.2 (List.mem_map.2 ⟨_, lk_mem hl, rfl⟩)
          rw [show (b, k).1 = b from rfl, h3] at h2; cases h2
      | call D H0 H1 =>
        simp only [indI, Bool.and_eq_true, List.isEmpty_iff] at hI
        rw [hI.1] at hk; cases hk
    | call D H0 H1 =>
      simp only [stepOf] at hb
      cases J with
      | mem t2 u2 =>
        simp only [indI, Bool.and_eq_true, List.all_eq_true, Bool.or_eq_true] at hI
        have hb' : ¬ (b ∈ D ∨ H1.get b = H0.get b) := fun h => by rw [if_pos h] at hb; exact hb rfl
        refine ⟨fun h => ?_, ?_⟩
        · rcases hI.1 b h with e | e
          · exact hb' (.inl (mmem_iff.1 e))
          · exact hb' (.inr (eqB1_eq e))
        · simp only [stepOf]
          cases hl : Aw.lk u2 b with
          | none => rfl
          | some k' => exact absurd (.inl (mmem_iff.1 (hI.2 _ (lk_mem hl)))) hb'
      | call D' H0' H1' => simp [indI] at hI
  · cases J with
    | mem t2 u2 =>
      obtain ⟨k, hk⟩ := lk_ne hb
      cases I with
      | mem t1 u1 =>
        simp only [indI, Bool.and_eq_true, List.all_eq_true, Bool.not_eq_true'] at hI
        have := hI.2 _ hk
        exact fun h => by rw [mmem_iff.2 h] at this; cases this
      | call D H0 H1 =>
        simp only [indI, Bool.and_eq_true, List.all_eq_true] at hI
        have := hI.2 _ hk
        exact fun h => h (mmem_iff.1 this)
    | call D H0 H1 =>
      cases I with
      | mem t1 u1 =>
        simp only [indI, Bool.and_eq_true, List.all_eq_true] at hI
        simp only [stepOf] at hb
        intro h
        exact hb (if_pos (.inr (eqB1_eq (hI.2 b h))))
      | call D' H0' H1' => simp [indI] at hI
end Go.Ev
