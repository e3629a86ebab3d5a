/- Regions whose guards are not known: both ways. -/
import Derived.Test.YtmikljncdgfjpaaGreatDoorAwZg
set_option linter.unusedSimpArgs false
set_option linter.unusedVariables false
namespace Go.Aw
variable {P : Program} {C : Ctx} {ops : Array Oper}

def runKB (P : Program) : List ROp → List Res → AS → List Info → (AS → List Info → Prop) → Prop
  | [], _, s, I, K => K s I.reverse
  | r :: L, c :: R, s, I, K => match r.guard with
    | none => match effOf P c r.dst r.op s.view with
      | some e => e.ob ∧ runKB P L R (s.app r.dst e) (infoOf c r e s.view :: I) K
      | none => False
    | some (d, want) => match s.view.tm d with
      | .val (.bool b) => (b = want → match effOf P c r.dst r.op (s.put d (.val (.bool want))).view with
          | some e => e.ob ∧ runKB P L R ((s.put d (.val (.bool want))).app r.dst e) (infoOf c r e (s.put d (.val (.bool want))).view :: I) K
          | none => False) ∧ (b = !want → runKB P L R ((s.put d (.val (.bool !want))).app r.dst Skipped) (infoOf c r Skipped (s.put d (.val (.bool !want))).view :: I) K)
      | .val (.tuple _) => runKB P L R (s.app r.dst Skipped) (infoOf c r Skipped s.view :: I) K
      | _ => False
  | _ :: _, [], _, _, _ => False
theorem put_view {s : AS} {d : Nat} {x : AV} (h : s.view.tm d = x) : (s.put d x).view = s.view := by
  rw [view_put]
  refine View.ext (fun t => ?_) (fun b => rfl)
  simp only [View.put]
  split
  · rename_i e; subst e; exact h.symm
  · rfl
theorem runA_view : ∀ (L : List ROp) (R : List Res) (s t s' : AS) (ob : Prop), s.view = t.view → runA P L R s = some (s', ob) → ∃ t', runA P L R t = some (t', ob) ∧ t'.view = s'.view ∧ infosA P L R t = infosA P L R s
  | [], R, s, t, s', ob, hv, h => by
    simp only [runA, Option.some.injEq, Prod.mk.injEq] at h
    obtain ⟨rfl, rfl⟩ := h
    exact ⟨t, rfl, hv.symm, rfl⟩
  | r :: L, [], s, t, s', ob, hv, h => by simp [runA] at h
  | r :: L, c :: R, s, t, s', ob, hv, h => by
    simp only [runA] at h
    split at h
    · rename_i e he
      split at h
      · rename_i s1 ob1 h1
        simp only [Option.some.injEq, Prod.mk.injEq] at h
        obtain ⟨rfl, rfl⟩ := h
        obtain ⟨t', h2, h3, h4⟩ := runA_view L R (s.app r.dst e) (t.app r.dst e) s1 ob1 (by rw [view_app, view_app, hv]) h1
        refine ⟨t', ?_, h3, ?_⟩
        · simp only [runA, ← hv, he, h2]
        · simp only [infosA, ← hv, he, h4]
      · cases h
    · cases h
theorem runKB_runA : ∀ (L : List ROp) (R : List Res) (s : AS) (I : List Info) (K : AS → List Info → Prop), runKB P L R s I K → ∃ s' ob, runA P L R s = some (s', ob) ∧ ob ∧ ∃ s'', s''.view = s'.view ∧ K s'' (I.reverse ++ infosA P L R s)
  | [], R, s, I, K, h => ⟨s, True, rfl, trivial, s, rfl, by cases R <;> simpa [runKB, infosA] using h⟩
  | r :: L, [], s, I, K, h => h.elim
  | r :: L, c :: R, s, I, K, h => by
    -- a step with effect e, from a state of the same view
    have step : ∀ (t : AS) (e : Eff), t.view = s.view → effG P c r s.view = some e → e.ob → runKB P L R (t.app r.dst e) (infoOf c r e t.view :: I) K →
        ∃ s' ob, runA P (r :: L) (c :: R) s = some (s', ob) ∧ ob ∧ ∃ s'', s''.view = s'.view ∧ K s'' (I.reverse ++ infosA P (r :: L) (c :: R) s) := by
      intro t e hv he hob hk
      obtain ⟨t', ob, h1, h2, s'', h3, h4⟩ := runKB_runA L R _ _ K hk
      obtain ⟨s', h5, h6, h7⟩ := runA_view L R (t.app r.dst e) (s.app r.dst e) t' ob (by rw [view_app, view_app, hv]) h1
      refine ⟨s', e.ob ∧ ob, by simp only [runA, he, h5], ⟨hob, h2⟩, s'', by rw [h6, h3], ?_⟩
      simp only [infosA, he]
      rw [h7, ← hv]
      simpa using h4
    simp only [runKB] at h
    split at h
    · rename_i hg
      split at h
      · rename_i e he
        exact step s e rfl (by simp only [effG, hg]; exact he) h.1 h.2
      · exact h.elim
    · rename_i d want hg
      split at h
      · rename_i b hb
        by_cases hw : b = want
        · have hv := put_view (s := s) (d := d) (x := .val (.bool want)) (by rw [hb, hw])
          have h1 := h.1 hw
          split at h1
          · rename_i e he
            refine step _ e hv ?_ h1.1 h1.2
            simp only [effG, hg, hb]
            rw [if_pos hw, ← hv]; exact he
          · exact h1.elim
        · have hw' : b = !want := by clear step h hb hg; cases b <;> cases want <;> first | rfl | exact absurd rfl hw
          have hv := put_view (s := s) (d := d) (x := .val (.bool !want)) (by rw [hb, hw'])
          refine step _ Skipped hv ?_ trivial (h.2 hw')
          simp only [effG, hg, hb]
          rw [if_neg hw]
      · rename_i hb
        refine step s Skipped rfl ?_ trivial h
        simp only [effG, hg, hb]
      · exact h.elim
theorem AWp.regB {id : Nat} {Q : Exit → AS → Prop} {s : AS} (tks : List Bool) (L : List ROp) (R : List Res) (hops : trOps P ops tks ops.toList = some L) (hok : okAll C.N L = true)
    (h : ∀ K : AS → Prop, (∀ s', Q .normal s' → K s') → runKB P L (alignR L R) s [] (fun s' _ => K s')) : AWp P C (.region id ops false) Q s := by
  obtain ⟨s', ob, h1, h2, s'', h3, h4⟩ := runKB_runA L _ s [] _ (h (Q .normal) (fun _ h => h))
  intro a w hs
  obtain ⟨E, hR, hV, _⟩ := runA_spec L _ s s' ob h1 h2 hok
  exact region_plain hops hR hs fun a' w' hs' => ⟨s'', by rw [h3, ← hV]; exact hs', h4⟩
/-- both ways, then on from one state -/
theorem AWp.seqR {id : Nat} {rest : Code} {Q : Exit → AS → Prop} {s : AS} (tks : List Bool) (L : List ROp) (R : List Res) (hops : trOps P ops tks ops.toList = some L) (hok : okAll C.N L = true) (st : AS)
    (h : ∀ K : AS → Prop, (∀ s', st.le s' → K s') → runKB P L (alignR L R) s [] (fun s' _ => K s')) (hrest : AWp P C rest Q st) : AWp P C (.seq (.region id ops false) rest) Q s :=
  AWp.seq (AWp.regB tks L R hops hok fun K hK => h K fun s' hle => hK s' (AWp.forget hle hrest))
theorem AWp.regDB {id : Nat} {Q : Exit → AS → Prop} {s : AS} (hm : P.follows .mixedOrders = true) (tks : List Bool) (L : List ROp) (R : List Res) (hops : trOps P ops tks ops.toList = some L) (hok : okAll C.N L = true) (hback : backP L 0 = true)
    (h : ∀ K : AS → Prop, (∀ s', Q .normal s' → K s') → runKB P L (alignR L R) s [] (fun s' I => freeP (reachL L []) I 0 = true ∧ K s')) : AWp P C (.region id ops true) Q s := by
  obtain ⟨s', ob, h1, h2, s'', h3, h4, h5⟩ := runKB_runA L _ s [] _ (h (Q .normal) (fun _ h => h))
  have := AWp.regionD hm (C := C) (Q := fun e t => e = .normal ∧ t.view = s'.view) R hops hok hback (by simpa using h4) h1 h2 ⟨rfl, rfl⟩ (id := id)
  intro a w hs
  refine wp_mono (this a w hs) ?_
  rintro e a' w' ⟨t, ht, rfl, hv⟩
  exact ⟨s'', by rw [h3, ← hv]; exact ht, h5⟩
theorem AWp.seqRD {id : Nat} {rest : Code} {Q : Exit → AS → Prop} {s : AS} (hm : P.follows .mixedOrders = true) (tks : List Bool) (L : List ROp) (R : List Res) (hops : trOps P ops tks ops.toList = some L) (hok : okAll C.N L = true) (hback : backP L 0 = true) (st : AS)
    (h : ∀ K : AS → Prop, (∀ s', st.le s' → K s') → runKB P L (alignR L R) s [] (fun s' I => freeP (reachL L []) I 0 = true ∧ K s')) (hrest : AWp P C rest Q st) : AWp P C (.seq (.region id ops true) rest) Q s :=
  AWp.seq (AWp.regDB hm tks L R hops hok hback fun K hK => h K fun s' hle => hK s' (AWp.forget hle hrest))
theorem AWp.regR {id : Nat} {rest : Code} {Q : Exit → AS → Prop} {s : AS} (tks : List Bool) (L : List ROp) (R : List Res) (hops : trOps P ops tks ops.toList = some L) (hok : okAll C.N L = true) (st : AS)
    (h : ∀ K : AS → Prop, (∀ s', st.le s' → K s') → runKB P L (alignR L R) s [] (fun s' _ => K s')) (hrest : AWp P C rest Q st) : AWp P C (.region id ops false) (thenQ P C rest Q) s :=
  AWp.regB tks L R hops hok fun K hK => h K fun s' hle => hK s' (AWp.forget hle hrest)
theorem AWp.regRD {id : Nat} {rest : Code} {Q : Exit → AS → Prop} {s : AS} (hm : P.follows .mixedOrders = true) (tks : List Bool) (L : List ROp) (R : List Res) (hops : trOps P ops tks ops.toList = some L) (hok : okAll C.N L = true) (hback : backP L 0 = true) (st : AS)
    (h : ∀ K : AS → Prop, (∀ s', st.le s' → K s') → runKB P L (alignR L R) s [] (fun s' I => freeP (reachL L []) I 0 = true ∧ K s')) (hrest : AWp P C rest Q st) : AWp P C (.region id ops true) (thenQ P C rest Q) s :=
  AWp.regDB hm tks L R hops hok hback fun K hK => h K fun s' hle => hK s' (AWp.forget hle hrest)
attribute [simp] runKB
end Go.Aw
