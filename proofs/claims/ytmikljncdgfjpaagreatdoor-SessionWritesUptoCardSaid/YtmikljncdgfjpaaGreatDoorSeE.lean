/- The pen: a copy of bytes, a new pen. -/
import Derived.Test.YtmikljncdgfjpaaGreatDoorSeD
import Derived.Test.YtmikljncdgfjpaaGreatDoorSeLayB
set_option linter.unusedSimpArgs false
set_option linter.unusedVariables false
open Go Go.Aw Go.Proofs
namespace Go.Se
-- function 73: slices.Clone[[]byte,byte]
def F73r0 : List ROp := [⟨some 2, .copy true (.const (.slice none 0 0)), [], none⟩]
def F73r1 : List ROp := [⟨some 3, .copy false (.tmp 0), [], none⟩,
  ⟨some 4, .x1 3 (.tmp 3), [], none⟩]
def F73r2 : List ROp := [⟨some 2, .copy true (.const (.slice none 0 0)), [], none⟩]
def F73r3 : List ROp := [⟨some 5, .bslice 5 1 [Value.int .u8 0] 0 [], [], none⟩,
  ⟨some 6, .copy false (.tmp 0), [], none⟩,
  ⟨some 7, .app 5 1 1 (.tmp 5) (.tmp 6), [], none⟩,
  ⟨some 2, .copy true (.tmp 7), [], none⟩]
def bt (l : List Int) : List (List AV) := l.map fun c => [uval c]
@[simp] theorem bt_len (l : List Int) : (bt l).length = l.length := by simp [bt]
theorem bt_app (a b : List Int) : bt (a ++ b) = bt a ++ bt b := by simp [bt]
def nilA : AV := .val (.slice none 0 0)
/-- bytes as they are handed in -/
def IsB (b : AV) (l : List Int) : Prop := (b = nilA ∧ l = []) ∨ (b = .rd 1 (bt l) ∧ l ≠ [])
theorem Clone_nil : Con Tryz.prog 73 [nilA] (.own 5 1 (bt [])) := by
  refine Con.of_code Tryz.func73 (by kernel_rfl) rfl (by simp [Tryz.ntmps73]) fun C hC hM => ?_
  refine AWp.seq ?_
  refine AWp.regK [0] [true] F73r0 [] (by kernel_rfl) (by rw [hC]; rfl) fun K hK => ?_
  simp (maxSteps := 2000000) [F73r0, nilA]
  refine hK _ ?_
  refine AWp.seq ?_
  refine AWp.seq ?_
  refine AWp.regK [0, 4] [] F73r1 [] (by kernel_rfl) (by rw [hC]; rfl) fun K hK => ?_
  simp (maxSteps := 2000000) [F73r1, nilA]
  refine hK _ ?_
  refine AWp.cond true (by simp) (fun _ => ?_) (fun he => by cases he)
  refine AWp.seq ?_
  refine AWp.regK [2] [true] F73r2 [] (by kernel_rfl) (by rw [hC]; rfl) fun K hK => ?_
  simp (maxSteps := 2000000) [F73r2]
  refine hK _ ?_
  refine AWp.forget (s' := { tm := [(2, .own 5 1 (bt []))], hp := [] }) (by simp [bt]) ?_
  repeat refine AWp.seq ?_
  refine AWp.ret ⟨.inr rfl, _, by simp [Tryz.results73] <;> rfl, ?_⟩
  exact .closed rfl
theorem Clone_some (c : Int) (l : List Int) (hl : (c :: l).length ≤ 268435456) : Con Tryz.prog 73 [.rd 1 (bt (c :: l))] (.own 5 1 (bt (c :: l))) := by
  refine Con.of_code Tryz.func73 (by kernel_rfl) rfl (by simp [Tryz.ntmps73]) fun C hC hM => ?_
  refine AWp.seq ?_
  refine AWp.regK [0] [true] F73r0 [] (by kernel_rfl) (by rw [hC]; rfl) fun K hK => ?_
  simp (maxSteps := 2000000) [F73r0, bt]
  refine hK _ ?_
  refine AWp.seq ?_
  refine AWp.seq ?_
  refine AWp.regK [0, 4] [] F73r1 [] (by kernel_rfl) (by rw [hC]; rfl) fun K hK => ?_
  simp (maxSteps := 2000000) [F73r1, bt]
  refine hK _ ?_
  refine AWp.cond false (by simp) (fun he => by cases he) (fun _ => ?_)
  have hl' : l.length + 1 ≤ 268435456 := by simpa using hl
  refine AWp.skip ?_
  refine AWp.seq ?_
  refine AWp.regK [2] [false, false, false, true] F73r3 [] (by kernel_rfl) (by rw [hC]; rfl) fun K hK => ?_
  simp (maxSteps := 2000000) [F73r3]
  (repeat refine ⟨by first | omega | (intros; omega) | assumption, ?_⟩); refine hK _ ?_
  repeat refine AWp.seq ?_
  refine AWp.ret ⟨.inr rfl, _, by simp [Tryz.results73] <;> rfl, ?_⟩
  exact .clos (by simp [bt]) rfl
theorem behind_raw (s : Value) (w : World) (R : Value → World → Prop) (h : Calls Tryz.prog 73 #[s] w fun e w' => ∃ a n c, e = .returned (.slice a n c) ∧ R (.slice a n c) w') :
    Calls Tryz.prog 94 #[s] w fun e w'' => ∃ v w', R v w' ∧ e = .returned (.pointer (some ⟨w'.heap.size, 0, none⟩)) ∧ w'' = w'.alloc (.cells #[v, .int .u8 0] 127 (0, 0)) ∧ v.oneCell' = true := by
  go_enter Tryz.func94, Tryz.ntmps94
  go_wp2_with (go_at_call 73; refine h.mono ?_; rintro e w' ⟨a, n, c, rfl, hR⟩)
  go_ret
  exact ⟨_, _, hR, rfl, rfl, rfl⟩
abbrev penT : Nat := 127
def penB (l : List Int) (t : Int) : Blk := .cells penT [.own 5 1 (bt l), uval t]
theorem Clone_ok {b : AV} {l : List Int} (hb : IsB b l) (hl : l.length ≤ 268435456) : Con Tryz.prog 73 [b] (.own 5 1 (bt l)) := by
  rcases hb with ⟨rfl, rfl⟩ | ⟨rfl, hn⟩
  · exact Clone_nil
  · cases l with
    | nil => exact absurd rfl hn
    | cons c l => exact Clone_some c l hl
theorem behind_ok {b : AV} {l : List Int} (hb : IsB b l) (hl : l.length ≤ 268435456) : ConM Tryz.prog 94 [] [b] (.ptr 6 0) [(6, penB l 0)] := by
  refine ⟨⟨_, Tryz.func94, by kernel_rfl, rfl⟩, rfl, fun fz ρ w vs hok hm hvs => ?_⟩
  have hρ : ∀ x, ρ x = none := fun x => hm.dom x rfl
  obtain ⟨s, hs, hv⟩ : ∃ s, Holds fz b noRen s ∧ vs = #[s] := by
    simp only [HoldsL] at hvs
    obtain ⟨v, r, e, h1, rfl⟩ := hvs
    refine ⟨v, ?_, Array.toList_inj.1 (by simpa using e)⟩
    rcases hb with ⟨rfl, _⟩ | ⟨rfl, _⟩ <;> simpa only [Holds, nilA] using h1
  subst hv
  have hC := (Clone_ok hb hl).2 fz w #[s] hok (by simp only [HoldsL]; exact ⟨s, [], rfl, hs, rfl⟩)
  have hB := behind_raw s w (fun v w' => ∃ fz', Ext w w' ∧ fz.le fz' ∧ FzOK fz' w' ∧ (∀ c, c < w.heap.size → (∀ o, fz'.cell c o = fz.cell c o) ∧ fz'.obj c = fz.obj c) ∧ Holds fz' (.own 5 1 (bt l)) noRen v ∧ TipNew fz' w w' 5 1 (bt l) v) (hC.mono (by
    rintro e w' ⟨v, fz', rfl, h1, h2, h3, h4, h5, h6⟩
    have h5' := h5
    simp only [Holds] at h5'
    obtain ⟨a, c, rfl, _⟩ := h5'
    exact ⟨a, _, c, rfl, fz', h1, h2, h3, h4, h5, h6 _ _ _ rfl⟩))
  refine hB.mono ?_
  rintro e w'' ⟨v, w', ⟨fz', h1, h2, h3, h4, h5, h6⟩, rfl, rfl, h7⟩
  have hx : Ext w' (w'.alloc (.cells #[v, .int .u8 0] penT (0, 0))) := Ext.alloc _ _
  have hN : (w'.alloc (.cells #[v, .int .u8 0] penT (0, 0))).heap[w'.heap.size]? = some (.cells #[v, .int .u8 0] penT (0, 0)) := by
    show (w'.heap.push _)[w'.heap.size]? = _
    simp
  have hfc : ∀ o, fz'.cell w'.heap.size o = none := by
    intro o
    cases hc : fz'.cell w'.heap.size o with
    | none => rfl
    | some u => have := World.block_lt_of_cell? w' _ (h3.1 _ _ _ hc); simp at this
  have hfo : fz'.obj w'.heap.size = none := by
    cases hc : fz'.obj w'.heap.size with
    | none => rfl
    | some u => have := lt_of_heap (h3.2 _ _ hc); omega
  let ρ' : Aw.Ren := fun x => if x = 6 then some w'.heap.size else none
  have hat : ∀ p, isOwn ((hpV (lk [(6, penB l 0)])).at p) = true → p = .c 6 0 := by
    intro p hp
    cases p with
    | t i => cases hp
    | c b' j =>
      simp only [View.at, hpV, lk] at hp
      split at hp
      · rename_i e; subst e
        simp only [Option.map_some, Option.getD_some, penB, Blk.at] at hp
        match j, hp with
        | 0, _ => rfl
        | 1, hp => cases hp
        | j + 2, hp => simp at hp; cases hp
      · cases hp
  have hcn : conc act0 (w'.alloc (.cells #[v, .int .u8 0] penT (0, 0))) ρ' (.c 6 0) = v := by
    simp only [conc, ρ', if_true, cellAt, hN]; rfl
  have htip : TipM fz' ρ' (w'.alloc (.cells #[v, .int .u8 0] penT (0, 0))) 5 1 (bt l) v := by
    rcases h6 with h6 | ⟨g, cap, cur, e1, e2, e3, e4, e5, e6, e7, e8⟩
    · exact .inl h6
    · refine .inr ⟨g, cap, cur, e1, hx.heap e3, e4, e5, e6, e7, e8, fun b' hb' => ?_⟩
      simp only [ρ'] at hb'
      split at hb'
      · cases hb'; have := lt_of_heap e3; omega
      · cases hb'
  refine ⟨_, fz', ρ', rfl, ⟨(h1.trans hx).os, (h1.trans hx).tape, (h1.trans hx).output, (h1.trans hx).size, fun k hk _ => (h1.trans hx).block k hk⟩, h2, ⟨fun c o u hu => hx.cell (h3.1 c o u hu), fun c o ho => hx.heap (h3.2 c o ho)⟩, fun c hc _ => h4 c hc, ?_, fun b' c h => by (rw [hρ] at h; cases h), fun b' c h => ?_, fun c hc => ?_, ?_⟩
  · refine ⟨fun b' k hk => ?_, fun b' hb' => ?_, fun b1 b2 c e1 e2 => ?_, fun p e wd rows hp => ?_, fun p q hp hq g g' n n' c c' _ _ _ => ?_⟩
    · simp only [lk] at hk
      split at hk
      · rename_i e; subst e; cases hk
        refine ⟨w'.heap.size, by simp [ρ'], ⟨_, hN, ?_, ?_⟩, hfc, hfo⟩
        · show HoldsL fz' [_, _] ρ' [v, .int .u8 0]
          simp only [HoldsL]
          refine ⟨v, _, rfl, by simpa only [Holds] using h5, _, _, rfl, by simp [Holds], rfl⟩
        · intro u hu
          have : u = v ∨ u = .int .u8 0 := by simpa using hu
          rcases this with rfl | rfl
          · exact h7
          · rfl
      · cases hk
    · simp only [lk] at hb'
      split at hb'
      · cases hb'
      · rename_i e; simp only [ρ']; rw [if_neg (fun e' => e e'.symm)]
    · simp only [ρ'] at e1 e2
      split at e1
      · split at e2
        · rename_i x y; rw [x, y]
        · cases e2
      · cases e1
    · have := hat p (by rw [hp]; rfl)
      subst this
      rw [hcn]
      have hp' : AV.own 5 1 (bt l) = AV.own e wd rows := hp
      injection hp' with a1 a2 a3
      subst a1; subst a2; subst a3
      exact htip
    · rw [hat p hp, hat q hq]
  · simp only [ρ'] at h
    split at h
    · cases h; exact .inr (.inl h1.size)
    · cases h
  · rcases hc with ⟨b', hb'⟩ | ⟨p, g, n', cap', ho, hcg, rfl⟩
    · simp only [ρ'] at hb'
      split at hb'
      · cases hb'; exact .inl h1.size
      · cases hb'
    · have := hat p ho
      subst this
      rw [hcn] at hcg
      rcases h6 with ⟨e1, _⟩ | ⟨g0, cap, cur, e1, e2, _⟩
      · rw [e1] at hcg; cases hcg
      · rw [e1] at hcg
        cases hcg
        exact .inl e2
  · simp only [Holds]
    exact ⟨w'.heap.size, by simp [ρ'], rfl⟩
end Go.Se
