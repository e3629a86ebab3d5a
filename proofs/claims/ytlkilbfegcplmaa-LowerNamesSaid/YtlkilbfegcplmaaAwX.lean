/- Weaker values: a contract may be asked for more than it needs, and say less than it gives. -/
import Derived.Test.YtlkilbfegcplmaaAwW
set_option linter.unusedSimpArgs false
set_option linter.unusedVariables false
namespace Go.Aw
mutual
inductive Wk : AV → AV → Prop
  | refl (x : AV) : Wk x x
  | unk (x : AV) : Wk x .unk
  | nil (w : Nat) : Wk (.val (.slice none 0 0)) (.rd w [])
  | rd {w : Nat} {rows rows' : List (List AV)} : WkR rows rows' → Wk (.rd w rows) (.rd w rows')
  | own {e : TypeId} {w : Nat} {rows rows' : List (List AV)} : WkR rows rows' → Wk (.own e w rows) (.rd w rows')
  | fx {w : Nat} {rows rows' : List (List AV)} : WkR rows rows' → Wk (.fx w rows) (.rd w rows')
  | agg {l l' : List AV} : WkL l l' → Wk (.agg l) (.agg l')
  | tup {l l' : List AV} : WkL l l' → Wk (.tup l) (.tup l')
  | rmap {ks : List Value} {l l' : List AV} : WkL l l' → Wk (.rmap ks l) (.rmap ks l')
  | kset {ks ks' : List Value} {l : List AV} {u : Value} : l = ks.map (fun _ => AV.val u) → (∀ k, k ∈ ks ↔ k ∈ ks') → Wk (.rmap ks l) (.kset ks' u)
inductive WkL : List AV → List AV → Prop
  | nil : WkL [] []
  | cons {x y : AV} {l l' : List AV} : Wk x y → WkL l l' → WkL (x :: l) (y :: l')
inductive WkR : List (List AV) → List (List AV) → Prop
  | nil : WkR [] []
  | cons {x y : List AV} {l l' : List (List AV)} : WkL x y → WkR l l' → WkR (x :: l) (y :: l')
end
theorem WkL.length : ∀ {l l' : List AV}, WkL l l' → l'.length = l.length
  | _, _, .nil => rfl
  | _, _, .cons _ h => by simp [WkL.length h]
theorem WkR.length : ∀ {l l' : List (List AV)}, WkR l l' → l'.length = l.length
  | _, _, .nil => rfl
  | _, _, .cons _ h => by simp [WkR.length h]
theorem WkR.eqnil {l' : List (List AV)} : WkR [] l' → l' = [] := fun h => by cases h; rfl
mutual
theorem Wk.holds {fz : Fz} : ∀ {x y : AV}, Wk x y → ∀ ρ v, Holds fz x ρ v → Holds fz y ρ v
  | _, _, .refl x, _, _, h => h
  | _, _, .unk x, _, _, _ => by simp only [Holds]
  | _, _, .nil w, _, _, h => by
    simp only [Holds] at h ⊢; exact ⟨none, 0, h, Nat.le_refl _, .inl (by simp)⟩
  | _, _, .rd hr, _, _, h => by
    simp only [Holds] at h ⊢; obtain ⟨a, c, e, l, h⟩ := h
    refine ⟨a, c, by rw [hr.length]; exact e, by rw [hr.length]; exact l, h.imp (fun h => ?_) fun ⟨b, o, e, h⟩ => ⟨b, o, e, WkR.holds hr _ _ _ h⟩⟩
    subst h; exact hr.eqnil
  | _, _, .own hr, _, _, h => by
    simp only [Holds] at h ⊢; obtain ⟨a, c, e, l, h⟩ := h
    refine ⟨a, c, by rw [hr.length]; exact e, by rw [hr.length]; exact l, h.imp (fun h => ?_) fun ⟨b, o, e, h⟩ => ⟨b, o, e, WkR.holds hr _ _ _ h⟩⟩
    subst h; exact hr.eqnil
  | _, _, .fx hr, _, _, h => by
    simp only [Holds] at h ⊢; obtain ⟨a, e, h⟩ := h
    refine ⟨a, _, by rw [hr.length]; exact e, by rw [hr.length]; exact Nat.le_refl _, h.imp (fun h => ?_) fun ⟨b, o, e, h⟩ => ⟨b, o, e, WkR.holds hr _ _ _ h⟩⟩
    subst h; exact hr.eqnil
  | _, _, .agg hl, _, _, h => by
    simp only [Holds] at h ⊢; obtain ⟨cs, e, h⟩ := h; exact ⟨cs, e, WkL.holds hl _ _ h⟩
  | _, _, .tup hl, _, _, h => by
    simp only [Holds] at h ⊢; obtain ⟨cs, e, h⟩ := h; exact ⟨cs, e, WkL.holds hl _ _ h⟩
  | _, _, .rmap hl, _, _, h => by
    simp only [Holds] at h ⊢
    rcases h with ⟨e, h1, h2⟩ | ⟨c, es, clock, e, ho, h1, h2⟩
    · subst h2; cases hl; exact .inl ⟨e, h1, rfl⟩
    · exact .inr ⟨c, es, clock, e, ho, h1, WkL.holds hl _ _ h2⟩
  | _, _, .kset (ks := ks) (ks' := ks') (u := u) hl hk, _, _, h => by
    subst hl
    simp only [Holds] at h ⊢
    rcases h with ⟨e, h1, _⟩ | ⟨c, es, clock, e, ho, h1, h2⟩
    · subst h1
      exact .inl ⟨e, List.eq_nil_iff_forall_not_mem.2 fun a ha => by have := (hk a).2 ha; cases this⟩
    · refine .inr ⟨c, es, clock, e, ho, fun e' he' => ⟨?_, (hk _).1 (by rw [← h1]; exact List.mem_map.2 ⟨e', he', rfl⟩)⟩, fun k hk' => ?_⟩
      · obtain ⟨i, hi⟩ := List.mem_iff_getElem?.1 he'
        have hkl : ks.length = es.size := by rw [← h1]; simp
        have hil : i < es.size := by have := (List.getElem?_eq_some_iff.1 hi).1; simpa using this
        obtain ⟨v, hv, hh⟩ := h2.get _ _ _ i (.val u) (by simp [hkl, hil])
        rw [List.getElem?_map, hi] at hv
        simp only [Option.map_some, Option.some.injEq] at hv
        simp only [Holds] at hh
        rw [hv, hh]
      · have := (hk k).2 hk'
        rw [← h1] at this
        obtain ⟨e', he', rfl⟩ := List.mem_map.1 this
        exact ⟨e', he', rfl⟩
theorem WkL.holds {fz : Fz} : ∀ {l l' : List AV}, WkL l l' → ∀ ρ vs, HoldsL fz l ρ vs → HoldsL fz l' ρ vs
  | _, _, .nil, _, _, h => h
  | _, _, .cons hx hl, _, _, h => by
    simp only [HoldsL] at h ⊢; obtain ⟨v, r, e, h1, h2⟩ := h; exact ⟨v, r, e, Wk.holds hx _ _ h1, WkL.holds hl _ _ h2⟩
theorem WkC.holds {fz : Fz} : ∀ {l l' : List AV}, WkL l l' → ∀ b o, HoldsC fz l b o → HoldsC fz l' b o
  | _, _, .nil, _, _, h => h
  | _, _, .cons hx hl, _, _, h => by
    simp only [HoldsC] at h ⊢; obtain ⟨⟨u, e, o1, h1⟩, h2⟩ := h; exact ⟨⟨u, e, o1, Wk.holds hx _ _ h1⟩, WkC.holds hl _ _ h2⟩
theorem WkR.holds {fz : Fz} : ∀ {l l' : List (List AV)}, WkR l l' → ∀ w b o, HoldsR fz l w b o → HoldsR fz l' w b o
  | _, _, .nil, _, _, _, h => h
  | _, _, .cons hx hl, _, _, _, h => by
    simp only [HoldsR] at h ⊢; obtain ⟨e, h1, h2⟩ := h; exact ⟨by rw [hx.length]; exact e, WkC.holds hx _ _ h1, WkR.holds hl _ _ _ h2⟩
end
theorem Con.weak {P : Program} {f : FuncId} {ts ts' : List AV} {r r' : AV} (h : Con P f ts r) (ha : WkL ts' ts) (hr : Wk r r') (ho : isOwn r' = false) : Con P f ts' r' := by
  refine ⟨h.1, fun fz w vs hF hvs => (h.2 fz w vs hF (ha.holds _ _ hvs)).mono fun e w' ⟨v, fz', he, h1, h2, h3, h4, h5, _⟩ => ⟨v, fz', he, h1, h2, h3, h4, hr.holds _ _ h5, fun el wd rows hr => ?_⟩⟩
  subst hr; simp [isOwn] at ho
theorem Con.args {P : Program} {f : FuncId} {ts ts' : List AV} {r : AV} (h : Con P f ts r) (ha : WkL ts' ts) : Con P f ts' r :=
  ⟨h.1, fun fz w vs hF hvs => h.2 fz w vs hF (ha.holds _ _ hvs)⟩
theorem WkL.refl : ∀ (l : List AV), WkL l l
  | [] => .nil
  | x :: l => .cons (.refl x) (WkL.refl l)
theorem Con.res {P : Program} {f : FuncId} {ts : List AV} {r r' : AV} (h : Con P f ts r) (hr : Wk r r') (ho : isOwn r' = false) : Con P f ts r' := h.weak (.refl _) hr ho
theorem WkR.map {α : Type} {f g : α → List AV} : ∀ {l : List α}, (∀ x ∈ l, WkL (f x) (g x)) → WkR (l.map f) (l.map g)
  | [], _ => .nil
  | x :: l, h => .cons (h x (by simp)) (WkR.map fun y hy => h y (by simp [hy]))
theorem WkL.map {α : Type} {f g : α → AV} : ∀ {l : List α}, (∀ x ∈ l, Wk (f x) (g x)) → WkL (l.map f) (l.map g)
  | [], _ => .nil
  | x :: l, h => .cons (h x (by simp)) (WkL.map fun y hy => h y (by simp [hy]))
/-- a call whose arguments are more than the contract asks for -/
theorem callWk {g : Nat → Option Blk} {P : Program} {fn : FuncId} {vs ts : List AV} {r : AV} (hn : norefL vs = true) (ha : WkL vs ts) (h : Con P fn ts r) : ∃ ts, RsvL g vs ts ∧ Con P fn ts r := ⟨vs, .closed hn, h.args ha⟩
end Go.Aw
