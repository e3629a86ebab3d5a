/- A contract of a function that writes one block handed to it, out of what it does to the heap. -/
import Derived.Test.YtmikljncdgfjpaaGreatDoorAwZf
set_option linter.unusedSimpArgs false
set_option linter.unusedVariables false
namespace Go.Aw
variable {P : Program}
theorem flatL_at {l : List AV} (h : flatL l = true) (j : Nat) : isOwn (l.getD j .unk) = false := by
  rw [List.getD_eq_getElem?_getD]
  cases hx : l[j]? with
  | none => rfl
  | some x =>
    have hm := List.mem_of_getElem? hx
    have : flat x = true := by
      clear hx
      induction l with
      | nil => simp at hm
      | cons y l ih =>
        simp only [flatL, Bool.and_eq_true] at h
        rcases List.mem_cons.1 hm with rfl | hm
        · exact h.1
        · exact ih h.2 hm
    cases x <;> simp [flat] at this <;> rfl
/-- it writes block b, of flat cells, and nothing else that was there -/
theorem ConM.one {f : FuncId} {t : TypeId} {b n cap : Nat} {cs cs' : List AV} {r : AV} (rv : Nat → Value) (he : Enters P f) (hr : isOwn r = false) (hc : flatL cs = true) (hc' : flatL cs' = true) (hrv : ∀ (fz : Fz) (ρ : Ren) (c : Nat), ρ b = some c → Holds fz r ρ (rv c))
    (h : ∀ (fz : Fz) (w : World) (c : Nat) (cur : Array Value), w.heap[c]? = some (.cells cur t (0, 0)) → HoldsL fz cs noRen cur.toList → (∀ u ∈ cur.toList, u.oneCell' = true) →
      Calls P f #[.slice (some ⟨c, 0, none⟩) n cap] w fun e w' => ∃ cur' : Array Value, e = .returned (rv c) ∧ w'.os = w.os ∧ w'.tape = w.tape ∧ w'.output = w.output ∧ w.heap.size ≤ w'.heap.size ∧
        (∀ k, k < w.heap.size → k ≠ c → w'.heap[k]? = w.heap[k]?) ∧ w'.heap[c]? = some (.cells cur' t (0, 0)) ∧ HoldsL fz cs' noRen cur'.toList ∧ ∀ u ∈ cur'.toList, u.oneCell' = true) :
    ConM P f [(b, .cells t cs)] [.vec b 1 0 n cap] r [(b, .cells t cs')] := by
  refine ⟨he, hr, fun fz ρ w vs hok hm hvs => ?_⟩
  obtain ⟨c, hbc, hB, hfc, hfo⟩ := hm.hp b (.cells t cs) (by simp [lk])
  obtain ⟨cur, h1, h2, h3⟩ := hB
  have hv : vs = #[.slice (some ⟨c, 0, none⟩) n cap] := by
    simp only [HoldsL, Holds] at hvs
    obtain ⟨v, r', h4, ⟨c', h5, rfl⟩, rfl⟩ := hvs
    rw [hbc] at h5; cases h5
    exact Array.toList_inj.1 (by simpa using h4)
  subst hv
  have hno : ∀ (l : List AV), flatL l = true → ∀ p, isOwn ((hpV (lk [(b, Blk.cells t l)])).at p) = false := by
    intro l hl p
    cases p with
    | t i => rfl
    | c b' j =>
      simp only [View.at, hpV, lk]
      split
      · simp only [Option.map_some, Option.getD_some, Blk.at]; exact flatL_at hl j
      · rfl
  refine (h fz w c cur h1 (HoldsL.flat _ _ _ _ hc h2) h3).mono ?_
  rintro e w' ⟨cur', rfl, x1, x2, x3, x4, x5, x6, x7, x8⟩
  refine ⟨rv c, fz, ρ, rfl, ⟨x1, x2, x3, x4, fun k hk hn => x5 k hk fun e => hn (.inl ⟨b, by rw [e]; exact hbc⟩)⟩, Fz.le_refl _, ⟨fun c' o v hv => ?_, fun c' o hv => ?_⟩, fun _ _ _ => ⟨fun _ => rfl, rfl⟩, ?_, Ren.le_refl _, fun _ _ h => .inl h, fun c' hc => .inr ?_, hrv fz ρ c hbc⟩
  · have hne : c' ≠ c := by rintro rfl; rw [hfc] at hv; cases hv
    have hold := hok.1 _ _ _ hv
    have hlt : c' < w.heap.size := World.block_lt_of_cell? w _ hold
    have := x5 c' hlt hne
    simp only [World.cell?] at hold ⊢
    rw [this]; exact hold
  · have hne : c' ≠ c := by rintro rfl; rw [hfo] at hv; cases hv
    have hold := hok.2 _ _ hv
    rw [x5 c' (lt_of_heap hold) hne]; exact hold
  · refine ⟨fun b' k hk => ?_, fun b' hb' => ?_, hm.inj, fun p e wd rows hp => ?_, fun p q hp _ => ?_⟩
    · simp only [lk] at hk
      split at hk
      · rename_i e; subst e; cases hk
        exact ⟨c, hbc, ⟨cur', x6, HoldsL.flat _ _ _ _ hc' x7, x8⟩, hfc, hfo⟩
      · cases hk
    · refine hm.dom b' ?_
      simp only [lk] at hb' ⊢
      split at hb'
      · cases hb'
      · rename_i e; rw [if_neg e]
    · have := hno cs' hc' p; rw [hp] at this; cases this
    · rw [hno cs' hc' p] at hp; cases hp
  · rcases hc with ⟨b', hb'⟩ | ⟨p, g, n', cap', ho, _⟩
    · exact .inl ⟨b', hb'⟩
    · rw [hno cs' hc' p] at ho; cases ho
end Go.Aw
