/- Closed runs: how memory and its reading change together. -/
import Derived.Test.YtempphkfacccoaaEvA
set_option linter.unusedSimpArgs false
set_option linter.unusedVariables false
namespace Go.Ev
variable {C : Ctx} {H : Hv} {w w' : World} {ρ ρ' : Ren} {a : Act} {V : View}

theorem BlkAt.lt {L : Loc} {k : EBlk} (h : BlkAt ρ w L k) : L.c < w.heap.size := by
  cases k with
  | cells e wd ro al rows => obtain ⟨cur, h1, _⟩ := h; exact Aw.lt_of_heap h1
  | map ks vs => obtain ⟨es, cl, h1, _⟩ := h; exact Aw.lt_of_heap h1
  | dead => exact h.elim
theorem BlkAt.mono {L : Loc} {k : EBlk} (hr : Ren.le ρ ρ') (hw : w'.heap[L.c]? = w.heap[L.c]?) (h : BlkAt ρ w L k) : BlkAt ρ' w' L k := by
  cases k with
  | cells e wd ro al rows =>
    obtain ⟨cur, h1, h2, h3, h0, h5, h6⟩ := h
    exact ⟨cur, by rw [hw]; exact h1, h2, h3, h0, h5, fun i k x hx => by obtain ⟨v, hv, ho, hh⟩ := h6 i k x hx; exact ⟨v, hv, ho, hh.mono hr _ _⟩⟩
  | map ks vs =>
    obtain ⟨es, cl, h1, h2, h3, h4, h5⟩ := h
    exact ⟨es, cl, by rw [hw]; exact h1, h2.mono hr _ _, h3.mono hr _ _, h4, h5⟩
  | dead => exact h
theorem BlkAt.alive {L : Loc} {k : EBlk} (h : BlkAt ρ w L k) : k ≠ .dead := by rintro rfl; exact h
theorem MemE.live (h : MemE C H w ρ) {b : Nat} {k : EBlk} (hb : H b = some k) (hk : k ≠ .dead) : ∃ L, ρ b = some L ∧ ¬ C.Fr L.c ∧ BlkAt ρ w L k := (h.hp b k hb).resolve_left hk

/-- more memory -/
theorem MemE.grow (h : MemE C H w ρ) (hw : Aw.Ext w w') : MemE C H w' ρ := by
  refine { h with hp := fun b k hb => ?_, os := hw.os.trans h.os, tape := hw.tape.trans h.tape, output := hw.output.trans h.output, bsz := Nat.le_trans h.bsz hw.size, old := fun c hc => ?_ }
  · rcases h.hp b k hb with e | ⟨L, hL, hF, hB⟩
    · exact .inl e
    · exact .inr ⟨L, hL, hF, hB.mono (Ren.le_refl _) (hw.block _ hB.lt)⟩
  · rw [hw.block _ (Nat.lt_of_lt_of_le (C.fr c hc) h.bsz)]; exact h.old c hc

def Hv.set (H : Hv) (b : Nat) (k : EBlk) : Hv := fun x => if x = b then some k else H x
/-- a new block -/
theorem MemE.new (h : MemE C H w ρ) {d : Nat} (hd : H d = none) (hw : Aw.Ext w w') {L : Loc} (hL : L.c = w.heap.size) {k : EBlk} (hk : BlkAt (Ren.set ρ d L) w' L k) : MemE C (Hv.set H d k) w' (Ren.set ρ d L) := by
  have hr := h.dom d hd
  have hle := Ren.le_set (L := L) hr
  have h' := h.grow hw
  refine { h' with hp := fun b kb hb => ?_, dom := fun b hb => ?_, alias := fun b b' kb kb' Lb Lb' hne hb hb' hkb hkb' hLb hLb' hc => ?_, ext := Ren.le_trans h.ext hle, kept := fun b hb => ?kept }
  case kept =>
    obtain ⟨h1, h2⟩ := h.kept b hb
    have hbd : b ≠ d := by rintro rfl; exact h1 hd
    simp only [Hv.set, if_neg hbd, Ren.set]; exact ⟨h1, h2⟩
  · simp only [Hv.set] at hb
    split at hb
    · rename_i e; subst e; cases hb
      refine .inr ⟨L, Ren.set_self, fun hF => ?_, hk⟩
      have := C.fr _ hF; rw [hL] at this
      have := h.bsz; omega
    · rcases h'.hp b kb hb with e | ⟨Lb, hLb, hF, hB⟩
      · exact .inl e
      · exact .inr ⟨Lb, hle _ _ hLb, hF, hB.mono hle rfl⟩
  · simp only [Hv.set] at hb
    split at hb
    · cases hb
    · rename_i e; simp only [Ren.set, if_neg e]; exact h.dom b hb
  · have low : ∀ x kx Lx, x ≠ d → Hv.set H d k x = some kx → kx ≠ .dead → Ren.set ρ d L x = some Lx → H x = some kx ∧ ρ x = some Lx ∧ Lx.c < w.heap.size := by
      intro x kx Lx hx h1 h2 h3
      simp only [Hv.set, if_neg hx] at h1
      simp only [Ren.set, if_neg hx] at h3
      obtain ⟨L', e, _, hB⟩ := h.live h1 h2
      rw [h3] at e; cases e
      exact ⟨h1, h3, hB.lt⟩
    by_cases e : b = d
    · subst e
      obtain ⟨_, _, hlt⟩ := low b' kb' Lb' (fun e => hne e.symm) hb' hkb' hLb'
      rw [Ren.set_self] at hLb; cases hLb; omega
    · by_cases e' : b' = d
      · subst e'
        obtain ⟨_, _, hlt⟩ := low b kb Lb e hb hkb hLb
        rw [Ren.set_self] at hLb'; cases hLb'; omega
      · obtain ⟨h1, h2, _⟩ := low b kb Lb e hb hkb hLb
        obtain ⟨h3, h4, _⟩ := low b' kb' Lb' e' hb' hkb' hLb'
        exact h.alias b b' kb kb' Lb Lb' hne h1 h3 hkb hkb' h2 h4 hc

/-- some names are let go -/
def Hv.kill (H : Hv) (al : List Nat) : Hv := fun x => if al.contains x then some .dead else H x
theorem MemE.kill (h : MemE C H w ρ) (al : List Nat) : MemE C (Hv.kill H al) w ρ := by
  have key : ∀ b k, Hv.kill H al b = some k → k = .dead ∨ H b = some k := by
    intro b k hb
    simp only [Hv.kill] at hb
    split at hb
    · cases hb; exact .inl rfl
    · exact .inr hb
  refine { h with hp := fun b k hb => ?_, dom := fun b hb => ?_, alias := fun b b' k k' L L' hne hb hb' hk hk' => ?_, kept := fun b hb => ?kept }
  case kept =>
    obtain ⟨h1, h2⟩ := h.kept b hb
    refine ⟨?_, h2⟩
    simp only [Hv.kill]; split
    · simp
    · exact h1
  · rcases key b k hb with e | e
    · exact .inl e
    · exact h.hp b k e
  · simp only [Hv.kill] at hb
    split at hb
    · cases hb
    · exact h.dom b hb
  · exact h.alias b b' k k' L L' hne ((key b k hb).resolve_left hk) ((key b' k' hb').resolve_left hk') hk hk'

/-- memory is written at one block -/
structure Wr (w w' : World) (c : Nat) : Prop where
  os : w'.os = w.os
  tape : w'.tape = w.tape
  output : w'.output = w.output
  size : w'.heap.size = w.heap.size
  block : ∀ k, k ≠ c → w'.heap[k]? = w.heap[k]?
def EBlk.ro : EBlk → Bool
  | .cells _ _ ro _ _ => ro
  | _ => false
def EBlk.al : EBlk → List Nat
  | .cells _ _ _ al _ => al
  | _ => []
theorem Under.ro {b : Nat} {k k' : EBlk} {L L' : Loc} (h : Under b k L k' L') : k.ro = true := by
  unfold Under at h; split at h
  · exact h.1
  · exact h.elim
theorem Under.al {b : Nat} {k k' : EBlk} {L L' : Loc} (h : Under b k L k' L') : b ∈ k'.al := by
  unfold Under at h; split at h
  · exact h.2.1
  · exact h.elim

/-- a block that is written: what shares its memory is let go -/
theorem MemE.write (h : MemE C H w ρ) {b : Nat} {k k' : EBlk} {L : Loc} (hb : H b = some k) (hka : k ≠ .dead) (hro : k.ro = false) (hL : ρ b = some L) (hw : Wr w w' L.c) (hk' : BlkAt ρ w' L k') : MemE C (Hv.set (Hv.kill H k.al) b k') w' ρ := by
  obtain ⟨L0, e0, hF, hB⟩ := h.live hb hka
  rw [hL] at e0; cases e0
  have key : ∀ x kx, x ≠ b → Hv.set (Hv.kill H k.al) b k' x = some kx → kx ≠ .dead → H x = some kx ∧ ∀ Lx, ρ x = some Lx → Lx.c ≠ L.c := by
    intro x kx hx h1 h2
    simp only [Hv.set, if_neg hx, Hv.kill] at h1
    split at h1
    · cases h1; exact absurd rfl h2
    · rename_i hnc
      refine ⟨h1, fun Lx hLx hc => ?_⟩
      rcases h.alias x b kx k Lx L hx h1 hb h2 hka hLx hL hc with hu | hu
      · exact hnc (by simpa using hu.al)
      · rw [hu.ro] at hro; cases hro
  refine { h with hp := fun x kx hx => ?_, dom := fun x hx => ?_, alias := fun x y kx ky Lx Ly hne hx hy hkx hky hLx hLy hc => ?_, os := hw.os.trans h.os, tape := hw.tape.trans h.tape, output := hw.output.trans h.output, bsz := by rw [hw.size]; exact h.bsz, old := fun c hc => ?_, kept := fun x hx => ?kept }
  case kept =>
    obtain ⟨h1, h2⟩ := h.kept x hx
    refine ⟨?_, h2⟩
    simp only [Hv.set]; split
    · simp
    · simp only [Hv.kill]; split
      · simp
      · exact h1
  · by_cases e : x = b
    · subst e
      simp only [Hv.set, if_true] at hx; cases hx
      exact .inr ⟨L, hL, hF, hk'⟩
    · by_cases hd : kx = .dead
      · exact .inl hd
      · obtain ⟨h1, h2⟩ := key x kx e hx hd
        obtain ⟨Lx, hLx, hFx, hBx⟩ := h.live h1 hd
        exact .inr ⟨Lx, hLx, hFx, hBx.mono (Ren.le_refl _) (hw.block _ (h2 _ hLx))⟩
  · simp only [Hv.set] at hx
    split at hx
    · cases hx
    · simp only [Hv.kill] at hx
      split at hx
      · cases hx
      · exact h.dom x hx
  · by_cases e : x = b
    · subst e
      have := (key y ky (fun e => hne e.symm) hy hky).2 Ly hLy
      rw [hL] at hLx; cases hLx
      exact absurd hc.symm this
    · by_cases e' : y = b
      · subst e'
        have := (key x kx e hx hkx).2 Lx hLx
        rw [hL] at hLy; cases hLy
        exact absurd hc this
      · exact h.alias x y kx ky Lx Ly hne (key x kx e hx hkx).1 (key y ky e' hy hky).1 hkx hky hLx hLy hc
  · rw [hw.block c (fun e => hF (e ▸ hc))]; exact h.old c hc

def EBlk.rd : EBlk → EBlk
  | .cells e wd _ al rows => .cells e wd true al rows
  | k => k
theorem BlkAt.rd {L : Loc} {k : EBlk} (h : BlkAt ρ w L k) : BlkAt ρ w L k.rd := by
  cases k <;> exact h
/-- a block that is only read from now on -/
theorem MemE.rdonly (h : MemE C H w ρ) {b : Nat} {k : EBlk} (hb : H b = some k) : MemE C (Hv.set H b k.rd) w ρ := by
  have key : ∀ x kx, Hv.set H b k.rd x = some kx → ∃ k0, H x = some k0 ∧ (kx = k0 ∨ kx = k0.rd) ∧ (kx = .dead → k0 = .dead) := by
    intro x kx hx
    simp only [Hv.set] at hx
    split at hx
    · rename_i e; subst e; cases hx
      exact ⟨k, hb, .inr rfl, fun e => by cases k <;> simp [EBlk.rd] at e ⊢⟩
    · exact ⟨kx, hx, .inl rfl, id⟩
  have un1 : ∀ {x : Nat} {kx k0 k' : EBlk} {L L' : Loc}, (kx = k0 ∨ kx = k0.rd) → Under x k0 L k' L' → Under x kx L k' L' := by
    intro x kx k0 k' L L' he hu
    rcases he with rfl | rfl
    · exact hu
    · cases k0 <;> cases k' <;> simp only [Under, EBlk.rd] at hu ⊢
      exact ⟨trivial, hu.2⟩
  have un2 : ∀ {x : Nat} {kx k0 k' : EBlk} {L L' : Loc}, (kx = k0 ∨ kx = k0.rd) → Under x k' L k0 L' → Under x k' L kx L' := by
    intro x kx k0 k' L L' he hu
    rcases he with rfl | rfl
    · exact hu
    · cases k0 <;> cases k' <;> simp only [Under, EBlk.rd] at hu ⊢
      exact hu
  refine { h with hp := fun x kx hx => ?_, dom := fun x hx => ?_, alias := fun x y kx ky Lx Ly hne hx hy hkx hky hLx hLy hc => ?_, kept := fun x hx => ?kept }
  case kept =>
    obtain ⟨h1, h2⟩ := h.kept x hx
    refine ⟨?_, h2⟩
    simp only [Hv.set]; split
    · simp
    · exact h1
  · obtain ⟨k0, h0, he, hd⟩ := key x kx hx
    rcases h.hp x k0 h0 with e | ⟨L, hL, hF, hB⟩
    · subst e; rcases he with rfl | rfl <;> exact .inl rfl
    · refine .inr ⟨L, hL, hF, ?_⟩
      rcases he with rfl | rfl
      · exact hB
      · exact hB.rd
  · simp only [Hv.set] at hx
    split at hx
    · cases hx
    · exact h.dom x hx
  · obtain ⟨x0, hx0, hxe, hxd⟩ := key x kx hx
    obtain ⟨y0, hy0, hye, hyd⟩ := key y ky hy
    have hx1 : x0 ≠ .dead := by rintro rfl; rcases hxe with rfl | rfl <;> exact hkx rfl
    have hy1 : y0 ≠ .dead := by rintro rfl; rcases hye with rfl | rfl <;> exact hky rfl
    rcases h.alias x y x0 y0 Lx Ly hne hx0 hy0 hx1 hy1 hLx hLy hc with hu | hu
    · exact .inl (un2 hye (un1 hxe hu))
    · exact .inr (un2 hxe (un1 hye hu))

/-- what is written stands behind all that is known: the block, and what shares its memory, may be read further; the longer one gets a name of its own -/
theorem MemE.share (h : MemE C H w ρ) {b d : Nat} {e : TypeId} {wd : Nat} {al : List Nat} {rows : List (List EV)} {L L' : Loc} (hb : H b = some (.cells e wd false al rows)) (hd : H d = none) (hL : ρ b = some L) (hw : Wr w w' L.c)
    (hc : L'.c = L.c) (hold : ∀ cur, w.heap[L.c]? = some (.cells cur e (0, 0)) → ∃ cur', w'.heap[L.c]? = some (.cells cur' e (0, 0)) ∧ cur'.size = cur.size ∧ ∀ o, o < L.base + rows.length * wd → cur'[o]? = cur[o]?)
    {rows' : List (List EV)} (hx : L.base + rows.length * wd ≤ L'.base + rows'.length * wd) (hk' : BlkAt (Ren.set ρ d L') w' L' (.cells e wd false (b :: al) rows')) :
    MemE C (Hv.set (Hv.set H b (.cells e wd true al rows)) d (.cells e wd false (b :: al) rows')) w' (Ren.set ρ d L') := by
  have h1 := h.rdonly hb
  simp only [EBlk.rd] at h1
  have hr := h.dom d hd
  have hbd : b ≠ d := by rintro rfl; rw [hd] at hb; cases hb
  have hle := Ren.le_set (L := L') hr
  obtain ⟨L0, e0, hF, hB⟩ := h.live hb (by simp)
  rw [hL] at e0; cases e0
  obtain ⟨cur, hcur, hsz, hLw, hw0, hrl, hcell⟩ := hB
  obtain ⟨cur', hcur', hsz', hsame⟩ := hold cur hcur
  -- every other live name in the same memory stands under b
  have oth : ∀ x kx Lx, x ≠ b → H x = some kx → kx ≠ .dead → ρ x = some Lx → Lx.c = L.c → Under x kx Lx (.cells e wd false al rows) L := by
    intro x kx Lx hx h2 h3 h4 h5
    rcases h.alias x b kx _ Lx L hx h2 hb h3 (by simp) h4 hL h5 with hu | hu
    · exact hu
    · have := hu.ro; simp [EBlk.ro] at this
  -- what is live, and stood in that memory, reads as before
  have keep : ∀ x kx Lx, H x = some kx → kx ≠ .dead → ρ x = some Lx → BlkAt (Ren.set ρ d L') w' Lx kx := by
    intro x kx Lx h2 h3 h4
    obtain ⟨L0, e0, _, hBx⟩ := h.live h2 h3
    rw [h4] at e0; cases e0
    by_cases hcx : Lx.c = L.c
    · have hext : ∃ ex wx rox alx rowsx, kx = .cells ex wx rox alx rowsx ∧ Lx.base + rowsx.length * wx ≤ L.base + rows.length * wd := by
        by_cases hxb : x = b
        · subst hxb; rw [hb] at h2; cases h2; rw [hL] at h4; cases h4; exact ⟨_, _, _, _, _, rfl, Nat.le_refl _⟩
        · have hu := oth x kx Lx hxb h2 h3 h4 hcx
          cases kx with
          | cells ex wx rox alx rowsx => exact ⟨_, _, _, _, _, rfl, hu.2.2⟩
          | _ => exact hu.elim
      obtain ⟨ex, wx, rox, alx, rowsx, rfl, hle2⟩ := hext
      obtain ⟨c1, g1, g2, g3, g0, g5, g6⟩ := hBx
      rw [hcx] at g1
      rw [hcur] at g1; cases g1
      refine ⟨cur', by rw [hcx]; exact hcur', by rw [hsz']; exact g2, g3, g0, g5, fun i k y hy => ?_⟩
      obtain ⟨v, hv, ho, hh⟩ := g6 i k y hy
      refine ⟨v, ?_, ho, hh.mono hle _ _⟩
      rw [hsame]
      · exact hv
      · have hi : i < rowsx.length ∧ k < wx := by
          simp only [rowCell] at hy
          cases hri : rowsx[i]? with
          | none => rw [hri] at hy; simp at hy
          | some r =>
            rw [hri] at hy; simp only [Option.bind_some] at hy
            have := g5 r (List.mem_of_getElem? hri)
            exact ⟨(List.getElem?_eq_some_iff.1 hri).1, this ▸ (List.getElem?_eq_some_iff.1 hy).1⟩
        have : (i + 1) * wx ≤ rowsx.length * wx := Nat.mul_le_mul_right _ hi.1
        rw [Nat.add_mul, Nat.one_mul] at this
        omega
    · exact hBx.mono hle (hw.block _ hcx)
  have dn : ∀ x kx, Hv.set (Hv.set H b (.cells e wd true al rows)) d (.cells e wd false (b :: al) rows') x = some kx → (x = d ∧ kx = .cells e wd false (b :: al) rows') ∨ (x ≠ d ∧ Hv.set H b (.cells e wd true al rows) x = some kx) := by
    intro x kx hx
    simp only [Hv.set] at hx
    by_cases e : x = d
    · subst e; rw [if_pos rfl] at hx; cases hx; exact .inl ⟨rfl, rfl⟩
    · rw [if_neg e] at hx; exact .inr ⟨e, by simpa only [Hv.set] using hx⟩
  have b0 : ∀ x kx, Hv.set H b (.cells e wd true al rows) x = some kx → (x = b ∧ kx = .cells e wd true al rows) ∨ (x ≠ b ∧ H x = some kx) := by
    intro x kx hx
    simp only [Hv.set] at hx
    split at hx
    · rename_i e; cases hx; exact .inl ⟨e, rfl⟩
    · rename_i e; exact .inr ⟨e, hx⟩
  have ud : ∀ x kx Lx, x ≠ d → Hv.set H b (.cells e wd true al rows) x = some kx → kx ≠ .dead → ρ x = some Lx → Lx.c = L'.c → Under x kx Lx (.cells e wd false (b :: al) rows') L' := by
    intro x kx Lx hxd h2 h3 h4 h5
    rcases b0 x kx h2 with ⟨rfl, rfl⟩ | ⟨hxb, h6⟩
    · rw [hL] at h4; cases h4
      exact ⟨rfl, by simp, hx⟩
    · have hu := oth x kx Lx hxb h6 h3 h4 (h5.trans hc)
      cases kx with
      | cells ex wx rox alx rowsx => exact ⟨hu.1, List.mem_cons_of_mem _ hu.2.1, Nat.le_trans hu.2.2 hx⟩
      | _ => exact hu.elim
  refine { h with hp := fun x kx hx => ?_, dom := fun x hx => ?_, alias := fun x y kx ky Lx Ly hne hx hy hkx hky hLx hLy hcc => ?_, ext := Ren.le_trans h.ext hle, os := hw.os.trans h.os, tape := hw.tape.trans h.tape, output := hw.output.trans h.output, bsz := by rw [hw.size]; exact h.bsz, old := fun c hc => ?_, kept := fun x hx => ?kept }
  case kept =>
    obtain ⟨h1, h2⟩ := h.kept x hx
    have hxd : x ≠ d := by rintro rfl; exact h1 hd
    simp only [Hv.set, if_neg hxd, Ren.set]
    refine ⟨?_, h2⟩
    split
    · simp
    · exact h1
  · rcases dn x kx hx with ⟨rfl, rfl⟩ | ⟨hxd, hx⟩
    · exact .inr ⟨L', Ren.set_self, by rw [hc]; exact hF, hk'⟩
    · rcases b0 x kx hx with ⟨rfl, rfl⟩ | ⟨_, h2⟩
      · exact .inr ⟨L, hle _ _ hL, hF, (keep x _ L hb (by simp) hL).rd⟩
      · rcases h.hp x kx h2 with e | ⟨Lx, hLx, hFx, hBx⟩
        · exact .inl e
        · exact .inr ⟨Lx, hle _ _ hLx, hFx, keep x kx Lx h2 hBx.alive hLx⟩
  · simp only [Hv.set] at hx
    split at hx
    · cases hx
    · rename_i e
      split at hx
      · cases hx
      · simp only [Ren.set, if_neg e]; exact h.dom x hx
  · rcases dn x kx hx with ⟨rfl, rfl⟩ | ⟨hxd, hx2⟩
    · rw [Ren.set_self] at hLx; cases hLx
      rcases dn y ky hy with ⟨rfl, rfl⟩ | ⟨hyd, hy2⟩
      · exact absurd rfl hne
      · simp only [Ren.set, if_neg hyd] at hLy
        exact .inr (ud y ky Ly hyd hy2 hky hLy hcc.symm)
    · simp only [Ren.set, if_neg hxd] at hLx
      rcases dn y ky hy with ⟨rfl, rfl⟩ | ⟨hyd, hy2⟩
      · rw [Ren.set_self] at hLy; cases hLy
        exact .inl (ud x kx Lx hxd hx2 hkx hLx hcc)
      · simp only [Ren.set, if_neg hyd] at hLy
        exact h1.alias x y kx ky Lx Ly hne hx2 hy2 hkx hky hLx hLy hcc
  · rw [hw.block c (fun e => hF (e ▸ hc))]; exact h.old c hc

/-- what is to be said of a state's temporaries -/
def View.put (V : View) (d : Nat) (x : EV) : View := { V with tm := fun t => if t = d then x else V.tm t }
def View.putO (V : View) (d : Option Nat) (x : EV) : View := match d with | some d => V.put d x | none => V
theorem SimE.putM (h : SimE C V a w ρ) {H' : Hv} (hr : Ren.le ρ ρ') (hm : MemE C H' w' ρ') {d : Option Nat} (hd : ∀ i, d = some i → i < C.N) {x : EV} {v : Value} (hx : Holds ρ' x v) : SimE C (View.putO { V with hp := H' } d x) (a.put d v) w' ρ' := by
  cases d with
  | none => exact { df := h.df, sz := h.sz, tm := fun t => (h.tm t).mono hr _ _, mem := hm }
  | some d =>
    have hd' : d < a.tmps.size := by rw [h.sz]; exact hd d rfl
    refine { df := h.df, sz := by simp [Act.put, h.sz], tm := fun t => ?_, mem := hm }
    rw [Aw.getD_put a d t v hd']
    simp only [View.putO, View.put]
    split
    · exact hx
    · exact (h.tm t).mono hr _ _
theorem SimE.putO (h : SimE C V a w ρ) {d : Option Nat} (hd : ∀ i, d = some i → i < C.N) {x : EV} {v : Value} (hx : Holds ρ x v) : SimE C (V.putO d x) (a.put d v) w ρ := by
  have := h.putM (H' := V.hp) (Ren.le_refl _) h.mem hd hx
  exact this
end Go.Ev
