/- Ranging over maps: the iterator lies where nothing of the state looks. -/
import Derived.Test.YtmikljncdgfjpaaGreatDoorAwZc
import Derived.Maps.RangeRun
set_option linter.unusedSimpArgs false
set_option linter.unusedVariables false
namespace Go.Aw
open Go.ChangeMaps (setBlock)
variable {P : Program} {C : Ctx} {V : View} {a : Act} {w : World} {fz : Fz} {ρ : Ren} {ops : Array Oper}

/-- what C' says, C says too -/
def Sub (C C' : Ctx) : Prop := ∀ V a w fz ρ, SimE C' V a w fz ρ → SimE C V a w fz ρ
theorem Sub.refl (C : Ctx) : Sub C C := fun _ _ _ _ _ h => h
theorem Sub.trans {C C' C'' : Ctx} (h : Sub C C') (h' : Sub C' C'') : Sub C C'' := fun V a w fz ρ k => h V a w fz ρ (h' V a w fz ρ k)
theorem Sub.sim {C C' : Ctx} (h : Sub C C') {V : View} {a : Act} {w : World} (k : Sim C' V a w) : Sim C V a w := by
  obtain ⟨fz, ρ, k⟩ := k; exact ⟨fz, ρ, h _ _ _ _ _ k⟩
/-- written by the call, in the state V -/
def Named (V : View) (a : Act) (w : World) (ρ : Ren) (c : Nat) : Prop := (∃ b, ρ b = some c) ∨ ∃ p g n cap, isOwn (V.at p) = true ∧ conc a w ρ p = .slice (some g) n cap ∧ g.block = c
theorem SimE.named (h : SimE C V a w fz ρ) {c : Nat} (hc : Named V a w ρ c) : (C.B ≤ c ∨ C.Mu c = true) ∧ c < w.heap.size ∧ (∃ o, w.heap[c]? = some o ∧ (∃ cur e z, o = .cells cur e z) ∨ ∃ es cl, w.heap[c]? = some (.map es cl)) := by
  rcases hc with ⟨b, hb⟩ | ⟨p, g, n, cap, ho, hcc, rfl⟩
  · cases hk : V.hp b with
    | none => rw [h.dom b hk] at hb; cases hb
    | some k =>
      obtain ⟨c', hc', hB, hA, _⟩ := h.hp b k hk
      rw [hb] at hc'; cases hc'
      cases k with
      | cells e cs => obtain ⟨cur, h1, _⟩ := hA; exact ⟨hB, lt_of_heap h1, _, .inl ⟨h1, _, _, _, rfl⟩⟩
      | map ks vs => obtain ⟨es, clock, h1, _⟩ := hA; exact ⟨hB, lt_of_heap h1, .deferred none, .inr ⟨_, _, h1⟩⟩
      | mapd ks vs => obtain ⟨es, clock, h1, _⟩ := hA; exact ⟨hB, lt_of_heap h1, .deferred none, .inr ⟨_, _, h1⟩⟩
  · cases hx : V.at p <;> rw [hx] at ho <;> simp [isOwn] at ho
    rcases h.tips p _ _ _ hx with ⟨y1, _⟩ | ⟨g2, _, _, y1, y2, y3, _⟩
    · rw [hcc] at y1; cases y1
    · rw [hcc] at y1; cases y1; exact ⟨y2, lt_of_heap y3, _, .inl ⟨y3, _, _, _, rfl⟩⟩
open Classical in
/-- the same state, as one that begins here -/
theorem SimE.rebase (h : SimE C V a w fz ρ) (hN : C.N ≤ 1000) : ∃ C' : Ctx, C'.N = C.N ∧ Sub C C' ∧ SimE C' V a w fz ρ ∧ C'.B = w.heap.size ∧ C'.w0 = w ∧ C'.fz0 = fz ∧ (∀ b c, 1000 ≤ b → b < 2000 → ρ b = some c → C'.ρ0 b = some c) ∧
    (∀ c, C'.Mu c = true → C.Mu c = true ∨ Named V a w ρ c) := by
  let C' : Ctx := { B := w.heap.size, N := C.N, w0 := w, Mu := fun c => decide (c < w.heap.size ∧ (C.Mu c = true ∨ Named V a w ρ c)), fz0 := fz, ρ0 := fun b => if 1000 ≤ b ∧ b < 2000 then (match ρ b with | some c => some c | none => C.ρ0 b) else none }
  have hMu : ∀ c, C'.Mu c = true → c < w.heap.size ∧ (C.Mu c = true ∨ Named V a w ρ c) := fun c hc => of_decide_eq_true hc
  have hMu' : ∀ c, c < w.heap.size → (C.Mu c = true ∨ Named V a w ρ c) → C'.Mu c = true := fun c h1 h2 => decide_eq_true ⟨h1, h2⟩
  have hBM : ∀ c, C'.Mu c = true → C.B ≤ c ∨ C.Mu c = true := fun c hc => (hMu c hc).2.elim .inr fun hn => (h.named hn).1
  have hCsz : ∀ c, C.Mu c = true → c < w.heap.size := fun c hc => Nat.lt_of_lt_of_le (h.mub c hc) h.bsz
  have hρ0 : ∀ b, ¬ (1000 ≤ b ∧ b < 2000) → C.ρ0 b = none := fun b hb => h.hi b (by omega)
  have hρh : ∀ b, 1000 ≤ b ∧ b < 2000 → C'.ρ0 b = match ρ b with | some c => some c | none => C.ρ0 b := fun b hb => by show (if 1000 ≤ b ∧ b < 2000 then _ else _) = _; rw [if_pos hb]
  have hρn : ∀ b, ¬ (1000 ≤ b ∧ b < 2000) → C'.ρ0 b = none := fun b hb => by show (if 1000 ≤ b ∧ b < 2000 then _ else _) = _; rw [if_neg hb]
  refine ⟨C', rfl, fun V2 a2 w2 fz2 ρ2 k => ?_, ?_, rfl, rfl, rfl, fun b c h1 h2 hb => by rw [hρh b ⟨h1, h2⟩, hb], fun c hc => (hMu c hc).2⟩
  · have conv : ∀ c, (C'.B ≤ c ∨ C'.Mu c = true) → (C.B ≤ c ∨ C.Mu c = true) := fun c hc => hc.elim (fun x => .inl (Nat.le_trans h.bsz x)) (hBM c)
    have nconv : ∀ c, c < C.B → C.Mu c = false → c < C'.B ∧ C'.Mu c = false := by
      intro c h1 h2
      refine ⟨Nat.lt_of_lt_of_le h1 h.bsz, ?_⟩
      cases e : C'.Mu c with
      | false => rfl
      | true =>
        rcases hBM c e with x | x
        · omega
        · rw [h2] at x; cases x
    refine { k with
      hp := fun b kk hk => by obtain ⟨c, h1, h2, h3⟩ := k.hp b kk hk; exact ⟨c, h1, conv c h2, h3⟩, f0 := Fz.le_trans h.f0 k.f0, f1 := fun c h1 h2 => ?_, tips := fun p e wd rows hp => ?_,
      os := k.os.trans h.os, tape := k.tape.trans h.tape, output := k.output.trans h.output, bsz := Nat.le_trans h.bsz k.bsz, old := fun c h1 h2 => ?_, mub := h.mub, keep := fun b c c' h1 h2 => ?_, hi := h.hi, muρ := h.muρ }
    · obtain ⟨n1, n2⟩ := nconv c h1 h2
      exact ⟨fun o v e => (h.f1 c h1 h2).1 o v ((k.f1 c n1 n2).1 o v e), fun o e => (h.f1 c h1 h2).2 o ((k.f1 c n1 n2).2 o e)⟩
    · rcases k.tips p e wd rows hp with hh | ⟨g, cap, cur, x1, x2, x3⟩
      · exact .inl hh
      · exact .inr ⟨g, cap, cur, x1, conv g x2, x3⟩
    · obtain ⟨n1, n2⟩ := nconv c h1 h2
      exact (k.old c n1 n2).trans (h.old c h1 h2)
    · by_cases hb : 1000 ≤ b ∧ b < 2000
      · refine k.keep b c c' ?_ h2
        rw [hρh b hb]
        cases e : ρ b with
        | none => exact h1
        | some c1 => rw [h.keep b c c1 h1 e]
      · rw [hρ0 b hb] at h1; cases h1
  · have hlt := fun {b c} => SimE.lt h (b := b) (c := c)
    refine { h with
      hp := fun b kk hk => by obtain ⟨c, h1, h2, h3⟩ := h.hp b kk hk; exact ⟨c, h1, .inr (hMu' c (hlt h1) (.inr (.inl ⟨b, h1⟩))), h3⟩, f0 := Fz.le_refl _, f1 := fun c _ _ => ⟨fun _ _ e => e, fun _ e => e⟩, tips := fun p e wd rows hp => ?_,
      os := rfl, tape := rfl, output := rfl, bsz := Nat.le_refl _, old := fun _ _ _ => rfl, mub := fun c hc => (hMu c hc).1, keep := fun b c c' h1 h2 => ?_, hi := fun b hb => hρn b (by show ¬ _; have : C'.N = C.N := rfl; omega), muρ := fun b c h1 => ?_ }
    · rcases h.tips p e wd rows hp with hh | ⟨g, cap, cur, x1, x2, x3⟩
      · exact .inl hh
      · exact .inr ⟨g, cap, cur, x1, .inr (hMu' g (lt_of_heap x3.1) (.inr (.inr ⟨p, _, _, _, by rw [hp]; rfl, x1, rfl⟩))), x3⟩
    · by_cases hb : 1000 ≤ b ∧ b < 2000
      · rw [hρh b hb, h2] at h1; exact Option.some.inj h1
      · rw [hρn b hb] at h1; cases h1
    · by_cases hb : 1000 ≤ b ∧ b < 2000
      · rw [hρh b hb] at h1
        cases e : ρ b with
        | none => rw [e] at h1; have := h.muρ b c h1; exact hMu' c (hCsz c this) (.inl this)
        | some c1 => rw [e] at h1; cases h1; exact hMu' c (hlt e) (.inr (.inl ⟨b, e⟩))
      · rw [hρn b hb] at h1; cases h1

/-- the iterator x over block m, of n entries, of which seen have come -/
structure It (C : Ctx) (x m n : Nat) (seen : List Nat) : Prop where
  lt : x < C.B
  mu : C.Mu x = false
  at_ : ∃ cm, C.w0.heap[x]? = some (.mapIter (some cm) n seen.toArray n) ∧ C.ρ0 m = some cm
  fz : (∀ o, C.fz0.cell x o = none) ∧ C.fz0.obj x = none

/-- code that may go on in another context -/
def AWpX (P : Program) (C : Ctx) (c : Code) (Q : Exit → Ctx → AS → Prop) (s : AS) : Prop :=
  ∀ (a : Act) (w : World), Sim C s.view a w → c.wp P (fun e a' w' => ∃ C' s', Sub C C' ∧ C'.N = C.N ∧ Sim C' s'.view a' w' ∧ Q e C' s') a w
theorem AWp.seqX {x y : Code} {Q : Exit → AS → Prop} {s : AS} (h : AWpX P C x (fun e C' s' => match e with | .normal => AWp P C' y Q s' | e => Q e s') s) : AWp P C (.seq x y) Q s := by
  intro a w hs
  refine wp_seq (wp_mono (h a w hs) fun e a' w' ⟨C', s', hsub, _, h1, h2⟩ => ?_)
  cases e with
  | normal => exact wp_mono (h2 a' w' h1) fun e a2 w2 ⟨s2, h3, h4⟩ => ⟨s2, hsub.sim h3, h4⟩
  | _ => exact ⟨s', hsub.sim h1, h2⟩

theorem region_pre {id : Nat} {tks : List Bool} {L : List ROp} {R : List Res} {V0 : View} {E : List Eff} {Q : Exit → Act → World → Prop} (K : Nat) (hK : K + 1 = ops.size) (hops : trOps P ops tks (ops.toList.take K) = some L) (hran : Ran P C.N L R V0 E) (h : Sim C V0 a w)
    (hQ : ∀ a' w', Sim C (Vsel L E (fun _ => true) 0 V0) a' w' → wpOp P ops Q K (fun a w => Q .normal a w) a' w') : (Code.region id ops false).wp P Q a w := by
  obtain ⟨hlen, hget⟩ := trOps_get _ _ _ _ hops
  have hlen' : L.length = K := by rw [hlen]; simp; omega
  refine wp_region ?_
  have key : ∀ (m k : Nat) (a : Act) (w : World), k + m = K → Sim C (Vsel L E (fun j => decide (j < k)) 0 V0) a w → wpOps P ops Q (List.range' k (m + 1)) a w := by
    intro m
    induction m with
    | zero =>
      intro k a w hk hs
      simp only [Nat.zero_add, List.range'_one]
      rw [wpOps_cons]
      rw [Vsel_all V0 _ (fun i hi => by simp; omega)] at hs
      have : k = K := by omega
      subst this
      exact hQ a w hs
    | succ m ih =>
      intro k a w hk hs
      rw [List.range'_succ, wpOps_cons]
      have hkl : k < ops.size := by omega
      have ho : ops[k]? = some ops[k] := by simp [hkl]
      obtain ⟨tk, r, hr, htr⟩ := hget k ops[k] (by rw [List.getElem?_take, if_pos (by omega)]; simp [hkl])
      have hE : ∃ e, E[k]? = some e := ⟨E[k]'(by rw [hran.len, hlen']; omega), by simp⟩
      obtain ⟨e, he⟩ := hE
      obtain ⟨h1, h2⟩ := hran.eff k r e hr he
      refine step_op ho htr hs h1 h2 (hran.ok r (List.mem_of_getElem? hr)) fun a' w' hs' => ?_
      refine ih (k + 1) a' w' (by omega) ?_
      have := Vsel_snoc L E 0 k V0 r e hr he
      simp only [Nat.zero_add] at this
      rw [this]; exact hs'
  rw [List.range_eq_range', ← hK]
  refine key K 0 a w (by omega) ?_
  rw [Vsel_none L E _ 0 V0 (fun j _ => by simp)]
  exact h

theorem wpOp_of {Q : Exit → Act → World → Prop} {i : Nat} {o : Oper} (ho : ops[i]? = some o) (hg : o.guard = none) {K : Act → World → Prop} (h : o.wp P a w K Q) : wpOp P ops Q i K a w := by
  unfold wpOp
  rw [ho]
  simp only
  rw [if_pos (by simp [Region.wanted, hg])]
  exact .inl h

/-- a region that ends with the beginning of a range -/
theorem AWpX.range {id : Nat} {Q : Exit → Ctx → AS → Prop} {s : AS} (K : Nat) (tks : List Bool) (L : List ROp) (R : List Res) {d y : Nat} {t kt e ty : TypeId} {pos : String} {after : Array Edge} (hK : K + 1 = ops.size)
    (hlast : ops[K]? = some { dst := some d, op := .range t (.tmp y), type := ty, pos := pos, after := after, guard := none }) (hops : trOps P ops tks (ops.toList.take K) = some L) (hok : okAll C.N L = true) (ht : P.underlying t = some (.map kt e)) (hd : decide (d < C.N ∧ C.N ≤ 1000) = true)
    (h : ∀ KK : AS → Prop, (∀ s1, (∃ m ks vs, s1.view.tm y = .mapr m ∧ lk s1.hp m = some (.map ks vs) ∧ (1000 ≤ m ∧ m < 2000) ∧
      ∀ C' x, Sub C C' → C'.N = C.N → C.B ≤ x → It C' x m ks.length [] → Q .normal C' (s1.put d (.val (.pointer (some ⟨x, 0, none⟩))))) → KK s1) → runK P L (alignR L R) s KK) : AWpX P C (.region id ops false) Q s := by
  obtain ⟨hd1, hN⟩ := of_decide_eq_true hd
  obtain ⟨s1, ob, h1, h2, m, ks, vs, hy, hm, ⟨hm1, hm2⟩, hQ⟩ := runK_runA L _ s _ (h _ (fun _ h => h))
  intro a w hs
  obtain ⟨E, hR, hV, _⟩ := runA_spec L _ s s1 ob h1 h2 hok
  refine region_pre K hK hops hR hs fun a1 w1 hs1 => ?_
  rw [hV] at hs1
  obtain ⟨fz, ρ, hs1⟩ := hs1
  have hyv := hs1.tm y
  rw [hy] at hyv
  simp only [Holds] at hyv
  obtain ⟨c, hρ, hval⟩ := hyv
  obtain ⟨c', hc', _, ⟨es, clock, hh, hks, hvs, hclk, hborn⟩, _⟩ := hs1.hp m _ hm
  rw [hρ] at hc'; cases hc'
  have hev : a1.eval (.tmp y) = .map (some c) := hval
  refine wpOp_of hlast rfl (wp_of_value (v := .pointer (some ⟨w1.heap.size, 0, none⟩)) (w' := w1.alloc (.mapIter (some c) clock #[] clock)) (by simp [execOp, hev, run_range_map w1 t kt e c es clock ht hh]) ?_)
  have h3 := (hs1.ext (Ext.alloc w1 (.mapIter (some c) clock #[] clock))).put hd1 (x := .val (.pointer (some ⟨w1.heap.size, 0, none⟩))) (v := .pointer (some ⟨w1.heap.size, 0, none⟩)) (by simp only [Holds]) rfl
  obtain ⟨C', hCN, hsub, h4, hB, hw0, hfz, hρ0, hMu⟩ := h3.rebase hN
  have hnew := hs1.fz_new (Nat.le_refl _)
  have hkl : ks.length = clock := by rw [← hks, hclk]; simp
  refine ⟨C', s1.put d (.val (.pointer (some ⟨w1.heap.size, 0, none⟩))), hsub, hCN, ⟨fz, ρ, by rw [view_put]; exact h4⟩, hQ C' _ hsub hCN hs1.bsz ⟨?_, ?_, ⟨c, ?_, hρ0 m c hm1 hm2 hρ⟩, ?_⟩⟩
  · rw [hB]; simp
  · cases e : C'.Mu w1.heap.size with
    | false => rfl
    | true =>
      rcases hMu _ e with x | x
      · have := hs1.mub _ x; have := hs1.bsz; omega
      · obtain ⟨_, _, o, y⟩ := h3.named x
        rcases y with ⟨z1, cur, e', z, z2⟩ | ⟨es', cl, z1⟩
        · rw [heap_alloc_new] at z1; subst z2; cases z1
        · rw [heap_alloc_new] at z1; cases z1
  · rw [hw0, heap_alloc_new, hkl]
  · rw [hfz]; exact hnew

/-- the next key of a range, and whether there is one -/
theorem next_wp {id : Nat} {s : AS} {d1 d2 it : Nat} {t1 t2 : TypeId} {p1 p2 : String} {e1 e2 : Array Edge} {C0 : Ctx} (hsub : Sub C0 C) (hN0 : C.N = C0.N) (hd : decide (d1 < C0.N ∧ d2 < C0.N ∧ C0.N ≤ 1000) = true) {x m n : Nat} {seen : List Nat} (hB : C0.B ≤ x)
    (hit : s.view.tm it = .val (.pointer (some ⟨x, 0, none⟩))) (hI : It C x m n seen) (hmm : 1000 ≤ m ∧ m < 2000) {ks : List Value} {vs : List AV} (hm : lk s.hp m = some (.map ks vs)) (hks : ks.length = n) {a : Act} {w : World} (hs : Sim C s.view a w) :
    (Code.region id #[{ dst := some d1, op := .next (.tmp it) false, type := t1, pos := p1, after := e1, guard := none }, { dst := some d2, op := .extract (.tmp d1) 0, type := t2, pos := p2, after := e2, guard := none }] false).wp P
      (fun e a' w' => e = .normal ∧ (((∀ j, j < n → j ∈ seen) ∧ Sim C ((s.put d1 .unk).put d2 (.val (.bool false))).view a' w') ∨
        ∃ C' j, Sub C0 C' ∧ C'.N = C0.N ∧ j < n ∧ j ∉ seen ∧ It C' x m n (seen ++ [j]) ∧ Sim C' ((s.put d1 .unk).put d2 (.val (.bool true))).view a' w')) a w := by
  obtain ⟨hd1, hd2, hN⟩ := of_decide_eq_true hd
  obtain ⟨fz, ρ, hs⟩ := hs
  obtain ⟨hIlt, hImu, ⟨cm, hIat, hIρ⟩, hIfz⟩ := hI
  have hx : w.heap[x]? = some (.mapIter (some cm) n seen.toArray n) := by rw [hs.old x hIlt hImu]; exact hIat
  obtain ⟨c, hρ, hBM, ⟨es, clock, hh, hks', hvs, hclk, hborn⟩, _⟩ := hs.hp m _ hm
  have hcm : c = cm := hs.keep m cm c hIρ hρ
  subst hcm
  have hkl : clock = n := by rw [hclk, ← hks, ← hks']; simp
  have hesn : es.size = n := by rw [← hclk]; exact hkl
  have hold : ∀ y ∈ es.toList, y.born < n := by
    intro y hy
    obtain ⟨i, hi⟩ := List.mem_iff_getElem?.1 hy
    have h1 := hborn i y (by simpa using hi)
    have := (List.getElem?_eq_some_iff.1 hi).1
    simp at this; omega
  have hitv : a.eval (.tmp it) = .pointer (some ⟨x, 0, none⟩) := by
    have := hs.tm it; rw [hit] at this; simp only [Holds] at this; exact this
  have hex : ∀ v w', (Instr.next (.pointer (some ⟨x, 0, none⟩)) false t1).run P w = .ok v w' → (execOp a.eval { dst := some d1, op := .next (.tmp it) false, type := t1, pos := p1, after := e1, guard := none }).run P w = .ok (.value v) w' := by
    intro v w' hr
    simp [execOp, hitv, hr]
  have hfx : (∀ o, fz.cell x o = none) ∧ fz.obj x = none := by
    constructor
    · intro o
      cases e : fz.cell x o with
      | none => rfl
      | some v => have := (hs.f1 x hIlt hImu).1 o v e; rw [hIfz.1 o] at this; cases this
    · cases e : fz.obj x with
      | none => rfl
      | some v => have := (hs.f1 x hIlt hImu).2 v e; rw [hIfz.2] at this; cases this
  have hanon : ¬ Named s.view a w ρ x := by
    intro hn
    obtain ⟨hbm, _⟩ := hs.named hn
    rcases hbm with y | y
    · omega
    · rw [hImu] at y; cases y
  have ext2 : ∀ (a1 : Act) (w1 : World) (r : Value) (b : Bool) (l : List Value), a1.eval (.tmp d1) = .tuple (Value.bool b :: l).toArray → ∀ K : Act → World → Prop, K (a1.put (some d2) (.bool b)) w1 → ∀ Q : Exit → Act → World → Prop,
      ({ dst := some d2, op := .extract (.tmp d1) 0, type := t2, pos := p2, after := e2, guard := none } : Oper).wp P a1 w1 K Q := by
    intro a1 w1 r b l he K hK Q
    refine wp_of_value (v := .bool b) ?_ hK
    simp [execOp, he, Instr.extract]
  refine wp_region ?_
  show wpOps P _ _ [0, 1] a w
  rw [wpOps_cons]
  refine wpOp_of rfl rfl ?_
  have hd1' : d1 < C.N := by rw [hN0]; exact hd1
  have hd2' : d2 < C.N := by rw [hN0]; exact hd2
  rcases run_next_at (P := P) w t1 x c n n seen.toArray es clock hx hh hold (Nat.le_refl _) with ⟨h0, hrun⟩ | ⟨en, hen, w1, hw1, hrun⟩
  · refine wp_of_value (v := .tuple #[.bool false]) (w' := w) (hex _ _ hrun) ?_
    rw [wpOps_cons]
    have hp1 := hs.put hd1' (x := .unk) (v := .tuple #[.bool false]) (by simp only [Holds]) rfl
    refine wpOp_of rfl rfl (ext2 _ _ (.bool false) false [] ?_ _ ?_ _)
    · show (a.put (some d1) _).tmps.getD d1 undef = _
      rw [getD_put a d1 d1 _ (by rw [hs.sz]; exact hd1'), if_pos rfl]
    · refine ⟨rfl, .inl ⟨fun j hj => ?_, fz, ρ, ?_⟩⟩
      · have := all_seen es seen.toArray h0 es[j] (by simp)
        rw [hborn j es[j] (by simp [hesn, hj])] at this
        simpa using this
      · rw [view_put, view_put]
        exact hp1.put hd2' (x := .val (.bool false)) (v := .bool false) (by simp only [Holds]) rfl
  · obtain ⟨hme, hsc⟩ := mem_left hen
    obtain ⟨j, hj⟩ := List.mem_iff_getElem?.1 hme
    have hbj := hborn j en (by simpa using hj)
    have hjn : j < n := by have := (List.getElem?_eq_some_iff.1 hj).1; simp at this; omega
    have hjs : j ∉ seen := by rw [hbj] at hsc; simpa using hsc
    refine wp_of_value (v := .tuple #[.bool true, en.key, en.val]) (w' := setBlock w1 x (.mapIter (some c) n (seen.toArray.push en.born) clock)) (hex _ _ hrun) ?_
    rw [wpOps_cons]
    -- in the outer context the iterator is the call's own
    have hs0 := hsub _ _ _ _ _ hs
    have hs1 : SimE C0 s.view a w1 fz ρ := by
      rcases hw1 with rfl | rfl
      · exact hs0
      · exact hs0.extDrawn
    have hheap1 : w1.heap = w.heap := by rcases hw1 with rfl | rfl <;> rfl
    have hsp := hs1.spare (g := x) (.inl hB) (fun b hb => hanon (.inl ⟨b, hb⟩)) (fun p hp ad nn cc hc hbl => hanon (.inr ⟨p, ad, nn, cc, hp, by
        have : conc a w1 ρ p = conc a w ρ p := by
          cases p with
          | t i => rfl
          | c b jj => simp only [conc, cellAt, hheap1]
        rw [← this]; exact hc, hbl⟩)) (w' := setBlock w1 x (.mapIter (some c) n (seen.toArray.push en.born) clock)) rfl rfl rfl (by simp [setBlock]) (fun i hi => by simp [setBlock, Ne.symm hi])
        (fz' := fz) (Fz.le_refl _) hfx.2 (fun o v e => by rw [hfx.1 o] at e; cases e) (fun b _ => ⟨fun _ => rfl, rfl⟩)
    have hp1 := hsp.put hd1 (x := .unk) (v := .tuple #[.bool true, en.key, en.val]) (by simp only [Holds]) rfl
    have hp2 := hp1.put hd2 (x := .val (.bool true)) (v := .bool true) (by simp only [Holds]) rfl
    obtain ⟨C', hCN, hsub', h4, hB', hw0, hfz, hρ0, hMu⟩ := hp2.rebase hN
    have hxs : x < w.heap.size := lt_of_heap hx
    have hheap2 : (setBlock w1 x (.mapIter (some c) n (seen.toArray.push en.born) clock)).heap[x]? = some (.mapIter (some c) n (seen.toArray.push en.born) clock) := by
      simp only [setBlock]
      rw [Array.getElem?_setIfInBounds_self_of_lt (by rw [hheap1]; exact hxs)]
    refine wpOp_of rfl rfl (ext2 _ _ (.bool true) true [en.key, en.val] ?_ _ ?_ _)
    · show (a.put (some d1) _).tmps.getD d1 undef = _
      rw [getD_put a d1 d1 _ (by rw [hs.sz]; exact hd1'), if_pos rfl]
    · refine ⟨rfl, .inr ⟨C', j, hsub', hCN, hjn, hjs, ⟨?_, ?_, ⟨c, ?_, hρ0 m c hmm.1 hmm.2 hρ⟩, ?_⟩, fz, ρ, ?_⟩⟩
      · rw [hB']; simp [setBlock, hheap1, hxs]
      · cases e : C'.Mu x with
        | false => rfl
        | true =>
          rcases hMu _ e with y | y
          · have := hs0.mub _ y; omega
          · obtain ⟨_, _, o, z⟩ := hp2.named y
            rcases z with ⟨z1, cur, e', zz, z2⟩ | ⟨es', cl, z1⟩
            · rw [hheap2] at z1; subst z2; cases z1
            · rw [hheap2] at z1; cases z1
      · rw [hw0, hheap2, hbj, hkl]; simp
      · rw [hfz]; exact hfx
      · rw [view_put, view_put]; exact h4

/-- a range over a map, in whatever order -/
theorem AWp.loopNext {id : Nat} {rest : Code} {Q : Exit → AS → Prop} {s : AS} {d1 d2 it : Nat} {t1 t2 : TypeId} {p1 p2 : String} {e1 e2 : Array Edge} {x m n : Nat} (hd : decide (d1 < C.N ∧ d2 < C.N ∧ C.N ≤ 1000) = true) {Cb : Ctx} (hsb : Sub Cb C) (hNb : C.N = Cb.N) (hB : Cb.B ≤ x) (hmm : 1000 ≤ m ∧ m < 2000) (hI0 : It C x m n [])
    (I : List Nat → AS → Prop) (h0 : I [] s) (hinv : ∀ seen s, I seen s → s.view.tm it = .val (.pointer (some ⟨x, 0, none⟩)) ∧ ∃ ks vs, lk s.hp m = some (.map ks vs) ∧ ks.length = n)
    (hend : ∀ C' seen s, C'.N = C.N → I seen s → (∀ j, j < n → j ∈ seen) → AWp P C' rest (fun e s' => match e with | .normal => False | e => Q e s') ((s.put d1 .unk).put d2 (.val (.bool false))))
    (hstep : ∀ C' seen s j, C'.N = C.N → I seen s → j < n → j ∉ seen → It C' x m n (seen ++ [j]) → AWp P C' rest (fun e s' => match e with | .normal => ∃ s'', I (seen ++ [j]) s'' ∧ s''.le s' | e => Q e s') ((s.put d1 .unk).put d2 (.val (.bool true)))) :
    ∀ a w, Sim C s.view a w → (Code.loop (.seq (.region id #[{ dst := some d1, op := .next (.tmp it) false, type := t1, pos := p1, after := e1, guard := none }, { dst := some d2, op := .extract (.tmp d1) 0, type := t2, pos := p2, after := e2, guard := none }] false) rest)).wp P
      (fun e a' w' => ∃ s', Sim Cb s'.view a' w' ∧ Q e s') a w := by
  generalize hbody : Code.seq (.region id #[{ dst := some d1, op := .next (.tmp it) false, type := t1, pos := p1, after := e1, guard := none }, { dst := some d2, op := .extract (.tmp d1) 0, type := t2, pos := p2, after := e2, guard := none }] false) rest = body
  intro a w hs b k cs
  have hd' : decide (d1 < Cb.N ∧ d2 < Cb.N ∧ Cb.N ≤ 1000) = true := by rw [← hNb]; exact hd
  have round : ∀ (C1 : Ctx) seen s a w, Sub Cb C1 → C1.N = Cb.N → It C1 x m n seen → I seen s → Sim C1 s.view a w →
      body.wp P (fun e a' w' => match e with
        | .normal => ∃ C2 j s', Sub Cb C2 ∧ C2.N = Cb.N ∧ j < n ∧ j ∉ seen ∧ It C2 x m n (seen ++ [j]) ∧ I (seen ++ [j]) s' ∧ Sim C2 s'.view a' w'
        | e => ∃ s', Sim Cb s'.view a' w' ∧ Q e s') a w := by
    intro C1 seen s a w hsub hN1 hI hi hs
    obtain ⟨hit, ks, vs, hm, hks⟩ := hinv seen s hi
    subst hbody
    refine wp_seq (wp_mono (next_wp hsub hN1 hd' hB hit hI hmm hm hks hs) fun e a1 w1 hh => ?_)
    obtain ⟨rfl, hh⟩ := hh
    rcases hh with ⟨hall, h1⟩ | ⟨C2, j, hsub2, hN2, hj, hjs, hI2, h1⟩
    · refine wp_mono (hend C1 seen s (hN1.trans hNb.symm) hi hall a1 w1 h1) fun e a2 w2 ⟨s2, h2, h3⟩ => ?_
      cases e with
      | normal => exact h3.elim
      | _ => exact ⟨s2, hsub.sim h2, h3⟩
    · refine wp_mono (hstep C2 seen s j (hN2.trans hNb.symm) hi hj hjs hI2 a1 w1 h1) fun e a2 w2 ⟨s2, h2, h3⟩ => ?_
      cases e with
      | normal => obtain ⟨s3, h4, h5⟩ := h3; exact ⟨C2, j, s3, hsub2, hN2, hj, hjs, hI2, h4, h2.forget h5⟩
      | _ => exact ⟨s2, hsub2.sim h2, h3⟩
  have key : ∀ (u : Nat) seen s C1 a w, n - seen.length = u → seen.Nodup → (∀ j ∈ seen, j < n) → Sub Cb C1 → C1.N = Cb.N → It C1 x m n seen → I seen s → Sim C1 s.view a w →
      ∃ e a' w', (∃ s' : AS, Sim Cb s'.view a' w' ∧ Q e s') ∧ Arrives P (lone (b.at a (.code body :: .inLoop body :: k)) cs w) b k cs e a' w' := by
    intro u
    induction u using Nat.strongRecOn with
    | _ u ih =>
      intro seen s C1 a w hu hnd hlt hsub hN1 hI hi hs
      obtain ⟨e, a₁, w₁, hq, harr⟩ := round C1 seen s a w hsub hN1 hI hi hs b (.inLoop body :: k) cs
      cases e with
      | normal =>
        obtain ⟨C2, j, s1, hsub2, hN2, hj, hjs, hI2, hi2, hs2⟩ := hq
        have hlen : seen.length + 1 ≤ n := by
          have hnd2 : (j :: seen).Nodup := List.nodup_cons.2 ⟨hjs, hnd⟩
          have := List.Nodup.length_le_of_subset hnd2 (l₂ := List.range n) (fun y hy => by
            rcases List.mem_cons.1 hy with rfl | hy
            · exact List.mem_range.2 hj
            · exact List.mem_range.2 (hlt y hy))
          simpa using this
        obtain ⟨e₂, a₂, w₂, hq₂, harr₂⟩ := ih (n - (seen ++ [j]).length) (by simp; omega) (seen ++ [j]) s1 C2 a₁ w₁ rfl (by
            rw [List.nodup_append]; exact ⟨hnd, by simp, fun y hy z hz => by simp at hz; subst hz; intro e; subst e; exact hjs hy⟩) (by
            intro y hy; simp at hy; rcases hy with hy | rfl
            · exact hlt y hy
            · exact hj) hsub2 hN2 hI2 hi2 hs2
        exact ⟨e₂, a₂, w₂, hq₂, .of_steps (Steps.trans harr (.one step_inLoop)) harr₂⟩
      | exit id => exact ⟨_, a₁, w₁, hq, .pass (x := .inLoop body) rfl (fun _ _ => .inl (by simp)) harr⟩
      | goto l => exact ⟨_, a₁, w₁, hq, .pass (x := .inLoop body) rfl (fun _ _ => .inl (by simp)) harr⟩
      | ret => exact ⟨_, a₁, w₁, hq, .pass (x := .inLoop body) rfl (fun _ _ => .inl (by simp)) harr⟩
      | panic ch => exact ⟨_, a₁, w₁, hq, .pass (x := .inLoop body) rfl (fun _ _ => .inl (by simp)) harr⟩
      | outgrown => exact ⟨_, a₁, w₁, hq, .pass (x := .inLoop body) rfl (fun _ _ => .inl (by simp)) harr⟩
  obtain ⟨e, a', w', hq, harr⟩ := key _ [] s C a w rfl List.nodup_nil (by simp) hsb hNb hI0 h0 hs
  exact ⟨e, a', w', hq, .of_steps (.one step_loop) harr⟩
/-- code that begins in one context, and ends in an outer one -/
def AWpTo (P : Program) (C C0 : Ctx) (c : Code) (Q : Exit → AS → Prop) (s : AS) : Prop := ∀ a w, Sim C s.view a w → c.wp P (fun e a' w' => ∃ s', Sim C0 s'.view a' w' ∧ Q e s') a w
theorem AWp.seqT {x y : Code} {Q : Exit → AS → Prop} {s : AS} (h : AWpX P C x (fun e C' s' => match e with | .normal => AWpTo P C' C y Q s' | e => Q e s') s) : AWp P C (.seq x y) Q s := by
  intro a w hs
  refine wp_seq (wp_mono (h a w hs) fun e a' w' ⟨C', s', hsub, _, h1, h2⟩ => ?_)
  cases e with
  | normal => exact h2 a' w' h1
  | _ => exact ⟨s', hsub.sim h1, h2⟩
theorem AWpTo.block {C0 : Ctx} {id : Nat} {c : Code} {Q : Exit → AS → Prop} {s : AS} (h : AWpTo P C C0 c (blockQ id Q) s) : AWpTo P C C0 (.block id c) Q s := by
  intro a w hs
  refine wp_block (wp_mono (h a w hs) fun e a' w' ⟨s', h1, h2⟩ => ?_)
  cases e with
  | exit id' =>
    simp only [Exit.inBlock, blockQ] at h2 ⊢
    split
    · rename_i e; rw [if_pos e] at h2; exact ⟨s', h1, h2⟩
    · rename_i e; rw [if_neg e] at h2; exact ⟨s', h1, h2⟩
  | _ => exact ⟨s', h1, h2⟩
/-- the key, or the value, of the round of a range -/
theorem AWp.entry {id : Nat} {Q : Exit → AS → Prop} {s : AS} {d1 d2 d3 it : Nat} (i : Nat) {t1 t2 t3 : TypeId} {p1 p2 p3 : String} {e1 e2 e3 : Array Edge} (hd : decide (d1 < C.N ∧ d2 < C.N ∧ d3 < C.N ∧ i ≤ 1) = true) {x m n j : Nat} {seen : List Nat}
    (hI : It C x m n (seen ++ [j])) (hit : s.view.tm it = .val (.pointer (some ⟨x, 0, none⟩))) {ks : List Value} {vs : List AV} (hm : lk s.hp m = some (.map ks vs)) (hks : ks.length = n) {k : Value} {v : AV} (hk : ks[j]? = some k) (hv : vs[j]? = some v)
    (h : Q .normal (((s.put d1 .unk).put d2 (if i = 0 then .val k else dem v)).put d3 (if i = 0 then .val k else dem v))) :
    AWp P C (.region id #[{ dst := some d1, op := .entry (.tmp it), type := t1, pos := p1, after := e1, guard := none }, { dst := some d2, op := .extract (.tmp d1) i, type := t2, pos := p2, after := e2, guard := none },
      { dst := some d3, op := .assign (.tmp d2), type := t3, pos := p3, after := e3, guard := none }] false) Q s := by
  obtain ⟨hd1, hd2, hd3, hi⟩ := of_decide_eq_true hd
  rintro a w ⟨fz, ρ, hs⟩
  obtain ⟨hIlt, hImu, ⟨cm, hIat, hIρ⟩, hIfz⟩ := hI
  have hx : w.heap[x]? = some (.mapIter (some cm) n (seen ++ [j]).toArray n) := by rw [hs.old x hIlt hImu]; exact hIat
  obtain ⟨c, hρ, hBM, ⟨es, clock, hh, hks', hvs, hclk, hborn⟩, _⟩ := hs.hp m _ hm
  have hcm : c = cm := hs.keep m cm c hIρ hρ
  subst hcm
  have hkl : clock = n := by rw [hclk, ← hks, ← hks']; simp
  have hjl : j < es.size := by have := (List.getElem?_eq_some_iff.1 hk).1; rw [← hks'] at this; simpa using this
  have hbj := hborn j es[j] (by simp [hjl])
  have hnd : (es.toList.map (·.born)).Nodup := by
    have e : es.toList.map (·.born) = List.range es.size := by
      apply List.ext_getElem
      · simp
      · intro p h1 h2
        simp at h1 h2
        have := hborn p es[p] (by simp [h1])
        simpa using this
    rw [e]; exact List.nodup_range
  have hrun := run_entry_at (P := P) w x c n seen.toArray es clock es[j] (by rw [hbj, hkl]; simpa using hx) hh (by simp) hnd
  have hitv : a.eval (.tmp it) = .pointer (some ⟨x, 0, none⟩) := by
    have := hs.tm it; rw [hit] at this; simp only [Holds] at this; exact this
  have hkey : es[j].key = k := by
    rw [← hks'] at hk; simpa [hjl] using hk
  obtain ⟨u, hu, hh2⟩ := hvs.get _ _ _ j v hv
  have hval : es[j].val = u := by simpa [hjl] using hu
  obtain ⟨y, hy⟩ : ∃ y, (if i = 0 then k else u) = y := ⟨_, rfl⟩
  have hyh : Holds fz (if i = 0 then .val k else dem v) ρ y := by
    subst hy
    split
    · simp only [Holds]
    · exact hh2.dem
  have hyo : isOwn (if i = 0 then .val k else dem v) = false := by
    split
    · rfl
    · exact isOwn_dem v
  refine wp_region ?_
  show wpOps P _ _ [0, 1, 2] a w
  rw [wpOps_cons]
  refine wpOp_of rfl rfl ?_
  refine wp_of_value (v := .tuple #[es[j].key, es[j].val]) (w' := w) ?_ ?_
  · show (execOp a.eval { dst := some d1, op := .entry (.tmp it), type := t1, pos := p1, after := e1, guard := none }).run P w = _
    simp [execOp, hitv, hrun]
  have h1 := hs.put hd1 (x := .unk) (v := .tuple #[es[j].key, es[j].val]) (by simp only [Holds]) rfl
  rw [wpOps_cons]
  refine wpOp_of rfl rfl ?_
  refine wp_of_value (v := y) (w' := w) ?_ ?_
  · show (execOp _ { dst := some d2, op := .extract (.tmp d1) i, type := t2, pos := p2, after := e2, guard := none }).run P w = _
    have he : (a.put (some d1) (.tuple #[es[j].key, es[j].val])).eval (.tmp d1) = .tuple #[es[j].key, es[j].val] := by
      show (a.put (some d1) _).tmps.getD d1 undef = _
      rw [getD_put a d1 d1 _ (by rw [hs.sz]; exact hd1), if_pos rfl]
    have g2 : ∀ ev : Operand → Value, ev (.tmp d1) = .tuple #[es[j].key, es[j].val] → (execOp ev { dst := some d2, op := .extract (.tmp d1) i, type := t2, pos := p2, after := e2, guard := none }).run P w = .ok (.value (if i = 0 then es[j].key else es[j].val)) w := by
      intro ev hev
      have hi' : i = 0 ∨ i = 1 := by omega
      rcases hi' with rfl | rfl <;> simp [execOp, hev, Instr.extract]
    exact (g2 _ he).trans (by rw [hkey, hval, hy])
  have h2 := h1.put hd2 hyh hyo
  rw [wpOps_cons]
  refine wpOp_of rfl rfl ?_
  refine wp_of_value (v := y) (w' := w) ?_ ?_
  · show (execOp _ { dst := some d3, op := .assign (.tmp d2), type := t3, pos := p3, after := e3, guard := none }).run P w = _
    have he : ((a.put (some d1) (.tuple #[es[j].key, es[j].val])).put (some d2) y).eval (.tmp d2) = y := by
      show ((a.put (some d1) _).put (some d2) y).tmps.getD d2 undef = _
      rw [getD_put _ d2 d2 _ (by rw [h1.sz]; exact hd2), if_pos rfl]
    simp [execOp, he]
  · refine ⟨_, ⟨fz, ρ, ?_⟩, h⟩
    rw [view_put, view_put, view_put]
    exact h2.put hd3 hyh hyo
theorem AWpTo.forget {C0 : Ctx} {c : Code} {Q : Exit → AS → Prop} {s s' : AS} (hle : s'.le s) (h : AWpTo P C C0 c Q s') : AWpTo P C C0 c Q s := fun a w hs => h a w (hs.forget hle)
theorem frzBs_of {Bs : List Nat} {s : AS} : ∀ {r : List Nat}, (∀ b k, r.contains b = true → lk s.hp b = some k → k.within Bs) → frzBs Bs s r
  | [], _ => trivial
  | u :: r, h => by
    simp only [frzBs]
    refine ⟨?_, frzBs_of fun b k hb hk => h b k (by simp only [List.contains_cons, Bool.or_eq_true]; exact .inr hb) hk⟩
    cases hk : lk s.hp u with
    | none => trivial
    | some k => exact h u k (by simp) hk
end Go.Aw
