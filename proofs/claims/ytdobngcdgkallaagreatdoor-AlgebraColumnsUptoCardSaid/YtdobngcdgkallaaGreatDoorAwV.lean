/- Regions, evaluated: what is to be shown, one behind the other. -/
import Derived.Test.YtdobngcdgkallaaGreatDoorAwU
set_option linter.unusedSimpArgs false
set_option linter.unusedVariables false
set_option linter.unusedSectionVars false
section
namespace Go.Aw
variable [GL]
variable {P : Program} {C : Ctx} {ops : Array Oper}

def runK (P : Program) : List ROp → List Res → AS → (AS → Prop) → Prop
 | [], _, s, K => K s
 | r :: L, c :: R, s, K => match effG P c r s.view with
  | some e => e.ob ∧ runK P L R (s.app r.dst e) K
  | none => False
 | _ :: _, [], _, _ => False
theorem runK_runA : ∀ (L : List ROp) (R : List Res) (s : AS) (K : AS → Prop), runK P L R s K → ∃ s' ob, runA P L R s = some (s', ob) ∧ ob ∧ K s'
 | [], R, s, K, h => ⟨s, True, rfl, trivial, h⟩
 | r :: L, [], s, K, h => h.elim
 | r :: L, c :: R, s, K, h => by
  simp only [runK] at h
  split at h
  ·rename_i e he
   obtain ⟨s', ob, h1, h2, h3⟩ := runK_runA L R _ K h.2
   exact ⟨s', e.ob ∧ ob, by simp only [runA, he, h1], ⟨h.1, h2⟩, h3⟩
  ·exact h.elim
theorem AWp.reg {id : Nat} {Q : Exit → AS → Prop} {s : AS} (tks : List Bool) (L : List ROp) (R : List Res) (hops : trOps P ops tks ops.toList = some L) (hok : okAll C.N L = true)
  (h : ∀ K : AS → Prop, (∀ s', Q .normal s' → K s') → runK P L (alignR L R) s K) : AWp P C (.region id ops false) Q s := by
 obtain ⟨s', ob, h1, h2, h3⟩ := runK_runA L _ s _ (h (Q .normal) (fun _ h => h))
 exact AWp.region R hops hok h1 h2 h3
theorem AWp.regD {id : Nat} {Q : Exit → AS → Prop} {s : AS} (hm : P.follows .mixedOrders = true) (tks : List Bool) (L : List ROp) (R : List Res) (hops : trOps P ops tks ops.toList = some L) (hok : okAll C.N L = true) (hback : backP L 0 = true)
  (h : ∀ K : AS → Prop, (∀ s', Q .normal s' → K s') → runK P L (alignR L R) s K) (hfree : freeP (reachL L []) (infosA P L (alignR L R) s) 0 = true) : AWp P C (.region id ops true) Q s := by
 obtain ⟨s', ob, h1, h2, h3⟩ := runK_runA L _ s _ (h (Q .normal) (fun _ h => h))
 exact AWp.regionD hm R hops hok hback hfree h1 h2 h3

/-- ways that meet again: what stands behind is walked once, from the states st y -/
theorem AWp.seqJ {x rest : Code} {Q : Exit → AS → Prop} {s : AS} {Y : Type} (st : Y → AS) (J : Y → Prop) (h2 : ∀ y, J y → AWp P C rest Q (st y)) (h1 : (∀ s y, J y → (st y).le s → thenQ P C rest Q .normal s) → AWp P C x (thenQ P C rest Q) s) : AWp P C (.seq x rest) Q s :=
 AWp.seq (h1 fun _ y hy hle => (h2 y hy).forget hle)
/-- a loop whose heads are the states st x -/
theorem AWp.loopG {c : Code} {Q : Exit → AS → Prop} {s : AS} {X : Type} (st : X → AS) (I : X → Prop) (μ : X → Nat) (x0 : X) (h0 : I x0) (hs0 : (st x0).le s)
  (round : ∀ x, I x → AWp P C c (fun e s' => match e with | .normal => ∃ x', I x' ∧ μ x' < μ x ∧ (st x').le s' | e => Q e s') (st x)) : AWp P C (.loop c) Q s := by
 intro a w hs b k cs
 have key : ∀ n x a w, μ x = n → I x → Sim C (st x).view a w →
   ∃ e a' w', (∃ s' : AS, Sim C s'.view a' w' ∧ Q e s') ∧ Arrives P (lone (b.at a (.code c :: .inLoop c :: k)) cs w) b k cs e a' w' := by
  intro n
  induction n using Nat.strongRecOn with
  | _ n ih =>
   intro x a w hn hI hs
   obtain ⟨e, a₁, w₁, ⟨s1, hs1, hq⟩, harr⟩ := round x hI a w hs b (.inLoop c :: k) cs
   cases e with
   | normal =>
    obtain ⟨x', hI₁, hlt, hle⟩ := hq
    obtain ⟨e₂, a₂, w₂, hq₂, harr₂⟩ := ih (μ x') (hn ▸ hlt) x' a₁ w₁ rfl hI₁ (hs1.forget hle)
    exact ⟨e₂, a₂, w₂, hq₂, .of_steps (Steps.trans harr (.one step_inLoop)) harr₂⟩
   | exit id => exact ⟨_, a₁, w₁, ⟨s1, hs1, hq⟩, .pass (x := .inLoop c) rfl (fun _ _ => .inl (by simp)) harr⟩
   | goto l => exact ⟨_, a₁, w₁, ⟨s1, hs1, hq⟩, .pass (x := .inLoop c) rfl (fun _ _ => .inl (by simp)) harr⟩
   | ret => exact ⟨_, a₁, w₁, ⟨s1, hs1, hq⟩, .pass (x := .inLoop c) rfl (fun _ _ => .inl (by simp)) harr⟩
   | panic ch => exact ⟨_, a₁, w₁, ⟨s1, hs1, hq⟩, .pass (x := .inLoop c) rfl (fun _ _ => .inl (by simp)) harr⟩
   | outgrown => exact ⟨_, a₁, w₁, ⟨s1, hs1, hq⟩, .pass (x := .inLoop c) rfl (fun _ _ => .inl (by simp)) harr⟩
 obtain ⟨e, a', w', hq, harr⟩ := key _ x0 a w rfl h0 (hs.forget hs0)
 exact ⟨e, a', w', hq, .of_steps (.one step_loop) harr⟩

theorem RsvL.closed {g : Nat → Option Blk} : ∀ {l : List AV}, norefL l = true → RsvL g l l
 | [], _ => .nil
 | x :: l, h => by
  simp only [norefL, Bool.and_eq_true] at h
  exact .cons (.closed h.1) (RsvL.closed h.2)
/-- what a call asks for, where its arguments name no block -/
theorem callOK {g : Nat → Option Blk} {P : Program} {fn : FuncId} {vs : List AV} {r : AV} (hn : norefL vs = true) (h : Con P fn vs r) : ∃ ts, RsvL g vs ts ∧ Con P fn ts r := ⟨vs, .closed hn, h⟩
attribute [simp] Nat.add_one_le_iff wk1_refl wk2_refl
attribute [simp low] wk1_some wk2_cells wk2_map wk2_mapd wk2_mapw
attribute [simp] AS.le withinTm withinHp weakP wkL within withinL Blk.within resultsA resultA oneOf
attribute [simp] Skipped runK alignR AOp.isCall AS.start zipFrom dem effG effOf AOp.opds act aBox touched AS.view lk View.ev View.filt cellsOf oneA aNew AS.app AS.putO AS.put ins AS.setBO AS.setBs AS.setB AS.demP aCopy
 aBuild fillA splice aBslice aBslice0 pickA aLoad aStore aStore0 tmpOf aBin binA aEqg aEqb eqA eqV aUn aConv aMksl bnd takeO dropO aSub aSubs aFad aFld aIad aIdxs lkp1 aLkp aMupd oneOrAgg aExt aLen aApp aDel aCall aCallO growO aApps growS aMx4 mx2 aMkmap aPick aMm aIsnil aX1 aNck aS2b aB2s aSnil aPnil aIada growA moreA isFx rowsOf
 idOf srcPl Blk.set Blk.at cmpInt binI callee preOf noref norefL flat flatL kindV infosA infoOf lcOf tbH whk dck chunk
@[simp] theorem oc_int (k : IntKind) (n : Int) : (Value.int k n).oneCell' = true := rfl
@[simp] theorem oc_bool (b : Bool) : (Value.bool b).oneCell' = true := rfl
@[simp] theorem oc_string (s : ByteArray) : (Value.string s).oneCell' = true := rfl
@[simp] theorem oc_slice (a : Option Addr) (n c : Nat) : (Value.slice a n c).oneCell' = true := rfl
@[simp] theorem oc_pointer (a : Option Addr) : (Value.pointer a).oneCell' = true := rfl
@[simp] theorem oc_map (a : Option Nat) : (Value.map a).oneCell' = true := rfl
@[simp] theorem oc_func (f : Fn) (a b : Array Value) : (Value.func f a b).oneCell' = true := rfl
@[simp] theorem oc_nilFunc : Value.nilFunc.oneCell' = true := rfl
@[simp] theorem oc_nilIface : Value.nilIface.oneCell' = true := rfl
end Go.Aw
end
section
namespace Go.Aw
variable [GL]
theorem withinL_iff {ids : List Nat} : ∀ {l : List AV}, withinL ids l = true ↔ ∀ x ∈ l, within ids x = true
 | [] => by simp
 | x :: l => by simp [withinL_iff (l := l)]
theorem norefL_iff : ∀ {l : List AV}, norefL l = true ↔ ∀ x ∈ l, noref x = true
 | [] => by simp
 | x :: l => by simp [norefL_iff (l := l)]
theorem flatL_iff : ∀ {l : List AV}, flatL l = true ↔ ∀ x ∈ l, flat x = true
 | [] => by simp
 | x :: l => by simp [flatL_iff (l := l)]
@[simp] theorem withinL_map {α : Type} {ids : List Nat} {f : α → AV} {l : List α} : withinL ids (l.map f) = true ↔ ∀ x ∈ l, within ids (f x) = true := by simp [withinL_iff]
@[simp] theorem norefL_map {α : Type} {f : α → AV} {l : List α} : norefL (l.map f) = true ↔ ∀ x ∈ l, noref (f x) = true := by simp [norefL_iff]
@[simp] theorem flatL_map {α : Type} {f : α → AV} {l : List α} : flatL (l.map f) = true ↔ ∀ x ∈ l, flat (f x) = true := by simp [flatL_iff]
@[simp] theorem withinL_replicate {ids : List Nat} {n : Nat} {x : AV} : withinL ids (List.replicate n x) = true ↔ (n = 0 ∨ within ids x = true) := by
 cases n with
 | zero => simp
 | succ n => simp [withinL_iff]
@[simp] theorem norefL_replicate {n : Nat} {x : AV} : norefL (List.replicate n x) = true ↔ (n = 0 ∨ noref x = true) := by
 cases n with
 | zero => simp
 | succ n => simp [norefL_iff]
theorem all_set {p : AV → Bool} {l : List AV} {i : Nat} {x : AV} : (∀ y ∈ l.set i x, p y = true) ↔ (∀ k (h : k < l.length), k ≠ i → p l[k] = true) ∧ (i < l.length → p x = true) := by
 constructor
 ·intro h
  refine ⟨fun k hk hne => ?_, fun hi => h x ?_⟩
  ·refine h _ (List.mem_iff_getElem.mpr ⟨k, by simpa using hk, ?_⟩)
   rw [List.getElem_set_ne (fun e => hne e.symm)]
  ·exact List.mem_iff_getElem.mpr ⟨i, by simpa using hi, by simp⟩
 ·intro ⟨h1, h2⟩ y hy
  obtain ⟨k, hk, e⟩ := List.mem_iff_getElem.mp hy
  have hk' : k < l.length := by simpa using hk
  by_cases hki : k = i
  ·subst hki; simp at e; rw [← e]; exact h2 hk'
  ·rw [List.getElem_set_ne (fun e => hki e.symm)] at e; rw [← e]; exact h1 k hk' hki
@[simp] theorem withinL_set {ids : List Nat} {l : List AV} {i : Nat} {x : AV} : withinL ids (l.set i x) = true ↔ (∀ k (h : k < l.length), k ≠ i → within ids l[k] = true) ∧ (i < l.length → within ids x = true) := by
 rw [withinL_iff]; exact all_set
@[simp] theorem norefL_set {l : List AV} {i : Nat} {x : AV} : norefL (l.set i x) = true ↔ (∀ k (h : k < l.length), k ≠ i → noref l[k] = true) ∧ (i < l.length → noref x = true) := by
 rw [norefL_iff]; exact all_set
@[simp] theorem withinL_append {ids : List Nat} {l r : List AV} : withinL ids (l ++ r) = true ↔ withinL ids l = true ∧ withinL ids r = true := by
 simp only [withinL_iff, List.mem_append]
 exact ⟨fun h => ⟨fun x hx => h x (.inl hx), fun x hx => h x (.inr hx)⟩, fun h x hx => hx.elim (h.1 x) (h.2 x)⟩
@[simp] theorem norefL_append {l r : List AV} : norefL (l ++ r) = true ↔ norefL l = true ∧ norefL r = true := by
 simp only [norefL_iff, List.mem_append]
 exact ⟨fun h => ⟨fun x hx => h x (.inl hx), fun x hx => h x (.inr hx)⟩, fun h x hx => hx.elim (h.1 x) (h.2 x)⟩
@[simp] theorem splice_set (l : List AV) (i : Nat) (x : AV) (h : i < l.length) : l.take i ++ x :: l.drop (i + 1) = l.set i x := by
 rw [List.set_eq_take_append_cons_drop, if_pos h]
theorem chunk_one {α : Type} (l : List α) : chunk 1 l.length l = l.map fun x => [x] := by
 unfold chunk
 apply List.ext_getElem
 ·simp
 ·intro i h1 h2
  simp only [List.length_map, List.length_range] at h1
  simp [List.take_one, List.head?_drop, List.getElem?_eq_getElem h1]
theorem RsvL.map {α : Type} {g : Nat → Option Blk} {f : α → AV} {l : List α} (h : ∀ x ∈ l, noref (f x) = true) : RsvL g (l.map f) (l.map f) := .closed (by simpa using h)
/-- a slice of the function's own, handed back -/
theorem Rsv.vec1 {g : Nat → Option Blk} {b n : Nat} {e : TypeId} {cs : List AV} (h : g b = some (.cells e cs)) (hn : norefL cs = true) (hl : cs.length = n) : Rsv g (.vec b 1 0 n n) (.rd 1 (cs.map fun x => [x])) := by
 subst hl
 have := Rsv.vec (w := 1) (off := 0) (n := cs.length) (cap := cs.length) h (RsvL.closed hn) (by simp) (Nat.le_refl _)
 rwa [List.drop_zero, chunk_one] at this
@[simp] theorem wkL_replicate {n : Nat} {x y : AV} : wkL (List.replicate n x) (List.replicate n y) ↔ n = 0 ∨ x = y ∨ weakP x y := by
 induction n with
 | zero => simp [wkL]
 | succ n ih =>
  simp only [List.replicate_succ, wkL, ih]
  constructor
  ·rintro ⟨h, _⟩; exact .inr h
  ·rintro (h | h)
   ·omega
   ·exact ⟨h, .inr (.inr h)⟩
end Go.Aw
end
section
namespace Go.Aw
variable [GL]
mutual
inductive Wk : AV → AV → Prop
 | refl (x : AV) : Wk x x
 | unk (x : AV) : Wk x .unk
 | nil (w : Nat) : Wk (.val (.slice none 0 0)) (.rd w [])
 | rd {w : Nat} {rows rows' : List (List AV)} : WkR rows rows' → Wk (.rd w rows) (.rd w rows')
 | own {e : TypeId} {w : Nat} {rows rows' : List (List AV)} : WkR rows rows' → Wk (.own e w rows) (.rd w rows')
 | fx {w : Nat} {rows rows' : List (List AV)} : WkR rows rows' → Wk (.fx w rows) (.rd w rows')
 | agg {l l' : List AV} : WkL l l' → Wk (.agg l) (.agg l')
 | tup {l l' : List AV} : WkL l l' → Wk (.tup l) (.tup l')
 | rmap {ks : List Value} {l l' : List AV} : WkL l l' → Wk (.rmap ks l) (.rmap ks l')
 | kset {ks ks' : List Value} {l : List AV} {u : Value → Value} : l = ks.map (fun k => AV.val (u k)) → (∀ k, k ∈ ks ↔ k ∈ ks') → Wk (.rmap ks l) (.kset ks' u)
inductive WkL : List AV → List AV → Prop
 | nil : WkL [] []
 | cons {x y : AV} {l l' : List AV} : Wk x y → WkL l l' → WkL (x :: l) (y :: l')
inductive WkR : List (List AV) → List (List AV) → Prop
 | nil : WkR [] []
 | cons {x y : List AV} {l l' : List (List AV)} : WkL x y → WkR l l' → WkR (x :: l) (y :: l')
end
theorem WkL.length : ∀ {l l' : List AV}, WkL l l' → l'.length = l.length
 | _, _, .nil => rfl
 | _, _, .cons _ h => by simp [WkL.length h]
theorem WkR.length : ∀ {l l' : List (List AV)}, WkR l l' → l'.length = l.length
 | _, _, .nil => rfl
 | _, _, .cons _ h => by simp [WkR.length h]
theorem WkR.eqnil {l' : List (List AV)} : WkR [] l' → l' = [] := fun h => by cases h; rfl
mutual
theorem Wk.holds {fz : Fz} : ∀ {x y : AV}, Wk x y → ∀ ρ v, Holds fz x ρ v → Holds fz y ρ v
 | _, _, .refl x, _, _, h => h
 | _, _, .unk x, _, _, _ => by simp only [Holds]
 | _, _, .nil w, _, _, h => by
  simp only [Holds] at h ⊢; exact ⟨none, 0, h, Nat.le_refl _, .inl (by simp)⟩
 | _, _, .rd hr, _, _, h => by
  simp only [Holds] at h ⊢; obtain ⟨a, c, e, l, h⟩ := h
  refine ⟨a, c, by rw [hr.length]; exact e, by rw [hr.length]; exact l, h.imp (fun h => ?_) fun ⟨b, o, e, h⟩ => ⟨b, o, e, WkR.holds hr _ _ _ h⟩⟩
  subst h; exact hr.eqnil
 | _, _, .own hr, _, _, h => by
  simp only [Holds] at h ⊢; obtain ⟨a, c, e, l, h⟩ := h
  refine ⟨a, c, by rw [hr.length]; exact e, by rw [hr.length]; exact l, h.imp (fun h => ?_) fun ⟨b, o, e, h⟩ => ⟨b, o, e, WkR.holds hr _ _ _ h⟩⟩
  subst h; exact hr.eqnil
 | _, _, .fx hr, _, _, h => by
  simp only [Holds] at h ⊢; obtain ⟨a, e, h⟩ := h
  refine ⟨a, _, by rw [hr.length]; exact e, by rw [hr.length]; exact Nat.le_refl _, h.imp (fun h => ?_) fun ⟨b, o, e, h⟩ => ⟨b, o, e, WkR.holds hr _ _ _ h⟩⟩
  subst h; exact hr.eqnil
 | _, _, .agg hl, _, _, h => by
  simp only [Holds] at h ⊢; obtain ⟨cs, e, h⟩ := h; exact ⟨cs, e, WkL.holds hl _ _ h⟩
 | _, _, .tup hl, _, _, h => by
  simp only [Holds] at h ⊢; obtain ⟨cs, e, h⟩ := h; exact ⟨cs, e, WkL.holds hl _ _ h⟩
 | _, _, .rmap hl, _, _, h => by
  simp only [Holds] at h ⊢
  rcases h with ⟨e, h1, h2⟩ | ⟨c, es, clock, e, ho, h1, h2⟩
  ·subst h2; cases hl; exact .inl ⟨e, h1, rfl⟩
  ·exact .inr ⟨c, es, clock, e, ho, h1, WkL.holds hl _ _ h2⟩
 | _, _, .kset (ks := ks) (ks' := ks') (u := u) hl hk, _, _, h => by
  subst hl
  simp only [Holds] at h ⊢
  rcases h with ⟨e, h1, _⟩ | ⟨c, es, clock, e, ho, h1, h2⟩
  ·subst h1
   exact .inl ⟨e, List.eq_nil_iff_forall_not_mem.2 fun a ha => by have := (hk a).2 ha; cases this⟩
  ·refine .inr ⟨c, es, clock, e, ho, fun e' he' => ⟨?_, (hk _).1 (by rw [← h1]; exact List.mem_map.2 ⟨e', he', rfl⟩)⟩, fun k hk' => ?_⟩
   ·obtain ⟨i, hi⟩ := List.mem_iff_getElem?.1 he'
    have hkl : ks.length = es.size := by rw [← h1]; simp
    have hil : i < es.size := by have := (List.getElem?_eq_some_iff.1 hi).1; simpa using this
    have hki : ks[i]? = some e'.key := by rw [← h1, List.getElem?_map, hi]; rfl
    obtain ⟨v, hv, hh⟩ := h2.get _ _ _ i (.val (u e'.key)) (by rw [List.getElem?_map, hki]; rfl)
    rw [List.getElem?_map, hi] at hv
    simp only [Option.map_some, Option.some.injEq] at hv
    simp only [Holds] at hh
    rw [hv, hh]
   ·have := (hk k).2 hk'
    rw [← h1] at this
    obtain ⟨e', he', rfl⟩ := List.mem_map.1 this
    exact ⟨e', he', rfl⟩
theorem WkL.holds {fz : Fz} : ∀ {l l' : List AV}, WkL l l' → ∀ ρ vs, HoldsL fz l ρ vs → HoldsL fz l' ρ vs
 | _, _, .nil, _, _, h => h
 | _, _, .cons hx hl, _, _, h => by
  simp only [HoldsL] at h ⊢; obtain ⟨v, r, e, h1, h2⟩ := h; exact ⟨v, r, e, Wk.holds hx _ _ h1, WkL.holds hl _ _ h2⟩
theorem WkC.holds {fz : Fz} : ∀ {l l' : List AV}, WkL l l' → ∀ b o, HoldsC fz l b o → HoldsC fz l' b o
 | _, _, .nil, _, _, h => h
 | _, _, .cons hx hl, _, _, h => by
  simp only [HoldsC] at h ⊢; obtain ⟨⟨u, e, o1, h1⟩, h2⟩ := h; exact ⟨⟨u, e, o1, Wk.holds hx _ _ h1⟩, WkC.holds hl _ _ h2⟩
theorem WkR.holds {fz : Fz} : ∀ {l l' : List (List AV)}, WkR l l' → ∀ w b o, HoldsR fz l w b o → HoldsR fz l' w b o
 | _, _, .nil, _, _, _, h => h
 | _, _, .cons hx hl, _, _, _, h => by
  simp only [HoldsR] at h ⊢; obtain ⟨e, h1, h2⟩ := h; exact ⟨by rw [hx.length]; exact e, WkC.holds hx _ _ h1, WkR.holds hl _ _ _ h2⟩
end
theorem Con.weak {P : Program} {f : FuncId} {ts ts' : List AV} {r r' : AV} (h : Con P f ts r) (ha : WkL ts' ts) (hr : Wk r r') (ho : isOwn r' = false) : Con P f ts' r' := by
 refine ⟨h.1, fun fz w vs hF hG hvs => (h.2 fz w vs hF hG (ha.holds _ _ hvs)).mono fun e w' ⟨v, fz', he, h1, h2, h3, h4, h5, _⟩ => ⟨v, fz', he, h1, h2, h3, h4, hr.holds _ _ h5, fun el wd rows hr => ?_⟩⟩
 subst hr; simp [isOwn] at ho
theorem Con.args {P : Program} {f : FuncId} {ts ts' : List AV} {r : AV} (h : Con P f ts r) (ha : WkL ts' ts) : Con P f ts' r :=
 ⟨h.1, fun fz w vs hF hG hvs => h.2 fz w vs hF hG (ha.holds _ _ hvs)⟩
theorem WkL.refl : ∀ (l : List AV), WkL l l
 | [] => .nil
 | x :: l => .cons (.refl x) (WkL.refl l)
theorem Con.res {P : Program} {f : FuncId} {ts : List AV} {r r' : AV} (h : Con P f ts r) (hr : Wk r r') (ho : isOwn r' = false) : Con P f ts r' := h.weak (.refl _) hr ho
theorem WkR.map {α : Type} {f g : α → List AV} : ∀ {l : List α}, (∀ x ∈ l, WkL (f x) (g x)) → WkR (l.map f) (l.map g)
 | [], _ => .nil
 | x :: l, h => .cons (h x (by simp)) (WkR.map fun y hy => h y (by simp [hy]))
theorem WkL.map {α : Type} {f g : α → AV} : ∀ {l : List α}, (∀ x ∈ l, Wk (f x) (g x)) → WkL (l.map f) (l.map g)
 | [], _ => .nil
 | x :: l, h => .cons (h x (by simp)) (WkL.map fun y hy => h y (by simp [hy]))
/-- a call whose arguments are more than the contract asks for -/
theorem callWk {g : Nat → Option Blk} {P : Program} {fn : FuncId} {vs ts : List AV} {r : AV} (hn : norefL vs = true) (ha : WkL vs ts) (h : Con P fn ts r) : ∃ ts, RsvL g vs ts ∧ Con P fn ts r := ⟨vs, .closed hn, h.args ha⟩
end Go.Aw
end
