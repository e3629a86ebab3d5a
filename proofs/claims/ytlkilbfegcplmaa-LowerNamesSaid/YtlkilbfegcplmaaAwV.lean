/- Regions, evaluated: what is to be shown, one behind the other. -/
import Derived.Test.YtlkilbfegcplmaaAwU
set_option linter.unusedSimpArgs false
set_option linter.unusedVariables false
namespace Go.Aw
variable {P : Program} {C : Ctx} {ops : Array Oper}

def runK (P : Program) : List ROp → List Res → AS → (AS → Prop) → Prop
  | [], _, s, K => K s
  | r :: L, c :: R, s, K => match effG P c r s.view with
    | some e => e.ob ∧ runK P L R (s.app r.dst e) K
    | none => False
  | _ :: _, [], _, _ => False
theorem runK_runA : ∀ (L : List ROp) (R : List Res) (s : AS) (K : AS → Prop), runK P L R s K → ∃ s' ob, runA P L R s = some (s', ob) ∧ ob ∧ K s'
  | [], R, s, K, h => ⟨s, True, rfl, trivial, h⟩
  | r :: L, [], s, K, h => h.elim
  | r :: L, c :: R, s, K, h => by
    simp only [runK] at h
    split at h
    · rename_i e he
      obtain ⟨s', ob, h1, h2, h3⟩ := runK_runA L R _ K h.2
      exact ⟨s', e.ob ∧ ob, by simp only [runA, he, h1], ⟨h.1, h2⟩, h3⟩
    · exact h.elim
theorem AWp.reg {id : Nat} {Q : Exit → AS → Prop} {s : AS} (tks : List Bool) (L : List ROp) (R : List Res) (hops : trOps P ops tks ops.toList = some L) (hok : okAll C.N L = true)
    (h : ∀ K : AS → Prop, (∀ s', Q .normal s' → K s') → runK P L (alignR L R) s K) : AWp P C (.region id ops false) Q s := by
  obtain ⟨s', ob, h1, h2, h3⟩ := runK_runA L _ s _ (h (Q .normal) (fun _ h => h))
  exact AWp.region R hops hok h1 h2 h3
theorem AWp.regD {id : Nat} {Q : Exit → AS → Prop} {s : AS} (hm : P.follows .mixedOrders = true) (tks : List Bool) (L : List ROp) (R : List Res) (hops : trOps P ops tks ops.toList = some L) (hok : okAll C.N L = true) (hback : backP L 0 = true)
    (h : ∀ K : AS → Prop, (∀ s', Q .normal s' → K s') → runK P L (alignR L R) s K) (hfree : freeP (reachL L []) (infosA P L (alignR L R) s) 0 = true) : AWp P C (.region id ops true) Q s := by
  obtain ⟨s', ob, h1, h2, h3⟩ := runK_runA L _ s _ (h (Q .normal) (fun _ h => h))
  exact AWp.regionD hm R hops hok hback hfree h1 h2 h3

/-- ways that meet again: what stands behind is walked once, from the states st y -/
theorem AWp.seqJ {x rest : Code} {Q : Exit → AS → Prop} {s : AS} {Y : Type} (st : Y → AS) (J : Y → Prop) (h2 : ∀ y, J y → AWp P C rest Q (st y)) (h1 : (∀ s y, J y → (st y).le s → thenQ P C rest Q .normal s) → AWp P C x (thenQ P C rest Q) s) : AWp P C (.seq x rest) Q s :=
  AWp.seq (h1 fun _ y hy hle => (h2 y hy).forget hle)
/-- a loop whose heads are the states st x -/
theorem AWp.loopG {c : Code} {Q : Exit → AS → Prop} {s : AS} {X : Type} (st : X → AS) (I : X → Prop) (μ : X → Nat) (x0 : X) (h0 : I x0) (hs0 : (st x0).le s)
    (round : ∀ x, I x → AWp P C c (fun e s' => match e with | .normal => ∃ x', I x' ∧ μ x' < μ x ∧ (st x').le s' | e => Q e s') (st x)) : AWp P C (.loop c) Q s := by
  intro a w hs b k cs
  have key : ∀ n x a w, μ x = n → I x → Sim C (st x).view a w →
      ∃ e a' w', (∃ s' : AS, Sim C s'.view a' w' ∧ Q e s') ∧ Arrives P (lone (b.at a (.code c :: .inLoop c :: k)) cs w) b k cs e a' w' := by
    intro n
    induction n using Nat.strongRecOn with
    | _ n ih =>
      intro x a w hn hI hs
      obtain ⟨e, a₁, w₁, ⟨s1, hs1, hq⟩, harr⟩ := round x hI a w hs b (.inLoop c :: k) cs
      cases e with
      | normal =>
        obtain ⟨x', hI₁, hlt, hle⟩ := hq
        obtain ⟨e₂, a₂, w₂, hq₂, harr₂⟩ := ih (μ x') (hn ▸ hlt) x' a₁ w₁ rfl hI₁ (hs1.forget hle)
        exact ⟨e₂, a₂, w₂, hq₂, .of_steps (Steps.trans harr (.one step_inLoop)) harr₂⟩
      | exit id => exact ⟨_, a₁, w₁, ⟨s1, hs1, hq⟩, .pass (x := .inLoop c) rfl (fun _ _ => .inl (by simp)) harr⟩
      | goto l => exact ⟨_, a₁, w₁, ⟨s1, hs1, hq⟩, .pass (x := .inLoop c) rfl (fun _ _ => .inl (by simp)) harr⟩
      | ret => exact ⟨_, a₁, w₁, ⟨s1, hs1, hq⟩, .pass (x := .inLoop c) rfl (fun _ _ => .inl (by simp)) harr⟩
      | panic ch => exact ⟨_, a₁, w₁, ⟨s1, hs1, hq⟩, .pass (x := .inLoop c) rfl (fun _ _ => .inl (by simp)) harr⟩
      | outgrown => exact ⟨_, a₁, w₁, ⟨s1, hs1, hq⟩, .pass (x := .inLoop c) rfl (fun _ _ => .inl (by simp)) harr⟩
  obtain ⟨e, a', w', hq, harr⟩ := key _ x0 a w rfl h0 (hs.forget hs0)
  exact ⟨e, a', w', hq, .of_steps (.one step_loop) harr⟩

theorem RsvL.closed {g : Nat → Option Blk} : ∀ {l : List AV}, norefL l = true → RsvL g l l
  | [], _ => .nil
  | x :: l, h => by
    simp only [norefL, Bool.and_eq_true] at h
    exact .cons (.closed h.1) (RsvL.closed h.2)
/-- what a call asks for, where its arguments name no block -/
theorem callOK {g : Nat → Option Blk} {P : Program} {fn : FuncId} {vs : List AV} {r : AV} (hn : norefL vs = true) (h : Con P fn vs r) : ∃ ts, RsvL g vs ts ∧ Con P fn ts r := ⟨vs, .closed hn, h⟩
attribute [simp] Nat.add_one_le_iff wk1_refl wk2_refl
attribute [simp low] wk1_some wk2_cells wk2_map wk2_mapd wk2_mapw
attribute [simp] AS.le withinTm withinHp weakP wkL within withinL Blk.within resultsA resultA oneOf
attribute [simp] Skipped runK alignR AOp.isCall AS.start zipFrom dem effG effOf AOp.opds act aBox touched AS.view lk View.ev View.filt cellsOf oneA aNew AS.app AS.putO AS.put ins AS.setBO AS.setBs AS.setB AS.demP aCopy
  aBuild fillA splice aBslice aBslice0 pickA aLoad aStore aStore0 tmpOf aBin binA aEqg aEqb eqA eqV aUn aConv aMksl bnd takeO dropO aSub aSubs aFad aFld aIad aIdxs lkp1 aLkp aMupd oneOrAgg aExt aLen aApp aDel aCall aMkmap aPick aMm aIsnil growA moreA isFx rowsOf
  idOf srcPl Blk.set Blk.at cmpInt binI callee noref norefL flat flatL kindV infosA infoOf chunk
@[simp] theorem oc_int (k : IntKind) (n : Int) : (Value.int k n).oneCell' = true := rfl
@[simp] theorem oc_bool (b : Bool) : (Value.bool b).oneCell' = true := rfl
@[simp] theorem oc_string (s : ByteArray) : (Value.string s).oneCell' = true := rfl
@[simp] theorem oc_slice (a : Option Addr) (n c : Nat) : (Value.slice a n c).oneCell' = true := rfl
@[simp] theorem oc_pointer (a : Option Addr) : (Value.pointer a).oneCell' = true := rfl
@[simp] theorem oc_map (a : Option Nat) : (Value.map a).oneCell' = true := rfl
@[simp] theorem oc_func (f : Fn) (a b : Array Value) : (Value.func f a b).oneCell' = true := rfl
@[simp] theorem oc_nilFunc : Value.nilFunc.oneCell' = true := rfl
@[simp] theorem oc_nilIface : Value.nilIface.oneCell' = true := rfl
end Go.Aw
