/- States as lists; regions run by a function; the rules for code. -/
import Derived.Test.YtdobngcdgkallaaGreatDoorAwS
set_option linter.unusedSimpArgs false
set_option linter.unusedVariables false
set_option linter.unusedSectionVars false
namespace Go.Aw
variable [GL]
variable {P : Program} {C : Ctx} {a : Act} {w : World} {ops : Array Oper}

def ins {α : Type} (k : Nat) (x : α) : List (Nat × α) → List (Nat × α)
 | [] => [(k, x)]
 | (j, y) :: l => if j = k then (k, x) :: l else (j, y) :: ins k x l
theorem lk_ins {α : Type} (k : Nat) (x : α) (j : Nat) : ∀ l : List (Nat × α), lk (ins k x l) j = if j = k then some x else lk l j
 | [] => by
  simp only [ins, lk]
  by_cases h : k = j
  ·subst h; simp
  ·have : ¬ j = k := fun e => h e.symm
   simp [h, this]
 | (i, y) :: l => by
  simp only [ins]
  by_cases hik : i = k
  ·subst hik
   simp only [if_true, lk]
   by_cases h : i = j
   ·subst h; simp
   ·have : ¬ j = i := fun e => h e.symm
    simp [h, this]
  ·simp only [hik, if_false, lk, lk_ins k x j l]
   by_cases h : i = j
   ·subst h; simp [hik]
   ·simp [h]

structure AS where
 tm : List (Nat × AV)
 hp : List (Nat × Blk)
def AS.view (s : AS) : View := { tm := fun t => (lk s.tm t).getD .unk, hp := fun b => lk s.hp b }
def AS.put (s : AS) (t : Nat) (x : AV) : AS := { s with tm := ins t x s.tm }
def AS.setB (s : AS) (b : Nat) (k : Blk) : AS := { s with hp := ins b k s.hp }
def AS.demP (s : AS) : Option Pl → AS
 | none => s
 | some (.t t) => match lk s.tm t with
  | some v => s.put t (dem v)
  | none => s
 | some (.c b j) => match lk s.hp b with
  | some k => s.setB b (k.set j (dem (k.at j)))
  | none => s
def AS.setBO (s : AS) : Option (Nat × Blk) → AS
 | none => s
 | some (b, k) => s.setB b k
def AS.putO (s : AS) : Option Nat → AV → AS
 | none, _ => s
 | some d, x => s.put d x
def AS.setBs (s : AS) : List (Nat × Blk) → AS
 | [] => s
 | (b, k) :: r => (s.setBs r).setB b k
def AS.app (s : AS) (d : Option Nat) (e : Eff) : AS := (((s.demP e.dem).setBO e.blk).setBs e.bs).putO d e.out

theorem view_put (s : AS) (t : Nat) (x : AV) : (s.put t x).view = s.view.put t x := by
 refine View.ext (fun u => ?_) (fun b => rfl)
 simp only [AS.view, AS.put, View.put, lk_ins]
 split <;> rfl
theorem view_setB (s : AS) (b : Nat) (k : Blk) : (s.setB b k).view = s.view.setB b k := by
 refine View.ext (fun u => rfl) (fun c => ?_)
 simp only [AS.view, AS.setB, View.setB, lk_ins]
theorem view_demP (s : AS) (p : Option Pl) : (s.demP p).view = s.view.demP p := by
 cases p with
 | none => rfl
 | some p =>
  cases p with
  | t t =>
   simp only [AS.demP, View.demP, View.setAt, View.at]
   cases h : lk s.tm t with
   | some v => simp only [view_put]; congr 1; simp [AS.view, h]
   | none =>
    refine View.ext (fun u => ?_) (fun b => rfl)
    simp only [View.put, AS.view]
    split
    ·rename_i e; subst e; simp [h, Aw.dem]
    ·rfl
  | c b j =>
   simp only [AS.demP, View.demP, View.setAt]
   cases h : lk s.hp b with
   | some k =>
    have : s.view.hp b = some k := h
    simp only [this, view_setB, View.at, Option.map_some, Option.getD_some]
   | none =>
    have : s.view.hp b = none := h
    simp only [this]
theorem view_app (s : AS) (d : Option Nat) (e : Eff) : (s.app d e).view = s.view.app d e := by
 simp only [AS.app, View.app]
 have h1 : ∀ s : AS, (s.setBO e.blk).view = s.view.setBO e.blk := by
  intro s; cases e.blk with
  | none => rfl
  | some bk => obtain ⟨b, k⟩ := bk; exact view_setB s b k
 have h2 : ∀ (s : AS) (l : List (Nat × Blk)), (s.setBs l).view = s.view.setBs l := by
  intro s l
  induction l with
  | nil => rfl
  | cons x l ih => obtain ⟨b, k⟩ := x; simp only [AS.setBs, View.setBs, view_setB, ih]
 cases d with
 | none => simp only [AS.putO, View.putO, h2, h1, view_demP]
 | some d => simp only [AS.putO, View.putO, view_put, h2, h1, view_demP]

def AOp.isCall : AOp → Bool
 | .call _ _ => true
 | _ => false
/-- the results of the calls, one for each operation -/
def alignR : List ROp → List Res → List Res
 | [], _ => []
 | r :: L, R => if r.op.isCall then R.headD {} :: alignR L R.tail else {} :: alignR L R
/-- a region, in the order of its text: the state behind it, and what is to be shown -/
def runA (P : Program) : List ROp → List Res → AS → Option (AS × Prop)
 | [], _, s => some (s, True)
 | r :: L, c :: R, s => match effG P c r s.view with
  | some e => match runA P L R (s.app r.dst e) with
   | some (s', ob) => some (s', e.ob ∧ ob)
   | none => none
  | none => none
 | _ :: _, [], _ => none
def infosA (P : Program) : List ROp → List Res → AS → List Info
 | r :: L, c :: R, s => match effG P c r s.view with
  | some e => infoOf c r e s.view :: infosA P L R (s.app r.dst e)
  | none => []
 | _, _, _ => []
def okAll (N : Nat) (L : List ROp) : Bool := L.all fun r => okDst N r.dst r.op

theorem Vsel_shift : ∀ (L : List ROp) (E : List Eff) (sel : Nat → Bool) (k : Nat) (V : View), Vsel L E sel (k + 1) V = Vsel L E (fun j => sel (j + 1)) k V
 | [], _, _, _, _ => by simp [Vsel]
 | _ :: _, [], _, _, _ => by simp [Vsel]
 | r :: L, e :: E, sel, k, V => by
  simp only [Vsel]
  rw [Vsel_shift L E sel (k + 1)]

theorem runA_spec {N : Nat} : ∀ (L : List ROp) (R : List Res) (s s' : AS) (ob : Prop), runA P L R s = some (s', ob) → ob → okAll N L = true → ∃ E, Ran P N L R s.view E ∧ Vsel L E (fun _ => true) 0 s.view = s'.view ∧
  (infosA P L R s).length = L.length ∧ ∀ (i : Nat) (r : ROp) (e : Eff), L[i]? = some r → E[i]? = some e → (infosA P L R s)[i]? = some (infoOf (R.getD i {}) r e (Vsel L E (fun k => decide (k < i)) 0 s.view))
 | [], R, s, s', ob, h, _, _ => by
  simp only [runA, Option.some.injEq, Prod.mk.injEq] at h
  obtain ⟨rfl, _⟩ := h
  exact ⟨[], ⟨rfl, by simp, by simp⟩, rfl, rfl, by simp⟩
 | _ :: _, [], s, s', ob, h, _, _ => by simp [runA] at h
 | r :: L, c :: R, s, s', ob, h, hob, hok => by
  simp only [runA] at h
  split at h
  ·rename_i e he
   split at h
   ·rename_i s2 ob2 h2
    cases h
    simp only [okAll, List.all_cons, Bool.and_eq_true] at hok
    obtain ⟨E, hR, hV, hl, hI⟩ := runA_spec L R _ _ _ h2 hob.2 hok.2
    rw [view_app] at hR hV
    have hinf : infosA P (r :: L) (c :: R) s = infoOf c r e s.view :: infosA P L R (s.app r.dst e) := by simp only [infosA, he]
    have hsh : ∀ i, Vsel (r :: L) (e :: E) (fun k => decide (k < i + 1)) 0 s.view = Vsel L E (fun k => decide (k < i)) 0 (s.view.app r.dst e) := by
     intro i
     simp only [Vsel]
     rw [if_pos (by simp), Vsel_shift]
     congr 1
     funext j
     simp
    refine ⟨e :: E, ⟨by simp [hR.len], fun i r' e' hr he' => ?_, fun r' hr' => ?_⟩, ?_, by rw [hinf]; simp [hl], fun i r' e' hr he' => ?_⟩
    ·cases i with
     | zero =>
      simp at hr he'; subst hr; subst he'
      rw [Vsel_none _ _ _ _ _ (by simp)]
      exact ⟨by simpa using he, hob.1⟩
     | succ i =>
      rw [hsh]
      simpa using hR.eff i r' e' (by simpa using hr) (by simpa using he')
    ·cases List.mem_cons.1 hr' with
     | inl h => subst h; exact hok.1
     | inr h => exact hR.ok r' h
    ·simp only [Vsel, if_true]
     rw [Vsel_shift]; exact hV
    ·rw [hinf]
     cases i with
     | zero =>
      simp at hr he'; subst hr; subst he'
      rw [Vsel_none _ _ _ _ _ (by simp)]
      simp
     | succ i =>
      rw [hsh]
      have := hI i r' e' (by simpa using hr) (by simpa using he')
      rw [view_app] at this
      simpa using this
   ·cases h
  ·cases h

def chkRest (reach : List (List Nat)) (i : Nat) (x : Info) : List Info → Nat → Bool
 | [], _ => true
 | y :: ys, j => ((reach.getD j []).contains i || indep x y) && chkRest reach i x ys (j + 1)
def freeP (reach : List (List Nat)) : List Info → Nat → Bool
 | [], _ => true
 | x :: xs, i => chkRest reach i x xs (i + 1) && freeP reach xs (i + 1)
def backP : List ROp → Nat → Bool
 | [], _ => true
 | r :: L, i => r.after.all (fun e => decide (e < i)) && backP L (i + 1)
theorem backP_spec : ∀ (L : List ROp) (k : Nat), backP L k = true → ∀ (i : Nat) (r : ROp), L[i]? = some r → ∀ e ∈ r.after, e < k + i
 | [], _, _, i, r, h => by simp at h
 | r0 :: L, k, hb, i, r, h => by
  simp only [backP, Bool.and_eq_true] at hb
  cases i with
  | zero => simp at h; subst h; intro e he; simpa using List.all_eq_true.1 hb.1 e he
  | succ i =>
   intro e he
   have := backP_spec L (k + 1) hb.2 i r (by simpa using h) e he
   omega
theorem chkRest_spec {reach : List (List Nat)} {i : Nat} {x : Info} : ∀ (l : List Info) (j : Nat), chkRest reach i x l j = true → ∀ (m : Nat) (y : Info), l[m]? = some y → i ∈ reach.getD (j + m) [] ∨ indep x y = true
 | [], _, _, m, y, h => by simp at h
 | z :: l, j, hc, m, y, h => by
  simp only [chkRest, Bool.and_eq_true, Bool.or_eq_true] at hc
  cases m with
  | zero => simp at h; subst h; exact hc.1.imp (fun h => by simpa using h) id
  | succ m =>
   have := chkRest_spec l (j + 1) hc.2 m y (by simpa using h)
   rwa [show j + 1 + m = j + (m + 1) from by omega] at this
theorem freeP_spec {reach : List (List Nat)} : ∀ (l : List Info) (k : Nat), freeP reach l k = true → ∀ (i j : Nat) (x y : Info), i < j → l[i]? = some x → l[j]? = some y → k + i ∈ reach.getD (k + j) [] ∨ indep x y = true
 | [], _, _, i, j, x, y, _, h, _ => by simp at h
 | z :: l, k, hf, i, j, x, y, hij, hx, hy => by
  simp only [freeP, Bool.and_eq_true] at hf
  cases i with
  | zero =>
   simp at hx; subst hx
   obtain ⟨j', rfl⟩ : ∃ j', j = j' + 1 := ⟨j - 1, by omega⟩
   have := chkRest_spec l (k + 1) hf.1 j' y (by simpa using hy)
   rwa [show k + 1 + j' = k + (j' + 1) from by omega] at this
  | succ i =>
   obtain ⟨j', rfl⟩ : ∃ j', j = j' + 1 := ⟨j - 1, by omega⟩
   have := freeP_spec l (k + 1) hf.2 i j' x y (by omega) (by simpa using hx) (by simpa using hy)
   rwa [show k + 1 + i = k + (i + 1) from by omega, show k + 1 + j' = k + (j' + 1) from by omega] at this

/-- the code, from the state s, ends so that Q -/
def AWp (P : Program) (C : Ctx) (c : Code) (Q : Exit → AS → Prop) (s : AS) : Prop :=
 ∀ (a : Act) (w : World), Sim C s.view a w → c.wp P (fun e a' w' => ∃ s' : AS, Sim C s'.view a' w' ∧ Q e s') a w

theorem AWp.mono {c : Code} {Q Q' : Exit → AS → Prop} {s : AS} (h : AWp P C c Q s) (hq : ∀ e s, Q e s → Q' e s) : AWp P C c Q' s :=
 fun a w hs => wp_mono (h a w hs) fun _ _ _ ⟨s', h1, h2⟩ => ⟨s', h1, hq _ _ h2⟩
def thenQ (P : Program) (C : Ctx) (y : Code) (Q : Exit → AS → Prop) : Exit → AS → Prop
 | .normal, s => AWp P C y Q s
 | e, s => Q e s
theorem AWp.seq {x y : Code} {Q : Exit → AS → Prop} {s : AS} (h : AWp P C x (thenQ P C y Q) s) : AWp P C (.seq x y) Q s := by
 intro a w hs
 refine wp_seq (wp_mono (h a w hs) fun e a' w' ⟨s', h1, h2⟩ => ?_)
 cases e with
 | normal => exact h2 a' w' h1
 | _ => exact ⟨s', h1, h2⟩
theorem AWp.skip {Q : Exit → AS → Prop} {s : AS} (h : Q .normal s) : AWp P C .skip Q s := fun _ _ hs => wp_skip ⟨s, hs, h⟩
theorem AWp.ret {Q : Exit → AS → Prop} {s : AS} (h : Q .ret s) : AWp P C .ret Q s := fun _ _ hs => wp_ret ⟨s, hs, h⟩
theorem AWp.exit {id : Nat} {Q : Exit → AS → Prop} {s : AS} (h : Q (.exit id) s) : AWp P C (.exit id) Q s := fun _ _ hs => wp_exit ⟨s, hs, h⟩
def blockQ (id : Nat) (Q : Exit → AS → Prop) : Exit → AS → Prop
 | .exit id', s => if id' = id then Q .normal s else Q (.exit id') s
 | e, s => Q e s
theorem AWp.block {id : Nat} {c : Code} {Q : Exit → AS → Prop} {s : AS} (h : AWp P C c (blockQ id Q) s) : AWp P C (.block id c) Q s := by
 intro a w hs
 refine wp_block (wp_mono (h a w hs) fun e a' w' ⟨s', h1, h2⟩ => ?_)
 cases e with
 | exit id' =>
  simp only [Exit.inBlock, blockQ] at h2 ⊢
  split
  ·rename_i e; rw [if_pos e] at h2; exact ⟨s', h1, h2⟩
  ·rename_i e; rw [if_neg e] at h2; exact ⟨s', h1, h2⟩
 | _ => exact ⟨s', h1, h2⟩
theorem AWp.cond {x : Operand} {c d : Code} {Q : Exit → AS → Prop} {s : AS} (b : Bool) (hx : s.view.ev x = .val (.bool b)) (ht : b = true → AWp P C c Q s) (hf : b = false → AWp P C d Q s) : AWp P C (.cond x c d) Q s := by
 intro a w hs
 obtain ⟨fz, ρ, h⟩ := hs
 have hb := h.ev x
 rw [hx] at hb
 simp only [Holds] at hb
 exact wp_cond_split hb (fun e => ht e a w ⟨fz, ρ, h⟩) (fun e => hf e a w ⟨fz, ρ, h⟩)

theorem AWp.region {id : Nat} {tks : List Bool} {L : List ROp} (R : List Res) {Q : Exit → AS → Prop} {s s' : AS} {ob : Prop} (hops : trOps P ops tks ops.toList = some L) (hok : okAll C.N L = true)
  (hrun : runA P L (alignR L R) s = some (s', ob)) (hob : ob) (hQ : Q .normal s') : AWp P C (.region id ops false) Q s := by
 intro a w hs
 obtain ⟨E, hR, hV, _⟩ := runA_spec L _ s s' ob hrun hob hok
 exact region_plain hops hR hs fun a' w' hs' => ⟨s', by rw [← hV]; exact hs', hQ⟩
theorem AWp.regionD {id : Nat} (hm : P.follows .mixedOrders = true) {tks : List Bool} {L : List ROp} (R : List Res) {Q : Exit → AS → Prop} {s s' : AS} {ob : Prop} (hops : trOps P ops tks ops.toList = some L) (hok : okAll C.N L = true)
  (hback : backP L 0 = true) (hfree : freeP (reachL L []) (infosA P L (alignR L R) s) 0 = true)
  (hrun : runA P L (alignR L R) s = some (s', ob)) (hob : ob) (hQ : Q .normal s') : AWp P C (.region id ops true) Q s := by
 intro a w hs
 obtain ⟨E, hR, hV, hl, hI⟩ := runA_spec L _ s s' ob hrun hob hok
 refine region_any hm hops hR ⟨fun i r hr e he => by simpa using backP_spec L 0 hback i r hr e he, fun i j r r' e e' hij hr he hr' he' => ?_⟩ hs fun a' w' hs' => ⟨s', by rw [← hV]; exact hs', hQ⟩
 have := freeP_spec _ 0 hfree i j _ _ hij (hI i r e hr he) (hI j r' e' hr' he')
 simpa using this

theorem AWp.loop {c : Code} {Q : Exit → AS → Prop} {s : AS} (I : AS → Prop) (μ : AS → Nat) (h0 : I s) (round : ∀ s, I s → AWp P C c (fun e s' => match e with | .normal => I s' ∧ μ s' < μ s | e => Q e s') s) : AWp P C (.loop c) Q s := by
 intro a w hs b k cs
 have key : ∀ n s a w, μ s = n → I s → Sim C s.view a w →
   ∃ e a' w', (∃ s' : AS, Sim C s'.view a' w' ∧ Q e s') ∧ Arrives P (lone (b.at a (.code c :: .inLoop c :: k)) cs w) b k cs e a' w' := by
  intro n
  induction n using Nat.strongRecOn with
  | _ n ih =>
   intro s a w hn hI hs
   obtain ⟨e, a₁, w₁, ⟨s1, hs1, hq⟩, harr⟩ := round s hI a w hs b (.inLoop c :: k) cs
   cases e with
   | normal =>
    obtain ⟨hI₁, hlt⟩ := hq
    obtain ⟨e₂, a₂, w₂, hq₂, harr₂⟩ := ih (μ s1) (hn ▸ hlt) s1 a₁ w₁ rfl hI₁ hs1
    exact ⟨e₂, a₂, w₂, hq₂, .of_steps (Steps.trans harr (.one step_inLoop)) harr₂⟩
   | exit id => exact ⟨_, a₁, w₁, ⟨s1, hs1, hq⟩, .pass (x := .inLoop c) rfl (fun _ _ => .inl (by simp)) harr⟩
   | goto l => exact ⟨_, a₁, w₁, ⟨s1, hs1, hq⟩, .pass (x := .inLoop c) rfl (fun _ _ => .inl (by simp)) harr⟩
   | ret => exact ⟨_, a₁, w₁, ⟨s1, hs1, hq⟩, .pass (x := .inLoop c) rfl (fun _ _ => .inl (by simp)) harr⟩
   | panic ch => exact ⟨_, a₁, w₁, ⟨s1, hs1, hq⟩, .pass (x := .inLoop c) rfl (fun _ _ => .inl (by simp)) harr⟩
   | outgrown => exact ⟨_, a₁, w₁, ⟨s1, hs1, hq⟩, .pass (x := .inLoop c) rfl (fun _ _ => .inl (by simp)) harr⟩
 obtain ⟨e, a', w', hq, harr⟩ := key _ s a w rfl h0 hs
 exact ⟨e, a', w', hq, .of_steps (.one step_loop) harr⟩
end Go.Aw
