/- Long regions over closed data: what they come to is computed by the kernel. -/
import Derived.Test.YtmikljncdgfjpaaGreatDoorAwZd
set_option linter.unusedSimpArgs false
set_option linter.unusedVariables false
namespace Go.Aw
variable {P : Program} {C : Ctx} {ops : Array Oper}
structure CallO where
  fn : FuncId
  vs : List AV
  r : AV
def plainOp : AOp → Bool
  | .copy .. | .build .. | .bslice .. | .mkf .. | .load .. => true
  | .len kd _ => kd == 0
  | _ => false
theorem plain_ob {c : Res} {d : Option Nat} {ao : AOp} {vals : List AV} {g : Nat → Option Blk} {e : Eff} (h : plainOp ao = true) (he : act P c d ao vals g = some e) : e.ob := by
  cases ao <;> simp only [plainOp, Bool.false_eq_true] at h <;> simp only [act] at he
  case copy tk x =>
    unfold aCopy at he
    split at he
    · split at he <;> (cases he; trivial)
    · cases he
  case build zero ps =>
    unfold aBuild at he
    split at he
    · cases he; trivial
    · cases he
  case bslice e' w zero n ps =>
    split at he
    · unfold aBslice0 at he
      split at he
      · cases he; trivial
      · cases he
    · unfold aBslice at he
      split at he
      · split at he
        · cases he; trivial
        · cases he
      · cases he
  case mkf fn caps => cases he; trivial
  case load n ag tk x =>
    unfold aLoad at he
    repeat' split at he
    all_goals first | (cases he; done) | (cases he; exact trivial)
  case len kd x =>
    have hk : kd = 0 := by simpa using h
    subst hk
    unfold aLen at he
    split at he
    · split at he
      · cases he; trivial
      · split at he
        · cases he; trivial
        · cases he
    all_goals first | (cases he; done) | (cases he; exact trivial) | (split at he <;> first | (cases he; exact trivial) | (cases he; done))
def callO (c : Res) : List AV → Option CallO
  | f :: vs => match callee f with
    | some (fn, caps) => match c.bs with
      | [] => if norefL (vs ++ caps) = true then some ⟨fn, vs ++ caps, c.r⟩ else none
      | _ :: _ => none
    | none => none
  | _ => none
theorem callO_ob {c : Res} {g : Nat → Option Blk} {vals : List AV} {e : Eff} {o : CallO} (h : callO c vals = some o) (hc : Con P o.fn o.vs o.r) (he : aCall P c g vals = some e) : e.ob := by
  cases vals with
  | nil => cases h
  | cons f vs =>
    simp only [callO] at h
    simp only [aCall] at he
    cases hf : callee f with
    | none => rw [hf] at h; cases h
    | some p =>
      obtain ⟨fn, caps⟩ := p
      rw [hf] at h he
      simp only at h he
      cases hb : c.bs with
      | cons x l => rw [hb] at h; cases h
      | nil =>
        rw [hb] at h he
        simp only at h he
        split at h
        · rename_i hn
          cases h; cases he
          exact ⟨vs ++ caps, .closed hn, .inr hn, hc⟩
        · cases h
def runC (P : Program) : List ROp → List Res → AS → List CallO → Option (AS × List CallO)
  | [], _, s, acc => some (s, acc)
  | r :: L, c :: R, s, acc => match r.guard with
    | some _ => none
    | none => match effOf P c r.dst r.op s.view with
      | none => none
      | some e => if r.op.isCall = true then (match callO c (r.op.opds.map s.view.ev) with
          | some o => runC P L R (s.app r.dst e) (o :: acc)
          | none => none)
        else if plainOp r.op = true then runC P L R (s.app r.dst e) acc else none
  | _ :: _, [], _, _ => none
theorem runC_sub : ∀ (L : List ROp) (R : List Res) (s : AS) (acc : List CallO) (s' : AS) (cs : List CallO), runC P L R s acc = some (s', cs) → ∀ o ∈ acc, o ∈ cs
  | [], _, s, acc, s', cs, h => by simp only [runC, Option.some.injEq, Prod.mk.injEq] at h; obtain ⟨_, rfl⟩ := h; exact fun _ h => h
  | _ :: _, [], _, _, _, _, h => by simp [runC] at h
  | r :: L, c :: R, s, acc, s', cs, h => by
    simp only [runC] at h
    split at h
    · cases h
    · split at h
      · cases h
      · split at h
        · split at h
          · exact fun o ho => runC_sub L R _ _ s' cs h o (by simp [ho])
          · cases h
        · split at h
          · exact runC_sub L R _ _ s' cs h
          · cases h
theorem runC_sound : ∀ (L : List ROp) (R : List Res) (s : AS) (acc : List CallO) (s' : AS) (cs : List CallO) (K : AS → Prop), runC P L R s acc = some (s', cs) → (∀ o ∈ cs, Con P o.fn o.vs o.r) → K s' → runK P L R s K
  | [], _, s, acc, s', cs, K, h, _, hK => by simp only [runC, Option.some.injEq, Prod.mk.injEq] at h; obtain ⟨rfl, _⟩ := h; exact hK
  | _ :: _, [], _, _, _, _, _, h, _, _ => by simp [runC] at h
  | r :: L, c :: R, s, acc, s', cs, K, h, hc, hK => by
    simp only [runC] at h
    split at h
    · cases h
    · rename_i hg
      split at h
      · cases h
      · rename_i e he
        simp only [runK, effG, hg, he]
        split at h
        · rename_i hcall
          split at h
          · rename_i o ho
            refine ⟨?_, runC_sound L R _ _ s' cs K h hc hK⟩
            have hm := runC_sub L R _ _ s' cs h o (by simp)
            cases hop : r.op with
            | call f args =>
              rw [hop] at he ho
              simp only [effOf, act] at he
              exact callO_ob ho (hc o hm) he
            | _ => rw [hop] at hcall; simp [AOp.isCall] at hcall
          · cases h
        · split at h
          · rename_i hp
            exact ⟨plain_ob hp he, runC_sound L R _ _ s' cs K h hc hK⟩
          · cases h
/-- of a state, some slots -/
def keepA (ts : List Nat) (s : AS) : AS := { tm := ts.map fun t => (t, (lk s.tm t).getD .unk), hp := [] }
def hasA (ts : List Nat) (s : AS) : Bool := ts.all fun t => match lk s.tm t with | some x => within [] x | none => false
theorem keepA_le {ts : List Nat} {s : AS} (h : hasA ts s = true) : (keepA ts s).le s := by
  refine ⟨?_, trivial⟩
  show withinTm [] s (ts.map fun t => (t, (lk s.tm t).getD .unk))
  induction ts with
  | nil => trivial
  | cons t ts ih =>
    simp only [hasA, List.all_cons, Bool.and_eq_true] at h
    simp only [List.map_cons, withinTm]
    cases hx : lk s.tm t with
    | none => rw [hx] at h; simp at h
    | some x =>
      rw [hx] at h
      exact ⟨by simp [wk1], h.1, ih h.2⟩
-- what comes before what, and what touches what, as bits
def bitsOf (l : List Nat) : Nat := l.foldl (fun m e => m ||| (1 <<< e)) 0
theorem bits_fold (i : Nat) : ∀ (l : List Nat) (m : Nat), (l.foldl (fun m e => m ||| (1 <<< e)) m).testBit i = (m.testBit i || l.contains i)
  | [], m => by simp
  | e :: l, m => by
    rw [List.foldl_cons, bits_fold i l, Nat.testBit_or, List.contains_cons]
    have : (1 <<< e).testBit i = (i == e) := by
      rw [Nat.one_shiftLeft, Nat.testBit_two_pow]
      by_cases h : e = i
      · subst h; simp
      · have h' : ¬ i = e := fun q => h q.symm
        simp [h, h']
    rw [this, Bool.or_assoc]
theorem bitsOf_test (l : List Nat) (i : Nat) : (bitsOf l).testBit i = l.contains i := by rw [bitsOf, bits_fold]; simp
theorem bits_disj {l m : List Nat} (h : (bitsOf l &&& bitsOf m == 0) = true) : disj l m = true := by
  have h0 : bitsOf l &&& bitsOf m = 0 := by simpa using h
  simp only [disj, List.all_eq_true, Bool.not_eq_true']
  intro x hx
  have := congrArg (fun n => n.testBit x) h0
  simp only [Nat.testBit_and, bitsOf_test, Nat.zero_testBit, Bool.and_eq_false_iff] at this
  rcases this with h | h
  · rw [List.contains_iff_mem.2 hx] at h; cases h
  · exact h
theorem bits_append (l m : List Nat) : bitsOf (l ++ m) = bitsOf l ||| bitsOf m := by
  apply Nat.eq_of_testBit_eq
  intro i
  rw [Nat.testBit_or, bitsOf_test, bitsOf_test, bitsOf_test, Bool.eq_iff_iff]
  simp
structure InfoM where
  rt : Nat
  wt : Nat
  tb : Nat
  wb : Nat
def Info.m (x : Info) : InfoM := { rt := bitsOf x.rt, wt := bitsOf x.wt, tb := bitsOf (x.tb ++ x.lc.map (·.1)), wb := bitsOf (x.wb ++ (x.wh ++ x.dc.map (·.1))) }
theorem disj_sub {l l' m m' : List Nat} (hl : ∀ x ∈ l, x ∈ l') (hm : ∀ x ∈ m, x ∈ m') (h : disj l' m' = true) : disj l m = true := by
  unfold disj at h ⊢
  rw [List.all_eq_true] at h ⊢
  intro x hx
  have := h x (hl x hx)
  simp only [Bool.not_eq_true', List.contains_eq_mem, decide_eq_false_iff_not] at this ⊢
  exact fun hm' => this (hm x hm')
def indepM (x y : InfoM) : Bool := (x.wt &&& (y.rt ||| y.wt) == 0) && (y.wt &&& (x.rt ||| x.wt) == 0) && (x.wb &&& (y.tb ||| y.wb) == 0) && (y.wb &&& (x.tb ||| x.wb) == 0)
theorem indepM_ok {x y : Info} (h : indepM x.m y.m = true) : indep x y = true := by
  simp only [indepM, Info.m, ← bits_append, Bool.and_eq_true] at h
  simp only [indep, Bool.and_eq_true]
  have soft : ∀ (x y : Info), disj (x.wb ++ (x.wh ++ x.dc.map (·.1))) (y.tb ++ y.lc.map (·.1) ++ (y.wb ++ (y.wh ++ y.dc.map (·.1)))) = true → sft x y = true := by
    intro x y h
    unfold sft
    rw [List.all_eq_true]
    intro p hp
    have hm : p.1 ∈ y.tb ++ y.lc.map (·.1) ++ (y.wb ++ (y.wh ++ y.dc.map (·.1))) := List.mem_append_left _ (List.mem_append_right _ (List.mem_map.2 ⟨p, hp, rfl⟩))
    simp only [Bool.and_eq_true, Bool.not_eq_true', List.contains_eq_mem, decide_eq_false_iff_not]
    exact ⟨fun hw => disj_spec h (List.mem_append_right _ (List.mem_append_left _ hw)) hm, fun hd => disj_spec h (List.mem_append_right _ (List.mem_append_right _ (List.mem_map.2 ⟨p, hd, rfl⟩))) hm⟩
  have sub : ∀ (x y : Info), disj (x.wb ++ (x.wh ++ x.dc.map (·.1))) (y.tb ++ y.lc.map (·.1) ++ (y.wb ++ (y.wh ++ y.dc.map (·.1)))) = true → disj x.wb (y.tb ++ y.wb) = true := by
    intro x y h
    refine disj_sub (fun z hz => List.mem_append_left _ hz) (fun z hz => ?_) h
    rcases List.mem_append.1 hz with hz | hz
    · exact List.mem_append_left _ (List.mem_append_left _ hz)
    · exact List.mem_append_right _ (List.mem_append_left _ hz)
  exact ⟨⟨⟨⟨bits_disj h.1.1.1, bits_disj h.1.1.2⟩, sub _ _ (bits_disj h.1.2)⟩, sub _ _ (bits_disj h.2)⟩, soft _ _ (bits_disj h.1.2), soft _ _ (bits_disj h.2)⟩
def maskL : List ROp → List Nat → List Nat
  | [], acc => acc
  | r :: L, acc => maskL L (acc ++ [r.after.foldl (fun m e => m ||| acc.getD e 0) (bitsOf r.after)])
theorem mask_fold {acc : List Nat} (i : Nat) : ∀ (l : List Nat) (m : Nat), (l.foldl (fun m e => m ||| acc.getD e 0) m).testBit i = (m.testBit i || l.any fun e => (acc.getD e 0).testBit i)
  | [], m => by simp
  | e :: l, m => by rw [List.foldl_cons, mask_fold i l, Nat.testBit_or, List.any_cons, Bool.or_assoc]
theorem mask_ok : ∀ (L : List ROp) (am : List Nat) (al : List (List Nat)), am.length = al.length → (∀ j i, (am.getD j 0).testBit i = true → i ∈ al.getD j []) → ∀ j i, ((maskL L am).getD j 0).testBit i = true → i ∈ (reachL L al).getD j []
  | [], _, _, _, h => h
  | r :: L, am, al, hl, h => by
    simp only [maskL, reachL]
    refine mask_ok L _ _ (by simp [hl]) fun j i hj => ?_
    rcases Nat.lt_trichotomy j am.length with q | q | q
    · rw [List.getD_eq_getElem?_getD, List.getElem?_append_left q, ← List.getD_eq_getElem?_getD] at hj
      rw [List.getD_eq_getElem?_getD, List.getElem?_append_left (by omega), ← List.getD_eq_getElem?_getD]
      exact h j i hj
    · subst q
      rw [List.getD_eq_getElem?_getD, List.getElem?_append_right (Nat.le_refl _)] at hj
      rw [List.getD_eq_getElem?_getD, List.getElem?_append_right (by omega), hl]
      simp only [Nat.sub_self, List.getElem?_cons_zero, Option.getD_some] at hj ⊢
      rw [mask_fold, bitsOf_test, Bool.or_eq_true] at hj
      rcases hj with hj | hj
      · exact List.mem_append_left _ (List.contains_iff_mem.1 hj)
      · obtain ⟨e, he, hj⟩ := List.any_eq_true.1 hj
        exact List.mem_append_right _ (List.mem_flatMap.2 ⟨e, he, h e i hj⟩)
    · rw [List.getD_eq_getElem?_getD, List.getElem?_eq_none (by simp; omega)] at hj
      simp at hj
def chkM (i : Nat) (x : InfoM) : List InfoM → List Nat → Bool
  | y :: ys, m :: ms => (m.testBit i || indepM x y) && chkM i x ys ms
  | [], _ => true
  | _ :: _, [] => false
def freeM : List InfoM → List Nat → Nat → Bool
  | x :: xs, _ :: ms, i => chkM i x xs ms && freeM xs ms (i + 1)
  | [], _, _ => true
  | _ :: _, [], _ => false
theorem chkM_ok {reach : List (List Nat)} {masks : List Nat} (h : ∀ j i, (masks.getD j 0).testBit i = true → i ∈ reach.getD j []) (i : Nat) (x : Info) : ∀ (l : List Info) (j : Nat), chkM i x.m (l.map Info.m) (masks.drop j) = true → chkRest reach i x l j = true
  | [], j, _ => rfl
  | y :: l, j, hc => by
    cases hd : masks.drop j with
    | nil => rw [hd] at hc; simp [chkM] at hc
    | cons m ms =>
      have hj : j < masks.length := Nat.lt_of_not_le fun q => by rw [List.drop_eq_nil_of_le q] at hd; cases hd
      rw [List.drop_eq_getElem_cons hj] at hd
      cases hd
      rw [List.drop_eq_getElem_cons hj] at hc
      simp only [List.map_cons, chkM, Bool.and_eq_true, Bool.or_eq_true] at hc
      simp only [chkRest, Bool.and_eq_true, Bool.or_eq_true]
      refine ⟨hc.1.imp (fun q => ?_) indepM_ok, chkM_ok h i x l (j + 1) hc.2⟩
      have := h j i (by rw [List.getD_eq_getElem?_getD, List.getElem?_eq_getElem hj]; exact q)
      simpa using this
theorem freeM_ok {reach : List (List Nat)} {masks : List Nat} (h : ∀ j i, (masks.getD j 0).testBit i = true → i ∈ reach.getD j []) : ∀ (l : List Info) (i : Nat), freeM (l.map Info.m) (masks.drop i) i = true → freeP reach l i = true
  | [], _, _ => rfl
  | x :: l, i, hc => by
    cases hd : masks.drop i with
    | nil => rw [hd] at hc; simp [freeM] at hc
    | cons m ms =>
      have hj : i < masks.length := Nat.lt_of_not_le fun q => by rw [List.drop_eq_nil_of_le q] at hd; cases hd
      rw [List.drop_eq_getElem_cons hj] at hd
      cases hd
      rw [List.drop_eq_getElem_cons hj] at hc
      simp only [List.map_cons, freeM, Bool.and_eq_true] at hc
      simp only [freeP, Bool.and_eq_true]
      exact ⟨chkM_ok h i x l (i + 1) hc.1, freeM_ok h l (i + 1) hc.2⟩
/-- a long region over closed data -/
theorem AWp.regC {id : Nat} {Q : Exit → AS → Prop} {s : AS} (hm : P.follows .mixedOrders = true) (tks : List Bool) (L : List ROp) (R : List Res) (ts : List Nat) (s2 : AS) (cs : List CallO) (im : List InfoM) (ml : List Nat) (hops : trOps P ops tks ops.toList = some L) (hok : okAll C.N L = true)
    (hback : backP L 0 = true) (him : (infosA P L (alignR L R) s).map Info.m = im) (hml : maskL L [] = ml) (hfree : freeM im ml 0 = true)
    (hrun : (match runC P L (alignR L R) s [] with | some (s1, l) => if hasA ts s1 = true then some (keepA ts s1, l) else none | none => none) = some (s2, cs)) (hcs : ∀ o ∈ cs, Con P o.fn o.vs o.r) (h : ∀ s1, s2.le s1 → Q .normal s1) : AWp P C (.region id ops true) Q s := by
  refine AWp.regD hm tks L R hops hok hback (fun K hK => ?_) ?_
  · split at hrun
    · rename_i s1 l hr
      split at hrun
      · rename_i hh
        cases hrun
        exact runC_sound L _ s [] s1 _ K hr hcs (hK _ (h s1 (keepA_le hh)))
      · cases hrun
    · cases hrun
  · subst him; subst hml
    refine freeM_ok (masks := maskL L []) (fun j i => mask_ok L [] [] rfl (by simp) j i) _ 0 ?_
    simpa using hfree
end Go.Aw
