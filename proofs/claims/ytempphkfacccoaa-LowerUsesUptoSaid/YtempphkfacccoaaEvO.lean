/- Closed runs: regions, translated and run. -/
import Derived.Test.YtempphkfacccoaaEvN
set_option linter.unusedSimpArgs false
set_option linter.unusedVariables false
namespace Go.Ev
open Go.Aw (edgesOf)
variable {P : Program} {C : Ctx} {a : Act} {w : World} {ops : Array Oper} {Q : Exit → Act → World → Prop} {o : Oper} {x y : XOp} {i : Nat}

def tmask (ms : Tr Nat) (e : Nat) : Nat := match ms.get e with | some x => x | none => 0
def maskOf (ms : Tr Nat) : List Nat → Nat → Nat
  | [], m => m
  | e :: r, m => maskOf ms r (Nat.lor m (Nat.lor (Nat.shiftLeft 1 e) (tmask ms e)))
def masksT : List (List Nat) → Nat → Tr Nat → Tr Nat
  | [], _, ms => ms
  | r :: L, k, ms => masksT L (k + 1) (ms.set k (some (maskOf ms r 0)))
def bitOf (m i : Nat) : Bool := Nat.beq (Nat.mod (Nat.shiftRight m i) 2) 1
theorem bitOf_eq (m i : Nat) : bitOf m i = m.testBit i := by
  have e : Nat.mod (Nat.shiftRight m i) 2 = (m >>> i) % 2 := rfl
  rw [Nat.testBit_eq_decide_div_mod_eq, ← Nat.shiftRight_eq_div_pow]
  simp only [bitOf, e]
  by_cases h : (m >>> i) % 2 = 1
  · simp only [h, decide_true]; rfl
  · have : Nat.beq ((m >>> i) % 2) 1 = false := by
      cases hb : Nat.beq ((m >>> i) % 2) 1 with
      | false => rfl
      | true => exact absurd (nbeq.1 hb) h
    rw [this]; simp [h]
theorem maskOf_spec {ms : Tr Nat} {acc : List (List Nat)} (hm : ∀ e i, (tmask ms e).testBit i = true → i ∈ acc.getD e []) : ∀ (r : List Nat) (m i : Nat), (maskOf ms r m).testBit i = true → m.testBit i = true ∨ i ∈ r ++ r.flatMap (fun e => acc.getD e [])
  | [], m, i, h => .inl h
  | e :: r, m, i, h => by
    simp only [maskOf] at h
    rcases maskOf_spec hm r _ i h with h | h
    · rw [show Nat.lor m (Nat.lor (Nat.shiftLeft 1 e) (tmask ms e)) = m ||| ((1 <<< e) ||| tmask ms e) from rfl, Nat.testBit_or, Nat.testBit_or, Bool.or_eq_true, Bool.or_eq_true] at h
      rcases h with h | h | h
      · exact .inl h
      · rw [Nat.one_shiftLeft, Nat.testBit_two_pow] at h
        simp at h; subst h
        exact .inr (by simp)
      · exact .inr (by simp only [List.mem_append, List.flatMap_cons]; exact .inr (.inl (hm e i h)))
    · refine .inr ?_
      simp only [List.mem_append, List.flatMap_cons, List.mem_cons] at h ⊢
      rcases h with h | h
      · exact .inl (.inr h)
      · exact .inr (.inr h)
theorem masksT_spec : ∀ (L : List (List Nat)) (ms : Tr Nat) (acc : List (List Nat)), (∀ e i, (tmask ms e).testBit i = true → i ∈ acc.getD e []) →
    ∀ e i, (tmask (masksT L acc.length ms) e).testBit i = true → i ∈ (reachS L acc).getD e []
  | [], ms, acc, h => h
  | r :: L, ms, acc, h => by
    simp only [masksT, reachS]
    have := masksT_spec L (ms.set acc.length (some (maskOf ms r 0))) (acc ++ [r ++ r.flatMap (fun e => acc.getD e [])]) (fun e i hb => ?_)
    · simpa using this
    · simp only [tmask, get_set] at hb
      rw [List.getD_eq_getElem?_getD]
      by_cases he : e = acc.length
      · subst he
        simp only [if_true] at hb
        rcases maskOf_spec h r 0 i hb with h0 | h0
        · simp at h0
        · simpa using h0
      · simp only [if_neg he] at hb
        have := h e i hb
        rw [List.getD_eq_getElem?_getD] at this
        by_cases hlt : e < acc.length
        · rw [List.getElem?_append_left hlt]; exact this
        · rw [List.getElem?_eq_none (by omega)] at this; simp at this

def statI (x y : XOp) (j : Nat) : Bool := memless x.op || memless y.op || (pureNew x.op && pureNew y.op) || (x.op.isCall && pureNew y.op && mmem j x.kill)
def rowP (ms : Tr Nat) (i : Nat) (x : XOp) : List XOp → Nat → Option (List (Nat × Nat))
  | [], _ => some []
  | y :: ys, j => match rowP ms i x ys (j + 1) with
    | none => none
    | some r => match bitOf (tmask ms j) i with
      | true => some r
      | false => match indT x y with
        | false => none
        | true => match statI x y j with
          | true => some r
          | false => some ((i, j) :: r)
def allP (ms : Tr Nat) : List XOp → Nat → Option (List (Nat × Nat))
  | [], _ => some []
  | x :: xs, i => match rowP ms i x xs (i + 1) with
    | none => none
    | some r => match allP ms xs (i + 1) with
      | none => none
      | some q => some (r ++ q)
theorem rowP_spec {ms : Tr Nat} : ∀ (ys : List XOp) (j0 : Nat) (r : List (Nat × Nat)), rowP ms i x ys j0 = some r → ∀ (j : Nat) (y : XOp), ys[j]? = some y → bitOf (tmask ms (j0 + j)) i = true ∨ (indT x y = true ∧ (statI x y (j0 + j) = true ∨ (i, j0 + j) ∈ r))
  | [], _, _, _, j, y, h => by simp at h
  | z :: ys, j0, r, h, j, y, hy => by
    simp only [rowP] at h
    split at h
    · cases h
    · rename_i r' hr'
      have ih : ∀ j y, ys[j]? = some y → _ := rowP_spec ys (j0 + 1) r' hr'
      have sub : ∀ p ∈ r', p ∈ r := by
        intro p hp
        split at h
        · cases h; exact hp
        · split at h
          · cases h
          · split at h
            · cases h; exact hp
            · cases h; exact List.mem_cons_of_mem _ hp
      cases j with
      | succ j =>
        have := ih j y (by simpa using hy)
        rw [show j0 + (j + 1) = j0 + 1 + j from by omega]
        exact this.imp id fun ⟨h1, h2⟩ => ⟨h1, h2.imp id (sub _)⟩
      | zero =>
        simp at hy; subst hy
        rw [Nat.add_zero]
        split at h
        · rename_i hb; exact .inl hb
        · split at h
          · cases h
          · rename_i hi
            split at h
            · rename_i hs; exact .inr ⟨hi, .inl hs⟩
            · cases h; exact .inr ⟨hi, .inr (by simp)⟩
theorem allP_spec {ms : Tr Nat} : ∀ (L : List XOp) (k : Nat) (r : List (Nat × Nat)), allP ms L k = some r → ∀ (i j : Nat) (x y : XOp), i < j → L[i]? = some x → L[j]? = some y → bitOf (tmask ms (k + j)) (k + i) = true ∨ (indT x y = true ∧ (statI x y (k + j) = true ∨ (k + i, k + j) ∈ r))
  | [], _, _, _, i, j, x, y, _, hx, _ => by simp at hx
  | z :: L, k, r, h, i, j, x, y, hij, hx, hy => by
    simp only [allP] at h
    split at h
    · cases h
    · rename_i r1 h1
      split at h
      · cases h
      · rename_i r2 h2
        cases h
        obtain ⟨j', rfl⟩ : ∃ j', j = j' + 1 := ⟨j - 1, by omega⟩
        cases i with
        | zero =>
          simp at hx; subst hx
          have := rowP_spec L (k + 1) r1 h1 j' y (by simpa using hy)
          rw [show k + (j' + 1) = k + 1 + j' from by omega, Nat.add_zero]
          exact this.imp id fun ⟨a, b⟩ => ⟨a, b.imp id fun h => by simp [h]⟩
        | succ i =>
          have := allP_spec L (k + 1) r2 h2 i j' x y (by omega) (by simpa using hx) (by simpa using hy)
          rw [show k + (j' + 1) = k + 1 + j' from by omega, show k + (i + 1) = k + 1 + i from by omega]
          exact this.imp id fun ⟨a, b⟩ => ⟨a, b.imp id fun h => by simp [h]⟩

def ltO (N : Nat) : Option Nat → Bool
  | some i => Nat.blt i N
  | none => true
def trX (P : Program) (N : Nat) (ops : Array Oper) (o : Oper) : Option XOp :=
  match trE P o.op with
  | none => none
  | some eo => match ltO N o.dst with
    | false => none
    | true => match o.guard with
      | none => some { dst := o.dst, op := eo, guard := none, kill := [] }
      | some (g, want) => match (ops[g]?).bind (·.dst) with
        | some d => some { dst := o.dst, op := eo, guard := some (d, want), kill := [] }
        | none => none
theorem trX_is {N : Nat} (h : trX P N ops o = some x) (l : List Nat) : IsX P N ops o { x with kill := l } := by
  simp only [trX] at h
  split at h
  · cases h
  · rename_i eo heo
    split at h
    · cases h
    · rename_i hd
      have hlt : ∀ i, o.dst = some i → i < N := fun i hi => by
        rw [hi] at hd
        simp only [ltO, Nat.blt] at hd
        exact Nat.le_of_ble_eq_true hd
      split at h
      · rename_i hg
        cases h; exact ⟨heo, rfl, hlt, by rw [hg]⟩
      · rename_i g want hg
        split at h
        · rename_i d hd'
          cases h
          exact ⟨heo, rfl, hlt, by rw [hg]; exact ⟨d, hd', rfl⟩⟩
        · cases h
def trXs (P : Program) (N : Nat) (ops : Array Oper) : List Oper → Option (List XOp)
  | [] => some []
  | o :: os => match trX P N ops o with
    | none => none
    | some r => match trXs P N ops os with
      | none => none
      | some l => some (r :: l)
theorem trXs_get {N : Nat} : ∀ (os : List Oper) (L : List XOp), trXs P N ops os = some L → L.length = os.length ∧ ∀ (i : Nat) (x : XOp), L[i]? = some x → ∃ o, os[i]? = some o ∧ trX P N ops o = some x
  | [], L, h => by simp [trXs] at h; subst h; simp
  | o :: os, L, h => by
    simp only [trXs] at h
    split at h
    · cases h
    · rename_i r hr
      split at h
      · cases h
      · rename_i l hl
        cases h
        obtain ⟨h1, h2⟩ := trXs_get os l hl
        refine ⟨by simp [h1], fun i x hi => ?_⟩
        cases i with
        | zero => simp at hi; subst hi; exact ⟨o, by simp, hr⟩
        | succ i => simp at hi; obtain ⟨o', e1, e2⟩ := h2 i x hi; exact ⟨o', by simpa using e1, e2⟩

/-- operations behind a call that may come before it, and make memory -/
def killOf (ms : Tr Nat) (i : Nat) : List XOp → Nat → List Nat
  | [], _ => []
  | y :: ys, j => match pureNew y.op && !bitOf (tmask ms j) i with
    | true => j :: killOf ms i ys (j + 1)
    | false => killOf ms i ys (j + 1)
theorem killOf_spec {ms : Tr Nat} : ∀ (ys : List XOp) (j0 q : Nat), q ∈ killOf ms i ys j0 → j0 ≤ q ∧ q < j0 + ys.length
  | [], _, q, h => by simp [killOf] at h
  | y :: ys, j0, q, h => by
    simp only [killOf] at h
    simp only [List.length_cons]
    split at h
    · rcases List.mem_cons.1 h with rfl | h
      · omega
      · have := killOf_spec ys (j0 + 1) q h; omega
    · have := killOf_spec ys (j0 + 1) q h; omega
def withKill (ms : Tr Nat) : List XOp → Nat → List XOp
  | [], _ => []
  | x :: xs, i => (match x.op.isCall with | true => { x with kill := killOf ms i xs (i + 1) } | false => x) :: withKill ms xs (i + 1)
theorem withKill_get {ms : Tr Nat} : ∀ (L : List XOp) (k : Nat), (∀ x ∈ L, x.kill = []) → (withKill ms L k).length = L.length ∧ ∀ (i : Nat) (x : XOp), (withKill ms L k)[i]? = some x → ∃ x0 l, L[i]? = some x0 ∧ x = { x0 with kill := l } ∧ ∀ q ∈ l, k + i < q ∧ q < k + L.length
  | [], k, _ => ⟨rfl, by simp [withKill]⟩
  | z :: L, k, h0 => by
    obtain ⟨h1, h2⟩ := withKill_get (ms := ms) L (k + 1) (fun x hx => h0 x (List.mem_cons_of_mem _ hx))
    refine ⟨by simp [withKill, h1], fun i x hi => ?_⟩
    cases i with
    | zero =>
      simp only [withKill, List.getElem?_cons_zero, Option.some.injEq] at hi
      split at hi
      · subst hi
        exact ⟨z, _, by simp, rfl, fun q hq => by have := killOf_spec L (k + 1) q hq; simp; omega⟩
      · subst hi
        exact ⟨z, [], by simp, by have := h0 z (by simp); cases z; simp at this; subst this; rfl, by simp⟩
    | succ i =>
      simp only [withKill, List.getElem?_cons_succ] at hi
      obtain ⟨x0, l, e1, e2, e3⟩ := h2 i x hi
      exact ⟨x0, l, by simpa using e1, e2, fun q hq => by have := e3 q hq; simp; omega⟩

def backE : List (List Nat) → Nat → Bool
  | [], _ => true
  | r :: L, i => r.all (fun e => Nat.blt e i) && backE L (i + 1)
theorem backE_spec : ∀ (L : List (List Nat)) (k : Nat), backE L k = true → ∀ (i : Nat) (r : List Nat), L[i]? = some r → ∀ e ∈ r, e < k + i
  | [], _, _, i, r, h => by simp at h
  | r0 :: L, k, hb, i, r, h => by
    simp only [backE, Bool.and_eq_true] at hb
    cases i with
    | zero => simp at h; subst h; intro e he; have h2 := List.all_eq_true.1 hb.1 e he; simp only [Nat.blt] at h2; have := Nat.le_of_ble_eq_true h2; omega
    | succ i =>
      intro e he
      have := backE_spec L (k + 1) hb.2 i r (by simpa using h) e he
      omega

structure XReg where
  n : Nat
  L : List XOp
  prs : List (Nat × Nat)
  kl : Bool
  deriving Inhabited
def compReg (P : Program) (N : Nat) (ops : Array Oper) (mixed : Bool) : Option XReg :=
  match trXs P N ops ops.toList with
  | none => none
  | some L0 => match mixed with
    | false => some ⟨L0.length, L0, [], false⟩
    | true => match backE (ops.toList.map edgesOf) 0 with
      | false => none
      | true => match allP (masksT (ops.toList.map edgesOf) 0 .nil) (withKill (masksT (ops.toList.map edgesOf) 0 .nil) L0 0) 0 with
        | none => none
        | some prs => some ⟨L0.length, withKill (masksT (ops.toList.map edgesOf) 0 .nil) L0 0, prs, (withKill (masksT (ops.toList.map edgesOf) 0 .nil) L0 0).any (fun x => !x.kill.isEmpty)⟩

def indP (I : List Inf) : List (Nat × Nat) → Bool
  | [] => true
  | (i, j) :: r => (match I[i]?, I[j]? with
    | some a, some b => indI a b
    | _, _ => false) && indP I r
def noalI1 (D : List Nat) : Inf → Bool
  | .mem _ u => u.all fun p => !mmem p.1 D || p.2.al.isEmpty
  | .call _ _ H1 => D.all fun b => match H1.get b with | some k => k.al.isEmpty | none => true
def noalI (I : List Inf) : Bool := I.all fun
  | .mem _ _ => true
  | .call D _ _ => I.all (noalI1 D)
def chkR (prs : List (Nat × Nat)) (kl : Bool) (I : List Inf) : Bool := indP I prs && (match kl with | true => noalI I | false => true)
theorem indP_spec {I : List Inf} : ∀ (l : List (Nat × Nat)), indP I l = true → ∀ i j, (i, j) ∈ l → ∃ a b, I[i]? = some a ∧ I[j]? = some b ∧ indI a b = true
  | [], _, i, j, h => by simp at h
  | (i0, j0) :: r, h, i, j, hm => by
    simp only [indP, Bool.and_eq_true] at h
    rcases List.mem_cons.1 hm with e | hm
    · cases e
      have := h.1
      split at this
      · rename_i a b ha hb; exact ⟨a, b, ha, hb, this⟩
      · cases this
    · exact indP_spec r h.2 i j hm

/-- what is fresh and does not look writes its own name alone -/
theorem pureNew_upd {d : Nat} {eo : EOp} {vals : List EV} {g : Hv} {ef : Eff} (hp : pureNew eo = true) (h : actE d eo vals g = some ef) : (∀ p ∈ ef.upd, p.1 = d) ∧ tbE eo d vals = [d] := by
  simp only [pureNew, Bool.and_eq_true, Bool.not_eq_true'] at hp
  refine ⟨?_, by simp [tbE, hp.1.1, hp.1.2]⟩
  cases eo with
  | a ao =>
    cases ao <;> simp only [EOp.fresh, EOp.reads, freshA, readsA, Bool.false_eq_true, false_and, Bool.true_eq_false, and_false] at hp
    case box e x =>
      simp only [actE, actA, eBox] at h
      repeat' split at h
      all_goals first | (cases h; done) | (cases h; simp)
    case alloc e z =>
      simp only [actE, actA, eAlloc] at h
      repeat' split at h
      all_goals first | (cases h; done) | (cases h; simp)
    case bslice e w z n ps =>
      simp only [actE, actA, eBslice] at h
      repeat' split at h
      all_goals first | (cases h; done) | (cases h; simp)
    case mkmap r =>
      simp only [actE, actA, eMkmap] at h
      repeat' split at h
      all_goals first | (cases h; done) | (cases h; simp)
    case mksl e w bytes z l c =>
      simp only [actE, actA, eMksl] at h
      repeat' split at h
      all_goals first | (cases h; done) | (cases h; simp)
  | nilck x => simp [EOp.fresh] at hp
  | nils neg x => simp [EOp.fresh] at hp
  | appS => simp [EOp.reads] at hp
  | call f args => simp [EOp.fresh] at hp
/-- what neither makes memory nor looks at it writes nothing -/
theorem memless_upd {d : Nat} {eo : EOp} {vals : List EV} {g : Hv} {ef : Eff} (hp : memless eo = true) (h : actE d eo vals g = some ef) : ef.upd = [] ∧ tbE eo d vals = [] := by
  simp only [memless, Bool.and_eq_true, Bool.not_eq_true'] at hp
  refine ⟨?_, by simp [tbE, hp.1.1, hp.1.2]⟩
  have h0 := congrArg (Option.map (·.upd)) h
  have h1 : actE d eo vals (fun _ => none) = some ef := by rw [← h]; exact actE_congr (fun hr => by rw [hp.1.2] at hr; cases hr)
  have := actE_names (R := fun _ => False) (fun x k e => by cases e) (fun _ e => e.elim) h1
  cases hu : ef.upd with
  | nil => rfl
  | cons p l =>
    have := (this p.1 p.2 (by rw [hu]; simp)).1
    rcases this with e | e
    · rw [hp.1.1] at e; cases e.2
    · exact absurd rfl e.1

/-- what the record of an operation is -/
theorem inf_of {F : Fn'} {base d : Nat} {E : Env} {H H' : Hp} {v : EV} {inf : Inf} (h : opG F x base d E H = some (v, H', inf)) :
    (memless x.op = true → inf = .mem [] []) ∧ (pureNew x.op = true → ∃ t u, inf = .mem t u ∧ (∀ b ∈ t, b = d) ∧ (∀ p ∈ u, p.1 = d)) ∧ (x.op.isCall = true → (inf = .mem [] [] ∨ ∃ H0 H1, inf = .call (x.kill.map (base + ·)) H0 H1)) ∧ (∀ D H0 H1, inf = .call D H0 H1 → D = x.kill.map (base + ·)) := by
  have main : opX F x base d E H = some (v, H', inf) → (memless x.op = true → inf = .mem [] []) ∧ (pureNew x.op = true → ∃ t u, inf = .mem t u ∧ (∀ b ∈ t, b = d) ∧ (∀ p ∈ u, p.1 = d)) ∧ (x.op.isCall = true → (inf = .mem [] [] ∨ ∃ H0 H1, inf = .call (x.kill.map (base + ·)) H0 H1)) ∧ (∀ D H0 H1, inf = .call D H0 H1 → D = x.kill.map (base + ·)) := by
    intro h
    by_cases hc : ∃ f args, x.op = .call f args
    · obtain ⟨f, args, hc⟩ := hc
      simp only [opX, hc] at h
      split at h
      · split at h
        · simp only [Option.some.injEq, Prod.mk.injEq] at h
          obtain ⟨_, _, rfl⟩ := h
          refine ⟨fun hm => ?_, fun hm => ?_, fun _ => .inr ⟨_, _, rfl⟩, fun D H0 H1 e => by cases e; rfl⟩
          · rw [hc] at hm; simp [memless, EOp.isCall] at hm
          · rw [hc] at hm; simp [pureNew, EOp.fresh] at hm
        · cases h
      · cases h
    · have hc' : ∀ f args, x.op ≠ .call f args := fun f args h => hc ⟨f, args, h⟩
      rw [not_call hc' F x rfl] at h
      split at h
      · rename_i ef hef
        simp only [Option.some.injEq, Prod.mk.injEq] at h
        obtain ⟨_, _, rfl⟩ := h
        refine ⟨fun hm => ?_, fun hm => ?_, fun hm => ?_, fun D H0 H1 e => by cases e⟩
        · obtain ⟨h1, h2⟩ := memless_upd hm hef; rw [h1, h2]
        · obtain ⟨h1, h2⟩ := pureNew_upd hm hef
          exact ⟨_, _, rfl, by rw [h2]; simp, h1⟩
        · cases hx : x.op <;> rw [hx] at hm <;> simp only [EOp.isCall, Bool.false_eq_true] at hm
          exact absurd hx (hc' _ _)
      · cases h
  have skip : inf = .mem [] [] → (memless x.op = true → inf = .mem [] []) ∧ (pureNew x.op = true → ∃ t u, inf = .mem t u ∧ (∀ b ∈ t, b = d) ∧ (∀ p ∈ u, p.1 = d)) ∧ (x.op.isCall = true → (inf = .mem [] [] ∨ ∃ H0 H1, inf = .call (x.kill.map (base + ·)) H0 H1)) ∧ (∀ D H0 H1, inf = .call D H0 H1 → D = x.kill.map (base + ·)) := by
    rintro rfl
    exact ⟨fun _ => rfl, fun _ => ⟨[], [], rfl, by simp, by simp⟩, fun _ => .inl rfl, fun D H0 H1 e => by cases e⟩
  unfold opG at h
  split at h
  · exact main h
  · split at h
    · split at h
      · exact main h
      · cases h; exact skip rfl
    · cases h; exact skip rfl
    · cases h
theorem infs_get {F : Fn'} {base : Nat} : ∀ (L : List XOp) (d : Nat) (E : Env) (H : Hp) (i : Nat) (inf : Inf), (infs F base L d E H)[i]? = some inf → ∃ (x : XOp) (E1 : Env) (H1 H2 : Hp) (v : EV), L[i]? = some x ∧ opG F x base (d + i) E1 H1 = some (v, H2, inf)
  | [], d, E, H, i, inf, h => by simp [infs] at h
  | x :: L, d, E, H, i, inf, h => by
    simp only [infs] at h
    split at h
    · rename_i v H' i' hop
      cases i with
      | zero => simp at h; subst h; exact ⟨x, E, H, H', v, by simp, hop⟩
      | succ i =>
        obtain ⟨y, E1, H1, H2, v', h1, h2⟩ := infs_get L (d + 1) _ _ i inf (by simpa using h)
        exact ⟨y, E1, H1, H2, v', by simpa using h1, by rw [show d + (i + 1) = d + 1 + i from by omega]; exact h2⟩
    · simp at h
/-- pairs that need no look -/
theorem indI_stat {F : Fn'} {base i j : Nat} {E1 E2 : Env} {H1 H1' H2 H2' : Hp} {v1 v2 : EV} {I J : Inf} (hij : i ≠ j) (h1 : opG F x base (base + i) E1 H1 = some (v1, H1', I)) (h2 : opG F y base (base + j) E2 H2 = some (v2, H2', J)) (hs : statI x y j = true) : indI I J = true := by
  obtain ⟨a1, a2, a3, _⟩ := inf_of h1
  obtain ⟨b1, b2, _, _⟩ := inf_of h2
  simp only [statI, Bool.or_eq_true, Bool.and_eq_true] at hs
  have left : I = .mem [] [] → indI I J = true := by
    rintro rfl
    cases J <;> simp [indI, mmem]
  have right : J = .mem [] [] → indI I J = true := by
    rintro rfl
    cases I <;> simp [indI, mmem]
  rcases hs with ((h | h) | ⟨ha, hb⟩) | ⟨⟨ha, hb⟩, hc⟩
  · exact left (a1 h)
  · exact right (b1 h)
  · obtain ⟨t1, u1, rfl, k1, k2⟩ := a2 ha
    obtain ⟨t2, u2, rfl, k3, k4⟩ := b2 hb
    simp only [indI, Bool.and_eq_true, List.all_eq_true, Bool.not_eq_true']
    have ne : ∀ {b : Nat} {l : List Nat}, b ∉ l → mmem b l = false := fun {b l} h => by
      cases hm : mmem b l with
      | false => rfl
      | true => exact absurd (mmem_iff.1 hm) h
    refine ⟨fun p hp => ⟨ne fun h => ?_, ne fun h => ?_⟩, fun p hp => ne fun h => ?_⟩
    · have := k2 p hp; have := k3 _ h; omega
    · obtain ⟨q, hq, e⟩ := List.mem_map.1 h
      have := k2 p hp; have := k4 q hq; omega
    · have := k4 p hp; have := k1 _ h; omega
  · obtain ⟨t2, u2, rfl, k3, k4⟩ := b2 hb
    rcases a3 ha with rfl | ⟨H0, H1, rfl⟩
    · exact left rfl
    · have hD : mmem (base + j) (x.kill.map (base + ·)) = true := mmem_iff.2 (List.mem_map.2 ⟨j, mmem_iff.1 hc, rfl⟩)
      simp only [indI, Bool.and_eq_true, List.all_eq_true, Bool.or_eq_true]
      refine ⟨fun b hb' => .inl ?_, fun p hp => ?_⟩
      · rw [k3 b hb']; exact hD
      · rw [k4 p hp]; exact hD
end Go.Ev
