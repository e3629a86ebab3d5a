/- Closed runs: memory as a tree; what a call comes to; single operations. -/
import Derived.Test.YtempphkfacccoaaEvJ
set_option linter.unusedSimpArgs false
set_option linter.unusedVariables false
namespace Go.Ev
open Go.Aw (edgesOf)
variable {P : Program} {C : Ctx} {a : Act} {w : World} {ops : Array Oper} {Q : Exit → Act → World → Prop}

inductive Tr (α : Type) where
  | nil
  | node (v : Option α) (l r : Tr α)
def Tr.get {α : Type} : Tr α → Nat → Option α
  | .nil, _ => none
  | .node v _ _, 0 => v
  | .node _ l r, n + 1 => match Nat.beq (n % 2) 0 with
    | true => l.get (n / 2)
    | false => r.get (n / 2)
def Tr.put {α : Type} : Nat → Tr α → Nat → Option α → Tr α
  | 0, t, _, _ => t
  | f + 1, t, n, k => match t with
    | .nil => match n with
      | 0 => .node k .nil .nil
      | m + 1 => match Nat.beq (m % 2) 0 with
        | true => .node none (Tr.put f .nil (m / 2) k) .nil
        | false => .node none .nil (Tr.put f .nil (m / 2) k)
    | .node v l r => match n with
      | 0 => .node k l r
      | m + 1 => match Nat.beq (m % 2) 0 with
        | true => .node v (Tr.put f l (m / 2) k) r
        | false => .node v l (Tr.put f r (m / 2) k)
def Tr.set {α : Type} (t : Tr α) (n : Nat) (k : Option α) : Tr α := Tr.put (n + 1) t n k
theorem get_put {α : Type} : ∀ (f : Nat) (t : Tr α) (n : Nat) (k : Option α) (m : Nat), n < f → (Tr.put f t n k).get m = if m = n then k else t.get m
  | 0, t, n, k, m, h => by omega
  | f + 1, t, n, k, m, h => by
    have half : ∀ x y : Nat, (x % 2 = y % 2) → (x / 2 = y / 2 ↔ x = y) := fun x y h => ⟨fun e => by omega, fun e => by rw [e]⟩
    have main : ∀ (v : Option α) (l r : Tr α), (match n with
      | 0 => Tr.node k l r
      | m + 1 => match Nat.beq (m % 2) 0 with
        | true => .node v (Tr.put f l (m / 2) k) r
        | false => .node v l (Tr.put f r (m / 2) k)).get m = if m = n then k else (Tr.node v l r).get m := by
      intro v l r
      cases n with
      | zero =>
        cases m with
        | zero => simp [Tr.get]
        | succ m => simp [Tr.get]
      | succ n =>
        cases hn : Nat.beq (n % 2) 0 with
        | true =>
          have hn2 : n % 2 = 0 := Nat.eq_of_beq_eq_true hn
          simp only [hn]
          cases m with
          | zero => simp [Tr.get]
          | succ m =>
            simp only [Tr.get]
            cases hm : Nat.beq (m % 2) 0 with
            | true =>
              have hm2 : m % 2 = 0 := Nat.eq_of_beq_eq_true hm
              simp only [hm]
              rw [get_put f l (n / 2) k (m / 2) (by omega)]
              have := half m n (by omega)
              by_cases e : m = n
              · subst e; simp
              · rw [if_neg (fun h => e (this.1 h)), if_neg (by omega)]
            | false =>
              have hm2 : m % 2 ≠ 0 := fun e => by rw [e] at hm; cases hm
              simp only [hm]
              rw [if_neg (by intro e; have : m = n := by omega
                             subst this; exact hm2 hn2)]
        | false =>
          have hn2 : n % 2 ≠ 0 := fun e => by rw [e] at hn; cases hn
          simp only [hn]
          cases m with
          | zero => simp [Tr.get]
          | succ m =>
            simp only [Tr.get]
            cases hm : Nat.beq (m % 2) 0 with
            | true =>
              have hm2 : m % 2 = 0 := Nat.eq_of_beq_eq_true hm
              simp only [hm]
              rw [if_neg (by intro e; have : m = n := by omega
                             subst this; exact hn2 hm2)]
            | false =>
              have hm2 : m % 2 ≠ 0 := fun e => by rw [e] at hm; cases hm
              simp only [hm]
              rw [get_put f r (n / 2) k (m / 2) (by omega)]
              have := half m n (by omega)
              by_cases e : m = n
              · subst e; simp
              · rw [if_neg (fun h => e (this.1 h)), if_neg (by omega)]
    cases t with
    | nil =>
      have := main none .nil .nil
      have e : ∀ m, (Tr.node none Tr.nil (Tr.nil : Tr α)).get m = (Tr.nil : Tr α).get m := by
        intro m; cases m with
        | zero => rfl
        | succ m => simp only [Tr.get]; split <;> rfl
      rw [e] at this
      exact this
    | node v l r => exact main v l r
theorem get_set {α : Type} (t : Tr α) (n : Nat) (k : Option α) (m : Nat) : (t.set n k).get m = if m = n then k else t.get m := get_put _ _ _ _ _ (Nat.lt_succ_self n)

structure Hp where
  t : Tr EBlk
  nx : Nat
def Tr.sets (t : Tr EBlk) : List (Nat × EBlk) → Tr EBlk
  | [] => t
  | (b, k) :: r => (Tr.sets t r).set b (some k)
theorem sets_get (t : Tr EBlk) : ∀ us, (Tr.sets t us).get = Hv.upds t.get us
  | [] => rfl
  | (b, k) :: r => by
    funext x
    simp only [Tr.sets, get_set, Hv.upds, Hv.set, sets_get t r]
def Tr.kills (t : Tr EBlk) : List Nat → Tr EBlk
  | [] => t
  | b :: r => (Tr.kills t r).set b (some .dead)
theorem kills_get (t : Tr EBlk) : ∀ D, (Tr.kills t D).get = Hv.kill t.get D
  | [] => by funext x; simp [Tr.kills, Hv.kill]
  | b :: r => by
    funext x
    simp only [Tr.kills, get_set, kills_get t r, Hv.kill, List.contains_cons]
    by_cases e : x = b
    · simp [e]
    · simp [e]
def Tr.wipes (t : Tr EBlk) : List Nat → Tr EBlk
  | [] => t
  | b :: r => (Tr.wipes t r).set b none
theorem wipes_get (t : Tr EBlk) : ∀ (D : List Nat) (b : Nat), (Tr.wipes t D).get b = if b ∈ D then none else t.get b
  | [], b => by simp [Tr.wipes]
  | d :: r, b => by
    simp only [Tr.wipes, get_set, wipes_get t r b, List.mem_cons]
    by_cases e : b = d
    · simp [e]
    · simp [e]
/-- what shares a block's memory was named before; names not given are free; names that are held back stay so -/
structure HOK (H : Hv) (nx : Nat) (R : Nat → Prop) : Prop where
  free : ∀ b, nx ≤ b → H b = none
  al : ∀ x k, H x = some k → ∀ b ∈ k.al, H b ≠ none ∧ ¬ R b
  res : ∀ b, R b → H b = some .dead

abbrev Env := Tr EV
def gt (E : Env) (t : Nat) : EV := match E.get t with
  | some x => x
  | none => .unk
def putE (E : Env) (d : Option Nat) (x : EV) : Env := match d with
  | some d => E.set d (some x)
  | none => E
theorem gt_put (E : Env) (d : Option Nat) (x : EV) (t : Nat) : gt (putE E d x) t = if d = some t then x else gt E t := by
  cases d with
  | none => simp [putE]
  | some d =>
    simp only [putE, gt, get_set, Option.some.injEq]
    by_cases h : t = d
    · simp [h]
    · have : ¬ d = t := fun e => h e.symm
      simp [h, this]
def ev (E : Env) : Operand → EV
  | .tmp t => gt E t
  | .const v => cst v
  | .global g => .lit (.pointer (some ⟨g, 0, none⟩))
  | .func f => .clo (.func f) []
def vw (E : Env) (H : Hv) : View := ⟨gt E, H⟩
theorem vw_ev (E : Env) (H : Hv) (x : Operand) : (vw E H).ev x = ev E x := by cases x <;> rfl

/-- what a call comes to -/
def Live (H : Hv) (b : Nat) : Prop := ∃ k, H b = some k ∧ k ≠ .dead
def callCtx (w : World) (ρ : Ren) (H : Hv) : Ctx := { N := 0, w0 := w, Fr := fun c => c < w.heap.size ∧ ∀ b L, Live H b → ρ b = some L → L.c ≠ c, fr := fun _ h => h.1, ρ0 := ρ, Kp := fun b => H b = some .dead }
def CallOK (P : Program) (f : FuncId) (args : List EV) (H : Hv) (v : EV) (H' : Hv) : Prop := Aw.Enters P f ∧ (∀ b, H' b = none → H b = none) ∧
  ∀ (w : World) (ρ : Ren) (vs : Array Value), MemE (callCtx w ρ H) H w ρ → HoldsL ρ args vs.toList →
    Calls P f vs w fun e w' => ∃ u ρ', e = .returned u ∧ Ren.le ρ ρ' ∧ Holds ρ' v u ∧ MemE (callCtx w ρ H) H' w' ρ'

theorem MemE.toCall {H : Hv} {ρ : Ren} (h : MemE C H w ρ) : MemE (callCtx w ρ H) H w ρ := by
  refine { hp := fun b k hb => ?_, dom := h.dom, alias := h.alias, ext := Ren.le_refl _, kept := fun b hb => ?_, os := rfl, tape := rfl, output := rfl, bsz := Nat.le_refl _, old := fun _ _ => rfl }
  · rcases h.hp b k hb with e | ⟨L, hL, _, hB⟩
    · exact .inl e
    · exact .inr ⟨L, hL, fun hF => hF.2 b L ⟨k, hb, hB.alive⟩ hL rfl, hB⟩
  · have hb : H b = some .dead := hb
    exact ⟨by rw [hb]; simp, rfl⟩

/-- behind a call that knew nothing of D -/
theorem MemE.restore {H H1 : Hv} {ρ ρ' : Ren} {w' : World} {D : List Nat} (h : MemE C H w ρ) (hD : ∀ b ∈ D, NoAl (H b)) (hcl : ∀ x, x ∉ D → ∀ k, H x = some k → ∀ b ∈ D, b ∉ k.al)
    (h' : MemE (callCtx w ρ (Hv.kill H D)) H1 w' ρ') (hst : ∀ b, H1 b = none → Hv.kill H D b = none) : MemE C (fun b => if b ∈ D then H b else H1 b) w' ρ' := by
  have kD : ∀ b, b ∈ D → Hv.kill H D b = some .dead := fun b hb => by simp [Hv.kill, hb]
  have kN : ∀ b, b ∉ D → Hv.kill H D b = H b := fun b hb => by simp [Hv.kill, hb]
  have keptD : ∀ b, b ∈ D → ρ' b = ρ b := fun b hb => (h'.kept b (kD b hb)).2
  have key : ∀ c, C.Fr c → (callCtx w ρ (Hv.kill H D)).Fr c := by
    intro c hc
    refine ⟨Nat.lt_of_lt_of_le (C.fr c hc) h.bsz, fun b L ⟨k, hb, hk⟩ hL e => ?_⟩
    have hbD : b ∉ D := fun hb' => by rw [kD b hb'] at hb; cases hb; exact hk rfl
    rw [kN b hbD] at hb
    obtain ⟨L', hL', hF, _⟩ := h.live hb hk
    rw [hL] at hL'; cases hL'
    exact hF (e ▸ hc)
  have frD : ∀ b k L, b ∈ D → H b = some k → k ≠ .dead → ρ b = some L → (callCtx w ρ (Hv.kill H D)).Fr L.c := by
    intro b k L hb hk hkd hL
    obtain ⟨L0, e0, _, hB⟩ := h.live hk hkd
    rw [hL] at e0; cases e0
    refine ⟨hB.lt, fun y Ly ⟨ky, hy, hkyd⟩ hLy e => ?_⟩
    have hyD : y ∉ D := fun hy' => by rw [kD y hy'] at hy; cases hy; exact hkyd rfl
    rw [kN y hyD] at hy
    have hne : y ≠ b := by rintro rfl; exact hyD hb
    rcases h.alias y b ky k Ly L hne hy hk hkyd hkd hLy hL e with hu | hu
    · have h1 := hu.al; have h2 := hD b hb
      rw [hk] at h2; simp only [NoAl] at h2; rw [h2] at h1; cases h1
    · exact hcl y hyD ky hy b hb hu.al
  have nin : ∀ b, b ∉ D → H1 b = none → H b = none := fun b hb e => by have := hst b e; rwa [kN b hb] at this
  refine { hp := fun b k hb => ?_, dom := fun b hb => ?_, alias := fun b b' k k' L L' hne hb hb' hk hk' hL hL' hc => ?_, ext := Ren.le_trans h.ext h'.ext, kept := fun b hb => ?_,
           os := h'.os.trans h.os, tape := h'.tape.trans h.tape, output := h'.output.trans h.output, bsz := Nat.le_trans h.bsz h'.bsz, old := fun c hc => ?_ }
  · by_cases hbD : b ∈ D
    · rw [if_pos hbD] at hb
      rcases h.hp b k hb with e | ⟨L, hL, hF, hB⟩
      · exact .inl e
      · exact .inr ⟨L, by rw [keptD b hbD]; exact hL, hF, hB.mono h'.ext (h'.old _ (frD b k L hbD hb hB.alive hL))⟩
    · rw [if_neg hbD] at hb
      rcases h'.hp b k hb with e | ⟨L, hL, hF, hB⟩
      · exact .inl e
      · exact .inr ⟨L, hL, fun hc => hF (key _ hc), hB⟩
  · by_cases hbD : b ∈ D
    · rw [if_pos hbD] at hb; rw [keptD b hbD]; exact h.dom b hb
    · rw [if_neg hbD] at hb; exact h'.dom b hb
  · by_cases hbD : b ∈ D
    · rw [if_pos hbD] at hb
      rw [keptD b hbD] at hL
      by_cases hbD' : b' ∈ D
      · rw [if_pos hbD'] at hb'; rw [keptD b' hbD'] at hL'
        exact h.alias b b' k k' L L' hne hb hb' hk hk' hL hL' hc
      · rw [if_neg hbD'] at hb'
        obtain ⟨L0, e0, hF, _⟩ := h'.live hb' hk'
        rw [hL'] at e0; cases e0
        exact absurd (hc ▸ frD b k L hbD hb hk hL) hF
    · rw [if_neg hbD] at hb
      by_cases hbD' : b' ∈ D
      · rw [if_pos hbD'] at hb'; rw [keptD b' hbD'] at hL'
        obtain ⟨L0, e0, hF, _⟩ := h'.live hb hk
        rw [hL] at e0; cases e0
        exact absurd (hc ▸ frD b' k' L' hbD' hb' hk' hL') hF
      · rw [if_neg hbD'] at hb'
        exact h'.alias b b' k k' L L' hne hb hb' hk hk' hL hL' hc
  · obtain ⟨h1, h2⟩ := h.kept b hb
    by_cases hbD : b ∈ D
    · rw [if_pos hbD]; exact ⟨h1, by rw [keptD b hbD]; exact h2⟩
    · rw [if_neg hbD]
      refine ⟨fun e => h1 (nin b hbD e), ?_⟩
      rw [← h2]
      cases hk : H b with
      | none => exact absurd hk h1
      | some k =>
        by_cases hd : k = .dead
        · subst hd
          exact (h'.kept b (show Hv.kill H D b = some .dead by rw [kN b hbD]; exact hk)).2
        · obtain ⟨L, hL, _, _⟩ := h.live hk hd
          rw [hL]; exact h'.ext b L hL
  · rw [h'.old c (key c hc)]; exact h.old c hc

def calleeE : EV → Option (FuncId × List EV)
  | .clo (.func f) caps => some (f, caps)
  | _ => none
theorem callE_run {V : View} {ρ : Ren} (h : SimE C V a w ρ) {f : Operand} {fn : FuncId} {caps : List EV} (hc : calleeE (V.ev f) = some (fn, caps)) : ∃ cs : Array Value, a.eval f = .func (.func fn) #[] cs ∧ HoldsL ρ caps cs.toList := by
  have hf := h.ev f
  unfold calleeE at hc
  split at hc
  · rename_i f' cs heq
    cases hc
    rw [heq] at hf; simp only [Holds] at hf
    obtain ⟨vs, hv, hl⟩ := hf
    exact ⟨vs, hv, hl⟩
  · cases hc

/-- a call, as an operation -/
theorem sound_call {V : View} {o : Oper} (h : Sim C V a w) {f : Operand} {args : Array Operand} {ats : Array TypeId} (hop : o.op = .call { callee := .value f, args := args, argTypes := ats }) {fn : FuncId} {caps : List EV} (hc : calleeE (V.ev f) = some (fn, caps))
    {v : EV} {H1 : Hv} {D : List Nat} (hcall : CallOK P fn (args.toList.map V.ev ++ caps) (Hv.kill V.hp D) v H1) (hD : ∀ b ∈ D, NoAl (V.hp b)) (hcl : ∀ x, x ∉ D → ∀ k, V.hp x = some k → ∀ b ∈ D, b ∉ k.al)
    (hd : ∀ i, o.dst = some i → i < C.N) (Q : Exit → Act → World → Prop) :
    o.wp P a w (fun a' w' => Sim C (View.putO { V with hp := fun b => if b ∈ D then V.hp b else H1 b } o.dst v) a' w') Q := by
  obtain ⟨ρ, h⟩ := h
  obtain ⟨⟨fnn, hfn, hname, hbody⟩, hst, hcon⟩ := hcall
  obtain ⟨cs, hfv, hcl'⟩ := callE_run h hc
  have hargs : HoldsL ρ (args.toList.map V.ev ++ caps) ((args.map a.eval) ++ cs).toList := by
    simp only [Array.toList_append, Array.toList_map]
    exact (h.evL args.toList).append hcl'
  have hex : (execOp a.eval o).run P w = .ok (.enter fn ((args.map a.eval) ++ cs)) w := by
    have hb : ¬ fnn.body = none := by intro e; rw [e] at hbody; simp at hbody
    have hn' : ¬ fnn.name = "runtime.NumGoroutine" := by intro e; rw [e] at hname; simp at hname
    simp [execOp, hop, resolve, hfv, Deferred.ofValue, invoke, callFunc, hfn, hn', hb]
  unfold Oper.wp
  rw [hex]
  simp only [Oper.upon]
  refine (hcon w ρ _ (h.mem.kill D).toCall hargs).mono ?_
  rintro e w' ⟨u, ρ', rfl, hle, hv, hm⟩
  refine ⟨ρ', ?_⟩
  exact h.putM hle (h.mem.restore hD hcl hm hst) hd hv
end Go.Ev
