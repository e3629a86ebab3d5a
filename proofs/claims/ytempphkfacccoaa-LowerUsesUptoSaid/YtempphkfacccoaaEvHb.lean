/- Closed runs: entries that are taken out of maps; slices held against nil. -/
import Derived.Test.YtempphkfacccoaaEvH
set_option linter.unusedSimpArgs false
set_option linter.unusedVariables false
namespace Go.Ev
open Go.Aw (szOf zeroC isAggT kindT checkKey_run keyEq kindV sameKind eqGuard_plain)
variable {P : Program} {C : Ctx} {V : View} {a : Act} {w : World} {ρ ρ' : Ren} {o : Oper} {Q : Exit → Act → World → Prop}

theorem delE_spec {kt : TypeId} {d : TypeDesc} {kd : Nat} (hd : P.underlying kt = some d) (hk : kindT P kt = some kd) {k : EV} {u : Value} (hku : Holds ρ k u) (hkd : kindV kd u = true) :
    ∀ (es : List MapEntry) (ks vs ks' vs' : List EV) (i : Nat), HoldsL ρ ks (es.map (·.key)) → HoldsL ρ vs (es.map (·.val)) → delE k ks vs = some (ks', vs') →
      (∃ m v0, Instr.findNow d u es i = some (some (i + m, v0)) ∧ m < es.length ∧ HoldsL ρ ks' ((es.eraseIdx m).map (·.key)) ∧ HoldsL ρ vs' ((es.eraseIdx m).map (·.val))) ∨
      (Instr.findNow d u es i = some none ∧ HoldsL ρ ks' (es.map (·.key)) ∧ HoldsL ρ vs' (es.map (·.val)))
  | [], ks, vs, ks', vs', i, h1, h2, hs => by
    simp only [List.map_nil] at h1 h2
    have h1l := h1.len; simp at h1l
    have hks : ks = [] := List.eq_nil_of_length_eq_zero h1l.symm
    subst hks
    simp only [delE, Option.some.injEq, Prod.mk.injEq] at hs
    obtain ⟨rfl, rfl⟩ := hs
    exact .inr ⟨rfl, by simp [HoldsL], by simp [HoldsL]⟩
  | e :: es, ks, vs, ks', vs', i, h1, h2, hs => by
    cases ks with
    | nil => simp [HoldsL] at h1
    | cons b ks =>
      cases vs with
      | nil => simp [HoldsL] at h2
      | cons x vs =>
        simp only [List.map_cons, HoldsL] at h1 h2
        obtain ⟨v1, r1, e1, hb, h1⟩ := h1
        obtain ⟨v2, r2, e2, hx, h2⟩ := h2
        simp only [List.cons.injEq] at e1 e2
        obtain ⟨e1, rfl⟩ := e1
        obtain ⟨e2, rfl⟩ := e2
        rw [← e1] at hb; rw [← e2] at hx
        simp only [delE] at hs
        cases hkb : keyE k b with
        | none => rw [hkb] at hs; simp at hs
        | some c =>
          rw [hkb] at hs
          obtain ⟨s1, s2⟩ := keyE_spec hkb hku hb
          have hsn := Aw.sameNow_eq hd hk hkd s1
          rw [s2] at hsn
          cases c with
          | true =>
            simp only [Option.some.injEq, Prod.mk.injEq] at hs
            obtain ⟨rfl, rfl⟩ := hs
            exact .inl ⟨0, e.val, by simp [Instr.findNow, hsn], by simp, by simpa using h1, by simpa using h2⟩
          | false =>
            simp only at hs
            split at hs
            · rename_i r hr
              cases hs
              rcases delE_spec hd hk hku hkd es ks vs r.1 r.2 (i + 1) h1 h2 (by rw [hr]) with ⟨m, v0, f1, f2, f3, f4⟩ | ⟨f1, f2, f3⟩
              · refine .inl ⟨m + 1, v0, ?_, by simp; omega, ?_, ?_⟩
                · simp only [Instr.findNow, hsn, f1]; rw [show i + 1 + m = i + (m + 1) from by omega]
                · simp only [List.eraseIdx_cons_succ, List.map_cons, HoldsL]; exact ⟨_, _, rfl, hb, f3⟩
                · simp only [List.eraseIdx_cons_succ, List.map_cons, HoldsL]; exact ⟨_, _, rfl, hx, f4⟩
              · refine .inr ⟨by simp only [Instr.findNow, hsn, f1], ?_, ?_⟩
                · simp only [List.map_cons, HoldsL]; exact ⟨_, _, rfl, hb, f2⟩
                · simp only [List.map_cons, HoldsL]; exact ⟨_, _, rfl, hx, f3⟩
            · cases hs
def eDel (kd : Nat) (g : Hv) : List EV → Option Eff
  | [.mp b, k] => match g b with
    | some (.map ks vs) => if kindE kd k = true then (match delE k ks vs with
      | some r => some { out := .unk, upd := [(b, .map r.1 r.2)] }
      | none => none) else none
    | _ => none
  | _ => none
theorem sound_del (h : SimE C V a w ρ) {t kt e u : TypeId} {x k : Operand} (hop : o.op = .call { callee := .builtin .delete, args := #[x, k], argTypes := #[t, u] }) (ht : P.underlying t = some (.map kt e)) {kd : Nat} (hk : kindT P kt = some kd)
    {ef : Eff} (he : eDel kd V.hp [V.ev x, V.ev k] = some ef) (hd : ∀ i, o.dst = some i → i < C.N) : Sound P C V a w o ef := by
  have hx := h.ev x
  have hku := h.ev k
  unfold eDel at he
  split at he
  · rename_i b ke heq
    simp only [List.cons.injEq, and_true] at heq
    obtain ⟨e1, e2⟩ := heq
    rw [e1] at hx; rw [e2] at hku
    simp only [Holds] at hx
    obtain ⟨L, hρ, hxv⟩ := hx
    split at he
    · rename_i ks vs hb
      split at he
      · rename_i hkk
        split at he
        · rename_i r hr
          cases he
          obtain ⟨L', hL', _, hB⟩ := h.mem.live hb (by simp)
          rw [hρ] at hL'; cases hL'
          have hlt := hB.lt
          obtain ⟨es, clock, hm, hks, hvs, hborn, hlast⟩ := hB
          have hgo : (getObj L.c).run P w = .ok (.map es clock) w := by simp [getObj, Sem.run, hm]
          have hc := checkKey_run (P := P) hk es.isEmpty 9999 (a.eval k) w
          have hso : ∀ ob, (setObj L.c ob).run P w = .ok () { w with heap := w.heap.setIfInBounds L.c ob } := by intro ob; simp [setObj, Sem.run, hm]
          cases hdk : P.underlying kt with
          | none => simp [kindT, hdk] at hk
          | some d =>
            rcases delE_spec hdk hk hku (kindE_spec hkk hku) es.toList ks vs r.1 r.2 0 hks hvs (by rw [hr]) with ⟨m, v0, f1, f2, f3, f4⟩ | ⟨f1, f2, f3⟩
            · have hf : (Instr.findKey kt (a.eval k) es.toList).run P w = .ok (some (m, v0)) w := by simp [Instr.findKey, run_underlying hdk, f1]
              have hm' : m < es.size := by simpa using f2
              have hl : (es.eraseIdxIfInBounds m).toList = es.toList.eraseIdx m := by simp [Array.eraseIdxIfInBounds, hm']
              refine sound_mem h (v := .tuple #[]) (w' := { w with heap := w.heap.setIfInBounds L.c (.map (es.eraseIdxIfInBounds m) clock) }) ?_ (Ren.le_refl _) ?_ hd (by simp only [Holds])
              · simp [execOp, hop, resolve, invoke, builtin, Builtin.delete_, hxv, run_underlying ht, hgo, hc, hf, hso]
              · refine h.mem.setMap hb hρ hlt (by rw [hl]; exact f3) (by rw [hl]; exact f4) ?_ ?_
                · rw [hl]; exact hborn.sublist (List.eraseIdx_sublist _ _)
                · rw [hl]; exact fun x hx => hlast x (List.mem_of_mem_eraseIdx hx)
            · have hf : (Instr.findKey kt (a.eval k) es.toList).run P w = .ok none w := by simp [Instr.findKey, run_underlying hdk, f1]
              refine sound_mem h (v := .tuple #[]) (w' := { w with heap := w.heap.setIfInBounds L.c (.map es clock) }) ?_ (Ren.le_refl _) ?_ hd (by simp only [Holds])
              · simp [execOp, hop, resolve, invoke, builtin, Builtin.delete_, hxv, run_underlying ht, hgo, hc, hf, hso]
              · exact h.mem.setMap hb hρ hlt f2 f3 hborn hlast
        · cases he
      · cases he
    · cases he
  · cases he

/-- a slice held against nil -/
def eNils (neg : Bool) : List EV → Option Eff
  | [.sl _ _ _ _ (_ + 1) _] => some { out := .bool neg }
  | [.lit (.slice none 0 0)] => some { out := .bool !neg }
  | _ => none
theorem sound_nils (h : SimE C V a w ρ) {neg : Bool} {op : BinOp} (hneg : op = if neg then .neq else .eql) {t u : TypeId} {x : Operand} (hop : o.op = .binOp op t x (.const (.slice none 0 0)) u) {e : TypeId} (ht : P.underlying t = some (.slice e))
    {ef : Eff} (he : eNils neg [V.ev x] = some ef) (hd : ∀ i, o.dst = some i → i < C.N) : Sound P C V a w o ef := by
  have hx := h.ev x
  have key : ∀ (r : Option Addr) (n c : Nat), a.eval x = .slice r n c → (execOp a.eval o).run P w = .ok (.value (.bool (if neg then !r.isNone else r.isNone))) w := by
    intro r n c hr
    have h1 : (eqGuard op t x (.const (.slice none 0 0)) (a.eval x) (.slice none 0 0)).run P w = .ok () w := by rw [hr]; exact eqGuard_plain _ _ _ _ _ _ rfl (by simp)
    have h2' : ∀ d : Nat, (Op.equalIn (d + 1) t (.slice r n c) (.slice none 0 0)).run P w = .ok r.isNone w := by intro d; cases r <;> simp [Op.equalIn, run_underlying ht]
    have h2 := h2' 9999
    have h3 : a.eval (.const (.slice none 0 0)) = .slice none 0 0 := rfl
    cases neg <;> simp only [Bool.false_eq_true, if_false, if_true] at hneg <;> subst hneg <;> rw [hr] at h1 <;>
      simp [execOp, hop, h1, h3, hr, binOp, Op.equal, Op.maxDepth, h2]
  unfold eNils at he
  split at he
  · rename_i b wd i n cap ex heq
    simp only [List.cons.injEq, and_true] at heq
    rw [heq] at hx; simp only [Holds] at hx
    obtain ⟨L, c, A, _, _, hv, _⟩ := hx
    cases he
    refine sound_value h (key (some A) _ _ hv) hd ?_
    cases neg <;> simp [Holds]
  · rename_i heq
    simp only [List.cons.injEq, and_true] at heq
    rw [heq] at hx; simp only [Holds] at hx
    cases he
    refine sound_value h (key none _ _ hx) hd ?_
    cases neg <;> simp [Holds]
  · cases he
def nilCmp (P : Program) (op : BinOp) (t : TypeId) (y : Operand) : Option Bool :=
  match y with
  | .const (.slice none 0 0) => match P.underlying t with
    | some (.slice _) => match op with
      | .eql => some false
      | .neq => some true
      | _ => none
    | _ => none
  | _ => none
theorem nilCmp_some {op : BinOp} {t : TypeId} {y : Operand} {neg : Bool} (h : nilCmp P op t y = some neg) : y = .const (.slice none 0 0) ∧ (∃ e, P.underlying t = some (.slice e)) ∧ op = if neg then .neq else .eql := by
  unfold nilCmp at h
  repeat' split at h
  all_goals first | (cases h; done) | skip
  all_goals
    rename_i e hu
    cases h
    exact ⟨rfl, ⟨_, ‹P.underlying t = _›⟩, rfl⟩
end Go.Ev
