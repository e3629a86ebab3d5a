/- Closed runs: maps. -/
import Derived.Test.YtempphkfacccoaaEvE
set_option linter.unusedSimpArgs false
set_option linter.unusedVariables false
namespace Go.Ev
open Go.Aw (szOf zeroC isAggT kindT ffind findNow_eq checkKey_run keyEq kindV sameKind)
variable {P : Program} {C : Ctx} {V : View} {a : Act} {w : World} {ρ ρ' : Ren} {o : Oper} {Q : Exit → Act → World → Prop}

/-- are two keys the same? none: they are of different kinds -/
def keyE : EV → EV → Option Bool
  | .int j x, .int k y => if j = k then some (x == y) else none
  | .str n l, .str m k => some (Nat.beq n m && Nat.beq l k)
  | .bool x, .bool y => some (x == y)
  | _, _ => none
def kindE : Nat → EV → Bool
  | 0, .int _ _ => true
  | 1, .str _ _ => true
  | 2, .bool _ => true
  | _, _ => false
def getE (k : EV) : List EV → List EV → Option (Option EV)
  | a :: ks, x :: vs => match keyE k a with
    | some true => some (some x)
    | some false => getE k ks vs
    | none => none
  | [], _ => some none
  | _ :: _, [] => none
def setE (k y : EV) : List EV → List EV → Option (List EV × List EV)
  | a :: ks, x :: vs => match keyE k a with
    | some true => some (k :: ks, y :: vs)
    | some false => match setE k y ks vs with
      | some r => some (a :: r.1, x :: r.2)
      | none => none
    | none => none
  | [], _ => some ([k], [y])
  | _ :: _, [] => none
def delE (k : EV) : List EV → List EV → Option (List EV × List EV)
  | a :: ks, x :: vs => match keyE k a with
    | some true => some (ks, vs)
    | some false => match delE k ks vs with
      | some r => some (a :: r.1, x :: r.2)
      | none => none
    | none => none
  | [], _ => some ([], [])
  | _ :: _, [] => none

theorem keyE_spec {k x : EV} {u v : Value} {b : Bool} (h : keyE k x = some b) (hk : Holds ρ k u) (hx : Holds ρ x v) : sameKind u v = true ∧ keyEq u v = b := by
  unfold keyE at h
  split at h
  · split at h
    · rename_i hjk
      cases h
      simp only [Holds] at hk hx
      subst hk; subst hx; subst hjk
      refine ⟨by simp [sameKind], ?_⟩
      simp only [keyEq, decide_true, Bool.true_and]
      rw [Bool.eq_iff_iff]; simp
    · cases h
  · cases h
    simp only [Holds] at hk hx
    obtain ⟨hk, hn⟩ := hk
    obtain ⟨hx, hm⟩ := hx
    subst hk; subst hx
    refine ⟨rfl, ?_⟩
    simp only [keyEq]
    rw [Bool.eq_iff_iff]; simp [bytesOf_inj hn hm]
  · cases h
    simp only [Holds] at hk hx
    subst hk; subst hx
    exact ⟨rfl, rfl⟩
  · cases h
theorem kindE_spec {kd : Nat} {k : EV} {u : Value} (h : kindE kd k = true) (hk : Holds ρ k u) : kindV kd u = true := by
  unfold kindE at h
  split at h
  · simp only [Holds] at hk; subst hk; rfl
  · simp only [Holds] at hk; rw [hk.1]; rfl
  · simp only [Holds] at hk; subst hk; rfl
  · cases h

/-- the entries, as far as the key that is asked for -/
theorem find_spec {kt : TypeId} {d : TypeDesc} {kd : Nat} (hd : P.underlying kt = some d) (hk : kindT P kt = some kd) {k : EV} {u : Value} (hku : Holds ρ k u) (hkd : kindV kd u = true) :
    ∀ (es : List MapEntry) (ks vs : List EV) (i : Nat) (r : Option EV), HoldsL ρ ks (es.map (·.key)) → HoldsL ρ vs (es.map (·.val)) → getE k ks vs = some r →
      match r with
      | some y => ∃ j v, Instr.findNow d u es i = some (some (j, v)) ∧ Holds ρ y v
      | none => Instr.findNow d u es i = some none
  | [], ks, vs, i, r, h1, h2, hg => by
    simp only [List.map_nil] at h1
    have := h1.len; simp at this
    have hks : ks = [] := List.eq_nil_of_length_eq_zero this.symm
    subst hks
    simp only [getE, Option.some.injEq] at hg
    subst hg; rfl
  | e :: es, ks, vs, i, r, h1, h2, hg => by
    cases ks with
    | nil => simp [HoldsL] at h1
    | cons b ks =>
      cases vs with
      | nil => simp [HoldsL] at h2
      | cons x vs =>
        simp only [List.map_cons, HoldsL] at h1 h2
        obtain ⟨v1, r1, e1, hb, h1⟩ := h1
        obtain ⟨v2, r2, e2, hx, h2⟩ := h2
        simp only [List.cons.injEq] at e1 e2
        obtain ⟨e1, rfl⟩ := e1
        obtain ⟨e2, rfl⟩ := e2
        simp only [getE] at hg
        rw [← e1] at hb
        cases hkb : keyE k b with
        | none => rw [hkb] at hg; simp at hg
        | some c =>
          rw [hkb] at hg
          obtain ⟨s1, s2⟩ := keyE_spec hkb hku hb
          have hs := Aw.sameNow_eq hd hk hkd s1
          rw [s2] at hs
          cases c with
          | true =>
            simp only [Option.some.injEq] at hg
            subst hg
            exact ⟨i, e.val, by simp [Instr.findNow, hs], by rw [e2]; exact hx⟩
          | false =>
            have ih := find_spec hd hk hku hkd es ks vs (i + 1) r h1 h2 hg
            simpa only [Instr.findNow, hs] using ih
theorem findKey_ok {kt : TypeId} {kd : Nat} (hk : kindT P kt = some kd) {k : EV} {u : Value} (hku : Holds ρ k u) (hkd : kindE kd k = true) {es : List MapEntry} {ks vs : List EV} {r : Option EV} (h1 : HoldsL ρ ks (es.map (·.key))) (h2 : HoldsL ρ vs (es.map (·.val)))
    (hg : getE k ks vs = some r) (w : World) : match r with
      | some y => ∃ j v, (Instr.findKey kt u es).run P w = .ok (some (j, v)) w ∧ Holds ρ y v
      | none => (Instr.findKey kt u es).run P w = .ok none w := by
  cases hd : P.underlying kt with
  | none => simp [kindT, hd] at hk
  | some d =>
    have := find_spec hd hk hku (kindE_spec hkd hku) es ks vs 0 r h1 h2 hg
    cases r with
    | some y =>
      obtain ⟨j, v, hf, hh⟩ := this
      exact ⟨j, v, by simp [Instr.findKey, run_underlying hd, hf], hh⟩
    | none => simp at this; simp [Instr.findKey, run_underlying hd, this]

def lkpE (zero : EV) (ok : Bool) : Option EV → Eff
  | some y => { out := if ok then .tup [y, .bool true] else y }
  | none => { out := if ok then .tup [zero, .bool false] else zero }
def eLkp (kd : Nat) (zero : Value) (ok : Bool) (g : Hv) : List EV → Option Eff
  | [.mp b, k] => match g b with
    | some (.map ks vs) => if kindE kd k = true then (match getE k ks vs with
      | some r => some (lkpE (cst zero) ok r)
      | none => none) else none
    | _ => none
  | [.lit (.map none), k] => if kindE kd k = true then some (lkpE (cst zero) ok none) else none
  | _ => none
theorem lkpE_sound (h : SimE C V a w ρ) {t kt e : TypeId} {x k : Operand} {ok : Bool} (hop : o.op = .lookup t x k ok) (ht : P.underlying t = some (.map kt e)) {kd : Nat} (hk : kindT P kt = some kd) {i : TypeInfo} {z : Value} (hi : P.info? e = some i) (hz : i.zero = some z)
    {ke : EV} (hke : V.ev k = ke) (hkk : kindE kd ke = true) {es : Array MapEntry} {ks vs : List EV} (h1 : HoldsL ρ ks (es.toList.map (·.key))) (h2 : HoldsL ρ vs (es.toList.map (·.val))) {r : Option EV} (hg : getE ke ks vs = some r)
    (hx : (a.eval x = .map none ∧ es = #[]) ∨ ∃ c clock, a.eval x = .map (some c) ∧ w.heap[c]? = some (.map es clock)) (hd : ∀ i, o.dst = some i → i < C.N) :
    Sound P C V a w o (lkpE (cst z) ok r) := by
  have hku := h.ev k
  rw [hke] at hku
  have hf := findKey_ok (P := P) hk hku hkk h1 h2 hg w
  have hc := checkKey_run (P := P) hk es.isEmpty 9999 (a.eval k) w
  have hlk : ∀ r : Option (Nat × Value), (Instr.findKey kt (a.eval k) es.toList).run P w = .ok r w → (Instr.lookup t (a.eval x) (a.eval k) ok).run P w = (match r with
        | some (_, v) => Result.ok (if ok then .tuple #[v, .bool true] else v) w
        | none => Result.ok (if ok then .tuple #[z, .bool false] else z) w) := by
    intro r hr
    rcases hx with ⟨e1, e2⟩ | ⟨c, clock, e1, e2⟩
    · subst e2
      rw [e1]
      have hr' : r = none := by
        simp at hr
        cases hd2 : P.underlying kt with
        | none => simp [kindT, hd2] at hk
        | some d =>
          simp [Instr.findKey, run_underlying hd2, Instr.findNow] at hr
          exact hr.symm
      subst hr'
      simp only [Instr.lookup, Sem.run_bind, run_underlying ht, Result.andThen_ok, Sem.run_pure, hc, hr]
      simp [Aw.run_zeroValue hi hz]
    · rw [e1]
      have hgo : (getObj c).run P w = .ok (.map es clock) w := by simp [getObj, Sem.run, e2]
      simp only [Instr.lookup, Sem.run_bind, run_underlying ht, Result.andThen_ok, Sem.run_pure, hgo, hc, hr]
      cases r with
      | none => simp [Aw.run_zeroValue hi hz]
      | some q => obtain ⟨j, v⟩ := q; simp
  cases r with
  | none =>
    have := hlk none hf
    refine sound_value h (v := if ok then .tuple #[z, .bool false] else z) (by simp [execOp, hop, this]) hd ?_
    cases ok
    · simpa only [Bool.false_eq_true, if_false] using cst_holds ρ z
    · simp only [if_true, Holds, HoldsL]
      exact ⟨_, rfl, z, [.bool false], rfl, cst_holds ρ z, .bool false, [], rfl, rfl, rfl⟩
  | some y =>
    obtain ⟨j, v, hfr, hh⟩ := hf
    have := hlk (some (j, v)) hfr
    refine sound_value h (v := if ok then .tuple #[v, .bool true] else v) (by simp [execOp, hop, this]) hd ?_
    cases ok
    · simpa only [Bool.false_eq_true, if_false] using hh
    · simp only [if_true, Holds, HoldsL]
      exact ⟨_, rfl, v, [.bool true], rfl, hh, .bool true, [], rfl, rfl, rfl⟩
theorem sound_lkp (h : SimE C V a w ρ) {t kt e : TypeId} {x k : Operand} {ok : Bool} (hop : o.op = .lookup t x k ok) (ht : P.underlying t = some (.map kt e)) {kd : Nat} (hk : kindT P kt = some kd) {i : TypeInfo} {z : Value} (hi : P.info? e = some i) (hz : i.zero = some z)
    {ef : Eff} (he : eLkp kd z ok V.hp [V.ev x, V.ev k] = some ef) (hd : ∀ i, o.dst = some i → i < C.N) : Sound P C V a w o ef := by
  have hx := h.ev x
  unfold eLkp at he
  split at he
  · rename_i b ke heq
    simp only [List.cons.injEq, and_true] at heq
    rw [heq.1] at hx
    simp only [Holds] at hx
    obtain ⟨L, hρ, hxv⟩ := hx
    split at he
    · rename_i ks vs hb
      split at he
      · rename_i hkk
        split at he
        · rename_i r hr
          cases he
          obtain ⟨L', hL', _, ⟨es, clock, hm, hks, hvs, _⟩⟩ := h.mem.live hb (by simp)
          rw [hρ] at hL'; cases hL'
          exact lkpE_sound h hop ht hk hi hz heq.2 hkk hks hvs hr (.inr ⟨_, clock, hxv, hm⟩) hd
        · cases he
      · cases he
    · cases he
  · rename_i ke heq
    simp only [List.cons.injEq, and_true] at heq
    rw [heq.1] at hx
    simp only [Holds] at hx
    split at he
    · rename_i hkk
      cases he
      exact lkpE_sound (es := #[]) (ks := []) (vs := []) h hop ht hk hi hz heq.2 hkk (by simp [HoldsL]) (by simp [HoldsL]) (by simp [getE]) (.inl ⟨hx, rfl⟩) hd
    · cases he
  · cases he

/-- a map is written -/
theorem MemE.setMap {H : Hv} (h : MemE C H w ρ) {b : Nat} {ks vs ks' vs' : List EV} {L : Loc} (hb : H b = some (.map ks vs)) (hL : ρ b = some L) {es : Array MapEntry} {clock : Nat} (hlt : L.c < w.heap.size)
    (hk : HoldsL ρ ks' (es.toList.map (·.key))) (hv : HoldsL ρ vs' (es.toList.map (·.val))) (hborn : es.toList.Pairwise (fun x y => x.born < y.born)) (hlast : ∀ x ∈ es.toList, x.born < clock) :
    MemE C (Hv.set H b (.map ks' vs')) { w with heap := w.heap.setIfInBounds L.c (.map es clock) } ρ := by
  have := h.write (k' := .map ks' vs') hb (by simp) rfl hL (w' := { w with heap := w.heap.setIfInBounds L.c (.map es clock) }) ⟨rfl, rfl, rfl, by simp, fun k hk => by simp [Ne.symm hk]⟩
    ⟨es, clock, by simp only [Array.getElem?_setIfInBounds_self_of_lt hlt], hk, hv, hborn, hlast⟩
  have e : Hv.kill H (EBlk.map ks vs).al = H := by funext x; simp [Hv.kill, EBlk.al]
  rwa [e] at this

/-- what a map is, behind an update -/
theorem setE_spec {kt : TypeId} {d : TypeDesc} {kd : Nat} (hd : P.underlying kt = some d) (hk : kindT P kt = some kd) {k y : EV} {u v : Value} (hku : Holds ρ k u) (hkd : kindV kd u = true) (hyv : Holds ρ y v) :
    ∀ (es : List MapEntry) (ks vs ks' vs' : List EV) (i : Nat), HoldsL ρ ks (es.map (·.key)) → HoldsL ρ vs (es.map (·.val)) → setE k y ks vs = some (ks', vs') →
      (∃ m v0, Instr.findNow d u es i = some (some (i + m, v0)) ∧ m < es.length ∧ (∀ e : MapEntry, es[m]? = some e → keyEq u e.key = true ∧ HoldsL ρ ks' ((es.set m { e with key := u, val := v }).map (·.key)) ∧ HoldsL ρ vs' ((es.set m { e with key := u, val := v }).map (·.val)))) ∨
      (Instr.findNow d u es i = some none ∧ ∀ born, HoldsL ρ ks' ((es ++ [(⟨u, v, born⟩ : MapEntry)]).map (·.key)) ∧ HoldsL ρ vs' ((es ++ [(⟨u, v, born⟩ : MapEntry)]).map (·.val)))
  | [], ks, vs, ks', vs', i, h1, h2, hs => by
    simp only [List.map_nil] at h1 h2
    have h1l := h1.len; simp at h1l
    have hks : ks = [] := List.eq_nil_of_length_eq_zero h1l.symm
    subst hks
    simp only [setE, Option.some.injEq, Prod.mk.injEq] at hs
    obtain ⟨rfl, rfl⟩ := hs
    exact .inr ⟨rfl, fun born => ⟨by simp only [List.nil_append, List.map_cons, List.map_nil, HoldsL]; exact ⟨u, [], rfl, hku, rfl⟩, by simp only [List.nil_append, List.map_cons, List.map_nil, HoldsL]; exact ⟨v, [], rfl, hyv, rfl⟩⟩⟩
  | e :: es, ks, vs, ks', vs', i, h1, h2, hs => by
    cases ks with
    | nil => simp [HoldsL] at h1
    | cons b ks =>
      cases vs with
      | nil => simp [HoldsL] at h2
      | cons x vs =>
        simp only [List.map_cons, HoldsL] at h1 h2
        obtain ⟨v1, r1, e1, hb, h1⟩ := h1
        obtain ⟨v2, r2, e2, hx, h2⟩ := h2
        simp only [List.cons.injEq] at e1 e2
        obtain ⟨e1, rfl⟩ := e1
        obtain ⟨e2, rfl⟩ := e2
        rw [← e1] at hb; rw [← e2] at hx
        simp only [setE] at hs
        cases hkb : keyE k b with
        | none => rw [hkb] at hs; simp at hs
        | some c =>
          rw [hkb] at hs
          obtain ⟨s1, s2⟩ := keyE_spec hkb hku hb
          have hsn := Aw.sameNow_eq hd hk hkd s1
          rw [s2] at hsn
          cases c with
          | true =>
            simp only [Option.some.injEq, Prod.mk.injEq] at hs
            obtain ⟨rfl, rfl⟩ := hs
            refine .inl ⟨0, e.val, by simp [Instr.findNow, hsn], by simp, fun e' he' => ?_⟩
            simp at he'; subst he'
            refine ⟨s2, ?_, ?_⟩
            · simp only [List.set_cons_zero, List.map_cons, HoldsL]; exact ⟨_, _, rfl, hku, h1⟩
            · simp only [List.set_cons_zero, List.map_cons, HoldsL]; exact ⟨_, _, rfl, hyv, h2⟩
          | false =>
            simp only at hs
            split at hs
            · rename_i r hr
              cases hs
              rcases setE_spec hd hk hku hkd hyv es ks vs r.1 r.2 (i + 1) h1 h2 (by rw [hr]) with ⟨m, v0, f1, f2, f3⟩ | ⟨f1, f2⟩
              · refine .inl ⟨m + 1, v0, ?_, by simp; omega, fun e' he' => ?_⟩
                · simp only [Instr.findNow, hsn, f1]; rw [show i + 1 + m = i + (m + 1) from by omega]
                · obtain ⟨g1, g2, g3⟩ := f3 e' (by simpa using he')
                  refine ⟨g1, ?_, ?_⟩
                  · simp only [List.set_cons_succ, List.map_cons, HoldsL]; exact ⟨_, _, rfl, hb, g2⟩
                  · simp only [List.set_cons_succ, List.map_cons, HoldsL]; exact ⟨_, _, rfl, hx, g3⟩
              · refine .inr ⟨by simp only [Instr.findNow, hsn, f1], fun born => ⟨?_, ?_⟩⟩
                · simp only [List.cons_append, List.map_cons, HoldsL]; exact ⟨_, _, rfl, hb, (f2 born).1⟩
                · simp only [List.cons_append, List.map_cons, HoldsL]; exact ⟨_, _, rfl, hx, (f2 born).2⟩
            · cases hs

def eMupd (kd : Nat) (g : Hv) : List EV → Option Eff
  | [.mp b, k, v] => match g b with
    | some (.map ks vs) => if kindE kd k = true then (match setE k v ks vs with
      | some r => some { out := .unk, upd := [(b, .map r.1 r.2)] }
      | none => none) else none
    | _ => none
  | _ => none
theorem sound_mupd (h : SimE C V a w ρ) {t kt e : TypeId} {x k v : Operand} (hop : o.op = .mapUpdate t x k v ∨ o.op = .insert t x k v) (ht : P.underlying t = some (.map kt e)) {kd : Nat} (hk : kindT P kt = some kd)
    {ef : Eff} (he : eMupd kd V.hp [V.ev x, V.ev k, V.ev v] = some ef) (hd : ∀ i, o.dst = some i → i < C.N) : Sound P C V a w o ef := by
  have hx := h.ev x
  have hku := h.ev k
  have hv := h.ev v
  unfold eMupd at he
  split at he
  · rename_i b ke ve heq
    simp only [List.cons.injEq, and_true] at heq
    obtain ⟨e1, e2, e3⟩ := heq
    rw [e1] at hx; rw [e2] at hku; rw [e3] at hv
    simp only [Holds] at hx
    obtain ⟨L, hρ, hxv⟩ := hx
    split at he
    · rename_i ks vs hb
      split at he
      · rename_i hkk
        split at he
        · rename_i r hr
          cases he
          obtain ⟨L', hL', _, hB⟩ := h.mem.live hb (by simp)
          rw [hρ] at hL'; cases hL'
          have hlt := hB.lt
          obtain ⟨es, clock, hm, hks, hvs, hborn, hlast⟩ := hB
          have hgo : (getObj L.c).run P w = .ok (.map es clock) w := by simp [getObj, Sem.run, hm]
          have hc := checkKey_run (P := P) hk false 9999 (a.eval k) w
          have hso : ∀ ob, (setObj L.c ob).run P w = .ok () { w with heap := w.heap.setIfInBounds L.c ob } := by intro ob; simp [setObj, Sem.run, hm]
          cases hdk : P.underlying kt with
          | none => simp [kindT, hdk] at hk
          | some d =>
            rcases setE_spec hdk hk hku (kindE_spec hkk hku) hv es.toList ks vs r.1 r.2 0 hks hvs (by rw [hr]) with ⟨m, v0, f1, f2, f3⟩ | ⟨f1, f2⟩
            · have hf : (Instr.findKey kt (a.eval k) es.toList).run P w = .ok (some (m, v0)) w := by simp [Instr.findKey, run_underlying hdk, f1]
              have hm' : m < es.size := by simpa using f2
              obtain ⟨g1, g2, g3⟩ := f3 es[m] (by simp [hm'])
              have hkey : (((es[m]?).map (·.key)).getD (a.eval k)) = es[m].key := by simp [hm']
              have hsb : Instr.sameBits 10000 es[m].key (a.eval k) = true := Aw.sameBits_of_keyEq g1 _
              have hl : (es.modify m fun e => { e with key := a.eval k, val := a.eval v }).toList = es.toList.set m { es[m] with key := a.eval k, val := a.eval v } := by
                apply List.ext_getElem?
                intro i
                rw [Array.getElem?_toList, Array.getElem?_modify, List.getElem?_set]
                by_cases e : m = i
                · subst e; simp [hm']
                · simp [e]
              refine sound_skip h (w' := { w with heap := w.heap.setIfInBounds L.c (.map (es.modify m fun e => { e with key := a.eval k, val := a.eval v }) clock) }) ?_ (Ren.le_refl _) ?_ hd
              · rcases hop with hop | hop <;> simp only [execOp, hop, hxv, Instr.mapUpdate, Sem.run_bind, run_underlying ht, Result.andThen_ok, hgo, hc, hf, hkey, Instr.keyThatStays, hsb, if_true, hso, Sem.run_pure]
              · refine h.mem.setMap hb hρ hlt (by rw [hl]; exact g2) (by rw [hl]; exact g3) ?_ ?_
                · rw [hl]
                  rw [List.pairwise_iff_getElem] at hborn ⊢
                  intro i j hi hj hij
                  have key : ∀ q (hq : q < (es.toList.set m { es[m] with key := a.eval k, val := a.eval v }).length), ((es.toList.set m { es[m] with key := a.eval k, val := a.eval v })[q]).born = (es.toList[q]'(by simpa using hq)).born := by
                    intro q hq
                    rw [List.getElem_set]; split
                    · rename_i e; subst e; simp
                    · rfl
                  rw [key, key]; exact hborn i j (by simpa using hi) (by simpa using hj) hij
                · rw [hl]
                  intro z hz
                  rcases List.mem_or_eq_of_mem_set hz with hz | hz
                  · exact hlast z hz
                  · rw [hz]; exact hlast es[m] (by simp)
            · have hf : (Instr.findKey kt (a.eval k) es.toList).run P w = .ok none w := by simp [Instr.findKey, run_underlying hdk, f1]
              refine sound_skip h (w' := { w with heap := w.heap.setIfInBounds L.c (.map (es.push { key := a.eval k, val := a.eval v, born := clock }) (clock + 1)) }) ?_ (Ren.le_refl _) ?_ hd
              · rcases hop with hop | hop <;> simp only [execOp, hop, hxv, Instr.mapUpdate, Sem.run_bind, run_underlying ht, Result.andThen_ok, hgo, hc, hf, hso, Sem.run_pure]
              · have hpl : (es.push { key := a.eval k, val := a.eval v, born := clock }).toList = es.toList ++ [(⟨a.eval k, a.eval v, clock⟩ : MapEntry)] := by simp
                refine h.mem.setMap hb hρ hlt (by rw [hpl]; exact (f2 clock).1) (by rw [hpl]; exact (f2 clock).2) ?_ ?_
                · rw [hpl, List.pairwise_append]
                  refine ⟨hborn, by simp, fun x hx y hy => ?_⟩
                  simp at hy; subst hy; exact hlast x hx
                · rw [hpl]
                  intro z hz
                  rcases List.mem_append.1 hz with hz | hz
                  · have := hlast z hz; omega
                  · simp at hz; subst hz; simp
        · cases he
      · cases he
    · cases he
  · cases he
end Go.Ev
