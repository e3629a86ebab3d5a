/- Map updates; slices that grow. -/
import Derived.Test.YtldaibijdhjpjaaAwL
set_option linter.unusedSimpArgs false
set_option linter.unusedVariables false
namespace Go.Aw
variable {P : Program} {C : Ctx} {V : View} {a : Act} {w : World} {fz : Fz} {ρ : Ren} {o : Oper} {Q : Exit → Act → World → Prop}

theorem kvSet_ffind {k : Value} {y : AV} : ∀ (es : List MapEntry) (vs : List AV) (i : Nat), vs.length = es.length →
    match ffind k es i with
    | some (j, _) => ∃ m, j = i + m ∧ m < es.length ∧ (∀ e, es[m]? = some e → keyEq k e.key = true) ∧ kvSet k y (es.map (·.key)) vs = ((es.map (·.key)).set m k, vs.set m y)
    | none => kvSet k y (es.map (·.key)) vs = (es.map (·.key) ++ [k], vs ++ [y])
  | [], vs, i, h => by
    have : vs = [] := List.eq_nil_of_length_eq_zero h
    subst this
    simp [ffind, kvSet]
  | e :: es, vs, i, h => by
    cases vs with
    | nil => simp at h
    | cons x vs =>
      simp only [ffind, List.map_cons, kvSet]
      cases hk : keyEq k e.key with
      | true => simp only [if_true]; exact ⟨0, rfl, by simp, by simpa using hk, rfl⟩
      | false =>
        simp only [Bool.false_eq_true, if_false]
        have ih := kvSet_ffind (k := k) (y := y) es vs (i + 1) (by simpa using h)
        cases hf : ffind k es (i + 1) with
        | none => rw [hf] at ih; simp only at ih ⊢; rw [ih]; rfl
        | some q =>
          obtain ⟨j, v⟩ := q
          rw [hf] at ih
          obtain ⟨m, h1, h2, h3, h4⟩ := ih
          exact ⟨m + 1, by omega, by simpa using h2, by simpa using h3, by rw [h4]; rfl⟩

theorem sameBits_of_keyEq {k x : Value} (h : keyEq k x = true) (n : Nat) : Instr.sameBits n x k = true := by
  cases k <;> cases x <;> simp [keyEq] at h <;> cases n <;> simp [Instr.sameBits, h, beq_toListBytes]

def World.setObj (w : World) (c : Nat) (ob : Obj) : World := { w with heap := w.heap.setIfInBounds c ob }
theorem SimE.setMap (h : SimE C V a w fz ρ) {b c : Nat} {k0 k : Blk} (hb : V.hp b = some k0) (hc : ρ b = some c) {ob : Obj} (hk : BlkAt fz ρ (World.setObj w c ob) c k)
    (hown : ∀ j, isOwn (k.at j) = true → k.at j = k0.at j ∧ cellAt (World.setObj w c ob) c j = cellAt w c j) : SimE C (V.setB b k) a (World.setObj w c ob) fz ρ :=
  h.setBlk hb hc rfl rfl rfl (by simp [World.setObj]) (fun i hi => by simp [World.setObj, Ne.symm hi]) hk hown

theorem sound_mupd (h : SimE C V a w fz ρ) {t kt e : TypeId} {x k v : Operand} (hop : o.op = .mapUpdate t x k v) (ht : P.underlying t = some (.map kt e)) {kd : Nat} (hk : kindT P kt = some kd)
    {g : Nat → Option Blk} (hg : ∀ b k, g b = some k → V.hp b = some k) {ef : Eff} (he : aMupd kd g [V.ev x, V.ev k, V.ev v] = some ef) (hob : ef.ob) (hd : ∀ i, o.dst = some i → i < C.N) : Sound P C V a w o ef := by
  have hx := h.ev x
  have hkv := h.ev k
  have hv := h.ev v
  unfold aMupd at he
  split at he
  · rename_i b kv vv heq
    simp only [List.cons.injEq, and_true] at heq
    obtain ⟨e1, e2, e3⟩ := heq
    rw [e1] at hx; rw [e2] at hkv; rw [e3] at hv
    simp only [Holds] at hx hkv
    obtain ⟨c, hρ, hxv⟩ := hx
    split at he
    · rename_i ks vs hgb
      split at he
      · rename_i hkk
        cases he
        obtain ⟨c', hc', hBM, ⟨es, clock, hm, hks, hvs, hborn, hlast⟩, hfz⟩ := h.hp _ _ (hg _ _ hgb)
        rw [hρ] at hc'; cases hc'
        subst hks
        simp only at hob
        have hlen : vs.length = es.toList.length := by simpa using hvs.len.symm
        have hset := kvSet_ffind (k := kv) (y := dem vv) es.toList vs 0 hlen
        have hgo : (getObj c).run P w = .ok (.map es clock) w := by simp [getObj, Sem.run, hm]
        have hf := findKey_run hk hkk.2 hob w
        have hc := checkKey_run hk false 9999 kv w
        have hso : ∀ ob, (setObj c ob).run P w = .ok () { w with heap := w.heap.setIfInBounds c ob } := by intro ob; simp [setObj, Sem.run, hm]
        have hcs : c < w.heap.size := lt_of_heap hm
        intro Q
        cases hff : ffind kv es.toList 0 with
        | none =>
          rw [hff] at hset hf
          simp only at hset
          refine wp_of_skip (w' := { w with heap := w.heap.setIfInBounds c (.map (es.push { key := kv, val := a.eval v, born := clock }) (clock + 1)) }) ?_ ⟨fz, ρ, ?_⟩
          · simp only [execOp, hop, hxv, hkv, Instr.mapUpdate, Sem.run_bind, run_underlying ht, Result.andThen_ok, hgo, hc, hf, hso, Sem.run_pure]
          · simp only [View.app, View.demP, View.setBO]
            rw [hset]
            refine SimE.putO (h.setMap (hg _ _ hgb) hρ ?_ ?_) hd (by simp only [Holds]) rfl
            · refine ⟨es.push { key := kv, val := a.eval v, born := clock }, clock + 1, by simp only [World.setObj, Array.getElem?_setIfInBounds_self_of_lt hcs], by simp, ?_, ?_, ?_⟩
              · simp only [Array.toList_push, List.map_append, List.map_cons, List.map_nil]
                exact hvs.append (by simp only [HoldsL]; exact ⟨_, [], rfl, hv.dem, rfl⟩)
              · simp only [Array.toList_push, List.pairwise_append]
                exact ⟨hborn, by simp, fun x hx y hy => by simp at hy; subst hy; exact hlast x hx⟩
              · intro x hx
                simp only [Array.toList_push, List.mem_append, List.mem_singleton] at hx
                rcases hx with hx | rfl
                · have := hlast x hx; omega
                · simp
            · intro j hj
              simp only [Blk.at, List.getD_eq_getElem?_getD] at hj ⊢
              by_cases k1 : j < vs.length
              · refine ⟨by rw [List.getElem?_append_left k1], ?_⟩
                have k2 : j < es.size := by have := hlen; simp at this; omega
                have k3 : (es.push { key := kv, val := a.eval v, born := clock })[j]? = es[j]? := by rw [Array.getElem?_push, if_neg (Nat.ne_of_lt k2)]
                simp only [cellAt, World.setObj, Array.getElem?_setIfInBounds_self_of_lt hcs, hm, k3]
              · exfalso
                by_cases k2 : j = vs.length
                · subst k2; simp [isOwn_dem] at hj
                · rw [List.getElem?_eq_none (by simp; omega)] at hj; simp [isOwn] at hj
        | some q =>
          obtain ⟨j0, v0⟩ := q
          rw [hff] at hset hf
          obtain ⟨m, hm1, hm2, hm3, hm4⟩ := hset
          simp only [Nat.zero_add] at hm1
          subst hm1
          have hm2' : j0 < es.size := by simpa using hm2
          have hkey : (((es[j0]?).map (·.key)).getD kv) = es[j0].key := by simp [hm2']
          have hsb : Instr.sameBits 10000 es[j0].key kv = true := sameBits_of_keyEq (hm3 _ (by simp [hm2'])) _
          refine wp_of_skip (w' := { w with heap := w.heap.setIfInBounds c (.map (es.modify j0 fun e => { e with key := kv, val := a.eval v }) clock) }) ?_ ⟨fz, ρ, ?_⟩
          · simp only [execOp, hop, hxv, hkv, Instr.mapUpdate, Sem.run_bind, run_underlying ht, Result.andThen_ok, hgo, hc, hf, hkey, Instr.keyThatStays, hsb, if_true, hso, Sem.run_pure]
          · simp only [View.app, View.demP, View.setBO]
            rw [hm4]
            have hl : (es.modify j0 fun e => { e with key := kv, val := a.eval v }).toList = es.toList.set j0 { es[j0] with key := kv, val := a.eval v } := by
              apply List.ext_getElem?
              intro i
              rw [Array.getElem?_toList, Array.getElem?_modify, List.getElem?_set]
              by_cases e : j0 = i
              · subst e; simp [hm2']
              · simp [e]
            refine SimE.putO (h.setMap (hg _ _ hgb) hρ ?_ ?_) hd (by simp only [Holds]) rfl
            · refine ⟨es.modify j0 fun e => { e with key := kv, val := a.eval v }, clock, by simp only [World.setObj, Array.getElem?_setIfInBounds_self_of_lt hcs], by rw [hl, List.map_set], ?_, ?_, ?_⟩
              · rw [hl, List.map_set]; exact hvs.set j0 hv.dem
              · rw [hl]
                have hb2 : (es.toList.set j0 { es[j0] with key := kv, val := a.eval v }).map (·.born) = es.toList.map (·.born) := by
                  rw [List.map_set]
                  apply List.ext_getElem?
                  intro i
                  rw [List.getElem?_set]
                  by_cases e : j0 = i
                  · subst e; simp [hm2']
                  · simp [e]
                have e1 := (List.pairwise_map (f := fun x : MapEntry => x.born) (R := fun x y : Nat => x < y)).2 hborn
                rw [← hb2] at e1
                exact (List.pairwise_map (f := fun x : MapEntry => x.born) (R := fun x y : Nat => x < y)).1 e1
              · intro x hx
                rw [hl] at hx
                rcases List.mem_or_eq_of_mem_set hx with hx | rfl
                · exact hlast x hx
                · exact hlast es[j0] (by simp)
            · intro j hj
              simp only [Blk.at, List.getD_eq_getElem?_getD, List.getElem?_set] at hj ⊢
              by_cases e : j0 = j
              · subst e
                have : j0 < vs.length := by omega
                simp [this, isOwn_dem] at hj
              · refine ⟨by simp [e], ?_⟩
                have k3 : (es.modify j0 fun e => { e with key := kv, val := a.eval v })[j]? = es[j]? := by rw [Array.getElem?_modify, if_neg e]
                simp only [cellAt, World.setObj, Array.getElem?_setIfInBounds_self_of_lt hcs, hm, k3]
      · cases he
    · cases he
  · cases he
end Go.Aw
