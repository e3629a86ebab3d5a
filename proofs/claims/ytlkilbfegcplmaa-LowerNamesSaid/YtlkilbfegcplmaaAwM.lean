/- Map updates; slices that grow. -/
import Derived.Test.YtlkilbfegcplmaaAwL
import Derived.WalkSpells
set_option linter.unusedSimpArgs false
set_option linter.unusedVariables false
namespace Go.Aw
variable {P : Program} {C : Ctx} {V : View} {a : Act} {w : World} {fz : Fz} {ρ : Ren} {o : Oper} {Q : Exit → Act → World → Prop}

theorem kvSet_ffind {k : Value} {y : AV} : ∀ (es : List MapEntry) (vs : List AV) (i : Nat), vs.length = es.length →
    match ffind k es i with
    | some (j, _) => ∃ m, j = i + m ∧ m < es.length ∧ (∀ e, es[m]? = some e → keyEq k e.key = true) ∧ kvSet k y (es.map (·.key)) vs = ((es.map (·.key)).set m k, vs.set m y)
    | none => kvSet k y (es.map (·.key)) vs = (es.map (·.key) ++ [k], vs ++ [y])
  | [], vs, i, h => by
    have : vs = [] := List.eq_nil_of_length_eq_zero h
    subst this
    simp [ffind, kvSet]
  | e :: es, vs, i, h => by
    cases vs with
    | nil => simp at h
    | cons x vs =>
      simp only [ffind, List.map_cons, kvSet]
      cases hk : keyEq k e.key with
      | true => simp only [if_true]; exact ⟨0, rfl, by simp, by simpa using hk, rfl⟩
      | false =>
        simp only [Bool.false_eq_true, if_false]
        have ih := kvSet_ffind (k := k) (y := y) es vs (i + 1) (by simpa using h)
        cases hf : ffind k es (i + 1) with
        | none => rw [hf] at ih; simp only at ih ⊢; rw [ih]; rfl
        | some q =>
          obtain ⟨j, v⟩ := q
          rw [hf] at ih
          obtain ⟨m, h1, h2, h3, h4⟩ := ih
          exact ⟨m + 1, by omega, by simpa using h2, by simpa using h3, by rw [h4]; rfl⟩

theorem sameBits_of_keyEq {k x : Value} (h : keyEq k x = true) (n : Nat) : Instr.sameBits n x k = true := by
  cases k <;> cases x <;> simp [keyEq] at h <;> cases n <;> simp [Instr.sameBits, h, beq_toListBytes]

def World.setObj (w : World) (c : Nat) (ob : Obj) : World := { w with heap := w.heap.setIfInBounds c ob }
theorem SimE.setMap (h : SimE C V a w fz ρ) {b c : Nat} {k0 k : Blk} (hb : V.hp b = some k0) (hc : ρ b = some c) {ob : Obj} (hk : BlkAt fz ρ (World.setObj w c ob) c k)
    (hown : ∀ j, isOwn (k.at j) = true → k.at j = k0.at j ∧ cellAt (World.setObj w c ob) c j = cellAt w c j) : SimE C (V.setB b k) a (World.setObj w c ob) fz ρ :=
  h.setBlk hb hc rfl rfl rfl (by simp [World.setObj]) (fun i hi => by simp [World.setObj, Ne.symm hi]) hk hown

theorem sound_mupd (h : SimE C V a w fz ρ) {t kt e : TypeId} {x k v : Operand} (hop : o.op = .mapUpdate t x k v) (ht : P.underlying t = some (.map kt e)) {kd : Nat} (hk : kindT P kt = some kd)
    {g : Nat → Option Blk} (hg : ∀ b k, g b = some k → V.hp b = some k) {ef : Eff} (he : aMupd kd g [V.ev x, V.ev k, V.ev v] = some ef) (hob : ef.ob) (hd : ∀ i, o.dst = some i → i < C.N) : Sound P C V a w o ef := by
  have hx := h.ev x
  have hkv := h.ev k
  have hv := h.ev v
  unfold aMupd at he
  split at he
  · rename_i b kv vv heq
    simp only [List.cons.injEq, and_true] at heq
    obtain ⟨e1, e2, e3⟩ := heq
    rw [e1] at hx; rw [e2] at hkv; rw [e3] at hv
    simp only [Holds] at hx hkv
    obtain ⟨c, hρ, hxv⟩ := hx
    split at he
    · rename_i ks vs hgb
      split at he
      · rename_i hkk
        cases he
        obtain ⟨c', hc', hBM, ⟨es, clock, hm, hks, hvs, hclk, hborn⟩, hfz⟩ := h.hp _ _ (hg _ _ hgb)
        rw [hρ] at hc'; cases hc'
        subst hks
        simp only at hob
        have hlen : vs.length = es.toList.length := by simpa using hvs.len.symm
        have hset := kvSet_ffind (k := kv) (y := dem vv) es.toList vs 0 hlen
        have hgo : (getObj c).run P w = .ok (.map es clock) w := by simp [getObj, Sem.run, hm]
        have hf := findKey_run hk hkk.2 hob w
        have hc := checkKey_run hk false 9999 kv w
        have hso : ∀ ob, (setObj c ob).run P w = .ok () { w with heap := w.heap.setIfInBounds c ob } := by intro ob; simp [setObj, Sem.run, hm]
        have hcs : c < w.heap.size := lt_of_heap hm
        intro Q
        cases hff : ffind kv es.toList 0 with
        | none =>
          rw [hff] at hset hf
          simp only at hset
          refine wp_of_skip (w' := { w with heap := w.heap.setIfInBounds c (.map (es.push { key := kv, val := a.eval v, born := clock }) (clock + 1)) }) ?_ ⟨fz, ρ, ?_⟩
          · simp only [execOp, hop, hxv, hkv, Instr.mapUpdate, Sem.run_bind, run_underlying ht, Result.andThen_ok, hgo, hc, hf, hso, Sem.run_pure]
          · simp only [View.app, View.demP, View.setBO]
            rw [hset]
            refine SimE.putO (h.setMap (hg _ _ hgb) hρ ?_ ?_) hd (by simp only [Holds]) rfl
            · refine ⟨es.push { key := kv, val := a.eval v, born := clock }, clock + 1, by simp only [World.setObj, Array.getElem?_setIfInBounds_self_of_lt hcs], by simp, ?_, ?_, ?_⟩
              · simp only [Array.toList_push, List.map_append, List.map_cons, List.map_nil]
                exact hvs.append (by simp only [HoldsL]; exact ⟨_, [], rfl, hv.dem, rfl⟩)
              · simp [hclk]
              · intro j x hx
                rw [Array.getElem?_push] at hx
                split at hx
                · rename_i e; cases hx; simp only; omega
                · exact hborn j x hx
            · intro j hj
              simp only [Blk.at, List.getD_eq_getElem?_getD] at hj ⊢
              by_cases k1 : j < vs.length
              · refine ⟨by rw [List.getElem?_append_left k1], ?_⟩
                have k2 : j < es.size := by have := hlen; simp at this; omega
                have k3 : (es.push { key := kv, val := a.eval v, born := clock })[j]? = es[j]? := by rw [Array.getElem?_push, if_neg (Nat.ne_of_lt k2)]
                simp only [cellAt, World.setObj, Array.getElem?_setIfInBounds_self_of_lt hcs, hm, k3]
              · exfalso
                by_cases k2 : j = vs.length
                · subst k2; simp [isOwn_dem] at hj
                · rw [List.getElem?_eq_none (by simp; omega)] at hj; simp [isOwn] at hj
        | some q =>
          obtain ⟨j0, v0⟩ := q
          rw [hff] at hset hf
          obtain ⟨m, hm1, hm2, hm3, hm4⟩ := hset
          simp only [Nat.zero_add] at hm1
          subst hm1
          have hm2' : j0 < es.size := by simpa using hm2
          have hkey : (((es[j0]?).map (·.key)).getD kv) = es[j0].key := by simp [hm2']
          have hsb : Instr.sameBits 10000 es[j0].key kv = true := sameBits_of_keyEq (hm3 _ (by simp [hm2'])) _
          refine wp_of_skip (w' := { w with heap := w.heap.setIfInBounds c (.map (es.modify j0 fun e => { e with key := kv, val := a.eval v }) clock) }) ?_ ⟨fz, ρ, ?_⟩
          · simp only [execOp, hop, hxv, hkv, Instr.mapUpdate, Sem.run_bind, run_underlying ht, Result.andThen_ok, hgo, hc, hf, hkey, Instr.keyThatStays, hsb, if_true, hso, Sem.run_pure]
          · simp only [View.app, View.demP, View.setBO]
            rw [hm4]
            have hl : (es.modify j0 fun e => { e with key := kv, val := a.eval v }).toList = es.toList.set j0 { es[j0] with key := kv, val := a.eval v } := by
              apply List.ext_getElem?
              intro i
              rw [Array.getElem?_toList, Array.getElem?_modify, List.getElem?_set]
              by_cases e : j0 = i
              · subst e; simp [hm2']
              · simp [e]
            refine SimE.putO (h.setMap (hg _ _ hgb) hρ ?_ ?_) hd (by simp only [Holds]) rfl
            · refine ⟨es.modify j0 fun e => { e with key := kv, val := a.eval v }, clock, by simp only [World.setObj, Array.getElem?_setIfInBounds_self_of_lt hcs], by rw [hl, List.map_set], ?_, ?_, ?_⟩
              · rw [hl, List.map_set]; exact hvs.set j0 hv.dem
              · simp [hclk]
              · intro j x hx
                rw [Array.getElem?_modify] at hx
                split at hx
                · rename_i e; subst e
                  simp [hm2'] at hx
                  rw [← hx]; simp only; exact hborn _ es[j0] (by simp [hm2'])
                · exact hborn j x hx
            · intro j hj
              simp only [Blk.at, List.getD_eq_getElem?_getD, List.getElem?_set] at hj ⊢
              by_cases e : j0 = j
              · subst e
                have : j0 < vs.length := by omega
                simp [this, isOwn_dem] at hj
              · refine ⟨by simp [e], ?_⟩
                have k3 : (es.modify j0 fun e => { e with key := kv, val := a.eval v })[j]? = es[j]? := by rw [Array.getElem?_modify, if_neg e]
                simp only [cellAt, World.setObj, Array.getElem?_setIfInBounds_self_of_lt hcs, hm, k3]
      · cases he
    · cases he
  · cases he

theorem sound_isnil (h : SimE C V a w fz ρ) {neg : Bool} {op : BinOp} (hneg : op = if neg then .neq else .eql) {t u : TypeId} {x : Operand} (hop : o.op = .binOp op t x (.const (.map none)) u) {kt e : TypeId} (ht : P.underlying t = some (.map kt e))
    {ef : Eff} (he : aIsnil neg [V.ev x] = some ef) (hd : ∀ i, o.dst = some i → i < C.N) : Sound P C V a w o ef := by
  have hx := h.ev x
  have key : ∀ r : Option Nat, a.eval x = .map r → (execOp a.eval o).run P w = .ok (.value (.bool (if neg then !r.isNone else r.isNone))) w := by
    intro r hr
    have h1 : (eqGuard op t x (.const (.map none)) (a.eval x) (.map none)).run P w = .ok () w := by rw [hr]; exact eqGuard_plain _ _ _ _ _ _ rfl (by simp)
    have h2 := run_equalIn_map_nil (P := P) w 9999 t kt e r ht
    have h3 : a.eval (.const (.map none)) = .map none := rfl
    cases neg <;> simp only [Bool.false_eq_true, if_false, if_true] at hneg <;> subst hneg <;> rw [hr] at h1 <;>
      simp [execOp, hop, h1, h3, hr, binOp, Op.equal, Op.maxDepth, h2]
  unfold aIsnil at he
  split at he
  · rename_i b heq
    simp only [List.cons.injEq, and_true] at heq
    rw [heq] at hx; simp only [Holds] at hx
    obtain ⟨c, _, hv⟩ := hx
    cases he
    refine sound_value h (key (some c) hv) hd ?_ rfl
    cases neg <;> simp [Holds]
  · rename_i heq
    simp only [List.cons.injEq, and_true] at heq
    rw [heq] at hx; simp only [Holds] at hx
    cases he
    refine sound_value h (key none hx) hd ?_ rfl
    cases neg <;> simp [Holds]
  · cases he

theorem kvDel_ffind {k : Value} : ∀ (es : List MapEntry) (vs : List AV) (i : Nat), vs.length = es.length →
    match ffind k es i with
    | some (j, _) => ∃ m, j = i + m ∧ m < es.length ∧ kvDel k (es.map (·.key)) vs = ((es.map (·.key)).eraseIdx m, vs.eraseIdx m)
    | none => kvDel k (es.map (·.key)) vs = (es.map (·.key), vs)
  | [], vs, i, h => by
    have : vs = [] := List.eq_nil_of_length_eq_zero h
    subst this
    simp [ffind, kvDel]
  | e :: es, vs, i, h => by
    cases vs with
    | nil => simp at h
    | cons x vs =>
      simp only [ffind, List.map_cons, kvDel]
      cases hk : keyEq k e.key with
      | true => simp only [if_true]; exact ⟨0, rfl, by simp, rfl⟩
      | false =>
        simp only [Bool.false_eq_true, if_false]
        have ih := kvDel_ffind (k := k) es vs (i + 1) (by simpa using h)
        cases hf : ffind k es (i + 1) with
        | none => rw [hf] at ih; simp only at ih ⊢; rw [ih]
        | some q =>
          obtain ⟨j, v⟩ := q
          rw [hf] at ih
          obtain ⟨m, h1, h2, h3⟩ := ih
          exact ⟨m + 1, by omega, by simpa using h2, by rw [h3]; rfl⟩
theorem map_eraseIdx' {α β : Type} (f : α → β) : ∀ (l : List α) (i : Nat), (l.eraseIdx i).map f = (l.map f).eraseIdx i
  | [], i => by simp
  | x :: l, 0 => by simp
  | x :: l, i + 1 => by simp [map_eraseIdx' f l i]
theorem HoldsL.eraseIdx : ∀ {l : List AV} {ρ : Ren} {vs : List Value} (i : Nat), HoldsL fz l ρ vs → HoldsL fz (l.eraseIdx i) ρ (vs.eraseIdx i)
  | [], _, vs, i, h => by simp only [HoldsL] at h; subst h; simp [HoldsL]
  | x :: l, _, vs, 0, h => by simp only [HoldsL] at h; obtain ⟨v, r, rfl, _, h⟩ := h; simpa using h
  | x :: l, _, vs, i + 1, h => by
    simp only [HoldsL] at h; obtain ⟨v, r, rfl, h1, h⟩ := h
    simp only [List.eraseIdx_cons_succ, HoldsL]; exact ⟨v, r.eraseIdx i, rfl, h1, h.eraseIdx i⟩
/-- a map, of which nothing is known but what it holds -/
theorem BlkAt.weakMap {c : Nat} {ks : List Value} {vs : List AV} (h : BlkAt fz ρ w c (.map ks vs)) : BlkAt fz ρ w c (.mapd ks vs) := by
  obtain ⟨es, clock, h1, h2, h3, h4, h5⟩ := h
  refine ⟨es, clock, h1, h2, h3, ?_, fun x hx => ?_⟩
  · rw [List.pairwise_iff_getElem]
    intro i j hi hj hij
    have e1 := h5 i es.toList[i] (by simp)
    have e2 := h5 j es.toList[j] (by simp)
    omega
  · obtain ⟨i, hi⟩ := List.mem_iff_getElem?.1 hx
    have e1 := h5 i x (by simpa using hi)
    have : i < es.size := by
      obtain ⟨hlt, _⟩ := List.getElem?_eq_some_iff.1 hi
      simpa using hlt
    omega
theorem sound_del (h : SimE C V a w fz ρ) {t kt e u : TypeId} {x k : Operand} (hop : o.op = .call { callee := .builtin .delete, args := #[x, k], argTypes := #[t, u] }) (ht : P.underlying t = some (.map kt e)) {kd : Nat} (hk : kindT P kt = some kd)
    {g : Nat → Option Blk} (hg : ∀ b k, g b = some k → V.hp b = some k) {ef : Eff} (he : aDel kd g [V.ev x, V.ev k] = some ef) (hob : ef.ob) (hd : ∀ i, o.dst = some i → i < C.N) : Sound P C V a w o ef := by
  have hx := h.ev x
  have hkv := h.ev k
  have main : ∀ (b : Nat) (kv : Value) (k0 : Blk) (ks : List Value) (vs : List AV), V.ev x = .mapr b → V.ev k = .val kv → V.hp b = some k0 → k0.len = vs.length → (∀ j, k0.at j = vs.getD j .unk) → (∀ c, BlkAt fz ρ w c k0 → BlkAt fz ρ w c (.mapd ks vs)) →
      kindV kd kv = true → (vs.all fun x => !isOwn x) = true → (∀ a ∈ ks, sameKind kv a = true) →
      Sound P C V a w o { out := .val (.tuple #[]), blk := some (b, .mapd (kvDel kv ks vs).1 (kvDel kv ks vs).2), ob := ∀ a ∈ ks, sameKind kv a = true } := by
    intro b kv k0 ks vs e1 e2 hb hlen0 hat0 hbw hkk hno hob
    rw [e1] at hx; rw [e2] at hkv
    simp only [Holds] at hx hkv
    obtain ⟨c, hρ, hxv⟩ := hx
    obtain ⟨c', hc', hBM, hB, hfz⟩ := h.hp _ _ hb
    rw [hρ] at hc'; cases hc'
    obtain ⟨es, clock, hm, hks, hvs, hborn, hlast⟩ := hbw c hB
    subst hks
    have hlen : vs.length = es.toList.length := by simpa using hvs.len.symm
    have hdel := kvDel_ffind (k := kv) es.toList vs 0 hlen
    have hgo : (getObj c).run P w = .ok (.map es clock) w := by simp [getObj, Sem.run, hm]
    have hf := findKey_run hk hkk hob w
    have hc := checkKey_run hk es.isEmpty 9999 kv w
    have hso : ∀ ob, (setObj c ob).run P w = .ok () { w with heap := w.heap.setIfInBounds c ob } := by intro ob; simp [setObj, Sem.run, hm]
    have hcs : c < w.heap.size := lt_of_heap hm
    have hown : ∀ l : List AV, (∀ x ∈ l, x ∈ vs) → ∀ j, isOwn (l.getD j .unk) = false := by
      intro l hl j
      rw [List.getD_eq_getElem?_getD]
      cases hj : l[j]? with
      | none => rfl
      | some y =>
        have := List.all_eq_true.1 hno y (hl y (List.mem_of_getElem? hj))
        simpa using this
    intro Q
    cases hff : ffind kv es.toList 0 with
    | none =>
      rw [hff] at hdel hf
      simp only at hdel
      refine wp_of_value (v := .tuple #[]) (w' := { w with heap := w.heap.setIfInBounds c (.map es clock) }) ?_ ⟨fz, ρ, ?_⟩
      · simp only [execOp, hop, resolve, invoke, builtin, Builtin.delete_, hxv, hkv, Array.map, List.map, Sem.run_bind, run_underlying ht, Result.andThen_ok, hgo, hc, hf, hso, Sem.run_pure]
        simp [hxv, hkv, run_underlying ht, hgo, hc, hf, hso]
      · simp only [View.app, View.demP, View.setBO, View.setBs]
        rw [hdel]
        refine SimE.putO (h.setMap hb hρ ?_ (fun j hj => ?_)) hd (by simp only [Holds]) rfl
        · exact ⟨es, clock, by simp only [World.setObj, Array.getElem?_setIfInBounds_self_of_lt hcs], rfl, hvs, hborn, hlast⟩
        · simp only [Blk.at] at hj; rw [hown vs (fun _ h => h) j] at hj; cases hj
    | some q =>
      obtain ⟨j0, v0⟩ := q
      rw [hff] at hdel hf
      obtain ⟨m, hm1, hm2, hm3⟩ := hdel
      simp only [Nat.zero_add] at hm1
      subst hm1
      have hm2' : j0 < es.size := by simpa using hm2
      refine wp_of_value (v := .tuple #[]) (w' := { w with heap := w.heap.setIfInBounds c (.map (es.eraseIdxIfInBounds j0) clock) }) ?_ ⟨fz, ρ, ?_⟩
      · simp [execOp, hop, resolve, invoke, builtin, Builtin.delete_, hxv, hkv, run_underlying ht, hgo, hc, hf, hso]
      · simp only [View.app, View.demP, View.setBO, View.setBs]
        rw [hm3]
        have hl : (es.eraseIdxIfInBounds j0).toList = es.toList.eraseIdx j0 := by simp [Array.eraseIdxIfInBounds, hm2']
        refine SimE.putO (h.setMap hb hρ ?_ (fun j hj => ?_)) hd (by simp only [Holds]) rfl
        · refine ⟨es.eraseIdxIfInBounds j0, clock, by simp only [World.setObj, Array.getElem?_setIfInBounds_self_of_lt hcs], ?_, ?_, ?_, ?_⟩
          · rw [hl, map_eraseIdx']
          · rw [hl, map_eraseIdx']; exact hvs.eraseIdx j0
          · rw [hl]; exact hborn.sublist (List.eraseIdx_sublist _ _)
          · rw [hl]; exact fun x hx => hlast x (List.mem_of_mem_eraseIdx hx)
        · simp only [Blk.at] at hj; rw [hown _ (fun x hx => List.mem_of_mem_eraseIdx hx) j] at hj; cases hj
  unfold aDel at he
  split at he
  · rename_i b kv heq
    simp only [List.cons.injEq, and_true] at heq
    split at he
    · rename_i ks vs hgb
      split at he
      · rename_i hkk
        cases he
        exact main b kv _ ks vs heq.1 heq.2 (hg _ _ hgb) rfl (fun _ => rfl) (fun c hB => hB.weakMap) hkk.1 hkk.2 hob
      · cases he
    · rename_i ks vs hgb
      split at he
      · rename_i hkk
        cases he
        exact main b kv _ ks vs heq.1 heq.2 (hg _ _ hgb) rfl (fun _ => rfl) (fun c hB => hB) hkk.1 hkk.2 hob
      · cases he
    · cases he
  · cases he
end Go.Aw
