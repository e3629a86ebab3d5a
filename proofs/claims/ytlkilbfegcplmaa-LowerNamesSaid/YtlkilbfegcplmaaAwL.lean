/- Stores; maps. -/
import Derived.Test.YtlkilbfegcplmaaAwK
set_option linter.unusedSimpArgs false
set_option linter.unusedVariables false
namespace Go.Aw
variable {P : Program} {C : Ctx} {V : View} {a : Act} {w : World} {fz : Fz} {ρ : Ren} {o : Oper} {Q : Exit → Act → World → Prop}

theorem setRow_size (w : World) (g : Nat) (cs : Array Value) : (w.setRow g cs).heap.size = w.heap.size := by simp [World.setRow]

theorem storeVar_run {t : TypeId} {n : Nat} (hn : szOf P t = some n) {c off : Nat} {cur : Array Value} {e : TypeId} (hc : w.heap[c]? = some (.cells cur e (0, 0))) {v : Value} (hv : v.cells.size = n) (hfit : off + n ≤ cur.size) (h1 : ∀ u ∈ v.cells.toList, u.oneCell' = true) :
    (storeVar t ⟨c, off, none⟩ v).run P w = .ok () (w.setRow c (cur.toList.take off ++ v.cells.toList ++ cur.toList.drop (off + n)).toArray) := by
  have := run_storeCells_at P c off e v.cells.toList 0 cur w hc (by simp [hv]; omega) h1
  simp only [Nat.add_zero, Array.length_toList, hv] at this
  simp [storeVar, szOf_run hn, hv, this]

theorem SimE.storeAt (h : SimE C V a w fz ρ) {b c off : Nat} {e : TypeId} {cs ns cs' : List AV} (hb : V.hp b = some (.cells e cs)) (hρ : ρ b = some c) {cur : Array Value} (hcur : w.heap[c]? = some (.cells cur e (0, 0)))
    (hl : HoldsL fz cs ρ cur.toList) (hone : ∀ u ∈ cur.toList, u.oneCell' = true) {v : Value} (hns : HoldsL fz ns ρ v.cells.toList) (h1 : ∀ u ∈ v.cells.toList, u.oneCell' = true) {n : Nat} (hsp : splice cs off n (ns.map Aw.dem) = some cs') :
    v.cells.size = n ∧ off + n ≤ cur.size ∧ SimE C (V.setB b (.cells e cs')) a (w.setRow c (cur.toList.take off ++ v.cells.toList ++ cur.toList.drop (off + n)).toArray) fz ρ := by
  simp only [splice] at hsp
  split at hsp
  · rename_i hlen
    cases hsp
    have hnl := hns.len
    have hll := hl.len
    simp only [List.length_map] at hlen
    have hvn : v.cells.size = n := by simpa using hnl.trans hlen.1
    have hcsz : cur.size = cs.length := by simpa using hll
    refine ⟨hvn, by omega, h.setBlk hb hρ rfl rfl rfl (setRow_size _ _ _) (fun i hi => setRow_other w c i _ hi) ?_ ?_⟩
    · refine ⟨_, setRow_heap w c cur _ e _ hcur, by simpa using ((hl.take _).append hns.dem).append (hl.drop _), ?_⟩
      intro u hu
      simp only [List.mem_append] at hu
      rcases hu with (hu | hu) | hu
      · exact hone u (List.mem_of_mem_take hu)
      · exact h1 u hu
      · exact hone u (List.mem_of_mem_drop hu)
    · intro j hj
      have hset := setRow_heap w c cur (cur.toList.take off ++ v.cells.toList ++ cur.toList.drop (off + n)).toArray e (0, 0) hcur
      have key : (cs.take off ++ ns.map Aw.dem ++ cs.drop (off + n))[j]? = cs[j]? ∧ (cur.toList.take off ++ v.cells.toList ++ cur.toList.drop (off + n))[j]? = cur.toList[j]? := by
        by_cases k1 : j < off
        · rw [List.append_assoc, List.append_assoc, List.getElem?_append_left (by simp; omega), List.getElem?_append_left (by simp; omega)]
          simp [k1]
        · by_cases k2 : j < off + n
          · exfalso
            simp only [Blk.at, List.getD_eq_getElem?_getD] at hj
            rw [List.append_assoc, List.getElem?_append_right (by simp; omega), List.getElem?_append_left (by simp; omega)] at hj
            rw [← List.getD_eq_getElem?_getD, own_map_dem] at hj
            cases hj
          · rw [List.getElem?_append_right (by simp; omega), List.getElem?_append_right (by simp; omega)]
            simp only [List.getElem?_drop]
            constructor <;> (congr 1; simp; omega)
      refine ⟨by simp only [Blk.at, List.getD_eq_getElem?_getD, key.1], ?_⟩
      simp only [cellAt, hset, hcur, Array.getD_eq_getD_getElem?, List.getElem?_toArray]
      rw [key.2, Array.getElem?_toList]
  · cases hsp

theorem sound_store (h : SimE C V a w fz ρ) {t : TypeId} {x v' : Operand} (hop : o.op = .store t x v') {n : Nat} (hn : szOf P t = some n) {tk : Bool} {g : Nat → Option Blk}
    (hg : ∀ b k, g b = some k → V.hp b = some k) {ef : Eff} (he : aStore n tk v' g [V.ev x, V.ev v'] = some ef) (hd : ∀ i, o.dst = some i → i < C.N) (hne : ∀ t, v' = .tmp t → o.dst ≠ some t) : Sound P C V a w o ef := by
  have hx := h.ev x
  have hv := h.ev v'
  unfold aStore at he
  split at he
  · rename_i b off vv heq
    simp only [List.cons.injEq, and_true] at heq
    obtain ⟨e1, e2⟩ := heq
    rw [e1] at hx
    simp only [Holds] at hx
    obtain ⟨c, hρ, hxv⟩ := hx
    split at he
    · rename_i e cs hgb
      have hb := hg _ _ hgb
      obtain ⟨c', hc', _, ⟨cur, hcur, hl, hone⟩, _⟩ := h.hp _ _ hb
      rw [hρ] at hc'; cases hc'
      have fin : ∀ w', (storeVar t ⟨c, off, none⟩ (a.eval v')).run P w = .ok () w' → (execOp a.eval o).run P w = .ok .skip w' := by
        intro w' hr
        simp [execOp, hop, Instr.storeAt, Instr.sureAddr, hxv, hr]
      have plain : aStore0 n b off e cs (V.ev v') = some ef → Sound P C V a w o ef := by
        intro he
        simp only [aStore0] at he
        split at he
        · rename_i ns hns
          split at he
          · rename_i cs' hsp
            cases he
            obtain ⟨hn1, hn2⟩ := cellsOf_holds hv hns
            obtain ⟨s1, s2, s3⟩ := h.storeAt hb hρ hcur hl hone hn1 hn2 hsp
            intro Q
            refine wp_of_skip (fin _ (storeVar_run hn hcur s1 s2 hn2)) ⟨fz, ρ, s3.putO hd (by simp only [Holds]) rfl⟩
          · cases he
        · cases he
      split at he
      · rename_i e' wd rows tt htt
        have hvt : v' = .tmp tt := by
          cases v' <;> simp [tmpOf] at htt
          rw [htt]
        subst hvt
        · split at he
          · rename_i hc
            obtain ⟨hn1, hoff⟩ := hc
            cases he
            subst hn1
            have hvo : V.tm tt = .own e' wd rows := by simpa [View.ev] using e2
            rw [e2] at hv
            have hone' := hv.one rfl
            have hcells := cells_of_one hone'
            have hsp : splice cs off 1 ([AV.own e' wd rows].map Aw.dem) = some (cs.set off (.rd wd rows)) := by
              simp only [splice, List.map_cons, List.map_nil, Aw.dem, List.length_cons, List.length_nil]
              rw [if_pos (by simp; omega)]
              rw [List.set_eq_take_append_cons_drop, if_pos hoff]
              simp
            have hns : HoldsL fz [AV.own e' wd rows] ρ (a.eval (.tmp tt)).cells.toList := by rw [hcells]; simp only [HoldsL]; exact ⟨_, [], rfl, hv, rfl⟩
            obtain ⟨s1, s2, s3⟩ := h.storeAt hb hρ hcur hl hone hns (by rw [hcells]; simpa using hone') hsp
            intro Q
            refine wp_of_skip (fin _ (storeVar_run hn hcur s1 s2 (by rw [hcells]; simpa using hone'))) ⟨fz, ρ, ?_⟩
            have hset := setRow_heap w c cur (cur.toList.take off ++ (a.eval (.tmp tt)).cells.toList ++ cur.toList.drop (off + 1)).toArray e (0, 0) hcur
            have hmv := s3.move (p := .t tt) (q := .c b off) (by intro e; cases e) (by simp [View.at, View.setB, hvo, isOwn])
              ⟨.cells e (cs.set off (.rd wd rows)), by simp [View.setB], by simpa [Blk.len] using hoff⟩ (by simp [View.at, View.setB, Blk.at, hoff, hvo, Aw.dem])
              (by
                have hm : min off cur.size = off := by omega
                have hat : (cur.toList.take off ++ (a.eval (.tmp tt)).cells.toList ++ cur.toList.drop (off + 1))[off]? = some (a.eval (.tmp tt)) := by
                  rw [hcells, List.append_assoc, List.getElem?_append_right (by simp; omega)]
                  simp [hm]
                simp only [conc, hρ, cellAt, hset, Array.getD_eq_getD_getElem?, List.getElem?_toArray, hat]
                simp [Act.eval])
            have heqV : ((V.setB b (.cells e (cs.set off (.rd wd rows)))).setAt (.t tt) (dem ((V.setB b (.cells e (cs.set off (.rd wd rows)))).at (.t tt)))).setAt (.c b off) ((V.setB b (.cells e (cs.set off (.rd wd rows)))).at (.t tt)) =
                (V.setAt (.t tt) (dem (V.at (.t tt)))).setB b (.cells e (cs.set off (.own e' wd rows))) := by
              simp only [View.setAt, View.at, View.setB, View.put, if_true, hvo, Blk.set, List.set_set, View.mk.injEq, true_and]
              funext c'; split <;> simp_all
            rw [heqV] at hmv
            exact hmv.putO hd (by simp only [Holds]) rfl
          · cases he
      · rw [← e2] at he; exact plain he
    · cases he
  · cases he

def ffind (k : Value) : List MapEntry → Nat → Option (Nat × Value)
  | [], _ => none
  | e :: es, i => if keyEq k e.key then some (i, e.val) else ffind k es (i + 1)

theorem sameNow_eq {kt : TypeId} {d : TypeDesc} {kd : Nat} (hd : P.underlying kt = some d) (hk : kindT P kt = some kd) {k x : Value} (hkv : kindV kd k = true) (hs : sameKind k x = true) : Instr.sameNow d k x = some (keyEq k x) := by
  simp only [kindT, hd] at hk
  cases d <;> simp at hk <;> subst hk <;> cases k <;> simp [kindV] at hkv <;> cases x <;> simp [sameKind] at hs
  · simp [Instr.sameNow, keyEq]
  · subst hs
    simp only [Instr.sameNow, keyEq, if_true, decide_true, Bool.true_and]
    congr 1
  · simp only [Instr.sameNow, keyEq, beq_toListBytes, toList_beq]
theorem findNow_eq {kt : TypeId} {d : TypeDesc} {kd : Nat} (hd : P.underlying kt = some d) (hk : kindT P kt = some kd) {k : Value} (hkv : kindV kd k = true) : ∀ (es : List MapEntry) (i : Nat), (∀ x ∈ es.map (·.key), sameKind k x = true) → Instr.findNow d k es i = some (ffind k es i)
  | [], i, _ => rfl
  | e :: es, i, h => by
    simp only [Instr.findNow, sameNow_eq hd hk hkv (h e.key (by simp)), ffind]
    cases keyEq k e.key with
    | true => rfl
    | false => simpa using findNow_eq hd hk hkv es (i + 1) (fun x hx => h x (by simp at hx ⊢; exact .inr hx))
theorem findKey_run {kt : TypeId} {kd : Nat} (hk : kindT P kt = some kd) {k : Value} (hkv : kindV kd k = true) {es : List MapEntry} (h : ∀ x ∈ es.map (·.key), sameKind k x = true) (w : World) :
    (Instr.findKey kt k es).run P w = .ok (ffind k es 0) w := by
  cases hd : P.underlying kt with
  | none => simp [kindT, hd] at hk
  | some d => simp [Instr.findKey, run_underlying hd, findNow_eq hd hk hkv es 0 h]
theorem checkKey_run {kt : TypeId} {kd : Nat} (hk : kindT P kt = some kd) (b : Bool) (n : Nat) (v : Value) (w : World) : (Instr.checkKey b (n + 1) kt v).run P w = .ok () w := by
  cases hd : P.underlying kt with
  | none => simp [kindT, hd] at hk
  | some d => cases d <;> simp [kindT, hd] at hk <;> cases v <;> simp [Instr.checkKey, run_underlying hd]

theorem ffind_get {k : Value} : ∀ (es : List MapEntry) (vs : List AV) (i : Nat), HoldsL fz vs ρ (es.map (·.val)) →
    match kvGet k (es.map (·.key)) vs with
    | some y => ∃ j v, ffind k es i = some (j, v) ∧ Holds fz y ρ v
    | none => ffind k es i = none
  | [], vs, i, h => by simp [kvGet, ffind]
  | e :: es, vs, i, h => by
    cases vs with
    | nil => simp [HoldsL] at h
    | cons y vs =>
      simp only [List.map_cons, HoldsL] at h
      obtain ⟨v, r, e1, h1, h2⟩ := h
      simp only [List.cons.injEq] at e1
      obtain ⟨e1, rfl⟩ := e1
      simp only [List.map_cons, kvGet, ffind]
      cases keyEq k e.key with
      | true => simp only [if_true]; exact ⟨i, e.val, rfl, by rw [e1]; exact h1⟩
      | false => simp only [Bool.false_eq_true, if_false]; exact ffind_get es vs (i + 1) h2

theorem lkp1_sound (h : SimE C V a w fz ρ) {t kt e : TypeId} {x k : Operand} {ok : Bool} (hop : o.op = .lookup t x k ok) (ht : P.underlying t = some (.map kt e)) {kd : Nat} (hk : kindT P kt = some kd) {i : TypeInfo} {z : Value} (hi : P.info? e = some i) (hz : i.zero = some z)
    {kv : Value} (hkv : a.eval k = kv) (hkk : kindV kd kv = true) {es : Array MapEntry} {vs : List AV} {ρ' : Ren} (hle : Ren.le ρ' ρ) (hvs : HoldsL fz vs ρ' (es.toList.map (·.val)))
    (hx : (a.eval x = .map none ∧ es = #[]) ∨ ∃ c clock, a.eval x = .map (some c) ∧ w.heap[c]? = some (.map es clock)) (hob : ∀ y ∈ es.toList.map (·.key), sameKind kv y = true) (hd : ∀ i, o.dst = some i → i < C.N) :
    Sound P C V a w o (lkp1 z ok kv (es.toList.map (·.key)) vs) := by
  have hf := findKey_run hk hkk hob w
  have hg := ffind_get (k := kv) es.toList vs 0 hvs
  have hc := checkKey_run hk es.isEmpty 9999 kv w
  have hlk : ∀ r, (match ffind kv es.toList 0 with | some (_, v) => (v, true) | none => (z, false)) = r → (Instr.lookup t (a.eval x) kv ok).run P w = .ok (if ok then .tuple #[r.1, .bool r.2] else r.1) w := by
    intro r hr
    have key : (Instr.lookup t (a.eval x) kv ok).run P w = (match ffind kv es.toList 0 with
        | some (_, v) => Result.ok (if ok then .tuple #[v, .bool true] else v) w
        | none => Result.ok (if ok then .tuple #[z, .bool false] else z) w) := by
      rcases hx with ⟨e1, e2⟩ | ⟨c, clock, e1, e2⟩
      · subst e2
        rw [e1]
        simp only [Instr.lookup, Sem.run_bind, run_underlying ht, Result.andThen_ok, Sem.run_pure, hc, hf]
        simp [ffind, run_zeroValue hi hz]
      · rw [e1]
        have hgo : (getObj c).run P w = .ok (.map es clock) w := by simp [getObj, Sem.run, e2]
        simp only [Instr.lookup, Sem.run_bind, run_underlying ht, Result.andThen_ok, Sem.run_pure, hgo, hc, hf]
        cases ffind kv es.toList 0 with
        | none => simp [run_zeroValue hi hz]
        | some q => obtain ⟨j, v⟩ := q; simp
    rw [key, ← hr]
    cases ffind kv es.toList 0 with
    | none => rfl
    | some q => obtain ⟨j, v⟩ := q; rfl
  simp only [lkp1]
  cases hkg : kvGet kv (es.toList.map (·.key)) vs with
  | none =>
    rw [hkg] at hg
    simp only at hg
    have := hlk (z, false) (by rw [hg])
    refine sound_value h (v := if ok then .tuple #[z, .bool false] else z) (by simp [execOp, hop, hkv, this]) hd ?_ ?_
    · cases ok
      · simp only [Bool.false_eq_true, if_false, Holds]
      · simp only [if_true, Holds, HoldsL]
        exact ⟨_, rfl, z, [.bool false], rfl, rfl, .bool false, [], rfl, rfl, rfl⟩
    · cases ok <;> rfl
  | some y =>
    rw [hkg] at hg
    obtain ⟨j, v, hff, hh⟩ := hg
    have := hlk (v, true) (by rw [hff])
    have hh' := (hh.mono (Fz.le_refl _) _ _ _ _ hle).dem
    refine sound_value h (v := if ok then .tuple #[v, .bool true] else v) (by simp [execOp, hop, hkv, this]) hd ?_ ?_
    · cases ok
      · simpa only [Bool.false_eq_true, if_false] using hh'
      · simp only [if_true, Holds, HoldsL]
        exact ⟨_, rfl, v, [.bool true], rfl, hh', .bool true, [], rfl, rfl, rfl⟩
    · cases ok
      · exact isOwn_dem y
      · rfl

theorem sound_lkp (h : SimE C V a w fz ρ) {t kt e : TypeId} {x k : Operand} {ok : Bool} (hop : o.op = .lookup t x k ok) (ht : P.underlying t = some (.map kt e)) {kd : Nat} (hk : kindT P kt = some kd) {i : TypeInfo} {z : Value} (hi : P.info? e = some i) (hz : i.zero = some z)
    {g : Nat → Option Blk} (hg : ∀ b k, g b = some k → V.hp b = some k) {ef : Eff} (he : aLkp kd z ok g [V.ev x, V.ev k] = some ef) (hob : ef.ob) (hd : ∀ i, o.dst = some i → i < C.N) : Sound P C V a w o ef := by
  have hx := h.ev x
  have hkv := h.ev k
  have obs : ∀ kv ks vs, (lkp1 z ok kv ks vs).ob = ∀ a ∈ ks, sameKind kv a = true := by
    intro kv ks vs; simp only [lkp1]; split <;> rfl
  unfold aLkp at he
  split at he
  · rename_i b kv heq
    simp only [List.cons.injEq, and_true] at heq
    rw [heq.1] at hx; rw [heq.2] at hkv
    simp only [Holds] at hx hkv
    obtain ⟨c, hρ, hxv⟩ := hx
    split at he
    · rename_i ks vs hgb
      split at he
      · rename_i hkk
        cases he
        obtain ⟨c', hc', _, ⟨es, clock, hm, hks, hvs, _⟩, _⟩ := h.hp _ _ (hg _ _ hgb)
        rw [hρ] at hc'; cases hc'
        rw [obs] at hob
        subst hks
        exact lkp1_sound h hop ht hk hi hz hkv hkk (Ren.le_refl _) hvs (.inr ⟨c, clock, hxv, hm⟩) hob hd
      · cases he
    · rename_i ks vs hgb
      split at he
      · rename_i hkk
        cases he
        obtain ⟨c', hc', _, ⟨es, clock, hm, hks, hvs, _⟩, _⟩ := h.hp _ _ (hg _ _ hgb)
        rw [hρ] at hc'; cases hc'
        rw [obs] at hob
        subst hks
        exact lkp1_sound h hop ht hk hi hz hkv hkk (Ren.le_refl _) hvs (.inr ⟨c, clock, hxv, hm⟩) hob hd
      · cases he
    · cases he
  · rename_i ks vs kv heq
    simp only [List.cons.injEq, and_true] at heq
    rw [heq.1] at hx; rw [heq.2] at hkv
    simp only [Holds] at hx hkv
    split at he
    · rename_i hkk
      cases he
      rw [obs] at hob
      rcases hx with ⟨hxv, rfl, rfl⟩ | ⟨c, es, clock, hxv, ho, hks, hvs⟩
      · exact lkp1_sound (es := #[]) h hop ht hk hi hz hkv hkk (Ren.le_refl ρ) (by simp [HoldsL]) (.inl ⟨hxv, rfl⟩) (by simp) hd
      · subst hks
        exact lkp1_sound h hop ht hk hi hz hkv hkk (noRen_le _) hvs (.inr ⟨c, clock, hxv, h.fobj c _ ho⟩) hob hd
    · cases he
  · rename_i ks u kv heq
    simp only [List.cons.injEq, and_true] at heq
    rw [heq.1] at hx; rw [heq.2] at hkv
    simp only [Holds] at hx hkv
    split at he
    · rename_i hkk
      cases he
      have kvc : ∀ l : List Value, kvGet kv l (l.map fun _ => AV.val u) = if l.any (keyEq kv) then some (.val u) else none := by
        intro l
        induction l with
        | nil => simp [kvGet]
        | cons a l ih =>
          have e : kvGet kv (a :: l) ((a :: l).map fun _ => AV.val u) = if keyEq kv a = true then some (.val u) else kvGet kv l (l.map fun _ => AV.val u) := rfl
          rw [e, ih, List.any_cons]
          cases keyEq kv a <;> simp
      have fin : ∀ l : List Value, l.any (keyEq kv) = ks.any (keyEq kv) → (lkp1 z ok kv l (l.map fun _ => AV.val u)).out = (if ok then .tup [.val (if ks.any (keyEq kv) then u else z), .val (.bool (ks.any (keyEq kv)))] else .val (if ks.any (keyEq kv) then u else z)) := by
        intro l hl
        rw [← hl]
        simp only [lkp1, kvc]
        cases l.any (keyEq kv) <;> cases ok <;> simp [Aw.dem]
      have conv : ∀ (e1 e2 : Eff), e1.out = e2.out → e1.dem = none → e1.blk = none → e1.bs = [] → e2.dem = none → e2.blk = none → e2.bs = [] → Sound P C V a w o e1 → Sound P C V a w o e2 := by
        intro e1 e2 h1 h2 h3 h4 h5 h6 h7 hs Q
        have := hs Q
        have e : V.app o.dst e2 = V.app o.dst e1 := by simp only [View.app, h1, h2, h3, h4, h5, h6, h7]
        rw [e]; exact this
      have plain : ∀ l vs, (lkp1 z ok kv l vs).dem = none ∧ (lkp1 z ok kv l vs).blk = none ∧ (lkp1 z ok kv l vs).bs = [] := by
        intro l vs; simp only [lkp1]; split <;> exact ⟨rfl, rfl, rfl⟩
      rcases hx with ⟨hxv, rfl⟩ | ⟨c, es, clock, hxv, ho, hes, hks⟩
      · have p := plain [] []
        exact conv _ _ (fin [] rfl) p.1 p.2.1 p.2.2 rfl rfl rfl (lkp1_sound (es := #[]) (vs := []) h hop ht hk hi hz hkv hkk (Ren.le_refl ρ) (by simp [HoldsL]) (.inl ⟨hxv, rfl⟩) (by simp) hd)
      · have hany : (es.toList.map (·.key)).any (keyEq kv) = ks.any (keyEq kv) := by
          refine Bool.eq_iff_iff.2 ?_
          simp only [List.any_eq_true, List.mem_map]
          constructor
          · rintro ⟨k', ⟨e', he', rfl⟩, hkk'⟩; exact ⟨_, (hes e' he').2, hkk'⟩
          · rintro ⟨k', hk', hkk'⟩
            obtain ⟨e', he', rfl⟩ := hks k' hk'
            exact ⟨_, ⟨e', he', rfl⟩, hkk'⟩
        have hvs : HoldsL fz ((es.toList.map (·.key)).map fun _ => AV.val u) ρ (es.toList.map (·.val)) := by
          have : ∀ l : List MapEntry, (∀ e ∈ l, e.val = u) → HoldsL fz ((l.map (·.key)).map fun _ => AV.val u) ρ (l.map (·.val)) := by
            intro l
            induction l with
            | nil => intro _; simp [HoldsL]
            | cons a l ih =>
              intro hl
              simp only [List.map_cons, HoldsL]
              exact ⟨_, _, rfl, by simp only [Holds]; exact hl a (by simp), ih fun e he => hl e (by simp [he])⟩
          exact this _ fun e he => (hes e he).1
        have p := plain (es.toList.map (·.key)) ((es.toList.map (·.key)).map fun _ => AV.val u)
        exact conv _ _ (fin _ hany) p.1 p.2.1 p.2.2 rfl rfl rfl (lkp1_sound h hop ht hk hi hz hkv hkk (Ren.le_refl ρ) hvs (.inr ⟨c, clock, hxv, h.fobj c _ ho⟩) (fun y hy => by
          obtain ⟨e', he', rfl⟩ := List.mem_map.1 hy
          exact hob _ (hes e' he').2) hd)
    · cases he
  · rename_i kv heq
    simp only [List.cons.injEq, and_true] at heq
    rw [heq.1] at hx; rw [heq.2] at hkv
    simp only [Holds] at hx hkv
    split at he
    · rename_i hkk
      cases he
      rw [obs] at hob
      exact lkp1_sound (es := #[]) h hop ht hk hi hz hkv hkk (Ren.le_refl ρ) (by simp [HoldsL]) (.inl ⟨hx, rfl⟩) (by simp) hd
    · cases he
  · cases he
end Go.Aw
