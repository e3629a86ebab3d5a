/- Stores; maps. -/
import Derived.Test.YtdobngcdgkallaaGreatDoorAwI
import Derived.WalkSpells
set_option linter.unusedSimpArgs false
set_option linter.unusedVariables false
set_option linter.unusedSectionVars false
section
namespace Go.Aw
variable [GL]
variable {P : Program} {C : Ctx} {V : View} {a : Act} {w : World} {fz : Fz} {ρ : Ren} {o : Oper} {Q : Exit → Act → World → Prop}

theorem setRow_size (w : World) (g : Nat) (cs : Array Value) : (w.setRow g cs).heap.size = w.heap.size := by simp [World.setRow]

theorem storeVar_run {t : TypeId} {n : Nat} (hn : szOf P t = some n) {c off : Nat} {cur : Array Value} {e : TypeId} (hc : w.heap[c]? = some (.cells cur e (0, 0))) {v : Value} (hv : v.cells.size = n) (hfit : off + n ≤ cur.size) (h1 : ∀ u ∈ v.cells.toList, u.oneCell' = true) :
  (storeVar t ⟨c, off, none⟩ v).run P w = .ok () (w.setRow c (cur.toList.take off ++ v.cells.toList ++ cur.toList.drop (off + n)).toArray) := by
 have := run_storeCells_at P c off e v.cells.toList 0 cur w hc (by simp [hv]; omega) h1
 simp only [Nat.add_zero, Array.length_toList, hv] at this
 simp [storeVar, szOf_run hn, hv, this]

theorem SimE.storeAt (h : SimE C V a w fz ρ) {b c off : Nat} {e : TypeId} {cs ns cs' : List AV} (hb : V.hp b = some (.cells e cs)) (hρ : ρ b = some c) {cur : Array Value} (hcur : w.heap[c]? = some (.cells cur e (0, 0)))
  (hl : HoldsL fz cs ρ cur.toList) (hone : ∀ u ∈ cur.toList, u.oneCell' = true) {v : Value} (hns : HoldsL fz ns ρ v.cells.toList) (h1 : ∀ u ∈ v.cells.toList, u.oneCell' = true) {n : Nat} (hsp : splice cs off n (ns.map Aw.dem) = some cs') :
  v.cells.size = n ∧ off + n ≤ cur.size ∧ SimE C (V.setB b (.cells e cs')) a (w.setRow c (cur.toList.take off ++ v.cells.toList ++ cur.toList.drop (off + n)).toArray) fz ρ := by
 simp only [splice] at hsp
 split at hsp
 ·rename_i hlen
  cases hsp
  have hnl := hns.len
  have hll := hl.len
  simp only [List.length_map] at hlen
  have hvn : v.cells.size = n := by simpa using hnl.trans hlen.1
  have hcsz : cur.size = cs.length := by simpa using hll
  refine ⟨hvn, by omega, h.setBlk hb hρ rfl rfl rfl (setRow_size _ _ _) (fun i hi => setRow_other w c i _ hi) ?_ ?_⟩
  ·refine ⟨_, setRow_heap w c cur _ e _ hcur, by simpa using ((hl.take _).append hns.dem).append (hl.drop _), ?_⟩
   intro u hu
   simp only [List.mem_append] at hu
   rcases hu with (hu | hu) | hu
   ·exact hone u (List.mem_of_mem_take hu)
   ·exact h1 u hu
   ·exact hone u (List.mem_of_mem_drop hu)
  ·intro j hj
   have hset := setRow_heap w c cur (cur.toList.take off ++ v.cells.toList ++ cur.toList.drop (off + n)).toArray e (0, 0) hcur
   have key : (cs.take off ++ ns.map Aw.dem ++ cs.drop (off + n))[j]? = cs[j]? ∧ (cur.toList.take off ++ v.cells.toList ++ cur.toList.drop (off + n))[j]? = cur.toList[j]? := by
    by_cases k1 : j < off
    ·rw [List.append_assoc, List.append_assoc, List.getElem?_append_left (by simp; omega), List.getElem?_append_left (by simp; omega)]
     simp [k1]
    ·by_cases k2 : j < off + n
     ·exfalso
      simp only [Blk.at, List.getD_eq_getElem?_getD] at hj
      rw [List.append_assoc, List.getElem?_append_right (by simp; omega), List.getElem?_append_left (by simp; omega)] at hj
      rw [← List.getD_eq_getElem?_getD, own_map_dem] at hj
      cases hj
     ·rw [List.getElem?_append_right (by simp; omega), List.getElem?_append_right (by simp; omega)]
      simp only [List.getElem?_drop]
      constructor <;> (congr 1; simp; omega)
   refine ⟨by simp only [Blk.at, List.getD_eq_getElem?_getD, key.1], ?_⟩
   simp only [cellAt, hset, hcur, Array.getD_eq_getD_getElem?, List.getElem?_toArray]
   rw [key.2, Array.getElem?_toList]
 ·cases hsp

theorem sound_store (h : SimE C V a w fz ρ) {t : TypeId} {x v' : Operand} (hop : o.op = .store t x v') {n : Nat} (hn : szOf P t = some n) {tk : Bool} {g : Nat → Option Blk}
  (hg : ∀ b k, g b = some k → V.hp b = some k) {ef : Eff} (he : aStore n tk v' g [V.ev x, V.ev v'] = some ef) (hd : ∀ i, o.dst = some i → i < C.N) (hne : ∀ t, v' = .tmp t → o.dst ≠ some t) : Sound P C V a w o ef := by
 have hx := h.ev x
 have hv := h.ev v'
 unfold aStore at he
 split at he
 ·rename_i b off vv heq
  simp only [List.cons.injEq, and_true] at heq
  obtain ⟨e1, e2⟩ := heq
  rw [e1] at hx
  simp only [Holds] at hx
  obtain ⟨c, hρ, hxv⟩ := hx
  split at he
  ·rename_i e cs hgb
   have hb := hg _ _ hgb
   obtain ⟨c', hc', _, ⟨cur, hcur, hl, hone⟩, _⟩ := h.hp _ _ hb
   rw [hρ] at hc'; cases hc'
   have fin : ∀ w', (storeVar t ⟨c, off, none⟩ (a.eval v')).run P w = .ok () w' → (execOp a.eval o).run P w = .ok .skip w' := by
    intro w' hr
    simp [execOp, hop, Instr.storeAt, Instr.sureAddr, hxv, hr]
   have plain : aStore0 n b off e cs (V.ev v') = some ef → Sound P C V a w o ef := by
    intro he
    simp only [aStore0] at he
    split at he
    ·rename_i ns hns
     split at he
     ·rename_i cs' hsp
      cases he
      obtain ⟨hn1, hn2⟩ := cellsOf_holds hv hns
      obtain ⟨s1, s2, s3⟩ := h.storeAt hb hρ hcur hl hone hn1 hn2 hsp
      intro Q
      refine wp_of_skip (fin _ (storeVar_run hn hcur s1 s2 hn2)) ⟨fz, ρ, s3.putO hd (by simp only [Holds]) rfl⟩
     ·cases he
    ·cases he
   split at he
   ·rename_i e' wd rows tt htt
    have hvt : v' = .tmp tt := by
     cases v' <;> simp [tmpOf] at htt
     rw [htt]
    subst hvt
    ·split at he
     ·rename_i hc
      obtain ⟨hn1, hoff⟩ := hc
      cases he
      subst hn1
      have hvo : V.tm tt = .own e' wd rows := by simpa [View.ev] using e2
      rw [e2] at hv
      have hone' := hv.one rfl
      have hcells := cells_of_one hone'
      have hsp : splice cs off 1 ([AV.own e' wd rows].map Aw.dem) = some (cs.set off (.rd wd rows)) := by
       simp only [splice, List.map_cons, List.map_nil, Aw.dem, List.length_cons, List.length_nil]
       rw [if_pos (by simp; omega)]
       rw [List.set_eq_take_append_cons_drop, if_pos hoff]
       simp
      have hns : HoldsL fz [AV.own e' wd rows] ρ (a.eval (.tmp tt)).cells.toList := by rw [hcells]; simp only [HoldsL]; exact ⟨_, [], rfl, hv, rfl⟩
      obtain ⟨s1, s2, s3⟩ := h.storeAt hb hρ hcur hl hone hns (by rw [hcells]; simpa using hone') hsp
      intro Q
      refine wp_of_skip (fin _ (storeVar_run hn hcur s1 s2 (by rw [hcells]; simpa using hone'))) ⟨fz, ρ, ?_⟩
      have hset := setRow_heap w c cur (cur.toList.take off ++ (a.eval (.tmp tt)).cells.toList ++ cur.toList.drop (off + 1)).toArray e (0, 0) hcur
      have hmv := s3.move (p := .t tt) (q := .c b off) (by intro e; cases e) (by simp [View.at, View.setB, hvo, isOwn])
       ⟨.cells e (cs.set off (.rd wd rows)), by simp [View.setB], by simpa [Blk.len] using hoff⟩ (by simp [View.at, View.setB, Blk.at, hoff, hvo, Aw.dem])
       (by
        have hm : min off cur.size = off := by omega
        have hat : (cur.toList.take off ++ (a.eval (.tmp tt)).cells.toList ++ cur.toList.drop (off + 1))[off]? = some (a.eval (.tmp tt)) := by
         rw [hcells, List.append_assoc, List.getElem?_append_right (by simp; omega)]
         simp [hm]
        simp only [conc, hρ, cellAt, hset, Array.getD_eq_getD_getElem?, List.getElem?_toArray, hat]
        simp [Act.eval])
      have heqV : ((V.setB b (.cells e (cs.set off (.rd wd rows)))).setAt (.t tt) (dem ((V.setB b (.cells e (cs.set off (.rd wd rows)))).at (.t tt)))).setAt (.c b off) ((V.setB b (.cells e (cs.set off (.rd wd rows)))).at (.t tt)) =
        (V.setAt (.t tt) (dem (V.at (.t tt)))).setB b (.cells e (cs.set off (.own e' wd rows))) := by
       simp only [View.setAt, View.at, View.setB, View.put, if_true, hvo, Blk.set, List.set_set, View.mk.injEq, true_and]
       funext c'; split <;> simp_all
      rw [heqV] at hmv
      exact hmv.putO hd (by simp only [Holds]) rfl
     ·cases he
   ·rw [← e2] at he; exact plain he
  ·cases he
 ·cases he

def ffind (k : Value) : List MapEntry → Nat → Option (Nat × Value)
 | [], _ => none
 | e :: es, i => if keyEq k e.key then some (i, e.val) else ffind k es (i + 1)

theorem sameNow_eq {kt : TypeId} {d : TypeDesc} {kd : Nat} (hd : P.underlying kt = some d) (hk : kindT P kt = some kd) {k x : Value} (hkv : kindV kd k = true) (hs : sameKind k x = true) : Instr.sameNow d k x = some (keyEq k x) := by
 simp only [kindT, hd] at hk
 cases d <;> simp at hk <;> subst hk <;> cases k <;> simp [kindV] at hkv <;> cases x <;> simp [sameKind] at hs
 ·simp [Instr.sameNow, keyEq]
 ·subst hs
  simp only [Instr.sameNow, keyEq, if_true, decide_true, Bool.true_and]
  congr 1
 ·simp only [Instr.sameNow, keyEq, beq_toListBytes, toList_beq]
theorem findNow_eq {kt : TypeId} {d : TypeDesc} {kd : Nat} (hd : P.underlying kt = some d) (hk : kindT P kt = some kd) {k : Value} (hkv : kindV kd k = true) : ∀ (es : List MapEntry) (i : Nat), (∀ x ∈ es.map (·.key), sameKind k x = true) → Instr.findNow d k es i = some (ffind k es i)
 | [], i, _ => rfl
 | e :: es, i, h => by
  simp only [Instr.findNow, sameNow_eq hd hk hkv (h e.key (by simp)), ffind]
  cases keyEq k e.key with
  | true => rfl
  | false => simpa using findNow_eq hd hk hkv es (i + 1) (fun x hx => h x (by simp at hx ⊢; exact .inr hx))
theorem findKey_run {kt : TypeId} {kd : Nat} (hk : kindT P kt = some kd) {k : Value} (hkv : kindV kd k = true) {es : List MapEntry} (h : ∀ x ∈ es.map (·.key), sameKind k x = true) (w : World) :
  (Instr.findKey kt k es).run P w = .ok (ffind k es 0) w := by
 cases hd : P.underlying kt with
 | none => simp [kindT, hd] at hk
 | some d => simp [Instr.findKey, run_underlying hd, findNow_eq hd hk hkv es 0 h]
theorem checkKey_run {kt : TypeId} {kd : Nat} (hk : kindT P kt = some kd) (b : Bool) (n : Nat) (v : Value) (w : World) : (Instr.checkKey b (n + 1) kt v).run P w = .ok () w := by
 cases hd : P.underlying kt with
 | none => simp [kindT, hd] at hk
 | some d => cases d <;> simp [kindT, hd] at hk <;> cases v <;> simp [Instr.checkKey, run_underlying hd]

theorem ffind_get {k : Value} : ∀ (es : List MapEntry) (vs : List AV) (i : Nat), HoldsL fz vs ρ (es.map (·.val)) →
  match kvGet k (es.map (·.key)) vs with
  | some y => ∃ j v, ffind k es i = some (j, v) ∧ Holds fz y ρ v
  | none => ffind k es i = none
 | [], vs, i, h => by simp [kvGet, ffind]
 | e :: es, vs, i, h => by
  cases vs with
  | nil => simp [HoldsL] at h
  | cons y vs =>
   simp only [List.map_cons, HoldsL] at h
   obtain ⟨v, r, e1, h1, h2⟩ := h
   simp only [List.cons.injEq] at e1
   obtain ⟨e1, rfl⟩ := e1
   simp only [List.map_cons, kvGet, ffind]
   cases keyEq k e.key with
   | true => simp only [if_true]; exact ⟨i, e.val, rfl, by rw [e1]; exact h1⟩
   | false => simp only [Bool.false_eq_true, if_false]; exact ffind_get es vs (i + 1) h2

theorem lkp1_sound (h : SimE C V a w fz ρ) {t kt e : TypeId} {x k : Operand} {ok : Bool} (hop : o.op = .lookup t x k ok) (ht : P.underlying t = some (.map kt e)) {kd : Nat} (hk : kindT P kt = some kd) {i : TypeInfo} {z : Value} (hi : P.info? e = some i) (hz : i.zero = some z)
  {kv : Value} (hkv : a.eval k = kv) (hkk : kindV kd kv = true) {es : Array MapEntry} {vs : List AV} {ρ' : Ren} (hle : Ren.le ρ' ρ) (hvs : HoldsL fz vs ρ' (es.toList.map (·.val)))
  (hx : (a.eval x = .map none ∧ es = #[]) ∨ ∃ c clock, a.eval x = .map (some c) ∧ w.heap[c]? = some (.map es clock)) (hob : ∀ y ∈ es.toList.map (·.key), sameKind kv y = true) (hd : ∀ i, o.dst = some i → i < C.N) :
  Sound P C V a w o (lkp1 z ok kv (es.toList.map (·.key)) vs) := by
 have hf := findKey_run hk hkk hob w
 have hg := ffind_get (k := kv) es.toList vs 0 hvs
 have hc := checkKey_run hk es.isEmpty 9999 kv w
 have hlk : ∀ r, (match ffind kv es.toList 0 with | some (_, v) => (v, true) | none => (z, false)) = r → (Instr.lookup t (a.eval x) kv ok).run P w = .ok (if ok then .tuple #[r.1, .bool r.2] else r.1) w := by
  intro r hr
  have key : (Instr.lookup t (a.eval x) kv ok).run P w = (match ffind kv es.toList 0 with
    | some (_, v) => Result.ok (if ok then .tuple #[v, .bool true] else v) w
    | none => Result.ok (if ok then .tuple #[z, .bool false] else z) w) := by
   rcases hx with ⟨e1, e2⟩ | ⟨c, clock, e1, e2⟩
   ·subst e2
    rw [e1]
    simp only [Instr.lookup, Sem.run_bind, run_underlying ht, Result.andThen_ok, Sem.run_pure, hc, hf]
    simp [ffind, run_zeroValue hi hz]
   ·rw [e1]
    have hgo : (getObj c).run P w = .ok (.map es clock) w := by simp [getObj, Sem.run, e2]
    simp only [Instr.lookup, Sem.run_bind, run_underlying ht, Result.andThen_ok, Sem.run_pure, hgo, hc, hf]
    cases ffind kv es.toList 0 with
    | none => simp [run_zeroValue hi hz]
    | some q => obtain ⟨j, v⟩ := q; simp
  rw [key, ← hr]
  cases ffind kv es.toList 0 with
  | none => rfl
  | some q => obtain ⟨j, v⟩ := q; rfl
 simp only [lkp1]
 cases hkg : kvGet kv (es.toList.map (·.key)) vs with
 | none =>
  rw [hkg] at hg
  simp only at hg
  have := hlk (z, false) (by rw [hg])
  refine sound_value h (v := if ok then .tuple #[z, .bool false] else z) (by simp [execOp, hop, hkv, this]) hd ?_ ?_
  ·cases ok
   ·simp only [Bool.false_eq_true, if_false, Holds]
   ·simp only [if_true, Holds, HoldsL]
    exact ⟨_, rfl, z, [.bool false], rfl, rfl, .bool false, [], rfl, rfl, rfl⟩
  ·cases ok <;> rfl
 | some y =>
  rw [hkg] at hg
  obtain ⟨j, v, hff, hh⟩ := hg
  have := hlk (v, true) (by rw [hff])
  have hh' := (hh.mono (Fz.le_refl _) _ _ _ _ hle).dem
  refine sound_value h (v := if ok then .tuple #[v, .bool true] else v) (by simp [execOp, hop, hkv, this]) hd ?_ ?_
  ·cases ok
   ·simpa only [Bool.false_eq_true, if_false] using hh'
   ·simp only [if_true, Holds, HoldsL]
    exact ⟨_, rfl, v, [.bool true], rfl, hh', .bool true, [], rfl, rfl, rfl⟩
  ·cases ok
   ·exact isOwn_dem y
   ·rfl

theorem keyEq_eq {a b : Value} (h : keyEq a b = true) : a = b := by
 unfold keyEq at h
 split at h
 ·simp at h; rw [h]
 ·simp at h; rw [h.1, h.2]
 ·simp at h; rw [h]
 ·cases h
theorem sound_lkp (h : SimE C V a w fz ρ) {t kt e : TypeId} {x k : Operand} {ok : Bool} (hop : o.op = .lookup t x k ok) (ht : P.underlying t = some (.map kt e)) {kd : Nat} (hk : kindT P kt = some kd) {i : TypeInfo} {z : Value} (hi : P.info? e = some i) (hz : i.zero = some z)
  {g : Nat → Option Blk} (hg : ∀ b k, g b = some k → V.hp b = some k) {ef : Eff} (he : aLkp kd z ok g [V.ev x, V.ev k] = some ef) (hob : ef.ob) (hd : ∀ i, o.dst = some i → i < C.N) : Sound P C V a w o ef := by
 have hx := h.ev x
 have hkv := h.ev k
 have obs : ∀ kv ks vs, (lkp1 z ok kv ks vs).ob = ∀ a ∈ ks, sameKind kv a = true := by
  intro kv ks vs; simp only [lkp1]; split <;> rfl
 unfold aLkp at he
 split at he
 ·rename_i b kv heq
  simp only [List.cons.injEq, and_true] at heq
  rw [heq.1] at hx; rw [heq.2] at hkv
  simp only [Holds] at hx hkv
  obtain ⟨c, hρ, hxv⟩ := hx
  split at he
  ·rename_i ks vs hgb
   split at he
   ·rename_i hkk
    cases he
    obtain ⟨c', hc', _, ⟨es, clock, hm, hks, hvs, _⟩, _⟩ := h.hp _ _ (hg _ _ hgb)
    rw [hρ] at hc'; cases hc'
    rw [obs] at hob
    subst hks
    exact lkp1_sound h hop ht hk hi hz hkv hkk (Ren.le_refl _) hvs (.inr ⟨c, clock, hxv, hm⟩) hob hd
   ·cases he
  ·rename_i ks vs hgb
   split at he
   ·rename_i hkk
    cases he
    obtain ⟨c', hc', _, ⟨es, clock, hm, hks, hvs, _⟩, _⟩ := h.hp _ _ (hg _ _ hgb)
    rw [hρ] at hc'; cases hc'
    rw [obs] at hob
    subst hks
    exact lkp1_sound h hop ht hk hi hz hkv hkk (Ren.le_refl _) hvs (.inr ⟨c, clock, hxv, hm⟩) hob hd
   ·cases he
  ·cases he
 ·rename_i ks vs kv heq
  simp only [List.cons.injEq, and_true] at heq
  rw [heq.1] at hx; rw [heq.2] at hkv
  simp only [Holds] at hx hkv
  split at he
  ·rename_i hkk
   cases he
   rw [obs] at hob
   rcases hx with ⟨hxv, rfl, rfl⟩ | ⟨c, es, clock, hxv, ho, hks, hvs⟩
   ·exact lkp1_sound (es := #[]) h hop ht hk hi hz hkv hkk (Ren.le_refl ρ) (by simp [HoldsL]) (.inl ⟨hxv, rfl⟩) (by simp) hd
   ·subst hks
    exact lkp1_sound h hop ht hk hi hz hkv hkk (noRen_le _) hvs (.inr ⟨c, clock, hxv, h.fobj c _ ho⟩) hob hd
  ·cases he
 ·rename_i ks u kv heq
  simp only [List.cons.injEq, and_true] at heq
  rw [heq.1] at hx; rw [heq.2] at hkv
  simp only [Holds] at hx hkv
  split at he
  ·rename_i hkk
   cases he
   have kvc : ∀ l : List Value, kvGet kv l (l.map fun k => AV.val (u k)) = if l.any (keyEq kv) then some (.val (u kv)) else none := by
    intro l
    induction l with
    | nil => simp [kvGet]
    | cons a l ih =>
     have e : kvGet kv (a :: l) ((a :: l).map fun k => AV.val (u k)) = if keyEq kv a = true then some (.val (u a)) else kvGet kv l (l.map fun k => AV.val (u k)) := rfl
     rw [e, ih, List.any_cons]
     cases hka : keyEq kv a with
     | false => simp
     | true => rw [keyEq_eq hka]; simp
   have fin : ∀ l : List Value, l.any (keyEq kv) = ks.any (keyEq kv) → (lkp1 z ok kv l (l.map fun k => AV.val (u k))).out = (if ok then .tup [.val (if ks.any (keyEq kv) then u kv else z), .val (.bool (ks.any (keyEq kv)))] else .val (if ks.any (keyEq kv) then u kv else z)) := by
    intro l hl
    rw [← hl]
    simp only [lkp1, kvc]
    cases l.any (keyEq kv) <;> cases ok <;> simp [Aw.dem]
   have conv : ∀ (e1 e2 : Eff), e1.out = e2.out → e1.dem = none → e1.blk = none → e1.bs = [] → e2.dem = none → e2.blk = none → e2.bs = [] → Sound P C V a w o e1 → Sound P C V a w o e2 := by
    intro e1 e2 h1 h2 h3 h4 h5 h6 h7 hs Q
    have := hs Q
    have e : V.app o.dst e2 = V.app o.dst e1 := by simp only [View.app, h1, h2, h3, h4, h5, h6, h7]
    rw [e]; exact this
   have plain : ∀ l vs, (lkp1 z ok kv l vs).dem = none ∧ (lkp1 z ok kv l vs).blk = none ∧ (lkp1 z ok kv l vs).bs = [] := by
    intro l vs; simp only [lkp1]; split <;> exact ⟨rfl, rfl, rfl⟩
   rcases hx with ⟨hxv, rfl⟩ | ⟨c, es, clock, hxv, ho, hes, hks⟩
   ·have p := plain [] []
    exact conv _ _ (fin [] rfl) p.1 p.2.1 p.2.2 rfl rfl rfl (lkp1_sound (es := #[]) (vs := []) h hop ht hk hi hz hkv hkk (Ren.le_refl ρ) (by simp [HoldsL]) (.inl ⟨hxv, rfl⟩) (by simp) hd)
   ·have hany : (es.toList.map (·.key)).any (keyEq kv) = ks.any (keyEq kv) := by
     refine Bool.eq_iff_iff.2 ?_
     simp only [List.any_eq_true, List.mem_map]
     constructor
     ·rintro ⟨k', ⟨e', he', rfl⟩, hkk'⟩; exact ⟨_, (hes e' he').2, hkk'⟩
     ·rintro ⟨k', hk', hkk'⟩
      obtain ⟨e', he', rfl⟩ := hks k' hk'
      exact ⟨_, ⟨e', he', rfl⟩, hkk'⟩
    have hvs : HoldsL fz ((es.toList.map (·.key)).map fun k => AV.val (u k)) ρ (es.toList.map (·.val)) := by
     have : ∀ l : List MapEntry, (∀ e ∈ l, e.val = u e.key) → HoldsL fz ((l.map (·.key)).map fun k => AV.val (u k)) ρ (l.map (·.val)) := by
      intro l
      induction l with
      | nil => intro _; simp [HoldsL]
      | cons a l ih =>
       intro hl
       simp only [List.map_cons, HoldsL]
       exact ⟨_, _, rfl, by simp only [Holds]; exact hl a (by simp), ih fun e he => hl e (by simp [he])⟩
     exact this _ fun e he => (hes e he).1
    have p := plain (es.toList.map (·.key)) ((es.toList.map (·.key)).map fun k => AV.val (u k))
    exact conv _ _ (fin _ hany) p.1 p.2.1 p.2.2 rfl rfl rfl (lkp1_sound h hop ht hk hi hz hkv hkk (Ren.le_refl ρ) hvs (.inr ⟨c, clock, hxv, h.fobj c _ ho⟩) (fun y hy => by
     obtain ⟨e', he', rfl⟩ := List.mem_map.1 hy
     exact hob _ (hes e' he').2) hd)
  ·cases he
 ·rename_i kv heq
  simp only [List.cons.injEq, and_true] at heq
  rw [heq.1] at hx; rw [heq.2] at hkv
  simp only [Holds] at hx hkv
  split at he
  ·rename_i hkk
   cases he
   rw [obs] at hob
   exact lkp1_sound (es := #[]) h hop ht hk hi hz hkv hkk (Ren.le_refl ρ) (by simp [HoldsL]) (.inl ⟨hx, rfl⟩) (by simp) hd
  ·cases he
 ·cases he
end Go.Aw
end
section
namespace Go.Aw
variable [GL]
variable {P : Program} {C : Ctx} {V : View} {a : Act} {w : World} {fz : Fz} {ρ : Ren} {o : Oper} {Q : Exit → Act → World → Prop}

theorem kvSet_ffind {k : Value} {y : AV} : ∀ (es : List MapEntry) (vs : List AV) (i : Nat), vs.length = es.length →
  match ffind k es i with
  | some (j, _) => ∃ m, j = i + m ∧ m < es.length ∧ (∀ e, es[m]? = some e → keyEq k e.key = true) ∧ kvSet k y (es.map (·.key)) vs = ((es.map (·.key)).set m k, vs.set m y)
  | none => kvSet k y (es.map (·.key)) vs = (es.map (·.key) ++ [k], vs ++ [y])
 | [], vs, i, h => by
  have : vs = [] := List.eq_nil_of_length_eq_zero h
  subst this
  simp [ffind, kvSet]
 | e :: es, vs, i, h => by
  cases vs with
  | nil => simp at h
  | cons x vs =>
   simp only [ffind, List.map_cons, kvSet]
   cases hk : keyEq k e.key with
   | true => simp only [if_true]; exact ⟨0, rfl, by simp, by simpa using hk, rfl⟩
   | false =>
    simp only [Bool.false_eq_true, if_false]
    have ih := kvSet_ffind (k := k) (y := y) es vs (i + 1) (by simpa using h)
    cases hf : ffind k es (i + 1) with
    | none => rw [hf] at ih; simp only at ih ⊢; rw [ih]; rfl
    | some q =>
     obtain ⟨j, v⟩ := q
     rw [hf] at ih
     obtain ⟨m, h1, h2, h3, h4⟩ := ih
     exact ⟨m + 1, by omega, by simpa using h2, by simpa using h3, by rw [h4]; rfl⟩

theorem sameBits_of_keyEq {k x : Value} (h : keyEq k x = true) (n : Nat) : Instr.sameBits n x k = true := by
 cases k <;> cases x <;> simp [keyEq] at h <;> cases n <;> simp [Instr.sameBits, h, beq_toListBytes]

def World.setObj (w : World) (c : Nat) (ob : Obj) : World := { w with heap := w.heap.setIfInBounds c ob }
theorem SimE.setMap (h : SimE C V a w fz ρ) {b c : Nat} {k0 k : Blk} (hb : V.hp b = some k0) (hc : ρ b = some c) {ob : Obj} (hk : BlkAt fz ρ (World.setObj w c ob) c k)
  (hown : ∀ j, isOwn (k.at j) = true → k.at j = k0.at j ∧ cellAt (World.setObj w c ob) c j = cellAt w c j) : SimE C (V.setB b k) a (World.setObj w c ob) fz ρ :=
 h.setBlk hb hc rfl rfl rfl (by simp [World.setObj]) (fun i hi => by simp [World.setObj, Ne.symm hi]) hk hown

theorem sound_mupd (h : SimE C V a w fz ρ) {t kt e : TypeId} {x k v : Operand} (hop : o.op = .mapUpdate t x k v ∨ o.op = .insert t x k v) (ht : P.underlying t = some (.map kt e)) {kd : Nat} (hk : kindT P kt = some kd)
  {g : Nat → Option Blk} (hg : ∀ b k, g b = some k → V.hp b = some k) {ef : Eff} (he : aMupd kd g [V.ev x, V.ev k, V.ev v] = some ef) (hob : ef.ob) (hd : ∀ i, o.dst = some i → i < C.N) : Sound P C V a w o ef := by
 have hx := h.ev x
 have hkv := h.ev k
 have hv := h.ev v
 unfold aMupd at he
 split at he
 ·rename_i b kv vv heq
  simp only [List.cons.injEq, and_true] at heq
  obtain ⟨e1, e2, e3⟩ := heq
  rw [e1] at hx; rw [e2] at hkv; rw [e3] at hv
  simp only [Holds] at hx hkv
  obtain ⟨c, hρ, hxv⟩ := hx
  split at he
  ·rename_i ks vs hgb
   split at he
   ·rename_i hkk
    cases he
    obtain ⟨c', hc', hBM, ⟨es, clock, hm, hks, hvs, hclk, hborn⟩, hfz⟩ := h.hp _ _ (hg _ _ hgb)
    rw [hρ] at hc'; cases hc'
    subst hks
    simp only at hob
    have hlen : vs.length = es.toList.length := by simpa using hvs.len.symm
    have hset := kvSet_ffind (k := kv) (y := dem vv) es.toList vs 0 hlen
    have hgo : (getObj c).run P w = .ok (.map es clock) w := by simp [getObj, Sem.run, hm]
    have hf := findKey_run hk hkk.2 hob w
    have hc := checkKey_run hk false 9999 kv w
    have hso : ∀ ob, (setObj c ob).run P w = .ok () { w with heap := w.heap.setIfInBounds c ob } := by intro ob; simp [setObj, Sem.run, hm]
    have hcs : c < w.heap.size := lt_of_heap hm
    intro Q
    cases hff : ffind kv es.toList 0 with
    | none =>
     rw [hff] at hset hf
     simp only at hset
     refine wp_of_skip (w' := { w with heap := w.heap.setIfInBounds c (.map (es.push { key := kv, val := a.eval v, born := clock }) (clock + 1)) }) ?_ ⟨fz, ρ, ?_⟩
     ·rcases hop with hop | hop <;> simp only [execOp, hop, hxv, hkv, Instr.mapUpdate, Sem.run_bind, run_underlying ht, Result.andThen_ok, hgo, hc, hf, hso, Sem.run_pure]
     ·simp only [View.app, View.demP, View.setBO]
      rw [hset]
      refine SimE.putO (h.setMap (hg _ _ hgb) hρ ?_ ?_) hd (by simp only [Holds]) rfl
      ·refine ⟨es.push { key := kv, val := a.eval v, born := clock }, clock + 1, by simp only [World.setObj, Array.getElem?_setIfInBounds_self_of_lt hcs], by simp, ?_, ?_, ?_⟩
       ·simp only [Array.toList_push, List.map_append, List.map_cons, List.map_nil]
        exact hvs.append (by simp only [HoldsL]; exact ⟨_, [], rfl, hv.dem, rfl⟩)
       ·simp [hclk]
       ·intro j x hx
        rw [Array.getElem?_push] at hx
        split at hx
        ·rename_i e; cases hx; simp only; omega
        ·exact hborn j x hx
      ·intro j hj
       simp only [Blk.at, List.getD_eq_getElem?_getD] at hj ⊢
       by_cases k1 : j < vs.length
       ·refine ⟨by rw [List.getElem?_append_left k1], ?_⟩
        have k2 : j < es.size := by have := hlen; simp at this; omega
        have k3 : (es.push { key := kv, val := a.eval v, born := clock })[j]? = es[j]? := by rw [Array.getElem?_push, if_neg (Nat.ne_of_lt k2)]
        simp only [cellAt, World.setObj, Array.getElem?_setIfInBounds_self_of_lt hcs, hm, k3]
       ·exfalso
        by_cases k2 : j = vs.length
        ·subst k2; simp [isOwn_dem] at hj
        ·rw [List.getElem?_eq_none (by simp; omega)] at hj; simp [isOwn] at hj
    | some q =>
     obtain ⟨j0, v0⟩ := q
     rw [hff] at hset hf
     obtain ⟨m, hm1, hm2, hm3, hm4⟩ := hset
     simp only [Nat.zero_add] at hm1
     subst hm1
     have hm2' : j0 < es.size := by simpa using hm2
     have hkey : (((es[j0]?).map (·.key)).getD kv) = es[j0].key := by simp [hm2']
     have hsb : Instr.sameBits 10000 es[j0].key kv = true := sameBits_of_keyEq (hm3 _ (by simp [hm2'])) _
     refine wp_of_skip (w' := { w with heap := w.heap.setIfInBounds c (.map (es.modify j0 fun e => { e with key := kv, val := a.eval v }) clock) }) ?_ ⟨fz, ρ, ?_⟩
     ·rcases hop with hop | hop <;> simp only [execOp, hop, hxv, hkv, Instr.mapUpdate, Sem.run_bind, run_underlying ht, Result.andThen_ok, hgo, hc, hf, hkey, Instr.keyThatStays, hsb, if_true, hso, Sem.run_pure]
     ·simp only [View.app, View.demP, View.setBO]
      rw [hm4]
      have hl : (es.modify j0 fun e => { e with key := kv, val := a.eval v }).toList = es.toList.set j0 { es[j0] with key := kv, val := a.eval v } := by
       apply List.ext_getElem?
       intro i
       rw [Array.getElem?_toList, Array.getElem?_modify, List.getElem?_set]
       by_cases e : j0 = i
       ·subst e; simp [hm2']
       ·simp [e]
      refine SimE.putO (h.setMap (hg _ _ hgb) hρ ?_ ?_) hd (by simp only [Holds]) rfl
      ·refine ⟨es.modify j0 fun e => { e with key := kv, val := a.eval v }, clock, by simp only [World.setObj, Array.getElem?_setIfInBounds_self_of_lt hcs], by rw [hl, List.map_set], ?_, ?_, ?_⟩
       ·rw [hl, List.map_set]; exact hvs.set j0 hv.dem
       ·simp [hclk]
       ·intro j x hx
        rw [Array.getElem?_modify] at hx
        split at hx
        ·rename_i e; subst e
         simp [hm2'] at hx
         rw [← hx]; simp only; exact hborn _ es[j0] (by simp [hm2'])
        ·exact hborn j x hx
      ·intro j hj
       simp only [Blk.at, List.getD_eq_getElem?_getD, List.getElem?_set] at hj ⊢
       by_cases e : j0 = j
       ·subst e
        have : j0 < vs.length := by omega
        simp [this, isOwn_dem] at hj
       ·refine ⟨by simp [e], ?_⟩
        have k3 : (es.modify j0 fun e => { e with key := kv, val := a.eval v })[j]? = es[j]? := by rw [Array.getElem?_modify, if_neg e]
        simp only [cellAt, World.setObj, Array.getElem?_setIfInBounds_self_of_lt hcs, hm, k3]
   ·cases he
  ·cases he
 ·cases he

theorem sound_isnil (h : SimE C V a w fz ρ) {neg : Bool} {op : BinOp} (hneg : op = if neg then .neq else .eql) {t u : TypeId} {x : Operand} (hop : o.op = .binOp op t x (.const (.map none)) u) {kt e : TypeId} (ht : P.underlying t = some (.map kt e))
  {ef : Eff} (he : aIsnil neg [V.ev x] = some ef) (hd : ∀ i, o.dst = some i → i < C.N) : Sound P C V a w o ef := by
 have hx := h.ev x
 have key : ∀ r : Option Nat, a.eval x = .map r → (execOp a.eval o).run P w = .ok (.value (.bool (if neg then !r.isNone else r.isNone))) w := by
  intro r hr
  have h1 : (eqGuard op t x (.const (.map none)) (a.eval x) (.map none)).run P w = .ok () w := by rw [hr]; exact eqGuard_plain _ _ _ _ _ _ rfl (by simp)
  have h2 := run_equalIn_map_nil (P := P) w 9999 t kt e r ht
  have h3 : a.eval (.const (.map none)) = .map none := rfl
  cases neg <;> simp only [Bool.false_eq_true, if_false, if_true] at hneg <;> subst hneg <;> rw [hr] at h1 <;>
   simp [execOp, hop, h1, h3, hr, binOp, Op.equal, Op.maxDepth, h2]
 unfold aIsnil at he
 split at he
 ·rename_i b heq
  simp only [List.cons.injEq, and_true] at heq
  rw [heq] at hx; simp only [Holds] at hx
  obtain ⟨c, _, hv⟩ := hx
  cases he
  refine sound_value h (key (some c) hv) hd ?_ rfl
  cases neg <;> simp [Holds]
 ·rename_i heq
  simp only [List.cons.injEq, and_true] at heq
  rw [heq] at hx; simp only [Holds] at hx
  cases he
  refine sound_value h (key none hx) hd ?_ rfl
  cases neg <;> simp [Holds]
 ·cases he

theorem kvDel_ffind {k : Value} : ∀ (es : List MapEntry) (vs : List AV) (i : Nat), vs.length = es.length →
  match ffind k es i with
  | some (j, _) => ∃ m, j = i + m ∧ m < es.length ∧ kvDel k (es.map (·.key)) vs = ((es.map (·.key)).eraseIdx m, vs.eraseIdx m)
  | none => kvDel k (es.map (·.key)) vs = (es.map (·.key), vs)
 | [], vs, i, h => by
  have : vs = [] := List.eq_nil_of_length_eq_zero h
  subst this
  simp [ffind, kvDel]
 | e :: es, vs, i, h => by
  cases vs with
  | nil => simp at h
  | cons x vs =>
   simp only [ffind, List.map_cons, kvDel]
   cases hk : keyEq k e.key with
   | true => simp only [if_true]; exact ⟨0, rfl, by simp, rfl⟩
   | false =>
    simp only [Bool.false_eq_true, if_false]
    have ih := kvDel_ffind (k := k) es vs (i + 1) (by simpa using h)
    cases hf : ffind k es (i + 1) with
    | none => rw [hf] at ih; simp only at ih ⊢; rw [ih]
    | some q =>
     obtain ⟨j, v⟩ := q
     rw [hf] at ih
     obtain ⟨m, h1, h2, h3⟩ := ih
     exact ⟨m + 1, by omega, by simpa using h2, by rw [h3]; rfl⟩
theorem map_eraseIdx' {α β : Type} (f : α → β) : ∀ (l : List α) (i : Nat), (l.eraseIdx i).map f = (l.map f).eraseIdx i
 | [], i => by simp
 | x :: l, 0 => by simp
 | x :: l, i + 1 => by simp [map_eraseIdx' f l i]
theorem HoldsL.eraseIdx : ∀ {l : List AV} {ρ : Ren} {vs : List Value} (i : Nat), HoldsL fz l ρ vs → HoldsL fz (l.eraseIdx i) ρ (vs.eraseIdx i)
 | [], _, vs, i, h => by simp only [HoldsL] at h; subst h; simp [HoldsL]
 | x :: l, _, vs, 0, h => by simp only [HoldsL] at h; obtain ⟨v, r, rfl, _, h⟩ := h; simpa using h
 | x :: l, _, vs, i + 1, h => by
  simp only [HoldsL] at h; obtain ⟨v, r, rfl, h1, h⟩ := h
  simp only [List.eraseIdx_cons_succ, HoldsL]; exact ⟨v, r.eraseIdx i, rfl, h1, h.eraseIdx i⟩
/-- a map, of which nothing is known but what it holds -/
theorem BlkAt.weakMap {c : Nat} {ks : List Value} {vs : List AV} (h : BlkAt fz ρ w c (.map ks vs)) : BlkAt fz ρ w c (.mapd ks vs) := by
 obtain ⟨es, clock, h1, h2, h3, h4, h5⟩ := h
 refine ⟨es, clock, h1, h2, h3, ?_, fun x hx => ?_⟩
 ·rw [List.pairwise_iff_getElem]
  intro i j hi hj hij
  have e1 := h5 i es.toList[i] (by simp)
  have e2 := h5 j es.toList[j] (by simp)
  omega
 ·obtain ⟨i, hi⟩ := List.mem_iff_getElem?.1 hx
  have e1 := h5 i x (by simpa using hi)
  have : i < es.size := by
   obtain ⟨hlt, _⟩ := List.getElem?_eq_some_iff.1 hi
   simpa using hlt
  omega
theorem sound_del (h : SimE C V a w fz ρ) {t kt e u : TypeId} {x k : Operand} (hop : o.op = .call { callee := .builtin .delete, args := #[x, k], argTypes := #[t, u] }) (ht : P.underlying t = some (.map kt e)) {kd : Nat} (hk : kindT P kt = some kd)
  {g : Nat → Option Blk} (hg : ∀ b k, g b = some k → V.hp b = some k) {ef : Eff} (he : aDel kd g [V.ev x, V.ev k] = some ef) (hob : ef.ob) (hd : ∀ i, o.dst = some i → i < C.N) : Sound P C V a w o ef := by
 have hx := h.ev x
 have hkv := h.ev k
 have main : ∀ (b : Nat) (kv : Value) (k0 : Blk) (ks : List Value) (vs : List AV), V.ev x = .mapr b → V.ev k = .val kv → V.hp b = some k0 → k0.len = vs.length → (∀ j, k0.at j = vs.getD j .unk) → (∀ c, BlkAt fz ρ w c k0 → BlkAt fz ρ w c (.mapd ks vs)) →
   kindV kd kv = true → (vs.all fun x => !isOwn x) = true → (∀ a ∈ ks, sameKind kv a = true) →
   Sound P C V a w o { out := .val (.tuple #[]), blk := some (b, .mapd (kvDel kv ks vs).1 (kvDel kv ks vs).2), ob := ∀ a ∈ ks, sameKind kv a = true } := by
  intro b kv k0 ks vs e1 e2 hb hlen0 hat0 hbw hkk hno hob
  rw [e1] at hx; rw [e2] at hkv
  simp only [Holds] at hx hkv
  obtain ⟨c, hρ, hxv⟩ := hx
  obtain ⟨c', hc', hBM, hB, hfz⟩ := h.hp _ _ hb
  rw [hρ] at hc'; cases hc'
  obtain ⟨es, clock, hm, hks, hvs, hborn, hlast⟩ := hbw c hB
  subst hks
  have hlen : vs.length = es.toList.length := by simpa using hvs.len.symm
  have hdel := kvDel_ffind (k := kv) es.toList vs 0 hlen
  have hgo : (getObj c).run P w = .ok (.map es clock) w := by simp [getObj, Sem.run, hm]
  have hf := findKey_run hk hkk hob w
  have hc := checkKey_run hk es.isEmpty 9999 kv w
  have hso : ∀ ob, (setObj c ob).run P w = .ok () { w with heap := w.heap.setIfInBounds c ob } := by intro ob; simp [setObj, Sem.run, hm]
  have hcs : c < w.heap.size := lt_of_heap hm
  have hown : ∀ l : List AV, (∀ x ∈ l, x ∈ vs) → ∀ j, isOwn (l.getD j .unk) = false := by
   intro l hl j
   rw [List.getD_eq_getElem?_getD]
   cases hj : l[j]? with
   | none => rfl
   | some y =>
    have := List.all_eq_true.1 hno y (hl y (List.mem_of_getElem? hj))
    simpa using this
  intro Q
  cases hff : ffind kv es.toList 0 with
  | none =>
   rw [hff] at hdel hf
   simp only at hdel
   refine wp_of_value (v := .tuple #[]) (w' := { w with heap := w.heap.setIfInBounds c (.map es clock) }) ?_ ⟨fz, ρ, ?_⟩
   ·simp only [execOp, hop, resolve, invoke, builtin, Builtin.delete_, hxv, hkv, Array.map, List.map, Sem.run_bind, run_underlying ht, Result.andThen_ok, hgo, hc, hf, hso, Sem.run_pure]
    simp [hxv, hkv, run_underlying ht, hgo, hc, hf, hso]
   ·simp only [View.app, View.demP, View.setBO, View.setBs]
    rw [hdel]
    refine SimE.putO (h.setMap hb hρ ?_ (fun j hj => ?_)) hd (by simp only [Holds]) rfl
    ·exact ⟨es, clock, by simp only [World.setObj, Array.getElem?_setIfInBounds_self_of_lt hcs], rfl, hvs, hborn, hlast⟩
    ·simp only [Blk.at] at hj; rw [hown vs (fun _ h => h) j] at hj; cases hj
  | some q =>
   obtain ⟨j0, v0⟩ := q
   rw [hff] at hdel hf
   obtain ⟨m, hm1, hm2, hm3⟩ := hdel
   simp only [Nat.zero_add] at hm1
   subst hm1
   have hm2' : j0 < es.size := by simpa using hm2
   refine wp_of_value (v := .tuple #[]) (w' := { w with heap := w.heap.setIfInBounds c (.map (es.eraseIdxIfInBounds j0) clock) }) ?_ ⟨fz, ρ, ?_⟩
   ·simp [execOp, hop, resolve, invoke, builtin, Builtin.delete_, hxv, hkv, run_underlying ht, hgo, hc, hf, hso]
   ·simp only [View.app, View.demP, View.setBO, View.setBs]
    rw [hm3]
    have hl : (es.eraseIdxIfInBounds j0).toList = es.toList.eraseIdx j0 := by simp [Array.eraseIdxIfInBounds, hm2']
    refine SimE.putO (h.setMap hb hρ ?_ (fun j hj => ?_)) hd (by simp only [Holds]) rfl
    ·refine ⟨es.eraseIdxIfInBounds j0, clock, by simp only [World.setObj, Array.getElem?_setIfInBounds_self_of_lt hcs], ?_, ?_, ?_, ?_⟩
     ·rw [hl, map_eraseIdx']
     ·rw [hl, map_eraseIdx']; exact hvs.eraseIdx j0
     ·rw [hl]; exact hborn.sublist (List.eraseIdx_sublist _ _)
     ·rw [hl]; exact fun x hx => hlast x (List.mem_of_mem_eraseIdx hx)
    ·simp only [Blk.at] at hj; rw [hown _ (fun x hx => List.mem_of_mem_eraseIdx hx) j] at hj; cases hj
 unfold aDel at he
 split at he
 ·rename_i b kv heq
  simp only [List.cons.injEq, and_true] at heq
  split at he
  ·rename_i ks vs hgb
   split at he
   ·rename_i hkk
    cases he
    exact main b kv _ ks vs heq.1 heq.2 (hg _ _ hgb) rfl (fun _ => rfl) (fun c hB => hB.weakMap) hkk.1 hkk.2 hob
   ·cases he
  ·rename_i ks vs hgb
   split at he
   ·rename_i hkk
    cases he
    exact main b kv _ ks vs heq.1 heq.2 (hg _ _ hgb) rfl (fun _ => rfl) (fun c hB => hB) hkk.1 hkk.2 hob
   ·cases he
  ·cases he
 ·cases he
end Go.Aw
end
section
namespace Go.Aw
variable [GL]
variable {P : Program} {C : Ctx} {V : View} {a : Act} {w : World} {fz : Fz} {ρ : Ren} {o : Oper} {Q : Exit → Act → World → Prop}

/-- a slot comes to own a slice -/
theorem SimE.putOwn (h : SimE C V a w fz ρ) {d : Nat} (hd : d < C.N) {e : TypeId} {wd : Nat} {rows : List (List AV)} {v : Value} (hv : Holds fz (.own e wd rows) ρ v) (htip : TipOK C fz ρ w e wd rows v)
  (huniq : ∀ q, q ≠ .t d → isOwn (V.at q) = true → ∀ g g' n n' c c', v = .slice (some g) n c → conc a w ρ q = .slice (some g') n' c' → g.block ≠ g'.block) : SimE C (V.put d (.own e wd rows)) (a.put (some d) v) w fz ρ := by
 have hd' : d < a.tmps.size := by rw [h.sz]; exact hd
 have hrd : Holds fz (.rd wd rows) ρ v := by simpa only [Holds] using hv
 have h1 := h.put hd hrd rfl
 have hc : conc (a.put (some d) v) w ρ (.t d) = v := by rw [conc_put_t _ _ _ hd', if_pos rfl]
 have h2 := h1.reflag (p := .t d) (y := .own e wd rows) trivial (fun v hv => by
   have : (V.put d (.rd wd rows)).at (.t d) = .rd wd rows := by simp [View.at, View.put]
   rw [this] at hv; simpa only [Holds] using hv) (fun e' wd' rows' he => by cases he; rw [hc]; exact htip) (fun _ q hq hqo g g' n n' c c' hg hg' => by
   rw [hc] at hg
   cases q with
   | t i =>
    have hi : i ≠ d := fun e => hq (by rw [e])
    have : (V.put d (.rd wd rows)).at (.t i) = V.at (.t i) := by simp [View.at, View.put, hi]
    rw [this] at hqo
    rw [conc_put_t _ _ _ hd', if_neg hi] at hg'
    exact huniq _ hq hqo g g' n n' c c' hg hg'
   | c b j => exact huniq _ hq hqo g g' n n' c c' hg hg')
 have : (V.put d (.rd wd rows)).setAt (.t d) (.own e wd rows) = V.put d (.own e wd rows) := by
  simp only [View.setAt, View.put, View.mk.injEq, and_true]
  funext t; split <;> rfl
 rw [this] at h2
 exact h2

/-- a block of the call's own, that nothing names but slices that are only read, is written beyond what they read -/
theorem SimE.spare (h : SimE C V a w fz ρ) {g : Nat} (hB : C.B ≤ g ∨ C.Mu g = true) (hρ : ∀ b, ρ b ≠ some g) (htip : ∀ p, isOwn (V.at p) = true → ∀ ad n c, conc a w ρ p = .slice (some ad) n c → ad.block ≠ g)
  {w' : World} (hos : w'.os = w.os) (htape : w'.tape = w.tape) (hout : w'.output = w.output) (hsz : w'.heap.size = w.heap.size) (hoth : ∀ i, i ≠ g → w'.heap[i]? = w.heap[i]?)
  {fz' : Fz} (hle : fz.le fz') (hobj : fz'.obj g = none) (hcell : ∀ o v, fz'.cell g o = some v → w'.cell? ⟨g, o, none⟩ = some v) (hsame : ∀ b, b ≠ g → (∀ o, fz'.cell b o = fz.cell b o) ∧ fz'.obj b = fz.obj b) : SimE C V a w' fz' ρ := by
 have hconc : ∀ p, isOwn (V.at p) = true → conc a w' ρ p = conc a w ρ p := fun p hp =>
  h.conc_same hp (Ren.le_refl _) (fun b j c _ hc => hoth c (fun e => hρ b (by rw [← e]; exact hc)))
 refine { h with
  tm := fun t => (h.tm t).mono hle _ _ _ _ (Ren.le_refl _), hp := fun b k hk => ?_, fcell := fun c o v e => ?_, fobj := fun c o e => ?_, f0 := Fz.le_trans h.f0 hle,
  f1 := fun c hc hcm => ?_, tips := fun p e wd rows hp => ?_, tipinj := fun p q hp hq x x' n n' c c' hgp hgq hg => ?_,
  os := hos.trans h.os, tape := htape.trans h.tape, output := hout.trans h.output, bsz := by rw [hsz]; exact h.bsz, old := fun c hc hm => ?_ }
 ·obtain ⟨c, hc, h1, h2, h3, h4⟩ := h.hp b k hk
  have hcg : c ≠ g := fun e => hρ b (by rw [← e]; exact hc)
  exact ⟨c, hc, h1, h2.mono hle (Ren.le_refl _) (fun o ho => by rw [hoth c hcg]; exact ho), fun o => ((hsame c hcg).1 o).trans (h3 o), (hsame c hcg).2.trans h4⟩
 ·by_cases e' : c = g
  ·subst e'; exact hcell o v e
  ·rw [(hsame c e').1 o] at e
   rw [World.cell?_of_block (w := w) (hoth c e')]; exact h.fcell c o v e
 ·by_cases e' : c = g
  ·subst e'; rw [hobj] at e; cases e
  ·rw [(hsame c e').2] at e
   rw [hoth c e']; exact h.fobj c o e
 ·have hcg : c ≠ g := by
   rintro rfl
   rcases hB with hx | hx
   ·omega
   ·rw [hcm] at hx; cases hx
  exact ⟨fun o v e => (h.f1 c hc hcm).1 o v (by rw [← (hsame c hcg).1 o]; exact e), fun o e => (h.f1 c hc hcm).2 o (by rw [← (hsame c hcg).2]; exact e)⟩
 ·have ho : isOwn (V.at p) = true := by rw [hp]; rfl
  rw [hconc p ho]
  rcases h.tips p e wd rows hp with ⟨h1, h2⟩ | ⟨x, cap, cur, h1, h2, h3, h4, h5, h6, h7, h8, h9⟩
  ·exact .inl ⟨h1, h2⟩
  ·have hx : x ≠ g := htip p ho _ _ _ h1
   exact .inr ⟨x, cap, cur, h1, h2, by rw [hoth x hx]; exact h3, h4, h5, h6, fun o ho => ((hsame x hx).1 o).trans (h7 o ho), (hsame x hx).2.trans h8, h9⟩
 ·rw [hconc p hp] at hgp
  rw [hconc q hq] at hgq
  exact h.tipinj p q hp hq x x' n n' c c' hgp hgq hg
 ·have hcg : c ≠ g := by
   rintro rfl
   rcases hB with hx | hx
   ·omega
   ·rw [hm] at hx; cases hx
  rw [hoth c hcg]; exact h.old c hc hm

theorem HoldsR.list {fz : Fz} : ∀ (rows : List (List AV)) (wd b o : Nat), HoldsR fz rows wd b o → ∃ vs : List Value, vs.length = rows.length * wd ∧ (∀ (j : Nat) (v : Value), vs[j]? = some v → fz.cell b (o + j) = some v) ∧ ∀ v ∈ vs, v.oneCell' = true
 | [], _, _, _, _ => ⟨[], by simp, by simp, by simp⟩
 | r :: rs, wd, b, o, h => by
  simp only [HoldsR] at h
  obtain ⟨h1, h2, h3⟩ := h
  obtain ⟨v1, a1, a2, a3⟩ := HoldsC.list _ _ _ h2
  obtain ⟨v2, b1, b2, b3⟩ := HoldsR.list rs wd b (o + wd) h3
  have hl1 : v1.length = wd := by rw [a1.len, h1]
  refine ⟨v1 ++ v2, by rw [List.length_append, b1, hl1, List.length_cons, Nat.add_mul]; omega, fun j v hj => ?_, fun v hv => ?_⟩
  ·by_cases hjl : j < v1.length
   ·rw [List.getElem?_append_left hjl] at hj; exact a2 j v hj
   ·rw [List.getElem?_append_right (by omega)] at hj
    have := b2 _ v hj
    rwa [show o + wd + (j - v1.length) = o + j from by omega] at this
  ·rcases List.mem_append.1 hv with hv | hv
   ·exact a3 v hv
   ·exact b3 v hv

theorem HoldsC.copy {fz fz' : Fz} (hle : fz.le fz') : ∀ (l : List AV) (b o g o' : Nat), HoldsC fz l b o → (∀ j, j < l.length → ∀ v, fz.cell b (o + j) = some v → fz'.cell g (o' + j) = some v) → HoldsC fz' l g o'
 | [], _, _, _, _, _, _ => by simp only [HoldsC]
 | x :: xs, b, o, g, o', h, hc => by
  simp only [HoldsC] at h ⊢
  obtain ⟨⟨u, hu, h1, hh⟩, h2⟩ := h
  refine ⟨⟨u, hc 0 (by simp) u hu, h1, hh.mono hle _ _ _ _ (Ren.le_refl _)⟩, HoldsC.copy hle xs b (o + 1) g (o' + 1) h2 fun j hj v hv => ?_⟩
  have := hc (j + 1) (by simpa using hj) v (by rw [← Nat.add_assoc, Nat.add_right_comm]; exact hv)
  rwa [show o' + 1 + j = o' + (j + 1) from by omega]
theorem HoldsR.copy {fz fz' : Fz} (hle : fz.le fz') : ∀ (rows : List (List AV)) (wd b o g o' : Nat), HoldsR fz rows wd b o → (∀ j, j < rows.length * wd → ∀ v, fz.cell b (o + j) = some v → fz'.cell g (o' + j) = some v) → HoldsR fz' rows wd g o'
 | [], _, _, _, _, _, _, _ => by simp only [HoldsR]
 | r :: rs, wd, b, o, g, o', h, hc => by
  simp only [HoldsR] at h ⊢
  obtain ⟨h1, h2, h3⟩ := h
  have hmul : (r :: rs).length * wd = wd + rs.length * wd := by rw [List.length_cons, Nat.add_mul]; omega
  refine ⟨h1, HoldsC.copy hle r b o g o' h2 fun j hj v hv => hc j (by omega) v hv, HoldsR.copy hle rs wd b (o + wd) g (o' + wd) h3 fun j hj v hv => ?_⟩
  have := hc (wd + j) (by omega) v (by rw [← Nat.add_assoc]; exact hv)
  rwa [← Nat.add_assoc] at this

/-- a new slice in a new block: its first cells are frozen; it may still grow -/
theorem SimE.grown (h : SimE C V a w fz ρ) {d : Option Nat} (hd : ∀ i, d = some i → i < C.N) {e : TypeId} {wd : Nat} {rows : List (List AV)} {cap : Nat} {cur : Array Value} {pre : List Value} {w' : World}
  (hw : Ext w w') (hg : w'.heap[w.heap.size]? = some (.cells cur e (0, 0))) (hpre : pre.length = rows.length * wd) (hcur : cur.toList.take pre.length = pre) (hcap : rows.length ≤ cap) (hm : cap ≤ maxLen) (hs : Full cur cap wd)
  (hR : HoldsR (fz.add w.heap.size pre) rows wd w.heap.size 0) : Sim C (V.putO d (.own e wd rows)) (a.put d (.slice (some ⟨w.heap.size, 0, none⟩) rows.length cap)) w' := by
 have hnew := h.fz_new (Nat.le_refl _)
 have hle := Fz.le_add (cs := pre) hnew.1
 have h1 : SimE C V a w' (fz.add w.heap.size pre) ρ := by
  refine h.extend hw hle (fun c o v hv => ?_) (fun c o hv => hw.heap (h.fobj c o hv)) (fun c hc => ⟨fun o => ?_, rfl⟩)
  ·simp only [Fz.add] at hv
   split at hv
   ·rename_i hc; subst hc
    simp only [World.cell?, hg, Option.isSome_none, Bool.false_eq_true, if_false]
    rw [← hcur, List.getElem?_take] at hv
    split at hv
    ·simpa using hv
    ·cases hv
   ·exact hw.cell (h.fcell c o v hv)
  ·simp only [Fz.add]
   rw [if_neg (by omega)]
 refine ⟨fz.add w.heap.size pre, ρ, ?_⟩
 cases d with
 | none => exact h1
 | some d =>
  refine h1.putOwn (hd d rfl) ?_ (.inr ⟨w.heap.size, cap, cur, rfl, .inl h.bsz, hg, hcap, hm, hs, fun o ho => ?_, hnew.2, fun b hb => ?_⟩) (fun q hq hqo g g' n n' c c' hv hc => ?_)
  ·simp only [Holds]; exact ⟨_, _, rfl, hcap, .inr ⟨_, _, rfl, hR⟩⟩
  ·simp only [Fz.add, if_true]; exact List.getElem?_eq_none (by omega)
  ·exact absurd (h.lt hb) (by omega)
  ·cases hv
   have hlt := fun {b c} => SimE.lt h (b := b) (c := c)
   rw [h.conc_same (w' := w') hqo (Ren.le_refl _) (fun b j c _ hc => hw.block c (hlt hc))] at hc
   cases hq' : V.at q <;> rw [hq'] at hqo <;> simp [isOwn] at hqo
   rcases h.tips q _ _ _ hq' with ⟨x1, _⟩ | ⟨x, _, _, x1, _, x3, _⟩
   ·rw [hc] at x1; cases x1
   ·rw [hc] at x1; cases x1
    have := lt_of_heap x3
    simp; omega

theorem SimE.extDrawn (h : SimE C V a w fz ρ) : SimE C V a w.drew fz ρ := h.ext (Ext.drawn w _)
theorem ext_drew_alloc (w : World) (ob : Obj) : Ext w (w.drew.alloc ob) := (Ext.drawn w _).trans (Ext.alloc w.drew ob)
theorem heap_drew_alloc (w : World) (ob : Obj) : (w.drew.alloc ob).heap[w.heap.size]? = some ob := heap_alloc_new w.drew ob
end Go.Aw
end
