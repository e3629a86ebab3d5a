/- Append; calls. -/
import Derived.Test.YtdobngcdgkallaaGreatDoorAwL
set_option linter.unusedSimpArgs false
set_option linter.unusedVariables false
set_option linter.unusedSectionVars false
namespace Go.Aw
variable [GL]
variable {P : Program} {C : Ctx} {V : View} {a : Act} {w : World} {fz : Fz} {ρ : Ren} {o : Oper} {Q : Exit → Act → World → Prop}

theorem append_exec {t : TypeId} {s x : Operand} (hop : o.op = .call { callee := .builtin .append, args := #[s, x], argTypes := #[t, t] }) {v : Value} {w' : World}
  (hr : (Builtin.append_ #[t, t] o.type #[a.eval s, a.eval x]).run P w = .ok v w') : (execOp a.eval o).run P w = .ok (.value v) w' := by
 simp [execOp, hop, resolve, invoke, builtin, hr]

theorem run_append_zero {t e : TypeId} {i : TypeInfo} (ht : P.underlying t = some (.slice e)) (hi : P.info? e = some i) {ty : TypeId} {base : Option Addr} {n cap : Nat} (hcap : n ≤ cap) {ad : Option Addr} {c : Nat} (w : World) :
  (Builtin.append_ #[t, t] ty #[.slice base n cap, .slice ad 0 c]).run P w = .ok (.slice base n cap) w := by
 cases ad <;> cases base <;> simp [Builtin.append_, run_underlying ht, sizeOf, typeInfo, hi, Builtin.lenOf, hcap, Builtin.firstCells, loadCells, loadCellsFrom, storeCells]

theorem news_add {b o : Nat} {vs : List Value} (h : SimE C V a w fz ρ) (hv : ∀ (j : Nat) (v : Value), vs[j]? = some v → fz.cell b (o + j) = some v) : ∀ j u, vs[j]? = some u → w.cell? ((⟨b, o, none⟩ : Addr).add j) = some u := by
 intro j u hj; rw [addr_add]; exact h.fcell _ _ _ (hv j u hj)

theorem zeroCells_one {z : Value} (h : z.cells.toList.all Value.oneCell' = true) (n : Nat) : ∀ u ∈ (Builtin.zeroCells z.cells n).toList, u.oneCell' = true := by
 intro u hu
 rw [show (Builtin.zeroCells z.cells n).toList = (List.replicate n z.cells.toList).flatten from range_zero_flatten z.cells n] at hu
 obtain ⟨l', hl', hu'⟩ := List.mem_flatten.1 hu
 have := List.eq_of_mem_replicate hl'
 subst this
 exact List.all_eq_true.1 h u hu'

/-- the source is a slice whose cells are read only (or nil), and there is no room: a new block -/
theorem append_fresh (h : SimE C V a w fz ρ) {t e : TypeId} {s x : Operand} (hop : o.op = .call { callee := .builtin .append, args := #[s, x], argTypes := #[t, t] }) (ht : P.underlying t = some (.slice e)) {i : TypeInfo} {z : Value}
  (hi : P.info? e = some i) (hz : i.zero = some z) (hzs : z.cells.size = i.size) (hz1 : z.cells.toList.all Value.oneCell' = true) {rows new : List (List AV)} {base : Option Addr} {cap : Nat} (hs : a.eval s = .slice base rows.length cap)
  (hb : (base = none ∧ rows = [] ∧ cap = 0) ∨ ∃ ad, base = some ad ∧ (rows = [] ∨ ∃ b o', ad = ⟨b, o', none⟩ ∧ HoldsR fz rows i.size b o')) {b2 o2 c2 : Nat} (hx : a.eval x = .slice (some ⟨b2, o2, none⟩) new.length c2) (hR : HoldsR fz new i.size b2 o2)
  (hlt : cap < rows.length + new.length) (hbytes : (rows.length + new.length) * i.bytes ≤ 140737488355328) (h63 : rows.length + new.length ≤ 4611686018427387904) (hd : ∀ i, o.dst = some i → i < C.N) :
  ∀ Q : Exit → Act → World → Prop, o.wp P a w (fun a' w' => Sim C (V.putO o.dst (.own e i.size (rows ++ new))) a' w') Q := by
 intro Q
 have hm : rows.length + new.length ≤ maxLen := by simp only [maxLen]; omega
 have hlen : (rows ++ new).length = rows.length + new.length := List.length_append
 obtain ⟨vs2, l2, c2', one2⟩ := HoldsR.list new i.size b2 o2 hR
 have hn2 := news_add h c2'
 have hnew := h.fz_new (Nat.le_refl _)
 rcases hb with ⟨rfl, rfl, rfl⟩ | ⟨ad1, rfl, hR1⟩
 ·simp only [List.length_nil, Nat.zero_add, List.nil_append] at hlt hbytes h63 hm hlen ⊢
  have hrun := run_append_nil (P := P) w t o.type e i z ht hi hz ⟨b2, o2, none⟩ new.length c2 vs2 l2 hn2 hlt (by omega) (by omega)
  have hr := append_exec (P := P) (w := w) hop (by rw [hs, hx]; exact hrun)
  refine wp_of_value hr ?_
  have hge := grownCap_ge w new.length 0 e
  refine h.grown hd (pre := vs2) (ext_drew_alloc w _) (heap_drew_alloc w _) l2 ?_ hge (grownCap_le_maxLen w _ _ _ hm) ?_ ?_
  ·simp
  ·refine ⟨?_, fun u hu => ?_⟩
   ·simp only [Array.size_append, List.size_toArray, size_zeroCells, hzs, l2, ← Nat.add_mul]
    congr 1; omega
   ·simp only [Array.toList_append, List.mem_append] at hu
    rcases hu with hu | hu
    ·exact one2 u hu
    ·exact zeroCells_one hz1 _ u hu
  ·refine HoldsR.copy (Fz.le_add hnew.1) new i.size b2 o2 _ 0 hR fun j hj v hv => ?_
   simp only [Fz.add, if_true, Nat.zero_add]
   have hjl : j < vs2.length := by omega
   have := c2' j vs2[j] (by simp)
   rw [hv] at this; cases this
   simp
 ·have key : ∃ vs1 : List Value, vs1.length = rows.length * i.size ∧ (∀ j u, vs1[j]? = some u → w.cell? (ad1.add j) = some u) ∧ (∀ u ∈ vs1, u.oneCell' = true) ∧
    ∀ (fz' : Fz) (g : Nat), fz.le fz' → (∀ j (hj : j < vs1.length), fz'.cell g j = some vs1[j]) → HoldsR fz' rows i.size g 0 := by
   rcases hR1 with rfl | ⟨b1, o1, rfl, hR1⟩
   ·exact ⟨[], by simp, by simp, by simp, fun _ _ _ _ => by simp [HoldsR]⟩
   ·obtain ⟨vs1, l1, c1', one1⟩ := HoldsR.list rows i.size b1 o1 hR1
    refine ⟨vs1, l1, news_add h c1', one1, fun fz' g hle hc => HoldsR.copy hle rows i.size b1 o1 g 0 hR1 fun j hj v hv => ?_⟩
    have hjl : j < vs1.length := by omega
    have := c1' j vs1[j] (by simp)
    rw [hv] at this; cases this
    rw [Nat.zero_add]; exact hc j hjl
  obtain ⟨vs1, l1, hn1, one1, hcp⟩ := key
  have hrun := run_append_grow (P := P) w t o.type e i z ht hi hz ad1 rows.length cap vs1 l1 hn1 ⟨b2, o2, none⟩ new.length c2 vs2 l2 hn2 hlt (by omega) (growslice_fits hlt hbytes)
  have hr := append_exec (P := P) (w := w) hop (by rw [hs, hx]; exact hrun)
  refine wp_of_value hr ?_
  have hge := grownCap_ge w (rows.length + new.length) cap e
  rw [← hlen]
  refine h.grown hd (pre := vs1 ++ vs2) (ext_drew_alloc w _) (by rw [hlen]; exact heap_drew_alloc w _) (by rw [List.length_append, l1, l2, hlen, Nat.add_mul]) ?_ (by rw [hlen]; exact hge) (by rw [hlen]; exact grownCap_le_maxLen w _ _ _ hm) ?_ ?_
  ·simp only [Array.toList_append, List.append_assoc]
   rw [← List.append_assoc]
   exact List.take_left
  ·rw [hlen]
   refine ⟨?_, fun u hu => ?_⟩
   ·simp only [Array.size_append, List.size_toArray, size_zeroCells, hzs, l1, l2, ← Nat.add_mul]
    congr 1; omega
   ·simp only [Array.toList_append, List.mem_append] at hu
    rcases hu with (hu | hu) | hu
    ·exact one1 u hu
    ·exact one2 u hu
    ·exact zeroCells_one hz1 _ u hu
  ·refine HoldsR.append rows new _ _ _ ?_ ?_
   ·refine hcp _ _ (Fz.le_add hnew.1) fun j hj => ?_
    simp only [Fz.add, if_true]
    rw [List.getElem?_append_left hj]; simp
   ·refine HoldsR.copy (Fz.le_add hnew.1) new i.size b2 o2 _ _ hR fun j hj v hv => ?_
    simp only [Fz.add, if_true, Nat.zero_add]
    have hjl : j < vs2.length := by omega
    have := c2' j vs2[j] (by simp)
    rw [hv] at this; cases this
    rw [List.getElem?_append_right (by omega), l1, Nat.add_sub_cancel_left]; simp

theorem demP_srcPl (h : SimE C V a w fz ρ) (s : Operand) : SimE C (V.demP (srcPl s)) a w fz ρ := by
 cases s <;> first | exact h | exact h.demote (p := .t _) trivial

theorem sound_app (h : SimE C V a w fz ρ) {t e : TypeId} {s x : Operand} (hop : o.op = .call { callee := .builtin .append, args := #[s, x], argTypes := #[t, t] }) (ht : P.underlying t = some (.slice e)) {i : TypeInfo} {z : Value}
  (hi : P.info? e = some i) (hz : i.zero = some z) (hzs : z.cells.size = i.size) (hz1 : z.cells.toList.all Value.oneCell' = true) {ef : Eff} (he : aApp e i.size i.bytes s [V.ev s, V.ev x] = some ef) (hob : ef.ob) (hd : ∀ i, o.dst = some i → i < C.N)
  (hne : ∀ t, s = .tmp t → o.dst ≠ some t) : Sound P C V a w o ef := by
 have hxh := h.ev x
 have hsh := h.ev s
 have hdem := demP_srcPl h s
 unfold aApp at he
 split at he
 ·rename_i sv xv heq
  simp only [List.cons.injEq, and_true] at heq
  obtain ⟨e1, e2⟩ := heq
  rw [e1] at hsh; rw [e2] at hxh
  split at he
  ·rename_i rows new hgr hmo
   obtain ⟨ad, c2, hxv, hc2, hxr⟩ := moreA_holds hmo hxh
   split at he
   ·rename_i hw0
    cases he
    obtain ⟨hb1, hb2, hb3⟩ := hob
    intro Q
    show o.wp P a w (fun a' w' => Sim C (((V.demP (srcPl s)).setBO none).putO o.dst (.own e i.size (rows ++ new))) a' w') Q
    simp only [View.setBO]
    -- nothing comes: the slice stays
    have stays : ∀ (base : Option Addr) (cap : Nat), new = [] → a.eval s = .slice base rows.length cap → rows.length ≤ cap → (execOp a.eval o).run P w = .ok (.value (.slice base rows.length cap)) w := by
     intro base cap hn hsv hcap
     subst hn
     exact append_exec hop (by rw [hsv, hxv]; exact run_append_zero ht hi hcap w)
    by_cases hn : new = []
    ·-- no new rows
     subst hn
     simp only [List.append_nil]
     unfold growA at hgr
     split at hgr
     ·rename_i e' w' rows'
      split at hgr
      ·rename_i hee
       obtain ⟨rfl, rfl⟩ := hee
       cases hgr
       have hso : ∃ tt, s = .tmp tt := by
        cases s with
        | tmp tt => exact ⟨tt, rfl⟩
        | _ => simp [View.ev] at e1
       obtain ⟨tt, rfl⟩ := hso
       have hvt : V.tm tt = .own e' i.size rows := by simpa [View.ev] using e1
       simp only [Holds] at hsh
       obtain ⟨base, cap, hsv, hcap, _⟩ := hsh
       refine wp_of_value (stays base cap rfl hsv hcap) ⟨fz, ρ, ?_⟩
       cases hdst : o.dst with
       | none => exact hdem
       | some d =>
        have := h.take (p := .t tt) trivial (d := d) (hd d hdst) (fun e => hne tt rfl (by cases e; exact hdst)) (h.tm tt)
        have hat : V.at (.t tt) = .own e' i.size rows := by simp [View.at, hvt]
        rw [hat] at this
        have hconc : conc a w ρ (.t tt) = .slice base rows.length cap := hsv
        rw [hconc] at this
        simp only [srcPl, View.demP, View.putO]
        rw [hat]; exact this
      ·cases hgr
     ·rename_i w' rows'
      split at hgr
      ·cases hgr; simp [isFx] at hb3
      ·cases hgr
     ·cases hgr
      simp only [Holds] at hsh
      refine wp_of_value (stays none 0 rfl hsh (Nat.le_refl _)) ⟨fz, ρ, ?_⟩
      cases hdst : o.dst with
      | none => exact hdem
      | some d =>
       refine hdem.putOwn (hd d hdst) (by simp only [Holds]; exact ⟨none, 0, rfl, Nat.le_refl _, .inl (by simp)⟩) (.inl ⟨rfl, rfl⟩) (fun q _ _ g g' n n' c c' hv _ => by cases hv)
     ·cases hgr
    ·-- new rows
     have hnl : 0 < new.length := List.length_pos_iff.2 hn
     rcases hxr with hxn | ⟨b2, o2, rfl, hR2⟩
     ·exact absurd hxn hn
     ·unfold growA at hgr
      split at hgr
      ·rename_i e' w' rows'
       split at hgr
       ·rename_i hee
        obtain ⟨rfl, rfl⟩ := hee
        cases hgr
        have hso : ∃ tt, s = .tmp tt := by
         cases s with
         | tmp tt => exact ⟨tt, rfl⟩
         | _ => simp [View.ev] at e1
        obtain ⟨tt, rfl⟩ := hso
        have hvt : V.at (.t tt) = .own e' i.size rows := by simpa [View.ev, View.at] using e1
        have htip := h.tips (.t tt) _ _ _ hvt
        have hconc : conc a w ρ (.t tt) = a.eval (.tmp tt) := rfl
        rw [hconc] at htip
        rcases htip with ⟨hsv, rfl⟩ | ⟨g, cap, cur, hsv, hgB, hgh, hgc, hgm, hgs, hgf, hgo, hgρ⟩
        ·exact append_fresh hdem hop ht hi hz hzs hz1 (rows := []) (base := none) (cap := 0) hsv (.inl ⟨rfl, rfl, rfl⟩) hxv hR2 (by simpa using hnl) hb1 hb2 hd Q
        ·have hR1 : HoldsR fz rows i.size g 0 := by
          simp only [Holds] at hsh
          obtain ⟨ad, cap', hsv', _, hr⟩ := hsh
          rw [hsv] at hsv'
          cases hsv'
          rcases hr with rfl | ⟨b, oo, hr, hR⟩
          ·simp [HoldsR]
          ·cases hr; exact hR
         by_cases hroom : rows.length + new.length ≤ cap
         ·-- in place
          obtain ⟨vs2, l2, c2', one2⟩ := HoldsR.list new i.size b2 o2 hR2
          have hn2 := news_add h c2'
          have hfit : rows.length * i.size + vs2.length ≤ cur.size := by rw [l2, hgs.1, ← Nat.add_mul]; exact Nat.mul_le_mul_right _ hroom
          have hrun := run_append_room (P := P) w t o.type e' i ht hi g rows.length cap cur hgh ⟨b2, o2, none⟩ new.length c2 vs2 l2 hn2 one2 hroom hfit
          have hr := append_exec (P := P) (w := w) hop (by rw [hsv, hxv]; exact hrun)
          refine wp_of_value hr ?_
          let fz' : Fz := { cell := fun b o => if b = g then (if rows.length * i.size ≤ o then vs2[o - rows.length * i.size]? else fz.cell g o) else fz.cell b o, obj := fz.obj }
          have hle : fz.le fz' := by
           refine ⟨fun b o v hv => ?_, fun b o hv => hv⟩
           simp only [fz']
           split
           ·rename_i hb; subst hb
            split
            ·rename_i ho; rw [hgf o ho] at hv; cases hv
            ·exact hv
           ·exact hv
          have hset := setRow_heap w g cur (cur.toList.take (rows.length * i.size) ++ vs2 ++ cur.toList.drop (rows.length * i.size + vs2.length)).toArray e' (0, 0) hgh
          have hnot : ∀ p, isOwn ((V.demP (srcPl (.tmp tt))).at p) = true → p ≠ .t tt ∧ V.at p = (V.demP (srcPl (.tmp tt))).at p := by
           intro p hp
           simp only [srcPl, View.demP] at hp ⊢
           rw [View.at_setAt V (.t tt) p _ trivial] at hp ⊢
           by_cases e : p = .t tt
           ·rw [if_pos e, isOwn_dem] at hp; cases hp
           ·exact ⟨e, by rw [if_neg e]⟩
          have htipne : ∀ p, isOwn ((V.demP (srcPl (.tmp tt))).at p) = true → ∀ ad n c, conc a w ρ p = .slice (some ad) n c → ad.block ≠ g := by
           intro p hp ad n c hc heq
           obtain ⟨p1, p2⟩ := hnot p hp
           exact p1 (h.tipinj p (.t tt) (by rw [p2]; exact hp) (by rw [hvt]; rfl) ad ⟨g, 0, none⟩ n rows.length c cap hc hsv heq)
          have hsp := hdem.spare (g := g) hgB hgρ htipne (w' := w.setRow g (cur.toList.take (rows.length * i.size) ++ vs2 ++ cur.toList.drop (rows.length * i.size + vs2.length)).toArray) rfl rfl rfl (setRow_size _ _ _) (fun k hk => setRow_other w g k _ hk) (fz' := fz') hle hgo
           (fun oo v hv => by
            simp only [World.cell?, hset, Option.isSome_none, Bool.false_eq_true, if_false, List.getElem?_toArray]
            simp only [fz', if_true] at hv
            split at hv
            ·rename_i ho
             rw [List.append_assoc, List.getElem?_append_right (by simp; omega)]
             have hmin : min (rows.length * i.size) cur.size = rows.length * i.size := by omega
             simp only [List.length_take, Array.length_toList, hmin]
             obtain ⟨hlt, _⟩ := List.getElem?_eq_some_iff.1 hv
             rw [List.getElem?_append_left hlt]; exact hv
            ·rename_i ho
             have hold := h.fcell g oo v hv
             simp only [World.cell?, hgh, Option.isSome_none, Bool.false_eq_true, if_false] at hold
             rw [List.append_assoc, List.getElem?_append_left (by simp; omega), List.getElem?_take, if_pos (by omega)]
             simpa using hold)
           (fun b hb => ⟨fun oo => by simp only [fz', hb, if_false], rfl⟩)
          refine ⟨fz', ρ, ?_⟩
          have hlen : (rows ++ new).length = rows.length + new.length := List.length_append
          cases hdst : o.dst with
          | none => exact hsp
          | some d =>
           have hR : HoldsR fz' (rows ++ new) i.size g 0 := by
            refine HoldsR.append rows new _ _ _ (hR1.mono hle _ _ _ _) ?_
            refine HoldsR.copy hle new i.size b2 o2 _ _ hR2 fun j hj v hv => ?_
            simp only [fz', if_true, Nat.zero_add]
            rw [if_pos (by omega), Nat.add_sub_cancel_left]
            have hjl : j < vs2.length := by omega
            have := c2' j vs2[j] (by simp)
            rw [hv] at this; cases this
            simp
           rw [← hlen]
           refine hsp.putOwn (hd d hdst) (by simp only [Holds]; exact ⟨_, _, rfl, by rw [hlen]; exact hroom, .inr ⟨_, _, rfl, hR⟩⟩)
            (.inr ⟨g, cap, _, rfl, hgB, hset, by rw [hlen]; exact hroom, hgm, ?_, fun oo ho => ?_, hgo, hgρ⟩) (fun q _ hqo g1 g2 n1 n2 c1 c2 hv hc => ?_)
           ·have hgs1 := hgs.1
            refine ⟨?_, fun u hu => ?_⟩
            ·simp only [List.size_toArray, List.length_append, List.length_take, List.length_drop, Array.length_toList]
             omega
            ·simp only [List.mem_append] at hu
             rcases hu with (hu | hu) | hu
             ·exact hgs.2 u (List.mem_of_mem_take hu)
             ·exact one2 u hu
             ·exact hgs.2 u (List.mem_of_mem_drop hu)
           ·simp only [fz', if_true]
            rw [hlen, Nat.add_mul] at ho
            rw [if_pos (by omega)]
            exact List.getElem?_eq_none (by omega)
           ·cases hv
            have hcs := hdem.conc_same (w' := w.setRow g (cur.toList.take (rows.length * i.size) ++ vs2 ++ cur.toList.drop (rows.length * i.size + vs2.length)).toArray) hqo (Ren.le_refl _) (fun b j c _ hc => setRow_other w g c _ (fun e => hgρ b (by rw [← e]; exact hc)))
            rw [hcs] at hc
            exact fun e => htipne q hqo _ _ _ hc e.symm
         ·exact append_fresh hdem hop ht hi hz hzs hz1 hsv (.inr ⟨_, rfl, .inr ⟨g, 0, rfl, hR1⟩⟩) hxv hR2 (by omega) hb1 hb2 hd Q
       ·cases hgr
      ·rename_i w' rows'
       split at hgr
       ·rename_i hww
        subst hww
        cases hgr
        simp only [Holds] at hsh
        obtain ⟨base, hsv, hr⟩ := hsh
        rcases hr with rfl | ⟨b, oo, rfl, hR⟩
        ·cases base with
         | none => exact append_fresh hdem hop ht hi hz hzs hz1 (rows := []) hsv (.inl ⟨rfl, rfl, rfl⟩) hxv hR2 (by simpa using hnl) hb1 hb2 hd Q
         | some ad => exact append_fresh hdem hop ht hi hz hzs hz1 (rows := []) hsv (.inr ⟨ad, rfl, .inl rfl⟩) hxv hR2 (by simpa using hnl) hb1 hb2 hd Q
        ·exact append_fresh hdem hop ht hi hz hzs hz1 hsv (.inr ⟨_, rfl, .inr ⟨b, oo, rfl, hR⟩⟩) hxv hR2 (by omega) hb1 hb2 hd Q
       ·cases hgr
      ·cases hgr
       simp only [Holds] at hsh
       exact append_fresh hdem hop ht hi hz hzs hz1 (rows := []) (base := none) (cap := 0) hsh (.inl ⟨rfl, rfl, rfl⟩) hxv hR2 (by simpa using hnl) hb1 hb2 hd Q
      ·cases hgr
   ·cases he
  ·cases he
 ·rename_i hx; exact (hx _ _ rfl).elim
end Go.Aw
