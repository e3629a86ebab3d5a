/- Append of a string's bytes. -/
import Derived.Test.YtdobngcdgkallaaGreatDoorAwO
import Derived.Lib.AppendStr
set_option linter.unusedSimpArgs false
set_option linter.unusedVariables false
set_option linter.unusedSectionVars false
namespace Go.Aw
variable [GL]
variable {P : Program} {C : Ctx} {V : View} {a : Act} {w : World} {fz : Fz} {ρ : Ren} {o : Oper} {Q : Exit → Act → World → Prop}

theorem HoldsR.bytes {fz : Fz} : ∀ (l : List UInt8) (g o : Nat), (∀ (j : Nat) (b : UInt8), l[j]? = some b → fz.cell g (o + j) = some (.int .u8 b.toNat)) → HoldsR fz (l.map fun b => [AV.val (.int .u8 (b.toNat : Int))]) 1 g o
 | [], _, _, _ => by simp only [List.map_nil, HoldsR]
 | b :: l, g, o, h => by
  simp only [List.map_cons, HoldsR, HoldsC]
  refine ⟨rfl, ⟨⟨_, h 0 b rfl, rfl, by simp only [Holds]⟩, trivial⟩, HoldsR.bytes l g (o + 1) fun j c hc => ?_⟩
  have := h (j + 1) c (by simpa using hc)
  rwa [show o + 1 + j = o + (j + 1) from by omega]
theorem byteRows_len (s : ByteArray) : (byteRows s).length = s.size := by simp only [byteRows, List.length_map, Array.length_toList]; rfl
theorem strCells_get (s : ByteArray) (j : Nat) : (Lib.strCells s)[j]? = (s.data.toList[j]?).map fun b => Value.int .u8 b.toNat := by simp only [Lib.strCells, List.getElem?_map]

theorem apps_exec {t u : TypeId} {s x : Operand} (hop : o.op = .call { callee := .builtin .append, args := #[s, x], argTypes := #[t, u] }) {v : Value} {w' : World}
  (hr : (Builtin.append_ #[t, u] o.type #[a.eval s, a.eval x]).run P w = .ok v w') : (execOp a.eval o).run P w = .ok (.value v) w' := by
 simp [execOp, hop, resolve, invoke, builtin, hr]
theorem run_apps_zero {t u e : TypeId} {i : TypeInfo} (ht : P.underlying t = some (.slice e)) (hu : P.underlying u = some .string) (hi : P.info? e = some i) (hs : i.size = 1) {ty : TypeId} {base : Option Addr} {n cap : Nat} (hcap : n ≤ cap) {x : ByteArray} (hx : x.size = 0) (w : World) :
  (Builtin.append_ #[t, u] ty #[.slice base n cap, .string x]).run P w = .ok (.slice base n cap) w := by
 have hf := Lib.run_firstCells_string (P := P) w 1 x
 rw [hx] at hf
 have he : Lib.strCells x = [] := List.eq_nil_of_length_eq_zero (by rw [Lib.strCells_length, hx])
 rw [he] at hf
 cases base <;> simp [Builtin.append_, run_underlying ht, run_underlying hu, sizeOf, typeInfo, hi, hs, Builtin.lenOf, hcap, hx, hf, storeCells]

theorem sound_apps (h : SimE C V a w fz ρ) {t u e : TypeId} {s x : Operand} (hop : o.op = .call { callee := .builtin .append, args := #[s, x], argTypes := #[t, u] }) (ht : P.underlying t = some (.slice e)) (hu : P.underlying u = some .string) {i : TypeInfo} {z : Value}
  (hi : P.info? e = some i) (hz : i.zero = some z) (hs1 : i.size = 1) (hzs : z.cells.size = 1) (hz1 : z.cells.toList.all Value.oneCell' = true) {ef : Eff} (he : aApps e i.bytes s [V.ev s, V.ev x] = some ef) (hob : ef.ob) (hd : ∀ i, o.dst = some i → i < C.N)
  (hne : ∀ t, s = .tmp t → o.dst ≠ some t) : Sound P C V a w o ef := by
 have hxh := h.ev x
 have hsh := h.ev s
 have hdem := demP_srcPl h s
 unfold aApps at he
 split at he
 ·rename_i sv str heq
  simp only [List.cons.injEq, and_true] at heq
  obtain ⟨e1, e2⟩ := heq
  rw [e1] at hsh; rw [e2] at hxh
  simp only [Holds] at hxh
  split at he
  ·rename_i rows hgr
   cases he
   obtain ⟨hb1, hb2⟩ := hob
   have hbl := byteRows_len str
   intro Q
   show o.wp P a w (fun a' w' => Sim C (((V.demP (srcPl s)).setBO none).putO o.dst (.own e 1 (rows ++ byteRows str))) a' w') Q
   simp only [View.setBO]
   have stays : ∀ (base : Option Addr) (cap : Nat), str.size = 0 → a.eval s = .slice base rows.length cap → rows.length ≤ cap → (execOp a.eval o).run P w = .ok (.value (.slice base rows.length cap)) w := by
    intro base cap hn hsv hcap
    exact apps_exec hop (by rw [hsv, hxh]; exact run_apps_zero ht hu hi hs1 hcap hn w)
   -- a new block
   have fresh : ∀ (base : Option Addr) (cap : Nat) (vs1 : List Value), a.eval s = .slice base rows.length cap → (base = none ∧ rows = [] ∧ cap = 0 ∧ vs1 = [] ∨ ∃ ad, base = some ad ∧ ∀ j u, vs1[j]? = some u → w.cell? (ad.add j) = some u) →
     vs1.length = rows.length → (∀ u ∈ vs1, u.oneCell' = true) → (∀ (fz' : Fz) (g : Nat), fz.le fz' → (∀ j (hj : j < vs1.length), fz'.cell g j = some vs1[j]) → HoldsR fz' rows 1 g 0) → 0 < str.size → cap < rows.length + str.size →
     o.wp P a w (fun a' w' => Sim C ((V.demP (srcPl s)).putO o.dst (.own e 1 (rows ++ byteRows str))) a' w') Q := by
    intro base cap vs1 hsv hb l1 one1 hcp hpos hlt
    have hm : rows.length + str.size ≤ maxLen := by simp only [maxLen]; omega
    have hlen : (rows ++ byteRows str).length = rows.length + str.size := by rw [List.length_append, hbl]
    have l2 := Lib.strCells_length str
    have one2 := Lib.strCells_oneCell str
    have hnew := hdem.fz_new (Nat.le_refl _)
    have hrun : (Builtin.append_ #[t, u] o.type #[.slice base rows.length cap, .string str]).run P w = .ok (.slice (some ⟨w.heap.size, 0, none⟩) (rows.length + str.size) (grownCap w (rows.length + str.size) cap e))
      (w.drew.alloc (.cells (vs1.toArray ++ (Lib.strCells str).toArray ++ Builtin.zeroCells z.cells (grownCap w (rows.length + str.size) cap e - (rows.length + str.size))) e)) := by
     rcases hb with ⟨rfl, rfl, rfl, rfl⟩ | ⟨ad, rfl, hn1⟩
     ·have := run_append_nil_string (P := P) w t u o.type e i z ht hu hi hz str hpos (by omega) (by simp only [List.length_nil, Nat.zero_add] at hb1; omega)
      simp only [List.length_nil, Nat.zero_add]
      rw [this]
      congr 3
      simp only [Lib.strCells]
      apply Array.ext'
      simp
     ·have := Lib.run_append_grow_string (P := P) w t u o.type e i z ht hu hi hz ad rows.length cap vs1 (by rw [l1, hs1, Nat.mul_one]) hn1 str hlt (by omega) (growslice_fits hlt hb1)
      exact this
    have hr := apps_exec (P := P) (w := w) hop (by rw [hsv, hxh]; exact hrun)
    refine wp_of_value hr ?_
    have hge := grownCap_ge w (rows.length + str.size) cap e
    rw [← hlen]
    refine hdem.grown hd (pre := vs1 ++ Lib.strCells str) (ext_drew_alloc w _) (by rw [hlen]; exact heap_drew_alloc w _) (by rw [List.length_append, l1, l2, hlen, Nat.mul_one]) ?_ (by rw [hlen]; exact hge) (by rw [hlen]; exact grownCap_le_maxLen w _ _ _ hm) ?_ ?_
    ·simp only [Array.toList_append, List.append_assoc]
     rw [← List.append_assoc]
     exact List.take_left
    ·rw [hlen]
     refine ⟨?_, fun u hu => ?_⟩
     ·simp only [Array.size_append, List.size_toArray, size_zeroCells, hzs, l1, l2]
      omega
     ·simp only [Array.toList_append, List.mem_append] at hu
      rcases hu with (hu | hu) | hu
      ·exact one1 u hu
      ·exact one2 u hu
      ·exact zeroCells_one hz1 _ u hu
    ·refine HoldsR.append rows (byteRows str) _ _ _ ?_ ?_
     ·refine hcp _ _ (Fz.le_add hnew.1) fun j hj => ?_
      simp only [Fz.add, if_true]
      rw [List.getElem?_append_left hj]; simp
     ·refine HoldsR.bytes _ _ _ fun j b hj => ?_
      simp only [Fz.add, if_true, Nat.zero_add]
      rw [List.getElem?_append_right (by omega), l1, Nat.mul_one, Nat.add_sub_cancel_left, strCells_get, hj]; rfl
   by_cases hn : str.size = 0
   ·-- nothing comes: the slice stays
    have hbe : byteRows str = [] := List.eq_nil_of_length_eq_zero (by rw [hbl, hn])
    rw [hbe, List.append_nil]
    unfold growS at hgr
    split at hgr
    ·rename_i e' w' rows'
     split at hgr
     ·rename_i hee
      obtain ⟨rfl, rfl⟩ := hee
      cases hgr
      have hso : ∃ tt, s = .tmp tt := by
       cases s with
       | tmp tt => exact ⟨tt, rfl⟩
       | _ => simp [View.ev] at e1
      obtain ⟨tt, rfl⟩ := hso
      have hvt : V.tm tt = .own e' 1 rows := by simpa [View.ev] using e1
      simp only [Holds] at hsh
      obtain ⟨base, cap, hsv, hcap, _⟩ := hsh
      refine wp_of_value (stays base cap hn hsv hcap) ⟨fz, ρ, ?_⟩
      cases hdst : o.dst with
      | none => exact hdem
      | some d =>
       have := h.take (p := .t tt) trivial (d := d) (hd d hdst) (fun e => hne tt rfl (by cases e; exact hdst)) (h.tm tt)
       have hat : V.at (.t tt) = .own e' 1 rows := by simp [View.at, hvt]
       rw [hat] at this
       have hconc : conc a w ρ (.t tt) = .slice base rows.length cap := hsv
       rw [hconc] at this
       simp only [srcPl, View.demP, View.putO]
       rw [hat]; exact this
     ·cases hgr
    ·cases hgr
     simp only [Holds] at hsh
     refine wp_of_value (stays none 0 hn hsh (Nat.le_refl _)) ⟨fz, ρ, ?_⟩
     cases hdst : o.dst with
     | none => exact hdem
     | some d =>
      refine hdem.putOwn (hd d hdst) (by simp only [Holds]; exact ⟨none, 0, rfl, Nat.le_refl _, .inl (by simp)⟩) (.inl ⟨rfl, rfl⟩) (fun q _ _ g g' n n' c c' hv _ => by cases hv)
    ·cases hgr
   ·have hpos : 0 < str.size := Nat.pos_of_ne_zero hn
    unfold growS at hgr
    split at hgr
    ·rename_i e' w' rows'
     split at hgr
     ·rename_i hee
      obtain ⟨rfl, rfl⟩ := hee
      cases hgr
      have hso : ∃ tt, s = .tmp tt := by
       cases s with
       | tmp tt => exact ⟨tt, rfl⟩
       | _ => simp [View.ev] at e1
      obtain ⟨tt, rfl⟩ := hso
      have hvt : V.at (.t tt) = .own e' 1 rows := by simpa [View.ev, View.at] using e1
      have htip := h.tips (.t tt) _ _ _ hvt
      have hconc : conc a w ρ (.t tt) = a.eval (.tmp tt) := rfl
      rw [hconc] at htip
      rcases htip with ⟨hsv, rfl⟩ | ⟨g, cap, cur, hsv, hgB, hgh, hgc, hgm, hgs, hgf, hgo, hgρ⟩
      ·exact fresh none 0 [] hsv (.inl ⟨rfl, rfl, rfl, rfl⟩) rfl (by simp) (fun _ _ _ _ => by simp [HoldsR]) hpos (by simpa using hpos)
      ·have hR1 : HoldsR fz rows 1 g 0 := by
        simp only [Holds] at hsh
        obtain ⟨ad, cap', hsv', _, hr⟩ := hsh
        rw [hsv] at hsv'
        cases hsv'
        rcases hr with rfl | ⟨b, oo, hr, hR⟩
        ·simp [HoldsR]
        ·cases hr; exact hR
       by_cases hroom : rows.length + str.size ≤ cap
       ·-- in place
        have l2 := Lib.strCells_length str
        have one2 := Lib.strCells_oneCell str
        have hgs1 := hgs.1
        rw [Nat.mul_one] at hgs1
        have hrun := Lib.run_append_room_string (P := P) w t u o.type e' i ht hu hi hs1 g rows.length cap cur hgh str hroom (by omega)
        have hr := apps_exec (P := P) (w := w) hop (by rw [hsv, hxh]; exact hrun)
        refine wp_of_value hr ?_
        let fz' : Fz := { cell := fun b o => if b = g then (if rows.length ≤ o then (Lib.strCells str)[o - rows.length]? else fz.cell g o) else fz.cell b o, obj := fz.obj }
        have hle : fz.le fz' := by
         refine ⟨fun b o v hv => ?_, fun b o hv => hv⟩
         simp only [fz']
         split
         ·rename_i hb; subst hb
          split
          ·rename_i ho; rw [hgf o (by omega)] at hv; cases hv
          ·exact hv
         ·exact hv
        have hset := setRow_heap w g cur (cur.toList.take rows.length ++ Lib.strCells str ++ cur.toList.drop (rows.length + str.size)).toArray e' (0, 0) hgh
        have hnot : ∀ p, isOwn ((V.demP (srcPl (.tmp tt))).at p) = true → p ≠ .t tt ∧ V.at p = (V.demP (srcPl (.tmp tt))).at p := by
         intro p hp
         simp only [srcPl, View.demP] at hp ⊢
         rw [View.at_setAt V (.t tt) p _ trivial] at hp ⊢
         by_cases e : p = .t tt
         ·rw [if_pos e, isOwn_dem] at hp; cases hp
         ·exact ⟨e, by rw [if_neg e]⟩
        have htipne : ∀ p, isOwn ((V.demP (srcPl (.tmp tt))).at p) = true → ∀ ad n c, conc a w ρ p = .slice (some ad) n c → ad.block ≠ g := by
         intro p hp ad n c hc heq
         obtain ⟨p1, p2⟩ := hnot p hp
         exact p1 (h.tipinj p (.t tt) (by rw [p2]; exact hp) (by rw [hvt]; rfl) ad ⟨g, 0, none⟩ n rows.length c cap hc hsv heq)
        have hsp := hdem.spare (g := g) hgB hgρ htipne (w' := w.setRow g (cur.toList.take rows.length ++ Lib.strCells str ++ cur.toList.drop (rows.length + str.size)).toArray) rfl rfl rfl (setRow_size _ _ _) (fun k hk => setRow_other w g k _ hk) (fz' := fz') hle hgo
         (fun oo v hv => by
          simp only [World.cell?, hset, Option.isSome_none, Bool.false_eq_true, if_false, List.getElem?_toArray]
          simp only [fz', if_true] at hv
          split at hv
          ·rename_i ho
           rw [List.append_assoc, List.getElem?_append_right (by simp; omega)]
           have hmin : min rows.length cur.size = rows.length := by omega
           simp only [List.length_take, Array.length_toList, hmin]
           obtain ⟨hlt, _⟩ := List.getElem?_eq_some_iff.1 hv
           rw [List.getElem?_append_left hlt]; exact hv
          ·rename_i ho
           have hold := h.fcell g oo v hv
           simp only [World.cell?, hgh, Option.isSome_none, Bool.false_eq_true, if_false] at hold
           rw [List.append_assoc, List.getElem?_append_left (by simp; omega), List.getElem?_take, if_pos (by omega)]
           simpa using hold)
         (fun b hb => ⟨fun oo => by simp only [fz', hb, if_false], rfl⟩)
        refine ⟨fz', ρ, ?_⟩
        have hlen : (rows ++ byteRows str).length = rows.length + str.size := by rw [List.length_append, hbl]
        cases hdst : o.dst with
        | none => exact hsp
        | some d =>
         have hR : HoldsR fz' (rows ++ byteRows str) 1 g 0 := by
          refine HoldsR.append rows (byteRows str) _ _ _ (hR1.mono hle _ _ _ _) ?_
          refine HoldsR.bytes _ _ _ fun j b hj => ?_
          simp only [fz', if_true, Nat.zero_add, Nat.mul_one]
          rw [if_pos (by omega), Nat.add_sub_cancel_left, strCells_get, hj]; rfl
         rw [show Value.slice (some ⟨g, 0, none⟩) (rows.length + str.size) cap = Value.slice (some ⟨g, 0, none⟩) (rows ++ byteRows str).length cap from by rw [hlen]]
         refine hsp.putOwn (hd d hdst) (by simp only [Holds]; exact ⟨_, _, rfl, by rw [hlen]; exact hroom, .inr ⟨_, _, rfl, hR⟩⟩)
          (.inr ⟨g, cap, _, rfl, hgB, hset, by rw [hlen]; exact hroom, hgm, ?_, fun oo ho => ?_, hgo, hgρ⟩) (fun q _ hqo g1 g2 n1 n2 c1 c2 hv hc => ?_)
         ·refine ⟨?_, fun u hu => ?_⟩
          ·simp only [List.size_toArray, List.length_append, List.length_take, List.length_drop, Array.length_toList]
           omega
          ·simp only [List.mem_append] at hu
           rcases hu with (hu | hu) | hu
           ·exact hgs.2 u (List.mem_of_mem_take hu)
           ·exact one2 u hu
           ·exact hgs.2 u (List.mem_of_mem_drop hu)
         ·simp only [fz', if_true]
          rw [hlen] at ho
          rw [if_pos (by omega)]
          exact List.getElem?_eq_none (by omega)
         ·cases hv
          have hcs := hdem.conc_same (w' := w.setRow g (cur.toList.take rows.length ++ Lib.strCells str ++ cur.toList.drop (rows.length + str.size)).toArray) hqo (Ren.le_refl _) (fun b j c _ hc => setRow_other w g c _ (fun e => hgρ b (by rw [← e]; exact hc)))
          rw [hcs] at hc
          exact fun e => htipne q hqo _ _ _ hc e.symm
       ·obtain ⟨vs1, l1, c1', one1⟩ := HoldsR.list rows 1 g 0 hR1
        refine fresh (some ⟨g, 0, none⟩) cap vs1 hsv (.inr ⟨_, rfl, news_add h c1'⟩) (by rw [l1, Nat.mul_one]) one1 (fun fz' g' hle hc => HoldsR.copy hle rows 1 g 0 g' 0 hR1 fun j hj v hv => ?_) hpos (by omega)
        have hjl : j < vs1.length := by omega
        have := c1' j vs1[j] (by simp)
        rw [hv] at this; cases this
        rw [Nat.zero_add]; exact hc j hjl
     ·cases hgr
    ·cases hgr
     simp only [Holds] at hsh
     exact fresh none 0 [] hsh (.inl ⟨rfl, rfl, rfl, rfl⟩) rfl (by simp) (fun _ _ _ _ => by simp [HoldsR]) hpos (by simpa using hpos)
    ·cases hgr
  ·cases he
 ·rename_i hx; cases he
end Go.Aw
