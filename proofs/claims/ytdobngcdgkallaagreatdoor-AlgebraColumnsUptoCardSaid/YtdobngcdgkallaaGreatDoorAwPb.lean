/- Nil checks; bytes and strings; slices and pointers against nil; elements of arrays. -/
import Derived.Test.YtdobngcdgkallaaGreatDoorAwP
set_option linter.unusedSimpArgs false
set_option linter.unusedVariables false
set_option linter.unusedSectionVars false
namespace Go.Aw
variable [GL]
variable {P : Program} {C : Ctx} {V : View} {a : Act} {w : World} {fz : Fz} {ρ : Ren} {o : Oper} {Q : Exit → Act → World → Prop}

theorem sound_nck (h : SimE C V a w fz ρ) {x : Operand} (hop : o.op = .nilCheck x) {ef : Eff} (he : aNck [V.ev x] = some ef) (hd : ∀ i, o.dst = some i → i < C.N) : Sound P C V a w o ef := by
 have hx := h.ev x
 unfold aNck at he
 split at he
 ·rename_i b off heq
  simp only [List.cons.injEq, and_true] at heq
  cases he
  rw [heq] at hx
  have hx0 := hx
  simp only [Holds] at hx
  obtain ⟨c, _, hv⟩ := hx
  exact sound_value h (v := a.eval x) (by simp [execOp, hop, hv]) hd hx0 rfl
 ·rename_i w' rows i k heq
  simp only [List.cons.injEq, and_true] at heq
  cases he
  rw [heq] at hx
  have hx0 := hx
  simp only [Holds] at hx
  obtain ⟨b, o', hv, _⟩ := hx
  exact sound_value h (v := a.eval x) (by simp [execOp, hop, hv]) hd hx0 rfl
 ·rename_i f caps heq
  simp only [List.cons.injEq, and_true] at heq
  cases he
  rw [heq] at hx
  have hx0 := hx
  simp only [Holds] at hx
  obtain ⟨cs, hv, _⟩ := hx
  exact sound_value h (v := a.eval x) (by simp [execOp, hop, hv, cloV]) hd hx0 rfl
 ·cases he

theorem numsA_get : ∀ {rows : List (List AV)} {l : List Int}, numsA rows = some l → l.length = rows.length ∧ ∀ i (hi : i < l.length), rows[i]? = some [.val (.int .u8 l[i])]
 | [], l, h => by simp only [numsA, Option.some.injEq] at h; subst h; simp
 | r :: rows, l, h => by
  unfold numsA at h
  split at h
  ·rename_i heq; cases heq
  ·rename_i n r' heq
   cases heq
   cases hn : numsA rows with
   | none => rw [hn] at h; cases h
   | some l' =>
    rw [hn] at h; cases h
    obtain ⟨h1, h2⟩ := numsA_get hn
    refine ⟨by simp [h1], fun i hi => ?_⟩
    cases i with
    | zero => rfl
    | succ i => simpa using h2 i (by simpa using hi)
  ·cases h

theorem sound_b2s (h : SimE C V a w fz ρ) {s t e : TypeId} {x : Operand} (hop : o.op = .convert s t x) (hs : P.underlying s = some (.slice e)) (hu : P.underlying e = some (.int .u8)) (ht : P.underlying t = some .string)
  {ef : Eff} (he : aB2s [V.ev x] = some ef) (hd : ∀ i, o.dst = some i → i < C.N) : Sound P C V a w o ef := by
 have hx := h.ev x
 simp only [aB2s] at he
 split at he
 ·rename_i rows hrows
  split at he
  ·rename_i l hl
   cases he
   obtain ⟨hlen, hget⟩ := numsA_get hl
   have key : (convert s t (a.eval x)).run P w = .ok (.string (strOfNums l)) w := by
    have hsl : ∃ ad c, a.eval x = .slice ad rows.length c ∧ (rows = [] ∨ ∃ wd b o', ad = some ⟨b, o', none⟩ ∧ HoldsR fz rows wd b o') := by
     unfold rowsOf at hrows
     split at hrows
     ·rename_i wd rows' heq; cases hrows; rw [heq] at hx; simp only [Holds] at hx
      obtain ⟨ad, c, h1, _, h2⟩ := hx
      exact ⟨ad, c, h1, h2.imp id fun ⟨b, o', h3, h4⟩ => ⟨_, b, o', h3, h4⟩⟩
     ·rename_i wd rows' heq; cases hrows; rw [heq] at hx; simp only [Holds] at hx
      obtain ⟨ad, h1, h2⟩ := hx
      exact ⟨ad, _, h1, h2.imp id fun ⟨b, o', h3, h4⟩ => ⟨_, b, o', h3, h4⟩⟩
     ·rename_i e' wd rows' heq; cases hrows; rw [heq] at hx; simp only [Holds] at hx
      obtain ⟨ad, c, h1, _, h2⟩ := hx
      exact ⟨ad, c, h1, h2.imp id fun ⟨b, o', h3, h4⟩ => ⟨_, b, o', h3, h4⟩⟩
     ·rename_i heq; cases hrows; rw [heq] at hx; simp only [Holds] at hx
      exact ⟨none, 0, by simpa using hx, .inl rfl⟩
     ·cases hrows
    obtain ⟨ad, c, hv, hr⟩ := hsl
    rw [hv]
    rcases hr with rfl | ⟨wd, b, o', rfl, hR⟩
    ·have : l = [] := List.eq_nil_of_length_eq_zero (by simpa using hlen)
     subst this
     cases ad with
     | none => exact run_convert_bytes_nil w s e hs hu _ _ t ht
     | some ad =>
      have : (loadCells ad 0).run P w = .ok (([] : List Int).map (Value.int .u8)).toArray w := by
       have := run_loadCells_list (P := P) w ad ([] : List Value) (fun j v hj => by simp at hj)
       simpa using this
      rw [show ([] : List (List AV)).length = 0 from rfl, run_convert_bytes_string w s t e _ 0 c hs hu ht, run_bytesToString w _ 0 c [] this]
      rfl
    ·have hwd : rows ≠ [] → wd = 1 := by
      intro hne
      cases rows with
      | nil => exact absurd rfl hne
      | cons r rs =>
       simp only [HoldsR] at hR
       have := hget 0 (by rw [hlen]; simp)
       simp at this
       rw [this] at hR
       simpa using hR.1.symm
     by_cases hne : rows = []
     ·subst hne
      have : l = [] := List.eq_nil_of_length_eq_zero (by simpa using hlen)
      subst this
      exact run_convert_bytes_arg w s e hs hu b o' 0 c [] rfl (fun i hi => by omega) t ht
     ·have h1 := hwd hne
      subst h1
      exact run_convert_bytes_arg w s e hs hu b o' rows.length c l hlen (fun i hi => by
       have hi' : i < l.length := by omega
       obtain ⟨_, hc⟩ := hR.get _ _ _ _ i _ (hget i hi')
       obtain ⟨u, hu1, _, hu2⟩ := hc.get _ _ _ 0 (.val (.int .u8 l[i])) (by simp)
       simp only [Holds] at hu2
       subst hu2
       have := h.fcell _ _ _ hu1
       rw [show o' + i * 1 + 0 = o' + i from by omega] at this
       rw [this, List.getD_eq_getElem?_getD, List.getElem?_eq_getElem hi']; rfl) t ht
   exact sound_value h (v := .string (strOfNums l)) (by simp [execOp, hop, key]) hd (by simp only [Holds]) rfl
  ·cases he
 ·cases he

theorem sound_s2b (h : SimE C V a w fz ρ) {s t e : TypeId} {x : Operand} (hop : o.op = .convert s t x) (hs : P.underlying s = some .string) (hu : P.underlying e = some (.int .u8)) (ht : P.underlying t = some (.slice e))
  {ef : Eff} (he : aS2b [V.ev x] = some ef) (hd : ∀ i, o.dst = some i → i < C.N) : Sound P C V a w o ef := by
 have hx := h.ev x
 unfold aS2b at he
 split at he
 ·rename_i str heq
  simp only [List.cons.injEq, and_true] at heq
  rw [heq] at hx; simp only [Holds] at hx
  cases he
  have hrun := run_bytes_of_string (P := P) w s t e str hs ht hu
  intro Q
  let ob : Obj := .cells (bytesRow str (grownCap w str.size 0 e)) e ((bytesRow str (grownCap w str.size 0 e)).size, (bytesRow str (grownCap w str.size 0 e)).size + 1)
  refine wp_of_value (v := .slice (some ⟨w.heap.size, 0, none⟩) str.size (grownCap w str.size 0 e)) (w' := w.drew.alloc ob) (by simp [execOp, hop, hx, hrun, ob]) ?_
  let pre : List Value := str.data.toList.map fun b => .int .u8 b.toNat
  have hext : Ext w (w.drew.alloc ob) := ext_drew_alloc w ob
  have hnew := h.fz_new (Nat.le_refl _)
  have hat : (w.drew.alloc ob).heap[w.heap.size]? = some ob := heap_drew_alloc w ob
  have h1 : SimE C V a (w.drew.alloc ob) (fz.add w.heap.size pre) ρ := by
   refine h.extend hext (Fz.le_add hnew.1) (fun c o v hv => ?_) (fun c o hv => hext.heap (h.fobj c o hv)) (fun c hc => ⟨fun o => ?_, rfl⟩)
   ·simp only [Fz.add] at hv
    split at hv
    ·rename_i hc; subst hc
     simp only [World.cell?, hat, ob, Option.isSome_none, Bool.false_eq_true, if_false]
     have hlt := (List.getElem?_eq_some_iff.1 hv).1
     simp only [bytesRow]
     rw [Array.getElem?_append_left (by simpa [pre] using hlt)]
     simpa [pre] using hv
    ·exact hext.cell (h.fcell c o v hv)
   ·simp only [Fz.add]; rw [if_neg (by omega)]
  refine ⟨_, ρ, h1.putO hd ?_ rfl⟩
  have hsz : (byteRows str).length = str.size := by simp only [byteRows, List.length_map, Array.length_toList]; rfl
  simp only [Holds, hsz]
  refine ⟨some ⟨w.heap.size, 0, none⟩, _, rfl, grownCap_ge w str.size 0 e, .inr ⟨_, _, rfl, HoldsR.of_get _ _ _ _ fun i r hr => ?_⟩⟩
  simp only [byteRows, List.getElem?_map, Option.map_eq_some_iff] at hr
  obtain ⟨b, hb, rfl⟩ := hr
  refine ⟨rfl, HoldsC.of_get _ _ _ fun j y hj => ?_⟩
  cases j with
  | succ j => simp at hj
  | zero =>
   simp at hj; subst hj
   refine ⟨.int .u8 b.toNat, ?_, rfl, by simp only [Holds]⟩
   simp only [Fz.add, if_true, pre, List.getElem?_map]
   rw [show 0 + i * 1 + 0 = i from by omega, hb]; rfl
 ·cases he

theorem sound_snil (h : SimE C V a w fz ρ) {neg : Bool} {op : BinOp} (hneg : op = if neg then .neq else .eql) {t u : TypeId} {x : Operand} (hop : o.op = .binOp op t x (.const (.slice none 0 0)) u) {e : TypeId} (ht : P.underlying t = some (.slice e))
  {ef : Eff} (he : aSnil neg [V.ev x] = some ef) (hd : ∀ i, o.dst = some i → i < C.N) : Sound P C V a w o ef := by
 have hx := h.ev x
 have key : ∀ (r : Option Addr) (n c : Nat), a.eval x = .slice r n c → (execOp a.eval o).run P w = .ok (.value (.bool (if neg then !r.isNone else r.isNone))) w := by
  intro r n c hr
  have h1 : (eqGuard op t x (.const (.slice none 0 0)) (a.eval x) (.slice none 0 0)).run P w = .ok () w := by rw [hr]; exact eqGuard_plain _ _ _ _ _ _ rfl (by simp)
  have h2' : ∀ d : Nat, (Op.equalIn (d + 1) t (.slice r n c) (.slice none 0 0)).run P w = .ok r.isNone w := by intro d; cases r <;> simp [Op.equalIn, run_underlying ht]
  have h2 := h2' 9999
  have h3 : a.eval (.const (.slice none 0 0)) = .slice none 0 0 := rfl
  cases neg <;> simp only [Bool.false_eq_true, if_false, if_true] at hneg <;> subst hneg <;> rw [hr] at h1 <;>
   simp [execOp, hop, h1, h3, hr, binOp, Op.equal, Op.maxDepth, h2]
 have some_ : ∀ (ad : Addr) (n c : Nat), a.eval x = .slice (some ad) n c → ∀ ob : Prop, Sound P C V a w o { out := .val (.bool neg), ob := ob } := by
  intro ad n c hv ob
  have hk := key (some ad) n c hv
  exact sound_value h (v := .bool neg) (by rw [hk]; cases neg <;> rfl) hd (by simp only [Holds]) rfl
 have rows_ : ∀ (r : List AV) (rs : List (List AV)) (ad : Option Addr) (n c : Nat), a.eval x = .slice ad n c → ((r :: rs) = [] ∨ ∃ wd b o', ad = some ⟨b, o', none⟩ ∧ HoldsR fz (r :: rs) wd b o') → ∀ ob : Prop, Sound P C V a w o { out := .val (.bool neg), ob := ob } := by
  intro r rs ad n c hv hr ob
  rcases hr with hr | ⟨_, b, o', rfl, _⟩
  ·cases hr
  ·exact some_ _ _ _ hv ob
 unfold aSnil at he
 split at he <;> (try (cases he; done)) <;> rename_i heq <;> simp only [List.cons.injEq, and_true] at heq <;> rw [heq] at hx <;> simp only [Holds] at hx <;> cases he
 ·have hk := key none 0 0 hx
  exact sound_value h (v := .bool !neg) (by rw [hk]; cases neg <;> rfl) hd (by simp only [Holds]) rfl
 ·obtain ⟨ad, c, h1, _, h2⟩ := hx
  exact rows_ _ _ ad _ _ h1 (h2.imp id fun ⟨b, o', h3, h4⟩ => ⟨_, b, o', h3, h4⟩) _
 ·obtain ⟨ad, h1, h2⟩ := hx
  exact rows_ _ _ ad _ _ h1 (h2.imp id fun ⟨b, o', h3, h4⟩ => ⟨_, b, o', h3, h4⟩) _
 ·obtain ⟨ad, c, h1, _, h2⟩ := hx
  exact rows_ _ _ ad _ _ h1 (h2.imp id fun ⟨b, o', h3, h4⟩ => ⟨_, b, o', h3, h4⟩) _
 ·obtain ⟨c, _, h1⟩ := hx
  exact some_ _ _ _ h1 _

theorem sound_pnil (h : SimE C V a w fz ρ) {neg : Bool} {op : BinOp} (hneg : op = if neg then .neq else .eql) {t u : TypeId} {x : Operand} (hop : o.op = .binOp op t x (.const (.pointer none)) u) {e : TypeId} (ht : P.underlying t = some (.pointer e))
  {ef : Eff} (he : aPnil neg [V.ev x] = some ef) (hd : ∀ i, o.dst = some i → i < C.N) : Sound P C V a w o ef := by
 have hx := h.ev x
 have key : ∀ (b o' : Nat), a.eval x = .pointer (some ⟨b, o', none⟩) → ∀ ob : Prop, Sound P C V a w o { out := .val (.bool neg), ob := ob } := by
  intro b o' hr ob
  have h1 : (eqGuard op t x (.const (.pointer none)) (a.eval x) (.pointer none)).run P w = .ok () w := by rw [hr]; exact eqGuard_plain _ _ _ _ _ _ rfl (by simp)
  have h2' : ∀ d : Nat, (Op.equalIn (d + 1) t (.pointer (some ⟨b, o', none⟩)) (.pointer none)).run P w = .ok false w := by intro d; simp [Op.equalIn, run_underlying ht]
  have h2 := h2' 9999
  have h3 : a.eval (.const (.pointer none)) = .pointer none := rfl
  refine sound_value h (v := .bool neg) ?_ hd (by simp only [Holds]) rfl
  cases neg <;> simp only [Bool.false_eq_true, if_false, if_true] at hneg <;> subst hneg <;> rw [hr] at h1 <;>
   simp [execOp, hop, h1, h3, hr, binOp, Op.equal, Op.maxDepth, h2]
 unfold aPnil at he
 split at he <;> (try (cases he; done)) <;> rename_i heq <;> simp only [List.cons.injEq, and_true] at heq <;> rw [heq] at hx <;> simp only [Holds] at hx <;> cases he
 ·obtain ⟨c, _, hv⟩ := hx; exact key _ _ hv _
 ·obtain ⟨b, o', hv, _⟩ := hx; exact key _ _ hv _

theorem indexAt_arr {t e : TypeId} {n wd : Nat} (ht : P.underlying t = some (.array n e)) (hn : szOf P e = some wd) {k : IntKind} {i : Int} (h0 : 0 ≤ i) (h1 : i < n) {b off : Nat} (w : World) :
  (Instr.indexAt t (.pointer (some ⟨b, off, none⟩)) (.int k i)).run P w = .ok (.pointer (some ⟨b, off + i.toNat * wd, none⟩)) w := by
 simp only [szOf, Option.map_eq_some_iff] at hn
 obtain ⟨it, hit, rfl⟩ := hn
 simp [Instr.indexAt, asIntOf, run_underlying ht, Instr.sureAddr, sizeOf, typeInfo, hit, h0, h1, addr_add]
theorem sound_iada (h : SimE C V a w fz ρ) {t e : TypeId} {n : Nat} {x i : Operand} (hop : o.op = .indexAddr t x i) (ht : P.underlying t = some (.array n e)) {wd : Nat} (hn : szOf P e = some wd)
  {ef : Eff} (he : aIada n wd [V.ev x, V.ev i] = some ef) (hob : ef.ob) (hd : ∀ i, o.dst = some i → i < C.N) : Sound P C V a w o ef := by
 have hx := h.ev x
 unfold aIada at he
 split at he
 ·rename_i b off k j heq
  simp only [List.cons.injEq, and_true] at heq
  obtain ⟨e1, e2⟩ := heq
  have hi := ev_int h e2
  rw [e1] at hx; simp only [Holds] at hx
  obtain ⟨c, hρ, hv⟩ := hx
  cases he
  refine sound_value h (v := .pointer (some ⟨c, off + j.toNat * wd, none⟩)) ?_ hd ?_ rfl
  ·simp only [execOp, hop, hv, hi, Sem.run_bind, indexAt_arr ht hn hob.1 hob.2 w, Result.andThen_ok, Sem.run_pure]
  ·simp only [Holds]; exact ⟨c, hρ, rfl⟩
 ·rename_i w' rows r k' k j heq
  simp only [List.cons.injEq, and_true] at heq
  obtain ⟨e1, e2⟩ := heq
  have hi := ev_int h e2
  rw [e1] at hx; simp only [Holds] at hx
  obtain ⟨b, o', hv, hR⟩ := hx
  cases he
  refine sound_value h (v := .pointer (some ⟨b, o' + (r * w' + k') + j.toNat * wd, none⟩)) ?_ hd ?_ rfl
  ·simp only [execOp, hop, hv, hi, Sem.run_bind, indexAt_arr ht hn hob.1 hob.2 w, Result.andThen_ok, Sem.run_pure]
  ·simp only [Holds]; exact ⟨b, o', by rw [show o' + (r * w' + k') + j.toNat * wd = o' + (r * w' + (k' + j.toNat * wd)) from by omega], hR⟩
 ·cases he
end Go.Aw
