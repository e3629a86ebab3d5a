/- From a contract to a statement: what the arguments read as, and what is told behind the call. -/
import Derived.Test.YtdobngcdgkallaaGreatDoorAwV
import Derived.ChangeStays
import Derived.ReadAgain
import Derived.ChangeSame
import Derived.ChangeShapes
set_option linter.unusedSimpArgs false
set_option linter.unusedVariables false
set_option linter.unusedSectionVars false
namespace Go.Aw
variable [GL]
open Go.ChangeShapes

def frz (w : World) : Fz := { cell := fun b o => w.cell? ⟨b, o, none⟩, obj := fun b => w.heap[b]? }
theorem frz_ok (w : World) : FzOK (frz w) w := ⟨fun _ _ _ h => h, fun _ _ h => h⟩

section
variable {H : Type} {enc : TypeId × Value → H} {P : Program} {w : World} {bulk : DataW H → Nat} {N : Nat} {α β : Type}

/-- how much a reading holds -/
structure Bulk (bulk : DataW H → Nat) : Prop where
 pos : ∀ d, 1 ≤ bulk d
 slice : ∀ elems spare, (elems.map bulk).sum + 1 ≤ bulk (.slice elems spare)
 agg : ∀ parts, (parts.map bulk).sum + 1 ≤ bulk (.agg parts)
 str : ∀ l, l.length + 1 ≤ bulk (.lit (.string l))

/-- the cells of type t read as some y, of which ok is so -/
def Opens (enc : TypeId × Value → H) (P : Program) (w : World) (bulk : DataW H → Nat) (N : Nat) (t : TypeId) (e : α → List AV) (ok : α → Nat → Prop) : Prop :=
 ∀ n, n ≤ N → ∀ (cs : List Value) (x : DataW H × List MemPlace), DataW.trod enc P w 0 (fun _ => true) true n t cs = some x →
  ∃ y : α, HoldsL (frz w) (e y) noRen cs ∧ (∀ c ∈ cs, c.oneCell' = true) ∧ ok y (bulk x.1)
variable {t te : TypeId} {e : α → List AV} {ok ok' : α → Nat → Prop}

theorem Opens.mono {M : Nat} (h : Opens enc P w bulk N t e ok) (hm : M ≤ N) : Opens enc P w bulk M t e ok := fun n hn => h n (Nat.le_trans hn hm)
theorem Opens.zero : Opens enc P w bulk 0 t e ok := by
 intro n hn cs x h
 obtain rfl : n = 0 := by omega
 simp [DataW.trod] at h
theorem Opens.map {e' : β → List AV} {ok' : β → Nat → Prop} (h : Opens enc P w bulk N t e ok) (f : α → β) (he : ∀ x, e' (f x) = e x) (hok : ∀ x b, ok x b → ok' (f x) b) : Opens enc P w bulk N t e' ok' := by
 intro n hn cs x hx
 obtain ⟨y, h1, h2, h3⟩ := h n hn cs x hx
 exact ⟨f y, by rw [he]; exact h1, h2, hok _ _ h3⟩
theorem Opens.bool (ht : P.underlying t = some .bool) : Opens enc P w bulk N t (fun b : Bool => [.val (.bool b)]) (fun _ _ => True) := by
 intro n _ cs x h
 obtain ⟨b, rfl, rfl⟩ := DataW.trod_bool ht h
 exact ⟨b, by simp [HoldsL, Holds], by simp [Value.oneCell'], trivial⟩
theorem Opens.int {k : IntKind} (ht : P.underlying t = some (.int k)) : Opens enc P w bulk N t (fun n : Int => [.val (.int k n)]) (fun n _ => (Lit.int k n).wf = true) := by
 intro n _ cs x h
 obtain ⟨b, rfl, rfl, hw⟩ := DataW.trod_int ht h
 exact ⟨b, by simp [HoldsL, Holds], by simp [Value.oneCell'], hw⟩
theorem Opens.string (hb : Bulk bulk) (ht : P.underlying t = some .string) : Opens enc P w bulk N t (fun s : ByteArray => [.val (.string s)]) (fun s b => s.size + 1 ≤ b) := by
 intro n _ cs x h
 obtain ⟨s, rfl, rfl, hw⟩ := DataW.trod_string ht h
 refine ⟨s, by simp [HoldsL, Holds], by simp [Value.oneCell'], ?_⟩
 have := hb.str s.data.toList
 rw [Array.length_toList] at this
 exact this

/-- each of a list, of its part of the bulk -/
def SumOK (ok : α → Nat → Prop) : List α → Nat → Prop
 | [], b => 1 ≤ b
 | x :: l, b => ∃ b1 b2, 1 ≤ b1 ∧ ok x b1 ∧ SumOK ok l b2 ∧ b1 + b2 ≤ b
theorem SumOK.mono {l : List α} : ∀ {b b' : Nat}, SumOK ok l b → b ≤ b' → SumOK ok l b' := by
 cases l with
 | nil => intro b b' h hb; exact Nat.le_trans h hb
 | cons x l => intro b b' ⟨b1, b2, h1, h2, h3, h4⟩ hb; exact ⟨b1, b2, h1, h2, h3, by omega⟩
theorem SumOK.length : ∀ {l : List α} {b : Nat}, SumOK ok l b → l.length < b
 | [], _, h => h
 | _ :: l, b, ⟨b1, b2, h1, _, h3, h4⟩ => by have := SumOK.length h3; simp; omega
theorem SumOK.each : ∀ {l : List α} {b : Nat}, SumOK ok l b → ∀ x ∈ l, ∃ b', b' < b ∧ ok x b'
 | [], _, _, x, hx => by simp at hx
 | y :: l, b, ⟨b1, b2, h1, h2, h3, h4⟩, x, hx => by
  have hl := SumOK.length h3
  rcases List.mem_cons.1 hx with rfl | hx
  ·exact ⟨b1, by omega, h2⟩
  ·obtain ⟨b', hb, hok⟩ := SumOK.each h3 x hx
   exact ⟨b', by omega, hok⟩

theorem addr_eta {a : Addr} {i : Nat} (h : (a.add i).spot = none) : (⟨a.block, a.off + i, none⟩ : Addr) = a.add i := by
 cases a with
 | mk b o s =>
  simp only [Addr.add] at h ⊢
  split
  ·rename_i e; rw [if_pos e] at h; simp at h; subst h; simp [e]
  ·rfl
theorem add_block (a : Addr) (i : Nat) : (a.add i).block = a.block := by unfold Addr.add; split <;> rfl
theorem add_off (a : Addr) (i : Nat) : (a.add i).off = a.off + i := by unfold Addr.add; split <;> simp_all
theorem cells_frz {a : Addr} {n : Nat} {cs : List Value} (h : w.cells? 0 a n = some cs) : cs.length = n ∧ (∀ i (hi : i < cs.length), w.cell? ⟨a.block, a.off + i, none⟩ = some cs[i]) := by
 obtain ⟨_, hl, hc⟩ := World.cells?_some h
 refine ⟨hl, fun i hi => ?_⟩
 have h1 := hc i (by omega)
 have hs := World.cell?_spot (w := w) (a := a.add i) (v := cs[i]) (by rw [h1, List.getElem?_eq_getElem hi])
 rw [List.getElem?_eq_getElem hi] at h1
 rw [← h1]
 congr 1
 rw [addr_eta hs]
theorem holdsC_of {cs : List Value} {l : List AV} : ∀ {b o : Nat}, HoldsL (frz w) l noRen cs → (∀ i (hi : i < cs.length), w.cell? ⟨b, o + i, none⟩ = some cs[i]) → (∀ c ∈ cs, c.oneCell' = true) → HoldsC (frz w) l b o := by
 intro b o h hc h1
 refine HoldsC.of_get l b o fun i x hx => ?_
 obtain ⟨v, hv, hh⟩ := h.get _ _ _ i x hx
 obtain ⟨hi, rfl⟩ := List.getElem?_eq_some_iff.1 hv
 exact ⟨cs[i], hc i hi, h1 _ (List.getElem_mem hi), hh⟩

theorem Opens.slice (hb : Bulk bulk) (ht : P.underlying t = some (.slice te)) (hpos : 0 < P.cellsOf te) (hl : ∀ x, (e x).length = P.cellsOf te) (h : Opens enc P w bulk N te e ok) :
  Opens enc P w bulk (N + 1) t (fun l : List α => [.rd (P.cellsOf te) (l.map e)]) (SumOK ok) := by
 intro n hn cs x hx
 rcases DataW.trod_slice ht hx with ⟨rfl, rfl⟩ | ⟨a, len, cap, elems, rest, m, hf, rfl, rfl, _, hlc, hcm, hel, hels, _, _⟩
 ·exact ⟨[], by simp [HoldsL, Holds], by simp [Value.oneCell'], hb.pos _⟩
 ·have key : ∀ (k : Nat) (el : List (DataW H × List MemPlace)), (∀ i, i < el.length → (w.cells? 0 (a.add ((k + i) * P.cellsOf te)) (P.cellsOf te)).bind (DataW.trod enc P w 0 (fun _ => true) true m te) = el[i]?) →
    ∃ l : List α, l.length = el.length ∧ HoldsR (frz w) (l.map e) (P.cellsOf te) a.block (a.off + k * P.cellsOf te) ∧ SumOK ok l ((el.map fun x => bulk x.1).sum + 1) := by
   intro k el
   induction el generalizing k with
   | nil => intro _; exact ⟨[], rfl, by simp [HoldsR], by simp [SumOK]⟩
   | cons y el ih =>
    intro hels
    have h0 := hels 0 (by simp)
    simp only [Nat.add_zero, List.getElem?_cons_zero] at h0
    obtain ⟨cs, hcs, hy⟩ := Option.bind_eq_some_iff.1 h0
    obtain ⟨z, hz1, hz2, hz3⟩ := h m (by omega) cs y hy
    obtain ⟨hcl, hcc⟩ := cells_frz hcs
    obtain ⟨l, hl1, hl2, hl3⟩ := ih (k + 1) fun i hi => by
     have := hels (i + 1) (by simpa using hi)
     rw [show k + 1 + i = k + (i + 1) from by omega, this]; simp
    refine ⟨z :: l, by simp [hl1], ?_, bulk y.1, _, hb.pos _, hz3, hl3, by simp; omega⟩
    simp only [List.map_cons, HoldsR]
    refine ⟨hl z, holdsC_of hz1 (fun i hi => ?_) hz2, ?_⟩
    ·have := hcc i hi
     rwa [add_block, add_off] at this
    ·rw [show a.off + k * P.cellsOf te + P.cellsOf te = a.off + (k + 1) * P.cellsOf te from by rw [Nat.add_mul]; omega]; exact hl2
  obtain ⟨l, hl1, hl2, hl3⟩ := key 0 elems fun i hi => by rw [Nat.zero_add]; exact hels i (by omega)
  have hr : l = [] ∨ a.spot = none := by
   cases elems with
   | nil => left; simpa using hl1
   | cons y el =>
    by_cases hw : P.cellsOf te = 0
    ·exact absurd hw (by omega)
    ·right
     have h0 := hels 0 (by simp at hel; omega)
     obtain ⟨cs, hcs, hy⟩ := Option.bind_eq_some_iff.1 h0
     obtain ⟨_, hcl, hcc⟩ := World.cells?_some hcs
     obtain ⟨c, hc⟩ : ∃ c, cs[0]? = some c := ⟨_, List.getElem?_eq_getElem (by omega)⟩
     have hs := World.cell?_spot (w := w) (a := (a.add (0 * P.cellsOf te)).add 0) (v := c) (by rw [hcc 0 (by omega)]; exact hc)
     simpa [Addr.add] using hs
  refine ⟨l, ?_, by simp [Value.oneCell'], SumOK.mono hl3 ?_⟩
  ·simp only [HoldsL, Holds]
   refine ⟨_, _, rfl, ⟨some a, cap, by simp [hl1, hel], by simp [hl1]; omega, ?_⟩, rfl⟩
   rcases hr with rfl | hr
   ·simp
   ·refine .inr ⟨a.block, a.off, ?_, by simpa using hl2⟩
    cases a with
    | mk b o s => simp at hr; subst hr; rfl
  ·have := hb.slice (elems.map (·.1)) (rest.map (·.1))
   simpa [List.map_map, Function.comp_def] using this

/-- a slice that nobody looks into -/
theorem Opens.opq (ht : P.underlying t = some (.slice te)) {X : Type} (mk : (v : Value) → v.oneCell' = true → X) (val : X → Value) (hv : ∀ v h, val (mk v h) = v) : Opens enc P w bulk N t (fun x : X => [.val (val x)]) (fun _ _ => True) := by
 intro n hn cs x hx
 rcases DataW.trod_slice ht hx with ⟨rfl, rfl⟩ | ⟨a, len, cap, elems, rest, m, hf, rfl, rfl, _⟩
 ·exact ⟨mk (.slice none 0 0) rfl, by simp only [HoldsL, Holds]; exact ⟨_, _, rfl, (hv _ _).symm, rfl⟩, by simp [Value.oneCell'], trivial⟩
 ·exact ⟨mk (.slice (some a) len cap) rfl, by simp only [HoldsL, Holds]; exact ⟨_, _, rfl, (hv _ _).symm, rfl⟩, by simp [Value.oneCell'], trivial⟩

/-- the fields of a struct, one behind the other -/
def OpensF (enc : TypeId × Value → H) (P : Program) (w : World) (bulk : DataW H → Nat) (N : Nat) (off : Nat) (fs : List Field) (e : α → List AV) (ok : α → Nat → Prop) : Prop :=
 ∀ n, n ≤ N → ∀ (cs : List Value) (xs : List (DataW H × List MemPlace)), xs.length = fs.length → cs.length = (fs.map fun f => P.cellsOf f.type).sum →
  (∀ (i : Nat) (f : Field), fs[i]? = some f → off ≤ f.offset ∧ DataW.trod enc P w 0 (fun _ => true) true n f.type ((cs.drop (f.offset - off)).take (P.cellsOf f.type)) = xs[i]?) →
  ∃ y : α, HoldsL (frz w) (e y) noRen cs ∧ (∀ c ∈ cs, c.oneCell' = true) ∧ ok y ((xs.map fun x => bulk x.1).sum)
theorem OpensF.nil {off : Nat} : OpensF enc P w bulk N off [] (fun _ : Unit => []) (fun _ _ => True) := by
 intro n _ cs xs hx hc _
 have : cs = [] := List.eq_nil_of_length_eq_zero (by simpa using hc)
 subst this
 exact ⟨(), by simp [HoldsL], by simp, trivial⟩
/-- both, of their parts of the bulk -/
def BothOK (ok : α → Nat → Prop) (ok' : β → Nat → Prop) (x : α × β) (b : Nat) : Prop := ∃ b1 b2, ok x.1 b1 ∧ ok' x.2 b2 ∧ b1 + b2 ≤ b
theorem OpensF.cons {off m : Nat} {f : Field} {fs : List Field} {e' : β → List AV} {ok' : β → Nat → Prop} (hf : f.offset = off) (hm : P.cellsOf f.type = m) (h1 : Opens enc P w bulk N f.type e ok) (h2 : OpensF enc P w bulk N (off + m) fs e' ok')
  (hs : ∀ f' ∈ fs, off + m ≤ f'.offset) : OpensF enc P w bulk N off (f :: fs) (fun x : α × β => e x.1 ++ e' x.2) (BothOK ok ok') := by
 subst hm hf
 intro n hn cs xs hx hc hall
 cases xs with
 | nil => simp at hx
 | cons x xs =>
  have hx' : xs.length = fs.length := by simpa using hx
  have hc' : cs.length = P.cellsOf f.type + (fs.map fun f => P.cellsOf f.type).sum := by simpa using hc
  have h0 := (hall 0 f rfl).2
  simp only [Nat.sub_self, List.drop_zero, List.getElem?_cons_zero] at h0
  obtain ⟨y, a1, a2, a3⟩ := h1 n hn _ _ h0
  obtain ⟨z, b1, b2, b3⟩ := h2 n hn (cs.drop (P.cellsOf f.type)) xs hx' (by simp; omega) fun i f' hf' => by
   have hle := hs f' (List.mem_of_getElem? hf')
   have := (hall (i + 1) f' (by simpa using hf')).2
   refine ⟨hle, ?_⟩
   rw [List.drop_drop, show P.cellsOf f.type + (f'.offset - (f.offset + P.cellsOf f.type)) = f'.offset - f.offset from by omega, this]; simp
  refine ⟨(y, z), ?_, fun c hc => ?_, _, _, a3, b3, by simp⟩
  ·have := HoldsL.append a1 b1
   rwa [List.take_append_drop] at this
  ·rw [← List.take_append_drop (P.cellsOf f.type) cs] at hc
   rcases List.mem_append.1 hc with hc | hc
   ·exact a2 c hc
   ·exact b2 c hc
theorem Opens.struct (hb : Bulk bulk) {fs : Array Field} (ht : P.underlying t = some (.struct fs)) (hsz : P.cellsOf t = (fs.toList.map fun f => P.cellsOf f.type).sum) (h : OpensF enc P w bulk N 0 fs.toList e ok) (hok : ∀ x b b', ok x b → b + 1 ≤ b' → ok' x b') :
  Opens enc P w bulk (N + 1) t e ok' := by
 intro n hn cs x hx
 obtain ⟨xs, m, hf, rfl, hc, hl, hall⟩ := DataW.trod_struct ht hx
 obtain ⟨y, a1, a2, a3⟩ := h m (by omega) cs xs (by simpa using hl) (by rw [hc, hsz]) fun i f hfi => ⟨Nat.zero_le _, by rw [Nat.sub_zero]; exact hall i f (by simpa using hfi)⟩
 refine ⟨y, a1, a2, hok _ _ _ a3 ?_⟩
 have := hb.agg (xs.map (·.1))
 simpa [List.map_map, Function.comp_def] using this
theorem Opens.structAll (hb : Bulk bulk) {fs : Array Field} (ht : P.underlying t = some (.struct fs)) (hsz : P.cellsOf t = (fs.toList.map fun f => P.cellsOf f.type).sum) (h : ∀ N, OpensF enc P w bulk N 0 fs.toList e ok) (hok : ∀ x b b', ok x b → b + 1 ≤ b' → ok' x b') :
  ∀ N, Opens enc P w bulk N t e ok'
 | 0 => .zero
 | N + 1 => .struct hb ht hsz (h N) hok
theorem Opens.sliceAll (hb : Bulk bulk) (ht : P.underlying t = some (.slice te)) (hpos : 0 < P.cellsOf te) (hl : ∀ x, (e x).length = P.cellsOf te) (h : ∀ N, Opens enc P w bulk N te e ok) :
  ∀ N, Opens enc P w bulk N t (fun l : List α => [.rd (P.cellsOf te) (l.map e)]) (SumOK ok)
 | 0 => .zero
 | N + 1 => .slice hb ht hpos hl (h N)
/-- the arguments of a call -/
def OpensA (enc : TypeId × Value → H) (P : Program) (w : World) (bulk : DataW H → Nat) (ts : List TypeId) (e : α → List AV) (ok : α → Nat → Prop) : Prop :=
 ∀ (vs : List Value) (ds : List (DataW H)) (ps : List MemPlace), (∀ (j : Nat) t v, ts[j]? = some t → vs[j]? = some v → ∃ base, Value.okWide P w .any base t v) →
  DataW.TrodAll enc P w 0 (fun _ => true) true ts vs ds ps → ∃ y : α, HoldsL (frz w) (e y) noRen vs ∧ ok y ((ds.map bulk).sum)
theorem OpensA.nil : OpensA enc P w bulk [] (fun _ : Unit => []) (fun _ _ => True) := by
 intro vs ds ps _ h
 obtain ⟨rfl, rfl, rfl⟩ := trodAll_nil h
 exact ⟨(), by simp [HoldsL], trivial⟩
theorem OpensA.cons {ts : List TypeId} {e1 : α → AV} {e' : β → List AV} {ok' : β → Nat → Prop} (h1 : ∀ (v : Value) (d : DataW H) (ps : List MemPlace) (base : Nat), Value.okWide P w .any base t v → DataW.Trod enc P w 0 (fun _ => true) true t v d ps → ∃ y : α, Holds (frz w) (e1 y) noRen v ∧ ok y (bulk d))
  (h2 : OpensA enc P w bulk ts e' ok') : OpensA enc P w bulk (t :: ts) (fun x : α × β => e1 x.1 :: e' x.2) (BothOK ok ok') := by
 intro vs ds ps hval h
 obtain ⟨v, vs', d, ds', p, q, rfl, rfl, rfl, hd, hr⟩ := trodAll_cons h
 obtain ⟨base, hv⟩ := hval 0 t v rfl rfl
 obtain ⟨y, a1, a2⟩ := h1 v d p base hv hd
 obtain ⟨z, b1, b2⟩ := h2 vs' ds' q (fun j t' v' ht hv => hval (j + 1) t' v' (by simpa using ht) (by simpa using hv)) hr
 exact ⟨(y, z), by simp only [HoldsL]; exact ⟨v, vs', rfl, a1, b1⟩, _, _, a2, b2, by simp⟩
/-- an argument of a struct's type -/
theorem Opens.argAgg {fs : Array Field} (ht : P.underlying t = some (.struct fs)) (h : ∀ N, Opens enc P w bulk N t e ok) (v : Value) (d : DataW H) (ps : List MemPlace) (base : Nat) (hv : Value.okWide P w .any base t v) (hd : DataW.Trod enc P w 0 (fun _ => true) true t v d ps) :
  ∃ y : α, Holds (frz w) (.agg (e y)) noRen v ∧ ok y (bulk d) := by
 unfold Value.okWide at hv
 rw [ht] at hv
 obtain ⟨cs, rfl, _, _⟩ := hv
 obtain ⟨n, hn⟩ := hd
 obtain ⟨y, a1, a2, a3⟩ := h n n (Nat.le_refl _) _ _ hn
 exact ⟨y, by simp only [Holds]; exact ⟨cs, rfl, by simpa [Value.cells] using a1⟩, a3⟩
/-- an argument of one cell -/
theorem Opens.argOne {e1 : α → AV} (h : ∀ N, Opens enc P w bulk N t (fun y => [e1 y]) ok) (v : Value) (d : DataW H) (ps : List MemPlace) (hv : v.cells = #[v]) (hd : DataW.Trod enc P w 0 (fun _ => true) true t v d ps) :
  ∃ y : α, Holds (frz w) (e1 y) noRen v ∧ ok y (bulk d) := by
 obtain ⟨n, hn⟩ := hd
 obtain ⟨y, a1, a2, a3⟩ := h n n (Nat.le_refl _) _ _ hn
 simp only [HoldsL] at a1
 obtain ⟨u, r, hcs, hu, rfl⟩ := a1
 rw [hv] at hcs
 simp at hcs
 subst hcs
 exact ⟨y, hu, a3⟩
theorem Opens.argSlice (ht : P.underlying t = some (.slice te)) {e1 : α → AV} (h : ∀ N, Opens enc P w bulk N t (fun y => [e1 y]) ok) (v : Value) (d : DataW H) (ps : List MemPlace) (base : Nat) (hv : Value.okWide P w .any base t v)
  (hd : DataW.Trod enc P w 0 (fun _ => true) true t v d ps) : ∃ y : α, Holds (frz w) (e1 y) noRen v ∧ ok y (bulk d) := by
 obtain ⟨a, len, cap, rfl⟩ := WideShapes.okWide_slice ht hv
 exact Opens.argOne h _ _ _ rfl hd
theorem Opens.argString (ht : P.underlying t = some .string) {e1 : α → AV} (h : ∀ N, Opens enc P w bulk N t (fun y => [e1 y]) ok) (v : Value) (d : DataW H) (ps : List MemPlace) (base : Nat) (hv : Value.okWide P w .any base t v)
  (hd : DataW.Trod enc P w 0 (fun _ => true) true t v d ps) : ∃ y : α, Holds (frz w) (e1 y) noRen v ∧ ok y (bulk d) := by
 obtain ⟨s, rfl⟩ := WideShapes.okWide_string ht hv
 exact Opens.argOne h _ _ _ rfl hd
theorem Opens.argInt {k : IntKind} (ht : P.underlying t = some (.int k)) {e1 : α → AV} (h : ∀ N, Opens enc P w bulk N t (fun y => [e1 y]) ok) (v : Value) (d : DataW H) (ps : List MemPlace) (base : Nat) (hv : Value.okWide P w .any base t v)
  (hd : DataW.Trod enc P w 0 (fun _ => true) true t v d ps) : ∃ y : α, Holds (frz w) (e1 y) noRen v ∧ ok y (bulk d) := by
 obtain ⟨s, rfl⟩ := WideShapes.okWide_int ht hv
 exact Opens.argOne h _ _ _ rfl hd

theorem Ext.sameAt {w' : World} (h : Ext w w') {p : MemPlace} (hp : p.block < w.heap.size) : w.sameAt w' p := by
 cases p with
 | cell b o => exact World.cell?_of_block (w := w) (h.block b hp)
 | map b => exact h.block b hp
theorem Ext.trodAll {w' : World} (hx : Ext w w') (K : Kids P (· < P.types.size)) (hz : ∀ t e, t < P.types.size → P.underlying t = some (.slice e) → 0 < P.cellsOf e) {sp : Nat → Bool} : ∀ {ts : List TypeId} {vs : List Value} {ds : List (DataW H)} {ps : List MemPlace},
  (∀ t ∈ ts, t < P.types.size) → DataW.TrodAll enc P w 0 (fun _ => true) true ts vs ds ps → (∀ p ∈ ps, p.block < w.heap.size → sp p.block = true) → DataW.TrodAll enc P w' 0 sp true ts vs ds ps
 | [], [], [], _, _, h, _ => h
 | t :: ts, v :: vs, d :: ds, _, hT, ⟨p, q, ⟨n, h1⟩, h2, e⟩, hs => by
  subst e
  have hlt := DataW.trod_lt n _ _ _ h1
  refine ⟨p, q, ⟨n, ?_⟩, Ext.trodAll hx K hz (fun t ht => hT t (List.mem_cons_of_mem _ ht)) h2 (fun x hx => hs x (List.mem_append_right _ hx)), rfl⟩
  exact DataW.trod_stays (T := (· < P.types.size)) K (fun ht => hz _ _ ht) (fun h => by cases h) (hT t (List.mem_cons_self)) h1 (fun p hp => hx.sameAt (hlt p hp)) (fun p hp => hs p (List.mem_append_left _ hp) (hlt p hp))
 | [], _ :: _, _, _, _, h, _ => h.elim
 | [], [], _ :: _, _, _, h, _ => h.elim
 | _ :: _, [], _, _, _, h, _ => h.elim
 | _ :: _, _ :: _, [], _, _, h, _ => h.elim
theorem Ext.kept {w' : World} (h : Ext w w') (may : MemPlace → Prop) (h2 : w'.output = w.output) : w.keptBut w' may := by
 refine ⟨h.os, h2, fun i hi => ?_⟩
 rw [h.block i hi]
 split <;> simp_all
/-- a law that comes to true, whatever it reads -/
theorem post_true {f : Func} {s : ChangeSpec} {W W' : World} {args : Array Value} {ds gs : List (DataW H)} {before : List MemPlace} {tb : TypeId} (hv : s.vars = []) (hs : ∀ ds : List (DataW H), ds.length = f.params.size → s.fn H ds = { results := [.lit (.bool true)], args := ds })
  (hrt : f.resultTypes = #[tb]) (htb : P.underlying tb = some .bool) (K : Kids P (· < P.types.size)) (hz : ∀ t e, t < P.types.size → P.underlying t = some (.slice e) → 0 < P.cellsOf e) (hT : ∀ t ∈ f.params.toList, t < P.types.size)
  (hW : DataW.Whole enc P f.params.toList s.vars false W args.toList ds gs before) (hx : Ext W W') : s.post enc P f false true false false W args (.bool true) W' := by
 have hW' := hW
 obtain ⟨p, q, hA, hV, rfl, hfz, _⟩ := hW
 rw [hv] at hV
 obtain ⟨rfl, rfl⟩ := trodVars_none hV
 have hlen : ds.length = f.params.size := by
  have : ∀ {ts : List TypeId} {vs : List Value} {ds : List (DataW H)} {ps : List MemPlace}, DataW.TrodAll enc P W 0 (fun _ => true) true ts vs ds ps → ds.length = ts.length := by
   intro ts
   induction ts with
   | nil => intro vs ds ps h; obtain ⟨_, rfl, _⟩ := trodAll_nil h; rfl
   | cons t ts ih => intro vs ds ps h; obtain ⟨_, _, _, _, _, _, _, rfl, _, _, hr⟩ := trodAll_cons h; simp [ih hr]
  simpa using this hA
 rw [List.append_nil] at hW'
 have e1 : (s.fn H (ds ++ [])).results = [.lit (.bool true)] := by rw [List.append_nil, hs ds hlen]
 have e2 : (s.fn H (ds ++ [])).args = ds := by rw [List.append_nil, hs ds hlen]
 have e3 : (s.fn H (ds ++ [])).vars = [] := by rw [List.append_nil, hs ds hlen]
 refine ⟨ds, [], p, [], p, [], hW', ?_, ?_, ?_, hx.kept _ hx.output, fun h => by cases h⟩
 ·rw [e1, hrt]
  exact trodAll_mk1 ⟨1, by simp [DataW.trod, htb, Value.cells]⟩
 ·rw [e2]
  exact hx.trodAll K hz hT hA fun p _ h => by simpa using h
 ·rw [e3, hv]; rfl
def slicesFull (P : Program) : Bool := (List.range P.types.size).all fun t => match P.underlying t with | some (.slice e) => decide (0 < P.cellsOf e) | _ => true
theorem slicesFull_spec (P : Program) (h : slicesFull P = true) : ∀ t e, t < P.types.size → P.underlying t = some (.slice e) → 0 < P.cellsOf e := by
 intro t e hl ht
 have := List.all_eq_true.1 h t (List.mem_range.2 hl)
 rw [ht] at this
 simpa using this
/-- a law's contract, as the statement asks for it -/
theorem law_of_con {fid : FuncId} {f : Func} {s : ChangeSpec} {tb : TypeId} {e : α → List AV} (hv : s.vars = []) (hs : ∀ ds : List (DataW H), ds.length = f.params.size → s.fn H ds = { results := [.lit (.bool true)], args := ds })
  (hrt : f.resultTypes = #[tb]) (htb : P.underlying tb = some .bool) (hl : laidOutB P = true) (hm : mapsRowed P = true)
  (hz : slicesFull P = true) (hT : ∀ t ∈ f.params.toList, t < P.types.size)
  (W : World) (base : Nat) (args : Array Value) (ds gs : List (DataW H)) (before : List MemPlace) (hval : ∀ (j : Nat) t v, f.params[j]? = some t → args[j]? = some v → Value.okWide P W .any base t v)
  (hW : DataW.Whole enc P f.params.toList s.vars false W args.toList ds gs before) (ho : OpensA enc P W bulk f.params.toList e ok) (hgl : GLok (frz W)) (hc : ∀ x, ok x ((ds.map bulk).sum) → Con P fid (e x) (.val (.bool true))) :
  Calls P fid args W fun e W' => ∃ v, e = .returned v ∧ s.post enc P f false true false false W args v W' := by
 have hW' := hW
 obtain ⟨p, q, hA, hV, rfl, hfz, _⟩ := hW
 obtain ⟨x, h1, h2⟩ := ho args.toList ds p (fun j t v ht hv => ⟨base, hval j t v (by simpa using ht) (by simpa using hv)⟩) hA
 refine ((hc x h2).2 (frz W) W args (frz_ok W) hgl h1).mono fun e W' ⟨v, fz', he, hx, _, _, _, hh, _⟩ => ?_
 simp only [Holds] at hh
 subst hh
 exact ⟨_, he, post_true hv hs hrt htb (kids_rows hl hm) (slicesFull_spec P hz) hT hW' hx⟩
end
end Go.Aw
