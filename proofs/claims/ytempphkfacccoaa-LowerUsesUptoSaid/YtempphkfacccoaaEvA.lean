/- Closed runs: values and blocks, and what they say of memory. -/
import Derived.Test.YtempphkfacccoaaAwU
set_option linter.unusedSimpArgs false
set_option linter.unusedVariables false
namespace Go.Ev

def bytesL : Nat → Nat → List UInt8
  | 0, _ => []
  | l + 1, n => UInt8.ofNat (n % 256) :: bytesL l (n / 256)
def bytesOf (n l : Nat) : ByteArray := ⟨(bytesL l n).toArray⟩
def natOf : List UInt8 → Nat
  | [] => 0
  | b :: bs => b.toNat + 256 * natOf bs

theorem bytesL_length : ∀ (l n : Nat), (bytesL l n).length = l
  | 0, _ => rfl
  | l + 1, n => by simp [bytesL, bytesL_length l]
theorem natOf_bytesL : ∀ (l n : Nat), n < 256 ^ l → natOf (bytesL l n) = n
  | 0, n, h => by simp at h; subst h; rfl
  | l + 1, n, h => by
    simp only [bytesL, natOf]
    rw [natOf_bytesL l (n / 256) (by rw [Nat.pow_succ] at h; omega)]
    have : (UInt8.ofNat (n % 256)).toNat = n % 256 := by simp
    rw [this]; omega
theorem natOf_lt : ∀ (bs : List UInt8), natOf bs < 256 ^ bs.length
  | [] => by simp [natOf]
  | b :: bs => by
    have := natOf_lt bs
    have hb : b.toNat < 256 := b.toNat_lt
    simp only [natOf, List.length_cons, Nat.pow_succ]; omega
theorem bytesL_natOf : ∀ (bs : List UInt8), bytesL bs.length (natOf bs) = bs
  | [] => rfl
  | b :: bs => by
    have hb : b.toNat < 256 := b.toNat_lt
    simp only [natOf, List.length_cons, bytesL]
    rw [show (b.toNat + 256 * natOf bs) / 256 = natOf bs from by omega, bytesL_natOf bs, show (b.toNat + 256 * natOf bs) % 256 = b.toNat from by omega]
    rw [UInt8.ofNat_toNat]
theorem bytesL_append : ∀ (l k n m : Nat), n < 256 ^ l → bytesL l n ++ bytesL k m = bytesL (l + k) (n + m * 256 ^ l)
  | 0, k, n, m, h => by simp at h; subst h; simp [bytesL]
  | l + 1, k, n, m, h => by
    rw [show l + 1 + k = (l + k) + 1 from by omega]
    have e : n + m * 256 ^ (l + 1) = n + (m * 256 ^ l) * 256 := by rw [Nat.pow_succ, Nat.mul_assoc]
    simp only [bytesL, List.cons_append]
    rw [bytesL_append l k (n / 256) m (by rw [Nat.pow_succ] at h; omega), e, show (n + m * 256 ^ l * 256) / 256 = n / 256 + m * 256 ^ l from by omega, show (n + m * 256 ^ l * 256) % 256 = n % 256 from by omega]
theorem bytesL_getElem? : ∀ (l n i : Nat), i < l → (bytesL l n)[i]? = some (UInt8.ofNat (n / 256 ^ i % 256))
  | 0, _, _, h => by omega
  | l + 1, n, 0, _ => by simp [bytesL]
  | l + 1, n, i + 1, h => by
    simp only [bytesL, List.getElem?_cons_succ]
    rw [bytesL_getElem? l (n / 256) i (by omega), Nat.div_div_eq_div_mul, Nat.pow_succ, Nat.mul_comm 256]
theorem bytesL_drop : ∀ (i l n : Nat), (bytesL l n).drop i = bytesL (l - i) (n / 256 ^ i)
  | 0, l, n => by simp
  | i + 1, 0, n => by simp [bytesL]
  | i + 1, l + 1, n => by
    simp only [bytesL, List.drop_succ_cons]
    rw [bytesL_drop i l (n / 256), Nat.div_div_eq_div_mul, Nat.pow_succ, Nat.mul_comm 256, Nat.add_sub_add_right]
theorem bytesL_take : ∀ (j l n : Nat), j ≤ l → (bytesL l n).take j = bytesL j (n % 256 ^ j)
  | 0, l, n, _ => by simp [bytesL]
  | j + 1, 0, n, h => by omega
  | j + 1, l + 1, n, h => by
    simp only [bytesL, List.take_succ_cons]
    have hm : n % 256 ^ (j + 1) % 256 = n % 256 := by
      rw [Nat.pow_succ]; exact Nat.mod_mul_left_mod n (256 ^ j) 256
    have hd : n % 256 ^ (j + 1) / 256 = n / 256 % 256 ^ j := by
      rw [Nat.pow_succ, Nat.mul_comm]; exact Nat.mod_mul_right_div_self n 256 (256 ^ j)
    rw [bytesL_take j l (n / 256) (by omega), hm, hd]

theorem bytesOf_size (n l : Nat) : (bytesOf n l).size = l := by
  show (bytesL l n).toArray.size = l
  simp [bytesL_length]
theorem ba_ext {a b : ByteArray} (h : a.data.toList = b.data.toList) : a = b := by
  cases a; cases b; congr; exact Array.toList_inj.1 h
theorem bytesOf_natOf (s : ByteArray) : bytesOf (natOf s.data.toList) s.size = s := by
  apply ba_ext
  show (bytesL s.size _).toArray.toList = _
  rw [show s.size = s.data.toList.length from rfl]
  simp only [bytesL_natOf]
theorem bytesOf_inj {n l m k : Nat} (hn : n < 256 ^ l) (hm : m < 256 ^ k) : bytesOf n l = bytesOf m k ↔ n = m ∧ l = k := by
  constructor
  · intro h
    have hl : l = k := by have := congrArg ByteArray.size h; rwa [bytesOf_size, bytesOf_size] at this
    subst hl
    refine ⟨?_, rfl⟩
    have h2 : bytesL l n = bytesL l m := by
      have := congrArg (fun x : ByteArray => x.data.toList) h
      simpa [bytesOf] using this
    have := congrArg natOf h2
    rwa [natOf_bytesL l n hn, natOf_bytesL l m hm] at this
  · rintro ⟨rfl, rfl⟩; rfl

/-- Values of closed runs. Blocks are named by numbers; a pointer stands at a row, and a place in it. -/
inductive EV where
  | unk
  | int (k : IntKind) (n : Int)
  | bool (b : Bool)
  | str (n l : Nat)
  | lit (v : Value)
  | agg (l : List EV)
  | tup (l : List EV)
  | ptr (b i k : Nat)
  | sl (b w i n cap : Nat) (ex : Bool)
  | mp (b : Nat)
  | clo (fn : Fn) (caps : List EV)
  | ifc (t : TypeId) (x : EV)
  deriving Inhabited

/-- where a block lies: its number in memory, where its rows begin, how wide they are, how many cells there are in all -/
structure Loc where
  c : Nat
  base : Nat
  w : Nat
  sz : Nat
abbrev Ren := Nat → Option Loc
def Ren.le (f g : Ren) : Prop := ∀ b L, f b = some L → g b = some L
theorem Ren.le_refl (f : Ren) : Ren.le f f := fun _ _ h => h
theorem Ren.le_trans {f g h : Ren} (a : Ren.le f g) (b : Ren.le g h) : Ren.le f h := fun x c e => b x c (a x c e)
def Ren.set (ρ : Ren) (b : Nat) (L : Loc) : Ren := fun x => if x = b then some L else ρ x
theorem Ren.le_set {ρ : Ren} {b : Nat} {L : Loc} (h : ρ b = none) : Ren.le ρ (Ren.set ρ b L) := by
  intro x y e
  simp only [Ren.set]
  split
  · rename_i hx; subst hx; rw [h] at e; cases e
  · exact e
theorem Ren.set_self {ρ : Ren} {b : Nat} {L : Loc} : Ren.set ρ b L b = some L := by simp [Ren.set]

mutual
def Holds (ρ : Ren) : EV → Value → Prop
  | .unk, _ => True
  | .int k n, v => v = .int k n
  | .bool b, v => v = .bool b
  | .str n l, v => v = .string (bytesOf n l) ∧ n < 256 ^ l
  | .lit u, v => v = u
  | .agg l, v => ∃ cs : Array Value, v = .agg cs ∧ HoldsL ρ l cs.toList
  | .tup l, v => ∃ cs : Array Value, v = .tuple cs ∧ HoldsL ρ l cs.toList
  | .ptr b i k, v => ∃ L, ρ b = some L ∧ v = .pointer (some ⟨L.c, L.base + i * L.w + k, none⟩)
  | .sl b wd i n cap ex, v => ∃ L c A, ρ b = some L ∧ L.w = wd ∧ v = .slice (some A) n c ∧ (0 < c → A = ⟨L.c, L.base + i * wd, none⟩) ∧ n ≤ cap ∧ cap ≤ c ∧ (ex = true → c = cap) ∧ L.base + (i + c) * wd ≤ L.sz ∧ c ≤ maxLen
  | .mp b, v => ∃ L, ρ b = some L ∧ v = .map (some L.c)
  | .clo fn caps, v => ∃ cs : Array Value, v = .func fn #[] cs ∧ HoldsL ρ caps cs.toList
  | .ifc t x, v => ∃ u, v = .iface t u ∧ Holds ρ x u
def HoldsL (ρ : Ren) : List EV → List Value → Prop
  | [], vs => vs = []
  | x :: xs, vs => ∃ v r, vs = v :: r ∧ Holds ρ x v ∧ HoldsL ρ xs r
end

variable {ρ ρ' : Ren}
mutual
theorem Holds.mono (hr : Ren.le ρ ρ') : ∀ (x : EV) (v : Value), Holds ρ x v → Holds ρ' x v
  | .unk, _, _ => by simp only [Holds]
  | .int k n, v, h => by simpa only [Holds] using h
  | .bool b, v, h => by simpa only [Holds] using h
  | .str n l, v, h => by simpa only [Holds] using h
  | .lit u, v, h => by simpa only [Holds] using h
  | .agg l, v, h => by simp only [Holds] at h ⊢; obtain ⟨cs, e, h⟩ := h; exact ⟨cs, e, HoldsL.mono hr l _ h⟩
  | .tup l, v, h => by simp only [Holds] at h ⊢; obtain ⟨cs, e, h⟩ := h; exact ⟨cs, e, HoldsL.mono hr l _ h⟩
  | .ptr b i k, v, h => by simp only [Holds] at h ⊢; obtain ⟨L, e, h⟩ := h; exact ⟨L, hr _ _ e, h⟩
  | .sl b wd i n cap ex, v, h => by simp only [Holds] at h ⊢; obtain ⟨L, c, A, e, h⟩ := h; exact ⟨L, c, A, hr _ _ e, h⟩
  | .mp b, v, h => by simp only [Holds] at h ⊢; obtain ⟨L, e, h⟩ := h; exact ⟨L, hr _ _ e, h⟩
  | .clo fn l, v, h => by simp only [Holds] at h ⊢; obtain ⟨cs, e, h⟩ := h; exact ⟨cs, e, HoldsL.mono hr l _ h⟩
  | .ifc t x, v, h => by simp only [Holds] at h ⊢; obtain ⟨u, e, h⟩ := h; exact ⟨u, e, Holds.mono hr x _ h⟩
theorem HoldsL.mono (hr : Ren.le ρ ρ') : ∀ (l : List EV) (vs : List Value), HoldsL ρ l vs → HoldsL ρ' l vs
  | [], _, h => by simpa only [HoldsL] using h
  | x :: xs, vs, h => by
    simp only [HoldsL] at h ⊢; obtain ⟨v, r, e, h1, h2⟩ := h
    exact ⟨v, r, e, Holds.mono hr x v h1, HoldsL.mono hr xs r h2⟩
end

theorem HoldsL.len : ∀ {l : List EV} {vs : List Value}, HoldsL ρ l vs → vs.length = l.length
  | [], _, h => by simp only [HoldsL] at h; simp [h]
  | x :: xs, vs, h => by
    simp only [HoldsL] at h; obtain ⟨v, r, rfl, _, h⟩ := h
    simp [HoldsL.len h]
theorem HoldsL.get : ∀ {l : List EV} {vs : List Value}, HoldsL ρ l vs → ∀ (i : Nat) (x : EV), l[i]? = some x → ∃ v, vs[i]? = some v ∧ Holds ρ x v
  | [], vs, h, i, x, e => by simp at e
  | y :: ys, vs, h, i, x, e => by
    simp only [HoldsL] at h; obtain ⟨v, r, rfl, h1, h2⟩ := h
    cases i with
    | zero => simp at e; subst e; exact ⟨v, by simp, h1⟩
    | succ i => simp at e; obtain ⟨u, hu, hh⟩ := HoldsL.get h2 i x e; exact ⟨u, by simpa using hu, hh⟩
theorem HoldsL.of_get : ∀ (l : List EV) (vs : List Value), vs.length = l.length → (∀ (i : Nat) (x : EV) (v : Value), l[i]? = some x → vs[i]? = some v → Holds ρ x v) → HoldsL ρ l vs
  | [], vs, e, _ => by simp only [HoldsL]; exact List.eq_nil_of_length_eq_zero (by simpa using e)
  | y :: ys, [], e, _ => by simp at e
  | y :: ys, v :: vs, e, h => by
    simp only [HoldsL]
    exact ⟨v, vs, rfl, h 0 y v (by simp) (by simp), HoldsL.of_get ys vs (by simpa using e) fun i x u hx hu => h (i + 1) x u (by simpa using hx) (by simpa using hu)⟩
theorem HoldsL.append {l l' : List EV} {vs vs' : List Value} (h : HoldsL ρ l vs) (h' : HoldsL ρ l' vs') : HoldsL ρ (l ++ l') (vs ++ vs') := by
  induction l generalizing vs with
  | nil => simp only [HoldsL] at h; subst h; simpa using h'
  | cons x xs ih =>
    simp only [HoldsL] at h; obtain ⟨v, r, rfl, h1, h2⟩ := h
    simp only [List.cons_append, HoldsL]; exact ⟨v, r ++ vs', rfl, h1, ih h2⟩
theorem HoldsL.take {l : List EV} {vs : List Value} (h : HoldsL ρ l vs) (n : Nat) : HoldsL ρ (l.take n) (vs.take n) := by
  induction l generalizing vs n with
  | nil => simp only [HoldsL] at h; subst h; simp [HoldsL]
  | cons x xs ih =>
    simp only [HoldsL] at h; obtain ⟨v, r, rfl, h1, h2⟩ := h
    cases n with
    | zero => simp [HoldsL]
    | succ n => simp only [List.take_succ_cons, HoldsL]; exact ⟨v, r.take n, rfl, h1, ih h2 n⟩
theorem HoldsL.drop {l : List EV} {vs : List Value} (h : HoldsL ρ l vs) (n : Nat) : HoldsL ρ (l.drop n) (vs.drop n) := by
  induction l generalizing vs n with
  | nil => simp only [HoldsL] at h; subst h; simp [HoldsL]
  | cons x xs ih =>
    simp only [HoldsL] at h; obtain ⟨v, r, rfl, h1, h2⟩ := h
    cases n with
    | zero => simp only [List.drop_zero, HoldsL]; exact ⟨v, r, rfl, h1, h2⟩
    | succ n => simp only [List.drop_succ_cons]; exact ih h2 n

/-- constants -/
def cst1 : Value → EV
  | .int k n => .int k n
  | .bool b => .bool b
  | .string s => .str (natOf s.data.toList) s.size
  | v => .lit v
def cst : Value → EV
  | .agg cs => .agg (cs.toList.map cst1)
  | .tuple cs => .tup (cs.toList.map cst1)
  | v => cst1 v
theorem cst1_holds (ρ : Ren) (v : Value) : Holds ρ (cst1 v) v := by
  cases v with
  | string s =>
    simp only [cst1, Holds]
    refine ⟨by rw [bytesOf_natOf], ?_⟩
    have := natOf_lt s.data.toList
    rwa [show s.data.toList.length = s.size from rfl] at this
  | _ => simp only [cst1, Holds]
theorem cst1_holdsL (ρ : Ren) (vs : List Value) : HoldsL ρ (vs.map cst1) vs := by
  induction vs with
  | nil => simp [HoldsL]
  | cons v vs ih => simp only [List.map_cons, HoldsL]; exact ⟨v, vs, rfl, cst1_holds ρ v, ih⟩
theorem cst_holds (ρ : Ren) (v : Value) : Holds ρ (cst v) v := by
  cases v with
  | agg cs => simp only [cst, Holds]; exact ⟨cs, rfl, cst1_holdsL ρ _⟩
  | tuple cs => simp only [cst, Holds]; exact ⟨cs, rfl, cst1_holdsL ρ _⟩
  | _ => simp only [cst]; exact cst1_holds ρ _

/-- one cell each -/
def oneE : EV → Bool
  | .unk | .agg _ | .tup _ => false
  | .lit v => v.oneCell'
  | _ => true
theorem Holds.one {x : EV} {v : Value} (h : Holds ρ x v) (ho : oneE x = true) : v.oneCell' = true := by
  cases x <;> simp only [oneE, Bool.false_eq_true] at ho <;> simp only [Holds] at h
  · subst h; rfl
  · subst h; rfl
  · rw [h.1]; rfl
  · subst h; exact ho
  · obtain ⟨L, _, rfl⟩ := h; rfl
  · obtain ⟨L, c, A, _, _, rfl, _⟩ := h; rfl
  · obtain ⟨L, _, rfl⟩ := h; rfl
  · obtain ⟨cs, rfl, _⟩ := h; rfl
  · obtain ⟨u, rfl, _⟩ := h; rfl
theorem HoldsL.one {l : List EV} {vs : List Value} (h : HoldsL ρ l vs) (ho : l.all oneE = true) : ∀ u ∈ vs, u.oneCell' = true := by
  induction l generalizing vs with
  | nil => simp only [HoldsL] at h; subst h; simp
  | cons x l ih =>
    simp only [HoldsL] at h; obtain ⟨v, r, rfl, h1, h2⟩ := h
    simp only [List.all_cons, Bool.and_eq_true] at ho
    intro u hu
    cases List.mem_cons.1 hu with
    | inl e => subst e; exact h1.one ho.1
    | inr e => exact ih h2 ho.2 u e
/-- a value's cells -/
def cellsE : EV → Option (List EV)
  | .agg l => if l.all oneE then some l else none
  | x => if oneE x then some [x] else none
theorem cellsE_holds {x : EV} {v : Value} {l : List EV} (h : Holds ρ x v) (hc : cellsE x = some l) : HoldsL ρ l v.cells.toList ∧ ∀ u ∈ v.cells.toList, u.oneCell' = true := by
  have plain : ∀ y : EV, Holds ρ y v → oneE y = true → HoldsL ρ [y] v.cells.toList ∧ ∀ u ∈ v.cells.toList, u.oneCell' = true := by
    intro y hy ho
    have h1 := hy.one ho
    rw [Aw.cells_of_one h1]
    exact ⟨by simp only [HoldsL]; exact ⟨v, [], rfl, hy, rfl⟩, by simpa using h1⟩
  unfold cellsE at hc
  split at hc
  · split at hc
    · rename_i hall
      cases hc
      simp only [Holds] at h
      obtain ⟨cs, rfl, h⟩ := h
      exact ⟨h, h.one hall⟩
    · cases hc
  · split at hc
    · rename_i ho
      cases hc
      exact plain _ h ho
    · cases hc

inductive EBlk where
  | cells (e : TypeId) (w : Nat) (ro : Bool) (al : List Nat) (rows : List (List EV))
  | map (ks vs : List EV)
  | dead
  deriving Inhabited

def rowCell (rows : List (List EV)) (i k : Nat) : Option EV := (rows[i]?).bind (·[k]?)
def BlkAt (ρ : Ren) (w : World) (L : Loc) : EBlk → Prop
  | .cells e wd _ _ rows => ∃ cur, w.heap[L.c]? = some (.cells cur e (0, 0)) ∧ cur.size = L.sz ∧ L.w = wd ∧ 0 < wd ∧ (∀ r ∈ rows, r.length = wd) ∧
      ∀ i k x, rowCell rows i k = some x → ∃ v, cur[L.base + i * wd + k]? = some v ∧ v.oneCell' = true ∧ Holds ρ x v
  | .map ks vs => ∃ es clock, w.heap[L.c]? = some (.map es clock) ∧ HoldsL ρ ks (es.toList.map (·.key)) ∧ HoldsL ρ vs (es.toList.map (·.val)) ∧
      es.toList.Pairwise (fun x y => x.born < y.born) ∧ ∀ x ∈ es.toList, x.born < clock
  | .dead => False

/-- b's rows are the beginning of another's, and b is not written any more -/
def Under (b : Nat) (k : EBlk) (L : Loc) (k' : EBlk) (L' : Loc) : Prop :=
  match k, k' with
  | .cells _ wd ro _ rows, .cells _ wd' _ al' rows' => ro = true ∧ b ∈ al' ∧ L.base + rows.length * wd ≤ L'.base + rows'.length * wd'
  | _, _ => False

structure Ctx where
  N : Nat
  w0 : World
  Fr : Nat → Prop
  fr : ∀ c, Fr c → c < w0.heap.size
  ρ0 : Ren
  Kp : Nat → Prop

abbrev Hv := Nat → Option EBlk
structure MemE (C : Ctx) (H : Hv) (w : World) (ρ : Ren) : Prop where
  hp : ∀ b k, H b = some k → k = .dead ∨ ∃ L, ρ b = some L ∧ ¬ C.Fr L.c ∧ BlkAt ρ w L k
  dom : ∀ b, H b = none → ρ b = none
  alias : ∀ b b' k k' L L', b ≠ b' → H b = some k → H b' = some k' → k ≠ .dead → k' ≠ .dead → ρ b = some L → ρ b' = some L' → L.c = L'.c → Under b k L k' L' ∨ Under b' k' L' k L
  ext : Ren.le C.ρ0 ρ
  kept : ∀ b, C.Kp b → H b ≠ none ∧ ρ b = C.ρ0 b
  os : w.os = C.w0.os
  tape : w.tape = C.w0.tape
  output : w.output = C.w0.output
  bsz : C.w0.heap.size ≤ w.heap.size
  old : ∀ c, C.Fr c → w.heap[c]? = C.w0.heap[c]?

structure View where
  tm : Nat → EV
  hp : Hv
structure SimE (C : Ctx) (V : View) (a : Act) (w : World) (ρ : Ren) : Prop where
  df : a.defers = []
  sz : a.tmps.size = C.N
  tm : ∀ t, Holds ρ (V.tm t) (a.tmps.getD t undef)
  mem : MemE C V.hp w ρ
def Sim (C : Ctx) (V : View) (a : Act) (w : World) : Prop := ∃ ρ, SimE C V a w ρ
end Go.Ev
