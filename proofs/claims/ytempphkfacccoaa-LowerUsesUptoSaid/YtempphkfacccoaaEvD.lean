/- Closed runs: operations that only reckon. -/
import Derived.Test.YtempphkfacccoaaEvC
set_option linter.unusedSimpArgs false
set_option linter.unusedVariables false
namespace Go.Ev
open Go.Aw (AOp szOf zeroC isAggT kindsOf kindT eqGuard_plain toList_beq)
variable {P : Program} {C : Ctx} {V : View} {a : Act} {w : World} {ρ ρ' : Ren} {o : Oper} {Q : Exit → Act → World → Prop}

/-- texts as lists of bytes -/
def ltB : List Nat → List Nat → Bool
  | _, [] => false
  | [], _ :: _ => true
  | a :: x, b :: y => Nat.blt a b || (Nat.beq a b && ltB x y)
def digs : Nat → Nat → List Nat
  | 0, _ => []
  | l + 1, n => n % 256 :: digs l (n / 256)
def eCmp (op : BinOp) (x y : Int) : Option EV :=
  match op with
  | .eql => some (.bool (x == y)) | .neq => some (.bool (x != y)) | .lss => some (.bool (decide (x < y))) | .leq => some (.bool (decide (x ≤ y))) | .gtr => some (.bool (decide (x > y))) | .geq => some (.bool (decide (x ≥ y)))
  | _ => none
def eInt (op : BinOp) (k : IntKind) (x y : Int) : Option EV :=
  match op with
  | .add => some (.int k (k.wrap (x + y)))
  | .sub => some (.int k (k.wrap (x - y)))
  | .mul => some (.int k (k.wrap (x * y)))
  | .quo => if y = 0 then none else some (.int k (k.wrap (x.tdiv y)))
  | .rem => if y = 0 then none else some (.int k (x.tmod y))
  | .and => some (.int k (k.wrap (BitVec.ofInt k.bits x &&& BitVec.ofInt k.bits y).toNat))
  | .or => some (.int k (k.wrap (BitVec.ofInt k.bits x ||| BitVec.ofInt k.bits y).toNat))
  | .xor => some (.int k (k.wrap (BitVec.ofInt k.bits x ^^^ BitVec.ofInt k.bits y).toNat))
  | .andNot => some (.int k (k.wrap (BitVec.ofInt k.bits x &&& ~~~ BitVec.ofInt k.bits y).toNat))
  | op => eCmp op x y
def eShift (op : BinOp) (k : IntKind) (x y : Int) : Option EV :=
  if y < 0 then none else match op with
  | .shl => some (.int k (k.wrap (x * 2 ^ (min y.toNat k.bits))))
  | .shr => some (.int k (x.fdiv (2 ^ (min y.toNat k.bits))))
  | _ => none
def isShift : BinOp → Bool
  | .shl | .shr => true
  | _ => false
def eStr (op : BinOp) (n l m k : Nat) : Option EV :=
  match op with
  | .eql => some (.bool (Nat.beq n m && Nat.beq l k))
  | .neq => some (.bool !(Nat.beq n m && Nat.beq l k))
  | .add => if l + k ≤ 4611686018427387904 then some (.str (n + m * 256 ^ l) (l + k)) else none
  | .lss => some (.bool (ltB (digs l n) (digs k m)))
  | .leq => some (.bool (ltB (digs l n) (digs k m) || (Nat.beq n m && Nat.beq l k)))
  | .gtr => some (.bool !(ltB (digs l n) (digs k m) || (Nat.beq n m && Nat.beq l k)))
  | .geq => some (.bool !(ltB (digs l n) (digs k m)))
  | _ => none
def eBin (op : BinOp) : List EV → Option Eff
  | [.int j x, .int k y] => if isShift op then (match eShift op j x y with | some r => some { out := r } | none => none) else if j = k then (match eInt op j x y with | some r => some { out := r } | none => none) else none
  | [.str n l, .str m k] => match eStr op n l m k with | some r => some { out := r } | none => none
  | _ => none

theorem digs_eq : ∀ (l n : Nat), digs l n = (bytesL l n).map UInt8.toNat
  | 0, _ => rfl
  | l + 1, n => by simp [digs, bytesL, digs_eq l]
theorem ltB_eq : ∀ (x y : List UInt8), ltB (x.map UInt8.toNat) (y.map UInt8.toNat) = Op.bytesLess x y
  | _, [] => by simp [ltB, Op.bytesLess]
  | [], _ :: _ => by simp [ltB, Op.bytesLess]
  | a :: x, b :: y => by
    have h1 : Nat.blt a.toNat b.toNat = decide (a < b) := by
      rw [Bool.eq_iff_iff]; simp [Nat.blt, UInt8.lt_iff_toNat_lt]
      exact Nat.succ_le_iff
    have h2 : Nat.beq a.toNat b.toNat = (a == b) := by
      rw [Bool.eq_iff_iff]; simp [UInt8.toNat_inj]
    simp only [List.map_cons, ltB, Op.bytesLess, ltB_eq x y, h1, h2]
theorem toList_bytesOf (n l : Nat) : (bytesOf n l).toList = bytesL l n := by
  rw [ByteArray.toList_eq]; simp [bytesOf]
theorem ba_append (x y : ByteArray) : (x ++ y).data.toList = x.data.toList ++ y.data.toList := by
  simp
theorem bytesOf_append {n l m k : Nat} (h : n < 256 ^ l) : bytesOf n l ++ bytesOf m k = bytesOf (n + m * 256 ^ l) (l + k) := by
  apply ba_ext
  rw [ba_append]
  simp only [bytesOf]
  exact bytesL_append l k n m h
theorem str_lt {n l m k : Nat} (h1 : n < 256 ^ l) (h2 : m < 256 ^ k) : n + m * 256 ^ l < 256 ^ (l + k) := by
  rw [Nat.pow_add]
  have : (m + 1) * 256 ^ l ≤ 256 ^ k * 256 ^ l := Nat.mul_le_mul_right _ h2
  rw [Nat.add_mul, Nat.one_mul] at this
  rw [Nat.mul_comm (256 ^ l)]; omega

theorem sound_bin (h : SimE C V a w ρ) {op : BinOp} {t u : TypeId} {x y : Operand} (hop : o.op = .binOp op t x y u) {ef : Eff} (he : eBin op [V.ev x, V.ev y] = some ef) (hd : ∀ i, o.dst = some i → i < C.N) : Sound P C V a w o ef := by
  have hx := h.ev x
  have hy := h.ev y
  have run : ∀ v, (eqGuard op t x y (a.eval x) (a.eval y)).run P w = .ok () w → (binOp op t (a.eval x) (a.eval y)).run P w = .ok v w → (execOp a.eval o).run P w = .ok (.value v) w := by
    intro v h1 h2
    simp [execOp, hop, h1, h2]
  unfold eBin at he
  split at he
  · rename_i j x' k y' heq
    simp only [List.cons.injEq, and_true] at heq
    rw [heq.1] at hx; rw [heq.2] at hy
    simp only [Holds] at hx hy
    have hg : (eqGuard op t x y (a.eval x) (a.eval y)).run P w = .ok () w := by rw [hx]; exact eqGuard_plain _ _ _ _ _ _ rfl (by simp)
    split at he
    · rename_i hsh
      split at he
      · rename_i r hr
        cases he
        simp only [eShift] at hr
        split at hr
        · cases hr
        · rename_i hy0
          cases op <;> simp [isShift] at hsh
          · cases hr
            refine sound_value h (run (.int j (j.wrap (x' * 2 ^ (min y'.toNat j.bits)))) hg ?_) hd (by simp only [Holds])
            rw [hx, hy]; simp [binOp, Op.shift, hy0]
          · cases hr
            refine sound_value h (run (.int j (x'.fdiv (2 ^ (min y'.toNat j.bits)))) hg ?_) hd (by simp only [Holds])
            rw [hx, hy]; simp [binOp, Op.shift, hy0]
      · cases he
    · rename_i hsh
      split at he
      · rename_i hjk
        subst hjk
        split at he
        · rename_i r hr
          cases he
          have fin : ∀ v, (binOp op t (.int j x') (.int j y')).run P w = .ok v w → Holds ρ r v → Sound P C V a w o { out := r } := by
            intro v h1 h2
            exact sound_value h (run v hg (by rw [hx, hy]; exact h1)) hd h2
          cases op <;> simp only [eInt, eCmp] at hr
          all_goals first
            | (cases hr; done)
            | (split at hr
               · cases hr
               · rename_i hy0
                 cases hr
                 refine fin _ ?_ (by simp only [Holds]; rfl)
                 simp [binOp, Op.intDiv, hy0])
            | (cases hr
               refine fin _ ?_ (by simp only [Holds]; rfl)
               simp [binOp, Op.intArith, Op.intCmp, Op.intBits])
        · cases he
      · cases he
  · rename_i n l m k heq
    simp only [List.cons.injEq, and_true] at heq
    rw [heq.1] at hx; rw [heq.2] at hy
    simp only [Holds] at hx hy
    obtain ⟨hx, hn⟩ := hx
    obtain ⟨hy, hm⟩ := hy
    have hg : (eqGuard op t x y (a.eval x) (a.eval y)).run P w = .ok () w := by rw [hx]; exact eqGuard_plain _ _ _ _ _ _ rfl (by simp)
    have heq : ((bytesOf n l).toList == (bytesOf m k).toList) = (Nat.beq n m && Nat.beq l k) := by
      rw [toList_beq, Bool.eq_iff_iff]; simp [bytesOf_inj hn hm]
    have hlt : Op.bytesLess (bytesOf n l).toList (bytesOf m k).toList = ltB (digs l n) (digs k m) := by
      rw [toList_bytesOf, toList_bytesOf, digs_eq, digs_eq, ltB_eq]
    split at he
    · rename_i r hr
      cases he
      have fin : ∀ v, (binOp op t (.string (bytesOf n l)) (.string (bytesOf m k))).run P w = .ok v w → Holds ρ r v → Sound P C V a w o { out := r } := by
        intro v h1 h2
        exact sound_value h (run v hg (by rw [hx, hy]; exact h1)) hd h2
      cases op <;> simp only [eStr] at hr
      all_goals first
        | (cases hr; done)
        | (split at hr
           · rename_i hsz
             cases hr
             refine fin (.string (bytesOf n l ++ bytesOf m k)) ?_ ?_
             · have hmx : IntKind.i64.max = 9223372036854775807 := rfl
               have : ¬ (9223372036854775807 < ((bytesOf n l).size : Int) + (bytesOf m k).size) := by rw [bytesOf_size, bytesOf_size]; omega
               simp [binOp, Op.stringOp, hmx, this]
             · simp only [Holds]
               exact ⟨by rw [bytesOf_append hn], str_lt hn hm⟩
           · cases hr)
        | (cases hr
           refine fin _ ?_ (by simp only [Holds]; rfl)
           simp only [binOp, Op.stringOp, heq, hlt, Sem.run_pure])
    · cases he
  · cases he

def eEqb (neg : Bool) : List EV → Option Eff
  | [.bool x, .bool y] => some { out := .bool (if neg then !(x == y) else x == y) }
  | _ => none
theorem sound_eqb (h : SimE C V a w ρ) {neg : Bool} {op : BinOp} (hneg : op = if neg then .neq else .eql) {t u : TypeId} {x y : Operand} (hop : o.op = .binOp op t x y u) (ht : P.underlying t = some .bool)
    {ef : Eff} (he : eEqb neg [V.ev x, V.ev y] = some ef) (hd : ∀ i, o.dst = some i → i < C.N) : Sound P C V a w o ef := by
  have hx := h.ev x
  have hy := h.ev y
  unfold eEqb at he
  split at he
  · rename_i b c heq
    simp only [List.cons.injEq, and_true] at heq
    rw [heq.1] at hx; rw [heq.2] at hy; simp only [Holds] at hx hy
    cases he
    refine sound_value h (v := .bool (if neg then !(b == c) else b == c)) ?_ hd (by simp only [Holds])
    have h1 : (eqGuard op t x y (a.eval x) (a.eval y)).run P w = .ok () w := by rw [hx]; exact eqGuard_plain _ _ _ _ _ _ rfl (by simp)
    cases neg <;> simp only [Bool.false_eq_true, if_false, if_true] at hneg <;> subst hneg <;> rw [hx, hy] at h1 <;>
      simp [execOp, hop, h1, hx, hy, binOp, Op.equal, Op.maxDepth, run_equalIn_bool' w 9999 t b c ht]
  · cases he

/-- k: 0 an integer, 1 a text, 2 a bool -/
def eqV (k : Nat) : EV → EV → Option Bool
  | .int j a, .int j' b => if k = 0 ∧ j = j' then some (a == b) else none
  | .str n l, .str m l' => if k = 1 then some (Nat.beq n m && Nat.beq l l') else none
  | .bool a, .bool b => if k = 2 then some (a == b) else none
  | _, _ => none
def eqL : List Nat → List EV → List EV → Option Bool
  | [], [], [] => some true
  | k :: ks, x :: l, y :: r => match eqV k x y, eqL ks l r with
    | some b, some c => some (b && c)
    | _, _ => none
  | _, _, _ => none
def eEqg (neg : Bool) (ks : List Nat) : List EV → Option Eff
  | [.agg l, .agg r] => match eqL ks l r with
    | some b => some { out := .bool (if neg then !b else b) }
    | none => none
  | _ => none

theorem eqFields_plain : ∀ (fs : List Field) (n : Nat) (ks : List Nat), kindsOf P fs n = some ks → ∀ (l r : List EV) (xs ys : Array Value) (b : Bool), eqL ks l r = some b →
    (∀ (j : Nat) (x : EV), l[j]? = some x → ∃ v, xs[n + j]? = some v ∧ Holds ρ x v) → (∀ (j : Nat) (x : EV), r[j]? = some x → ∃ v, ys[n + j]? = some v ∧ Holds ρ x v) → ∀ d,
    (Op.eqFields (d + 1) xs ys fs).run P w = .ok b w
  | [], n, ks, hk, l, r, xs, ys, b, he, hl, hr, d => by
    simp only [kindsOf, Option.some.injEq] at hk; subst hk
    cases l <;> cases r <;> simp [eqL] at he
    subst he
    simp [Op.eqFields]
  | f :: fs, n, ks, hk, l, r, xs, ys, b, he, hl, hr, d => by
    simp only [kindsOf] at hk
    split at hk
    · rename_i hc
      obtain ⟨hoff, hname⟩ := hc
      have key : ∀ (k : Nat) (ks' : List Nat), kindsOf P fs (n + 1) = some ks' → ks = k :: ks' → isAggT P f.type = some false →
          (∀ x y c u v, eqV k x y = some c → Holds ρ x u → Holds ρ y v → (Op.equalIn (d + 1) f.type u v).run P w = .ok c w) → (Op.eqFields (d + 1) xs ys (f :: fs)).run P w = .ok b w := by
        intro k ks' hk' hks hag hrun
        subst hks
        cases l with
        | nil => simp [eqL] at he
        | cons x l =>
          cases r with
          | nil => simp [eqL] at he
          | cons y r =>
            simp only [eqL] at he
            cases hv : eqV k x y with
            | none => rw [hv] at he; simp at he
            | some c =>
              rw [hv] at he
              cases hA : eqL ks' l r with
              | none => rw [hA] at he; simp at he
              | some c' =>
                rw [hA] at he; simp at he; subst he
                obtain ⟨u, hu, hhu⟩ := hl 0 x (by simp)
                obtain ⟨v, hv', hhv⟩ := hr 0 y (by simp)
                have ih := eqFields_plain fs (n + 1) ks' hk' l r xs ys c' hA (fun j x hj => by
                    have := hl (j + 1) x (by simpa using hj)
                    rwa [show n + (j + 1) = n + 1 + j from by omega] at this) (fun j x hj => by
                    have := hr (j + 1) x (by simpa using hj)
                    rwa [show n + (j + 1) = n + 1 + j from by omega] at this) d
                simp only [Nat.add_zero] at hu hv'
                have hp1 : (part f.type xs f.offset).run P w = .ok u w := by simp [part, Aw.isAgg_run hag, hoff, hu]
                have hp2 : (part f.type ys f.offset).run P w = .ok v w := by simp [part, Aw.isAgg_run hag, hoff, hv']
                have he1 := hrun x y c u v hv hhu hhv
                cases c <;> simp [Op.eqFields, hname, hp1, hp2, he1, ih]
      cases hu : P.underlying f.type with
      | none => rw [hu] at hk; simp at hk
      | some dd =>
        cases hks : kindsOf P fs (n + 1) with
        | none => rw [hu, hks] at hk; cases dd <;> simp at hk
        | some ks' =>
          rw [hu, hks] at hk
          cases dd with
          | int k' =>
            simp at hk
            refine key 0 ks' hks hk.symm (by simp [isAggT, hu]) fun x y c u v hc hx hy => ?_
            unfold eqV at hc
            split at hc
            · split at hc
              · rename_i hjj
                cases hc
                simp only [Holds] at hx hy
                subst hx; subst hy
                rw [← hjj.2]
                exact run_equalIn_int w d _ _ k' _ _ hu
              · cases hc
            · simp at hc
            · simp at hc
            · cases hc
          | string =>
            simp at hk
            refine key 1 ks' hks hk.symm (by simp [isAggT, hu]) fun x y c u v hc hx hy => ?_
            unfold eqV at hc
            split at hc
            · simp at hc
            · simp at hc
              simp only [Holds] at hx hy
              obtain ⟨hx, hn⟩ := hx
              obtain ⟨hy, hm⟩ := hy
              subst hx; subst hy; subst hc
              rw [run_equalIn_string w d _ _ _ hu, toList_beq]
              congr 1
              rw [Bool.eq_iff_iff]; simp [bytesOf_inj hn hm]
            · simp at hc
            · cases hc
          | bool =>
            simp at hk
            refine key 2 ks' hks hk.symm (by simp [isAggT, hu]) fun x y c u v hc hx hy => ?_
            unfold eqV at hc
            split at hc
            · simp at hc
            · simp at hc
            · simp at hc
              simp only [Holds] at hx hy
              subst hx; subst hy; subst hc
              exact run_equalIn_bool' w d _ _ _ hu
            · cases hc
          | _ => simp at hk
    · cases hk

theorem sound_eqg (h : SimE C V a w ρ) {neg : Bool} {op : BinOp} (hneg : op = if neg then .neq else .eql) {t u : TypeId} {x y : Operand} (hop : o.op = .binOp op t x y u) {fields : Array Field} (ht : P.underlying t = some (.struct fields))
    (hs : P.stoodInHeld t = false) (hg : P.eqGuardType P.depth t = false) {ks : List Nat} (hk : kindsOf P fields.toList 0 = some ks)
    {ef : Eff} (he : eEqg neg ks [V.ev x, V.ev y] = some ef) (hd : ∀ i, o.dst = some i → i < C.N) : Sound P C V a w o ef := by
  have hx := h.ev x
  have hy := h.ev y
  unfold eEqg at he
  split at he
  · rename_i l r heq
    simp only [List.cons.injEq, and_true] at heq
    rw [heq.1] at hx; rw [heq.2] at hy; simp only [Holds] at hx hy
    obtain ⟨xs, hx, hl⟩ := hx
    obtain ⟨ys, hy, hr⟩ := hy
    split at he
    · rename_i b hb
      cases he
      have hf : P.fieldsOf t = fields := by simp [Program.fieldsOf, ht]
      have hE := eqFields_plain (w := w) fields.toList 0 ks hk l r xs ys b hb (fun j x hj => by
          obtain ⟨v, hv, hh⟩ := hl.get j x hj
          exact ⟨v, by simpa using hv, hh⟩) (fun j x hj => by
          obtain ⟨v, hv, hh⟩ := hr.get j x hj
          exact ⟨v, by simpa using hv, hh⟩) 9998
      have hEq : (Op.equalIn 10000 t (.agg xs) (.agg ys)).run P w = .ok b w := by
        rw [run_equalIn_struct w 9999 t xs ys (by rw [hf]; exact ht) hs, hf]; exact hE
      have h1 := run_eqGuard_agg (P := P) w op t x y xs ys hg
      refine sound_value h (v := .bool (if neg then !b else b)) ?_ hd (by simp only [Holds])
      cases neg <;> simp only [Bool.false_eq_true, if_false, if_true] at hneg <;> subst hneg
      · have := run_eql_struct (P := P) w t xs ys
        rw [hEq] at this
        simp [execOp, hop, hx, hy, h1, this]
      · have := run_neq_struct (P := P) w t xs ys
        rw [hEq] at this
        simp [execOp, hop, hx, hy, h1, this]
    · cases he
  · cases he

def eIsnil (neg : Bool) : List EV → Option Eff
  | [.mp _] => some { out := .bool neg }
  | [.lit (.map none)] => some { out := .bool !neg }
  | _ => none
theorem sound_isnil (h : SimE C V a w ρ) {neg : Bool} {op : BinOp} (hneg : op = if neg then .neq else .eql) {t u : TypeId} {x : Operand} (hop : o.op = .binOp op t x (.const (.map none)) u) {kt e : TypeId} (ht : P.underlying t = some (.map kt e))
    {ef : Eff} (he : eIsnil neg [V.ev x] = some ef) (hd : ∀ i, o.dst = some i → i < C.N) : Sound P C V a w o ef := by
  have hx := h.ev x
  have key : ∀ r : Option Nat, a.eval x = .map r → (execOp a.eval o).run P w = .ok (.value (.bool (if neg then !r.isNone else r.isNone))) w := by
    intro r hr
    have h1 : (eqGuard op t x (.const (.map none)) (a.eval x) (.map none)).run P w = .ok () w := by rw [hr]; exact eqGuard_plain _ _ _ _ _ _ rfl (by simp)
    have h2 := run_equalIn_map_nil (P := P) w 9999 t kt e r ht
    have h3 : a.eval (.const (.map none)) = .map none := rfl
    cases neg <;> simp only [Bool.false_eq_true, if_false, if_true] at hneg <;> subst hneg <;> rw [hr] at h1 <;>
      simp [execOp, hop, h1, h3, hr, binOp, Op.equal, Op.maxDepth, h2]
  unfold eIsnil at he
  split at he
  · rename_i b heq
    simp only [List.cons.injEq, and_true] at heq
    rw [heq] at hx; simp only [Holds] at hx
    obtain ⟨L, _, hv⟩ := hx
    cases he
    refine sound_value h (key (some L.c) hv) hd ?_
    cases neg <;> simp [Holds]
  · rename_i heq
    simp only [List.cons.injEq, and_true] at heq
    rw [heq] at hx; simp only [Holds] at hx
    cases he
    refine sound_value h (key none hx) hd ?_
    cases neg <;> simp [Holds]
  · cases he

def eUn (op : UnOp) : List EV → Option Eff
  | [.bool b] => match op with
    | .not => some { out := .bool !b }
    | _ => none
  | [.int k n] => match op with
    | .neg => some { out := .int k (k.wrap (0 - n)) }
    | _ => none
  | _ => none
theorem sound_un (h : SimE C V a w ρ) {op : UnOp} {t : TypeId} {x : Operand} (hop : o.op = .unOp op t x) {ef : Eff} (he : eUn op [V.ev x] = some ef) (hd : ∀ i, o.dst = some i → i < C.N) : Sound P C V a w o ef := by
  have hx := h.ev x
  unfold eUn at he
  split at he
  · rename_i b heq
    simp only [List.cons.injEq, and_true] at heq
    rw [heq] at hx; simp only [Holds] at hx
    cases op <;> simp at he
    subst he
    exact sound_value h (v := .bool !b) (by simp [execOp, hop, Op.unary, hx]) hd (by simp only [Holds])
  · rename_i k n heq
    simp only [List.cons.injEq, and_true] at heq
    rw [heq] at hx; simp only [Holds] at hx
    cases op <;> simp at he
    subst he
    exact sound_value h (v := .int k (k.wrap (-n))) (by simp [execOp, hop, Op.unary, Op.intArith, hx]) hd (by simp only [Holds])
  · cases he

def eConv (k : IntKind) : List EV → Option Eff
  | [.int _ n] => some { out := .int k (k.wrap n) }
  | _ => none
theorem sound_conv (h : SimE C V a w ρ) {s t : TypeId} {x : Operand} (hop : o.op = .convert s t x) {k k0 : IntKind} (hs : P.underlying s = some (.int k0)) (ht : P.underlying t = some (.int k)) {ef : Eff} (he : eConv k [V.ev x] = some ef)
    (hd : ∀ i, o.dst = some i → i < C.N) : Sound P C V a w o ef := by
  have hx := h.ev x
  unfold eConv at he
  split at he
  · rename_i k' n heq
    simp only [List.cons.injEq, and_true] at heq
    rw [heq] at hx; simp only [Holds] at hx
    cases he
    exact sound_value h (v := .int k (k.wrap n)) (by simp [execOp, hop, convert, run_underlying hs, run_underlying ht, Conv.intToInt, hx]) hd (by simp only [Holds])
  · cases he

theorem sound_mkf (h : SimE C V a w ρ) {fn : Fn} {caps : Array Operand} (hop : o.op = .makeFunc fn #[] caps) (hd : ∀ i, o.dst = some i → i < C.N) : Sound P C V a w o { out := .clo fn (caps.toList.map V.ev) } := by
  refine sound_value h (v := .func fn #[] (caps.map a.eval)) (by simp [execOp, hop, Instr.makeFunc]) hd ?_
  simp only [Holds]
  exact ⟨_, rfl, by simpa using h.evL caps.toList⟩

def eFad (off : Nat) : List EV → Option Eff
  | [.ptr b i k] => some { out := .ptr b i (k + off) }
  | _ => none
theorem sound_fad (h : SimE C V a w ρ) {s : TypeId} {x : Operand} {f : Nat} (hop : o.op = .fieldAddr s x f) {fields : Array Field} (hs : P.underlying s = some (.struct fields)) {fd : Field} (hf : fields[f]? = some fd) {n : Nat}
    (hn : szOf P fd.type = some n) (hn0 : n ≠ 0) {ef : Eff} (he : eFad fd.offset [V.ev x] = some ef) (hd : ∀ i, o.dst = some i → i < C.N) : Sound P C V a w o ef := by
  have hx := h.ev x
  have hrun : ∀ c off, a.eval x = .pointer (some ⟨c, off, none⟩) → (execOp a.eval o).run P w = .ok (.value (.pointer (some ⟨c, off + fd.offset, none⟩))) w := by
    intro c off hv
    simp [execOp, hop, Instr.fieldAt, run_underlying hs, hf, Instr.sureAddr, hv, fieldPlace, Aw.szOf_run hn, hn0, Aw.addr_add]
  unfold eFad at he
  split at he
  · rename_i b i k heq
    simp only [List.cons.injEq, and_true] at heq
    rw [heq] at hx; simp only [Holds] at hx
    obtain ⟨L, hρ, hv⟩ := hx
    cases he
    exact sound_value h (hrun _ _ hv) hd (by simp only [Holds]; exact ⟨L, hρ, by rw [Nat.add_assoc _ k]⟩)
  · cases he

def eExt (i : Nat) : List EV → Option Eff
  | [.tup l] => match l[i]? with
    | some y => some { out := y }
    | none => none
  | _ => none
theorem sound_ext (h : SimE C V a w ρ) {x : Operand} {i : Nat} (hop : o.op = .extract x i) {ef : Eff} (he : eExt i [V.ev x] = some ef) (hd : ∀ i, o.dst = some i → i < C.N) : Sound P C V a w o ef := by
  have hx := h.ev x
  unfold eExt at he
  split at he
  · rename_i l heq
    simp only [List.cons.injEq, and_true] at heq
    rw [heq] at hx; simp only [Holds] at hx
    obtain ⟨cs, hv, hl⟩ := hx
    split at he
    · rename_i y hy
      cases he
      obtain ⟨v, hv', hh⟩ := hl.get i y hy
      have hcs : cs[i]? = some v := by simpa using hv'
      exact sound_value h (by simp [execOp, hop, Instr.extract, hv, hcs]) hd hh
    · cases he
  · cases he

def eFld (off n : Nat) (ag : Bool) : List EV → Option Eff
  | [.agg l] => match pickE n off ag l with
    | some y => some { out := y }
    | none => none
  | _ => none
theorem sound_fld (h : SimE C V a w ρ) {t : TypeId} {x : Operand} {f : Nat} (hop : o.op = .field t x f) {fields : Array Field} (ht : P.underlying t = some (.struct fields)) {fd : Field} (hf : fields[f]? = some fd)
    {n : Nat} {ag : Bool} (hn : szOf P fd.type = some n) (hag : isAggT P fd.type = some ag) {ef : Eff} (he : eFld fd.offset n ag [V.ev x] = some ef) (hd : ∀ i, o.dst = some i → i < C.N) : Sound P C V a w o ef := by
  have hx := h.ev x
  unfold eFld at he
  split at he
  · rename_i l heq
    simp only [List.cons.injEq, and_true] at heq
    rw [heq] at hx; simp only [Holds] at hx
    obtain ⟨cs, hv, hl⟩ := hx
    split at he
    · rename_i y hy
      cases he
      simp only [pickE] at hy
      cases ag with
      | true =>
        simp only [if_true] at hy
        split at hy
        · rename_i hlt
          cases hy
          have hsl := (hl.drop fd.offset).take n
          refine sound_value h (v := .agg (cs.extract fd.offset (fd.offset + n))) ?_ hd ?_
          · simp [execOp, hop, Instr.field, run_underlying ht, hf, hv, asAgg, part, Aw.isAgg_run hag, Aw.szOf_run hn]
          · simp only [Holds]
            refine ⟨_, rfl, ?_⟩
            have e : (cs.extract fd.offset (fd.offset + n)).toList = (cs.toList.drop fd.offset).take n := by
              rw [Array.toList_extract, List.extract_eq_take_drop, Nat.add_sub_cancel_left]
            rw [e]; exact hsl
        · cases hy
      | false =>
        simp only [Bool.false_eq_true, if_false] at hy
        obtain ⟨v, hv', hh⟩ := hl.get _ y hy
        have : cs[fd.offset]? = some v := by simpa using hv'
        exact sound_value h (v := v) (by simp [execOp, hop, Instr.field, run_underlying ht, hf, hv, asAgg, part, Aw.isAgg_run hag, this]) hd hh
    · cases he
  · cases he

def ePick : List EV → Option Eff
  | [.bool b, x, y] => some { out := if b then x else y }
  | _ => none
theorem sound_pick (h : SimE C V a w ρ) {c x y : Operand} (hop : o.op = .pick c x y) {ef : Eff} (he : ePick [V.ev c, V.ev x, V.ev y] = some ef) (hd : ∀ i, o.dst = some i → i < C.N) : Sound P C V a w o ef := by
  have hc := h.ev c
  unfold ePick at he
  split at he
  · rename_i b xv yv heq
    simp only [List.cons.injEq, and_true] at heq
    obtain ⟨e1, e2, e3⟩ := heq
    rw [e1] at hc; simp only [Holds] at hc
    subst e2; subst e3
    cases he
    refine sound_value h (v := if b then a.eval x else a.eval y) (by simp [execOp, hop, hc, asBool]) hd ?_
    cases b
    · exact h.ev y
    · exact h.ev x
  · cases he
def eMm (mx : Bool) : List EV → Option Eff
  | [.int j n, .int k m] => if j = k then some { out := .int j (if mx then (if m > n then m else n) else (if m < n then m else n)) } else none
  | _ => none
theorem sound_mm (h : SimE C V a w ρ) {mx : Bool} {x y : Operand} {ats : Array TypeId} (hop : o.op = .call { callee := .builtin (if mx then .max else .min), args := #[x, y], argTypes := ats }) {ef : Eff} (he : eMm mx [V.ev x, V.ev y] = some ef) (hd : ∀ i, o.dst = some i → i < C.N) : Sound P C V a w o ef := by
  have hx := h.ev x
  have hy := h.ev y
  unfold eMm at he
  split at he
  · rename_i j n k m heq
    simp only [List.cons.injEq, and_true] at heq
    obtain ⟨e1, e2⟩ := heq
    rw [e1] at hx; rw [e2] at hy; simp only [Holds] at hx hy
    split at he
    · rename_i hjk
      subst hjk
      cases he
      refine sound_value h (v := .int j (if mx then (if m > n then m else n) else (if m < n then m else n))) ?_ hd (by simp only [Holds])
      cases mx <;> simp [execOp, hop, resolve, invoke, builtin, Builtin.max_, Builtin.min_, Builtin.max2, Builtin.min2, hx, hy]
    · cases he
  · cases he
end Go.Ev
