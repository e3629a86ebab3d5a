/- What Closed and Rests of the reference come to. -/
import Derived.Test.YtldaibijdhjpjaaStSpec
set_option linter.unusedSimpArgs false
set_option linter.unusedVariables false
namespace Go.St
open Go.Aw
theorem wrap_mulN (a b : Nat) (h : a * b < 9223372036854775808) : IntKind.i64.wrap ((a : Int) * (b : Int)) = ((a * b : Nat) : Int) := by
  rw [← Int.natCast_mul, wrap_in (by omega) (by omega)]
theorem wrap_addN (a b : Nat) (h : a + b < 9223372036854775808) : IntKind.i64.wrap ((a : Int) + (b : Int)) = ((a + b : Nat) : Int) := by
  rw [← Int.natCast_add, wrap_in (by omega) (by omega)]
theorem wrap_mulE {a b c : Nat} (h : c = a * b) (hc : c < 9223372036854775808) : IntKind.i64.wrap ((a : Int) * (b : Int)) = (c : Int) := by subst h; exact wrap_mulN a b hc
theorem wrap_addE {a b c : Nat} (h : c = a + b) (hc : c < 9223372036854775808) : IntKind.i64.wrap ((a : Int) + (b : Int)) = (c : Int) := by subst h; exact wrap_addN a b hc
/-- f 0, f 1, .. f (k-1), one behind the other -/
def itr {α : Type} (f : Nat → α → α) : Nat → α → α
  | 0, x => x
  | k + 1, x => f k (itr f k x)
theorem itr_inv {α : Type} {f : Nat → α → α} {p : α → Prop} (n : Nat) (h : ∀ k, k < n → ∀ x, p x → p (f k x)) : ∀ k, k ≤ n → ∀ x, p x → p (itr f k x)
  | 0, _, _, hx => hx
  | k + 1, hk, x, hx => h k (by omega) _ (itr_inv n h k (by omega) x hx)
/-- along a list -/
def itl {α β : Type} (f : α → β → α) (l : List β) (k : Nat) (x : α) : α := (l.take k).foldl f x
theorem itl_zero {α β : Type} (f : α → β → α) (l : List β) (x : α) : itl f l 0 x = x := rfl
theorem itl_succ {α β : Type} (f : α → β → α) (l : List β) (k : Nat) (x : α) (h : k < l.length) : itl f l (k + 1) x = f (itl f l k x) l[k] := by
  unfold itl; rw [List.take_add_one, List.getElem?_eq_getElem h, List.foldl_append]; rfl
theorem itl_all {α β : Type} (f : α → β → α) (l : List β) (k : Nat) (x : α) (h : l.length ≤ k) : itl f l k x = l.foldl f x := by
  unfold itl; rw [List.take_of_length_le h]
theorem itl_inv {α β : Type} {f : α → β → α} {l : List β} {p : α → Prop} (h : ∀ b ∈ l, ∀ x, p x → p (f x b)) (k : Nat) (x : α) (hx : p x) : p (itl f l k x) := by
  unfold itl
  have : ∀ (q : List β), (∀ b ∈ q, b ∈ l) → ∀ x, p x → p (q.foldl f x) := by
    intro q
    induction q with
    | nil => intro _ x hx; exact hx
    | cons b q ih => intro hq x hx; exact ih (fun c hc => hq c (by simp [hc])) _ (h b (hq b (by simp)) x hx)
  exact this _ (fun b hb => List.mem_of_mem_take hb) x hx

def idx (m : MMod) (nm : ByteArray) : Nat := (At m nm).toNat
structure Good (m : MMod) : Prop where
  small : m.rels.length ≤ 30
  heads : ∀ r ∈ m.rules, 0 ≤ At m r.rel
  lits : ∀ r ∈ m.rules, ∀ x ∈ r.body, leads x = true → 0 ≤ At m x.rel
  names : ∀ k (h : k < m.rels.length), At m m.rels[k].name = k
theorem At_idx {m : MMod} {nm : ByteArray} (h : 0 ≤ At m nm) : At m nm = ((idx m nm : Nat) : Int) := by simp [idx, Int.toNat_of_nonneg h]
theorem idx_lt {m : MMod} {nm : ByteArray} (h : 0 ≤ At m nm) : idx m nm < m.rels.length := by
  have := (atN_lt nm m.rels 0).1
  have h2 := At_idx h
  unfold At at h2 h
  omega
theorem badLit_none (m : MMod) : ∀ l, badLit m l = none → ∀ x ∈ l, leads x = true → 0 ≤ At m x.rel
  | [], _ => by simp
  | y :: l, h => by
    intro x hx hl
    simp only [badLit] at h
    split at h
    · cases h
    · rename_i hn
      rcases List.mem_cons.mp hx with rfl | hx
      · simp [hl] at hn; exact hn
      · exact badLit_none m l h x hx hl
theorem rulesE_none (m : MMod) : ∀ l, rulesE m l = none → ∀ r ∈ l, 0 ≤ At m r.rel ∧ badLit m r.body = none
  | [], _ => by simp
  | y :: l, h => by
    intro x hx
    simp only [rulesE] at h
    split at h
    · cases h
    · rename_i hn
      split at h
      · cases h
      · rename_i hb
        rcases List.mem_cons.mp hx with rfl | hx
        · exact ⟨by omega, hb⟩
        · exact rulesE_none m l h x hx
theorem relsE_some (m : MMod) : ∀ l i p, relsE m l i = some p → p.2 = 6
  | [], _, _, h => by cases h
  | y :: l, i, p, h => by
    simp only [relsE] at h
    split at h
    · cases h; rfl
    · exact relsE_some m l _ _ h
theorem rulesE_some (m : MMod) : ∀ l p, rulesE m l = some p → p.2 = 63
  | [], _, h => by cases h
  | y :: l, p, h => by
    simp only [rulesE] at h
    split at h
    · cases h; rfl
    · split at h
      · cases h; rfl
      · exact rulesE_some m l _ h
theorem neversE_some (m : MMod) : ∀ l p, neversE m l = some p → p.2 = 63
  | [], _, h => by cases h
  | y :: l, p, h => by
    simp only [neversE] at h
    split at h
    · cases h; rfl
    · exact neversE_some m l _ h
theorem atN_le_of (nm : ByteArray) : ∀ (l : List RelD) (i k : Nat) (h : k < l.length), l[k].name = nm → i ≤ atN l nm i ∧ atN l nm i ≤ i + k
  | [], _, _, h, _ => by simp at h
  | r :: l, i, k, h, hn => by
    simp only [atN]
    split
    · omega
    · rename_i hr
      cases k with
      | zero => exact absurd hn hr
      | succ k => have := atN_le_of nm l (i + 1) k (by simpa using h) (by simpa using hn); omega
theorem relsE_none (m : MMod) : ∀ (l : List RelD) (i : Nat), relsE m l i = none → ∀ k (h : k < l.length), (i + k : Int) ≤ At m l[k].name
  | [], _, _, _, h => by simp at h
  | r :: l, i, hn, k, h => by
    simp only [relsE] at hn
    split at hn
    · cases hn
    · cases k with
      | zero => simp; omega
      | succ k => have := relsE_none m l (i + 1) hn k (by simpa using h); simp; omega
theorem Check_good {m : MMod} (hs : m.rels.length ≤ 30) (h : (checkE m).2 = 0) : Good m := by
  unfold checkE at h
  cases h1 : relsE m m.rels 0 with
  | some p => rw [h1] at h; have := relsE_some m _ _ _ h1; simp at h; omega
  | none =>
    rw [h1] at h
    cases h2 : rulesE m m.rules with
    | some p => rw [h2] at h; have := rulesE_some m _ _ h2; simp at h; omega
    | none =>
      refine ⟨hs, fun r hr => (rulesE_none m _ h2 r hr).1, fun r hr => badLit_none m _ (rulesE_none m _ h2 r hr).2, fun k hk => ?_⟩
      have a := relsE_none m _ _ h1 k hk
      have b := atN_le_of m.rels[k].name m.rels 0 k hk rfl
      unfold At at a ⊢
      omega
theorem checkE_ok {m : MMod} (h : (checkE m).2 = 0) : checkE m = okE := by
  unfold checkE at h ⊢
  cases h1 : relsE m m.rels 0 with
  | some p => rw [h1] at h; have := relsE_some m _ _ _ h1; simp at h; omega
  | none =>
    rw [h1] at h
    cases h2 : rulesE m m.rules with
    | some p => rw [h2] at h; have := rulesE_some m _ _ h2; simp at h; omega
    | none =>
      rw [h2] at h
      cases h3 : neversE m m.nevers with
      | some p => rw [h3] at h; have := neversE_some m _ _ h3; simp at h; omega
      | none => rfl

def litStep (m : MMod) (r : RuleD) (out : List Bool) (x : LitD) : List Bool := if leads x then out.set (idx m r.rel * m.rels.length + idx m x.rel) true else out
def ruleStep (m : MMod) (out : List Bool) (r : RuleD) : List Bool := r.body.foldl (litStep m r) out
def base (m : MMod) : List Bool := m.rules.foldl (ruleStep m) (List.replicate (m.rels.length * m.rels.length) false)
def wStep (n v a b : Nat) (out : List Bool) : List Bool := if out.getD (a * n + v) false && out.getD (v * n + b) false then out.set (a * n + b) true else out
def wA (n v a : Nat) (out : List Bool) : List Bool := itr (wStep n v a) n out
def wV (n v : Nat) (out : List Bool) : List Bool := itr (wA n v) n out
def closed (m : MMod) : List Bool := itr (wV m.rels.length) m.rels.length (base m)
theorem litStep_len {m : MMod} {r : RuleD} {k : Nat} : ∀ b ∈ r.body, ∀ x : List Bool, x.length = k → (litStep m r x b).length = k := by
  intro b _ x hx; unfold litStep; split <;> simp [hx]
theorem ruleStep_len {m : MMod} {k : Nat} : ∀ b ∈ m.rules, ∀ x : List Bool, x.length = k → (ruleStep m x b).length = k := by
  intro b _ x hx
  have := itl_inv (p := fun x => x.length = k) (litStep_len (m := m) (r := b)) b.body.length x hx
  rwa [itl_all _ _ _ _ (Nat.le_refl _)] at this
theorem base_len (m : MMod) : (base m).length = m.rels.length * m.rels.length := by
  have := itl_inv (p := fun x => x.length = m.rels.length * m.rels.length) (ruleStep_len (m := m)) m.rules.length (List.replicate (m.rels.length * m.rels.length) false) (by simp)
  rwa [itl_all _ _ _ _ (Nat.le_refl _)] at this
theorem wStep_len (n v a b k : Nat) (x : List Bool) (h : x.length = k) : (wStep n v a b x).length = k := by unfold wStep; split <;> simp [h]
theorem wA_len (n v a k j : Nat) (x : List Bool) (h : x.length = k) : (itr (wStep n v a) j x).length = k :=
  itr_inv (p := fun x => x.length = k) j (fun _ _ x hx => wStep_len _ _ _ _ _ x hx) j (Nat.le_refl _) x h
theorem wV_len (n v k j : Nat) (x : List Bool) (h : x.length = k) : (itr (wA n v) j x).length = k :=
  itr_inv (p := fun x => x.length = k) j (fun _ _ x hx => wA_len _ _ _ _ _ x hx) j (Nat.le_refl _) x h
theorem wW_len (n k j : Nat) (x : List Bool) (h : x.length = k) : (itr (wV n) j x).length = k :=
  itr_inv (p := fun x => x.length = k) j (fun _ _ x hx => wV_len _ _ _ _ x hx) j (Nat.le_refl _) x h
theorem sq_lt {a n v : Nat} (h1 : a < n) (h2 : v < n) : a * n + v < n * n := by
  have := Nat.mul_le_mul_right n (Nat.succ_le_of_lt h1)
  rw [Nat.succ_mul] at this
  omega
/-- the row of what a relation rests on -/
def restRow (on : List Bool) (n a k : Nat) : List Nat := (List.range k).filter fun b => on.getD (a * n + b) false
def restRows (m : MMod) : List (List Nat) := (List.range m.rels.length).map fun a => restRow (closed m) m.rels.length a m.rels.length
theorem restRow_succ (on : List Bool) (n a k : Nat) : restRow on n a (k + 1) = restRow on n a k ++ (if on.getD (a * n + k) false then [k] else []) := by
  unfold restRow; rw [List.range_succ, List.filter_append]; congr 1; simp [List.filter]; split <;> simp_all
end Go.St
