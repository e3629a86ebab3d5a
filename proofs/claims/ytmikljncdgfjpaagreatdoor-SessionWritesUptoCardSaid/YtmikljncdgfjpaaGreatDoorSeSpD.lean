/- The bytes of commands and replies, in plain words. -/
import Derived.Test.YtmikljncdgfjpaaGreatDoorSeSpC
set_option linter.unusedSimpArgs false
set_option linter.unusedVariables false
namespace Go.Se
open Go.Aw Go
def Row (l : List ValD) : Bool := l.all fun v => decide (Check v = 0)
theorem Row_drop (l : List ValD) (k : Nat) (h : k < l.length) : Row (l.drop k) = (decide (Check l[k] = 0) && Row (l.drop (k + 1))) := by
  unfold Row; rw [List.drop_eq_getElem_cons h, List.all_cons]
def rowOk (l : List ValD) : Bool := decide (l.length ≤ 8) && Row l
def chOk (c : ChgD) : Bool := (decide (c.n = 1) || decide (c.n = -1)) && decide (c.rel.size ≤ 65) && rowOk c.l
def changesOk (l : List ChgD) : Bool := decide (l.length ≤ 100000) && l.all chOk
def rowsOk (l : List (List ValD)) : Bool := decide (l.length ≤ 100000) && l.all rowOk
def countB (n : Int) : Bool := decide (0 ≤ n) && decide (n ≤ 2147483647)
def flagE (f : Bool) : List Int := if f = true then [1] else [0]
def cntE (n : Int) : List Int := if 0 ≤ n ∧ n ≤ 2147483647 then numE 0 n.toNat else []
def valP (v : ValD) : List Int := if Check v = 0 then valE v else []
theorem cntE_len (n : Int) : (cntE n).length ≤ 9 := by
  unfold cntE; split
  · exact numE_len _ _ (by omega)
  · simp
theorem flagE_len (f : Bool) : (flagE f).length = 1 := by cases f <;> rfl
theorem valP_len (v : ValD) (hr : rng v) (hv : vsize v ≤ 4194304) : (valP v).length + 1 ≤ 12 * vsize v := by
  unfold valP; split
  · exact valE_len v hr hv
  · have := vsize_eq v; simp; omega
/-- lists of things, one behind the other -/
def manyE {α : Type} (e : α → List Int) (l : List α) : List Int := l.flatMap e
theorem manyE_take {α : Type} (e : α → List Int) (l : List α) (k : Nat) (h : k < l.length) : manyE e (l.take (k + 1)) = manyE e (l.take k) ++ e l[k] := by
  unfold manyE; rw [List.take_succ_eq_append_getElem h, List.flatMap_append]; simp
theorem manyE_take_le {α : Type} (e : α → List Int) (l : List α) (k : Nat) : (manyE e (l.take k)).length ≤ (manyE e l).length := by
  have : manyE e l = manyE e (l.take k) ++ manyE e (l.drop k) := by unfold manyE; rw [← List.flatMap_append, List.take_append_drop]
  rw [this, List.length_append]; omega
def rowE (l : List ValD) : List Int := cntE l.length ++ manyE valP l
def chE (c : ChgD) : List Int := flagE (decide (c.n = 1)) ++ (txtE c.rel ++ rowE c.l)
theorem vals_len : ∀ l : List ValD, rngs l → vsizes l ≤ 4194304 → (manyE valP l).length ≤ 12 * vsizes l
  | [], _, _ => by simp [manyE]
  | v :: l, hr, hv => by
    simp only [rngs] at hr
    simp only [vsizes] at hv ⊢
    have h1 := valP_len v hr.1 (by omega)
    have h2 := vals_len l hr.2 (by omega)
    simp only [manyE, List.flatMap_cons, List.length_append] at h2 ⊢; omega
theorem rowE_len (l : List ValD) (hr : rngs l) (hv : vsizes l ≤ 4194304) : (rowE l).length ≤ 9 + 12 * vsizes l := by
  have := cntE_len l.length
  have := vals_len l hr hv
  simp only [rowE, List.length_append]; omega
def crng (c : ChgD) : Prop := (-9223372036854775808 ≤ c.n ∧ c.n ≤ 9223372036854775807) ∧ rngs c.l
def crngs : List ChgD → Prop
  | [] => True
  | c :: l => crng c ∧ crngs l
def rrngs : List (List ValD) → Prop
  | [] => True
  | c :: l => rngs c ∧ rrngs l
theorem crngs_mem {c : ChgD} : ∀ {l : List ChgD}, c ∈ l → crngs l → crng c
  | x :: l, h, hr => by
    simp only [crngs] at hr
    rcases List.mem_cons.1 h with rfl | h
    · exact hr.1
    · exact crngs_mem h hr.2
theorem rrngs_mem {c : List ValD} : ∀ {l : List (List ValD)}, c ∈ l → rrngs l → rngs c
  | x :: l, h, hr => by
    simp only [rrngs] at hr
    rcases List.mem_cons.1 h with rfl | h
    · exact hr.1
    · exact rrngs_mem h hr.2
theorem chE_len (c : ChgD) (hr : crng c) (hv : csize c ≤ 4194304) : (chE c).length ≤ 12 * csize c := by
  unfold csize at hv ⊢
  have h1 := txtE_len c.rel
  have h2 := rowE_len c.l hr.2 (by omega)
  simp only [chE, List.length_append, flagE_len]; omega
theorem chs_len : ∀ l : List ChgD, crngs l → csizes l ≤ 4194304 → (manyE chE l).length ≤ 12 * csizes l
  | [], _, _ => by simp [manyE]
  | v :: l, hr, hv => by
    simp only [crngs] at hr
    simp only [csizes] at hv ⊢
    have h1 := chE_len v hr.1 (by omega)
    have h2 := chs_len l hr.2 (by omega)
    simp only [manyE, List.flatMap_cons, List.length_append] at h2 ⊢; omega
theorem rows_len : ∀ l : List (List ValD), rrngs l → rsizes l ≤ 4194304 → (manyE rowE l).length ≤ 12 * rsizes l
  | [], _, _ => by simp [manyE]
  | v :: l, hr, hv => by
    simp only [rrngs] at hr
    simp only [rsizes] at hv ⊢
    have h1 := rowE_len v hr.1 (by omega)
    have h2 := rows_len l hr.2 (by omega)
    simp only [manyE, List.flatMap_cons, List.length_append] at h2 ⊢; omega
theorem txts_len : ∀ l : List ByteArray, (manyE txtE l).length ≤ 2 * tsizes l
  | [] => by simp [manyE]
  | v :: l => by
    have h1 := txtE_len v
    have h2 := txts_len l
    simp only [manyE, tsizes, List.flatMap_cons, List.length_append] at h2 ⊢; omega
-- what a command has
def shapeC (c : CmdD) : Bool :=
  (decide (c.kind = 1) || (decide (c.limit = 0) && decide (c.texts = []))) && (decide (c.kind = 2) || decide (c.changes = [])) && (decide (3 ≤ c.kind) || decide (c.rel = ⟨#[]⟩)) && (decide (c.kind = 4) || decide (c.kind = 5) || (!c.comes && decide (c.text = ⟨#[]⟩)))
def restC (c : CmdD) : Bool := countB c.limit && decide (c.texts.length ≤ 8) && c.texts.all (fun s => decide (s.size ≤ 65536)) && decide (c.rel.size ≤ 65) && changesOk c.changes
def fitsC (c : CmdD) : Bool := shapeC c && restC c
theorem len_pos {α : Type} (l : List α) [Decidable (l = [])] : decide (0 < l.length) = !decide (l = []) := by cases l <;> simp
theorem lt3 (k : Int) : decide (k < 3) = !decide (3 ≤ k) := by rw [← decide_not]; exact decide_eq_decide.2 (by omega)
def bytesC (c : CmdD) : List Int := c.kind :: (if c.kind = 1 then cntE c.limit ++ (cntE c.texts.length ++ manyE txtE c.texts) else if c.kind = 2 then cntE c.changes.length ++ manyE chE c.changes else if c.kind = 4 ∨ c.kind = 5 then txtE c.rel ++ (flagE c.comes ++ txtE c.text) else txtE c.rel)
def wholeA (l : List Int) : AV := if l.length ≤ 65536 then .tup [sval (strOfNums l), ival 0] else .tup [sval ⟨#[]⟩, ival 40]
def encodeA (c : CmdD) : AV := if c.kind < 1 ∨ 7 < c.kind then .tup [sval ⟨#[]⟩, ival 1] else if fitsC c = false then .tup [sval ⟨#[]⟩, ival 4] else wholeA (bytesC c)
-- what a reply has
def moves (k : Int) : Bool := decide (k = 1) || decide (k = 2) || decide (k = 4) || decide (k = 5)
def shapeR (r : RepD) : Bool :=
  (decide (r.kind = 0) || (decide (r.e = 0) && decide (r.module = ⟨#[]⟩) && (decide (r.line = 0) && decide (r.col = 0)) && decide (r.rule = 0) && decide (r.never = 0) && decide (r.row = 0)))
def shapeR2 (r : RepD) : Bool := ((moves r.kind || decide (r.changes = [])) && (decide (r.kind = 3) || decide (r.rows = [])) && (decide (6 ≤ r.kind) || decide (r.text = ⟨#[]⟩)))
def restR (r : RepD) : Bool := ((!decide (r.kind = 0) || (decide (1 ≤ r.e) && decide (r.e ≤ 99))) && decide (r.module.size ≤ 65)) && (countB r.line && countB r.col && countB r.row)
def fitsR (r : RepD) : Bool := shapeR r && (shapeR2 r && (restR r && (changesOk r.changes && rowsOk r.rows)))
def bytesR (r : RepD) : List Int := r.kind :: (if r.kind = 0 then cntE r.e ++ (txtE r.module ++ (cntE r.line ++ (cntE r.col ++ (numI r.rule ++ (numI r.never ++ cntE r.row))))) else if r.kind = 3 then cntE r.rows.length ++ manyE rowE r.rows else if r.kind = 6 ∨ r.kind = 7 then txtE r.text else cntE r.changes.length ++ manyE chE r.changes)
def tellA (r : RepD) : AV := if 7 < r.kind then .tup [sval ⟨#[]⟩, ival 1] else if fitsR r = false then .tup [sval ⟨#[]⟩, ival 4] else wholeA (bytesR r)
end Go.Se
