/- Commands and replies: as lists and trees; how much there is of them. -/
import Derived.Test.YtmikljncdgfjpaaGreatDoorSeSpB
set_option linter.unusedSimpArgs false
set_option linter.unusedVariables false
namespace Go.Se
open Go.Aw Go
structure ChgD where
  rel : ByteArray
  l : List ValD
  n : Int
def encC (c : ChgD) : List AV := [sval c.rel, .rd 4 (c.l.map encV), ival c.n]
def encT (s : ByteArray) : List AV := [sval s]
def encL (l : List ValD) : List AV := [.rd 4 (l.map encV)]
@[simp] theorem encC_len (c : ChgD) : (encC c).length = 3 := rfl
@[simp] theorem encT_len (c : ByteArray) : (encT c).length = 1 := rfl
@[simp] theorem encL_len (c : List ValD) : (encL c).length = 1 := rfl
structure CmdD where
  kind : Int
  limit : Int
  texts : List ByteArray
  changes : List ChgD
  rel : ByteArray
  comes : Bool
  text : ByteArray
structure RepD where
  kind : Int
  e : Int
  module : ByteArray
  line : Int
  col : Int
  rule : Int
  never : Int
  row : Int
  changes : List ChgD
  rows : List (List ValD)
  text : ByteArray
def encCmd (c : CmdD) : List AV := [uval c.kind, ival c.limit, .rd 1 (c.texts.map encT), .rd 3 (c.changes.map encC), sval c.rel, bval c.comes, sval c.text]
def encRep (r : RepD) : List AV := [uval r.kind, ival r.e, sval r.module, ival r.line, ival r.col, ival r.rule, ival r.never, ival r.row, .rd 3 (r.changes.map encC), .rd 1 (r.rows.map encL), sval r.text]
def cmdX (c : CmdD) : AV := .agg (encCmd c)
def repX (r : RepD) : AV := .agg (encRep r)
def chgX (c : ChgD) : AV := .agg (encC c)
attribute [simp] cmdX repX chgX encCmd encRep encC encT encL
-- how much
def csize (c : ChgD) : Nat := 1 + c.rel.size + vsizes c.l
def csizes : List ChgD → Nat
  | [] => 0
  | c :: l => csize c + csizes l
def tsizes : List ByteArray → Nat
  | [] => 0
  | s :: l => 1 + s.size + tsizes l
def rsizes : List (List ValD) → Nat
  | [] => 0
  | r :: l => 1 + vsizes r + rsizes l
theorem csizes_len : ∀ l : List ChgD, l.length ≤ csizes l
  | [] => Nat.le_refl _
  | c :: l => by have := csizes_len l; simp only [csizes, csize, List.length_cons]; omega
theorem csize_mem {c : ChgD} : ∀ {l : List ChgD}, c ∈ l → csize c ≤ csizes l
  | x :: l, h => by
    simp only [csizes]
    rcases List.mem_cons.1 h with rfl | h
    · omega
    · have := csize_mem h; omega
theorem tsizes_len : ∀ l : List ByteArray, l.length ≤ tsizes l
  | [] => Nat.le_refl _
  | c :: l => by have := tsizes_len l; simp only [tsizes, List.length_cons]; omega
theorem tsize_mem {c : ByteArray} : ∀ {l : List ByteArray}, c ∈ l → 1 + c.size ≤ tsizes l
  | x :: l, h => by
    simp only [tsizes]
    rcases List.mem_cons.1 h with rfl | h
    · omega
    · have := tsize_mem h; omega
theorem rsizes_len : ∀ l : List (List ValD), l.length ≤ rsizes l
  | [] => Nat.le_refl _
  | c :: l => by have := rsizes_len l; simp only [rsizes, List.length_cons]; omega
theorem rsize_mem {c : List ValD} : ∀ {l : List (List ValD)}, c ∈ l → 1 + vsizes c ≤ rsizes l
  | x :: l, h => by
    simp only [rsizes]
    rcases List.mem_cons.1 h with rfl | h
    · omega
    · have := rsize_mem h; omega
-- the guard
mutual
def vN : ValD → Nat
  | .mk _ _ s l => s.size / 64 + vNs l l.length
def vNs : List ValD → Nat → Nat
  | [], n => n
  | v :: l, n => if n < 3000 then vNs l (n + vN v) else n
end
theorem vN_eq (v : ValD) : vN v = v.s.size / 64 + vNs v.l v.l.length := by cases v; simp only [vN, ValD.s, ValD.l]
theorem vNs_drop (l : List ValD) (k n : Nat) (h : k < l.length) : vNs (l.drop k) n = if n < 3000 then vNs (l.drop (k + 1)) (n + vN l[k]) else n := by rw [List.drop_eq_getElem_cons h, vNs]
mutual
theorem vN_le : ∀ v : ValD, vN v + 1 ≤ 2 * vsize v
  | .mk _ _ s l => by have := vNs_le l l.length; simp only [vN, vsize]; omega
theorem vNs_le : ∀ (l : List ValD) (n : Nat), vNs l n + l.length ≤ n + 2 * vsizes l
  | [], n => by simp [vNs, vsizes]
  | v :: l, n => by
    simp only [vNs, vsizes, List.length_cons]
    have h1 := vN_le v
    split
    · have h2 := vNs_le l (n + vN v); omega
    · have := vsizes_len l; omega
end
theorem vNs_ge : ∀ (l : List ValD) (n : Nat), n ≤ vNs l n
  | [], n => by simp [vNs]
  | v :: l, n => by
    simp only [vNs]
    split
    · have := vNs_ge l (n + vN v); omega
    · omega
def valuesN (l : List ValD) : Nat := vNs l l.length
theorem valuesN_le (l : List ValD) : valuesN l ≤ 2 * vsizes l := by have := vNs_le l l.length; unfold valuesN; omega
def cNs : List ChgD → Nat → Nat
  | [], n => n
  | c :: l, n => if n < 3000 then cNs l (n + valuesN c.l + c.rel.size / 64) else n
theorem cNs_drop (l : List ChgD) (k n : Nat) (h : k < l.length) : cNs (l.drop k) n = if n < 3000 then cNs (l.drop (k + 1)) (n + valuesN l[k].l + l[k].rel.size / 64) else n := by rw [List.drop_eq_getElem_cons h, cNs]
theorem cNs_le : ∀ (l : List ChgD) (n : Nat), cNs l n ≤ n + 2 * csizes l
  | [], n => by simp [cNs]
  | c :: l, n => by
    simp only [cNs, csizes, csize]
    have h1 := valuesN_le c.l
    split
    · have h2 := cNs_le l (n + valuesN c.l + c.rel.size / 64); omega
    · omega
theorem cNs_ge : ∀ (l : List ChgD) (n : Nat), n ≤ cNs l n
  | [], n => by simp [cNs]
  | c :: l, n => by
    simp only [cNs]
    split
    · have := cNs_ge l (n + valuesN c.l + c.rel.size / 64); omega
    · omega
def changesN (l : List ChgD) : Nat := cNs l l.length
theorem changesN_le (l : List ChgD) : changesN l ≤ 3 * csizes l := by have := cNs_le l l.length; have := csizes_len l; unfold changesN; omega
def rNs : List (List ValD) → Nat → Nat
  | [], n => n
  | c :: l, n => if n < 3000 then rNs l (n + valuesN c) else n
theorem rNs_drop (l : List (List ValD)) (k n : Nat) (h : k < l.length) : rNs (l.drop k) n = if n < 3000 then rNs (l.drop (k + 1)) (n + valuesN l[k]) else n := by rw [List.drop_eq_getElem_cons h, rNs]
theorem rNs_ge : ∀ (l : List (List ValD)) (n : Nat), n ≤ rNs l n
  | [], n => by simp [rNs]
  | c :: l, n => by
    simp only [rNs]
    split
    · have := rNs_ge l (n + valuesN c); omega
    · omega
theorem rNs_le : ∀ (l : List (List ValD)) (n : Nat), rNs l n ≤ n + 2 * rsizes l
  | [], n => by simp [rNs]
  | c :: l, n => by
    simp only [rNs, rsizes]
    have h1 := valuesN_le c
    split
    · have h2 := rNs_le l (n + valuesN c); omega
    · omega
def tNs : List ByteArray → Nat → Nat
  | [], n => n
  | c :: l, n => if n < 400000 then tNs l (n + min c.size 200000) else n
theorem tNs_drop (l : List ByteArray) (k n : Nat) (h : k < l.length) : tNs (l.drop k) n = if n < 400000 then tNs (l.drop (k + 1)) (n + min l[k].size 200000) else n := by rw [List.drop_eq_getElem_cons h, tNs]
theorem tNs_le : ∀ (l : List ByteArray) (n : Nat), tNs l n ≤ n + tsizes l
  | [], n => by simp [tNs]
  | c :: l, n => by
    simp only [tNs, tsizes]
    split
    · have h2 := tNs_le l (n + min c.size 200000); omega
    · omega
theorem tNs_ge : ∀ (l : List ByteArray) (n : Nat), n ≤ tNs l n
  | [], n => by simp [tNs]
  | c :: l, n => by
    simp only [tNs]
    split
    · have := tNs_ge l (n + min c.size 200000); omega
    · omega
end Go.Se
