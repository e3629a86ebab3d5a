/- Values, changes, commands, replies: as lists and trees. -/
import Derived.Test.YtmikljncdgfjpaaGreatDoorAwZi
set_option linter.unusedSimpArgs false
set_option linter.unusedVariables false
namespace Go.Se
open Go.Aw
def ival (n : Int) : AV := .val (.int .i64 n)
def uval (n : Int) : AV := .val (.int .u8 n)
def sval (s : ByteArray) : AV := .val (.string s)
def bval (b : Bool) : AV := .val (.bool b)
attribute [simp] ival uval sval bval
inductive ValD where
  | mk (kind n : Int) (s : ByteArray) (l : List ValD)
namespace ValD
def kind : ValD → Int | .mk k _ _ _ => k
def n : ValD → Int | .mk _ k _ _ => k
def s : ValD → ByteArray | .mk _ _ k _ => k
def l : ValD → List ValD | .mk _ _ _ k => k
end ValD
mutual
def encV : ValD → List AV
  | .mk kind n s l => [uval kind, ival n, sval s, .rd 4 (encVs l)]
def encVs : List ValD → List (List AV)
  | [] => []
  | e :: l => encV e :: encVs l
end
theorem encVs_map : ∀ l, encVs l = l.map encV
  | [] => by simp only [encVs, List.map_nil]
  | e :: l => by simp only [encVs, List.map_cons, encVs_map l]
theorem encV_eq (v : ValD) : encV v = [uval v.kind, ival v.n, sval v.s, .rd 4 (v.l.map encV)] := by
  cases v; simp only [encV, encVs_map, ValD.kind, ValD.n, ValD.s, ValD.l]
@[simp] theorem encV_len (v : ValD) : (encV v).length = 4 := by rw [encV_eq]; rfl
def encVX (v : ValD) : AV := .agg (encV v)
def encRow (l : List ValD) : AV := .rd 4 (l.map encV)
-- how much there is of it
mutual
def vsize : ValD → Nat
  | .mk _ _ s l => 1 + s.size + vsizes l
def vsizes : List ValD → Nat
  | [] => 0
  | e :: l => vsize e + vsizes l
end
theorem vsize_eq (v : ValD) : vsize v = 1 + v.s.size + vsizes v.l := by cases v; simp only [vsize, ValD.s, ValD.l]
theorem vsizes_map : ∀ l : List ValD, vsizes l = (l.map vsize).sum
  | [] => rfl
  | e :: l => by simp only [vsizes, List.map_cons, List.sum_cons, vsizes_map l]
theorem vsizes_append (a b : List ValD) : vsizes (a ++ b) = vsizes a + vsizes b := by simp [vsizes_map]
theorem vsizes_len : ∀ l : List ValD, l.length ≤ vsizes l
  | [] => by simp [vsizes]
  | e :: l => by have := vsizes_len l; have := vsize_eq e; simp only [vsizes, List.length_cons]; omega
theorem vsizes_snoc (l : List ValD) (i : Nat) (h : i < l.length) : vsizes (l.take (i + 1)) = vsizes (l.take i) + vsize l[i] := by
  rw [List.take_succ_eq_append_getElem h, vsizes_append]; simp [vsizes]
theorem vsizes_take_le (l : List ValD) (i : Nat) : vsizes (l.take i) ≤ vsizes l := by
  have := vsizes_append (l.take i) (l.drop i)
  rw [List.take_append_drop] at this; omega
theorem vsize_mem {v : ValD} : ∀ {l : List ValD}, v ∈ l → vsize v ≤ vsizes l
  | x :: l, h => by
    simp only [vsizes]
    rcases List.mem_cons.1 h with rfl | h
    · omega
    · have := vsize_mem h; omega
theorem wrap_nat (k : Nat) (h : k < 9223372036854775807) : IntKind.i64.wrap ((k : Int) + 1) = ((k + 1 : Nat) : Int) := by
  rw [wrap_in (by omega) (by omega)]; omega
/-- a byte of a text -/
def chr (s : ByteArray) (i : Nat) : Int := ((s.get! i).toNat : Int)
@[simp] theorem chr_fold (s : ByteArray) (i : Nat) : ((s.get! i).toNat : Int) = chr s i := rfl
theorem chr_range (s : ByteArray) (i : Nat) : 0 ≤ chr s i ∧ chr s i < 256 := by
  have := (s.get! i).toNat_lt
  have h : ((s.get! i).toNat : Int) = chr s i := rfl
  omega
-- names
def letterB (c : Int) : Bool := decide (97 ≤ c) && decide (c ≤ 122)
def nameB (c : Int) : Bool := letterB c || (decide (65 ≤ c) && decide (c ≤ 90)) || (decide (48 ≤ c) && decide (c ≤ 57)) || decide (c = 95)
end Go.Se
