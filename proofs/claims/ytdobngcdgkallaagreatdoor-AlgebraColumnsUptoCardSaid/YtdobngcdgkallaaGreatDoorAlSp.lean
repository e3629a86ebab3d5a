/- Values, changes, commands, replies: as lists and trees. -/
import Derived.Test.YtdobngcdgkallaaGreatDoorAwZi
import Derived.Lib.SlTrimSet
import Derived.Lib.Bytealg
import Derived.Lib.Strings
import Derived.Lib.ItoaLen
import Derived.Lib.Small
import Derived.Lib.IndexMore
set_option linter.unusedSimpArgs false
set_option linter.unusedVariables false
set_option linter.unusedSectionVars false
section
namespace Go.Al
open Go.Aw
def pow10s : List Int := (List.range 20).map fun i => ((10 ^ i : Nat) : Int)
/-- the package variables: bytealg.MaxLen (an int), strconv.uint64pow10 -/
instance : GL := ⟨[(0, fun o => ∃ m t f, o = .cells #[.int .i64 m] t f), (1, fun o => ∃ t f, o = .cells (pow10s.map fun z => Value.int .u64 z).toArray t f)]⟩
def ival (n : Int) : AV := .val (.int .i64 n)
def uval (n : Int) : AV := .val (.int .u8 n)
def sval (s : ByteArray) : AV := .val (.string s)
def bval (b : Bool) : AV := .val (.bool b)
attribute [simp] ival uval sval bval
mutual
theorem within_of_noref (l : List Nat) : ∀ x : AV, noref x = true → within l x = true
 | .unk, _ | .val _, _ | .rd .., _ | .fx .., _ | .own .., _ | .elt .., _ | .rmap .., _ | .kset .., _ => by simp only [within]
 | .ptr .., h | .vec .., h | .mapr _, h => by simp [noref] at h
 | .agg x, h | .tup x, h | .clo _ x, h => by simp only [noref] at h; simp only [within, withinL_of_noref l x h]
 | .ifc _ x, h => by simp only [noref] at h; simp only [within, within_of_noref l x h]
theorem withinL_of_noref (l : List Nat) : ∀ x : List AV, norefL x = true → withinL l x = true
 | [], _ => by simp only [withinL]
 | x :: xs, h => by simp only [norefL, Bool.and_eq_true] at h; simp only [withinL, within_of_noref l x h.1, withinL_of_noref l xs h.2, Bool.and_self]
end
inductive ValD where
 | mk (kind n : Int) (s : ByteArray) (l : List ValD)
namespace ValD
def kind : ValD → Int | .mk k _ _ _ => k
def n : ValD → Int | .mk _ k _ _ => k
def s : ValD → ByteArray | .mk _ _ k _ => k
def l : ValD → List ValD | .mk _ _ _ k => k
end ValD
mutual
def encV : ValD → List AV
 | .mk kind n s l => [uval kind, ival n, sval s, .rd 4 (encVs l)]
def encVs : List ValD → List (List AV)
 | [] => []
 | e :: l => encV e :: encVs l
end
theorem encVs_map : ∀ l, encVs l = l.map encV
 | [] => by simp only [encVs, List.map_nil]
 | e :: l => by simp only [encVs, List.map_cons, encVs_map l]
theorem encV_eq (v : ValD) : encV v = [uval v.kind, ival v.n, sval v.s, .rd 4 (v.l.map encV)] := by
 cases v; simp only [encV, encVs_map, ValD.kind, ValD.n, ValD.s, ValD.l]
@[simp] theorem encV_len (v : ValD) : (encV v).length = 4 := by rw [encV_eq]; rfl
def encVX (v : ValD) : AV := .agg (encV v)
def encRow (l : List ValD) : AV := .rd 4 (l.map encV)
-- how much there is of it
mutual
def vsize : ValD → Nat
 | .mk _ _ s l => 1 + s.size + vsizes l
def vsizes : List ValD → Nat
 | [] => 0
 | e :: l => vsize e + vsizes l
end
theorem vsize_eq (v : ValD) : vsize v = 1 + v.s.size + vsizes v.l := by cases v; simp only [vsize, ValD.s, ValD.l]
theorem vsizes_map : ∀ l : List ValD, vsizes l = (l.map vsize).sum
 | [] => rfl
 | e :: l => by simp only [vsizes, List.map_cons, List.sum_cons, vsizes_map l]
theorem vsizes_append (a b : List ValD) : vsizes (a ++ b) = vsizes a + vsizes b := by simp [vsizes_map]
theorem vsizes_len : ∀ l : List ValD, l.length ≤ vsizes l
 | [] => by simp [vsizes]
 | e :: l => by have := vsizes_len l; have := vsize_eq e; simp only [vsizes, List.length_cons]; omega
theorem vsizes_snoc (l : List ValD) (i : Nat) (h : i < l.length) : vsizes (l.take (i + 1)) = vsizes (l.take i) + vsize l[i] := by
 rw [List.take_succ_eq_append_getElem h, vsizes_append]; simp [vsizes]
theorem vsizes_take_le (l : List ValD) (i : Nat) : vsizes (l.take i) ≤ vsizes l := by
 have := vsizes_append (l.take i) (l.drop i)
 rw [List.take_append_drop] at this; omega
theorem vsize_mem {v : ValD} : ∀ {l : List ValD}, v ∈ l → vsize v ≤ vsizes l
 | x :: l, h => by
  simp only [vsizes]
  rcases List.mem_cons.1 h with rfl | h
  ·omega
  ·have := vsize_mem h; omega
theorem wrap_nat (k : Nat) (h : k < 9223372036854775807) : IntKind.i64.wrap ((k : Int) + 1) = ((k + 1 : Nat) : Int) := by
 rw [wrap_in (by omega) (by omega)]; omega
/-- a byte of a text -/
def chr (s : ByteArray) (i : Nat) : Int := ((s.get! i).toNat : Int)
@[simp] theorem chr_fold (s : ByteArray) (i : Nat) : ((s.get! i).toNat : Int) = chr s i := rfl
theorem chr_range (s : ByteArray) (i : Nat) : 0 ≤ chr s i ∧ chr s i < 256 := by
 have := (s.get! i).toNat_lt
 have h : ((s.get! i).toNat : Int) = chr s i := rfl
 omega
-- names
def letterB (c : Int) : Bool := decide (97 ≤ c) && decide (c ≤ 122)
def nameB (c : Int) : Bool := letterB c || (decide (65 ≤ c) && decide (c ≤ 90)) || (decide (48 ≤ c) && decide (c ≤ 57)) || decide (c = 95)
end Go.Al
end
section
namespace Go.Al
open Go.Aw Go
def valX (v : ValD) : AV := .agg [uval v.kind, ival v.n, sval v.s, .rd 4 (v.l.map encV)]
attribute [simp] valX encRow
theorem valX_eq (v : ValD) : valX v = .agg (encV v) := by rw [encV_eq]; rfl
-- texts
def bl (s : ByteArray) : List UInt8 := s.data.toList
theorem bl_len (s : ByteArray) : (bl s).length = s.size := by rw [bl, Lib.size_eq]
theorem chr_eq (s : ByteArray) (i : Nat) (h : i < (bl s).length) : chr s i = ((bl s)[i].toNat : Int) := by
 have h' : i < s.data.size := by simpa [bl] using h
 obtain ⟨d⟩ := s
 unfold chr
 congr 2
 show d[i]! = d.toList[i]
 rw [getElem!_pos d i h']
 simp
theorem bl_inj {s t : ByteArray} (h : bl s = bl t) : s = t := by
 obtain ⟨⟨a⟩⟩ := s; obtain ⟨⟨b⟩⟩ := t
 simp only [bl] at h
 rw [h]
theorem bl_extract (s : ByteArray) (a b : Nat) : bl (s.extract a b) = ((bl s).drop a).take (b - a) := by
 have := Lib.extract_toList s a b
 rw [Lib.toList_data] at this
 exact this
theorem size_pos {s : ByteArray} (h : ¬ s = ⟨#[]⟩) : 0 < s.size := by
 refine Nat.pos_of_ne_zero fun h0 => h (bl_inj ?_)
 have : (bl s).length = 0 := by rw [bl_len]; exact h0
 rw [List.eq_nil_of_length_eq_zero this]; rfl
theorem size_zero {s : ByteArray} : s = ⟨#[]⟩ ↔ s.size = 0 := by
 constructor
 ·rintro rfl; rfl
 ·intro h; refine Classical.byContradiction fun hn => ?_
  have := size_pos hn; omega
def allFrom (p : Int → Bool) (s : ByteArray) (k : Nat) : Bool := ((bl s).drop k).all fun b => p (b.toNat : Int)
theorem allFrom_step (p : Int → Bool) (s : ByteArray) (k : Nat) (h : k < s.size) : allFrom p s k = (p (chr s k) && allFrom p s (k + 1)) := by
 have hk : k < (bl s).length := by rw [bl_len]; exact h
 unfold allFrom
 rw [List.drop_eq_getElem_cons hk, List.all_cons, chr_eq s k hk]
theorem allFrom_end (p : Int → Bool) (s : ByteArray) (k : Nat) (h : s.size ≤ k) : allFrom p s k = true := by
 unfold allFrom; rw [List.drop_eq_nil_of_le (by rw [bl_len]; exact h)]; rfl
def digB (c : Int) : Bool := decide (48 ≤ c) && decide (c ≤ 57)
def Name (s : ByteArray) : Bool := !decide (s = ⟨#[]⟩) && decide (s.size ≤ 32) && letterB (chr s 0) && allFrom nameB s 0
def dotN (s : ByteArray) : Nat → Nat → Nat
 | 0, k => k
 | n + 1, k => if chr s k = 46 then k else dotN s n (k + 1)
def dotFrom (s : ByteArray) (k : Nat) : Nat := dotN s (s.size - k) k
theorem dotFrom_step (s : ByteArray) (k : Nat) (h : k < s.size) : dotFrom s k = if chr s k = 46 then k else dotFrom s (k + 1) := by
 unfold dotFrom
 rw [show s.size - k = (s.size - (k + 1)) + 1 by omega, dotN]
theorem dotFrom_end (s : ByteArray) (k : Nat) (h : s.size ≤ k) : dotFrom s k = k := by
 unfold dotFrom; rw [show s.size - k = 0 by omega]; rfl
theorem dotFrom_le (s : ByteArray) : ∀ (n k : Nat), k + n = s.size → dotFrom s k ≤ s.size ∧ k ≤ dotFrom s k := by
 intro n
 induction n with
 | zero => intro k h; rw [dotFrom_end s k (by omega)]; omega
 | succ n ih =>
  intro k h
  rw [dotFrom_step s k (by omega)]
  have := ih (k + 1) (by omega)
  split <;> omega
theorem dot_index (s : ByteArray) : ∀ (n k : Nat), k + n = s.size → Lib.indexByte ((bl s).drop k) 46 = if dotFrom s k < s.size then ((dotFrom s k - k : Nat) : Int) else -1 := by
 intro n
 induction n with
 | zero =>
  intro k h
  rw [dotFrom_end s k (by omega), if_neg (by omega), List.drop_eq_nil_of_le (by rw [bl_len]; omega)]; rfl
 | succ n ih =>
  intro k h
  have hk : k < (bl s).length := by rw [bl_len]; omega
  have hc := chr_eq s k hk
  have hle := dotFrom_le s n (k + 1) (by omega)
  rw [List.drop_eq_getElem_cons hk, dotFrom_step s k (by omega), Lib.indexByte, ih (k + 1) (by omega)]
  by_cases h46 : chr s k = 46
  ·have : ((bl s)[k] == 46) = true := by
    rw [hc] at h46
    have h1 : (bl s)[k].toNat = 46 := by omega
    have : (bl s)[k] = 46 := UInt8.toNat_inj.1 h1
    rw [this]; rfl
   rw [this, if_pos h46, if_pos rfl, if_pos (by omega), Nat.sub_self]; rfl
  ·have : ((bl s)[k] == 46) = false := by
    rw [beq_eq_false_iff_ne]
    intro e
    rw [hc, e] at h46
    exact h46 rfl
   rw [this, if_neg h46]
   simp only [Bool.false_eq_true, if_false]
   by_cases hd : dotFrom s (k + 1) < s.size
   ·rw [if_pos hd, if_pos hd]
    have : ((((dotFrom s (k + 1) - (k + 1) : Nat) : Int)) == -1) = false := by rw [beq_eq_false_iff_ne]; omega
    rw [this]
    simp only [Bool.false_eq_true, if_false]
    omega
   ·rw [if_neg hd, if_neg hd]; rfl
theorem dot_zero (s : ByteArray) : Lib.indexByte (bl s) 46 = if dotFrom s 0 < s.size then (dotFrom s 0 : Int) else -1 := by
 have := dot_index s s.size 0 (by omega)
 simpa using this
def tTrue : ByteArray := ⟨#[116, 114, 117, 101]⟩
def tFalse : ByteArray := ⟨#[102, 97, 108, 115, 101]⟩
def Names (s : ByteArray) : Bool := !(decide (s = tTrue) || decide (s = tFalse)) &&
 (if dotFrom s 0 < s.size then Name (s.extract 0 (dotFrom s 0)) && Name (s.extract (dotFrom s 0 + 1) s.size) else Name s)
def numB (s : ByteArray) : Bool := !decide (s = ⟨#[]⟩) && !(decide (1 < s.size) && decide (chr s 0 = 48)) && allFrom digB s 0
def Number (s : ByteArray) : Bool :=
 if (decide (1 < s.size) && decide (chr s 0 = 45)) = true then !decide (chr (s.extract 1 s.size) 0 = 48) && numB (s.extract 1 s.size) else numB s
def Digits (s : ByteArray) : Int := if chr s 0 = 45 then (s.size : Int) - 1 else s.size
theorem Number_pos {s : ByteArray} (h : Number s = true) : 0 < s.size := by
 refine size_pos fun e => ?_
 subst e
 revert h; decide
-- as the program has it
def hasPre (s p : ByteArray) : Bool := decide (p.size ≤ s.size) && decide (s.extract 0 p.size = p)
def trimPre (s p : ByteArray) : ByteArray := if hasPre s p = true then s.extract p.size s.size else s
def tMinus : ByteArray := ⟨#[45]⟩
def tDigits : ByteArray := ⟨#[48, 49, 50, 51, 52, 53, 54, 55, 56, 57]⟩
def trimSet (s cs : ByteArray) : ByteArray := ⟨(Lib.trimS (bl s) (bl cs)).toArray⟩
def numOk (s : ByteArray) : Bool :=
 !(decide (trimPre s tMinus = ⟨#[]⟩) || !decide (trimSet (trimPre s tMinus) tDigits = ⟨#[]⟩) || (decide (chr (trimPre s tMinus) 0 = 48) && !decide (s = ⟨#[48]⟩)))
def numLen (s : ByteArray) : Int := if numOk s = true then (trimPre s tMinus).size else 0
theorem pre_minus (s : ByteArray) : hasPre s tMinus = (decide (0 < s.size) && decide (chr s 0 = 45)) := by
 unfold hasPre
 have h1 : tMinus.size = 1 := rfl
 rw [h1]
 by_cases h : 0 < s.size
 ·have hl : 0 < (bl s).length := by rw [bl_len]; exact h
  have hc := chr_eq s 0 hl
  have : (s.extract 0 1 = tMinus) ↔ chr s 0 = 45 := by
   rw [hc]
   constructor
   ·intro e
    have e1 := congrArg bl e
    rw [bl_extract] at e1
    obtain ⟨a, l, ha⟩ := List.exists_cons_of_length_pos hl
    simp only [ha, List.drop_zero, List.getElem_cons_zero] at e1 ⊢
    have : [a] = [45] := e1
    injection this with h1 _
    rw [h1]; rfl
   ·intro e
    refine bl_inj ?_
    rw [bl_extract]
    obtain ⟨a, l, ha⟩ := List.exists_cons_of_length_pos hl
    simp only [ha, List.drop_zero, List.getElem_cons_zero] at e ⊢
    have : a = 45 := UInt8.toNat_inj.1 (by have : (45 : UInt8).toNat = 45 := rfl; omega)
    rw [this]; rfl
  simp only [this, h, Nat.succ_le_of_lt h, decide_true, Bool.true_and]
 ·simp [show ¬ 1 ≤ s.size by omega, h]
theorem trimS_nil (l cs : List UInt8) : Lib.trimS l cs = [] ↔ ∀ b ∈ l, cs.contains b = true := by
 have drop_nil : ∀ (p : UInt8 → Bool) (l : List UInt8), l.dropWhile p = [] ↔ ∀ b ∈ l, p b = true := by
  intro p l
  induction l with
  | nil => simp
  | cons a l ih =>
   rw [List.dropWhile_cons]
   by_cases h : p a = true
   ·rw [if_pos h, ih]; simp [h]
   ·rw [if_neg h]; simp [h]
 unfold Lib.trimS Lib.trimLeftS Lib.trimRightS
 rw [drop_nil]
 constructor
 ·intro h
  have h2 : ∀ b ∈ l.reverse.dropWhile (cs.contains ·), cs.contains b = true := fun b hb => h b (by simpa using hb)
  have h3 : l.reverse.dropWhile (cs.contains ·) = [] := by
   cases hd : l.reverse.dropWhile (cs.contains ·) with
   | nil => rfl
   | cons a r =>
    rw [hd] at h2
    have h4 := h2 a (by simp)
    have h5 : ¬ (cs.contains a = true) := by
     have := List.head?_dropWhile_not (cs.contains ·) l.reverse
     rw [hd] at this
     simpa using this
    exact absurd h4 h5
  rw [drop_nil] at h3
  intro b hb
  exact h3 b (by simpa using hb)
 ·intro h b hb
  have h1 : l.reverse.dropWhile (cs.contains ·) = [] := (drop_nil _ _).2 fun b hb => h b (by simpa using hb)
  rw [h1] at hb; simp at hb
theorem trimSet_nil (s : ByteArray) : (trimSet s tDigits = ⟨#[]⟩) ↔ allFrom digB s 0 = true := by
 have h1 : (trimSet s tDigits = ⟨#[]⟩) ↔ Lib.trimS (bl s) (bl tDigits) = [] := by
  constructor
  ·intro e; have := congrArg bl e; simpa [trimSet, bl] using this
  ·intro e; unfold trimSet; rw [e]
 rw [h1, trimS_nil, allFrom, List.drop_zero, List.all_eq_true]
 have key : ∀ b : UInt8, (bl tDigits).contains b = digB (b.toNat : Int) := by
  have : ∀ n : Fin 256, (bl tDigits).contains (UInt8.ofNat n.val) = digB (n.val : Int) := by decide +kernel
  intro b
  have h := this ⟨b.toNat, b.toNat_lt⟩
  simpa using h
 simp only [key]
theorem chr_one (s : ByteArray) (h : s.size = 1) (c : UInt8) : s = ⟨#[c]⟩ ↔ chr s 0 = (c.toNat : Int) := by
 have hl : (bl s).length = 1 := by rw [bl_len]; exact h
 have h0 : 0 < (bl s).length := by omega
 rw [chr_eq s 0 h0]
 obtain ⟨a, ha⟩ : ∃ a, bl s = [a] := by
  match hb : bl s, hl with
  | [a], _ => exact ⟨a, rfl⟩
 simp only [ha, List.getElem_cons_zero]
 constructor
 ·rintro rfl
  have : [c] = [a] := ha
  injection this with h1; rw [h1]
 ·intro e
  have : a = c := UInt8.toNat_inj.1 (by omega)
  refine bl_inj ?_
  rw [ha, this]; rfl
theorem size_extract1 (s : ByteArray) (h : 0 < s.size) : (s.extract 1 s.size).size = s.size - 1 := by
 rw [← bl_len, bl_extract, List.length_take, List.length_drop, bl_len]; omega
/-- both say the same of whole numbers -/
theorem num_same (s : ByteArray) : numOk s = Number s := by
 unfold numOk Number trimPre
 rw [pre_minus]
 by_cases hs : 0 < s.size
 ·by_cases hm : chr s 0 = 45
  ·have h1 : (decide (0 < s.size) && decide (chr s 0 = 45)) = true := by simp [hs, hm]
   rw [if_pos h1]
   have hsz := size_extract1 s hs
   generalize hd : s.extract tMinus.size s.size = d
   have hd' : s.extract 1 s.size = d := hd
   rw [hd'] at hsz
   rw [hd']
   have hne : s ≠ ⟨#[48]⟩ := by rintro rfl; revert hm; decide
   simp only [hne, decide_false, Bool.not_false, Bool.and_true]
   by_cases h2 : 1 < s.size
   ·have hdn : ¬ d = ⟨#[]⟩ := by rw [size_zero]; omega
    have e1 : (decide (1 < s.size) && decide (chr s 0 = 45)) = true := by simp [h2, hm]
    rw [if_pos e1]
    unfold numB
    have e2 := trimSet_nil d
    by_cases ha : allFrom digB d 0 = true
    ·rw [decide_eq_true (e2.2 ha), ha]
     by_cases h48 : chr d 0 = 48 <;> simp [hdn, h48]
    ·rw [decide_eq_false (fun h => ha (e2.1 h))]
     simp [show allFrom digB d 0 = false by simpa using ha]
   ·have hde : d = ⟨#[]⟩ := by rw [size_zero]; omega
    have e1 : (decide (1 < s.size) && decide (chr s 0 = 45)) = false := by simp [h2]
    rw [e1]
    simp only [Bool.false_eq_true, if_false]
    have ha : allFrom digB s 0 = false := by
     rw [allFrom_step digB s 0 hs, hm]; rfl
    unfold numB
    rw [ha, hde]; simp
  ·have h1 : ¬ (decide (0 < s.size) && decide (chr s 0 = 45)) = true := by simp [hm]
   have h2 : ¬ (decide (1 < s.size) && decide (chr s 0 = 45)) = true := by simp [hm]
   rw [if_neg h1, if_neg h2]
   unfold numB
   have hne : ¬ s = ⟨#[]⟩ := by rw [size_zero]; omega
   have e2 := trimSet_nil s
   have e3 : (decide (chr s 0 = 48) && !decide (s = ⟨#[48]⟩)) = (decide (1 < s.size) && decide (chr s 0 = 48)) := by
    by_cases h48 : chr s 0 = 48
    ·by_cases hz : s.size = 1
     ·have := (chr_one s hz 48).2 (by rw [h48]; rfl)
      simp [this, show ¬ 1 < s.size by omega]
      decide
     ·have : s ≠ ⟨#[48]⟩ := by rintro rfl; exact hz rfl
      simp [h48, this, show 1 < s.size by omega]
    ·simp [h48]
   rw [e3]
   by_cases ha : allFrom digB s 0 = true
   ·rw [decide_eq_true (e2.2 ha), ha]; simp [hne]
   ·rw [decide_eq_false (fun h => ha (e2.1 h))]
    simp [hne, show allFrom digB s 0 = false by simpa using ha]
 ·have : s = ⟨#[]⟩ := by rw [size_zero]; omega
  subst this; decide
theorem numLen_digits (s : ByteArray) (h : numOk s = true) : numLen s = Digits s := by
 have hp : 0 < s.size := Number_pos (by rw [← num_same]; exact h)
 unfold numLen Digits trimPre
 rw [if_pos h, pre_minus]
 by_cases hm : chr s 0 = 45
 ·rw [if_pos (by simp [hp, hm]), if_pos hm]
  have : s.extract tMinus.size s.size = s.extract 1 s.size := rfl
  rw [this, size_extract1 s hp]; omega
 ·rw [if_neg (by simp [hm]), if_neg hm]
-- values
def formOwn (v : ValD) : Bool :=
 if v.kind = 1 then (decide (v.n = 0) || decide (v.n = 1)) && decide (v.s = ⟨#[]⟩) && decide (v.l.length = 0)
 else if v.kind = 2 then decide (v.s = ⟨#[]⟩) && decide (v.l.length = 0)
 else if v.kind = 3 then decide (v.n = 0) && decide (v.l.length = 0) && Number v.s
 else if v.kind = 4 then decide (v.n = 0) && decide (v.l.length = 0)
 else if v.kind = 5 then decide (v.n = 0) && decide (v.s = ⟨#[]⟩) && !decide (v.l.length = 1)
 else if v.kind = 6 then decide (v.n = 0) && Names v.s
 else false
def fitsOwn (v : ValD) : Bool :=
 if v.kind = 3 then decide (Digits v.s ≤ 200) else if v.kind = 4 then decide (v.s.size ≤ 4096) else if v.kind = 5 then decide (v.l.length ≤ 16) else if v.kind = 6 then decide (v.l.length ≤ 8) else true
mutual
def form : ValD → Bool
 | .mk kind n s l => formOwn (.mk kind n s l) && forms l
def forms : List ValD → Bool
 | [] => true
 | v :: l => form v && forms l
end
mutual
def fits : ValD → Bool
 | .mk kind n s l => fitsOwn (.mk kind n s l) && fitss l
def fitss : List ValD → Bool
 | [] => true
 | v :: l => fits v && fitss l
end
mutual
def depth : ValD → Nat
 | .mk _ _ _ l => depths l + 1
def depths : List ValD → Nat
 | [] => 0
 | v :: l => max (depth v) (depths l)
end
theorem form_eq (v : ValD) : form v = (formOwn v && forms v.l) := by cases v; simp only [form, ValD.l]
theorem fits_eq (v : ValD) : fits v = (fitsOwn v && fitss v.l) := by cases v; simp only [fits, ValD.l]
theorem depth_eq (v : ValD) : depth v = depths v.l + 1 := by cases v; simp only [depth, ValD.l]
theorem forms_drop (l : List ValD) (k : Nat) (h : k < l.length) : forms (l.drop k) = (form l[k] && forms (l.drop (k + 1))) := by rw [List.drop_eq_getElem_cons h, forms]
theorem fitss_drop (l : List ValD) (k : Nat) (h : k < l.length) : fitss (l.drop k) = (fits l[k] && fitss (l.drop (k + 1))) := by rw [List.drop_eq_getElem_cons h, fitss]
theorem depths_append (a b : List ValD) : depths (a ++ b) = max (depths a) (depths b) := by
 induction a with
 | nil => simp [depths]
 | cons x a ih => simp only [List.cons_append, depths, ih]; omega
theorem depths_take (l : List ValD) (k : Nat) (h : k < l.length) : depths (l.take (k + 1)) = max (depths (l.take k)) (depth l[k]) := by
 rw [List.take_succ_eq_append_getElem h, depths_append]; simp [depths]
mutual
theorem depth_le : ∀ v : ValD, depth v ≤ vsize v
 | .mk _ _ _ l => by have := depths_le l; simp only [depth, vsize]; omega
theorem depths_le : ∀ l : List ValD, depths l ≤ vsizes l
 | [] => by simp [depths]
 | v :: l => by have := depth_le v; have := depths_le l; simp only [depths, vsizes]; omega
end
def Check (v : ValD) : Int := if 64 < depth v then 65 else if form v = false then 4 else if fits v = false then 40 else 0
-- as the program has it
mutual
def depthT : ValD → Int → Nat
 | .mk _ _ _ l, m => depthsT l m 0 + 1
def depthsT : List ValD → Int → Nat → Nat
 | [], _, n => n
 | v :: l, m, n => if m ≤ (n : Int) then n else depthsT l m (max n (depthT v (m - 1)))
end
theorem depthT_eq (v : ValD) (m : Int) : depthT v m = depthsT v.l m 0 + 1 := by cases v; simp only [depthT, ValD.l]
theorem depthsT_drop (l : List ValD) (m : Int) (k n : Nat) (h : k < l.length) : depthsT (l.drop k) m n = if m ≤ (n : Int) then n else depthsT (l.drop (k + 1)) m (max n (depthT l[k] (m - 1))) := by rw [List.drop_eq_getElem_cons h, depthsT]
mutual
theorem depthT_iff : ∀ (v : ValD) (m : Int) (k : Nat), (k : Int) ≤ m → (k < depthT v m ↔ k < depth v)
 | .mk _ _ _ l, m, k, h => by
  simp only [depthT, depth]
  cases k with
  | zero => omega
  | succ k =>
   have := depthsT_iff l m k 0 (by omega)
   omega
theorem depthsT_iff : ∀ (l : List ValD) (m : Int) (k n : Nat), (k : Int) < m → (k < depthsT l m n ↔ k < max n (depths l))
 | [], m, k, n, h => by simp [depthsT, depths]
 | v :: l, m, k, n, h => by
  simp only [depthsT, depths]
  split
  ·omega
  ·have h1 := depthsT_iff l m k (max n (depthT v (m - 1))) h
   have h2 := depthT_iff v (m - 1) k (by omega)
   rw [h1]
   omega
end
mutual
theorem depthT_le : ∀ (v : ValD) (m : Int), depthT v m ≤ vsize v
 | .mk _ _ s l, m => by have := depthsT_le l m 0; simp only [depthT, vsize]; omega
theorem depthsT_le : ∀ (l : List ValD) (m : Int) (n : Nat), depthsT l m n ≤ max n (vsizes l)
 | [], m, n => by simp only [depthsT]; omega
 | v :: l, m, n => by
  simp only [depthsT, vsizes]
  split
  ·omega
  ·have := depthsT_le l m (max n (depthT v (m - 1)))
   have := depthT_le v (m - 1)
   omega
end
def fitsOwnT (v : ValD) : Bool :=
 if v.kind = 3 then decide (numLen v.s ≤ 200) else if v.kind = 4 then decide (v.s.size ≤ 4096) else if v.kind = 5 then decide (v.l.length ≤ 16) else if v.kind = 6 then decide (v.l.length ≤ 8) else true
mutual
def fitsT : ValD → Bool
 | .mk kind n s l => fitsOwnT (.mk kind n s l) && fitssT l
def fitssT : List ValD → Bool
 | [] => true
 | v :: l => fitsT v && fitssT l
end
theorem fitsT_eq (v : ValD) : fitsT v = (fitsOwnT v && fitssT v.l) := by cases v; simp only [fitsT, ValD.l]
mutual
theorem fits_same : ∀ v : ValD, form v = true → fitsT v = fits v
 | .mk kind n s l, h => by
  simp only [form, Bool.and_eq_true] at h
  simp only [fitsT, fits, fitss_same l h.2]
  congr 1
  unfold fitsOwnT fitsOwn
  by_cases hk : (ValD.mk kind n s l).kind = 3
  ·rw [if_pos hk, if_pos hk]
   have h1 := h.1
   unfold formOwn at h1
   rw [if_neg (by omega), if_neg (by omega), if_pos hk] at h1
   simp only [Bool.and_eq_true] at h1
   rw [numLen_digits _ (by rw [num_same]; exact h1.2)]
  ·rw [if_neg hk, if_neg hk]
theorem fitss_same : ∀ l : List ValD, forms l = true → fitssT l = fitss l
 | [], _ => rfl
 | v :: l, h => by
  simp only [forms, Bool.and_eq_true] at h
  simp only [fitssT, fitss, fits_same v h.1, fitss_same l h.2]
end
theorem Check_same (v : ValD) : (if 64 < depthT v 65 then (65 : Int) else if form v = false then 4 else if fitsT v = false then 40 else 0) = Check v := by
 unfold Check
 have := depthT_iff v 65 64 (by omega)
 by_cases h : 64 < depth v
 ·rw [if_pos h, if_pos (this.2 h)]
 ·rw [if_neg h, if_neg (fun h' => h (this.1 h'))]
  by_cases hf : form v = false
  ·rw [if_pos hf, if_pos hf]
  ·rw [if_neg hf, if_neg hf, fits_same v (by simpa using hf)]
end Go.Al
namespace Go.Al
open Go.Aw Go
def tDot : ByteArray := ⟨#[46]⟩
def cutL (s : ByteArray) : ByteArray := if dotFrom s 0 < s.size then s.extract 0 (dotFrom s 0) else s
def cutR (s : ByteArray) : ByteArray := if dotFrom s 0 < s.size then s.extract (dotFrom s 0 + 1) s.size else ⟨#[]⟩
def cutF (s : ByteArray) : Bool := decide (dotFrom s 0 < s.size)
theorem cut_names (s : ByteArray) : (Name (cutL s) && ((cutF s && Name (cutR s)) || (!cutF s && !decide (s = tTrue) && !decide (s = tFalse)))) = Names s := by
 unfold Names cutL cutR cutF
 by_cases h : dotFrom s 0 < s.size
 ·have h1 : s ≠ tTrue := by rintro rfl; revert h; decide
  have h2 : s ≠ tFalse := by rintro rfl; revert h; decide
  simp [h, h1, h2]
 ·simp [h]
  cases Name s <;> cases decide (s = tTrue) <;> cases decide (s = tFalse) <;> rfl
/-- the first that is so, counted from k -/
def fid {α : Type} (p : α → Bool) : List α → Nat → Int
 | [], _ => -1
 | x :: l, k => if p x = true then (k : Int) else fid p l (k + 1)
theorem fid_drop {α : Type} (p : α → Bool) (l : List α) (k : Nat) (h : k < l.length) : fid p (l.drop k) k = if p l[k] = true then (k : Int) else fid p (l.drop (k + 1)) (k + 1) := by rw [List.drop_eq_getElem_cons h, fid]
theorem fid_any {α : Type} (p : α → Bool) : ∀ (l : List α) (k : Nat), decide (0 ≤ fid p l k) = l.any p
 | [], k => rfl
 | x :: l, k => by
  rw [fid, List.any_cons]
  cases h : p x with
  | true => simp
  | false => simpa using fid_any p l (k + 1)
end Go.Al
end
section
namespace Go.Al
open Go.Aw Go
inductive ExprD where
 | mk (kind line col : Int) (name : ByteArray) (v : ValD) (args : List ExprD)
namespace ExprD
def kind : ExprD → Int | .mk k _ _ _ _ _ => k
def line : ExprD → Int | .mk _ k _ _ _ _ => k
def col : ExprD → Int | .mk _ _ k _ _ _ => k
def name : ExprD → ByteArray | .mk _ _ _ k _ _ => k
def v : ExprD → ValD | .mk _ _ _ _ k _ => k
def args : ExprD → List ExprD | .mk _ _ _ _ _ k => k
end ExprD
mutual
def encE : ExprD → List AV
 | .mk kind line col name v args => [uval kind, ival line, ival col, sval name, uval v.kind, ival v.n, sval v.s, .rd 4 (v.l.map encV), .rd 9 (encEs args)]
def encEs : List ExprD → List (List AV)
 | [] => []
 | e :: l => encE e :: encEs l
end
theorem encEs_map : ∀ l, encEs l = l.map encE
 | [] => by simp only [encEs, List.map_nil]
 | e :: l => by simp only [encEs, List.map_cons, encEs_map l]
theorem encE_eq (e : ExprD) : encE e = [uval e.kind, ival e.line, ival e.col, sval e.name, uval e.v.kind, ival e.v.n, sval e.v.s, .rd 4 (e.v.l.map encV), .rd 9 (e.args.map encE)] := by
 cases e; simp only [encE, encEs_map, ExprD.kind, ExprD.line, ExprD.col, ExprD.name, ExprD.v, ExprD.args]
@[simp] theorem encE_len (e : ExprD) : (encE e).length = 9 := by rw [encE_eq]; rfl
def encEX (e : ExprD) : AV := .agg (encE e)
def encT (s : ByteArray) : List AV := [sval s]
def texts (l : List ByteArray) : List (List AV) := l.map encT
@[simp] theorem encT_len (s : ByteArray) : (encT s).length = 1 := rfl
@[simp] theorem texts_len (l : List ByteArray) : (texts l).length = l.length := by simp [texts]
inductive PlanD where
 | mk (op : Int) (rel name : ByteArray) (args : List ExprD) (aggs : List ByteArray) (ins : List PlanD)
namespace PlanD
def op : PlanD → Int | .mk k _ _ _ _ _ => k
def rel : PlanD → ByteArray | .mk _ k _ _ _ _ => k
def name : PlanD → ByteArray | .mk _ _ k _ _ _ => k
def args : PlanD → List ExprD | .mk _ _ _ k _ _ => k
def aggs : PlanD → List ByteArray | .mk _ _ _ _ k _ => k
def ins : PlanD → List PlanD | .mk _ _ _ _ _ k => k
end PlanD
mutual
def encP : PlanD → List AV
 | .mk op rel name args aggs ins => [uval op, sval rel, sval name, .rd 9 (args.map encE), .rd 1 (texts aggs), .rd 6 (encPs ins)]
def encPs : List PlanD → List (List AV)
 | [] => []
 | e :: l => encP e :: encPs l
end
theorem encPs_map : ∀ l, encPs l = l.map encP
 | [] => by simp only [encPs, List.map_nil]
 | e :: l => by simp only [encPs, List.map_cons, encPs_map l]
theorem encP_eq (p : PlanD) : encP p = [uval p.op, sval p.rel, sval p.name, .rd 9 (p.args.map encE), .rd 1 (texts p.aggs), .rd 6 (p.ins.map encP)] := by
 cases p; simp only [encP, encPs_map, PlanD.op, PlanD.rel, PlanD.name, PlanD.args, PlanD.aggs, PlanD.ins]
@[simp] theorem encP_len (p : PlanD) : (encP p).length = 6 := by rw [encP_eq]; rfl
def encPX (p : PlanD) : AV := .agg (encP p)
-- how much there is
mutual
def esize : ExprD → Nat
 | .mk _ _ _ name v args => 1 + name.size + vsize v + esizes args
def esizes : List ExprD → Nat
 | [] => 0
 | e :: l => esize e + esizes l
end
theorem esize_eq (e : ExprD) : esize e = 1 + e.name.size + vsize e.v + esizes e.args := by cases e; simp only [esize, ExprD.name, ExprD.v, ExprD.args]
theorem esizes_map : ∀ l : List ExprD, esizes l = (l.map esize).sum
 | [] => rfl
 | e :: l => by simp only [esizes, List.map_cons, List.sum_cons, esizes_map l]
theorem esizes_append (a b : List ExprD) : esizes (a ++ b) = esizes a + esizes b := by simp [esizes_map]
theorem esizes_len : ∀ l : List ExprD, l.length ≤ esizes l
 | [] => by simp [esizes]
 | e :: l => by have := esizes_len l; have := esize_eq e; simp only [esizes, List.length_cons]; omega
theorem esizes_snoc (l : List ExprD) (i : Nat) (h : i < l.length) : esizes (l.take (i + 1)) = esizes (l.take i) + esize l[i] := by
 rw [List.take_succ_eq_append_getElem h, esizes_append]; simp [esizes]
theorem esizes_take_le (l : List ExprD) (i : Nat) : esizes (l.take i) ≤ esizes l := by
 have := esizes_append (l.take i) (l.drop i)
 rw [List.take_append_drop] at this; omega
theorem esize_mem {e : ExprD} : ∀ {l : List ExprD}, e ∈ l → esize e ≤ esizes l
 | x :: l, h => by
  simp only [esizes]
  rcases List.mem_cons.1 h with rfl | h
  ·omega
  ·have := esize_mem h; omega
def tsizes (l : List ByteArray) : Nat := (l.map fun s => 1 + s.size).sum
theorem tsizes_len (l : List ByteArray) : l.length ≤ tsizes l := by
 induction l with
 | nil => simp [tsizes]
 | cons a l ih => simp only [tsizes, List.map_cons, List.sum_cons, List.length_cons] at ih ⊢; omega
mutual
def psize : PlanD → Nat
 | .mk _ rel name args aggs ins => 1 + rel.size + name.size + esizes args + tsizes aggs + psizes ins
def psizes : List PlanD → Nat
 | [] => 0
 | e :: l => psize e + psizes l
end
theorem psize_eq (p : PlanD) : psize p = 1 + p.rel.size + p.name.size + esizes p.args + tsizes p.aggs + psizes p.ins := by cases p; simp only [psize, PlanD.ins, PlanD.aggs, PlanD.rel, PlanD.name, PlanD.args]
theorem psizes_map : ∀ l : List PlanD, psizes l = (l.map psize).sum
 | [] => rfl
 | e :: l => by simp only [psizes, List.map_cons, List.sum_cons, psizes_map l]
theorem psizes_append (a b : List PlanD) : psizes (a ++ b) = psizes a + psizes b := by simp [psizes_map]
theorem psizes_len : ∀ l : List PlanD, l.length ≤ psizes l
 | [] => by simp [psizes]
 | e :: l => by have := psizes_len l; have := psize_eq e; simp only [psizes, List.length_cons]; omega
theorem psizes_snoc (l : List PlanD) (i : Nat) (h : i < l.length) : psizes (l.take (i + 1)) = psizes (l.take i) + psize l[i] := by
 rw [List.take_succ_eq_append_getElem h, psizes_append]; simp [psizes]
theorem psizes_take_le (l : List PlanD) (i : Nat) : psizes (l.take i) ≤ psizes l := by
 have := psizes_append (l.take i) (l.drop i)
 rw [List.take_append_drop] at this; omega
theorem psize_mem {e : PlanD} : ∀ {l : List PlanD}, e ∈ l → psize e ≤ psizes l
 | x :: l, h => by
  simp only [psizes]
  rcases List.mem_cons.1 h with rfl | h
  ·omega
  ·have := psize_mem h; omega
-- how deep
mutual
def depthE : ExprD → Nat
 | .mk _ _ _ _ _ args => depthsE args + 1
def depthsE : List ExprD → Nat
 | [] => 0
 | e :: l => max (depthE e) (depthsE l)
end
theorem depthE_eq (e : ExprD) : depthE e = depthsE e.args + 1 := by cases e; simp only [depthE, ExprD.args]
theorem depthsE_append (a b : List ExprD) : depthsE (a ++ b) = max (depthsE a) (depthsE b) := by
 induction a with
 | nil => simp [depthsE]
 | cons x a ih => simp only [List.cons_append, depthsE, ih]; omega
theorem depthsE_take (l : List ExprD) (k : Nat) (h : k < l.length) : depthsE (l.take (k + 1)) = max (depthsE (l.take k)) (depthE l[k]) := by
 rw [List.take_succ_eq_append_getElem h, depthsE_append]; simp [depthsE]
mutual
theorem depthE_le : ∀ e : ExprD, depthE e ≤ esize e
 | .mk _ _ _ _ _ l => by have := depthsE_le l; simp only [depthE, esize]; omega
theorem depthsE_le : ∀ l : List ExprD, depthsE l ≤ esizes l
 | [] => by simp [depthsE]
 | e :: l => by have := depthE_le e; have := depthsE_le l; simp only [depthsE, esizes]; omega
end
mutual
def depthP : PlanD → Nat
 | .mk _ _ _ _ _ ins => depthsP ins + 1
def depthsP : List PlanD → Nat
 | [] => 0
 | e :: l => max (depthP e) (depthsP l)
end
theorem depthP_eq (e : PlanD) : depthP e = depthsP e.ins + 1 := by cases e; simp only [depthP, PlanD.ins]
theorem depthsP_append (a b : List PlanD) : depthsP (a ++ b) = max (depthsP a) (depthsP b) := by
 induction a with
 | nil => simp [depthsP]
 | cons x a ih => simp only [List.cons_append, depthsP, ih]; omega
theorem depthsP_take (l : List PlanD) (k : Nat) (h : k < l.length) : depthsP (l.take (k + 1)) = max (depthsP (l.take k)) (depthP l[k]) := by
 rw [List.take_succ_eq_append_getElem h, depthsP_append]; simp [depthsP]
mutual
theorem depthP_le : ∀ e : PlanD, depthP e ≤ psize e
 | .mk _ _ _ _ _ l => by have := depthsP_le l; simp only [depthP, psize]; omega
theorem depthsP_le : ∀ l : List PlanD, depthsP l ≤ psizes l
 | [] => by simp [depthsP]
 | e :: l => by have := depthP_le e; have := depthsP_le l; simp only [depthsP, psizes]; omega
end
-- the program asks whether a plan is too deep from above
mutual
def deepP : PlanD → Nat → Bool
 | .mk _ _ _ _ _ ins, n => decide (64 < n) || deepsP ins (n + 1)
def deepsP : List PlanD → Nat → Bool
 | [], _ => false
 | p :: l, n => deepP p n || deepsP l n
end
theorem deepP_eq (p : PlanD) (n : Nat) : deepP p n = (decide (64 < n) || deepsP p.ins (n + 1)) := by cases p; simp only [deepP, PlanD.ins]
theorem deepsP_any : ∀ (l : List PlanD) (n : Nat), deepsP l n = l.any fun p => deepP p n
 | [], n => rfl
 | p :: l, n => by rw [deepsP, List.any_cons, deepsP_any l n]
theorem depthP_pos (p : PlanD) : 1 ≤ depthP p := by rw [depthP_eq]; omega
mutual
theorem deepP_iff : ∀ (p : PlanD) (n : Nat), n ≤ 65 → (deepP p n = true ↔ 65 < n + depthP p)
 | .mk _ _ _ _ _ l, n, h => by
  simp only [deepP, depthP, Bool.or_eq_true, decide_eq_true_eq]
  by_cases hn : 64 < n
  ·constructor
   ·intro _; omega
   ·intro _; exact .inl hn
  ·rw [deepsP_iff l (n + 1) (by omega)]
   omega
theorem deepsP_iff : ∀ (l : List PlanD) (n : Nat), n ≤ 65 → (deepsP l n = true ↔ 65 < n + depthsP l)
 | [], n, h => by
  simp only [deepsP, depthsP]
  constructor
  ·intro h'; cases h'
  ·intro h'; omega
 | q :: l, n, h => by
  simp only [deepsP, depthsP, Bool.or_eq_true]
  rw [deepP_iff q n h, deepsP_iff l n h]
  omega
end
theorem deep_same (p : PlanD) : deepP p 1 = decide (64 < depthP p) := by
 rw [Bool.eq_iff_iff, deepP_iff p 1 (by omega), decide_eq_true_eq]
 omega
end Go.Al
end
section
namespace Go.Al
open Go.Aw Go
def words : List ByteArray := [⟨#[109, 111, 100, 117, 108, 101]⟩, ⟨#[105, 109, 112, 111, 114, 116]⟩, ⟨#[112, 117, 98]⟩, ⟨#[116, 121, 112, 101]⟩, ⟨#[105, 110, 112, 117, 116]⟩, ⟨#[114, 101, 108]⟩, ⟨#[110, 101, 118, 101, 114]⟩, ⟨#[110, 111, 116]⟩, ⟨#[97, 110, 100]⟩, ⟨#[111, 114]⟩, ⟨#[105, 102]⟩, ⟨#[116, 104, 101, 110]⟩, ⟨#[101, 108, 115, 101]⟩, ⟨#[116, 114, 117, 101]⟩, ⟨#[102, 97, 108, 115, 101]⟩, ⟨#[99, 111, 117, 110, 116]⟩, ⟨#[115, 117, 109]⟩, ⟨#[109, 105, 110]⟩, ⟨#[109, 97, 120]⟩, ⟨#[110, 101, 103]⟩, ⟨#[108, 101, 110]⟩, ⟨#[98, 105, 103]⟩, ⟨#[105, 110, 116]⟩, ⟨#[98, 111, 111, 108]⟩, ⟨#[116, 101, 120, 116]⟩, ⟨#[116, 117, 112, 108, 101]⟩]
def ops : List ByteArray := [⟨#[43]⟩, ⟨#[45]⟩, ⟨#[42]⟩, ⟨#[47]⟩, ⟨#[37]⟩, ⟨#[43, 43]⟩, ⟨#[61, 61]⟩, ⟨#[33, 61]⟩, ⟨#[60]⟩, ⟨#[60, 61]⟩, ⟨#[62]⟩, ⟨#[62, 61]⟩, ⟨#[97, 110, 100]⟩, ⟨#[111, 114]⟩]
def isOp (s : ByteArray) : Bool := ops.any fun o => decide (o = s)
def reserved (s : ByteArray) : Bool := words.any fun w => decide (w = s)
def tNot : ByteArray := ⟨#[110, 111, 116]⟩
def tNeg : ByteArray := ⟨#[110, 101, 103]⟩
def tLen : ByteArray := ⟨#[108, 101, 110]⟩
def tBig : ByteArray := ⟨#[98, 105, 103]⟩
def tInt : ByteArray := ⟨#[105, 110, 116]⟩
def function (s : ByteArray) : Bool := decide (s = tNeg) || decide (s = tLen) || decide (s = tBig) || decide (s = tInt)
def arity (s : ByteArray) : Int := if isOp s = true then 2 else if (decide (s = tNot) || function s) = true then 1 else 0
def nameR (s : ByteArray) : Bool := Name s && !reserved s
def long (s : ByteArray) : Bool := if dotFrom s 0 < s.size then nameR (s.extract 0 (dotFrom s 0)) && nameR (s.extract (dotFrom s 0 + 1) s.size) else nameR s
def upB (c : Int) : Bool := decide (65 ≤ c) && decide (c ≤ 90)
def varB (s : ByteArray) : Bool := !decide (s = ⟨#[]⟩) && decide (s.size ≤ 32) && upB (chr s 0) && allFrom nameB s 0
def noneV (v : ValD) : Bool := decide (v.kind = 0) && decide (v.n = 0) && decide (v.s = ⟨#[]⟩) && decide (v.l.length = 0)
def goodOwn (e : ExprD) (pat : Bool) : Bool :=
 if e.kind = 1 then decide (1 ≤ e.v.kind) && decide (e.v.kind ≤ 4) && decide (Check e.v = 0) && decide (e.args.length = 0) && decide (e.name = ⟨#[]⟩)
 else if e.kind = 2 then varB e.name && decide (e.args.length = 0)
 else if e.kind = 3 then pat && decide (e.name = ⟨#[]⟩) && decide (e.args.length = 0)
 else if e.kind = 4 then decide (e.name = ⟨#[]⟩) && !decide (e.args.length = 1) && decide (e.args.length ≤ 16)
 else if e.kind = 5 then long e.name && decide (e.args.length ≤ 8)
 else if e.kind = 6 then !pat && decide (0 < arity e.name) && decide ((e.args.length : Int) = arity e.name)
 else if e.kind = 7 then !pat && nameR e.name && decide (e.args.length = 1)
 else if e.kind = 8 then !pat && decide (e.name = ⟨#[]⟩) && decide (e.args.length = 3)
 else false
mutual
def good (pat : Bool) : ExprD → Bool
 | .mk kind line col name v args => goodOwn (.mk kind line col name v args) pat && (decide (kind = 1) || noneV v) && goods pat args
def goods (pat : Bool) : List ExprD → Bool
 | [] => true
 | e :: l => good pat e && goods pat l
end
theorem good_eq (pat : Bool) (e : ExprD) : good pat e = (goodOwn e pat && (decide (e.kind = 1) || noneV e.v) && goods pat e.args) := by cases e; rw [good]; rfl
theorem goods_drop (pat : Bool) (l : List ExprD) (k : Nat) (h : k < l.length) : goods pat (l.drop k) = (good pat l[k] && goods pat (l.drop (k + 1))) := by rw [List.drop_eq_getElem_cons h, goods]
theorem goods_all (pat : Bool) : ∀ l, goods pat l = l.all (good pat)
 | [] => rfl
 | e :: l => by rw [goods, List.all_cons, goods_all pat l]
/-- as a whole -/
def may (pat : Bool) (e : ExprD) : Bool := decide (depthE e ≤ 64) && good pat e
-- the program looks for a name in one text of all words
def tResv : ByteArray := ⟨#[32, 109, 111, 100, 117, 108, 101, 32, 105, 109, 112, 111, 114, 116, 32, 112, 117, 98, 32, 116, 121, 112, 101, 32, 105, 110, 112, 117, 116, 32, 114, 101, 108, 32, 110, 101, 118, 101, 114, 32, 110, 111, 116, 32, 97, 110, 100, 32, 111, 114, 32, 105, 102, 32, 116, 104, 101, 110, 32, 101, 108, 115, 101, 32, 116, 114, 117, 101, 32, 102, 97, 108, 115, 101, 32, 99, 111, 117, 110, 116, 32, 115, 117, 109, 32, 109, 105, 110, 32, 109, 97, 120, 32, 110, 101, 103, 32, 108, 101, 110, 32, 98, 105, 103, 32, 105, 110, 116, 32, 98, 111, 111, 108, 32, 116, 101, 120, 116, 32, 116, 117, 112, 108, 101, 32]⟩
def fields : List UInt8 → List UInt8 → List (List UInt8)
 | [], cur => [cur.reverse]
 | c :: l, cur => if c = 32 then cur.reverse :: fields l [] else fields l (c :: cur)
theorem fields_word (s post : List UInt8) (hs : (32 : UInt8) ∉ s) : ∀ cur, fields (s ++ 32 :: post) cur = (cur.reverse ++ s) :: fields post [] := by
 induction s with
 | nil => intro cur; simp [fields]
 | cons c s ih =>
  intro cur
  have hc : c ≠ 32 := fun e => hs (by simp [e])
  have h2 : (32 : UInt8) ∉ s := fun h => hs (List.mem_cons_of_mem _ h)
  rw [List.cons_append, fields, if_neg hc, ih h2]
  simp
theorem fields_pre (pre rest : List UInt8) : ∀ cur, ∃ xs, fields (pre ++ 32 :: rest) cur = xs ++ fields rest [] := by
 induction pre with
 | nil => intro cur; exact ⟨[cur.reverse], by simp [fields]⟩
 | cons c pre ih =>
  intro cur
  rw [List.cons_append, fields]
  split
  ·obtain ⟨xs, hx⟩ := ih []
   exact ⟨cur.reverse :: xs, by rw [hx]; rfl⟩
  ·exact ih (c :: cur)
theorem fields_mem (pre s post R : List UInt8) (hs : (32 : UInt8) ∉ s) (h : R = pre ++ 32 :: (s ++ 32 :: post)) : s ∈ fields R [] := by
 obtain ⟨xs, hx⟩ := fields_pre pre (s ++ 32 :: post) []
 rw [h, hx, fields_word s post hs]
 simp
theorem fields_resv : fields (bl tResv) [] = [] :: (words.map bl ++ [[]]) := by decide +kernel
end Go.Al
end
section
namespace Go.Al
open Go.Aw Go
def hexD : List UInt8 := [48, 49, 50, 51, 52, 53, 54, 55, 56, 57, 97, 98, 99, 100, 101, 102]
def quoteC (c : UInt8) : List UInt8 :=
 if c = 34 ∨ c = 92 then [92, c] else if c = 10 then [92, 110] else if c = 9 then [92, 116] else if 32 ≤ c.toNat ∧ c.toNat ≤ 126 then [c]
 else [92, 120, hexD.getD (c.toNat / 16) 0, hexD.getD (c.toNat % 16) 0]
def quoteB (l : List UInt8) : List UInt8 := 34 :: (l.flatMap quoteC ++ [34])
/-- a value's text: of bools, numbers and texts -/
def txtV (v : ValD) : List UInt8 :=
 if v.kind = 1 then Lib.formatBool (decide (v.n = 1)) else if v.kind = 2 then Lib.itoa v.n else if v.kind = 3 then bl v.s ++ [98] else quoteB (bl v.s)
def joinT (sep : List UInt8) : List (List UInt8) → List UInt8
 | [] => []
 | x :: l => x ++ l.flatMap (fun y => sep ++ y)
def brackT (l : List (List UInt8)) : List UInt8 := 40 :: (joinT [44, 32] l ++ [41])
def callT (name : ByteArray) (l : List (List UInt8)) : List UInt8 :=
 if function name = true then bl name ++ brackT l
 else if l.length = 1 then [40] ++ bl name ++ [32] ++ l.headD [] ++ [41]
 else 40 :: (joinT ([32] ++ bl name ++ [32]) l ++ [41])
def shutE (e : ExprD) : Bool := decide (e.kind = 1) || decide (e.kind = 5) || (decide (e.kind = 6) && function e.name)
def ifT : List (List UInt8) := [[40, 105, 102, 32], [32, 116, 104, 101, 110, 32], [32, 101, 108, 115, 101, 32]]
mutual
def txtE : ExprD → List UInt8
 | .mk kind _ _ name v args =>
  if kind = 1 then txtV v else if kind = 2 then bl name else if kind = 3 then [95] else if kind = 4 then brackT (txtEs args)
  else if kind = 5 then (if args.length = 0 then bl name else bl name ++ brackT (txtEs args)) else if kind = 6 then callT name (txtEs args)
  else if kind = 7 then (if (args.head?.map shutE).getD false = true then brackT (txtEs args) else (txtEs args).headD []) ++ ([46] ++ bl name)
  else if kind = 8 then ((ifT.zip (txtEs args)).flatMap fun (p : List UInt8 × List UInt8) => p.1 ++ p.2) ++ [41] else []
def txtEs : List ExprD → List (List UInt8)
 | [] => []
 | e :: l => txtE e :: txtEs l
end
theorem txtEs_map : ∀ l, txtEs l = l.map txtE
 | [] => rfl
 | e :: l => by rw [txtEs, List.map_cons, txtEs_map l]
theorem txtE_eq (e : ExprD) : txtE e = if e.kind = 1 then txtV e.v else if e.kind = 2 then bl e.name else if e.kind = 3 then [95] else if e.kind = 4 then brackT (e.args.map txtE)
  else if e.kind = 5 then (if e.args.length = 0 then bl e.name else bl e.name ++ brackT (e.args.map txtE)) else if e.kind = 6 then callT e.name (e.args.map txtE)
  else if e.kind = 7 then (if (e.args.head?.map shutE).getD false = true then brackT (e.args.map txtE) else (e.args.map txtE).headD []) ++ ([46] ++ bl e.name)
  else if e.kind = 8 then ((ifT.zip (e.args.map txtE)).flatMap fun (p : List UInt8 × List UInt8) => p.1 ++ p.2) ++ [41] else [] := by
 cases e; rw [txtE, txtEs_map]; rfl
-- numbers in reach of 64 bits
def rangeV (v : ValD) : Prop := -9223372036854775808 ≤ v.n ∧ v.n ≤ 9223372036854775807
mutual
def rangeE : ExprD → Prop
 | .mk _ _ _ _ v args => rangeV v ∧ rangeEs args
def rangeEs : List ExprD → Prop
 | [] => True
 | e :: l => rangeE e ∧ rangeEs l
end
theorem rangeE_eq (e : ExprD) : rangeE e ↔ (rangeV e.v ∧ rangeEs e.args) := by cases e; rw [rangeE]; rfl
theorem rangeEs_mem : ∀ {l : List ExprD}, rangeEs l → ∀ e ∈ l, rangeE e
 | x :: l, h, e, he => by
  rw [rangeEs] at h
  rcases List.mem_cons.1 he with rfl | he
  ·exact h.1
  ·exact rangeEs_mem h.2 e he
-- how long
theorem quoteC_len (c : UInt8) : (quoteC c).length ≤ 4 := by
 unfold quoteC; repeat' split
 all_goals simp
theorem quoteB_len (l : List UInt8) : (quoteB l).length ≤ 4 * l.length + 2 := by
 have : (l.flatMap quoteC).length ≤ 4 * l.length := by
  induction l with
  | nil => simp
  | cons c l ih => have := quoteC_len c; simp only [List.flatMap_cons, List.length_append, List.length_cons]; omega
 simp only [quoteB, List.length_cons, List.length_append, List.length_nil]; omega
theorem txtV_len (v : ValD) (h : rangeV v) : (txtV v).length ≤ 32 * vsize v := by
 have hs := vsize_eq v
 have hb := bl_len v.s
 unfold txtV
 split
 ·have : (Lib.formatBool (decide (v.n = 1))).length ≤ 5 := by cases decide (v.n = 1) <;> decide
  omega
 ·split
  ·have := Lib.itoa_length_le v.n h.1 h.2; omega
  ·split
   ·simp only [List.length_append, List.length_cons, List.length_nil]; omega
   ·have := quoteB_len (bl v.s); omega
def sumL (l : List (List UInt8)) : Nat := (l.map List.length).sum
theorem joinT_len (sep : List UInt8) (l : List (List UInt8)) : (joinT sep l).length ≤ sumL l + sep.length * l.length := by
 cases l with
 | nil => simp [joinT]
 | cons x l =>
  have : (l.flatMap fun y => sep ++ y).length = sumL l + sep.length * l.length := by
   induction l with
   | nil => simp [sumL]
   | cons y l ih => simp only [List.flatMap_cons, List.length_append, sumL, List.map_cons, List.sum_cons, List.length_cons, Nat.mul_add] at ih ⊢; omega
  simp only [joinT, List.length_append, this, sumL, List.map_cons, List.sum_cons, List.length_cons, Nat.mul_add]; omega
theorem brackT_len (l : List (List UInt8)) : (brackT l).length ≤ sumL l + 2 * l.length + 2 := by
 have := joinT_len [44, 32] l
 simp only [brackT, List.length_cons, List.length_append, List.length_nil] at this ⊢; omega
theorem callT_len (name : ByteArray) (l : List (List UInt8)) (h : l.length ≤ 2) : (callT name l).length ≤ sumL l + 2 * name.size + 16 := by
 have hb := bl_len name
 unfold callT
 split
 ·have := brackT_len l; simp only [List.length_append]; omega
 ·split
  ·cases l with
   | nil => simp at *
   | cons x l => simp [sumL] at *; omega
  ·have := joinT_len ([32] ++ bl name ++ [32]) l
   have h2 : ([32] ++ bl name ++ [32]).length * l.length ≤ ([32] ++ bl name ++ [32]).length * 2 := Nat.mul_le_mul_left _ h
   simp only [List.length_cons, List.length_append, List.length_nil] at this h2 ⊢; omega
theorem zip_len (l : List (List UInt8)) : (((ifT.zip l).flatMap fun (p : List UInt8 × List UInt8) => p.1 ++ p.2) ++ [41]).length ≤ sumL l + 20 := by
 match l with
 | [] => simp [ifT]
 | [a] => simp [ifT, sumL]
 | [a, b] => simp [ifT, sumL]; omega
 | a :: b :: c :: r => simp [ifT, sumL]; omega
theorem head_len (l : List (List UInt8)) : (l.headD []).length ≤ sumL l := by
 cases l with
 | nil => simp
 | cons x l => simp [sumL]
theorem good_arity {pat : Bool} {e : ExprD} (h : good pat e = true) (hk : e.kind = 6) : e.args.length ≤ 2 := by
 rw [good_eq] at h
 simp only [Bool.and_eq_true] at h
 have h1 := h.1.1
 unfold goodOwn at h1
 rw [if_neg (by omega), if_neg (by omega), if_neg (by omega), if_neg (by omega), if_neg (by omega), if_pos hk] at h1
 simp only [Bool.and_eq_true, decide_eq_true_eq] at h1
 have ha : arity e.name ≤ 2 := by unfold arity; split; omega; split <;> omega
 omega
mutual
theorem txtE_len (pat : Bool) : ∀ e : ExprD, good pat e = true → rangeE e → (txtE e).length + 3 ≤ 36 * esize e
 | .mk kind line col name v args, hg, hr => by
  have hgs : goods pat args = true := by rw [good_eq] at hg; simp only [Bool.and_eq_true] at hg; exact hg.2
  have har : kind = 6 → args.length ≤ 2 := fun hk => good_arity hg hk
  rw [rangeE] at hr
  have h1 := txtV_len v hr.1
  have h2 := txtEs_len pat args hgs hr.2
  have hb := bl_len name
  have hl : (txtEs args).length = args.length := by rw [txtEs_map]; simp
  have h3 := brackT_len (txtEs args)
  rw [txtE, esize]
  by_cases k1 : kind = 1
  ·rw [if_pos k1]; omega
  rw [if_neg k1]
  by_cases k2 : kind = 2
  ·rw [if_pos k2]; omega
  rw [if_neg k2]
  by_cases k3 : kind = 3
  ·rw [if_pos k3]; simp; omega
  rw [if_neg k3]
  by_cases k4 : kind = 4
  ·rw [if_pos k4]; omega
  rw [if_neg k4]
  by_cases k5 : kind = 5
  ·rw [if_pos k5]
   by_cases k : args.length = 0
   ·rw [if_pos k]; omega
   ·rw [if_neg k]; simp only [List.length_append]; omega
  rw [if_neg k5]
  by_cases k6 : kind = 6
  ·rw [if_pos k6]
   have := callT_len name (txtEs args) (by rw [hl]; exact har k6)
   omega
  rw [if_neg k6]
  by_cases k7 : kind = 7
  ·rw [if_pos k7]
   have hh := head_len (txtEs args)
   simp only [List.length_append, List.length_cons, List.length_nil]
   by_cases k : (args.head?.map shutE).getD false = true
   ·rw [if_pos k]; omega
   ·rw [if_neg k]; omega
  rw [if_neg k7]
  by_cases k8 : kind = 8
  ·rw [if_pos k8]
   have := zip_len (txtEs args); omega
  rw [if_neg k8]
  simp; omega
theorem txtEs_len (pat : Bool) : ∀ l : List ExprD, goods pat l = true → rangeEs l → sumL (txtEs l) + 3 * l.length ≤ 36 * esizes l
 | [], _, _ => by simp [txtEs, sumL]
 | e :: l, hg, hr => by
  simp only [goods, Bool.and_eq_true] at hg
  rw [rangeEs] at hr
  have h1 := txtE_len pat e hg.1 hr.1
  have h2 := txtEs_len pat l hg.2 hr.2
  simp only [txtEs, sumL, List.map_cons, List.sum_cons, esizes, List.length_cons] at h2 ⊢
  omega
end
end Go.Al
end
section
namespace Go.Al
open Go.Aw Go
theorem contains_iff (R sub : List UInt8) : Lib.contains R sub = true ↔ ∃ pre post, R = pre ++ (sub ++ post) := by
 unfold Lib.contains
 rw [decide_eq_true_eq]
 rcases Lib.index_spec R sub with ⟨h1, h2⟩ | ⟨i, h1, h2, h3⟩
 ·constructor
  ·intro h; omega
  ·rintro ⟨pre, post, rfl⟩
   have := h2 pre.length (by simp)
   simp [Lib.occAt] at this
   rw [List.isPrefixOf_iff_prefix.2 ⟨post, rfl⟩] at this
   cases this
 ·constructor
  ·intro _
   have ho : sub.isPrefixOf (R.drop i) = true := by
    first | exact h3.1 | exact h3
   obtain ⟨post, hp⟩ := List.isPrefixOf_iff_prefix.1 ho
   exact ⟨R.take i, post, by rw [hp, List.take_append_drop]⟩
  ·intro _; omega
theorem no_blank {s : ByteArray} (h : allFrom nameB s 0 = true) : (32 : UInt8) ∉ bl s := by
 intro hm
 unfold allFrom at h
 rw [List.drop_zero, List.all_eq_true] at h
 have := h 32 hm
 revert this
 decide
theorem reserved_iff (s : ByteArray) : reserved s = true ↔ bl s ∈ words.map bl := by
 simp only [reserved, List.any_eq_true, decide_eq_true_eq, List.mem_map]
 constructor
 ·rintro ⟨w, h, rfl⟩; exact ⟨w, h, rfl⟩
 ·rintro ⟨w, h, e⟩; exact ⟨w, h, bl_inj e⟩
theorem words_in : (words.all fun w => Lib.contains (bl tResv) (32 :: (bl w ++ [32]))) = true := by decide +kernel
theorem contains_resv (s : ByteArray) (h0 : 0 < s.size) (h : allFrom nameB s 0 = true) : Lib.contains (bl tResv) (32 :: (bl s ++ [32])) = reserved s := by
 rw [Bool.eq_iff_iff, reserved_iff]
 constructor
 ·intro hc
  obtain ⟨pre, post, he⟩ := (contains_iff _ _).1 hc
  have hm := fields_mem pre (bl s) post (bl tResv) (no_blank h) (by rw [he]; simp)
  rw [fields_resv] at hm
  have hne : bl s ≠ [] := by intro e; have := bl_len s; rw [e] at this; simp at this; omega
  simpa [hne] using hm
 ·intro hm
  obtain ⟨w, hw, e⟩ := List.mem_map.1 hm
  have := List.all_eq_true.1 words_in w hw
  rw [e] at this; exact this
theorem bl_padded (s : ByteArray) : bl (⟨#[32]⟩ ++ s ++ ⟨#[32]⟩) = 32 :: (bl s ++ [32]) := by
 unfold bl
 simp [ByteArray.data_append]
def restB (s : ByteArray) : Bool := allFrom nameB s 0 && decide (s.size ≤ 32)
theorem nameR_prog (s : ByteArray) : (!decide (s = ⟨#[]⟩) && letterB (chr s 0) && restB s && !Lib.contains (bl tResv) (bl (⟨#[32]⟩ ++ s ++ ⟨#[32]⟩))) = nameR s := by
 unfold nameR Name restB
 rw [bl_padded]
 by_cases h0 : s = ⟨#[]⟩
 ·simp [h0]
 ·cases h1 : allFrom nameB s 0
  ·simp
  ·rw [contains_resv s (size_pos h0) h1]
   generalize decide (s = ⟨#[]⟩) = a1; generalize letterB (chr s 0) = a2; generalize decide (s.size ≤ 32) = a3; generalize reserved s = a4
   revert a1 a2 a3 a4
   decide
theorem var_prog (s : ByteArray) : (!decide (s = ⟨#[]⟩) && upB (chr s 0) && restB s) = varB s := by
 unfold varB restB
 generalize decide (s = ⟨#[]⟩) = a1; generalize upB (chr s 0) = a2; generalize decide (s.size ≤ 32) = a3; generalize allFrom nameB s 0 = a4
 revert a1 a2 a3 a4
 decide
end Go.Al
end
section
namespace Go.Al
open Go.Aw Go
def has (l : List ByteArray) (s : ByteArray) : Bool := l.any fun w => decide (w = s)
def add (l : List ByteArray) (s : ByteArray) : List ByteArray := if has l s = true then l else l ++ [s]
def addAll (l m : List ByteArray) : List ByteArray := m.foldl add l
theorem has_iff (l : List ByteArray) (s : ByteArray) : has l s = true ↔ s ∈ l := by
 simp only [has, List.any_eq_true, decide_eq_true_eq]
 constructor
 ·rintro ⟨w, h, rfl⟩; exact h
 ·intro h; exact ⟨s, h, rfl⟩
theorem mem_add (l : List ByteArray) (s x : ByteArray) : x ∈ add l s ↔ x ∈ l ∨ x = s := by
 unfold add
 split
 ·next h =>
  rw [has_iff] at h
  constructor
  ·exact Or.inl
  ·rintro (h' | rfl)
   ·exact h'
   ·exact h
 ·simp
theorem mem_addAll (m : List ByteArray) : ∀ (l : List ByteArray) (x : ByteArray), x ∈ addAll l m ↔ x ∈ l ∨ x ∈ m := by
 induction m with
 | nil => intro l x; simp [addAll]
 | cons a m ih =>
  intro l x
  show x ∈ addAll (add l a) m ↔ _
  rw [ih, mem_add, List.mem_cons, or_assoc]
theorem addAll_append (l a b : List ByteArray) : addAll l (a ++ b) = addAll (addAll l a) b := by simp [addAll, List.foldl_append]
/-- to add what was added to nothing is to add it -/
theorem addAll_addAll (m : List ByteArray) : ∀ (l k : List ByteArray), addAll l (addAll k m) = addAll (addAll l k) m := by
 induction m with
 | nil => intro l k; rfl
 | cons a m ih =>
  intro l k
  show addAll l (addAll (add k a) m) = addAll (add (addAll l k) a) m
  rw [ih]
  congr 1
  by_cases h : a ∈ k
  ·have h1 : has k a = true := (has_iff _ _).2 h
   have h2 : has (addAll l k) a = true := (has_iff _ _).2 ((mem_addAll _ _ _).2 (.inr h))
   unfold add
   rw [if_pos h1, if_pos h2]
  ·have h1 : has k a = false := by
    cases hh : has k a
    ·rfl
    ·exact absurd ((has_iff _ _).1 hh) h
   have e : add k a = k ++ [a] := by unfold add; rw [h1]; rfl
   rw [e, addAll_append]; rfl
theorem addAll_nil (m : List ByteArray) (l : List ByteArray) : addAll l (addAll [] m) = addAll l m := by rw [addAll_addAll]; rfl
def distinct (l : List ByteArray) : Prop := l.Nodup
theorem add_nodup {l : List ByteArray} (s : ByteArray) (h : l.Nodup) : (add l s).Nodup := by
 unfold add
 split
 ·exact h
 ·next hn =>
  rw [List.nodup_append]
  refine ⟨h, by simp, ?_⟩
  intro a ha b hb e
  have : b = s := by simpa using hb
  subst this; subst e
  exact hn ((has_iff _ _).2 ha)
theorem addAll_nodup (m : List ByteArray) : ∀ {l : List ByteArray}, l.Nodup → (addAll l m).Nodup := by
 induction m with
 | nil => intro l h; exact h
 | cons a m ih => intro l h; exact ih (add_nodup a h)
/-- of distinct ones: those that are not there, one behind the other -/
theorem addAll_filter : ∀ (m l : List ByteArray), m.Nodup → addAll l m = l ++ m.filter fun s => !has l s := by
 intro m
 induction m with
 | nil => intro l _; simp [addAll]
 | cons a m ih =>
  intro l h
  rw [List.nodup_cons] at h
  show addAll (add l a) m = _
  rw [ih _ h.2]
  have hf : (m.filter fun s => !has (add l a) s) = m.filter fun s => !has l s := by
   refine List.filter_congr fun x hx => ?_
   have hxa : x ≠ a := fun e => h.1 (e ▸ hx)
   have : has (add l a) x = has l x := by
    rw [Bool.eq_iff_iff, has_iff, has_iff, mem_add]
    simp [hxa]
   rw [this]
  rw [hf, List.filter_cons]
  by_cases hl : has l a = true
  ·have e : add l a = l := by unfold add; rw [if_pos hl]
   rw [e, hl]; simp
  ·have e : add l a = l ++ [a] := by unfold add; rw [if_neg hl]
   have hl' : has l a = false := by simpa using hl
   rw [e, hl']; simp
-- the variables
mutual
def varsD (acc : List ByteArray) : ExprD → List ByteArray
 | .mk kind _ _ name _ args => if kind = 2 then add acc name else varsDs acc args
def varsDs (acc : List ByteArray) : List ExprD → List ByteArray
 | [] => acc
 | e :: l => varsDs (varsD acc e) l
end
mutual
def varsP (acc : List ByteArray) : ExprD → List ByteArray
 | .mk kind _ _ name _ args => addAll (if kind = 2 then add acc name else acc) (varsPs [] args)
def varsPs (acc : List ByteArray) : List ExprD → List ByteArray
 | [] => acc
 | e :: l => varsPs (varsP acc e) l
end
theorem varsD_eq (acc : List ByteArray) (e : ExprD) : varsD acc e = if e.kind = 2 then add acc e.name else varsDs acc e.args := by cases e; rw [varsD]; rfl
theorem varsP_eq (acc : List ByteArray) (e : ExprD) : varsP acc e = addAll (if e.kind = 2 then add acc e.name else acc) (varsPs [] e.args) := by cases e; rw [varsP]; rfl
theorem varsDs_drop (acc : List ByteArray) (l : List ExprD) (k : Nat) (h : k < l.length) : varsDs acc (l.take (k + 1)) = varsD (varsDs acc (l.take k)) l[k] := by
 have app : ∀ (a b : List ExprD) (acc : List ByteArray), varsDs acc (a ++ b) = varsDs (varsDs acc a) b := by
  intro a
  induction a with
  | nil => intro b acc; rfl
  | cons x a ih => intro b acc; simp only [List.cons_append, varsDs, ih]
 rw [List.take_succ_eq_append_getElem h, app]; rfl
theorem varsPs_take (acc : List ByteArray) (l : List ExprD) (k : Nat) (h : k < l.length) : varsPs acc (l.take (k + 1)) = varsP (varsPs acc (l.take k)) l[k] := by
 have app : ∀ (a b : List ExprD) (acc : List ByteArray), varsPs acc (a ++ b) = varsPs (varsPs acc a) b := by
  intro a
  induction a with
  | nil => intro b acc; rfl
  | cons x a ih => intro b acc; simp only [List.cons_append, varsPs, ih]
 rw [List.take_succ_eq_append_getElem h, app]; rfl
-- the names as they stand
mutual
def occ : ExprD → List ByteArray
 | .mk kind _ _ name _ args => if kind = 2 then [name] else occs args
def occs : List ExprD → List ByteArray
 | [] => []
 | e :: l => occ e ++ occs l
end
mutual
theorem varsD_occ : ∀ (e : ExprD) (acc : List ByteArray), varsD acc e = addAll acc (occ e)
 | .mk kind _ _ name _ args, acc => by
  simp only [varsD, occ]
  split
  ·rfl
  ·exact varsDs_occ args acc
theorem varsDs_occ : ∀ (l : List ExprD) (acc : List ByteArray), varsDs acc l = addAll acc (occs l)
 | [], acc => rfl
 | e :: l, acc => by simp only [varsDs, occs, addAll_append, varsD_occ e acc, varsDs_occ l]
end
theorem good_var {pat : Bool} {e : ExprD} (h : good pat e = true) (hk : e.kind = 2) : e.args = [] := by
 rw [good_eq] at h
 simp only [Bool.and_eq_true] at h
 have h1 := h.1.1
 unfold goodOwn at h1
 rw [if_neg (by omega), if_pos hk] at h1
 simp only [Bool.and_eq_true, decide_eq_true_eq] at h1
 exact List.eq_nil_of_length_eq_zero h1.2
mutual
theorem varsP_occ (pat : Bool) : ∀ (e : ExprD) (acc : List ByteArray), good pat e = true → varsP acc e = addAll acc (occ e)
 | .mk kind line col name v args, acc, h => by
  have hv : kind = 2 → args = [] := fun hk => good_var h hk
  have hg : goods pat args = true := by
   rw [good_eq] at h
   simp only [Bool.and_eq_true] at h
   exact h.2
  simp only [varsP, occ]
  by_cases hk : kind = 2
  ·rw [if_pos hk, if_pos hk, hv hk]; rfl
  ·rw [if_neg hk, if_neg hk, varsPs_occ pat args [] hg, addAll_nil]
theorem varsPs_occ (pat : Bool) : ∀ (l : List ExprD) (acc : List ByteArray), goods pat l = true → varsPs acc l = addAll acc (occs l)
 | [], acc, _ => rfl
 | e :: l, acc, h => by
  simp only [goods, Bool.and_eq_true] at h
  simp only [varsPs, occs, addAll_append, varsP_occ pat e acc h.1, varsPs_occ pat l _ h.2]
end
theorem vars_same (pat : Bool) (l : List ExprD) (h : goods pat l = true) : varsPs [] l = varsDs [] l := by rw [varsPs_occ pat l [] h, varsDs_occ]
theorem varsDs_nodup (l : List ExprD) : (varsDs [] l).Nodup := by rw [varsDs_occ]; exact addAll_nodup _ List.nodup_nil
-- shapes
structure ShapeD where
 names : List ByteArray
 bare : Bool
 width : Int
def zeroS : ShapeD := ⟨[], false, 0⟩
def tCount : ByteArray := ⟨#[99, 111, 117, 110, 116]⟩
def tSum : ByteArray := ⟨#[115, 117, 109]⟩
def tMin : ByteArray := ⟨#[109, 105, 110]⟩
def tMax : ByteArray := ⟨#[109, 97, 120]⟩
def aggOk (s : ByteArray) : Bool := decide (s = ⟨#[]⟩) || decide (s = tCount) || decide (s = tSum) || decide (s = tMin) || decide (s = tMax)
def nIn (op : Int) : Int := if op = 1 ∨ op = 2 then 0 else if op = 3 then 2 else if op = 9 then -1 else 1
def patOp (op : Int) : Bool := decide (op = 2) || decide (op = 4)
def kindOk (p : PlanD) (n : Nat) : Bool := decide (1 ≤ p.op) && decide (p.op ≤ 9) && (if p.op = 9 then decide (0 < n) else decide ((n : Int) = nIn p.op))
def partsOk (p : PlanD) : Bool :=
 (patOp p.op || decide (p.rel = ⟨#[]⟩)) && (decide (p.op = 6) || decide (p.name = ⟨#[]⟩)) && (decide (p.op = 2) || (decide (4 ≤ p.op) && decide (p.op ≤ 8)) || decide (p.args.length = 0)) && (decide (p.op = 8) || decide (p.aggs.length = 0))
def argsOk (p : PlanD) : Bool := (!(decide (p.op = 5) || decide (p.op = 6)) || decide (p.args.length = 1)) && (!decide (p.op = 6) || varB p.name) && (!decide (p.op = 8) || decide (p.aggs.length = p.args.length))
def inOk (p : PlanD) (ins : List ShapeD) : Bool := ins.all fun s => (s.bare == decide (p.op = 9)) && (!decide (p.op = 9) || decide (s.width = (ins.headD zeroS).width))
def right (p : PlanD) (ins : List ShapeD) : Bool := kindOk p ins.length && partsOk p && argsOk p && p.aggs.all aggOk && inOk p ins && p.args.all (may (patOp p.op))
def namesD (p : PlanD) (ins : List ShapeD) : List ByteArray :=
 if p.op = 2 then varsDs [] p.args else if p.op = 3 then addAll (ins.headD zeroS).names (ins.getD 1 zeroS).names else if p.op = 6 then add (ins.headD zeroS).names p.name else if 5 ≤ p.op then (ins.headD zeroS).names else []
def own (p : PlanD) (ins : List ShapeD) : ShapeD × Int :=
 if right p ins = false then (zeroS, 4)
 else if p.op = 4 ∨ p.op = 9 then (ins.headD zeroS, 0)
 else if 5 ≤ p.op ∧ ((varsDs [] p.args).all fun s => has (ins.headD zeroS).names s) = false then (zeroS, 71)
 else if p.op = 7 ∨ p.op = 8 then (⟨[], true, p.args.length⟩, 0)
 else (⟨namesD p ins, false, (namesD p ins).length⟩, 0)
mutual
def shape : PlanD → ShapeD × Int
 | .mk op rel name args aggs ins => if (shapes ins).2 = 0 then own (.mk op rel name args aggs ins) (shapes ins).1 else (zeroS, (shapes ins).2)
def shapes : List PlanD → List ShapeD × Int
 | [] => ([], 0)
 | p :: l => if (shape p).2 = 0 then (if (shapes l).2 = 0 then ((shape p).1 :: (shapes l).1, 0) else ([], (shapes l).2)) else ([], (shape p).2)
end
theorem shape_eq (p : PlanD) : shape p = if (shapes p.ins).2 = 0 then own p (shapes p.ins).1 else (zeroS, (shapes p.ins).2) := by cases p; rw [shape]; rfl
/-- columns, width, errno -/
def columns (p : PlanD) : List ByteArray × Int × Int :=
 if 64 < depthP p then ([], 0, 65) else if (shape p).2 = 0 then ((shape p).1.names, (shape p).1.width, 0) else ([], 0, (shape p).2)
end Go.Al
end
section
namespace Go.Al
open Go.Aw Go
-- values
mutual
def vN : ValD → Nat
 | .mk _ _ s l => s.size / 64 + vNs l l.length
def vNs : List ValD → Nat → Nat
 | [], n => n
 | v :: l, n => if n < 3000 then vNs l (n + vN v) else n
end
theorem vN_eq (v : ValD) : vN v = v.s.size / 64 + vNs v.l v.l.length := by cases v; simp only [vN, ValD.s, ValD.l]
theorem vNs_drop (l : List ValD) (k n : Nat) (h : k < l.length) : vNs (l.drop k) n = if n < 3000 then vNs (l.drop (k + 1)) (n + vN l[k]) else n := by rw [List.drop_eq_getElem_cons h, vNs]
mutual
theorem vN_le : ∀ v : ValD, vN v + 1 ≤ 2 * vsize v
 | .mk _ _ s l => by have := vNs_le l l.length; simp only [vN, vsize]; omega
theorem vNs_le : ∀ (l : List ValD) (n : Nat), vNs l n + l.length ≤ n + 2 * vsizes l
 | [], n => by simp [vNs, vsizes]
 | v :: l, n => by
  simp only [vNs, vsizes, List.length_cons]
  have h1 := vN_le v
  split
  ·have h2 := vNs_le l (n + vN v); omega
  ·have := vsizes_len l; omega
end
theorem vNs_ge : ∀ (l : List ValD) (n : Nat), n ≤ vNs l n
 | [], n => by simp [vNs]
 | v :: l, n => by
  simp only [vNs]
  split
  ·have := vNs_ge l (n + vN v); omega
  ·omega
def valuesN (l : List ValD) : Nat := vNs l l.length
theorem valuesN_le (l : List ValD) : valuesN l ≤ 2 * vsizes l := by have := vNs_le l l.length; unfold valuesN; omega
theorem valuesN_one (v : ValD) : valuesN [v] = 1 + vN v := by simp [valuesN, vNs]
-- expressions
mutual
def eN : ExprD → Nat
 | .mk _ _ _ _ v args => eNs args args.length + (1 + vN v)
def eNs : List ExprD → Nat → Nat
 | [], n => n
 | e :: l, n => if n < 1000 then eNs l (n + eN e) else n
end
theorem eN_eq (e : ExprD) : eN e = eNs e.args e.args.length + valuesN [e.v] := by cases e; simp only [eN, valuesN_one, ExprD.args, ExprD.v]
theorem eNs_drop (l : List ExprD) (k n : Nat) (h : k < l.length) : eNs (l.drop k) n = if n < 1000 then eNs (l.drop (k + 1)) (n + eN l[k]) else n := by rw [List.drop_eq_getElem_cons h, eNs]
mutual
theorem eN_le : ∀ e : ExprD, eN e + 1 ≤ 3 * esize e
 | .mk _ _ _ _ v l => by have := eNs_le l l.length; have := vN_le v; simp only [eN, esize]; omega
theorem eNs_le : ∀ (l : List ExprD) (n : Nat), eNs l n + l.length ≤ n + 3 * esizes l
 | [], n => by simp [eNs, esizes]
 | e :: l, n => by
  simp only [eNs, esizes, List.length_cons]
  have h1 := eN_le e
  split
  ·have h2 := eNs_le l (n + eN e); omega
  ·have := esizes_len l; omega
end
theorem eNs_ge : ∀ (l : List ExprD) (n : Nat), n ≤ eNs l n
 | [], n => by simp [eNs]
 | e :: l, n => by
  simp only [eNs]
  split
  ·have := eNs_ge l (n + eN e); omega
  ·omega
def exprsN (l : List ExprD) : Nat := eNs l l.length
theorem exprsN_le (l : List ExprD) : exprsN l ≤ 3 * esizes l := by have := eNs_le l l.length; unfold exprsN; omega
-- plans
mutual
def wN : PlanD → Nat
 | .mk _ _ _ args aggs ins => wNs ins (1 + eNs args args.length + aggs.length)
def wNs : List PlanD → Nat → Nat
 | [], n => n
 | p :: l, n => if n < 300 then wNs l (n + wN p) else n
end
theorem wN_eq (p : PlanD) : wN p = wNs p.ins (1 + exprsN p.args + p.aggs.length) := by cases p; simp only [wN, exprsN, PlanD.args, PlanD.aggs, PlanD.ins]
theorem wNs_drop (l : List PlanD) (k n : Nat) (h : k < l.length) : wNs (l.drop k) n = if n < 300 then wNs (l.drop (k + 1)) (n + wN l[k]) else n := by rw [List.drop_eq_getElem_cons h, wNs]
mutual
theorem wN_le : ∀ p : PlanD, wN p ≤ 3 * psize p
 | .mk _ _ _ args aggs ins => by
  have := wNs_le ins (1 + eNs args args.length + aggs.length)
  have := exprsN_le args
  have := tsizes_len aggs
  unfold exprsN at *
  simp only [wN, psize]; omega
theorem wNs_le : ∀ (l : List PlanD) (n : Nat), wNs l n ≤ n + 3 * psizes l
 | [], n => by simp [wNs, psizes]
 | p :: l, n => by
  simp only [wNs, psizes]
  have h1 := wN_le p
  split
  ·have h2 := wNs_le l (n + wN p); omega
  ·omega
end
theorem wNs_ge : ∀ (l : List PlanD) (n : Nat), n ≤ wNs l n
 | [], n => by simp [wNs]
 | p :: l, n => by
  simp only [wNs]
  split
  ·have := wNs_ge l (n + wN p); omega
  ·omega
-- the same
mutual
def sameV : ValD → ValD → Bool
 | .mk k n s l, w => decide (k = w.kind) && decide (n = w.n) && decide (s = w.s) && sameVs l w.l
def sameVs : List ValD → List ValD → Bool
 | [], [] => true
 | v :: l, w :: m => sameV v w && sameVs l m
 | _, _ => false
end
theorem sameV_eq (v w : ValD) : sameV v w = (decide (v.kind = w.kind) && decide (v.n = w.n) && decide (v.s = w.s) && sameVs v.l w.l) := by cases v; rw [sameV]; rfl
theorem sameVs_len : ∀ {l m : List ValD}, sameVs l m = true → l.length = m.length
 | [], [], _ => rfl
 | [], _ :: _, h => by simp [sameVs] at h
 | _ :: _, [], h => by simp [sameVs] at h
 | v :: l, w :: m, h => by
  simp only [sameVs, Bool.and_eq_true] at h
  have := sameVs_len h.2
  simp only [List.length_cons, this]
theorem sameVs_drop (l m : List ValD) (k : Nat) (h : k < l.length) (h2 : k < m.length) : sameVs (l.drop k) (m.drop k) = (sameV l[k] m[k] && sameVs (l.drop (k + 1)) (m.drop (k + 1))) := by
 rw [List.drop_eq_getElem_cons h, List.drop_eq_getElem_cons h2, sameVs]
mutual
theorem sameV_refl : ∀ v : ValD, sameV v v = true
 | .mk k n s l => by simp only [sameV, ValD.kind, ValD.n, ValD.s, ValD.l, decide_true, Bool.true_and, sameVs_refl l]
theorem sameVs_refl : ∀ l : List ValD, sameVs l l = true
 | [] => rfl
 | v :: l => by simp only [sameVs, sameV_refl v, sameVs_refl l, Bool.true_and]
end
mutual
def sameE : ExprD → ExprD → Bool
 | .mk k _ _ nm v l, w => decide (k = w.kind) && decide (nm = w.name) && sameV v w.v && sameEs l w.args
def sameEs : List ExprD → List ExprD → Bool
 | [], [] => true
 | v :: l, w :: m => sameE v w && sameEs l m
 | _, _ => false
end
theorem sameE_eq (v w : ExprD) : sameE v w = (decide (v.kind = w.kind) && decide (v.name = w.name) && sameV v.v w.v && sameEs v.args w.args) := by cases v; rw [sameE]; rfl
theorem sameEs_len : ∀ {l m : List ExprD}, sameEs l m = true → l.length = m.length
 | [], [], _ => rfl
 | [], _ :: _, h => by simp [sameEs] at h
 | _ :: _, [], h => by simp [sameEs] at h
 | v :: l, w :: m, h => by
  simp only [sameEs, Bool.and_eq_true] at h
  have := sameEs_len h.2
  simp only [List.length_cons, this]
theorem sameEs_drop (l m : List ExprD) (k : Nat) (h : k < l.length) (h2 : k < m.length) : sameEs (l.drop k) (m.drop k) = (sameE l[k] m[k] && sameEs (l.drop (k + 1)) (m.drop (k + 1))) := by
 rw [List.drop_eq_getElem_cons h, List.drop_eq_getElem_cons h2, sameEs]
mutual
theorem sameE_refl : ∀ v : ExprD, sameE v v = true
 | .mk k _ _ n v l => by simp only [sameE, ExprD.kind, ExprD.name, ExprD.v, ExprD.args, decide_true, Bool.true_and, sameV_refl v, sameEs_refl l]
theorem sameEs_refl : ∀ l : List ExprD, sameEs l l = true
 | [] => rfl
 | v :: l => by simp only [sameEs, sameE_refl v, sameEs_refl l, Bool.true_and]
end
mutual
def sameP : PlanD → PlanD → Bool
 | .mk o r n a g l, w => decide (o = w.op) && decide (r = w.rel) && decide (n = w.name) && sameEs a w.args && decide (g = w.aggs) && samePs l w.ins
def samePs : List PlanD → List PlanD → Bool
 | [], [] => true
 | v :: l, w :: m => sameP v w && samePs l m
 | _, _ => false
end
theorem sameP_eq (v w : PlanD) : sameP v w = (decide (v.op = w.op) && decide (v.rel = w.rel) && decide (v.name = w.name) && sameEs v.args w.args && decide (v.aggs = w.aggs) && samePs v.ins w.ins) := by cases v; rw [sameP]; rfl
theorem samePs_len : ∀ {l m : List PlanD}, samePs l m = true → l.length = m.length
 | [], [], _ => rfl
 | [], _ :: _, h => by simp [samePs] at h
 | _ :: _, [], h => by simp [samePs] at h
 | v :: l, w :: m, h => by
  simp only [samePs, Bool.and_eq_true] at h
  have := samePs_len h.2
  simp only [List.length_cons, this]
theorem samePs_drop (l m : List PlanD) (k : Nat) (h : k < l.length) (h2 : k < m.length) : samePs (l.drop k) (m.drop k) = (sameP l[k] m[k] && samePs (l.drop (k + 1)) (m.drop (k + 1))) := by
 rw [List.drop_eq_getElem_cons h, List.drop_eq_getElem_cons h2, samePs]
mutual
theorem sameP_refl : ∀ v : PlanD, sameP v v = true
 | .mk o r n a g l => by simp only [sameP, PlanD.op, PlanD.rel, PlanD.name, PlanD.args, PlanD.aggs, PlanD.ins, decide_true, Bool.true_and, sameEs_refl a, samePs_refl l]
theorem samePs_refl : ∀ l : List PlanD, samePs l l = true
 | [] => rfl
 | v :: l => by simp only [samePs, sameP_refl v, samePs_refl l, Bool.true_and]
end
-- names of a shape stand once
theorem own_nodup (p : PlanD) (ins : List ShapeD) (h : ∀ s ∈ ins, s.names.Nodup) : (own p ins).1.names.Nodup := by
 have hd : (ins.headD zeroS).names.Nodup := by
  cases ins with
  | nil => exact List.nodup_nil
  | cons a l => exact h a (by simp)
 unfold own
 split
 ·exact List.nodup_nil
 ·split
  ·exact hd
  ·split
   ·exact List.nodup_nil
   ·split
    ·exact List.nodup_nil
    ·show (namesD p ins).Nodup
     unfold namesD
     split
     ·exact varsDs_nodup _
     ·split
      ·exact addAll_nodup _ hd
      ·split
       ·exact add_nodup _ hd
       ·split
        ·exact hd
        ·exact List.nodup_nil
mutual
theorem shape_nodup : ∀ p : PlanD, (shape p).1.names.Nodup
 | .mk op rel name args aggs ins => by
  rw [shape_eq]
  split
  ·exact own_nodup _ _ (shapes_nodup ins)
  ·exact List.nodup_nil
theorem shapes_nodup : ∀ l : List PlanD, ∀ s ∈ (shapes l).1, s.names.Nodup
 | [], s, h => by simp [shapes] at h
 | p :: l, s, h => by
  simp only [shapes] at h
  split at h
  ·split at h
   ·rcases List.mem_cons.1 h with rfl | h
    ·exact shape_nodup p
    ·exact shapes_nodup l s h
   ·simp at h
  ·simp at h
end
end Go.Al
end
section
namespace Go.Al
open Go.Aw Go
mutual
def rangeP : PlanD → Prop
 | .mk _ _ _ args _ ins => rangeEs args ∧ rangePs ins
def rangePs : List PlanD → Prop
 | [] => True
 | p :: l => rangeP p ∧ rangePs l
end
theorem rangeP_eq (p : PlanD) : rangeP p ↔ (rangeEs p.args ∧ rangePs p.ins) := by cases p; rw [rangeP]; rfl
theorem rangePs_mem : ∀ {l : List PlanD}, rangePs l → ∀ e ∈ l, rangeP e
 | x :: l, h, e, he => by
  rw [rangePs] at h
  rcases List.mem_cons.1 he with rfl | he
  ·exact h.1
  ·exact rangePs_mem h.2 e he
theorem shapes_ok : ∀ l : List PlanD, (∀ q ∈ l, (shape q).2 = 0) → shapes l = (l.map fun q => (shape q).1, 0)
 | [], _ => by simp [shapes]
 | p :: l, h => by
  rw [shapes, if_pos (h p (List.mem_cons_self ..)), shapes_ok l fun q hq => h q (List.mem_cons_of_mem _ hq)]
  simp
theorem shapes_bad : ∀ (l : List PlanD) (k : Nat) (h : k < l.length), (∀ q ∈ l.take k, (shape q).2 = 0) → (shape l[k]).2 ≠ 0 → shapes l = ([], (shape l[k]).2)
 | p :: l, 0, _, _, h => by
  have h : (shape p).2 ≠ 0 := h
  rw [shapes, if_neg h]; rfl
 | p :: l, k + 1, hk, h0, h => by
  rw [shapes, if_pos (h0 p (by simp)), shapes_bad l k (by simpa using hk) (fun q hq => h0 q (by simp [hq])) (by simpa using h)]
  rw [if_neg (by simpa using h)]
  simp
theorem addAll_len (m : List ByteArray) : ∀ l : List ByteArray, (addAll l m).length ≤ l.length + m.length := by
 induction m with
 | nil => intro l; simp [addAll]
 | cons a m ih =>
  intro l
  have h1 := ih (add l a)
  have h2 : (add l a).length ≤ l.length + 1 := by unfold add; split <;> simp
  show (addAll (add l a) m).length ≤ _
  simp only [List.length_cons]; omega
mutual
theorem occ_len : ∀ e : ExprD, (occ e).length ≤ esize e
 | .mk kind _ _ name _ args => by
  have := occs_len args
  simp only [occ, esize]
  split
  ·simp; omega
  ·omega
theorem occs_len : ∀ l : List ExprD, (occs l).length ≤ esizes l
 | [] => by simp [occs]
 | e :: l => by
  have h1 := occ_len e
  have h2 := occs_len l
  simp only [occs, esizes, List.length_append]; omega
end
theorem varsDs_le (l : List ExprD) : (varsDs [] l).length ≤ esizes l := by
 have h1 := occs_len l
 have h2 := addAll_len (occs l) []
 rw [varsDs_occ]
 simp at h2; omega
def nsum (l : List ShapeD) : Nat := (l.map fun s => s.names.length).sum
theorem nsum_head (l : List ShapeD) : (l.headD zeroS).names.length ≤ nsum l := by
 cases l with
 | nil => simp [nsum, zeroS]
 | cons a l => simp [nsum]
theorem nsum_mem {s : ShapeD} {l : List ShapeD} (h : s ∈ l) : s.names.length ≤ nsum l := by
 induction l with
 | nil => cases h
 | cons a l ih =>
  rcases List.mem_cons.1 h with rfl | h
  ·simp [nsum]
  ·have := ih h
   simp only [nsum, List.map_cons, List.sum_cons] at this ⊢; omega
theorem nsum_two (a b : ShapeD) (l : List ShapeD) : a.names.length + b.names.length ≤ nsum (a :: b :: l) := by
 simp only [nsum, List.map_cons, List.sum_cons]; omega
theorem own_len (p : PlanD) (ins : List ShapeD) : (own p ins).1.names.length ≤ 1 + esizes p.args + nsum ins := by
 have hh := nsum_head ins
 unfold own
 split
 ·simp [zeroS]
 ·split
  ·simp only; omega
  ·split
   ·simp [zeroS]
   ·split
    ·simp
    ·simp only
     unfold namesD
     split
     ·have := varsDs_le p.args; omega
     ·split
      ·have h1 := addAll_len (ins.getD 1 zeroS).names (ins.headD zeroS).names
       match ins with
       | [] => simp [addAll, zeroS]
       | [a] => simp [zeroS] at h1 hh ⊢; omega
       | a :: b :: l => have := nsum_two a b l; simp at h1 ⊢; omega
      ·split
       ·have : (add (ins.headD zeroS).names p.name).length ≤ (ins.headD zeroS).names.length + 1 := by unfold add; split <;> simp
        omega
       ·split
        ·omega
        ·simp
mutual
theorem shape_len : ∀ p : PlanD, (shape p).1.names.length ≤ psize p
 | .mk op rel name args aggs ins => by
  have h := shapes_len ins
  rw [shape_eq]
  split
  ·have h1 := own_len (.mk op rel name args aggs ins) (shapes ins).1
   simp only [psize, PlanD.args, PlanD.ins] at h1 ⊢; omega
  ·simp [zeroS]
theorem shapes_len : ∀ l : List PlanD, nsum (shapes l).1 ≤ psizes l
 | [] => by simp [shapes, nsum]
 | p :: l => by
  have h1 := shape_len p
  have h2 := shapes_len l
  rw [shapes]
  split
  ·split
   ·simp only [nsum, List.map_cons, List.sum_cons, psizes] at h2 ⊢; omega
   ·simp [nsum]
  ·simp [nsum]
end
end Go.Al
end
