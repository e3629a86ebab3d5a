/- The document's values and the program's: what may be, in plain words; both say the same. -/
import Derived.Test.YtmikljncdgfjpaaGreatDoorSeSp
import Derived.Lib.SlTrimSet
import Derived.Lib.Bytealg
import Derived.Lib.Strings
set_option linter.unusedSimpArgs false
set_option linter.unusedVariables false
namespace Go.Se
open Go.Aw Go
def valX (v : ValD) : AV := .agg [uval v.kind, ival v.n, sval v.s, .rd 4 (v.l.map encV)]
attribute [simp] valX encRow
theorem valX_eq (v : ValD) : valX v = .agg (encV v) := by rw [encV_eq]; rfl
-- texts
def bl (s : ByteArray) : List UInt8 := s.data.toList
theorem bl_len (s : ByteArray) : (bl s).length = s.size := by rw [bl, Lib.size_eq]
theorem chr_eq (s : ByteArray) (i : Nat) (h : i < (bl s).length) : chr s i = ((bl s)[i].toNat : Int) := by
  have h' : i < s.data.size := by simpa [bl] using h
  obtain ⟨d⟩ := s
  unfold chr
  congr 2
  show d[i]! = d.toList[i]
  rw [getElem!_pos d i h']
  simp
theorem bl_inj {s t : ByteArray} (h : bl s = bl t) : s = t := by
  obtain ⟨⟨a⟩⟩ := s; obtain ⟨⟨b⟩⟩ := t
  simp only [bl] at h
  rw [h]
theorem bl_extract (s : ByteArray) (a b : Nat) : bl (s.extract a b) = ((bl s).drop a).take (b - a) := by
  have := Lib.extract_toList s a b
  rw [Lib.toList_data] at this
  exact this
theorem size_pos {s : ByteArray} (h : ¬ s = ⟨#[]⟩) : 0 < s.size := by
  refine Nat.pos_of_ne_zero fun h0 => h (bl_inj ?_)
  have : (bl s).length = 0 := by rw [bl_len]; exact h0
  rw [List.eq_nil_of_length_eq_zero this]; rfl
theorem size_zero {s : ByteArray} : s = ⟨#[]⟩ ↔ s.size = 0 := by
  constructor
  · rintro rfl; rfl
  · intro h; refine Classical.byContradiction fun hn => ?_
    have := size_pos hn; omega
def allFrom (p : Int → Bool) (s : ByteArray) (k : Nat) : Bool := ((bl s).drop k).all fun b => p (b.toNat : Int)
theorem allFrom_step (p : Int → Bool) (s : ByteArray) (k : Nat) (h : k < s.size) : allFrom p s k = (p (chr s k) && allFrom p s (k + 1)) := by
  have hk : k < (bl s).length := by rw [bl_len]; exact h
  unfold allFrom
  rw [List.drop_eq_getElem_cons hk, List.all_cons, chr_eq s k hk]
theorem allFrom_end (p : Int → Bool) (s : ByteArray) (k : Nat) (h : s.size ≤ k) : allFrom p s k = true := by
  unfold allFrom; rw [List.drop_eq_nil_of_le (by rw [bl_len]; exact h)]; rfl
def digB (c : Int) : Bool := decide (48 ≤ c) && decide (c ≤ 57)
def Name (s : ByteArray) : Bool := !decide (s = ⟨#[]⟩) && decide (s.size ≤ 32) && letterB (chr s 0) && allFrom nameB s 0
def dotN (s : ByteArray) : Nat → Nat → Nat
  | 0, k => k
  | n + 1, k => if chr s k = 46 then k else dotN s n (k + 1)
def dotFrom (s : ByteArray) (k : Nat) : Nat := dotN s (s.size - k) k
theorem dotFrom_step (s : ByteArray) (k : Nat) (h : k < s.size) : dotFrom s k = if chr s k = 46 then k else dotFrom s (k + 1) := by
  unfold dotFrom
  rw [show s.size - k = (s.size - (k + 1)) + 1 by omega, dotN]
theorem dotFrom_end (s : ByteArray) (k : Nat) (h : s.size ≤ k) : dotFrom s k = k := by
  unfold dotFrom; rw [show s.size - k = 0 by omega]; rfl
theorem dotFrom_le (s : ByteArray) : ∀ (n k : Nat), k + n = s.size → dotFrom s k ≤ s.size ∧ k ≤ dotFrom s k := by
  intro n
  induction n with
  | zero => intro k h; rw [dotFrom_end s k (by omega)]; omega
  | succ n ih =>
    intro k h
    rw [dotFrom_step s k (by omega)]
    have := ih (k + 1) (by omega)
    split <;> omega
theorem dot_index (s : ByteArray) : ∀ (n k : Nat), k + n = s.size → Lib.indexByte ((bl s).drop k) 46 = if dotFrom s k < s.size then ((dotFrom s k - k : Nat) : Int) else -1 := by
  intro n
  induction n with
  | zero =>
    intro k h
    rw [dotFrom_end s k (by omega), if_neg (by omega), List.drop_eq_nil_of_le (by rw [bl_len]; omega)]; rfl
  | succ n ih =>
    intro k h
    have hk : k < (bl s).length := by rw [bl_len]; omega
    have hc := chr_eq s k hk
    have hle := dotFrom_le s n (k + 1) (by omega)
    rw [List.drop_eq_getElem_cons hk, dotFrom_step s k (by omega), Lib.indexByte, ih (k + 1) (by omega)]
    by_cases h46 : chr s k = 46
    · have : ((bl s)[k] == 46) = true := by
        rw [hc] at h46
        have h1 : (bl s)[k].toNat = 46 := by omega
        have : (bl s)[k] = 46 := UInt8.toNat_inj.1 h1
        rw [this]; rfl
      rw [this, if_pos h46, if_pos rfl, if_pos (by omega), Nat.sub_self]; rfl
    · have : ((bl s)[k] == 46) = false := by
        rw [beq_eq_false_iff_ne]
        intro e
        rw [hc, e] at h46
        exact h46 rfl
      rw [this, if_neg h46]
      simp only [Bool.false_eq_true, if_false]
      by_cases hd : dotFrom s (k + 1) < s.size
      · rw [if_pos hd, if_pos hd]
        have : ((((dotFrom s (k + 1) - (k + 1) : Nat) : Int)) == -1) = false := by rw [beq_eq_false_iff_ne]; omega
        rw [this]
        simp only [Bool.false_eq_true, if_false]
        omega
      · rw [if_neg hd, if_neg hd]; rfl
theorem dot_zero (s : ByteArray) : Lib.indexByte (bl s) 46 = if dotFrom s 0 < s.size then (dotFrom s 0 : Int) else -1 := by
  have := dot_index s s.size 0 (by omega)
  simpa using this
def tTrue : ByteArray := ⟨#[116, 114, 117, 101]⟩
def tFalse : ByteArray := ⟨#[102, 97, 108, 115, 101]⟩
def Names (s : ByteArray) : Bool := !(decide (s = tTrue) || decide (s = tFalse)) &&
  (if dotFrom s 0 < s.size then Name (s.extract 0 (dotFrom s 0)) && Name (s.extract (dotFrom s 0 + 1) s.size) else Name s)
def numB (s : ByteArray) : Bool := !decide (s = ⟨#[]⟩) && !(decide (1 < s.size) && decide (chr s 0 = 48)) && allFrom digB s 0
def Number (s : ByteArray) : Bool :=
  if (decide (1 < s.size) && decide (chr s 0 = 45)) = true then !decide (chr (s.extract 1 s.size) 0 = 48) && numB (s.extract 1 s.size) else numB s
def Digits (s : ByteArray) : Int := if chr s 0 = 45 then (s.size : Int) - 1 else s.size
theorem Number_pos {s : ByteArray} (h : Number s = true) : 0 < s.size := by
  refine size_pos fun e => ?_
  subst e
  revert h; decide
-- as the program has it
def hasPre (s p : ByteArray) : Bool := decide (p.size ≤ s.size) && decide (s.extract 0 p.size = p)
def trimPre (s p : ByteArray) : ByteArray := if hasPre s p = true then s.extract p.size s.size else s
def tMinus : ByteArray := ⟨#[45]⟩
def tDigits : ByteArray := ⟨#[48, 49, 50, 51, 52, 53, 54, 55, 56, 57]⟩
def trimSet (s cs : ByteArray) : ByteArray := ⟨(Lib.trimS (bl s) (bl cs)).toArray⟩
def numOk (s : ByteArray) : Bool :=
  !(decide (trimPre s tMinus = ⟨#[]⟩) || !decide (trimSet (trimPre s tMinus) tDigits = ⟨#[]⟩) || (decide (chr (trimPre s tMinus) 0 = 48) && !decide (s = ⟨#[48]⟩)))
def numLen (s : ByteArray) : Int := if numOk s = true then (trimPre s tMinus).size else 0
theorem pre_minus (s : ByteArray) : hasPre s tMinus = (decide (0 < s.size) && decide (chr s 0 = 45)) := by
  unfold hasPre
  have h1 : tMinus.size = 1 := rfl
  rw [h1]
  by_cases h : 0 < s.size
  · have hl : 0 < (bl s).length := by rw [bl_len]; exact h
    have hc := chr_eq s 0 hl
    have : (s.extract 0 1 = tMinus) ↔ chr s 0 = 45 := by
      rw [hc]
      constructor
      · intro e
        have e1 := congrArg bl e
        rw [bl_extract] at e1
        obtain ⟨a, l, ha⟩ := List.exists_cons_of_length_pos hl
        simp only [ha, List.drop_zero, List.getElem_cons_zero] at e1 ⊢
        have : [a] = [45] := e1
        injection this with h1 _
        rw [h1]; rfl
      · intro e
        refine bl_inj ?_
        rw [bl_extract]
        obtain ⟨a, l, ha⟩ := List.exists_cons_of_length_pos hl
        simp only [ha, List.drop_zero, List.getElem_cons_zero] at e ⊢
        have : a = 45 := UInt8.toNat_inj.1 (by have : (45 : UInt8).toNat = 45 := rfl; omega)
        rw [this]; rfl
    simp only [this, h, Nat.succ_le_of_lt h, decide_true, Bool.true_and]
  · simp [show ¬ 1 ≤ s.size by omega, h]
theorem trimS_nil (l cs : List UInt8) : Lib.trimS l cs = [] ↔ ∀ b ∈ l, cs.contains b = true := by
  have drop_nil : ∀ (p : UInt8 → Bool) (l : List UInt8), l.dropWhile p = [] ↔ ∀ b ∈ l, p b = true := by
    intro p l
    induction l with
    | nil => simp
    | cons a l ih =>
      rw [List.dropWhile_cons]
      by_cases h : p a = true
      · rw [if_pos h, ih]; simp [h]
      · rw [if_neg h]; simp [h]
  unfold Lib.trimS Lib.trimLeftS Lib.trimRightS
  rw [drop_nil]
  constructor
  · intro h
    have h2 : ∀ b ∈ l.reverse.dropWhile (cs.contains ·), cs.contains b = true := fun b hb => h b (by simpa using hb)
    have h3 : l.reverse.dropWhile (cs.contains ·) = [] := by
      cases hd : l.reverse.dropWhile (cs.contains ·) with
      | nil => rfl
      | cons a r =>
        rw [hd] at h2
        have h4 := h2 a (by simp)
        have h5 : ¬ (cs.contains a = true) := by
          have := List.head?_dropWhile_not (cs.contains ·) l.reverse
          rw [hd] at this
          simpa using this
        exact absurd h4 h5
    rw [drop_nil] at h3
    intro b hb
    exact h3 b (by simpa using hb)
  · intro h b hb
    have h1 : l.reverse.dropWhile (cs.contains ·) = [] := (drop_nil _ _).2 fun b hb => h b (by simpa using hb)
    rw [h1] at hb; simp at hb
theorem trimSet_nil (s : ByteArray) : (trimSet s tDigits = ⟨#[]⟩) ↔ allFrom digB s 0 = true := by
  have h1 : (trimSet s tDigits = ⟨#[]⟩) ↔ Lib.trimS (bl s) (bl tDigits) = [] := by
    constructor
    · intro e; have := congrArg bl e; simpa [trimSet, bl] using this
    · intro e; unfold trimSet; rw [e]
  rw [h1, trimS_nil, allFrom, List.drop_zero, List.all_eq_true]
  have key : ∀ b : UInt8, (bl tDigits).contains b = digB (b.toNat : Int) := by
    have : ∀ n : Fin 256, (bl tDigits).contains (UInt8.ofNat n.val) = digB (n.val : Int) := by decide +kernel
    intro b
    have h := this ⟨b.toNat, b.toNat_lt⟩
    simpa using h
  simp only [key]
theorem chr_one (s : ByteArray) (h : s.size = 1) (c : UInt8) : s = ⟨#[c]⟩ ↔ chr s 0 = (c.toNat : Int) := by
  have hl : (bl s).length = 1 := by rw [bl_len]; exact h
  have h0 : 0 < (bl s).length := by omega
  rw [chr_eq s 0 h0]
  obtain ⟨a, ha⟩ : ∃ a, bl s = [a] := by
    match hb : bl s, hl with
    | [a], _ => exact ⟨a, rfl⟩
  simp only [ha, List.getElem_cons_zero]
  constructor
  · rintro rfl
    have : [c] = [a] := ha
    injection this with h1; rw [h1]
  · intro e
    have : a = c := UInt8.toNat_inj.1 (by omega)
    refine bl_inj ?_
    rw [ha, this]; rfl
theorem size_extract1 (s : ByteArray) (h : 0 < s.size) : (s.extract 1 s.size).size = s.size - 1 := by
  rw [← bl_len, bl_extract, List.length_take, List.length_drop, bl_len]; omega
/-- both say the same of whole numbers -/
theorem num_same (s : ByteArray) : numOk s = Number s := by
  unfold numOk Number trimPre
  rw [pre_minus]
  by_cases hs : 0 < s.size
  · by_cases hm : chr s 0 = 45
    · have h1 : (decide (0 < s.size) && decide (chr s 0 = 45)) = true := by simp [hs, hm]
      rw [if_pos h1]
      have hsz := size_extract1 s hs
      generalize hd : s.extract tMinus.size s.size = d
      have hd' : s.extract 1 s.size = d := hd
      rw [hd'] at hsz
      rw [hd']
      have hne : s ≠ ⟨#[48]⟩ := by rintro rfl; revert hm; decide
      simp only [hne, decide_false, Bool.not_false, Bool.and_true]
      by_cases h2 : 1 < s.size
      · have hdn : ¬ d = ⟨#[]⟩ := by rw [size_zero]; omega
        have e1 : (decide (1 < s.size) && decide (chr s 0 = 45)) = true := by simp [h2, hm]
        rw [if_pos e1]
        unfold numB
        have e2 := trimSet_nil d
        by_cases ha : allFrom digB d 0 = true
        · rw [decide_eq_true (e2.2 ha), ha]
          by_cases h48 : chr d 0 = 48 <;> simp [hdn, h48]
        · rw [decide_eq_false (fun h => ha (e2.1 h))]
          simp [show allFrom digB d 0 = false by simpa using ha]
      · have hde : d = ⟨#[]⟩ := by rw [size_zero]; omega
        have e1 : (decide (1 < s.size) && decide (chr s 0 = 45)) = false := by simp [h2]
        rw [e1]
        simp only [Bool.false_eq_true, if_false]
        have ha : allFrom digB s 0 = false := by
          rw [allFrom_step digB s 0 hs, hm]; rfl
        unfold numB
        rw [ha, hde]; simp
    · have h1 : ¬ (decide (0 < s.size) && decide (chr s 0 = 45)) = true := by simp [hm]
      have h2 : ¬ (decide (1 < s.size) && decide (chr s 0 = 45)) = true := by simp [hm]
      rw [if_neg h1, if_neg h2]
      unfold numB
      have hne : ¬ s = ⟨#[]⟩ := by rw [size_zero]; omega
      have e2 := trimSet_nil s
      have e3 : (decide (chr s 0 = 48) && !decide (s = ⟨#[48]⟩)) = (decide (1 < s.size) && decide (chr s 0 = 48)) := by
        by_cases h48 : chr s 0 = 48
        · by_cases hz : s.size = 1
          · have := (chr_one s hz 48).2 (by rw [h48]; rfl)
            simp [this, show ¬ 1 < s.size by omega]
            decide
          · have : s ≠ ⟨#[48]⟩ := by rintro rfl; exact hz rfl
            simp [h48, this, show 1 < s.size by omega]
        · simp [h48]
      rw [e3]
      by_cases ha : allFrom digB s 0 = true
      · rw [decide_eq_true (e2.2 ha), ha]; simp [hne]
      · rw [decide_eq_false (fun h => ha (e2.1 h))]
        simp [hne, show allFrom digB s 0 = false by simpa using ha]
  · have : s = ⟨#[]⟩ := by rw [size_zero]; omega
    subst this; decide
theorem numLen_digits (s : ByteArray) (h : numOk s = true) : numLen s = Digits s := by
  have hp : 0 < s.size := Number_pos (by rw [← num_same]; exact h)
  unfold numLen Digits trimPre
  rw [if_pos h, pre_minus]
  by_cases hm : chr s 0 = 45
  · rw [if_pos (by simp [hp, hm]), if_pos hm]
    have : s.extract tMinus.size s.size = s.extract 1 s.size := rfl
    rw [this, size_extract1 s hp]; omega
  · rw [if_neg (by simp [hm]), if_neg hm]
-- values
def formOwn (v : ValD) : Bool :=
  if v.kind = 1 then (decide (v.n = 0) || decide (v.n = 1)) && decide (v.s = ⟨#[]⟩) && decide (v.l.length = 0)
  else if v.kind = 2 then decide (v.s = ⟨#[]⟩) && decide (v.l.length = 0)
  else if v.kind = 3 then decide (v.n = 0) && decide (v.l.length = 0) && Number v.s
  else if v.kind = 4 then decide (v.n = 0) && decide (v.l.length = 0)
  else if v.kind = 5 then decide (v.n = 0) && decide (v.s = ⟨#[]⟩) && !decide (v.l.length = 1)
  else if v.kind = 6 then decide (v.n = 0) && Names v.s
  else false
def fitsOwn (v : ValD) : Bool :=
  if v.kind = 3 then decide (Digits v.s ≤ 200) else if v.kind = 4 then decide (v.s.size ≤ 4096) else if v.kind = 5 then decide (v.l.length ≤ 16) else if v.kind = 6 then decide (v.l.length ≤ 8) else true
mutual
def form : ValD → Bool
  | .mk kind n s l => formOwn (.mk kind n s l) && forms l
def forms : List ValD → Bool
  | [] => true
  | v :: l => form v && forms l
end
mutual
def fits : ValD → Bool
  | .mk kind n s l => fitsOwn (.mk kind n s l) && fitss l
def fitss : List ValD → Bool
  | [] => true
  | v :: l => fits v && fitss l
end
mutual
def depth : ValD → Nat
  | .mk _ _ _ l => depths l + 1
def depths : List ValD → Nat
  | [] => 0
  | v :: l => max (depth v) (depths l)
end
theorem form_eq (v : ValD) : form v = (formOwn v && forms v.l) := by cases v; simp only [form, ValD.l]
theorem fits_eq (v : ValD) : fits v = (fitsOwn v && fitss v.l) := by cases v; simp only [fits, ValD.l]
theorem depth_eq (v : ValD) : depth v = depths v.l + 1 := by cases v; simp only [depth, ValD.l]
theorem forms_drop (l : List ValD) (k : Nat) (h : k < l.length) : forms (l.drop k) = (form l[k] && forms (l.drop (k + 1))) := by rw [List.drop_eq_getElem_cons h, forms]
theorem fitss_drop (l : List ValD) (k : Nat) (h : k < l.length) : fitss (l.drop k) = (fits l[k] && fitss (l.drop (k + 1))) := by rw [List.drop_eq_getElem_cons h, fitss]
theorem depths_append (a b : List ValD) : depths (a ++ b) = max (depths a) (depths b) := by
  induction a with
  | nil => simp [depths]
  | cons x a ih => simp only [List.cons_append, depths, ih]; omega
theorem depths_take (l : List ValD) (k : Nat) (h : k < l.length) : depths (l.take (k + 1)) = max (depths (l.take k)) (depth l[k]) := by
  rw [List.take_succ_eq_append_getElem h, depths_append]; simp [depths]
mutual
theorem depth_le : ∀ v : ValD, depth v ≤ vsize v
  | .mk _ _ _ l => by have := depths_le l; simp only [depth, vsize]; omega
theorem depths_le : ∀ l : List ValD, depths l ≤ vsizes l
  | [] => by simp [depths]
  | v :: l => by have := depth_le v; have := depths_le l; simp only [depths, vsizes]; omega
end
def Check (v : ValD) : Int := if 64 < depth v then 65 else if form v = false then 4 else if fits v = false then 40 else 0
-- as the program has it
mutual
def depthT : ValD → Int → Nat
  | .mk _ _ _ l, m => depthsT l m 0 + 1
def depthsT : List ValD → Int → Nat → Nat
  | [], _, n => n
  | v :: l, m, n => if m ≤ (n : Int) then n else depthsT l m (max n (depthT v (m - 1)))
end
theorem depthT_eq (v : ValD) (m : Int) : depthT v m = depthsT v.l m 0 + 1 := by cases v; simp only [depthT, ValD.l]
theorem depthsT_drop (l : List ValD) (m : Int) (k n : Nat) (h : k < l.length) : depthsT (l.drop k) m n = if m ≤ (n : Int) then n else depthsT (l.drop (k + 1)) m (max n (depthT l[k] (m - 1))) := by rw [List.drop_eq_getElem_cons h, depthsT]
mutual
theorem depthT_iff : ∀ (v : ValD) (m : Int) (k : Nat), (k : Int) ≤ m → (k < depthT v m ↔ k < depth v)
  | .mk _ _ _ l, m, k, h => by
    simp only [depthT, depth]
    cases k with
    | zero => omega
    | succ k =>
      have := depthsT_iff l m k 0 (by omega)
      omega
theorem depthsT_iff : ∀ (l : List ValD) (m : Int) (k n : Nat), (k : Int) < m → (k < depthsT l m n ↔ k < max n (depths l))
  | [], m, k, n, h => by simp [depthsT, depths]
  | v :: l, m, k, n, h => by
    simp only [depthsT, depths]
    split
    · omega
    · have h1 := depthsT_iff l m k (max n (depthT v (m - 1))) h
      have h2 := depthT_iff v (m - 1) k (by omega)
      rw [h1]
      omega
end
mutual
theorem depthT_le : ∀ (v : ValD) (m : Int), depthT v m ≤ vsize v
  | .mk _ _ s l, m => by have := depthsT_le l m 0; simp only [depthT, vsize]; omega
theorem depthsT_le : ∀ (l : List ValD) (m : Int) (n : Nat), depthsT l m n ≤ max n (vsizes l)
  | [], m, n => by simp only [depthsT]; omega
  | v :: l, m, n => by
    simp only [depthsT, vsizes]
    split
    · omega
    · have := depthsT_le l m (max n (depthT v (m - 1)))
      have := depthT_le v (m - 1)
      omega
end
def fitsOwnT (v : ValD) : Bool :=
  if v.kind = 3 then decide (numLen v.s ≤ 200) else if v.kind = 4 then decide (v.s.size ≤ 4096) else if v.kind = 5 then decide (v.l.length ≤ 16) else if v.kind = 6 then decide (v.l.length ≤ 8) else true
mutual
def fitsT : ValD → Bool
  | .mk kind n s l => fitsOwnT (.mk kind n s l) && fitssT l
def fitssT : List ValD → Bool
  | [] => true
  | v :: l => fitsT v && fitssT l
end
theorem fitsT_eq (v : ValD) : fitsT v = (fitsOwnT v && fitssT v.l) := by cases v; simp only [fitsT, ValD.l]
mutual
theorem fits_same : ∀ v : ValD, form v = true → fitsT v = fits v
  | .mk kind n s l, h => by
    simp only [form, Bool.and_eq_true] at h
    simp only [fitsT, fits, fitss_same l h.2]
    congr 1
    unfold fitsOwnT fitsOwn
    by_cases hk : (ValD.mk kind n s l).kind = 3
    · rw [if_pos hk, if_pos hk]
      have h1 := h.1
      unfold formOwn at h1
      rw [if_neg (by omega), if_neg (by omega), if_pos hk] at h1
      simp only [Bool.and_eq_true] at h1
      rw [numLen_digits _ (by rw [num_same]; exact h1.2)]
    · rw [if_neg hk, if_neg hk]
theorem fitss_same : ∀ l : List ValD, forms l = true → fitssT l = fitss l
  | [], _ => rfl
  | v :: l, h => by
    simp only [forms, Bool.and_eq_true] at h
    simp only [fitssT, fitss, fits_same v h.1, fitss_same l h.2]
end
theorem Check_same (v : ValD) : (if 64 < depthT v 65 then (65 : Int) else if form v = false then 4 else if fitsT v = false then 40 else 0) = Check v := by
  unfold Check
  have := depthT_iff v 65 64 (by omega)
  by_cases h : 64 < depth v
  · rw [if_pos h, if_pos (this.2 h)]
  · rw [if_neg h, if_neg (fun h' => h (this.1 h'))]
    by_cases hf : form v = false
    · rw [if_pos hf, if_pos hf]
    · rw [if_neg hf, if_neg hf, fits_same v (by simpa using hf)]
end Go.Se
namespace Go.Se
open Go.Aw Go
def tDot : ByteArray := ⟨#[46]⟩
def cutL (s : ByteArray) : ByteArray := if dotFrom s 0 < s.size then s.extract 0 (dotFrom s 0) else s
def cutR (s : ByteArray) : ByteArray := if dotFrom s 0 < s.size then s.extract (dotFrom s 0 + 1) s.size else ⟨#[]⟩
def cutF (s : ByteArray) : Bool := decide (dotFrom s 0 < s.size)
theorem cut_names (s : ByteArray) : (Name (cutL s) && ((cutF s && Name (cutR s)) || (!cutF s && !decide (s = tTrue) && !decide (s = tFalse)))) = Names s := by
  unfold Names cutL cutR cutF
  by_cases h : dotFrom s 0 < s.size
  · have h1 : s ≠ tTrue := by rintro rfl; revert h; decide
    have h2 : s ≠ tFalse := by rintro rfl; revert h; decide
    simp [h, h1, h2]
  · simp [h]
    cases Name s <;> cases decide (s = tTrue) <;> cases decide (s = tFalse) <;> rfl
/-- the first that is so, counted from k -/
def fid {α : Type} (p : α → Bool) : List α → Nat → Int
  | [], _ => -1
  | x :: l, k => if p x = true then (k : Int) else fid p l (k + 1)
theorem fid_drop {α : Type} (p : α → Bool) (l : List α) (k : Nat) (h : k < l.length) : fid p (l.drop k) k = if p l[k] = true then (k : Int) else fid p (l.drop (k + 1)) (k + 1) := by rw [List.drop_eq_getElem_cons h, fid]
theorem fid_any {α : Type} (p : α → Bool) : ∀ (l : List α) (k : Nat), decide (0 ≤ fid p l k) = l.any p
  | [], k => rfl
  | x :: l, k => by
    rw [fid, List.any_cons]
    cases h : p x with
    | true => simp
    | false => simpa using fid_any p l (k + 1)
end Go.Se
