/- Bytes of values, in plain words: the document's and the program's are the same. -/
import Derived.Test.YtmikljncdgfjpaaGreatDoorSeSpA
import Derived.Lib.BitFns
set_option linter.unusedSimpArgs false
set_option linter.unusedVariables false
namespace Go.Se
open Go.Aw Go
def trn (t c : Int) : Int := xorI .u8 c t
def enc (t : Int) (l : List Int) : List Int := l.map (trn t)
@[simp] theorem enc_len (t : Int) (l : List Int) : (enc t l).length = l.length := by simp [enc]
@[simp] theorem enc_app (t : Int) (a b : List Int) : enc t (a ++ b) = enc t a ++ enc t b := by simp [enc]
@[simp] theorem enc_nil (t : Int) : enc t [] = [] := rfl
def isB (c : Int) : Prop := 0 ≤ c ∧ c < 256
def areB (l : List Int) : Prop := ∀ c ∈ l, isB c
theorem trn_all : ∀ n : Fin 256, trn 0 (n.val : Int) = n.val ∧ trn 255 (n.val : Int) = 255 - n.val := by decide +kernel
theorem trn_0 {c : Int} (h : isB c) : trn 0 c = c := by
  have := (trn_all ⟨c.toNat, by unfold isB at h; omega⟩).1
  have e : ((c.toNat : Nat) : Int) = c := by unfold isB at h; omega
  simpa [e] using this
theorem trn_255 {c : Int} (h : isB c) : trn 255 c = 255 - c := by
  have := (trn_all ⟨c.toNat, by unfold isB at h; omega⟩).2
  have e : ((c.toNat : Nat) : Int) = c := by unfold isB at h; omega
  simpa [e] using this
theorem enc_0 {l : List Int} (h : areB l) : enc 0 l = l := by
  unfold enc
  conv => rhs; rw [← List.map_id l]
  exact List.map_congr_left fun c hc => trn_0 (h c hc)
def flipL (l : List Int) : List Int := l.map fun c => 255 - c
theorem enc_255 {l : List Int} (h : areB l) : enc 255 l = flipL l := List.map_congr_left fun c hc => trn_255 (h c hc)
theorem areB_app {a b : List Int} (ha : areB a) (hb : areB b) : areB (a ++ b) := fun c hc => (List.mem_append.1 hc).elim (ha c) (hb c)
theorem areB_cons {c : Int} {b : List Int} (ha : isB c) (hb : areB b) : areB (c :: b) := fun x hx => (List.mem_cons.1 hx).elim (fun e => e ▸ ha) (hb x)
theorem areB_nil : areB [] := fun c hc => by cases hc
theorem areB_flip {l : List Int} (h : areB l) : areB (flipL l) := by
  intro c hc
  simp only [flipL, List.mem_map] at hc
  obtain ⟨d, hd, rfl⟩ := hc
  have := h d hd
  unfold isB at this ⊢; omega
-- numbers
def digs : Nat → Nat → List Int
  | _, 0 => []
  | u, k + 1 => digs (u / 256) k ++ [((u % 256 : Nat) : Int)]
theorem digs_len : ∀ (k u : Nat), (digs u k).length = k
  | 0, _ => rfl
  | k + 1, u => by simp [digs, digs_len k]
theorem digs_areB : ∀ (k u : Nat), areB (digs u k)
  | 0, _ => areB_nil
  | k + 1, u => areB_app (digs_areB k _) (areB_cons (by unfold isB; omega) areB_nil)
theorem digs_head : ∀ (k u : Nat), digs u (k + 1) = ((u / 256 ^ k % 256 : Nat) : Int) :: digs u k
  | 0, u => by simp [digs]
  | k + 1, u => by
    rw [digs, digs_head k (u / 256)]
    rw [List.cons_append]
    congr 2
    rw [Nat.div_div_eq_div_mul, Nat.pow_succ, Nat.mul_comm]
def nb (u : Nat) : Nat := (Lib.bitLen u + 7) / 8
theorem bl_small (u : Nat) (h0 : 0 < u) (h : u < 256) : (Lib.bitLen u + 7) / 8 = 1 := by
  have : ∀ n : Fin 256, 0 < n.val → (Lib.bitLen n.val + 7) / 8 = 1 := by decide +kernel
  exact this ⟨u, h⟩ h0
theorem nb_zero : nb 0 = 0 := by decide
theorem nb_step (u : Nat) (h0 : 0 < u) (h : u < 18446744073709551616) : nb u = nb (u / 256) + 1 := by
  unfold nb
  by_cases hs : u < 256
  · rw [bl_small u h0 hs, Nat.div_eq_of_lt hs]; decide
  · rw [Lib.bitLen_shift8 u (by omega) h]; omega
theorem nb_le (u : Nat) (h : u < 18446744073709551616) : nb u ≤ 8 := by
  have := Lib.bitLen_le u 64 (Nat.le_refl _) (by simpa using h)
  unfold nb; omega
theorem nb_count (u : Nat) (h : u < 4294967296) : nb u ≤ 4 := by
  have := Lib.bitLen_le u 32 (by omega) (by simpa using h)
  unfold nb; omega
def digits (u : Nat) : List Int := digs u (nb u)
theorem digits_step (u : Nat) (h0 : 0 < u) (h : u < 18446744073709551616) : digits u = digits (u / 256) ++ [((u % 256 : Nat) : Int)] := by
  unfold digits; rw [nb_step u h0 h, digs]
theorem digits_zero : digits 0 = [] := by unfold digits; rw [nb_zero]; rfl
/-- a number, with how many bytes it has behind a first -/
def numE (first : Int) (u : Nat) : List Int := (first + nb u) :: digits u
def numI (n : Int) : List Int := if n < 0 then flipL (numE 128 (-n - 1).toNat) else numE 128 n.toNat
theorem numE_areB {first : Int} {u : Nat} (h0 : 0 ≤ first) (h1 : first ≤ 128) (h : u < 18446744073709551616) : areB (numE first u) := by
  have := nb_le u h
  exact areB_cons (by unfold isB; omega) (digs_areB _ _)
theorem numE_len (first : Int) (u : Nat) (h : u < 18446744073709551616) : (numE first u).length ≤ 9 := by
  have := nb_le u h
  simp only [numE, digits, List.length_cons, digs_len]; omega
theorem flipL_len (l : List Int) : (flipL l).length = l.length := by simp [flipL]
theorem numI_len (n : Int) (h0 : -9223372036854775808 ≤ n) (h1 : n ≤ 9223372036854775807) : (numI n).length ≤ 9 := by
  unfold numI
  split
  · rw [flipL_len]; exact numE_len _ _ (by omega)
  · exact numE_len _ _ (by omega)
theorem numI_areB (n : Int) (h0 : -9223372036854775808 ≤ n) (h1 : n ≤ 9223372036854775807) : areB (numI n) := by
  unfold numI
  split
  · exact areB_flip (numE_areB (by omega) (by omega) (by omega))
  · exact numE_areB (by omega) (by omega) (by omega)
-- texts
def byL (s : ByteArray) : List Int := (bl s).map fun b => (b.toNat : Int)
theorem byL_len (s : ByteArray) : (byL s).length = s.size := by simp [byL, bl_len]
theorem byL_areB (s : ByteArray) : areB (byL s) := by
  intro c hc
  simp only [byL, List.mem_map] at hc
  obtain ⟨b, _, rfl⟩ := hc
  have := b.toNat_lt
  unfold isB; omega
theorem byL_drop (s : ByteArray) (k : Nat) (h : k < s.size) : (byL s).drop k = chr s k :: (byL s).drop (k + 1) := by
  have hl : k < (byL s).length := by rw [byL_len]; exact h
  rw [List.drop_eq_getElem_cons hl]
  congr 1
  rw [chr_eq s k (by rw [bl_len]; exact h)]
  simp [byL]
theorem byL_take (s : ByteArray) (k : Nat) (h : k < s.size) : (byL s).take (k + 1) = (byL s).take k ++ [chr s k] := by
  have hl : k < (byL s).length := by rw [byL_len]; exact h
  rw [List.take_succ_eq_append_getElem hl]
  congr 2
  rw [chr_eq s k (by rw [bl_len]; exact h)]
  simp [byL]
def esc1 (c : Int) : List Int := if c = 0 then [0, 255] else [c]
def escL (l : List Int) : List Int := l.flatMap esc1
theorem escL_app (a b : List Int) : escL (a ++ b) = escL a ++ escL b := by simp [escL]
theorem escL_len (l : List Int) : (escL l).length ≤ 2 * l.length := by
  induction l with
  | nil => simp [escL]
  | cons c l ih =>
    simp only [escL, List.flatMap_cons, List.length_append, List.length_cons] at ih ⊢
    have : (esc1 c).length ≤ 2 := by unfold esc1; split <;> simp
    omega
theorem escL_areB {l : List Int} (h : areB l) : areB (escL l) := by
  intro c hc
  simp only [escL, List.mem_flatMap] at hc
  obtain ⟨d, hd, hc⟩ := hc
  have := h d hd
  unfold esc1 at hc
  split at hc
  · simp at hc; rcases hc with rfl | rfl <;> unfold isB <;> omega
  · simp at hc; subst hc; exact this
def txtE (s : ByteArray) : List Int := escL (byL s) ++ [0, 0]
theorem txtE_len (s : ByteArray) : (txtE s).length ≤ 2 * s.size + 2 := by
  have := escL_len (byL s); rw [byL_len] at this; simp [txtE]; omega
theorem txtE_areB (s : ByteArray) : areB (txtE s) := areB_app (escL_areB (byL_areB s)) (areB_cons (by unfold isB; omega) (areB_cons (by unfold isB; omega) areB_nil))
/-- a whole number of any size, without its sign -/
def bigU (s : ByteArray) : List Int := 128 :: (numE 0 s.size ++ byL s)
def bigE (s : ByteArray) : List Int := if chr s 0 = 45 then flipL (bigU (s.extract 1 s.size)) else bigU s
theorem bigU_areB (s : ByteArray) (h : s.size < 18446744073709551616) : areB (bigU s) := areB_cons (by unfold isB; omega) (areB_app (numE_areB (by omega) (by omega) h) (byL_areB s))
theorem bigU_len (s : ByteArray) (h : s.size < 18446744073709551616) : (bigU s).length ≤ 10 + s.size := by
  have := numE_len 0 s.size h
  simp [bigU, byL_len]; omega
theorem ext1_le (s : ByteArray) : (s.extract 1 s.size).size ≤ s.size := by
  rw [← bl_len, bl_extract, List.length_take, List.length_drop, bl_len]; omega
theorem bigE_len (s : ByteArray) (h : s.size < 18446744073709551616) : (bigE s).length ≤ 10 + s.size := by
  unfold bigE
  have := ext1_le s
  split
  · rw [flipL_len]; have := bigU_len (s.extract 1 s.size) (by omega); omega
  · exact bigU_len s h
theorem bigE_areB (s : ByteArray) (h : s.size < 18446744073709551616) : areB (bigE s) := by
  unfold bigE
  have := ext1_le s
  split
  · exact areB_flip (bigU_areB _ (by omega))
  · exact bigU_areB s h
-- values
mutual
def rng : ValD → Prop
  | .mk _ n _ l => (-9223372036854775808 ≤ n ∧ n ≤ 9223372036854775807) ∧ rngs l
def rngs : List ValD → Prop
  | [] => True
  | v :: l => rng v ∧ rngs l
end
theorem rng_eq (v : ValD) : rng v = ((-9223372036854775808 ≤ v.n ∧ v.n ≤ 9223372036854775807) ∧ rngs v.l) := by cases v; simp only [rng, ValD.n, ValD.l]
theorem rngs_mem {v : ValD} : ∀ {l : List ValD}, v ∈ l → rngs l → rng v
  | x :: l, h, hr => by
    simp only [rngs] at hr
    rcases List.mem_cons.1 h with rfl | h
    · exact hr.1
    · exact rngs_mem h hr.2
mutual
def valE : ValD → List Int
  | .mk kind n s l => kind :: (if kind = 1 then [n] else if kind = 2 then numI n else if kind = 3 then bigE s else if kind = 4 then txtE s else if kind = 5 then valsE l ++ [0] else txtE s ++ (valsE l ++ [0]))
def valsE : List ValD → List Int
  | [] => []
  | v :: l => 1 :: (valE v ++ valsE l)
end
theorem valE_eq (v : ValD) : valE v = v.kind :: (if v.kind = 1 then [v.n] else if v.kind = 2 then numI v.n else if v.kind = 3 then bigE v.s else if v.kind = 4 then txtE v.s else if v.kind = 5 then valsE v.l ++ [0] else txtE v.s ++ (valsE v.l ++ [0])) := by
  cases v; simp only [valE, ValD.kind, ValD.n, ValD.s, ValD.l] <;> rfl
theorem valsE_app (a b : List ValD) : valsE (a ++ b) = valsE a ++ valsE b := by
  induction a with
  | nil => simp [valsE]
  | cons x a ih => simp [valsE, ih]
theorem valsE_take (l : List ValD) (k : Nat) (h : k < l.length) : valsE (l.take (k + 1)) = valsE (l.take k) ++ (1 :: valE l[k]) := by
  rw [List.take_succ_eq_append_getElem h, valsE_app]; simp [valsE]
mutual
theorem valE_len : ∀ v : ValD, rng v → vsize v ≤ 4194304 → (valE v).length + 1 ≤ 12 * vsize v
  | .mk kind n s l, hr, hv => by
    simp only [rng] at hr
    simp only [vsize] at hv ⊢
    have h1 := valsE_len l hr.2 (by omega)
    have h2 := numI_len n hr.1.1 hr.1.2
    have h3 := bigE_len s (by omega)
    have h4 := txtE_len s
    simp only [valE, List.length_cons]
    split
    · simp; omega
    · split
      · omega
      · split
        · omega
        · split
          · omega
          · split
            · simp; omega
            · simp; omega
theorem valsE_len : ∀ l : List ValD, rngs l → vsizes l ≤ 4194304 → (valsE l).length ≤ 12 * vsizes l
  | [], _, _ => by simp [valsE]
  | v :: l, hr, hv => by
    simp only [rngs] at hr
    simp only [vsizes] at hv ⊢
    have h1 := valE_len v hr.1 (by omega)
    have h2 := valsE_len l hr.2 (by omega)
    simp only [valsE, List.length_cons, List.length_append]; omega
end
theorem form_kind {v : ValD} (h : form v = true) : 1 ≤ v.kind ∧ v.kind ≤ 6 := by
  rw [form_eq, Bool.and_eq_true] at h
  have h := h.1
  unfold formOwn at h
  by_cases h1 : v.kind = 1
  · omega
  · rw [if_neg h1] at h
    by_cases h2 : v.kind = 2
    · omega
    · rw [if_neg h2] at h
      by_cases h3 : v.kind = 3
      · omega
      · rw [if_neg h3] at h
        by_cases h4 : v.kind = 4
        · omega
        · rw [if_neg h4] at h
          by_cases h5 : v.kind = 5
          · omega
          · rw [if_neg h5] at h
            by_cases h6 : v.kind = 6
            · omega
            · rw [if_neg h6] at h; cases h
theorem form_bool {v : ValD} (h : form v = true) (hk : v.kind = 1) : v.n = 0 ∨ v.n = 1 := by
  rw [form_eq, Bool.and_eq_true] at h
  have h := h.1
  unfold formOwn at h
  rw [if_pos hk] at h
  simp only [Bool.and_eq_true, Bool.or_eq_true, decide_eq_true_eq] at h
  exact h.1.1
theorem form_big {v : ValD} (h : form v = true) (hk : v.kind = 3) : Number v.s = true := by
  rw [form_eq, Bool.and_eq_true] at h
  have h := h.1
  unfold formOwn at h
  rw [if_neg (by omega), if_neg (by omega), if_pos hk] at h
  simp only [Bool.and_eq_true] at h
  exact h.2
theorem forms_mem {v : ValD} : ∀ {l : List ValD}, v ∈ l → forms l = true → form v = true
  | x :: l, h, hf => by
    simp only [forms, Bool.and_eq_true] at hf
    rcases List.mem_cons.1 h with rfl | h
    · exact hf.1
    · exact forms_mem h hf.2
mutual
theorem valE_areB : ∀ v : ValD, form v = true → rng v → vsize v ≤ 4194304 → areB (valE v)
  | .mk kind n s l, hf, hr, hv => by
    have hk := form_kind hf
    have hb := form_bool hf
    simp only [ValD.kind, ValD.n] at hk hb
    simp only [form, Bool.and_eq_true] at hf
    simp only [rng] at hr
    simp only [vsize] at hv
    have h1 := valsE_areB l hf.2 hr.2 (by omega)
    have h0 : areB [(0 : Int)] := areB_cons (by unfold isB; omega) areB_nil
    simp only [valE]
    refine areB_cons (by unfold isB; omega) ?_
    split
    · rename_i e
      have := hb e
      exact areB_cons (by unfold isB; omega) areB_nil
    · split
      · exact numI_areB n hr.1.1 hr.1.2
      · split
        · exact bigE_areB s (by omega)
        · split
          · exact txtE_areB s
          · split
            · exact areB_app h1 h0
            · exact areB_app (txtE_areB s) (areB_app h1 h0)
theorem valsE_areB : ∀ l : List ValD, forms l = true → rngs l → vsizes l ≤ 4194304 → areB (valsE l)
  | [], _, _, _ => areB_nil
  | v :: l, hf, hr, hv => by
    simp only [forms, Bool.and_eq_true] at hf
    simp only [rngs] at hr
    simp only [vsizes] at hv
    exact areB_cons (by unfold isB; omega) (areB_app (valE_areB v hf.1 hr.1 (by omega)) (valsE_areB l hf.2 hr.2 (by omega)))
end
theorem Check_form {v : ValD} (h : Check v = 0) : form v = true := by
  unfold Check at h
  split at h
  · omega
  · split at h
    · omega
    · rename_i hf; simpa using hf
end Go.Se
