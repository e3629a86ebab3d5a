/- The program's uses. -/
import Derived.Test.YtempphkfacccoaaSuC
import Derived.Test.YtempphkfacccoaaSuM
set_option linter.unusedSimpArgs false
set_option linter.unusedVariables false
open Go Go.Aw Go.Proofs
namespace Go.Sl
-- function 21: corollary/lower.Uses: 13 slots; results ['(Go.ResultVar.tmp 2)']
def F21r0 : List ROp := [{ dst := some 1, op := .box 72 (.tmp 0), after := [], guard := none },
  { dst := some 2, op := .copy true (.const (.slice none 0 0)), after := [], guard := none }]
def F21r1 : List ROp := [{ dst := some 3, op := .alloc 32 [Value.slice none 0 0], after := [], guard := none }]
def F21r2 : List ROp := [{ dst := some 4, op := .alloc 91 [Value.nilFunc], after := [], guard := none }]
def F21r3 : List ROp := [{ dst := some 5, op := .mkf (Go.Fn.func 39) [.tmp 3, .tmp 4], after := [], guard := none },
  { dst := none, op := .store 1 true (.tmp 4) (.tmp 5), after := [0, 0], guard := none }]
def F21r4 : List ROp := [{ dst := some 6, op := .load 1 false false (.tmp 4), after := [], guard := none },
  { dst := some 7, op := .load 6 true false (.tmp 1), after := [], guard := none },
  { dst := some 8, op := .call (.tmp 6) [.tmp 7], after := [0, 1], guard := none }]
def F21r5 : List ROp := [{ dst := some 9, op := .load 1 false false (.tmp 3), after := [], guard := none },
  { dst := some 10, op := .call (.func 40) [.tmp 9], after := [0], guard := none }]
def F21r6 : List ROp := [{ dst := some 11, op := .load 1 false false (.tmp 3), after := [], guard := none },
  { dst := some 12, op := .call (.func 41) [.tmp 11], after := [0], guard := none },
  { dst := some 2, op := .copy true (.tmp 12), after := [1, 1, 0, 1], guard := none }]
-- function 39: corollary/lower.Uses$1: 30 slots; results []
def F39r0 : List ROp := [{ dst := some 3, op := .box 72 (.tmp 0), after := [], guard := none }]
def F39r1 : List ROp := [{ dst := some 6, op := .fad 0 (.tmp 3), after := [], guard := none },
  { dst := some 7, op := .load 1 false false (.tmp 6), after := [0], guard := none },
  { dst := some 8, op := .bin .eql (.tmp 7) (.const (.int .u8 2)), after := [1], guard := none },
  { dst := some 9, op := .copy false (.tmp 8), after := [2], guard := none },
  { dst := some 10, op := .fad 0 (.tmp 3), after := [3], guard := some (9, false) },
  { dst := some 11, op := .load 1 false false (.tmp 10), after := [4, 3], guard := some (9, false) },
  { dst := some 12, op := .bin .eql (.tmp 11) (.const (.int .u8 4)), after := [5, 3], guard := some (9, false) },
  { dst := some 13, op := .pick (.tmp 9) (.const (.bool true)) (.tmp 12), after := [3, 6], guard := none }]
def F39r2 : List ROp := [{ dst := some 14, op := .load 1 false true (.tmp 1), after := [], guard := none },
  { dst := some 15, op := .fad 1 (.tmp 3), after := [], guard := none },
  { dst := some 16, op := .load 1 false false (.tmp 15), after := [1], guard := none },
  { dst := some 17, op := .bslice 9 1 [Value.string ByteArray.empty] 1 [(0, .tmp 16)], after := [2], guard := none },
  { dst := some 18, op := .app 9 1 16 (.tmp 14) (.tmp 17), after := [0, 3], guard := none },
  { dst := none, op := .store 1 true (.tmp 1) (.tmp 18), after := [4, 4, 0, 1, 2, 3, 4], guard := none }]
def F39r3 : List ROp := [{ dst := some 19, op := .fad 5 (.tmp 3), after := [], guard := none },
  { dst := some 20, op := .load 1 false false (.tmp 19), after := [0], guard := none },
  { dst := some 21, op := .len 0 (.tmp 20), after := [1], guard := none },
  { dst := some 22, op := .copy false (.const (.int .i64 0)), after := [], guard := none }]
def F39r4 : List ROp := [{ dst := some 23, op := .bin .lss (.tmp 22) (.tmp 21), after := [], guard := none }]
def F39r5 : List ROp := [{ dst := some 24, op := .iad 6 (.tmp 20) (.tmp 22), after := [], guard := none },
  { dst := some 25, op := .load 6 true false (.tmp 24), after := [0], guard := none },
  { dst := some 5, op := .alloc 72 [Value.int .u8 0, Value.string ByteArray.empty, Value.string ByteArray.empty, Value.slice none 0 0, Value.slice none 0 0, Value.slice none 0 0], after := [], guard := none },
  { dst := none, op := .store 6 true (.tmp 5) (.tmp 25), after := [2, 1, 0, 1, 2], guard := none }]
def F39r6 : List ROp := [{ dst := some 26, op := .load 1 false false (.tmp 2), after := [], guard := none },
  { dst := some 27, op := .load 6 true false (.tmp 5), after := [], guard := none },
  { dst := some 28, op := .call (.tmp 26) [.tmp 27], after := [0, 1], guard := none }]
def F39r7 : List ROp := [{ dst := some 29, op := .bin .add (.tmp 22) (.const (.int .i64 1)), after := [], guard := none },
  { dst := some 22, op := .copy false (.tmp 29), after := [0], guard := none }]
-- the closure that looks through a plan: it writes the list that it finds, and reads itself
def lookU : AV := .clo (.func 39) [.ptr 1000 0, .ptr 1001 0]
def HU (out : List ByteArray) : List (Nat × Blk) := [(1000, .cells 32 [.own 9 1 (texts out)]), (1001, .cells 91 [lookU])]
theorem lookU_call {g : Nat → Option Blk} {out out' : List ByteArray} {p : PlanD} {es : List AV} (he : es = encP p) (h0 : g 1000 = some (.cells 32 [.own 9 1 (texts out)])) (h1 : g 1001 = some (.cells 91 [lookU]))
    (hc : ConM Try.prog 39 (HU out) [encPX p, .ptr 1000 0, .ptr 1001 0] (.tup []) (HU out')) : ∃ H ts, CallM Try.prog 39 g [1000, 1001] [.agg es, .ptr 1000 0, .ptr 1001 0] (.tup []) (HU out') H ts := by
  subst he
  refine ⟨HU out, [encPX p, .ptr 1000 0, .ptr 1001 0], fun b k hb => ?_, fun b k hb => ?_, fun b k hb hn => ?_, more_of rfl, fun b k hb => ?_, by simp [HU, encPX, encP_eq], .cons .refl (.cons .refl (.cons .refl .nil)), hc⟩
  · simp only [HU, lk] at hb; split at hb
    · rename_i e; subst e; rfl
    · split at hb
      · rename_i e; subst e; rfl
      · cases hb
  · simp only [HU, lk] at hb; split at hb
    · rename_i e; subst e; cases hb; exact h0
    · split at hb
      · rename_i e; subst e; cases hb; exact h1
      · cases hb
  · simp only [HU, lk] at hb hn; split at hb
    · rename_i e; rw [if_pos e] at hn; cases hn
    · rename_i e1; rw [if_neg e1] at hn; split at hb
      · rename_i e; rw [if_pos e] at hn; cases hn
      · cases hb
  · simp only [HU, lk] at hb; split at hb
    · cases hb; rfl
    · split at hb
      · cases hb; rfl
      · cases hb
attribute [local simp] lookU HU encPX
def stU (p : PlanD) (out : List ByteArray) (k : Nat) : AS :=
  { tm := [(1, .ptr 1000 0), (2, .ptr 1001 0), (20, .rd 6 (p.ins.map encP)), (21, ival p.ins.length), (22, ival k)], hp := HU (out ++ (own1 p ++ namesL (p.ins.take k))) }
theorem lookU_ok : ∀ (n : Nat) (p : PlanD) (out : List ByteArray), psize p < n → out.length + psize p ≤ 4194304 →
    ConM Try.prog 39 (HU out) [encPX p, .ptr 1000 0, .ptr 1001 0] (.tup []) (HU (out ++ names p)) := by
  intro n
  induction n with
  | zero => intro p out hn; omega
  | succ n ih =>
    intro p out hn hout
    have hsz := psize_eq p
    have hlen := psizes_len p.ins
    have heq := names_eq p
    refine ConM.of_code Try.func39 (by kernel_rfl) rfl (by simp [Try.ntmps39]) (by simp [Try.ntmps39]) (hand_of rfl) (more_of rfl) rfl (fun C hC hρ => ?_)
    refine AWp.seq ?_
    refine AWp.reg [] F39r0 [] (by kernel_rfl) (by rw [hC]; rfl) fun K hK => ?_
    simp [F39r0, encP_eq]
    first | refine hK _ ?_ | refine ⟨by omega, hK _ ?_⟩ | refine ⟨by omega, by omega, hK _ ?_⟩ | refine ⟨by omega, by omega, by omega, hK _ ?_⟩ | refine ⟨by omega, by omega, by omega, by omega, hK _ ?_⟩
    refine AWp.seqJ (fun _ : Unit => { tm := [(1, .ptr 1000 0), (2, .ptr 1001 0), (3, .ptr 3 0)], hp := (3, .cells 72 (encP p)) :: HU (out ++ own1 p) }) (fun _ => True) ?_ (fun hJ => ?_)
    · skip
      rintro - -
      refine AWp.seq ?_
      refine AWp.reg [] F39r3 [] (by kernel_rfl) (by rw [hC]; rfl) fun K hK => ?_
      simp [F39r3, encP_eq]
      first | refine hK _ ?_ | refine ⟨by omega, hK _ ?_⟩ | refine ⟨by omega, by omega, hK _ ?_⟩ | refine ⟨by omega, by omega, by omega, hK _ ?_⟩ | refine ⟨by omega, by omega, by omega, by omega, hK _ ?_⟩
      refine AWp.block ?_
      refine AWp.loopG (stU p out) (fun k => k ≤ p.ins.length) (fun k => p.ins.length - k) 0 (by simp) (by simp [stU, namesL]) (fun k hk => ?_)
      have hb : (namesL (p.ins.take k)).length ≤ psizes (p.ins.take k) := namesL_len _
      have ho := own1_len p
      refine AWp.seq ?_
      refine AWp.reg [] F39r4 [] (by kernel_rfl) (by rw [hC]; rfl) fun K hK => ?_
      simp [F39r4, stU]
      first | refine hK _ ?_ | refine ⟨by omega, hK _ ?_⟩ | refine ⟨by omega, by omega, hK _ ?_⟩ | refine ⟨by omega, by omega, by omega, hK _ ?_⟩ | refine ⟨by omega, by omega, by omega, by omega, hK _ ?_⟩
      refine AWp.seq ?_
      refine AWp.cond (decide (k < p.ins.length)) (by simp) (fun hlt => ?_) (fun hge => ?_)
      · skip
        have hlt : k < p.ins.length := by simpa using hlt
        have hd := namesL_snoc p.ins k hlt
        have hs := psizes_snoc p.ins k hlt
        have hs2 := psizes_take_le p.ins (k + 1)
        have hd2 : out ++ (own1 p ++ namesL (p.ins.take (k + 1))) = (out ++ (own1 p ++ namesL (p.ins.take k))) ++ names p.ins[k] := by rw [hd]; simp
        have hol : (out ++ (own1 p ++ namesL (p.ins.take k))).length ≤ out.length + 1 + psizes (p.ins.take k) := by simp; omega
        obtain ⟨o2, ho2⟩ : ∃ o2, out ++ (own1 p ++ namesL (p.ins.take k)) = o2 := ⟨_, rfl⟩
        rw [ho2] at hd2 hol
        rw [ho2]
        have hc := ih p.ins[k] o2 (by omega) (by omega)
        refine AWp.skip ?_
        refine AWp.seq ?_
        refine AWp.block ?_
        refine AWp.seq ?_
        refine AWp.reg [false, false, false, true] F39r5 [] (by kernel_rfl) (by rw [hC]; rfl) fun K hK => ?_
        simp [F39r5, hlt, encP_eq]
        first | refine hK _ ?_ | refine ⟨by omega, hK _ ?_⟩ | refine ⟨by omega, by omega, hK _ ?_⟩ | refine ⟨by omega, by omega, by omega, hK _ ?_⟩ | refine ⟨by omega, by omega, by omega, by omega, hK _ ?_⟩
        refine AWp.reg [] F39r6 [{ r := .tup [], us := [1000, 1001], bs := HU (o2 ++ names p.ins[k]) }] (by kernel_rfl) (by rw [hC]; rfl) fun K hK => ?_
        simp [F39r6]
        refine ⟨lookU_call (encP_eq _).symm rfl rfl hc, hK _ ?_⟩
        refine AWp.reg [] F39r7 [] (by kernel_rfl) (by rw [hC]; rfl) fun K hK => ?_
        simp [F39r7]
        first | refine hK _ ?_ | refine ⟨by omega, hK _ ?_⟩ | refine ⟨by omega, by omega, hK _ ?_⟩ | refine ⟨by omega, by omega, by omega, hK _ ?_⟩ | refine ⟨by omega, by omega, by omega, by omega, hK _ ?_⟩
        refine ⟨k + 1, by omega, by omega, ?_⟩
        simp only [stU, hd2]
        simp [wrap_nat k (by omega)]
      have hge : ¬ k < p.ins.length := by simpa using hge
      refine AWp.exit ?_
      refine ⟨.inl rfl, ⟨[], rfl, .refl⟩, rfl, ?_⟩
      rw [heq, List.take_of_length_le (show p.ins.length ≤ k by omega)]
      simp
    · skip
      by_cases hop : p.op = 2
      · have ho1 : own1 p = [p.rel] := by simp [own1, isUse, hop]
        refine AWp.seq ?_
        refine AWp.reg [] F39r1 [] (by kernel_rfl) (by rw [hC]; rfl) fun K hK => ?_
        simp [F39r1, encP_eq, hop]
        first | refine hK _ ?_ | refine ⟨by omega, hK _ ?_⟩ | refine ⟨by omega, by omega, hK _ ?_⟩ | refine ⟨by omega, by omega, by omega, hK _ ?_⟩ | refine ⟨by omega, by omega, by omega, by omega, hK _ ?_⟩
        refine AWp.cond true (by simp) (fun _ => ?_) (fun he => by cases he)
        refine AWp.reg [true, false, false, false, false, true] F39r2 [] (by kernel_rfl) (by rw [hC]; rfl) fun K hK => ?_
        simp [F39r2]
        first | refine hK _ ?_ | refine ⟨by omega, hK _ ?_⟩ | refine ⟨by omega, by omega, hK _ ?_⟩ | refine ⟨by omega, by omega, by omega, hK _ ?_⟩ | refine ⟨by omega, by omega, by omega, by omega, hK _ ?_⟩
        refine hJ _ () trivial ?_
        rw [ho1]
        simp [encP_eq, hop, texts, encT]
      · have hop' : (p.op == 2) = false := by simpa using hop
        refine AWp.seq ?_
        refine AWp.reg [] F39r1 [] (by kernel_rfl) (by rw [hC]; rfl) fun K hK => ?_
        simp [F39r1, encP_eq, hop]
        first | refine hK _ ?_ | refine ⟨by omega, hK _ ?_⟩ | refine ⟨by omega, by omega, hK _ ?_⟩ | refine ⟨by omega, by omega, by omega, hK _ ?_⟩ | refine ⟨by omega, by omega, by omega, by omega, hK _ ?_⟩
        by_cases hop4 : p.op = 4
        · have ho1 : own1 p = [p.rel] := by simp [own1, isUse, hop4]
          refine AWp.cond true (by simp [hop4]) (fun _ => ?_) (fun he => by cases he)
          refine AWp.reg [true, false, false, false, false, true] F39r2 [] (by kernel_rfl) (by rw [hC]; rfl) fun K hK => ?_
          simp [F39r2]
          first | refine hK _ ?_ | refine ⟨by omega, hK _ ?_⟩ | refine ⟨by omega, by omega, hK _ ?_⟩ | refine ⟨by omega, by omega, by omega, hK _ ?_⟩ | refine ⟨by omega, by omega, by omega, by omega, hK _ ?_⟩
          refine hJ _ () trivial ?_
          rw [ho1]
          simp [encP_eq, texts, encT]
        · have ho1 : own1 p = [] := by simp [own1, isUse, hop, hop4]
          refine AWp.cond false (by simp [hop4]) (fun he => by cases he) (fun _ => ?_)
          refine AWp.skip ?_
          refine hJ _ () trivial ?_
          rw [ho1]
          simp [encP_eq]
theorem texts_flat (l : List ByteArray) : (texts l).flatten = l.map sval := by
  induction l with
  | nil => rfl
  | cons x l ih => simp only [texts, List.map_cons, List.flatten_cons] at ih ⊢; rw [ih]; rfl
def notStr : Value → Bool
  | .string _ => false
  | _ => true
theorem Rsv.vecS {g : Nat → Option Blk} {b e n cap : Nat} {t : TypeId} {l : List ByteArray} (h : g b = some (.cells t (cellsS l e))) (hn : n = l.length) (hc : l.length ≤ cap) : Rsv g (.vec b 1 0 n cap) (.rd 1 (texts l)) := by
  subst hn
  have hnr : norefL (cellsS l e) = true := by simp [cellsS, sval]
  have := Rsv.vec (w := 1) (off := 0) (n := l.length) (cap := cap) h (RsvL.closed hnr) (by simp [cellsS]) hc
  rw [List.drop_zero] at this
  have h2 : chunk 1 l.length (cellsS l e) = texts l := by
    unfold chunk
    apply List.ext_getElem
    · simp [texts]
    · intro i h1 h2
      simp only [List.length_map, List.length_range] at h1
      simp [List.take_one, List.head?_drop, cellsS, List.getElem?_append_left, h1, texts, encT, sval]
  rw [h2] at this
  exact this
@[simp] theorem cellsS_within (ids : List Nat) (l : List ByteArray) (e : Nat) : withinL ids (cellsS l e) = true := by simp [cellsS, sval]
theorem UsesP_ok (p : PlanD) (hp : psize p ≤ 4194304) : Con Try.prog 21 [encPX p] (.rd 1 (texts (cmpT (srt (names p))))) := by
  have hnl := names_len p
  refine Con.of_code2 Try.func21 (by kernel_rfl) rfl (by simp [Try.ntmps21]) fun C hC hM hF => ?_
  refine AWp.seq ?_
  refine AWp.reg [false, true] F21r0 [] (by kernel_rfl) (by rw [hC]; rfl) fun K hK => ?_
  simp [F21r0, encP_eq]
  first | refine hK _ ?_ | refine ⟨by omega, hK _ ?_⟩ | refine ⟨by omega, by omega, hK _ ?_⟩ | refine ⟨by omega, by omega, by omega, hK _ ?_⟩ | refine ⟨by omega, by omega, by omega, by omega, hK _ ?_⟩
  refine AWp.seq ?_
  refine AWp.reg [] F21r1 [] (by kernel_rfl) (by rw [hC]; rfl) fun K hK => ?_
  simp [F21r1, encP_eq]
  first | refine hK _ ?_ | refine ⟨by omega, hK _ ?_⟩ | refine ⟨by omega, by omega, hK _ ?_⟩ | refine ⟨by omega, by omega, by omega, hK _ ?_⟩ | refine ⟨by omega, by omega, by omega, by omega, hK _ ?_⟩
  refine AWp.seq ?_
  refine AWp.reg [] F21r2 [] (by kernel_rfl) (by rw [hC]; rfl) fun K hK => ?_
  simp [F21r2, encP_eq]
  first | refine hK _ ?_ | refine ⟨by omega, hK _ ?_⟩ | refine ⟨by omega, by omega, hK _ ?_⟩ | refine ⟨by omega, by omega, by omega, hK _ ?_⟩ | refine ⟨by omega, by omega, by omega, by omega, hK _ ?_⟩
  refine AWp.seq ?_
  refine AWp.reg [false, true] F21r3 [] (by kernel_rfl) (by rw [hC]; rfl) fun K hK => ?_
  simp [F21r3, encP_eq]
  first | refine hK _ ?_ | refine ⟨by omega, hK _ ?_⟩ | refine ⟨by omega, by omega, hK _ ?_⟩ | refine ⟨by omega, by omega, by omega, hK _ ?_⟩ | refine ⟨by omega, by omega, by omega, by omega, hK _ ?_⟩
  refine AWp.seq ?_
  refine AWp.renP hM 3 1000 (by decide) (by simp) _ rfl ?_
  refine AWp.renP hM 4 1001 (by decide) (by simp) _ rfl ?_
  refine AWp.forget (s' := { tm := [(1, .ptr 1 0), (3, .ptr 1000 0), (4, .ptr 1001 0)], hp := [(1, .cells 72 (encP p))] ++ HU [] }) (by simp [texts, encP_eq]) ?_
  refine AWp.reg [] F21r4 [{ r := .tup [], us := [1000, 1001], bs := HU (names p) }] (by kernel_rfl) (by rw [hC]; rfl) fun K hK => ?_
  simp [F21r4, encP_eq]
  refine ⟨lookU_call (encP_eq _).symm rfl rfl (by simpa using lookU_ok _ p [] (Nat.lt_succ_self _) (by simpa using hp)), hK _ ?_⟩
  by_cases hnm : names p = []
  · rw [hnm]
    refine AWp.forget (s' := { tm := [(3, .ptr 1000 0)], hp := [(1000, .cells 32 [.own 9 1 (texts [])])] }) (by simp) ?_
    refine AWp.seq ?_
    refine AWp.reg [] F21r5 [{ r := .tup [] }] (by kernel_rfl) (by rw [hC]; rfl) fun K hK => ?_
    simp [F21r5, texts]
    refine ⟨callOK rfl Sort_none, hK _ ?_⟩
    refine AWp.seq ?_
    refine AWp.reg [false, false, true] F21r6 [{ r := .rd 1 [] }] (by kernel_rfl) (by rw [hC]; rfl) fun K hK => ?_
    simp [F21r6]
    refine ⟨callOK rfl Compact_none, hK _ ?_⟩
    repeat refine AWp.seq ?_
    refine AWp.ret ⟨.inr rfl, _, by simp [Try.results21] <;> rfl, ?_⟩
    have : cmpT (srt []) = [] := by
      have h1 := cmpT_len (srt [])
      rw [srt_len] at h1
      exact List.eq_nil_of_length_eq_zero (by simpa using h1)
    rw [this]
    exact .closed rfl
  · generalize names p = nm at *
    have hnp : 0 < nm.length := List.length_pos_iff.2 hnm
    refine AWp.forget (s' := { tm := [(3, .ptr 1000 0)], hp := [(1000, .cells 32 [.own 9 1 (texts nm)])] }) (by simp) ?_
    refine AWp.thaw hM hF notStr 1000 0 9 (k0 := .cells 32 [.own 9 1 (texts nm)]) (e := 9) (wd := 1) (rows := texts nm) rfl rfl (by simpa [texts] using hnm) (by rw [hC]; decide) rfl (fun r hr x hx => by
      simp only [texts, List.mem_map] at hr
      obtain ⟨s, _, rfl⟩ := hr
      simp only [encT, List.mem_singleton] at hx
      exact ⟨.string s, hx, rfl⟩) (by rfl) (fun cap hc1 _ => ?_)
    obtain ⟨e, rfl⟩ : ∃ e, cap = nm.length + e := ⟨cap - nm.length, by simp [texts] at hc1; omega⟩
    have hlt : (texts nm).length = nm.length := by simp [texts]
    have hr : renL 9 1002 (nm.map sval ++ List.replicate e .unk) = nm.map sval ++ List.replicate e .unk := renL_noref _ _ _ (by simp [sval])
    refine AWp.renP hM 9 1002 (by decide) (by simp) _ rfl ?_
    refine AWp.forget (s' := { tm := [(3, .ptr 1000 0)], hp := [(1000, .cells 32 [.vec 1002 1 0 nm.length (nm.length + e)]), (1002, .cells 9 (cellsS nm e))] }) (by simp [thawed, texts_flat, cellsS, AS.setB, ins, Blk.set, hlt, hr]) ?_
    refine AWp.seq ?_
    refine AWp.reg [] F21r5 [{ r := .tup [], us := [1002], bs := HS (srt nm) e }] (by kernel_rfl) (by rw [hC]; rfl) fun K hK => ?_
    simp [F21r5]
    refine ⟨callM_same (Sort_con nm e (by omega)) (.cons .refl .nil) rfl rfl (by simp [HS]) (by simp [HS]) (by simp [HS]), hK _ ?_⟩
    refine AWp.seq ?_
    refine AWp.reg [false, false, true] F21r6 [{ r := .vec 1002 1 0 (cmpT (srt nm)).length ((srt nm).length + e), us := [1002], bs := HS (cmpT (srt nm)) ((srt nm).length - (cmpT (srt nm)).length + e) }] (by kernel_rfl) (by rw [hC]; rfl) fun K hK => ?_
    simp [F21r6]
    refine ⟨callM_same (Compact_con (srt nm) e (by rw [srt_len]; omega)) (.cons (by rw [srt_len]; exact .refl) .nil) rfl rfl (by simp [HS]) (by simp [HS]) (by simp [HS]), hK _ ?_⟩
    repeat refine AWp.seq ?_
    refine AWp.ret ⟨.inr rfl, _, by simp [Try.results21] <;> rfl, ?_⟩
    exact Rsv.vecS rfl rfl (by have := cmpT_len (srt nm); omega)
end Go.Sl
