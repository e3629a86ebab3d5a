/- A value's text: value.Show, of bools, numbers and texts. -/
import Derived.Test.YtdobngcdgkallaaGreatDoorAlT
set_option linter.unusedSimpArgs false
set_option linter.unusedVariables false
set_option linter.unusedSectionVars false
open Go Go.Aw Go.Proofs
namespace Go.Al
set_option maxRecDepth 20000
-- function 152: corollary/value.Show$2
def F152r0 : List ROp := [⟨some 3,.box 56 (.tmp 0),[],none⟩]
def F152r1 : List ROp := [⟨some 4,.fad 0 (.tmp 3),[],none⟩,
 ⟨some 5,.load 1 false false (.tmp 4),[],none⟩]
def F152r2 : List ROp := [⟨some 6,.fad 2 (.tmp 3),[],none⟩,
 ⟨some 7,.load 1 false false (.tmp 6),[],none⟩,
 ⟨some 8,.call (.func 100) [.tmp 1,.tmp 7],[],none⟩]
def F152r3 : List ROp := [⟨some 9,.fad 3 (.tmp 3),[],none⟩,
 ⟨some 10,.load 1 false false (.tmp 9),[],none⟩,
 ⟨some 11,.len 0 (.tmp 10),[],none⟩,
 ⟨some 12,.bin .gtr (.tmp 11) (.const (.int .i64 0)),[],none⟩]
def F152r4 : List ROp := [⟨some 13,.load 1 false false (.tmp 2),[],none⟩,
 ⟨some 14,.fad 3 (.tmp 3),[],none⟩,
 ⟨some 15,.load 1 false false (.tmp 14),[],none⟩,
 ⟨some 16,.call (.tmp 13) [.tmp 15],[],none⟩]
def F152r5 : List ROp := [⟨some 18,.bin .eql (.tmp 5) (.const (.int .u8 1)),[],none⟩,
 ⟨some 17,.copy true (.tmp 18),[],none⟩]
def F152r6 : List ROp := [⟨some 19,.fad 1 (.tmp 3),[],none⟩,
 ⟨some 20,.load 1 false false (.tmp 19),[],none⟩,
 ⟨some 21,.bin .eql (.tmp 20) (.const (.int .i64 1)),[],none⟩,
 ⟨some 22,.call (.func 153) [.tmp 21],[],none⟩,
 ⟨some 23,.call (.func 100) [.tmp 1,.tmp 22],[],none⟩]
def F152r7 : List ROp := [⟨some 25,.bin .eql (.tmp 5) (.const (.int .u8 2)),[],none⟩,
 ⟨some 24,.copy true (.tmp 25),[],none⟩]
def F152r8 : List ROp := [⟨some 26,.fad 1 (.tmp 3),[],none⟩,
 ⟨some 27,.load 1 false false (.tmp 26),[],none⟩,
 ⟨some 28,.call (.func 154) [.tmp 27,.const (.int .i64 10)],[],none⟩,
 ⟨some 29,.call (.func 100) [.tmp 1,.tmp 28],[],none⟩]
def F152r9 : List ROp := [⟨some 31,.bin .eql (.tmp 5) (.const (.int .u8 3)),[],none⟩,
 ⟨some 30,.copy true (.tmp 31),[],none⟩]
def F152r10 : List ROp := [⟨some 32,.fad 2 (.tmp 3),[],none⟩,
 ⟨some 33,.load 1 false false (.tmp 32),[],none⟩,
 ⟨some 34,.call (.func 100) [.tmp 1,.tmp 33],[],none⟩]
def F152r11 : List ROp := [⟨some 35,.call (.func 102) [.tmp 1,.const (.int .u8 98)],[],none⟩]
def F152r12 : List ROp := [⟨some 37,.bin .eql (.tmp 5) (.const (.int .u8 4)),[],none⟩,
 ⟨some 36,.copy true (.tmp 37),[],none⟩]
def F152r13 : List ROp := [⟨some 38,.fad 2 (.tmp 3),[],none⟩,
 ⟨some 39,.load 1 false false (.tmp 38),[],none⟩,
 ⟨some 40,.call (.func 155) [.tmp 1,.tmp 39],[],none⟩]
def F152r14 : List ROp := [⟨some 42,.bin .eql (.tmp 5) (.const (.int .u8 5)),[],none⟩,
 ⟨some 41,.copy true (.tmp 42),[],none⟩]
def F152r15 : List ROp := [⟨some 43,.load 1 false false (.tmp 2),[],none⟩,
 ⟨some 44,.fad 3 (.tmp 3),[],none⟩,
 ⟨some 45,.load 1 false false (.tmp 44),[],none⟩,
 ⟨some 46,.call (.tmp 43) [.tmp 45],[],none⟩]
-- function 101: corollary/value.Show
def F101r0 : List ROp := [⟨some 1,.box 56 (.tmp 0),[],none⟩,
 ⟨some 2,.copy true (.const (.string { data := #[] })),[],none⟩]
def F101r1 : List ROp := [⟨some 6,.load 4 true false (.tmp 1),[],none⟩,
 ⟨some 7,.call (.func 146) [.tmp 6],[],none⟩,
 ⟨some 8,.bin .neq (.tmp 7) (.const (.int .i64 0)),[],none⟩]
def F101r2 : List ROp := [⟨some 2,.copy true (.const (.string { data := #[] })),[],none⟩]
def F101r3 : List ROp := [⟨some 3,.alloc 118 [Value.pointer none,Value.slice none 0 0],[],none⟩]
def F101r4 : List ROp := [⟨some 4,.alloc 185 [Value.nilFunc],[],none⟩]
def F101r5 : List ROp := [⟨some 9,.mkf (Go.Fn.func 151) [.tmp 3,.tmp 4],[],none⟩,
 ⟨some 5,.alloc 186 [Value.nilFunc],[],none⟩,
 ⟨none,.store 1 true (.tmp 5) (.tmp 9),[],none⟩]
def F101r6 : List ROp := [⟨some 10,.mkf (Go.Fn.func 152) [.tmp 3,.tmp 5],[],none⟩,
 ⟨none,.store 1 true (.tmp 4) (.tmp 10),[],none⟩]
def F101r7 : List ROp := [⟨some 11,.load 1 false false (.tmp 4),[],none⟩,
 ⟨some 12,.load 4 true false (.tmp 1),[],none⟩,
 ⟨some 13,.call (.tmp 11) [.tmp 12],[],none⟩]
def F101r8 : List ROp := [⟨some 14,.call (.func 77) [.tmp 3],[],none⟩,
 ⟨some 2,.copy true (.tmp 14),[],none⟩]
attribute [local simp] valX encV_eq
attribute [local simp] HB bB
theorem gl_tab {fz : Fz} {w : World} (hf : FzOK fz w) (hg : GLok fz) : ∃ t f, w.heap[1]? = some (.cells (pow10s.map fun z => Value.int .u64 z).toArray t f) := by
 obtain ⟨o, h1, t, f, rfl⟩ := hg _ (List.mem_cons_of_mem _ (List.mem_cons_self ..))
 exact ⟨t, f, hf.2 _ _ h1⟩
theorem glob1 : ∀ nm, Tryz.prog.globalNamed nm = some 1 → ∀ (w : World) t f, w.heap[1]? = some (.cells (pow10s.map fun z => Value.int .u64 z).toArray t f) → Lib.TabIs Tryz.prog w nm .u64 Lib.pow10Tab := by
 intro nm hn w t f hw
 unfold Lib.TabIs World.var?
 rw [hn]
 simp only [Option.bind_some, hw]
 rfl
theorem FormatBool_ok (b : Bool) : Con Tryz.prog 153 [bval b] (sval ⟨(Lib.formatBool b).toArray⟩) :=
 Con.libG [.bool b] _ ⟨_, Tryz.func153, by kernel_rfl, rfl⟩ fun fz w hf hg => by
  refine (Tryz.strconv_FormatBool b w).mono ?_
  rintro e w' ⟨rfl, rfl⟩
  exact ⟨rfl, Ext.refl _⟩
theorem FormatInt_ok (n : Int) (h0 : -9223372036854775808 ≤ n) (h1 : n ≤ 9223372036854775807) : Con Tryz.prog 154 [ival n, ival 10] (sval ⟨(Lib.itoa n).toArray⟩) :=
 Con.libG [.int .i64 n, .int .i64 10] _ ⟨_, Tryz.func154, by kernel_rfl, rfl⟩ fun fz w hf hg => by
  obtain ⟨t, f, hw⟩ := gl_tab hf hg
  refine (Tryz.strconv_FormatInt_10 n h0 h1 w (glob1 _ (by kernel_rfl) w t f hw)).mono ?_
  rintro e w' ⟨rfl, k, os, rfl⟩
  refine ⟨rfl, rfl, rfl, rfl, ?_, fun k hk => ?_⟩
  ·simp [Go.Sort.grow]
  ·show (w.heap ++ os)[k]? = _
   exact Array.getElem?_append_left hk
theorem bl_mk (l : List UInt8) : bl ⟨l.toArray⟩ = l := rfl
theorem Show2_ok (u : Bool) (v : ValD) (hk : 1 ≤ v.kind ∧ v.kind ≤ 4) (hr : rangeV v) (hs : v.s.size ≤ 4194304) :
  ConM Tryz.prog 152 (HB 118 u []) [valX v, .ptr 1000 0, .unk] (.tup []) (HB 118 true (txtV v)) := by
 have hT : (118 : Nat) = 118 ∨ (118 : Nat) = 120 := .inl rfl
 have hb1 := FormatBool_ok (decide (v.n = 1))
 have hb2 := FormatInt_ok v.n hr.1 hr.2
 have hlb : (Lib.formatBool (decide (v.n = 1))).length ≤ 5 := by cases decide (v.n = 1) <;> decide
 have hli := Lib.itoa_length_le v.n hr.1 hr.2
 have hw1 := WriteString_ok 118 hT u [] ⟨(Lib.formatBool (decide (v.n = 1))).toArray⟩ (by simp [ByteArray.size]; omega)
 have hw2 := WriteString_ok 118 hT u [] ⟨(Lib.itoa v.n).toArray⟩ (by simp [ByteArray.size]; omega)
 have hw3 := WriteString_ok 118 hT u [] v.s (by simp; omega)
 have hq := quote_ok 118 hT u [] v.s hs (by simp)
 have hbl := bl_len v.s
 have hw4 : ConM Tryz.prog 102 (HB 118 true (bl v.s)) [.ptr 1000 0, uval 98] (.val .nilIface) (HB 118 true (bl v.s ++ [98])) := WriteByte_ok 118 hT true (bl v.s) 98 (by omega)
 rw [bl_mk, List.nil_append] at hw1 hw2
 rw [List.nil_append] at hw3 hq
 refine ConM.of_code Tryz.func152 (by kernel_rfl) rfl (by simp [Tryz.ntmps152]) (by simp [Tryz.ntmps152]) (hand_of rfl) (more_of rfl) rfl (fun C hC hρ => ?_)
 refine AWp.seq ?_
 refine AWp.regK [1,2,3] [] F152r0 [] (by kernel_rfl) (by rw [hC]; rfl) fun K hK => ?_
 simp (maxSteps := 2000000) [F152r0]
 refine hK _ ?_
 refine AWp.seq ?_
 refine AWp.regK [1,2,3,5] [] F152r1 [] (by kernel_rfl) (by rw [hC]; rfl) fun K hK => ?_
 simp (maxSteps := 2000000) [F152r1]
 refine hK _ ?_
 refine AWp.block ?_
 refine AWp.seq ?_
 refine AWp.regK [1,2,3,5,17] [false,true] F152r5 [] (by kernel_rfl) (by rw [hC]; rfl) fun K hK => ?_
 simp (maxSteps := 2000000) [F152r5]
 refine hK _ ?_
 refine AWp.cond _ (by rfl) (fun h1 => ?_) (fun h1 => ?_)
 ·skip
  have h1 : v.kind = 1 := by simpa using h1
  refine AWp.regK [] [] F152r6 [{ r := sval ⟨(Lib.formatBool (decide (v.n = 1))).toArray⟩ },{ r := .tup [ival (Lib.formatBool (decide (v.n = 1))).length,.val .nilIface],us := [1000],bs := HB 118 true (Lib.formatBool (decide (v.n = 1))) }] (by kernel_rfl) (by rw [hC]; rfl) fun K hK => ?_
  simp (maxSteps := 2000000) [F152r6]
  (repeat first | refine ⟨by first | kernel_rfl | (intros; omega) | assumption, ?_⟩ | refine ⟨by intros; exact callOK rfl hb1, ?_⟩ | refine ⟨by intros; exact callB hw1 (.cons .refl (.cons .refl .nil)) rfl rfl, ?_⟩); refine hK _ ?_
  refine ⟨.inl rfl, ⟨[], rfl, .refl⟩, rfl, ?_⟩
  unfold txtV
  simp [h1]
 have h1 : ¬ v.kind = 1 := by simpa using h1
 refine AWp.seq ?_
 refine AWp.regK [1,2,3,5,24] [false,true] F152r7 [] (by kernel_rfl) (by rw [hC]; rfl) fun K hK => ?_
 simp (maxSteps := 2000000) [F152r7]
 refine hK _ ?_
 refine AWp.cond _ (by rfl) (fun h2 => ?_) (fun h2 => ?_)
 ·skip
  have h2 : v.kind = 2 := by simpa using h2
  refine AWp.regK [] [] F152r8 [{ r := sval ⟨(Lib.itoa v.n).toArray⟩ },{ r := .tup [ival (Lib.itoa v.n).length,.val .nilIface],us := [1000],bs := HB 118 true (Lib.itoa v.n) }] (by kernel_rfl) (by rw [hC]; rfl) fun K hK => ?_
  simp (maxSteps := 2000000) [F152r8]
  (repeat first | refine ⟨by first | kernel_rfl | (intros; omega) | assumption, ?_⟩ | refine ⟨by intros; exact callOK rfl hb2, ?_⟩ | refine ⟨by intros; exact callB hw2 (.cons .refl (.cons .refl .nil)) rfl rfl, ?_⟩); refine hK _ ?_
  refine ⟨.inl rfl, ⟨[], rfl, .refl⟩, rfl, ?_⟩
  unfold txtV
  simp [h2]
 have h2 : ¬ v.kind = 2 := by simpa using h2
 refine AWp.seq ?_
 refine AWp.regK [1,2,3,5,30] [false,true] F152r9 [] (by kernel_rfl) (by rw [hC]; rfl) fun K hK => ?_
 simp (maxSteps := 2000000) [F152r9]
 refine hK _ ?_
 refine AWp.cond _ (by rfl) (fun h3 => ?_) (fun h3 => ?_)
 ·skip
  have h3 : v.kind = 3 := by simpa using h3
  refine AWp.seq ?_
  refine AWp.regK [1] [] F152r10 [{ r := .tup [ival v.s.size,.val .nilIface],us := [1000],bs := HB 118 true (bl v.s) }] (by kernel_rfl) (by rw [hC]; rfl) fun K hK => ?_
  simp (maxSteps := 2000000) [F152r10]
  (repeat first | refine ⟨by first | kernel_rfl | (intros; omega) | assumption, ?_⟩ | refine ⟨by intros; exact callB hw3 (.cons .refl (.cons .refl .nil)) rfl rfl, ?_⟩); refine hK _ ?_
  refine AWp.regK [] [] F152r11 [{ r := .val .nilIface,us := [1000],bs := HB 118 true (bl v.s ++ [98]) }] (by kernel_rfl) (by rw [hC]; rfl) fun K hK => ?_
  simp (maxSteps := 2000000) [F152r11]
  (repeat first | refine ⟨by first | kernel_rfl | (intros; omega) | assumption, ?_⟩ | refine ⟨by intros; exact callB hw4 (.cons .refl (.cons .refl .nil)) rfl rfl, ?_⟩); refine hK _ ?_
  refine ⟨.inl rfl, ⟨[], rfl, .refl⟩, rfl, ?_⟩
  unfold txtV
  simp [h3]
 have h3 : ¬ v.kind = 3 := by simpa using h3
 refine AWp.seq ?_
 refine AWp.regK [1,2,3,5,36] [false,true] F152r12 [] (by kernel_rfl) (by rw [hC]; rfl) fun K hK => ?_
 simp (maxSteps := 2000000) [F152r12]
 refine hK _ ?_
 refine AWp.cond _ (by rfl) (fun h4 => ?_) (fun h4 => ?_)
 ·skip
  have h4 : v.kind = 4 := by simpa using h4
  refine AWp.regK [] [] F152r13 [{ r := .tup [],us := [1000],bs := HB 118 true (quoteB (bl v.s)) }] (by kernel_rfl) (by rw [hC]; rfl) fun K hK => ?_
  simp (maxSteps := 2000000) [F152r13]
  (repeat first | refine ⟨by first | kernel_rfl | (intros; omega) | assumption, ?_⟩ | refine ⟨by intros; exact callB hq (.cons .refl (.cons .refl .nil)) rfl rfl, ?_⟩); refine hK _ ?_
  refine ⟨.inl rfl, ⟨[], rfl, .refl⟩, rfl, ?_⟩
  unfold txtV
  simp [h4]
 have h4 : ¬ v.kind = 4 := by simpa using h4
 omega
theorem String_ok (T : Nat) (x0 : AV) (h0 : isOwn x0 = false) (l : List UInt8) (hl : l ≠ []) :
  ConM Tryz.prog 77 [(1000, .cells T [x0, .own 5 1 (brows l)])] [.ptr 1000 0] (sval ⟨l.toArray⟩) [(1000, .cells T [x0, .unk])] := by
 refine ConM.text ⟨_, Tryz.func77, by kernel_rfl, rfl⟩ h0 hl ?_
 intro w c g cap v0 cur h1 h2 h3 h4 h5 h6
 exact Tryz.string_exact c g cap cur l w hl (by simp [World.cell?, h1]) h2 h3 h4 h5 h6
theorem txtV_ne (v : ValD) (hr : rangeV v) : txtV v ≠ [] := by
 have hne : ∀ l : List UInt8, 0 < l.length → l ≠ [] := fun l h e => by rw [e] at h; simp at h
 refine hne _ ?_
 unfold txtV
 split
 ·cases decide (v.n = 1) <;> decide
 ·split
  ·unfold Lib.itoa Lib.decDigits
   repeat' split
   all_goals simp
  ·split
   ·simp
   ·simp [quoteB]
theorem Show_ok (v : ValD) (hk : 1 ≤ v.kind ∧ v.kind ≤ 4) (hc : Check v = 0) (hr : rangeV v) (hs : vsize v ≤ 4194304) : Con Tryz.prog 101 [valX v] (sval ⟨(txtV v).toArray⟩) := by
 have hvs := vsize_eq v
 have hck := CheckP_ok v hs
 rw [hc] at hck
 have h2 := Show2_ok false v hk hr (by omega)
 have hst := String_ok 118 (.ptr 1000 0) rfl (txtV v) (txtV_ne v hr)
 refine Con.of_code Tryz.func101 (by kernel_rfl) rfl (by simp [Tryz.ntmps101]) fun C hC hM => ?_
 refine AWp.seq ?_
 refine AWp.regK [1] [false,true] F101r0 [] (by kernel_rfl) (by rw [hC]; rfl) fun K hK => ?_
 simp (maxSteps := 2000000) [F101r0]
 refine hK _ ?_
 refine AWp.seq ?_
 refine AWp.seq ?_
 refine AWp.regK [1,8] [] F101r1 [{ r := ival 0 }] (by kernel_rfl) (by rw [hC]; rfl) fun K hK => ?_
 simp (maxSteps := 2000000) [F101r1]
 (repeat first | refine ⟨by first | kernel_rfl | (intros; omega) | assumption, ?_⟩ | refine ⟨by intros; exact callOK rfl hck, ?_⟩); refine hK _ ?_
 refine AWp.cond false (by simp) (fun he => by cases he) (fun _ => ?_)
 refine AWp.skip ?_
 refine AWp.seq ?_
 refine AWp.regK [1,3] [] F101r3 [] (by kernel_rfl) (by rw [hC]; rfl) fun K hK => ?_
 simp (maxSteps := 2000000) [F101r3]
 refine hK _ ?_
 refine AWp.seq ?_
 refine AWp.regK [1,3,4] [] F101r4 [] (by kernel_rfl) (by rw [hC]; rfl) fun K hK => ?_
 simp (maxSteps := 2000000) [F101r4]
 refine hK _ ?_
 refine AWp.seq ?_
 refine AWp.regK [1,3,4,5] [false,false,true] F101r5 [] (by kernel_rfl) (by rw [hC]; rfl) fun K hK => ?_
 simp (maxSteps := 2000000) [F101r5]
 refine hK _ ?_
 refine AWp.seq ?_
 refine AWp.regK [1,3,4] [false,true] F101r6 [] (by kernel_rfl) (by rw [hC]; rfl) fun K hK => ?_
 simp (maxSteps := 2000000) [F101r6]
 refine hK _ ?_
 refine AWp.seq ?_
 refine AWp.renP hM 3 1000 (by decide) (by simp) _ rfl ?_
 refine AWp.forget (s' := { tm := [(1, .ptr 1 0), (3, .ptr 1000 0), (4, .ptr 4 0)], hp := [(1, .cells 56 (encV v)), (1000, bB 118 false []), (4, .cells 185 [.clo (.func 152) [.ptr 1000 0, .ptr 5 0]]), (5, .cells 186 [.unk])] }) (by simp [pA, brows]) ?_
 refine AWp.regK [3] [] F101r7 [{ r := .tup [],us := [1000],bs := HB 118 true (txtV v) }] (by kernel_rfl) (by rw [hC]; rfl) fun K hK => ?_
 simp (maxSteps := 2000000) [F101r7]
 (repeat first | refine ⟨by first | kernel_rfl | (intros; omega) | assumption, ?_⟩ | refine ⟨by intros; exact callB h2 (.cons .refl (.cons .refl (.cons .unk .nil))) rfl rfl, ?_⟩); refine hK _ ?_
 refine AWp.seq ?_
 refine AWp.regK [2] [false,true] F101r8 [{ r := sval ⟨(txtV v).toArray⟩,us := [1000],bs := [(1000,.cells 118 [.ptr 1000 0,.unk])] }] (by kernel_rfl) (by rw [hC]; rfl) fun K hK => ?_
 simp (maxSteps := 2000000) [F101r8]
 (repeat first | refine ⟨by first | kernel_rfl | (intros; omega) | assumption, ?_⟩ | refine ⟨by intros; exact callM_same hst (.cons .refl .nil) rfl rfl (by simp) (by simp) (by simp), ?_⟩); refine hK _ ?_
 repeat refine AWp.seq ?_
 refine AWp.ret ⟨.inr rfl, _, by simp [Tryz.results101] <;> rfl, ?_⟩
 exact .closed rfl
end Go.Al
