/- strings.Builder: its contracts here; a text in quotes; a value's text. -/
import Derived.Test.YtdobngcdgkallaaGreatDoorAlStr
import Derived.Test.YtdobngcdgkallaaGreatDoorAlSp
import Derived.Test.YtdobngcdgkallaaGreatDoorAlD
import Derived.Test.YtdobngcdgkallaaGreatDoorAwZk
set_option linter.unusedSimpArgs false
set_option linter.unusedVariables false
set_option linter.unusedSectionVars false
open Go Go.Aw Go.Proofs
namespace Go.Al
set_option maxRecDepth 20000
-- function 100: (*strings.Builder).WriteString
def F100r0 : List ROp := [⟨some 4,.copy true (.const (.int .i64 0)),[],none⟩,
 ⟨some 5,.copy true (.const (.nilIface)),[],none⟩]
def F100r1 : List ROp := [⟨some 6,.copy false (.tmp 0),[],none⟩,
 ⟨some 7,.call (.func 150) [.tmp 6],[],none⟩]
def F100r2 : List ROp := [⟨some 8,.copy false (.tmp 0),[],none⟩,
 ⟨some 9,.copy false (.tmp 0),[],none⟩,
 ⟨some 10,.x1 0 (.tmp 9),[],none⟩,
 ⟨some 11,.fad 1 (.tmp 10),[],none⟩,
 ⟨some 12,.load 1 false true (.tmp 11),[],none⟩,
 ⟨some 13,.copy false (.tmp 1),[],none⟩,
 ⟨some 14,.apps 5 1 (.tmp 12) (.tmp 13),[],none⟩,
 ⟨some 15,.x1 0 (.tmp 8),[],none⟩,
 ⟨some 16,.fad 1 (.tmp 15),[],none⟩,
 ⟨none,.store 1 true (.tmp 16) (.tmp 14),[],none⟩]
def F100r3 : List ROp := [⟨some 17,.copy false (.tmp 1),[],none⟩,
 ⟨some 18,.len 1 (.tmp 17),[],none⟩,
 ⟨some 4,.copy true (.tmp 18),[],none⟩,
 ⟨some 5,.copy true (.const (.nilIface)),[],none⟩]
-- function 102: (*strings.Builder).WriteByte
def F102r0 : List ROp := [⟨some 4,.copy true (.const (.nilIface)),[],none⟩]
def F102r1 : List ROp := [⟨some 5,.copy false (.tmp 0),[],none⟩,
 ⟨some 6,.call (.func 150) [.tmp 5],[],none⟩]
def F102r2 : List ROp := [⟨some 7,.copy false (.tmp 0),[],none⟩,
 ⟨some 8,.copy false (.tmp 0),[],none⟩,
 ⟨some 9,.x1 0 (.tmp 8),[],none⟩,
 ⟨some 10,.fad 1 (.tmp 9),[],none⟩,
 ⟨some 11,.load 1 false true (.tmp 10),[],none⟩,
 ⟨some 12,.copy false (.tmp 1),[],none⟩,
 ⟨some 13,.bslice 5 1 [Value.int .u8 0] 1 [(0,.tmp 12)],[],none⟩,
 ⟨some 14,.app 5 1 1 (.tmp 11) (.tmp 13),[],none⟩,
 ⟨some 15,.x1 0 (.tmp 7),[],none⟩,
 ⟨some 16,.fad 1 (.tmp 15),[],none⟩,
 ⟨none,.store 1 true (.tmp 16) (.tmp 14),[],none⟩]
def F102r3 : List ROp := [⟨some 4,.copy true (.const (.nilIface)),[],none⟩]
-- function 155: corollary/value.quote
def F155r0 : List ROp := [⟨some 6,.copy false (.tmp 0),[],none⟩,
 ⟨some 7,.call (.func 102) [.tmp 6,.const (.int .u8 34)],[],none⟩]
def F155r1 : List ROp := [⟨some 8,.copy false (.tmp 1),[],none⟩,
 ⟨some 9,.len 1 (.tmp 8),[],none⟩,
 ⟨some 10,.copy false (.const (.int .i64 0)),[],none⟩]
def F155r2 : List ROp := [⟨some 11,.bin .lss (.tmp 10) (.tmp 9),[],none⟩]
def F155r3 : List ROp := [⟨some 12,.copy true (.tmp 10),[],none⟩,
 ⟨some 4,.copy true (.tmp 12),[],none⟩]
def F155r4 : List ROp := [⟨some 13,.copy false (.tmp 1),[],none⟩,
 ⟨some 14,.copy false (.tmp 4),[],none⟩,
 ⟨some 15,.idxs (.tmp 13) (.tmp 14),[],none⟩,
 ⟨some 5,.copy true (.tmp 15),[],none⟩]
def F155r5 : List ROp := [⟨some 16,.copy false (.tmp 0),[],none⟩,
 ⟨some 17,.call (.func 100) [.tmp 16,.const (.string { data := #[92,120] })],[],none⟩]
def F155r6 : List ROp := [⟨some 18,.copy false (.tmp 0),[],none⟩,
 ⟨some 19,.copy false (.tmp 5),[],none⟩,
 ⟨some 20,.bin .shr (.tmp 19) (.const (.int .u64 4)),[],none⟩,
 ⟨some 21,.idxs (.const (.string { data := #[48,49,50,51,52,53,54,55,56,57,97,98,99,100,101,102] })) (.tmp 20),[],none⟩,
 ⟨some 22,.call (.func 102) [.tmp 18,.tmp 21],[],none⟩]
def F155r7 : List ROp := [⟨some 23,.copy false (.tmp 0),[],none⟩,
 ⟨some 24,.copy false (.tmp 5),[],none⟩,
 ⟨some 25,.bin .and (.tmp 24) (.const (.int .u8 15)),[],none⟩,
 ⟨some 26,.idxs (.const (.string { data := #[48,49,50,51,52,53,54,55,56,57,97,98,99,100,101,102] })) (.tmp 25),[],none⟩,
 ⟨some 27,.call (.func 102) [.tmp 23,.tmp 26],[],none⟩]
def F155r8 : List ROp := [⟨some 29,.copy false (.tmp 5),[],none⟩,
 ⟨some 30,.bin .eql (.tmp 29) (.const (.int .u8 34)),[],none⟩,
 ⟨some 31,.copy false (.tmp 30),[],none⟩,
 ⟨some 32,.copy false (.tmp 5),[],some (31,false)⟩,
 ⟨some 33,.bin .eql (.tmp 32) (.const (.int .u8 92)),[],some (31,false)⟩,
 ⟨some 34,.pick (.tmp 31) (.const (.bool true)) (.tmp 33),[],none⟩,
 ⟨some 28,.copy true (.tmp 34),[],none⟩]
def F155r9 : List ROp := [⟨some 35,.copy false (.tmp 0),[],none⟩,
 ⟨some 36,.call (.func 102) [.tmp 35,.const (.int .u8 92)],[],none⟩]
def F155r10 : List ROp := [⟨some 37,.copy false (.tmp 0),[],none⟩,
 ⟨some 38,.copy false (.tmp 5),[],none⟩,
 ⟨some 39,.call (.func 102) [.tmp 37,.tmp 38],[],none⟩]
def F155r11 : List ROp := [⟨some 41,.copy false (.tmp 5),[],none⟩,
 ⟨some 42,.bin .eql (.tmp 41) (.const (.int .u8 10)),[],none⟩,
 ⟨some 40,.copy true (.tmp 42),[],none⟩]
def F155r12 : List ROp := [⟨some 43,.copy false (.tmp 0),[],none⟩,
 ⟨some 44,.call (.func 100) [.tmp 43,.const (.string { data := #[92,110] })],[],none⟩]
def F155r13 : List ROp := [⟨some 46,.copy false (.tmp 5),[],none⟩,
 ⟨some 47,.bin .eql (.tmp 46) (.const (.int .u8 9)),[],none⟩,
 ⟨some 45,.copy true (.tmp 47),[],none⟩]
def F155r14 : List ROp := [⟨some 48,.copy false (.tmp 0),[],none⟩,
 ⟨some 49,.call (.func 100) [.tmp 48,.const (.string { data := #[92,116] })],[],none⟩]
def F155r15 : List ROp := [⟨some 51,.copy false (.tmp 5),[],none⟩,
 ⟨some 52,.bin .geq (.tmp 51) (.const (.int .u8 32)),[],none⟩,
 ⟨some 53,.copy false (.tmp 52),[],none⟩,
 ⟨some 54,.copy false (.tmp 5),[],some (53,true)⟩,
 ⟨some 55,.bin .leq (.tmp 54) (.const (.int .u8 126)),[],some (53,true)⟩,
 ⟨some 56,.pick (.tmp 53) (.tmp 55) (.const (.bool false)),[],none⟩,
 ⟨some 50,.copy true (.tmp 56),[],none⟩]
def F155r16 : List ROp := [⟨some 57,.copy false (.tmp 0),[],none⟩,
 ⟨some 58,.copy false (.tmp 5),[],none⟩,
 ⟨some 59,.call (.func 102) [.tmp 57,.tmp 58],[],none⟩]
def F155r17 : List ROp := [⟨some 60,.bin .add (.tmp 10) (.const (.int .i64 1)),[],none⟩,
 ⟨some 10,.copy false (.tmp 60),[],none⟩]
def F155r18 : List ROp := [⟨some 61,.copy false (.tmp 0),[],none⟩,
 ⟨some 62,.call (.func 102) [.tmp 61,.const (.int .u8 34)],[],none⟩]
def brows (l : List UInt8) : List (List AV) := l.map fun b => [AV.val (.int .u8 (b.toNat : Int))]
@[simp] theorem brows_len (l : List UInt8) : (brows l).length = l.length := by simp [brows]
@[simp] theorem brows_app (a b : List UInt8) : brows a ++ brows b = brows (a ++ b) := by simp [brows]
theorem byteRows_bl (s : ByteArray) : byteRows s = brows (bl s) := rfl
@[simp] theorem brows_one (b : UInt8) : [[AV.val (.int .u8 (b.toNat : Int))]] = brows [b] := rfl
/-- the builder's own address: there, or not yet -/
def pA (u : Bool) : AV := if u = true then .ptr 1000 0 else .val (.pointer none)
@[simp] theorem pA_true : pA true = .ptr 1000 0 := rfl
@[simp] theorem pA_within (u : Bool) : within [1000] (pA u) = true := by cases u <;> rfl
@[simp] theorem pA_dem (u : Bool) : dem (pA u) = pA u := by cases u <;> rfl
@[simp] theorem pA_own (u : Bool) : isOwn (pA u) = false := by cases u <;> rfl
def bB (T : Nat) (u : Bool) (l : List UInt8) : Blk := .cells T [pA u, .own 5 1 (brows l)]
def HB (T : Nat) (u : Bool) (l : List UInt8) : List (Nat × Blk) := [(1000, bB T u l)]
theorem copyCheck_ok (T : Nat) (hT : T = 118 ∨ T = 120) (u : Bool) (l : List UInt8) : ConM Tryz.prog 150 (HB T u l) [.ptr 1000 0] (.tup []) (HB T true l) := by
 refine ConM.set0 (fun c => .pointer (some ⟨c, 0, none⟩)) (fun _ => .tuple #[]) ⟨_, Tryz.func150, by kernel_rfl, rfl⟩ rfl (pA_own u) rfl (fun fz ρ c h => by simp only [pA_true, Holds]; exact ⟨c, h, rfl⟩) (fun _ => rfl) (fun fz ρ c _ => by simp only [Holds]; exact ⟨#[], rfl, by simp [HoldsL]⟩) ?_
 intro fz ρ w c v0 v1 hρ hw h0
 cases u with
 | true =>
  simp only [pA_true, Holds] at h0
  obtain ⟨c', h1, rfl⟩ := h0
  rw [hρ] at h1; cases h1
  refine (Tryz.copy_used c w (by simp [World.cell?, hw])).mono ?_
  rintro e w' ⟨rfl, rfl⟩
  exact ⟨rfl, rfl, rfl, rfl, rfl, fun _ _ => rfl, hw⟩
 | false =>
  have h0' : v0 = .pointer none := by simpa [pA, Holds] using h0
  subst h0'
  refine (Tryz.copy_fresh T hT c w (by simp [World.cell?, hw]) (by simp [World.shape?, hw]) (by simp [World.frozen?, hw])).mono ?_
  rintro e w' ⟨rfl, rfl⟩
  have hlt : c < w.heap.size := lt_of_heap hw
  refine ⟨rfl, rfl, rfl, rfl, by simp [World.setCell], fun k hk => ?_, ?_⟩
  ·simp only [World.setCell, Array.getElem?_modify]
   rw [if_neg (fun e => hk e.symm)]
  ·simp only [World.setCell, Array.getElem?_modify, if_true, hw, Option.map_some]
   rfl
theorem callB {f : Nat} {g : Nat → Option Blk} {vs ts : List AV} {r : AV} {T T' : Nat} {u u' : Bool} {l l' : List UInt8} (hc : ConM Tryz.prog f (HB T u l) ts r (HB T' u' l')) (hlt : LtL vs ts) (hg : g 1000 = some (bB T u l)) (hwt : withinL [1000] ts = true) :
  ∃ H ts, CallM Tryz.prog f g [1000] vs r (HB T' u' l') H ts :=
 callM_same hc hlt rfl rfl (by simp [HB, hg]) (by simp [HB, bB]) (by simpa [HB] using hwt)
attribute [local simp] HB bB
theorem WriteString_ok (T : Nat) (hT : T = 118 ∨ T = 120) (u : Bool) (l : List UInt8) (s : ByteArray) (hl : l.length + s.size ≤ 1099511627776) :
  ConM Tryz.prog 100 (HB T u l) [.ptr 1000 0, sval s] (.tup [ival s.size, .val .nilIface]) (HB T true (l ++ bl s)) := by
 have hc := copyCheck_ok T hT u l
 refine ConM.of_code Tryz.func100 (by kernel_rfl) rfl (by simp [Tryz.ntmps100]) (by simp [Tryz.ntmps100]) (hand_of rfl) (more_of rfl) rfl (fun C hC hρ => ?_)
 refine AWp.seq ?_
 refine AWp.regK [0,1] [true,true] F100r0 [] (by kernel_rfl) (by rw [hC]; rfl) fun K hK => ?_
 simp (maxSteps := 2000000) [F100r0]
 refine hK _ ?_
 refine AWp.seq ?_
 refine AWp.regK [0,1] [] F100r1 [{ r := .tup [],us := [1000],bs := HB T true l }] (by kernel_rfl) (by rw [hC]; rfl) fun K hK => ?_
 simp (maxSteps := 2000000) [F100r1]
 (repeat first | refine ⟨by first | kernel_rfl | (intros; omega) | assumption, ?_⟩ | refine ⟨by intros; exact callB hc (.cons .refl .nil) rfl rfl, ?_⟩); refine hK _ ?_
 refine AWp.seq ?_
 refine AWp.regK [1] [false,false,false,false,true,false,false,false,false,true] F100r2 [] (by kernel_rfl) (by rw [hC]; rfl) fun K hK => ?_
 simp (maxSteps := 2000000) [F100r2, byteRows_bl]
 (repeat first | refine ⟨by first | kernel_rfl | (intros; omega) | assumption, ?_⟩ | refine ⟨by intros; exact ⟨by omega, by omega⟩, ?_⟩); refine hK _ ?_
 refine AWp.seq ?_
 refine AWp.regK [4,5] [false,false,true,true] F100r3 [] (by kernel_rfl) (by rw [hC]; rfl) fun K hK => ?_
 simp (maxSteps := 2000000) [F100r3]
 refine hK _ ?_
 refine AWp.ret ⟨.inr rfl, ⟨_, by simp [Tryz.results100] <;> rfl, ?_⟩, ?_⟩
 ·exact .refl
 ·simp
theorem WriteByte_ok (T : Nat) (hT : T = 118 ∨ T = 120) (u : Bool) (l : List UInt8) (c : UInt8) (hl : l.length ≤ 1099511627776) :
  ConM Tryz.prog 102 (HB T u l) [.ptr 1000 0, uval c.toNat] (.val .nilIface) (HB T true (l ++ [c])) := by
 have hc := copyCheck_ok T hT u l
 refine ConM.of_code Tryz.func102 (by kernel_rfl) rfl (by simp [Tryz.ntmps102]) (by simp [Tryz.ntmps102]) (hand_of rfl) (more_of rfl) rfl (fun C hC hρ => ?_)
 refine AWp.seq ?_
 refine AWp.regK [0,1] [true] F102r0 [] (by kernel_rfl) (by rw [hC]; rfl) fun K hK => ?_
 simp (maxSteps := 2000000) [F102r0]
 refine hK _ ?_
 refine AWp.seq ?_
 refine AWp.regK [0,1] [] F102r1 [{ r := .tup [],us := [1000],bs := HB T true l }] (by kernel_rfl) (by rw [hC]; rfl) fun K hK => ?_
 simp (maxSteps := 2000000) [F102r1]
 (repeat first | refine ⟨by first | kernel_rfl | (intros; omega) | assumption, ?_⟩ | refine ⟨by intros; exact callB hc (.cons .refl .nil) rfl rfl, ?_⟩); refine hK _ ?_
 refine AWp.seq ?_
 refine AWp.regK [] [false,false,false,false,true,false,false,false,false,false,true] F102r2 [] (by kernel_rfl) (by rw [hC]; rfl) fun K hK => ?_
 simp (maxSteps := 2000000) [F102r2]
 (repeat first | refine ⟨by first | kernel_rfl | (intros; omega) | assumption, ?_⟩ | refine ⟨by intros; exact ⟨by omega, by omega⟩, ?_⟩); refine hK _ ?_
 refine AWp.seq ?_
 refine AWp.regK [4] [true] F102r3 [] (by kernel_rfl) (by rw [hC]; rfl) fun K hK => ?_
 simp (maxSteps := 2000000) [F102r3]
 refine hK _ ?_
 refine AWp.ret ⟨.inr rfl, ⟨_, by simp [Tryz.results102] <;> rfl, ?_⟩, ?_⟩
 ·exact .refl
 ·simp
theorem nat_c (a b : UInt8) : a = b ↔ a.toNat = b.toNat := UInt8.toNat_inj.symm
def tHex : ByteArray := ⟨#[48, 49, 50, 51, 52, 53, 54, 55, 56, 57, 97, 98, 99, 100, 101, 102]⟩
theorem hex_at : ∀ i, i < 16 → chr tHex i = ((hexD.getD i 0).toNat : Int) := by decide +kernel
theorem and15 : ∀ n : Nat, n < 256 → andI .u8 (n : Int) 15 = ((n % 16 : Nat) : Int) := by decide +kernel
theorem shr4 : ∀ n : Nat, n < 256 → shrI .u8 (n : Int) 4 = ((n / 16 : Nat) : Int) := by decide +kernel
theorem wbyte (T : Nat) (hT : T = 118 ∨ T = 120) (u : Bool) (l : List UInt8) (c : UInt8) (hl : l.length ≤ 1099511627776) :
  ∃ l', l' = l ++ [c] ∧ l'.length = l.length + 1 ∧ ConM Tryz.prog 102 (HB T u l) [.ptr 1000 0, uval c.toNat] (.val .nilIface) (HB T true l') :=
 ⟨_, rfl, by simp, WriteByte_ok T hT u l c hl⟩
theorem wstr (T : Nat) (hT : T = 118 ∨ T = 120) (u : Bool) (l : List UInt8) (s : ByteArray) (hl : l.length + s.size ≤ 1099511627776) :
  ∃ l', l' = l ++ bl s ∧ l'.length = l.length + s.size ∧ ConM Tryz.prog 100 (HB T u l) [.ptr 1000 0, sval s] (.tup [ival s.size, .val .nilIface]) (HB T true l') :=
 ⟨_, rfl, by simp [bl_len], WriteString_ok T hT u l s hl⟩
theorem quotes_len (l : List UInt8) : (l.flatMap quoteC).length ≤ 4 * l.length := by
 induction l with
 | nil => simp
 | cons c l ih => have := quoteC_len c; simp only [List.flatMap_cons, List.length_append, List.length_cons]; omega
theorem quote_ok (T : Nat) (hT : T = 118 ∨ T = 120) (u : Bool) (l : List UInt8) (s : ByteArray) (hs : s.size ≤ 4194304) (hl : l.length ≤ 549755813888) :
  ConM Tryz.prog 155 (HB T u l) [.ptr 1000 0, sval s] (.tup []) (HB T true (l ++ quoteB (bl s))) := by
 obtain ⟨l0, e0, n0, hq⟩ := wbyte T hT u l 34 (by omega)
 have hq : ConM Tryz.prog 102 (HB T u l) [.ptr 1000 0, uval 34] (.val .nilIface) (HB T true l0) := hq
 have hbl := bl_len s
 obtain ⟨cur, hcur⟩ : ∃ cur : Nat → List UInt8, ∀ k, cur k = l0 ++ ((bl s).take k).flatMap quoteC := ⟨_, fun _ => rfl⟩
 have hcl : ∀ k, (cur k).length ≤ 549755813889 + 4 * k := by
  intro k
  have h1 := quotes_len ((bl s).take k)
  rw [List.length_take] at h1
  rw [hcur k, List.length_append]; omega
 obtain ⟨cend, ecend, _, hend⟩ := wbyte T hT true (cur s.size) 34 (by have := hcl s.size; omega)
 have hend : ConM Tryz.prog 102 (HB T true (cur s.size)) [.ptr 1000 0, uval 34] (.val .nilIface) (HB T true cend) := hend
 have hce : cend = l ++ quoteB (bl s) := by
  rw [ecend, hcur, e0, List.take_of_length_le (by omega)]; simp [quoteB]
 rw [← hce]
 have hc0 : cur 0 = l0 := by rw [hcur]; simp
 refine ConM.of_code Tryz.func155 (by kernel_rfl) rfl (by simp [Tryz.ntmps155]) (by simp [Tryz.ntmps155]) (hand_of rfl) (more_of rfl) rfl (fun C hC hρ => ?_)
 refine AWp.seq ?_
 refine AWp.regK [0,1] [] F155r0 [{ r := .val .nilIface,us := [1000],bs := HB T true l0 }] (by kernel_rfl) (by rw [hC]; rfl) fun K hK => ?_
 simp (maxSteps := 2000000) [F155r0]
 (repeat first | refine ⟨by first | kernel_rfl | (intros; omega) | assumption, ?_⟩ | refine ⟨by intros; exact callB hq (.cons .refl (.cons .refl .nil)) rfl rfl, ?_⟩); refine hK _ ?_
 refine AWp.seq ?_
 refine AWp.seq ?_
 refine AWp.regK [0,1,9,10] [] F155r1 [] (by kernel_rfl) (by rw [hC]; rfl) fun K hK => ?_
 simp (maxSteps := 2000000) [F155r1]
 refine hK _ ?_
 refine AWp.block ?_
 refine AWp.loopG (fun k : Nat => { tm := [(0, .ptr 1000 0), (1, sval s), (9, ival s.size), (10, ival k)], hp := HB T true (cur k) }) (fun k => k ≤ s.size) (fun k => s.size - k) 0 (by omega) (by simp [hc0]) (fun k hk => ?_)
 refine AWp.seq ?_
 refine AWp.regK [0,1,9,10,11] [] F155r2 [] (by kernel_rfl) (by rw [hC]; rfl) fun K hK => ?_
 simp (maxSteps := 2000000) [F155r2]
 refine hK _ ?_
 refine AWp.seq ?_
 refine AWp.cond _ (by rfl) (fun hlt => ?_) (fun hge => ?_)
 ·skip
  have hlt : k < s.size := by simpa using hlt
  have hltb : k < (bl s).length := by omega
  have hch := chr_eq s k hltb
  have htk : cur (k + 1) = cur k ++ quoteC (bl s)[k] := by
   rw [hcur, hcur, List.take_succ_eq_append_getElem hltb, List.flatMap_append]; simp
  generalize (bl s)[k] = c at hch htk
  have hc256 := c.toNat_lt
  have hck := hcl k
  have fin : ∀ q, quoteC c = q → cur (k + 1) = cur k ++ q := by intro q hq; rw [htk, hq]
  refine AWp.skip ?_
  refine AWp.seq ?_
  refine AWp.block ?_
  refine AWp.seq ?_
  refine AWp.regK [0,1,4,9,10] [true,true] F155r3 [] (by kernel_rfl) (by rw [hC]; rfl) fun K hK => ?_
  simp (maxSteps := 2000000) [F155r3, hlt, hch]
  refine hK _ ?_
  refine AWp.seq ?_
  refine AWp.regK [0,1,5,9,10] [false,false,false,true] F155r4 [] (by kernel_rfl) (by rw [hC]; rfl) fun K hK => ?_
  simp (maxSteps := 2000000) [F155r4, hlt, hch]
  (repeat refine ⟨by first | omega | (intros; omega) | (intros; exact sz_pos (by assumption)) | assumption, ?_⟩); refine hK _ ?_
  refine AWp.block ?_
  refine AWp.seq ?_
  refine AWp.regK [0,1,5,9,10,28] [false,false,false,false,false,false,true] F155r8 [] (by kernel_rfl) (by rw [hC]; rfl) fun K hK => ?_
  simp (maxSteps := 2000000) [F155r8, hlt, hch]
  (repeat refine ⟨by first | omega | (intros; omega) | assumption, ?_⟩); refine hK _ ?_
  refine AWp.cond _ (by rfl) (fun h1 => ?_) (fun h1 => ?_)
  ·skip
   have hc : c = 34 ∨ c = 92 := by
    rcases (by simpa using h1 : (c.toNat : Int) = 34 ∨ (c.toNat : Int) = 92) with h | h
    ·exact .inl (UInt8.toNat_inj.1 (by simpa using (by omega : c.toNat = 34)))
    ·exact .inr (UInt8.toNat_inj.1 (by simpa using (by omega : c.toNat = 92)))
   obtain ⟨l1, e1, n1, w1⟩ := wbyte T hT true (cur k) 92 (by omega)
   have w1 : ConM Tryz.prog 102 (HB T true (cur k)) [.ptr 1000 0, uval 92] (.val .nilIface) (HB T true l1) := w1
   obtain ⟨l2, e2, n2, w2⟩ := wbyte T hT true l1 c (by omega)
   have hl2 : l2 = cur (k + 1) := by rw [fin [92, c] (by unfold quoteC; rw [if_pos hc]), e2, e1]; simp
   subst hl2
   refine AWp.seq ?_
   refine AWp.regK [0,1,5,9,10] [] F155r9 [{ r := .val .nilIface,us := [1000],bs := HB T true l1 }] (by kernel_rfl) (by rw [hC]; rfl) fun K hK => ?_
   simp (maxSteps := 2000000) [F155r9]
   (repeat first | refine ⟨by first | kernel_rfl | (intros; omega) | assumption, ?_⟩ | refine ⟨by intros; exact callB w1 (.cons .refl (.cons .refl .nil)) rfl rfl, ?_⟩); refine hK _ ?_
   refine AWp.regK [0,1,9,10] [] F155r10 [{ r := .val .nilIface,us := [1000],bs := HB T true (cur (k + 1)) }] (by kernel_rfl) (by rw [hC]; rfl) fun K hK => ?_
   simp (maxSteps := 2000000) [F155r10]
   (repeat first | refine ⟨by first | kernel_rfl | (intros; omega) | assumption, ?_⟩ | refine ⟨by intros; exact callB w2 (.cons .refl (.cons .refl .nil)) rfl rfl, ?_⟩); refine hK _ ?_
   refine AWp.regK [0,1,9,10] [] F155r17 [] (by kernel_rfl) (by rw [hC]; rfl) fun K hK => ?_
   simp (maxSteps := 2000000) [F155r17]
   (repeat refine ⟨by first | omega | (intros; omega) | assumption, ?_⟩); refine hK _ ?_
   refine ⟨k + 1, by omega, by omega, ?_⟩
   simp [wrap_nat k (by omega)]
  have hcn : ¬ (c = 34 ∨ c = 92) := by
   rintro (rfl | rfl) <;> simp at h1
  refine AWp.seq ?_
  refine AWp.regK [0,1,5,9,10,40] [false,false,true] F155r11 [] (by kernel_rfl) (by rw [hC]; rfl) fun K hK => ?_
  simp (maxSteps := 2000000) [F155r11]
  refine hK _ ?_
  refine AWp.cond _ (by rfl) (fun h2 => ?_) (fun h2 => ?_)
  ·skip
   have hc : c = 10 := UInt8.toNat_inj.1 (by simpa using (by have : (c.toNat : Int) = 10 := by simpa using h2
                                                             omega : c.toNat = 10))
   obtain ⟨l1, e1, n1, w1⟩ := wstr T hT true (cur k) ⟨#[92, 110]⟩ (by simp [ByteArray.size]; omega)
   have hl1 : l1 = cur (k + 1) := by rw [fin [92, 110] (by unfold quoteC; rw [if_neg hcn, if_pos hc]), e1]; rfl
   subst hl1
   refine AWp.regK [0,1,9,10] [] F155r12 [{ r := .tup [ival 2,.val .nilIface],us := [1000],bs := HB T true (cur (k + 1)) }] (by kernel_rfl) (by rw [hC]; rfl) fun K hK => ?_
   simp (maxSteps := 2000000) [F155r12]
   (repeat first | refine ⟨by first | kernel_rfl | (intros; omega) | assumption, ?_⟩ | refine ⟨by intros; exact callB w1 (.cons .refl (.cons .refl .nil)) rfl rfl, ?_⟩); refine hK _ ?_
   refine AWp.regK [0,1,9,10] [] F155r17 [] (by kernel_rfl) (by rw [hC]; rfl) fun K hK => ?_
   simp (maxSteps := 2000000) [F155r17]
   (repeat refine ⟨by first | omega | (intros; omega) | assumption, ?_⟩); refine hK _ ?_
   refine ⟨k + 1, by omega, by omega, ?_⟩
   simp [wrap_nat k (by omega)]
  have hcn2 : ¬ c = 10 := by
   rintro rfl; simp at h2
  refine AWp.seq ?_
  refine AWp.regK [0,1,5,9,10,45] [false,false,true] F155r13 [] (by kernel_rfl) (by rw [hC]; rfl) fun K hK => ?_
  simp (maxSteps := 2000000) [F155r13]
  refine hK _ ?_
  refine AWp.cond _ (by rfl) (fun h3 => ?_) (fun h3 => ?_)
  ·skip
   have hc : c = 9 := UInt8.toNat_inj.1 (by simpa using (by have : (c.toNat : Int) = 9 := by simpa using h3
                                                            omega : c.toNat = 9))
   obtain ⟨l1, e1, n1, w1⟩ := wstr T hT true (cur k) ⟨#[92, 116]⟩ (by simp [ByteArray.size]; omega)
   have hl1 : l1 = cur (k + 1) := by rw [fin [92, 116] (by unfold quoteC; rw [if_neg hcn, if_neg hcn2, if_pos hc]), e1]; rfl
   subst hl1
   refine AWp.regK [0,1,9,10] [] F155r14 [{ r := .tup [ival 2,.val .nilIface],us := [1000],bs := HB T true (cur (k + 1)) }] (by kernel_rfl) (by rw [hC]; rfl) fun K hK => ?_
   simp (maxSteps := 2000000) [F155r14]
   (repeat first | refine ⟨by first | kernel_rfl | (intros; omega) | assumption, ?_⟩ | refine ⟨by intros; exact callB w1 (.cons .refl (.cons .refl .nil)) rfl rfl, ?_⟩); refine hK _ ?_
   refine AWp.regK [0,1,9,10] [] F155r17 [] (by kernel_rfl) (by rw [hC]; rfl) fun K hK => ?_
   simp (maxSteps := 2000000) [F155r17]
   (repeat refine ⟨by first | omega | (intros; omega) | assumption, ?_⟩); refine hK _ ?_
   refine ⟨k + 1, by omega, by omega, ?_⟩
   simp [wrap_nat k (by omega)]
  have hcn3 : ¬ c = 9 := by
   rintro rfl; simp at h3
  refine AWp.seq ?_
  refine AWp.regK [0,1,5,9,10,50] [false,false,false,false,false,false,true] F155r15 [] (by kernel_rfl) (by rw [hC]; rfl) fun K hK => ?_
  simp (maxSteps := 2000000) [F155r15]
  (repeat refine ⟨by first | omega | (intros; omega) | assumption, ?_⟩); refine hK _ ?_
  refine AWp.cond _ (by rfl) (fun h4 => ?_) (fun h4 => ?_)
  ·skip
   have hc : 32 ≤ c.toNat ∧ c.toNat ≤ 126 := by
    have : (32 : Int) ≤ c.toNat ∧ (c.toNat : Int) ≤ 126 := by simpa using h4
    omega
   obtain ⟨l1, e1, n1, w1⟩ := wbyte T hT true (cur k) c (by omega)
   have hl1 : l1 = cur (k + 1) := by rw [fin [c] (by unfold quoteC; rw [if_neg hcn, if_neg hcn2, if_neg hcn3, if_pos hc]), e1]
   subst hl1
   refine AWp.regK [0,1,9,10] [] F155r16 [{ r := .val .nilIface,us := [1000],bs := HB T true (cur (k + 1)) }] (by kernel_rfl) (by rw [hC]; rfl) fun K hK => ?_
   simp (maxSteps := 2000000) [F155r16]
   (repeat first | refine ⟨by first | kernel_rfl | (intros; omega) | assumption, ?_⟩ | refine ⟨by intros; exact callB w1 (.cons .refl (.cons .refl .nil)) rfl rfl, ?_⟩); refine hK _ ?_
   refine AWp.regK [0,1,9,10] [] F155r17 [] (by kernel_rfl) (by rw [hC]; rfl) fun K hK => ?_
   simp (maxSteps := 2000000) [F155r17]
   (repeat refine ⟨by first | omega | (intros; omega) | assumption, ?_⟩); refine hK _ ?_
   refine ⟨k + 1, by omega, by omega, ?_⟩
   simp [wrap_nat k (by omega)]
  have hcn4 : ¬ (32 ≤ c.toNat ∧ c.toNat ≤ 126) := by
   intro h
   have : ¬ ((32 : Int) ≤ c.toNat ∧ (c.toNat : Int) ≤ 126) := by simpa using h4
   omega
  obtain ⟨l1, e1, n1, w1⟩ := wstr T hT true (cur k) ⟨#[92, 120]⟩ (by simp [ByteArray.size]; omega)
  have n1 : l1.length = (cur k).length + 2 := n1
  obtain ⟨l2, e2, n2, w2⟩ := wbyte T hT true l1 (hexD.getD (c.toNat / 16) 0) (by omega)
  obtain ⟨l3, e3, n3, w3⟩ := wbyte T hT true l2 (hexD.getD (c.toNat % 16) 0) (by omega)
  have hl3 : l3 = cur (k + 1) := by
   rw [fin [92, 120, hexD.getD (c.toNat / 16) 0, hexD.getD (c.toNat % 16) 0] (by unfold quoteC; rw [if_neg hcn, if_neg hcn2, if_neg hcn3, if_neg hcn4]), e3, e2, e1]
   simp only [List.append_assoc]; rfl
  subst hl3
  have hs4 := shr4 c.toNat (by omega)
  have ha4 := and15 c.toNat (by omega)
  have hx1 := hex_at (c.toNat / 16) (by omega)
  have hx2 := hex_at (c.toNat % 16) (by omega)
  have hm1 : c.toNat / 16 < 16 := by omega
  have hm2 : c.toNat % 16 < 16 := by omega
  refine AWp.seq ?_
  refine AWp.regK [0,1,5,9,10] [] F155r5 [{ r := .tup [ival 2,.val .nilIface],us := [1000],bs := HB T true l1 }] (by kernel_rfl) (by rw [hC]; rfl) fun K hK => ?_
  simp (maxSteps := 2000000) [F155r5]
  (repeat first | refine ⟨by first | kernel_rfl | (intros; omega) | assumption, ?_⟩ | refine ⟨by intros; exact callB w1 (.cons .refl (.cons .refl .nil)) rfl rfl, ?_⟩); refine hK _ ?_
  have hx1 : chr tHex ((c.toNat : Int) / 16).toNat = ((hexD.getD (c.toNat / 16) 0).toNat : Int) := by rw [show ((c.toNat : Int) / 16).toNat = c.toNat / 16 by omega]; exact hx1
  have hx2 : chr tHex ((c.toNat : Int) % 16).toNat = ((hexD.getD (c.toNat % 16) 0).toNat : Int) := by rw [show ((c.toNat : Int) % 16).toNat = c.toNat % 16 by omega]; exact hx2
  simp only [tHex] at hx1 hx2
  refine AWp.seq ?_
  refine AWp.regK [0,1,5,9,10] [] F155r6 [{ r := .val .nilIface,us := [1000],bs := HB T true l2 }] (by kernel_rfl) (by rw [hC]; rfl) fun K hK => ?_
  simp (maxSteps := 2000000) [F155r6, hs4, hx1]
  (repeat first | refine ⟨by first | kernel_rfl | (intros; omega) | assumption, ?_⟩ | refine ⟨by intros; exact ⟨by omega, show (c.toNat : Int) / 16 < 16 by omega⟩, ?_⟩ | refine ⟨by intros; exact callB w2 (.cons .refl (.cons .refl .nil)) rfl rfl, ?_⟩); refine hK _ ?_
  refine AWp.regK [0,1,9,10] [] F155r7 [{ r := .val .nilIface,us := [1000],bs := HB T true (cur (k + 1)) }] (by kernel_rfl) (by rw [hC]; rfl) fun K hK => ?_
  simp (maxSteps := 2000000) [F155r7, ha4, hx2]
  (repeat first | refine ⟨by first | kernel_rfl | (intros; omega) | assumption, ?_⟩ | refine ⟨by intros; exact ⟨by omega, show (c.toNat : Int) % 16 < 16 by omega⟩, ?_⟩ | refine ⟨by intros; exact callB w3 (.cons .refl (.cons .refl .nil)) rfl rfl, ?_⟩); refine hK _ ?_
  refine AWp.regK [0,1,9,10] [] F155r17 [] (by kernel_rfl) (by rw [hC]; rfl) fun K hK => ?_
  simp (maxSteps := 2000000) [F155r17]
  (repeat refine ⟨by first | omega | (intros; omega) | assumption, ?_⟩); refine hK _ ?_
  refine ⟨k + 1, by omega, by omega, ?_⟩
  simp [wrap_nat k (by omega)]
 have hge : ¬ k < s.size := by simpa using hge
 have hk' : k = s.size := by omega
 subst hk'
 refine AWp.exit ?_
 refine AWp.regK [] [] F155r18 [{ r := .val .nilIface,us := [1000],bs := HB T true cend }] (by kernel_rfl) (by rw [hC]; rfl) fun K hK => ?_
 simp (maxSteps := 2000000) [F155r18]
 (repeat first | refine ⟨by first | kernel_rfl | (intros; omega) | assumption, ?_⟩ | refine ⟨by intros; exact callB hend (.cons .refl (.cons .refl .nil)) rfl rfl, ?_⟩); refine hK _ ?_
 refine ⟨.inl rfl, ⟨[], rfl, .refl⟩, rfl, ?_⟩
 simp
