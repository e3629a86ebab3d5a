/- What the arguments read as: plans. -/
import Derived.Test.YtdobngcdgkallaaGreatDoorAwZ
import Derived.Test.YtdobngcdgkallaaGreatDoorAlSp
import Derived.Test.YtdobngcdgkallaaGreatDoorAlI
import Derived.Test.YtdobngcdgkallaaGreatDoorRows
set_option linter.unusedSimpArgs false
set_option linter.unusedVariables false
set_option linter.unusedSectionVars false
open Go Go.Aw Go.Proofs
namespace Go.Al
theorem co9 : Tryz.prog.cellsOf 9 = 1 := by kernel_rfl
theorem coV : Tryz.prog.cellsOf 56 = 4 := by kernel_rfl
theorem coE : Tryz.prog.cellsOf 58 = 9 := by kernel_rfl
theorem coP : Tryz.prog.cellsOf 26 = 6 := by kernel_rfl
theorem bulk_all {H : Type} : ∀ l : List (DataW H), YtdobngcdgkallaaGreatDoor.Rows.uptoBulkAll l = (l.map YtdobngcdgkallaaGreatDoor.Rows.uptoBulk).sum
 | [] => by simp [YtdobngcdgkallaaGreatDoor.Rows.uptoBulkAll]
 | d :: l => by simp [YtdobngcdgkallaaGreatDoor.Rows.uptoBulkAll, bulk_all l]
theorem bulk_ok (H : Type) : Bulk (YtdobngcdgkallaaGreatDoor.Rows.uptoBulk (H := H)) := by
 refine ⟨fun d => ?_, fun e s => ?_, fun l => ?_, fun l => ?_⟩
 ·cases d with
  | lit l => cases l <;> simp [YtdobngcdgkallaaGreatDoor.Rows.uptoBulk]
  | _ => simp [YtdobngcdgkallaaGreatDoor.Rows.uptoBulk]
 ·simp only [YtdobngcdgkallaaGreatDoor.Rows.uptoBulk, bulk_all]; omega
 ·simp only [YtdobngcdgkallaaGreatDoor.Rows.uptoBulk, bulk_all]; omega
 ·simp [YtdobngcdgkallaaGreatDoor.Rows.uptoBulk]
section
variable {H : Type} {enc : TypeId × Value → H} {w : World} {bulk : DataW H → Nat}
def inR (n : Int) : Prop := -9223372036854775808 ≤ n ∧ n ≤ 9223372036854775807
theorem wf64 {n : Int} (h : (Lit.int .i64 n).wf = true) : inR n := by
 simp [Lit.wf, IntKind.min, IntKind.max, IntKind.bits, IntKind.signed] at h
 unfold inR; omega
theorem op_int (N : Nat) : Opens enc Tryz.prog w bulk N 3 (fun n : Int => [ival n]) (fun n _ => inR n) := (Opens.int Tryz.underlying3).map id (fun _ => rfl) (fun _ _ h => wf64 h)
theorem op_i64 (N : Nat) : Opens enc Tryz.prog w bulk N 2 (fun n : Int => [ival n]) (fun n _ => inR n) := (Opens.int Tryz.underlying2).map id (fun _ => rfl) (fun _ _ h => wf64 h)
theorem op_u8 (N : Nat) : Opens enc Tryz.prog w bulk N 5 (fun n : Int => [uval n]) (fun n _ => True) := (Opens.int Tryz.underlying5).map id (fun _ => rfl) (fun _ _ _ => trivial)
theorem op_text (hb : Bulk bulk) (N : Nat) : Opens enc Tryz.prog w bulk N 9 (fun s : ByteArray => [sval s]) (fun s b => s.size + 1 ≤ b) := .string hb Tryz.underlying9
theorem op_pos (hb : Bulk bulk) : ∀ N, Opens enc Tryz.prog w bulk N 53 (fun p : Int × Int => [ival p.1, ival p.2]) (fun _ _ => True) :=
 Opens.structAll hb Tryz.underlying53 (by kernel_rfl) (fun N => .cons rfl (m := 1) (by kernel_rfl) (op_int N) (.cons rfl (m := 1) (by kernel_rfl) (op_int N) .nil (by simp)) (by simp))
  (ok' := fun _ _ => True) (fun _ _ _ _ _ => trivial) |> fun h N => (h N).map (fun x => (x.1, x.2.1)) (fun _ => rfl) (fun _ _ _ => trivial)
theorem tsizes_ok {l : List ByteArray} : ∀ {b : Nat}, SumOK (fun s b => s.size + 1 ≤ b) l b → tsizes l ≤ b := by
 induction l with
 | nil => intro b h; exact Nat.zero_le _
 | cons x l ih => intro b ⟨b1, b2, h1, h2, h3, h4⟩; have := ih h3; simp only [tsizes, List.map_cons, List.sum_cons] at this ⊢; omega
theorem op_texts (hb : Bulk bulk) : ∀ N, Opens enc Tryz.prog w bulk N 23 (fun l : List ByteArray => [.rd 1 (texts l)]) (fun l b => tsizes l ≤ b) := fun N =>
 (Opens.sliceAll hb Tryz.underlying23 (by rw [co9]; decide) (fun _ => by rw [co9]; rfl) (op_text hb) N).map id (fun _ => by rw [co9]; rfl) (fun x b h => tsizes_ok h)
theorem vsizes_ok {l : List ValD} : ∀ {b : Nat}, SumOK (fun e b => vsize e ≤ b ∧ rangeV e) l b → vsizes l < b := by
 induction l with
 | nil => intro b h; exact h
 | cons x l ih => intro b ⟨b1, b2, h1, h2, h3, h4⟩; have := ih h3; simp only [vsizes]; omega
def mkV (x : Int × Int × ByteArray × List ValD × Unit) : ValD := .mk x.1 x.2.1 x.2.2.1 x.2.2.2.1
theorem op_vals (hb : Bulk bulk) : ∀ N, Opens enc Tryz.prog w bulk N 56 encV (fun e b => vsize e ≤ b ∧ rangeV e) ∧ Opens enc Tryz.prog w bulk N 54 (fun l : List ValD => [.rd 4 (l.map encV)]) (fun l b => vsizes l < b) := by
 intro N
 induction N with
 | zero => exact ⟨Opens.zero, Opens.zero⟩
 | succ N ih =>
  refine ⟨?_, ?_⟩
  ·refine (Opens.struct hb Tryz.underlying56 (by kernel_rfl) (.cons rfl (m := 1) (by kernel_rfl) (op_u8 N) (.cons rfl (m := 1) (by kernel_rfl) (op_i64 N) (.cons rfl (m := 1) (by kernel_rfl) (op_text hb N)
    (.cons rfl (m := 1) (by kernel_rfl) ih.2 .nil (by simp)) (by simp)) (by simp)) (by simp)) (ok' := fun x b => vsize (mkV x) ≤ b ∧ rangeV (mkV x)) (fun x b b' h hb => ?_)).map mkV (fun x => ?_) (fun _ _ h => h)
   ·obtain ⟨b1, b2, h1, ⟨b3, b4, h3, ⟨b5, b6, h5, ⟨b7, b8, h7, _, e5⟩, e4⟩, e3⟩, e1⟩ := h
    rw [vsize_eq]
    simp only [mkV, ValD.s, ValD.l, rangeV, ValD.n]
    exact ⟨by omega, h3⟩
   ·rw [encV_eq]; rfl
  ·exact (Opens.slice hb Tryz.underlying54 (by rw [coV]; decide) (fun e => by rw [coV]; exact encV_len e) ih.1).map id (fun _ => by rw [coV]; rfl) (fun x b h => vsizes_ok h)
theorem esizes_ok {l : List ExprD} : ∀ {b : Nat}, SumOK (fun e b => esize e ≤ b ∧ rangeE e) l b → esizes l < b ∧ rangeEs l := by
 induction l with
 | nil => intro b h; exact ⟨h, by rw [rangeEs]; trivial⟩
 | cons x l ih => intro b ⟨b1, b2, h1, h2, h3, h4⟩; have := ih h3; simp only [esizes, rangeEs]; exact ⟨by omega, h2.2, this.2⟩
def mkE (x : Int × (Int × Int) × ByteArray × ValD × List ExprD × Unit) : ExprD := .mk x.1 x.2.1.1 x.2.1.2 x.2.2.1 x.2.2.2.1 x.2.2.2.2.1
theorem op_exprs (hb : Bulk bulk) : ∀ N, Opens enc Tryz.prog w bulk N 58 encE (fun e b => esize e ≤ b ∧ rangeE e) ∧ Opens enc Tryz.prog w bulk N 22 (fun l : List ExprD => [.rd 9 (l.map encE)]) (fun l b => esizes l < b ∧ rangeEs l) := by
 intro N
 induction N with
 | zero => exact ⟨Opens.zero, Opens.zero⟩
 | succ N ih =>
  refine ⟨?_, ?_⟩
  ·refine (Opens.struct hb Tryz.underlying58 (by kernel_rfl) (.cons rfl (m := 1) (by kernel_rfl) (op_u8 N) (.cons rfl (m := 2) (by kernel_rfl) (op_pos hb N) (.cons rfl (m := 1) (by kernel_rfl) (op_text hb N) (.cons rfl (m := 4) (by kernel_rfl) (op_vals hb N).1
    (.cons rfl (m := 1) (by kernel_rfl) ih.2 .nil (by simp)) (by simp)) (by simp)) (by simp)) (by simp)) (ok' := fun x b => esize (mkE x) ≤ b ∧ rangeE (mkE x)) (fun x b b' h hb => ?_)).map mkE (fun x => ?_) (fun _ _ h => h)
   ·obtain ⟨b1, b2, h1, ⟨b3, b4, h3, ⟨b5, b6, h5, ⟨b7, b8, h7, ⟨b9, b10, h9, _, e5⟩, e4⟩, e3⟩, e2⟩, e1⟩ := h
    rw [esize_eq, rangeE_eq]
    simp only [mkE, ExprD.args, ExprD.name, ExprD.v]
    exact ⟨by omega, h7.2, h9.2⟩
   ·rw [encE_eq]
    simp only [mkE, ExprD.kind, ExprD.line, ExprD.col, ExprD.name, ExprD.v, ExprD.args, encV_eq]
    rfl
  ·exact (Opens.slice hb Tryz.underlying22 (by rw [coE]; decide) (fun e => by rw [coE]; exact encE_len e) ih.1).map id (fun _ => by rw [coE]; rfl) (fun x b h => esizes_ok h)
theorem psizes_ok {l : List PlanD} : ∀ {b : Nat}, SumOK (fun e b => psize e ≤ b ∧ rangeP e) l b → psizes l < b ∧ rangePs l := by
 induction l with
 | nil => intro b h; exact ⟨h, by rw [rangePs]; trivial⟩
 | cons x l ih => intro b ⟨b1, b2, h1, h2, h3, h4⟩; have := ih h3; simp only [psizes, rangePs]; exact ⟨by omega, h2.2, this.2⟩
def mkP (x : Int × ByteArray × ByteArray × List ExprD × List ByteArray × List PlanD × Unit) : PlanD := .mk x.1 x.2.1 x.2.2.1 x.2.2.2.1 x.2.2.2.2.1 x.2.2.2.2.2.1
theorem op_plans (hb : Bulk bulk) : ∀ N, Opens enc Tryz.prog w bulk N 26 encP (fun e b => psize e ≤ b ∧ rangeP e) ∧ Opens enc Tryz.prog w bulk N 24 (fun l : List PlanD => [.rd 6 (l.map encP)]) (fun l b => psizes l < b ∧ rangePs l) := by
 intro N
 induction N with
 | zero => exact ⟨Opens.zero, Opens.zero⟩
 | succ N ih =>
  refine ⟨?_, ?_⟩
  ·refine (Opens.struct hb Tryz.underlying26 (by kernel_rfl) (.cons rfl (m := 1) (by kernel_rfl) (op_u8 N) (.cons rfl (m := 1) (by kernel_rfl) (op_text hb N) (.cons rfl (m := 1) (by kernel_rfl) (op_text hb N) (.cons rfl (m := 1) (by kernel_rfl) (op_exprs hb N).2
    (.cons rfl (m := 1) (by kernel_rfl) (op_texts hb N) (.cons rfl (m := 1) (by kernel_rfl) ih.2 .nil (by simp)) (by simp)) (by simp)) (by simp)) (by simp)) (by simp)) (ok' := fun x b => psize (mkP x) ≤ b ∧ rangeP (mkP x)) (fun x b b' h hb => ?_)).map mkP (fun x => ?_) (fun _ _ h => h)
   ·obtain ⟨b1, b2, h1, ⟨b3, b4, h3, ⟨b5, b6, h5, ⟨b7, b8, h7, ⟨b9, b10, h9, ⟨b11, b12, h11, _, e6⟩, e5⟩, e4⟩, e3⟩, e2⟩, e1⟩ := h
    rw [psize_eq, rangeP_eq]
    simp only [mkP, PlanD.ins, PlanD.aggs, PlanD.rel, PlanD.name, PlanD.args]
    exact ⟨by omega, h7.2, h11.2⟩
   ·rw [encP_eq]; rfl
  ·exact (Opens.slice hb Tryz.underlying24 (by rw [coP]; decide) (fun e => by rw [coP]; exact encP_len e) ih.1).map id (fun _ => by rw [coP]; rfl) (fun x b h => psizes_ok h)
theorem planX_enc (p : PlanD) : planX p = .agg (encP p) := by rw [encP_eq]; rfl
/-- the arguments: two plans -/
theorem ops_plans (hb : Bulk bulk) : OpensA enc Tryz.prog w bulk [26, 26] (fun x : PlanD × PlanD × Unit => [.agg (encP x.1), .agg (encP x.2.1)]) (BothOK (fun p b => psize p ≤ b ∧ rangeP p) (BothOK (fun p b => psize p ≤ b ∧ rangeP p) (fun _ _ => True))) :=
 OpensA.cons (e1 := fun p => .agg (encP p)) (Opens.argAgg Tryz.underlying26 (fun N => (op_plans hb N).1)) (OpensA.cons (e1 := fun p => .agg (encP p)) (Opens.argAgg Tryz.underlying26 (fun N => (op_plans hb N).1)) OpensA.nil)
end
end Go.Al
