/- What the argument reads as: a plan. -/
import Derived.Test.YtempphkfacccoaaAwZ
import Derived.Test.YtempphkfacccoaaSuSp
import Derived.Test.YtempphkfacccoaaSlA
import Derived.Test.YtempphkfacccoaaRows
set_option linter.unusedSimpArgs false
set_option linter.unusedVariables false
open Go Go.Aw Go.Proofs
namespace Go.Sl
theorem co3 : Try.prog.cellsOf 3 = 1 := by kernel_rfl
theorem co9 : Try.prog.cellsOf 9 = 1 := by kernel_rfl
theorem coE : Try.prog.cellsOf 42 = 9 := by kernel_rfl
theorem coP : Try.prog.cellsOf 66 = 6 := by kernel_rfl
theorem bulk_all {H : Type} : ∀ l : List (DataW H), Ytempphkfacccoaa.Rows.uptoBulkAll l = (l.map Ytempphkfacccoaa.Rows.uptoBulk).sum
  | [] => by simp [Ytempphkfacccoaa.Rows.uptoBulkAll]
  | d :: l => by simp [Ytempphkfacccoaa.Rows.uptoBulkAll, bulk_all l]
theorem bulk_ok (H : Type) : Bulk (Ytempphkfacccoaa.Rows.uptoBulk (H := H)) := by
  refine ⟨fun d => ?_, fun e s => ?_, fun l => ?_, fun l => ?_⟩
  · cases d with
    | lit l => cases l <;> simp [Ytempphkfacccoaa.Rows.uptoBulk]
    | _ => simp [Ytempphkfacccoaa.Rows.uptoBulk]
  · simp only [Ytempphkfacccoaa.Rows.uptoBulk, bulk_all]; omega
  · simp only [Ytempphkfacccoaa.Rows.uptoBulk, bulk_all]; omega
  · simp [Ytempphkfacccoaa.Rows.uptoBulk]
section
variable {H : Type} {enc : TypeId × Value → H} {w : World} {bulk : DataW H → Nat}
theorem op_int (N : Nat) : Opens enc Try.prog w bulk N 3 (fun n : Int => [ival n]) (fun n _ => (Lit.int .i64 n).wf = true) := .int Try.underlying3
theorem op_u8 (N : Nat) : Opens enc Try.prog w bulk N 5 (fun n : Int => [.val (.int .u8 n)]) (fun n _ => (Lit.int .u8 n).wf = true) := .int Try.underlying5
theorem op_text (hb : Bulk bulk) (N : Nat) : Opens enc Try.prog w bulk N 9 (fun s : ByteArray => [sval s]) (fun s b => s.size + 1 ≤ b) := .string hb Try.underlying9
theorem op_opq {t te : TypeId} (ht : Try.prog.underlying t = some (.slice te)) (N : Nat) : Opens enc Try.prog w bulk N t (fun x : Opq => [.val x.v]) (fun _ _ => True) := Opens.opq (X := Opq) ht (fun v h => ⟨v, h⟩) (fun x => x.v) (fun _ _ => rfl)
theorem op_pos (hb : Bulk bulk) : ∀ N, Opens enc Try.prog w bulk N 28 (fun p : Int × Int => [ival p.1, ival p.2]) (fun _ _ => True) :=
  Opens.structAll hb Try.underlying28 (by kernel_rfl) (fun N => .cons rfl (m := 1) (by kernel_rfl) (op_int N) (.cons rfl (m := 1) (by kernel_rfl) (op_int N) .nil (by simp)) (by simp))
    (ok' := fun _ _ => True) (fun _ _ _ _ _ => trivial) |> fun h N => (h N).map (fun x => (x.1, x.2.1)) (fun _ => rfl) (fun _ _ _ => trivial)
theorem op_texts (hb : Bulk bulk) : ∀ N, Opens enc Try.prog w bulk N 32 (fun l : List ByteArray => [.rd 1 (texts l)]) (fun l b => l.length ≤ b) := fun N =>
  (Opens.sliceAll hb Try.underlying32 (by rw [co9]; decide) (fun _ => by rw [co9]; rfl) (op_text hb) N).map id (fun _ => by rw [co9]; rfl) (fun x b h => Nat.le_of_lt h.length)
theorem op_ints (hb : Bulk bulk) (N : Nat) : Opens enc Try.prog w bulk N 23 (fun l : List Int => [.rd 1 (l.map fun n => [ival n])]) (fun l b => l.length ≤ b) :=
  (Opens.sliceAll hb Try.underlying23 (by rw [co3]; decide) (fun _ => by rw [co3]; rfl) op_int N).map id (fun _ => by rw [co3]; rfl) (fun x b h => Nat.le_of_lt h.length)
theorem op_i64 (N : Nat) : Opens enc Try.prog w bulk N 2 (fun n : Int => [ival n]) (fun n _ => (Lit.int .i64 n).wf = true) := .int Try.underlying2
theorem op_val (hb : Bulk bulk) : ∀ N, Opens enc Try.prog w bulk N 40 (fun x : Int × Int × ByteArray × Opq => [uval x.1, ival x.2.1, sval x.2.2.1, .val x.2.2.2.v]) (fun _ _ => True) := fun N =>
  (Opens.structAll hb Try.underlying40 (by kernel_rfl) (fun N => .cons rfl (m := 1) (by kernel_rfl) (op_u8 N) (.cons rfl (m := 1) (by kernel_rfl) (op_i64 N) (.cons rfl (m := 1) (by kernel_rfl) (op_text hb N) (.cons rfl (m := 1) (by kernel_rfl) (op_opq Try.underlying38 N) .nil (by simp)) (by simp)) (by simp)) (by simp))
    (ok' := fun _ _ => True) (fun _ _ _ _ _ => trivial) N).map (fun x => (x.1, x.2.1, x.2.2.1, x.2.2.2.1)) (fun _ => rfl) (fun _ _ _ => trivial)
theorem sizes_ok {l : List ExprD} : ∀ {b : Nat}, SumOK (fun e b => size e ≤ b) l b → sizes l < b := by
  induction l with
  | nil => intro b h; exact h
  | cons x l ih => intro b ⟨b1, b2, h1, h2, h3, h4⟩; have := ih h3; simp only [sizes]; omega
def mkE (x : Int × (Int × Int) × ByteArray × (Int × Int × ByteArray × Opq) × List ExprD × Unit) : ExprD := .mk x.1 x.2.1.1 x.2.1.2 x.2.2.1 x.2.2.2.1.1 x.2.2.2.1.2.1 x.2.2.2.1.2.2.1 x.2.2.2.1.2.2.2 x.2.2.2.2.1
theorem op_exprs (hb : Bulk bulk) : ∀ N, Opens enc Try.prog w bulk N 42 encE (fun e b => size e ≤ b) ∧ Opens enc Try.prog w bulk N 29 (fun l : List ExprD => [.rd 9 (l.map encE)]) (fun l b => sizes l < b) := by
  intro N
  induction N with
  | zero => exact ⟨Opens.zero, Opens.zero⟩
  | succ N ih =>
    refine ⟨?_, ?_⟩
    · refine (Opens.struct hb Try.underlying42 (by kernel_rfl) (.cons rfl (m := 1) (by kernel_rfl) (op_u8 N) (.cons rfl (m := 2) (by kernel_rfl) (op_pos hb N) (.cons rfl (m := 1) (by kernel_rfl) (op_text hb N) (.cons rfl (m := 4) (by kernel_rfl) (op_val hb N)
        (.cons rfl (m := 1) (by kernel_rfl) ih.2 .nil (by simp)) (by simp)) (by simp)) (by simp)) (by simp)) (ok' := fun x b => size (mkE x) ≤ b) (fun x b b' h hb => ?_)).map mkE (fun x => ?_) (fun _ _ h => h)
      · obtain ⟨b1, b2, h1, ⟨b3, b4, h3, ⟨b5, b6, h5, ⟨b7, b8, h7, ⟨b9, b10, h9, _, e5⟩, e4⟩, e3⟩, e2⟩, e1⟩ := h
        rw [size_eq]
        simp only [mkE, ExprD.args]
        omega
      · rw [encE_eq]; rfl
    · exact (Opens.slice hb Try.underlying29 (by rw [coE]; decide) (fun e => by rw [coE]; exact encE_len e) ih.1).map id (fun _ => by rw [coE]; rfl) (fun x b h => sizes_ok h)
theorem psizes_ok {l : List PlanD} : ∀ {b : Nat}, SumOK (fun e b => psize e ≤ b) l b → psizes l < b := by
  induction l with
  | nil => intro b h; exact h
  | cons x l ih => intro b ⟨b1, b2, h1, h2, h3, h4⟩; have := ih h3; simp only [psizes]; omega
def mkP (x : Int × ByteArray × ByteArray × List ExprD × List ByteArray × List PlanD × Unit) : PlanD := .mk x.1 x.2.1 x.2.2.1 x.2.2.2.1 x.2.2.2.2.1 x.2.2.2.2.2.1
theorem op_plans (hb : Bulk bulk) : ∀ N, Opens enc Try.prog w bulk N 66 encP (fun e b => psize e ≤ b) ∧ Opens enc Try.prog w bulk N 64 (fun l : List PlanD => [.rd 6 (l.map encP)]) (fun l b => psizes l < b) := by
  intro N
  induction N with
  | zero => exact ⟨Opens.zero, Opens.zero⟩
  | succ N ih =>
    refine ⟨?_, ?_⟩
    · refine (Opens.struct hb Try.underlying66 (by kernel_rfl) (.cons rfl (m := 1) (by kernel_rfl) (op_u8 N) (.cons rfl (m := 1) (by kernel_rfl) (op_text hb N) (.cons rfl (m := 1) (by kernel_rfl) (op_text hb N) (.cons rfl (m := 1) (by kernel_rfl) (op_exprs hb N).2
        (.cons rfl (m := 1) (by kernel_rfl) (op_texts hb N) (.cons rfl (m := 1) (by kernel_rfl) ih.2 .nil (by simp)) (by simp)) (by simp)) (by simp)) (by simp)) (by simp)) (ok' := fun x b => psize (mkP x) ≤ b) (fun x b b' h hb => ?_)).map mkP (fun x => ?_) (fun _ _ h => h)
      · obtain ⟨b1, b2, h1, ⟨b3, b4, h3, ⟨b5, b6, h5, ⟨b7, b8, h7, ⟨b9, b10, h9, ⟨b11, b12, h11, _, e6⟩, e5⟩, e4⟩, e3⟩, e2⟩, e1⟩ := h
        rw [psize_eq]
        simp only [mkP, PlanD.ins, PlanD.aggs]
        omega
      · rw [encP_eq]; rfl
    · exact (Opens.slice hb Try.underlying64 (by rw [coP]; decide) (fun e => by rw [coP]; exact encP_len e) ih.1).map id (fun _ => by rw [coP]; rfl) (fun x b h => psizes_ok h)
/-- the argument: a plan -/
theorem ops_plan (hb : Bulk bulk) : OpensA enc Try.prog w bulk [66] (fun x : PlanD × Unit => [encPX x.1]) (BothOK (fun p b => psize p ≤ b) (fun _ _ => True)) :=
  OpensA.cons (e1 := encPX) (Opens.argAgg Try.underlying66 (fun N => (op_plans hb N).1)) OpensA.nil
end
end Go.Sl
