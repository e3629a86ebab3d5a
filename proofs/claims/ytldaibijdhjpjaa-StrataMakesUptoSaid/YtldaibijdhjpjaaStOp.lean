/- What an argument of the type of programs reads as. -/
import Derived.Test.YtldaibijdhjpjaaAwZ
import Derived.Test.YtldaibijdhjpjaaStSpec
import Derived.Test.YtldaibijdhjpjaaRows
set_option linter.unusedSimpArgs false
set_option linter.unusedVariables false
open Go Go.Aw Go.Proofs
namespace Go.St
theorem co9 : Try.prog.cellsOf 9 = 1 := by kernel_rfl
theorem co56 : Try.prog.cellsOf 56 = 5 := by kernel_rfl
theorem co64 : Try.prog.cellsOf 64 = 6 := by kernel_rfl
theorem co52 : Try.prog.cellsOf 52 = 6 := by kernel_rfl
theorem co66 : Try.prog.cellsOf 66 = 4 := by kernel_rfl
theorem bulk_all {H : Type} : ∀ l : List (DataW H), Ytldaibijdhjpjaa.Rows.uptoBulkAll l = (l.map Ytldaibijdhjpjaa.Rows.uptoBulk).sum
  | [] => by simp [Ytldaibijdhjpjaa.Rows.uptoBulkAll]
  | d :: l => by simp [Ytldaibijdhjpjaa.Rows.uptoBulkAll, bulk_all l]
theorem bulk_ok (H : Type) : Bulk (Ytldaibijdhjpjaa.Rows.uptoBulk (H := H)) := by
  refine ⟨fun d => ?_, fun e s => ?_, fun l => ?_, fun l => ?_⟩
  · cases d with
    | lit l => cases l <;> simp [Ytldaibijdhjpjaa.Rows.uptoBulk]
    | _ => simp [Ytldaibijdhjpjaa.Rows.uptoBulk]
  · simp only [Ytldaibijdhjpjaa.Rows.uptoBulk, bulk_all]; omega
  · simp only [Ytldaibijdhjpjaa.Rows.uptoBulk, bulk_all]; omega
  · simp [Ytldaibijdhjpjaa.Rows.uptoBulk]
section
variable {H : Type} {enc : TypeId × Value → H} {w : World} {bulk : DataW H → Nat}
theorem op_int (N : Nat) : Opens enc Try.prog w bulk N 3 (fun n : Int => [ival n]) (fun n _ => (Lit.int .i64 n).wf = true) := .int Try.underlying3
theorem op_u8 (N : Nat) : Opens enc Try.prog w bulk N 5 (fun n : Int => [.val (.int .u8 n)]) (fun n _ => (Lit.int .u8 n).wf = true) := .int Try.underlying5
theorem op_bool (N : Nat) : Opens enc Try.prog w bulk N 4 (fun b : Bool => [bval b]) (fun _ _ => True) := .bool Try.underlying4
theorem op_text (hb : Bulk bulk) (N : Nat) : Opens enc Try.prog w bulk N 9 (fun s : ByteArray => [sval s]) (fun s b => s.size + 1 ≤ b) := .string hb Try.underlying9
theorem op_opq {t te : TypeId} (ht : Try.prog.underlying t = some (.slice te)) (N : Nat) : Opens enc Try.prog w bulk N t (fun x : Opq => [.val x.v]) (fun _ _ => True) := Opens.opq (X := Opq) ht (fun v h => ⟨v, h⟩) (fun x => x.v) (fun _ _ => rfl)
theorem op_pos (hb : Bulk bulk) : ∀ N, Opens enc Try.prog w bulk N 32 (fun p : Int × Int => [ival p.1, ival p.2]) (fun _ _ => True) :=
  Opens.structAll hb Try.underlying32 (by kernel_rfl) (fun N => .cons rfl (m := 1) (by kernel_rfl) (op_int N) (.cons rfl (m := 1) (by kernel_rfl) (op_int N) .nil (by simp)) (by simp))
    (ok' := fun _ _ => True) (fun _ _ _ _ _ => trivial) |> fun h N => (h N).map (fun x => (x.1, x.2.1)) (fun _ => rfl) (fun _ _ _ => trivial)
theorem op_texts (hb : Bulk bulk) : ∀ N, Opens enc Try.prog w bulk N 49 (fun l : List ByteArray => [.rd 1 (l.map encText)]) (fun l b => l.length ≤ b) := fun N =>
  (Opens.sliceAll hb Try.underlying49 (by rw [co9]; decide) (fun _ => by rw [co9]; rfl) (op_text hb) N).map id (fun _ => by rw [co9]; rfl) (fun x b h => Nat.le_of_lt h.length)
theorem op_rel (hb : Bulk bulk) : ∀ N, Opens enc Try.prog w bulk N 64 encRel (fun _ _ => True) := fun N =>
  (Opens.structAll hb Try.underlying64 (by kernel_rfl) (fun N => .cons rfl (m := 2) (by kernel_rfl) (op_pos hb N) (.cons rfl (m := 1) (by kernel_rfl) (op_bool N) (.cons rfl (m := 1) (by kernel_rfl) (op_bool N) (.cons rfl (m := 1) (by kernel_rfl) (op_text hb N)
    (.cons rfl (m := 1) (by kernel_rfl) (op_opq Try.underlying62 N) .nil (by simp)) (by simp)) (by simp)) (by simp)) (by simp)) (ok' := fun _ _ => True) (fun _ _ _ _ _ => trivial) N).map
    (fun x => ⟨x.1.1, x.1.2, x.2.1, x.2.2.1, x.2.2.2.1, x.2.2.2.2.1⟩) (fun _ => rfl) (fun _ _ _ => trivial)
theorem op_lit (hb : Bulk bulk) : ∀ N, Opens enc Try.prog w bulk N 56 encLit (fun _ _ => True) := fun N =>
  (Opens.structAll hb Try.underlying56 (by kernel_rfl) (fun N => .cons rfl (m := 1) (by kernel_rfl) (op_u8 N) (.cons rfl (m := 2) (by kernel_rfl) (op_pos hb N) (.cons rfl (m := 1) (by kernel_rfl) (op_text hb N) (.cons rfl (m := 1) (by kernel_rfl) (op_opq Try.underlying48 N)
    .nil (by simp)) (by simp)) (by simp)) (by simp)) (ok' := fun _ _ => True) (fun _ _ _ _ _ => trivial) N).map
    (fun x => ⟨x.1, x.2.1.1, x.2.1.2, x.2.2.1, x.2.2.2.1⟩) (fun _ => rfl) (fun _ _ _ => trivial)
theorem op_body (hb : Bulk bulk) : ∀ N, Opens enc Try.prog w bulk N 50 (fun l : List LitD => [.rd 5 (l.map encLit)]) (fun l b => l.length ≤ b) := fun N =>
  (Opens.sliceAll hb Try.underlying50 (by rw [co56]; decide) (fun _ => by rw [co56]; rfl) (op_lit hb) N).map id (fun _ => by rw [co56]; rfl) (fun x b h => Nat.le_of_lt h.length)
theorem op_rule (hb : Bulk bulk) : ∀ N, Opens enc Try.prog w bulk N 52 encRule (fun r b => r.aggs.length ≤ b ∧ r.body.length ≤ b) := fun N =>
  (Opens.structAll hb Try.underlying52 (by kernel_rfl) (fun N => .cons rfl (m := 2) (by kernel_rfl) (op_pos hb N) (.cons rfl (m := 1) (by kernel_rfl) (op_text hb N) (.cons rfl (m := 1) (by kernel_rfl) (op_opq Try.underlying48 N) (.cons rfl (m := 1) (by kernel_rfl) (op_texts hb N)
    (.cons rfl (m := 1) (by kernel_rfl) (op_body hb N) .nil (by simp)) (by simp)) (by simp)) (by simp)) (by simp)) (ok' := fun x b => x.2.2.2.1.length ≤ b ∧ x.2.2.2.2.1.length ≤ b)
    (fun x b b' h hb => by obtain ⟨b1, b2, h1, ⟨b3, b4, h3, ⟨b5, b6, h5, ⟨b7, b8, h7, ⟨b9, b10, h9, _, e5⟩, e4⟩, e3⟩, e2⟩, e1⟩ := h; exact ⟨by omega, by omega⟩) N).map
    (fun x => ⟨x.1.1, x.1.2, x.2.1, x.2.2.1, x.2.2.2.1, x.2.2.2.2.1⟩) (fun _ => rfl) (fun _ _ h => h)
theorem op_nev (hb : Bulk bulk) : ∀ N, Opens enc Try.prog w bulk N 66 encNev (fun r b => r.body.length ≤ b) := fun N =>
  (Opens.structAll hb Try.underlying66 (by kernel_rfl) (fun N => .cons rfl (m := 2) (by kernel_rfl) (op_pos hb N) (.cons rfl (m := 1) (by kernel_rfl) (op_text hb N) (.cons rfl (m := 1) (by kernel_rfl) (op_body hb N) .nil (by simp)) (by simp)) (by simp))
    (ok' := fun x b => x.2.2.1.length ≤ b) (fun x b b' h hb => by obtain ⟨b1, b2, h1, ⟨b3, b4, h3, ⟨b5, b6, h5, _, e3⟩, e2⟩, e1⟩ := h; omega) N).map
    (fun x => ⟨x.1.1, x.1.2, x.2.1, x.2.2.1⟩) (fun _ => rfl) (fun _ _ h => h)
theorem op_mod (hb : Bulk bulk) : ∀ N, Opens enc Try.prog w bulk N 28 modCells (fun m b => b ≤ 1048576 → m.ok) := fun N =>
  (Opens.structAll hb Try.underlying28 (by kernel_rfl) (fun N => .cons rfl (m := 1) (by kernel_rfl) (op_text hb N) (.cons rfl (m := 1) (by kernel_rfl) (op_opq Try.underlying22 N) (.cons rfl (m := 1) (by kernel_rfl) (op_opq Try.underlying23 N)
    (.cons rfl (m := 1) (by kernel_rfl) (Opens.sliceAll hb Try.underlying24 (by rw [co64]; decide) (fun _ => by rw [co64]; rfl) (op_rel hb) N)
    (.cons rfl (m := 1) (by kernel_rfl) (Opens.sliceAll hb Try.underlying25 (by rw [co52]; decide) (fun _ => by rw [co52]; rfl) (op_rule hb) N)
    (.cons rfl (m := 1) (by kernel_rfl) (Opens.sliceAll hb Try.underlying26 (by rw [co66]; decide) (fun _ => by rw [co66]; rfl) (op_nev hb) N) .nil (by simp)) (by simp)) (by simp)) (by simp)) (by simp)) (by simp))
    (ok' := fun x b => b ≤ 1048576 → (⟨x.1, x.2.1, x.2.2.1, x.2.2.2.1, x.2.2.2.2.1, x.2.2.2.2.2.1⟩ : MMod).ok)
    (fun x b b' h hb hB => by
      obtain ⟨b1, b2, h1, ⟨b3, b4, h3, ⟨b5, b6, h5, ⟨b7, b8, h7, ⟨b9, b10, h9, ⟨b11, b12, h11, _, e6⟩, e5⟩, e4⟩, e3⟩, e2⟩, e1⟩ := h
      have l7 := h7.length
      have l9 := h9.length
      have l11 := h11.length
      refine ⟨by simp only; omega, by simp only; omega, by simp only; omega, fun r hr => ?_, fun r hr => ?_, fun r hr => ?_⟩
      · obtain ⟨b', hb', h1, h2⟩ := h9.each r hr; omega
      · obtain ⟨b', hb', h1, h2⟩ := h9.each r hr; omega
      · obtain ⟨b', hb', h1⟩ := h11.each r hr; omega) N).map
    (fun x => ⟨x.1, x.2.1, x.2.2.1, x.2.2.2.1, x.2.2.2.2.1, x.2.2.2.2.2.1⟩) (fun x => by simp only [modCells, co64, co52, co66]; rfl) (fun _ _ h => h)
/-- the one argument, a program -/
theorem ops_mod (hb : Bulk bulk) : OpensA enc Try.prog w bulk [28] (fun x : MMod × Unit => [encMod x.1]) (BothOK (fun m b => b ≤ 1048576 → m.ok) (fun _ _ => True)) :=
  OpensA.cons (e1 := encMod) (Opens.argAgg Try.underlying28 (op_mod hb)) OpensA.nil
end
end Go.St
