/- What the arguments read as: a program, and a number. -/
import Derived.Test.YtempphkfacccoaaSlOp
import Derived.Test.YtempphkfacccoaaSlL
set_option linter.unusedSimpArgs false
set_option linter.unusedVariables false
open Go Go.Aw Go.Proofs
namespace Go.Sl
theorem coN : Try.prog.cellsOf 58 = 4 := by kernel_rfl
section
variable {H : Type} {enc : TypeId × Value → H} {w : World} {bulk : DataW H → Nat}
def ruleOK (r : RuleD) (b : Nat) : Prop := r.body.length < b ∧ (∀ x ∈ r.body, sizes x.args < b) ∧ sizes r.args < b
def nevOK (n : NevD) (b : Nat) : Prop := n.body.length < b ∧ ∀ x ∈ n.body, sizes x.args < b
theorem op_rule (hb : Bulk bulk) : ∀ N, Opens enc Try.prog w bulk N 54 encR ruleOK := fun N =>
  (Opens.structAll hb Try.underlying54 (by kernel_rfl) (fun N => .cons rfl (m := 2) (by kernel_rfl) (op_pos hb N) (.cons rfl (m := 1) (by kernel_rfl) (op_text hb N) (.cons rfl (m := 1) (by kernel_rfl) (op_exprs hb N).2 (.cons rfl (m := 1) (by kernel_rfl) (op_texts hb N)
    (.cons rfl (m := 1) (by kernel_rfl) (op_body hb N) .nil (by simp)) (by simp)) (by simp)) (by simp)) (by simp)) (ok' := fun x b => ruleOK ⟨x.1.1, x.1.2, x.2.1, x.2.2.1, x.2.2.2.1, x.2.2.2.2.1⟩ b)
    (fun x b b' h hb => by obtain ⟨b1, b2, h1, ⟨b3, b4, h3, ⟨b5, b6, h5, ⟨b7, b8, h7, ⟨b9, b10, h9, _, e5⟩, e4⟩, e3⟩, e2⟩, e1⟩ := h; exact ⟨by have := h9.1; simp only; omega, fun y hy => by have := h9.2 y hy; omega, by simp only; omega⟩) N).map
    (fun x => ⟨x.1.1, x.1.2, x.2.1, x.2.2.1, x.2.2.2.1, x.2.2.2.2.1⟩) (fun _ => rfl) (fun _ _ h => h)
theorem op_nev (hb : Bulk bulk) : ∀ N, Opens enc Try.prog w bulk N 58 encN nevOK := fun N =>
  (Opens.structAll hb Try.underlying58 (by kernel_rfl) (fun N => .cons rfl (m := 2) (by kernel_rfl) (op_pos hb N) (.cons rfl (m := 1) (by kernel_rfl) (op_text hb N) (.cons rfl (m := 1) (by kernel_rfl) (op_body hb N) .nil (by simp)) (by simp)) (by simp))
    (ok' := fun x b => nevOK ⟨x.1.1, x.1.2, x.2.1, x.2.2.1⟩ b) (fun x b b' h hb => by obtain ⟨b1, b2, h1, ⟨b3, b4, h3, ⟨b5, b6, h5, _, e3⟩, e2⟩, e1⟩ := h; exact ⟨by have := h5.1; simp only; omega, fun y hy => by have := h5.2 y hy; omega⟩) N).map
    (fun x => ⟨x.1.1, x.1.2, x.2.1, x.2.2.1⟩) (fun _ => rfl) (fun _ _ h => h)
theorem op_mod (hb : Bulk bulk) : ∀ N, Opens enc Try.prog w bulk N 52 modC (fun m b => b ≤ 1048576 → ModLit m) := fun N =>
  (Opens.structAll hb Try.underlying52 (by kernel_rfl) (fun N => .cons rfl (m := 1) (by kernel_rfl) (op_text hb N) (.cons rfl (m := 1) (by kernel_rfl) (op_opq Try.underlying46 N) (.cons rfl (m := 1) (by kernel_rfl) (op_opq Try.underlying47 N)
    (.cons rfl (m := 1) (by kernel_rfl) (op_opq Try.underlying48 N)
    (.cons rfl (m := 1) (by kernel_rfl) (Opens.sliceAll hb Try.underlying49 (by rw [coR]; decide) (fun _ => by rw [coR]; rfl) (op_rule hb) N)
    (.cons rfl (m := 1) (by kernel_rfl) (Opens.sliceAll hb Try.underlying50 (by rw [coN]; decide) (fun _ => by rw [coN]; rfl) (op_nev hb) N) .nil (by simp)) (by simp)) (by simp)) (by simp)) (by simp)) (by simp))
    (ok' := fun x b => b ≤ 1048576 → ModLit ⟨x.1, x.2.1, x.2.2.1, x.2.2.2.1, x.2.2.2.2.1, x.2.2.2.2.2.1⟩)
    (fun x b b' h hb hB => by
      obtain ⟨b1, b2, h1, ⟨b3, b4, h3, ⟨b5, b6, h5, ⟨b7, b8, h7, ⟨b9, b10, h9, ⟨b11, b12, h11, _, e6⟩, e5⟩, e4⟩, e3⟩, e2⟩, e1⟩ := h
      have l9 := h9.length
      have l11 := h11.length
      refine ⟨by simp only; omega, by simp only; omega, fun r hr => ?_, fun r hr => ?_⟩
      · obtain ⟨b', hb', h1, h2, h3⟩ := h9.each r hr
        exact ⟨by omega, fun y hy => by have := h2 y hy; omega, by omega⟩
      · obtain ⟨b', hb', h1, h2⟩ := h11.each r hr
        exact ⟨by omega, fun y hy => by have := h2 y hy; omega⟩) N).map
    (fun x => ⟨x.1, x.2.1, x.2.2.1, x.2.2.2.1, x.2.2.2.2.1, x.2.2.2.2.2.1⟩) (fun x => by simp only [modC, coR, coN]; rfl) (fun _ _ h => h)
/-- the arguments: a program, and a number -/
theorem ops_fewer (hb : Bulk bulk) : OpensA enc Try.prog w bulk [52, 3] (fun x : ModD × Int × Unit => [encM x.1, ival x.2.1]) (BothOK (fun m b => b ≤ 1048576 → ModLit m) (BothOK (fun n _ => (Lit.int .i64 n).wf = true) (fun _ _ => True))) :=
  OpensA.cons (e1 := encM) (Opens.argAgg Try.underlying52 (op_mod hb)) (OpensA.cons (e1 := fun n : Int => ival n) (Opens.argInt Try.underlying3 op_int) OpensA.nil)
end
end Go.Sl
