/- What the arguments read as: a program, and a list of ints. -/
import Derived.Test.YtldaibijdhjpjaaStOp
set_option linter.unusedSimpArgs false
set_option linter.unusedVariables false
open Go Go.Aw Go.Proofs
namespace Go.St
theorem co3 : Try.prog.cellsOf 3 = 1 := by kernel_rfl
section
variable {H : Type} {enc : TypeId × Value → H} {w : World} {bulk : DataW H → Nat}
theorem op_picks (hb : Bulk bulk) (N : Nat) : Opens enc Try.prog w bulk N 37 (fun l : List Int => [.rd 1 (l.map fun n => [ival n])]) (fun l b => l.length ≤ b) :=
  (Opens.sliceAll hb Try.underlying37 (by rw [co3]; decide) (fun _ => by rw [co3]; rfl) op_int N).map id (fun _ => by rw [co3]; rfl) (fun x b h => Nat.le_of_lt h.length)
/-- the two arguments -/
theorem ops_mod_ints (hb : Bulk bulk) : OpensA enc Try.prog w bulk [28, 37] (fun x : MMod × List Int × Unit => [encMod x.1, .rd 1 (x.2.1.map fun n => [ival n])]) (BothOK (fun m b => b ≤ 1048576 → m.ok) (BothOK (fun l b => l.length ≤ b) (fun _ _ => True))) :=
  OpensA.cons (e1 := encMod) (Opens.argAgg Try.underlying28 (op_mod hb)) (OpensA.cons (e1 := fun l : List Int => .rd 1 (l.map fun n => [ival n])) (Opens.argSlice Try.underlying37 (op_picks hb)) OpensA.nil)
end
end Go.St
