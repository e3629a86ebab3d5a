/-
  NARROWER THAN 'FOR EVERY INPUT', by the rows' own cells (each row's printed sentence says how): StrataRests: loops · StrataMakes: loops · StrataFalls: loops · StrataOrder: loops · StrataRefused: loops.
  DERIVED. THE GIVEN ROWS OF THIS SEAT. 6 by the template 'for every input the law returns true; each argument reads behind the call as it read before'; 0 by the template 'total and deterministic' (their statements: YtldaibijdhjpjaaTotals.lean).
  GIVEN WITH THE SEED: the statements are not yours to turn. If you find one false, say at which input.
  Laid BY PROGRAM, IN A SANDBOX (cutbox-rows.mjs): the forced cells as the released guide's own fill.sh prints them over the translation b9fe9fe5a79018a4… (all of the seat's roots in one cut). By AI agents, Wed Nov 11 2026. No macro, syntax, notation, axiom, sorry.
-/
import Derived.Test.YtldaibijdhjpjaaChecked
import GoSem.Claim
import GoSem.ClaimJoined
import GoSem.ClaimMapViews
import Derived.JoinedTies
import Derived.KernelRfl
namespace Go.Proofs.Ytldaibijdhjpjaa
/- THE CELL 'sum', in the pinned program and in every row, IS THE sha256 OF THE DUMP (.gsa) THAT YtldaibijdhjpjaaProg.lean LOADS. Nothing in Lean hashes anything: it is a label: what it is worth is what the hold of that sum in a sandbox is worth. -/
noncomputable def Try.pinned : Pinned := { name := "ytldaibijdhjpjaa", sum := "b9fe9fe5a79018a4240fbc8728ba4de0564915387c4b9eb4fd0f8714648ca7ce", checked := Try.checked }
namespace Rows
def none {H : Type} : Left H := { results := [], args := [] }

/-- 'corollarylaw15.StrataRests': WHATEVER THE INPUT: true; the input reads as it did. -/
def strataRestsSpec : ChangeSpec := { name := "strataRests", fn := fun _ => fun
  | [d] => { results := [.lit (.bool true)], args := [d] }
  | _ => none }
def strataRestsRow : OpenClaim := { program := "ytldaibijdhjpjaa", sum := "b9fe9fe5a79018a4240fbc8728ba4de0564915387c4b9eb4fd0f8714648ca7ce", func := "corollary/corollarylaw15.StrataRests", spec := "strataRests", unfollowed := true, recurses := true, loops := true, apart := false }
def StrataRestsSaid : Prop := strataRestsRow.holds Try.pinned (OpenSpec.ofChange strataRestsSpec)

/-- ITS FALSE NEIGHBOUR: 'it returns false'. Refute it at one input. -/
def strataRestsWrong : ChangeSpec := { name := "strataRests", fn := fun _ => fun
  | [d] => { results := [.lit (.bool false)], args := [d] }
  | _ => none }
def StrataRestsWrongFalsely : Prop := strataRestsRow.holds Try.pinned (OpenSpec.ofChange strataRestsWrong)

/-- 'corollarylaw15.StrataMakes': WHATEVER THE INPUT: true; the input reads as it did. -/
def strataMakesSpec : ChangeSpec := { name := "strataMakes", fn := fun _ => fun
  | [d] => { results := [.lit (.bool true)], args := [d] }
  | _ => none }
def strataMakesRow : OpenClaim := { program := "ytldaibijdhjpjaa", sum := "b9fe9fe5a79018a4240fbc8728ba4de0564915387c4b9eb4fd0f8714648ca7ce", func := "corollary/corollarylaw15.StrataMakes", spec := "strataMakes", unfollowed := true, recurses := true, loops := true, apart := false }
def StrataMakesSaid : Prop := strataMakesRow.holds Try.pinned (OpenSpec.ofChange strataMakesSpec)

/-- ITS FALSE NEIGHBOUR: 'it returns false'. Refute it at one input. -/
def strataMakesWrong : ChangeSpec := { name := "strataMakes", fn := fun _ => fun
  | [d] => { results := [.lit (.bool false)], args := [d] }
  | _ => none }
def StrataMakesWrongFalsely : Prop := strataMakesRow.holds Try.pinned (OpenSpec.ofChange strataMakesWrong)

/-- 'corollarylaw15.StrataFalls': WHATEVER THE INPUT: true; the input reads as it did. -/
def strataFallsSpec : ChangeSpec := { name := "strataFalls", fn := fun _ => fun
  | [d] => { results := [.lit (.bool true)], args := [d] }
  | _ => none }
def strataFallsRow : OpenClaim := { program := "ytldaibijdhjpjaa", sum := "b9fe9fe5a79018a4240fbc8728ba4de0564915387c4b9eb4fd0f8714648ca7ce", func := "corollary/corollarylaw15.StrataFalls", spec := "strataFalls", unfollowed := true, recurses := true, loops := true, apart := false }
def StrataFallsSaid : Prop := strataFallsRow.holds Try.pinned (OpenSpec.ofChange strataFallsSpec)

/-- ITS FALSE NEIGHBOUR: 'it returns false'. Refute it at one input. -/
def strataFallsWrong : ChangeSpec := { name := "strataFalls", fn := fun _ => fun
  | [d] => { results := [.lit (.bool false)], args := [d] }
  | _ => none }
def StrataFallsWrongFalsely : Prop := strataFallsRow.holds Try.pinned (OpenSpec.ofChange strataFallsWrong)

/-- 'corollarylaw15.StrataOrder': WHATEVER THE INPUT: true; the input reads as it did. -/
def strataOrderSpec : ChangeSpec := { name := "strataOrder", fn := fun _ => fun
  | [d1, d2] => { results := [.lit (.bool true)], args := [d1, d2] }
  | _ => none }
def strataOrderRow : OpenClaim := { program := "ytldaibijdhjpjaa", sum := "b9fe9fe5a79018a4240fbc8728ba4de0564915387c4b9eb4fd0f8714648ca7ce", func := "corollary/corollarylaw15.StrataOrder", spec := "strataOrder", unfollowed := true, recurses := true, loops := true, apart := false }
def StrataOrderSaid : Prop := strataOrderRow.holds Try.pinned (OpenSpec.ofChange strataOrderSpec)

/-- ITS FALSE NEIGHBOUR: 'it returns false'. Refute it at one input. -/
def strataOrderWrong : ChangeSpec := { name := "strataOrder", fn := fun _ => fun
  | [d1, d2] => { results := [.lit (.bool false)], args := [d1, d2] }
  | _ => none }
def StrataOrderWrongFalsely : Prop := strataOrderRow.holds Try.pinned (OpenSpec.ofChange strataOrderWrong)

/-- 'corollarylaw15.StrataNames': WHATEVER THE INPUT: true; the input reads as it did. -/
def strataNamesSpec : ChangeSpec := { name := "strataNames", fn := fun _ => fun
  | [] => { results := [.lit (.bool true)], args := [] }
  | _ => none }
def strataNamesRow : OpenClaim := { program := "ytldaibijdhjpjaa", sum := "b9fe9fe5a79018a4240fbc8728ba4de0564915387c4b9eb4fd0f8714648ca7ce", func := "corollary/corollarylaw15.StrataNames", spec := "strataNames", unfollowed := true, recurses := true, apart := false }
def StrataNamesSaid : Prop := strataNamesRow.holds Try.pinned (OpenSpec.ofChange strataNamesSpec)

/-- ITS FALSE NEIGHBOUR: 'it returns false'. Refute it at one input. -/
def strataNamesWrong : ChangeSpec := { name := "strataNames", fn := fun _ => fun
  | [] => { results := [.lit (.bool false)], args := [] }
  | _ => none }
def StrataNamesWrongFalsely : Prop := strataNamesRow.holds Try.pinned (OpenSpec.ofChange strataNamesWrong)

/-- 'corollarylaw15.StrataRefused': WHATEVER THE INPUT: true; the input reads as it did. -/
def strataRefusedSpec : ChangeSpec := { name := "strataRefused", fn := fun _ => fun
  | [d] => { results := [.lit (.bool true)], args := [d] }
  | _ => none }
def strataRefusedRow : OpenClaim := { program := "ytldaibijdhjpjaa", sum := "b9fe9fe5a79018a4240fbc8728ba4de0564915387c4b9eb4fd0f8714648ca7ce", func := "corollary/corollarylaw15.StrataRefused", spec := "strataRefused", unfollowed := true, recurses := true, loops := true, apart := false }
def StrataRefusedSaid : Prop := strataRefusedRow.holds Try.pinned (OpenSpec.ofChange strataRefusedSpec)

/-- ITS FALSE NEIGHBOUR: 'it returns false'. Refute it at one input. -/
def strataRefusedWrong : ChangeSpec := { name := "strataRefused", fn := fun _ => fun
  | [d] => { results := [.lit (.bool false)], args := [d] }
  | _ => none }
def StrataRefusedWrongFalsely : Prop := strataRefusedRow.holds Try.pinned (OpenSpec.ofChange strataRefusedWrong)

/- THE SECOND FORM. 'bulk': how many values and letters a reading holds, each counted each time it is reached (what is shared counts as often as it is met; a slice's spare places count too). A statement '..UptoSaid' is the law's where the arguments, and the package variables that the reading takes, are together of bulk at most 1048576: NARROWER than '..Said'. Prove '..Said' where nothing that the law and all that it calls make is longer than what came in: it says more and counts as full. Else prove '..UptoSaid'. A law counts once. -/
mutual
def uptoBulk {H : Type} : DataW H → Nat
  | .lit (.string bytes) => bytes.length + 1
  | .lit _ => 1
  | .nil => 1
  | .ptr d => uptoBulk d + 1
  | .slice elems spare => uptoBulkAll elems + uptoBulkAll spare + 1
  | .agg parts => uptoBulkAll parts + 1
  | .iface _ d => uptoBulk d + 1
  | .map entries => uptoBulkEntries entries + 1
  | .held _ => 1
def uptoBulkAll {H : Type} : List (DataW H) → Nat
  | [] => 0
  | d :: r => uptoBulk d + uptoBulkAll r
def uptoBulkEntries {H : Type} : List (Lit × DataW H) → Nat
  | [] => 0
  | x :: r => uptoBulkEntry x + uptoBulkEntries r
def uptoBulkEntry {H : Type} : Lit × DataW H → Nat
  | (.string bytes, d) => bytes.length + uptoBulk d + 1
  | (_, d) => uptoBulk d + 1
 end
def uptoSmall : (H : Type) → List (DataW H) → Bool := fun _ ds => decide (uptoBulkAll ds ≤ 1048576)
def OpenSpec.upto (s : _root_.Go.ChangeSpec) : _root_.Go.OpenSpec := { _root_.Go.OpenSpec.ofChange s with cond := some uptoSmall }

/-- 'corollarylaw15.StrataRests', WHERE WHAT IT READS IS OF BULK AT MOST 1048576: true; the input reads as it did. -/
def strataRestsUptoRow : OpenClaim := { program := "ytldaibijdhjpjaa", sum := "b9fe9fe5a79018a4240fbc8728ba4de0564915387c4b9eb4fd0f8714648ca7ce", func := "corollary/corollarylaw15.StrataRests", spec := "strataRests", unfollowed := true, recurses := true, loops := true, apart := false, narrowed := true }
def StrataRestsUptoSaid : Prop := strataRestsUptoRow.holds Try.pinned (OpenSpec.upto strataRestsSpec)

/-- 'corollarylaw15.StrataMakes', WHERE WHAT IT READS IS OF BULK AT MOST 1048576: true; the input reads as it did. -/
def strataMakesUptoRow : OpenClaim := { program := "ytldaibijdhjpjaa", sum := "b9fe9fe5a79018a4240fbc8728ba4de0564915387c4b9eb4fd0f8714648ca7ce", func := "corollary/corollarylaw15.StrataMakes", spec := "strataMakes", unfollowed := true, recurses := true, loops := true, apart := false, narrowed := true }
def StrataMakesUptoSaid : Prop := strataMakesUptoRow.holds Try.pinned (OpenSpec.upto strataMakesSpec)

/-- 'corollarylaw15.StrataFalls', WHERE WHAT IT READS IS OF BULK AT MOST 1048576: true; the input reads as it did. -/
def strataFallsUptoRow : OpenClaim := { program := "ytldaibijdhjpjaa", sum := "b9fe9fe5a79018a4240fbc8728ba4de0564915387c4b9eb4fd0f8714648ca7ce", func := "corollary/corollarylaw15.StrataFalls", spec := "strataFalls", unfollowed := true, recurses := true, loops := true, apart := false, narrowed := true }
def StrataFallsUptoSaid : Prop := strataFallsUptoRow.holds Try.pinned (OpenSpec.upto strataFallsSpec)

/-- 'corollarylaw15.StrataOrder', WHERE WHAT IT READS IS OF BULK AT MOST 1048576: true; the input reads as it did. -/
def strataOrderUptoRow : OpenClaim := { program := "ytldaibijdhjpjaa", sum := "b9fe9fe5a79018a4240fbc8728ba4de0564915387c4b9eb4fd0f8714648ca7ce", func := "corollary/corollarylaw15.StrataOrder", spec := "strataOrder", unfollowed := true, recurses := true, loops := true, apart := false, narrowed := true }
def StrataOrderUptoSaid : Prop := strataOrderUptoRow.holds Try.pinned (OpenSpec.upto strataOrderSpec)

/-- 'corollarylaw15.StrataNames', WHERE WHAT IT READS IS OF BULK AT MOST 1048576: true; the input reads as it did. -/
def strataNamesUptoRow : OpenClaim := { program := "ytldaibijdhjpjaa", sum := "b9fe9fe5a79018a4240fbc8728ba4de0564915387c4b9eb4fd0f8714648ca7ce", func := "corollary/corollarylaw15.StrataNames", spec := "strataNames", unfollowed := true, recurses := true, apart := false, narrowed := true }
def StrataNamesUptoSaid : Prop := strataNamesUptoRow.holds Try.pinned (OpenSpec.upto strataNamesSpec)

/-- 'corollarylaw15.StrataRefused', WHERE WHAT IT READS IS OF BULK AT MOST 1048576: true; the input reads as it did. -/
def strataRefusedUptoRow : OpenClaim := { program := "ytldaibijdhjpjaa", sum := "b9fe9fe5a79018a4240fbc8728ba4de0564915387c4b9eb4fd0f8714648ca7ce", func := "corollary/corollarylaw15.StrataRefused", spec := "strataRefused", unfollowed := true, recurses := true, loops := true, apart := false, narrowed := true }
def StrataRefusedUptoSaid : Prop := strataRefusedUptoRow.holds Try.pinned (OpenSpec.upto strataRefusedSpec)

end Rows
end Go.Proofs.Ytldaibijdhjpjaa
