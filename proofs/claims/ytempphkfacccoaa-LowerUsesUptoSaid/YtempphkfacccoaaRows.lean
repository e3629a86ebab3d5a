/-
  NARROWER THAN 'FOR EVERY INPUT', by the rows' own cells (each row's printed sentence says how): SafeAny: loops · SafeFewer: loops · LowerUses: loops.
  DERIVED. THE GIVEN ROWS OF THIS SEAT. 5 by the template 'for every input the law returns true; each argument reads behind the call as it read before'; 0 by the template 'total and deterministic' (their statements: YtempphkfacccoaaTotals.lean).
  GIVEN WITH THE SEED: the statements are not yours to turn. If you find one false, say at which input.
  Laid BY PROGRAM, IN A SANDBOX (cutbox-rows.mjs): the forced cells as the released guide's own fill.sh prints them over the translation 87820f375048c6d1… (all of the seat's roots in one cut). By AI agents, Wed Nov 11 2026. No macro, syntax, notation, axiom, sorry.
-/
import Derived.Test.YtempphkfacccoaaChecked
import GoSem.Claim
import GoSem.ClaimJoined
import GoSem.ClaimMapViews
import Derived.JoinedTies
import Derived.KernelRfl
namespace Go.Proofs.Ytempphkfacccoaa
/- THE CELL 'sum', in the pinned program and in every row, IS THE sha256 OF THE DUMP (.gsa) THAT YtempphkfacccoaaProg.lean LOADS. Nothing in Lean hashes anything: it is a label: what it is worth is what the hold of that sum in a sandbox is worth. -/
noncomputable def Try.pinned : Pinned := { name := "ytempphkfacccoaa", sum := "87820f375048c6d15a6da2b599612e3def5e1ffef61bb080201ca18499316ff9", checked := Try.checked }
namespace Rows
def none {H : Type} : Left H := { results := [], args := [] }

/-- 'corollarylaw14.SafeAny': WHATEVER THE INPUT: true; the input reads as it did. -/
def safeAnySpec : ChangeSpec := { name := "safeAny", fn := fun _ => fun
  | [d1, d2] => { results := [.lit (.bool true)], args := [d1, d2] }
  | _ => none }
def safeAnyRow : OpenClaim := { program := "ytempphkfacccoaa", sum := "87820f375048c6d15a6da2b599612e3def5e1ffef61bb080201ca18499316ff9", func := "corollary/corollarylaw14.SafeAny", spec := "safeAny", unfollowed := true, recurses := true, loops := true, apart := false }
def SafeAnySaid : Prop := safeAnyRow.holds Try.pinned (OpenSpec.ofChange safeAnySpec)

/-- ITS FALSE NEIGHBOUR: 'it returns false'. Refute it at one input. -/
def safeAnyWrong : ChangeSpec := { name := "safeAny", fn := fun _ => fun
  | [d1, d2] => { results := [.lit (.bool false)], args := [d1, d2] }
  | _ => none }
def SafeAnyWrongFalsely : Prop := safeAnyRow.holds Try.pinned (OpenSpec.ofChange safeAnyWrong)

/-- 'corollarylaw14.SafeNames': WHATEVER THE INPUT: true; the input reads as it did. -/
def safeNamesSpec : ChangeSpec := { name := "safeNames", fn := fun _ => fun
  | [] => { results := [.lit (.bool true)], args := [] }
  | _ => none }
def safeNamesRow : OpenClaim := { program := "ytempphkfacccoaa", sum := "87820f375048c6d15a6da2b599612e3def5e1ffef61bb080201ca18499316ff9", func := "corollary/corollarylaw14.SafeNames", spec := "safeNames", unfollowed := true, recurses := true, apart := false }
def SafeNamesSaid : Prop := safeNamesRow.holds Try.pinned (OpenSpec.ofChange safeNamesSpec)

/-- ITS FALSE NEIGHBOUR: 'it returns false'. Refute it at one input. -/
def safeNamesWrong : ChangeSpec := { name := "safeNames", fn := fun _ => fun
  | [] => { results := [.lit (.bool false)], args := [] }
  | _ => none }
def SafeNamesWrongFalsely : Prop := safeNamesRow.holds Try.pinned (OpenSpec.ofChange safeNamesWrong)

/-- 'corollarylaw14.SafeFewer': WHATEVER THE INPUT: true; the input reads as it did. -/
def safeFewerSpec : ChangeSpec := { name := "safeFewer", fn := fun _ => fun
  | [d1, d2] => { results := [.lit (.bool true)], args := [d1, d2] }
  | _ => none }
def safeFewerRow : OpenClaim := { program := "ytempphkfacccoaa", sum := "87820f375048c6d15a6da2b599612e3def5e1ffef61bb080201ca18499316ff9", func := "corollary/corollarylaw14.SafeFewer", spec := "safeFewer", unfollowed := true, recurses := true, loops := true, apart := false }
def SafeFewerSaid : Prop := safeFewerRow.holds Try.pinned (OpenSpec.ofChange safeFewerSpec)

/-- ITS FALSE NEIGHBOUR: 'it returns false'. Refute it at one input. -/
def safeFewerWrong : ChangeSpec := { name := "safeFewer", fn := fun _ => fun
  | [d1, d2] => { results := [.lit (.bool false)], args := [d1, d2] }
  | _ => none }
def SafeFewerWrongFalsely : Prop := safeFewerRow.holds Try.pinned (OpenSpec.ofChange safeFewerWrong)

/-- 'corollarylaw20.LowerUses': WHATEVER THE INPUT: true; the input reads as it did. -/
def lowerUsesSpec : ChangeSpec := { name := "lowerUses", fn := fun _ => fun
  | [d] => { results := [.lit (.bool true)], args := [d] }
  | _ => none }
def lowerUsesRow : OpenClaim := { program := "ytempphkfacccoaa", sum := "87820f375048c6d15a6da2b599612e3def5e1ffef61bb080201ca18499316ff9", func := "corollary/corollarylaw20.LowerUses", spec := "lowerUses", unfollowed := true, recurses := true, loops := true, apart := false }
def LowerUsesSaid : Prop := lowerUsesRow.holds Try.pinned (OpenSpec.ofChange lowerUsesSpec)

/-- ITS FALSE NEIGHBOUR: 'it returns false'. Refute it at one input. -/
def lowerUsesWrong : ChangeSpec := { name := "lowerUses", fn := fun _ => fun
  | [d] => { results := [.lit (.bool false)], args := [d] }
  | _ => none }
def LowerUsesWrongFalsely : Prop := lowerUsesRow.holds Try.pinned (OpenSpec.ofChange lowerUsesWrong)

/-- 'corollarylaw20.LowerNames': WHATEVER THE INPUT: true; the input reads as it did. -/
def lowerNamesSpec : ChangeSpec := { name := "lowerNames", fn := fun _ => fun
  | [] => { results := [.lit (.bool true)], args := [] }
  | _ => none }
def lowerNamesRow : OpenClaim := { program := "ytempphkfacccoaa", sum := "87820f375048c6d15a6da2b599612e3def5e1ffef61bb080201ca18499316ff9", func := "corollary/corollarylaw20.LowerNames", spec := "lowerNames", unfollowed := true, recurses := true, apart := false }
def LowerNamesSaid : Prop := lowerNamesRow.holds Try.pinned (OpenSpec.ofChange lowerNamesSpec)

/-- ITS FALSE NEIGHBOUR: 'it returns false'. Refute it at one input. -/
def lowerNamesWrong : ChangeSpec := { name := "lowerNames", fn := fun _ => fun
  | [] => { results := [.lit (.bool false)], args := [] }
  | _ => none }
def LowerNamesWrongFalsely : Prop := lowerNamesRow.holds Try.pinned (OpenSpec.ofChange lowerNamesWrong)

/- THE SECOND FORM. 'bulk': how many values and letters a reading holds, each counted each time it is reached (what is shared counts as often as it is met; a slice's spare places count too). A statement '..UptoSaid' is the law's where the arguments, and the package variables that the reading takes, are together of bulk at most 1048576: NARROWER than '..Said'. Prove '..Said' where nothing that the law and all that it calls make is longer than what came in: it says more and counts as full. Else prove '..UptoSaid'. A law counts once. -/
mutual
def uptoBulk {H : Type} : DataW H → Nat
  | .lit (.string bytes) => bytes.length + 1
  | .lit _ => 1
  | .nil => 1
  | .ptr d => uptoBulk d + 1
  | .slice elems spare => uptoBulkAll elems + uptoBulkAll spare + 1
  | .agg parts => uptoBulkAll parts + 1
  | .iface _ d => uptoBulk d + 1
  | .map entries => uptoBulkEntries entries + 1
  | .held _ => 1
def uptoBulkAll {H : Type} : List (DataW H) → Nat
  | [] => 0
  | d :: r => uptoBulk d + uptoBulkAll r
def uptoBulkEntries {H : Type} : List (Lit × DataW H) → Nat
  | [] => 0
  | x :: r => uptoBulkEntry x + uptoBulkEntries r
def uptoBulkEntry {H : Type} : Lit × DataW H → Nat
  | (.string bytes, d) => bytes.length + uptoBulk d + 1
  | (_, d) => uptoBulk d + 1
 end
def uptoSmall : (H : Type) → List (DataW H) → Bool := fun _ ds => decide (uptoBulkAll ds ≤ 1048576)
def OpenSpec.upto (s : _root_.Go.ChangeSpec) : _root_.Go.OpenSpec := { _root_.Go.OpenSpec.ofChange s with cond := some uptoSmall }

/-- 'corollarylaw14.SafeAny', WHERE WHAT IT READS IS OF BULK AT MOST 1048576: true; the input reads as it did. -/
def safeAnyUptoRow : OpenClaim := { program := "ytempphkfacccoaa", sum := "87820f375048c6d15a6da2b599612e3def5e1ffef61bb080201ca18499316ff9", func := "corollary/corollarylaw14.SafeAny", spec := "safeAny", unfollowed := true, recurses := true, loops := true, apart := false, narrowed := true }
def SafeAnyUptoSaid : Prop := safeAnyUptoRow.holds Try.pinned (OpenSpec.upto safeAnySpec)

/-- 'corollarylaw14.SafeNames', WHERE WHAT IT READS IS OF BULK AT MOST 1048576: true; the input reads as it did. -/
def safeNamesUptoRow : OpenClaim := { program := "ytempphkfacccoaa", sum := "87820f375048c6d15a6da2b599612e3def5e1ffef61bb080201ca18499316ff9", func := "corollary/corollarylaw14.SafeNames", spec := "safeNames", unfollowed := true, recurses := true, apart := false, narrowed := true }
def SafeNamesUptoSaid : Prop := safeNamesUptoRow.holds Try.pinned (OpenSpec.upto safeNamesSpec)

/-- 'corollarylaw14.SafeFewer', WHERE WHAT IT READS IS OF BULK AT MOST 1048576: true; the input reads as it did. -/
def safeFewerUptoRow : OpenClaim := { program := "ytempphkfacccoaa", sum := "87820f375048c6d15a6da2b599612e3def5e1ffef61bb080201ca18499316ff9", func := "corollary/corollarylaw14.SafeFewer", spec := "safeFewer", unfollowed := true, recurses := true, loops := true, apart := false, narrowed := true }
def SafeFewerUptoSaid : Prop := safeFewerUptoRow.holds Try.pinned (OpenSpec.upto safeFewerSpec)

/-- 'corollarylaw20.LowerUses', WHERE WHAT IT READS IS OF BULK AT MOST 1048576: true; the input reads as it did. -/
def lowerUsesUptoRow : OpenClaim := { program := "ytempphkfacccoaa", sum := "87820f375048c6d15a6da2b599612e3def5e1ffef61bb080201ca18499316ff9", func := "corollary/corollarylaw20.LowerUses", spec := "lowerUses", unfollowed := true, recurses := true, loops := true, apart := false, narrowed := true }
def LowerUsesUptoSaid : Prop := lowerUsesUptoRow.holds Try.pinned (OpenSpec.upto lowerUsesSpec)

/-- 'corollarylaw20.LowerNames', WHERE WHAT IT READS IS OF BULK AT MOST 1048576: true; the input reads as it did. -/
def lowerNamesUptoRow : OpenClaim := { program := "ytempphkfacccoaa", sum := "87820f375048c6d15a6da2b599612e3def5e1ffef61bb080201ca18499316ff9", func := "corollary/corollarylaw20.LowerNames", spec := "lowerNames", unfollowed := true, recurses := true, apart := false, narrowed := true }
def LowerNamesUptoSaid : Prop := lowerNamesUptoRow.holds Try.pinned (OpenSpec.upto lowerNamesSpec)

end Rows
end Go.Proofs.Ytempphkfacccoaa
