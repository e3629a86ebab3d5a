/- The examples of plans, closed, run. -/
import Derived.Test.YtlkilbfegcplmaaEvS
import Derived.Test.YtlkilbfegcplmaaProg
import Derived.KernelRfl
set_option linter.unusedSimpArgs false
set_option linter.unusedVariables false
namespace Go.Lwn
open Go.Proofs Go.Ev
theorem ran : okT (runQ (compF Try.prog) 100000 60 3 [] ⟨.nil, 0⟩) = true := by kernel_rfl
theorem names_ok : Aw.Con Try.prog 3 [] (.val (.bool true)) := con_of_runQ (by kernel_rfl) ran
end Go.Lwn
