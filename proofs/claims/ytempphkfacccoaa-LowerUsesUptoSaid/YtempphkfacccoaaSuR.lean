/- The closed part of the law, run. -/
import Derived.Test.YtempphkfacccoaaEvS
import Derived.Test.YtempphkfacccoaaProg
import Derived.KernelRfl
set_option linter.unusedSimpArgs false
set_option linter.unusedVariables false
namespace Go.Sl
open Go.Proofs Go.Ev
theorem awakeRan : okT (runQ (compF Try.prog) 100000 60 19 [] ⟨.nil, 0⟩) = true := by kernel_rfl
theorem awakeP_ok : Aw.Con Try.prog 19 [] (.val (.bool true)) := con_of_runQ (by kernel_rfl) awakeRan
end Go.Sl
