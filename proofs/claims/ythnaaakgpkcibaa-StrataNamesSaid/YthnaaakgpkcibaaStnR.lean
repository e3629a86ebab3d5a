/- The examples of the strata, run. -/
import Derived.Test.YthnaaakgpkcibaaEvR
import Derived.Test.YthnaaakgpkcibaaProg
import Derived.KernelRfl
set_option linter.unusedSimpArgs false
set_option linter.unusedVariables false
namespace Go.Stn
open Go.Proofs Go.Ev
def okT : Option (EV × Hp) → Bool
  | some (.bool true, _) => true
  | _ => false
theorem okT_some {r : Option (EV × Hp)} (h : okT r = true) : ∃ H, r = some (.bool true, H) := by
  unfold okT at h
  split at h
  · exact ⟨_, rfl⟩
  · cases h
theorem ran : okT (runF (compF Try.prog) 100000 60 3 [] ⟨.nil, 0⟩) = true := by kernel_rfl
theorem names_ok : Aw.Con Try.prog 3 [] (.val (.bool true)) := by
  obtain ⟨H, h⟩ := okT_some ran
  exact con_of_run (by kernel_rfl) h
end Go.Stn
