/- A part of the proof that plaittop.CoreLanes returns true. -/
import Derived.Test.YtebpijlmeemfaaaGreatDoorB16
set_option linter.all false
set_option linter.unusedSectionVars false
set_option linter.unusedSimpArgs false
set_option linter.unusedVariables false
section
set_option maxRecDepth 100000
namespace Ev
theorem get_t (v l : Nat → B64) (t f : Nat) : (pairsA 0 9).map (getL v l t f) = (pairsA 0 9).map (getR v l t f) := by kernel_rfl
theorem set_t (v l : Nat → B64) (t f : Nat) : (pairsA 0 9).map (setL v l t f) = (pairsA 0 9).map (setR v l t f) := by kernel_rfl
end Ev
end
