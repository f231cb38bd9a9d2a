/- A part of the proof that plaittop.CoreLanes returns true. -/
import Derived.Test.YtebpijlmeemfaaaGreatDoorB23
set_option linter.all false
set_option linter.unusedSectionVars false
set_option linter.unusedSimpArgs false
set_option linter.unusedVariables false
section
set_option maxRecDepth 100000
namespace Ev
theorem mid35 (a b : Nat → Nat) : outA (evA 35 a b) = expA 35 a b := by kernel_rfl
theorem mid36 (a b : Nat → Nat) : outA (evA 36 a b) = expA 36 a b := by kernel_rfl
theorem mid37 (a b : Nat → Nat) : outA (evA 37 a b) = expA 37 a b := by kernel_rfl
theorem mid38 (a b : Nat → Nat) : outA (evA 38 a b) = expA 38 a b := by kernel_rfl
theorem mid39 (a b : Nat → Nat) : outA (evA 39 a b) = expA 39 a b := by kernel_rfl
theorem mid40 (a b : Nat → Nat) : outA (evA 40 a b) = expA 40 a b := by kernel_rfl
theorem mid41 (a b : Nat → Nat) : outA (evA 41 a b) = expA 41 a b := by kernel_rfl
theorem mid42 (a b : Nat → Nat) : outA (evA 42 a b) = expA 42 a b := by kernel_rfl
theorem mid43 (a b : Nat → Nat) : outA (evA 43 a b) = expA 43 a b := by kernel_rfl
theorem mid44 (a b : Nat → Nat) : outA (evA 44 a b) = expA 44 a b := by kernel_rfl
theorem mid45 (a b : Nat → Nat) : outA (evA 45 a b) = expA 45 a b := by kernel_rfl
end Ev
end
