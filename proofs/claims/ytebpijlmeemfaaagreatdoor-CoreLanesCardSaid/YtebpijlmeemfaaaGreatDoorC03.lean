/- A part of the proof that plaittop.CoreLanes returns true. -/
import Derived.Test.YtebpijlmeemfaaaGreatDoorB23
set_option linter.all false
set_option linter.unusedSectionVars false
set_option linter.unusedSimpArgs false
set_option linter.unusedVariables false
section
set_option maxRecDepth 100000
namespace Ev
theorem mid46 (a b : Nat → Nat) : outA (evA 46 a b) = expA 46 a b := by kernel_rfl
theorem mid47 (a b : Nat → Nat) : outA (evA 47 a b) = expA 47 a b := by kernel_rfl
theorem mid48 (a b : Nat → Nat) : outA (evA 48 a b) = expA 48 a b := by kernel_rfl
theorem mid49 (a b : Nat → Nat) : outA (evA 49 a b) = expA 49 a b := by kernel_rfl
theorem mid50 (a b : Nat → Nat) : outA (evA 50 a b) = expA 50 a b := by kernel_rfl
theorem mid51 (a b : Nat → Nat) : outA (evA 51 a b) = expA 51 a b := by kernel_rfl
theorem mid52 (a b : Nat → Nat) : outA (evA 52 a b) = expA 52 a b := by kernel_rfl
theorem mid53 (a b : Nat → Nat) : outA (evA 53 a b) = expA 53 a b := by kernel_rfl
theorem mid54 (a b : Nat → Nat) : outA (evA 54 a b) = expA 54 a b := by kernel_rfl
theorem mid55 (a b : Nat → Nat) : outA (evA 55 a b) = expA 55 a b := by kernel_rfl
theorem mid56 (a b : Nat → Nat) : outA (evA 56 a b) = expA 56 a b := by kernel_rfl
end Ev
end
