/- A part of the proof that plaittop.CoreLanes returns true. -/
import Derived.Test.YtebpijlmeemfaaaGreatDoorB23
set_option linter.all false
set_option linter.unusedSectionVars false
set_option linter.unusedSimpArgs false
set_option linter.unusedVariables false
section
set_option maxRecDepth 100000
namespace Ev
theorem mid57 (a b : Nat → Nat) : outA (evA 57 a b) = expA 57 a b := by kernel_rfl
theorem mid58 (a b : Nat → Nat) : outA (evA 58 a b) = expA 58 a b := by kernel_rfl
theorem mid59 (a b : Nat → Nat) : outA (evA 59 a b) = expA 59 a b := by kernel_rfl
theorem mid60 (a b : Nat → Nat) : outA (evA 60 a b) = expA 60 a b := by kernel_rfl
theorem mid61 (a b : Nat → Nat) : outA (evA 61 a b) = expA 61 a b := by kernel_rfl
theorem mid62 (a b : Nat → Nat) : outA (evA 62 a b) = expA 62 a b := by kernel_rfl
theorem mid63 (a b : Nat → Nat) : outA (evA 63 a b) = expA 63 a b := by kernel_rfl
theorem mid64 (a b : Nat → Nat) : outA (evA 64 a b) = expA 64 a b := by kernel_rfl
theorem mid78 (a b : Nat → Nat) : outA (evA 78 a b) = expA 78 a b := by kernel_rfl
theorem mid79 (a b : Nat → Nat) : outA (evA 79 a b) = expA 79 a b := by kernel_rfl
theorem mid80 (a b : Nat → Nat) : outA (evA 80 a b) = expA 80 a b := by kernel_rfl
end Ev
end
