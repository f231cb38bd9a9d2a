/- A part of the proof that plaittop.CoreLanes returns true. -/
import Derived.Test.YtebpijlmeemfaaaGreatDoorB23
set_option linter.all false
set_option linter.unusedSectionVars false
set_option linter.unusedSimpArgs false
set_option linter.unusedVariables false
section
set_option maxRecDepth 100000
namespace Ev
theorem mid123 (a b : Nat → Nat) : outA (evA 123 a b) = expA 123 a b := by kernel_rfl
theorem mid133 (a b : Nat → Nat) : outA (evA 133 a b) = expA 133 a b := by kernel_rfl
theorem mid134 (a b : Nat → Nat) : outA (evA 134 a b) = expA 134 a b := by kernel_rfl
theorem mid142 (a b : Nat → Nat) : outA (evA 142 a b) = expA 142 a b := by kernel_rfl
theorem mid143 (a b : Nat → Nat) : outA (evA 143 a b) = expA 143 a b := by kernel_rfl
theorem mid144 (a b : Nat → Nat) : outA (evA 144 a b) = expA 144 a b := by kernel_rfl
theorem mid145 (a b : Nat → Nat) : outA (evA 145 a b) = expA 145 a b := by kernel_rfl
theorem mid146 (a b : Nat → Nat) : outA (evA 146 a b) = expA 146 a b := by kernel_rfl
theorem mid147 (a b : Nat → Nat) : outA (evA 147 a b) = expA 147 a b := by kernel_rfl
theorem mid149 (a b : Nat → Nat) : outA (evA 149 a b) = expA 149 a b := by kernel_rfl
theorem mid150 (a b : Nat → Nat) : outA (evA 150 a b) = expA 150 a b := by kernel_rfl
end Ev
end
