/- A part of the proof that plaittop.CoreLanes returns true. -/
import Derived.Test.YtebpijlmeemfaaaGreatDoorB23
set_option linter.all false
set_option linter.unusedSectionVars false
set_option linter.unusedSimpArgs false
set_option linter.unusedVariables false
section
set_option maxRecDepth 100000
namespace Ev
theorem mid151 (a b : Nat → Nat) : outA (evA 151 a b) = expA 151 a b := by kernel_rfl
theorem mid152 (a b : Nat → Nat) : outA (evA 152 a b) = expA 152 a b := by kernel_rfl
theorem mid153 (a b : Nat → Nat) : outA (evA 153 a b) = expA 153 a b := by kernel_rfl
theorem mid155 (a b : Nat → Nat) : outA (evA 155 a b) = expA 155 a b := by kernel_rfl
theorem mid156 (a b : Nat → Nat) : outA (evA 156 a b) = expA 156 a b := by kernel_rfl
theorem mid157 (a b : Nat → Nat) : outA (evA 157 a b) = expA 157 a b := by kernel_rfl
theorem mid158 (a b : Nat → Nat) : outA (evA 158 a b) = expA 158 a b := by kernel_rfl
theorem mid159 (a b : Nat → Nat) : outA (evA 159 a b) = expA 159 a b := by kernel_rfl
theorem mid174 (a b : Nat → Nat) : outA (evA 174 a b) = expA 174 a b := by kernel_rfl
theorem mid177 (a b : Nat → Nat) : outA (evA 177 a b) = expA 177 a b := by kernel_rfl
theorem mid181 (a b : Nat → Nat) : outA (evA 181 a b) = expA 181 a b := by kernel_rfl
end Ev
end
