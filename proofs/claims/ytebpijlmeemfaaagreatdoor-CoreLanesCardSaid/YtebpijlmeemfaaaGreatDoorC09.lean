/- A part of the proof that plaittop.CoreLanes returns true. -/
import Derived.Test.YtebpijlmeemfaaaGreatDoorB23
set_option linter.all false
set_option linter.unusedSectionVars false
set_option linter.unusedSimpArgs false
set_option linter.unusedVariables false
section
set_option maxRecDepth 100000
namespace Ev
theorem mid213 (a b : Nat → Nat) : outA (evA 213 a b) = expA 213 a b := by kernel_rfl
theorem mid214 (a b : Nat → Nat) : outA (evA 214 a b) = expA 214 a b := by kernel_rfl
theorem mid215 (a b : Nat → Nat) : outA (evA 215 a b) = expA 215 a b := by kernel_rfl
theorem mid216 (a b : Nat → Nat) : outA (evA 216 a b) = expA 216 a b := by kernel_rfl
theorem mid217 (a b : Nat → Nat) : outA (evA 217 a b) = expA 217 a b := by kernel_rfl
theorem mid218 (a b : Nat → Nat) : outA (evA 218 a b) = expA 218 a b := by kernel_rfl
theorem mid219 (a b : Nat → Nat) : outA (evA 219 a b) = expA 219 a b := by kernel_rfl
theorem mid220 (a b : Nat → Nat) : outA (evA 220 a b) = expA 220 a b := by kernel_rfl
theorem mid221 (a b : Nat → Nat) : outA (evA 221 a b) = expA 221 a b := by kernel_rfl
theorem mid222 (a b : Nat → Nat) : outA (evA 222 a b) = expA 222 a b := by kernel_rfl
theorem mid223 (a b : Nat → Nat) : outA (evA 223 a b) = expA 223 a b := by kernel_rfl
end Ev
end
