/- A part of the proof that plaittop.CoreLanes returns true. -/
import Derived.Test.YtebpijlmeemfaaaGreatDoorB23
set_option linter.all false
set_option linter.unusedSectionVars false
set_option linter.unusedSimpArgs false
set_option linter.unusedVariables false
section
set_option maxRecDepth 100000
namespace Ev
theorem mid182 (a b : Nat → Nat) : outA (evA 182 a b) = expA 182 a b := by kernel_rfl
theorem mid183 (a b : Nat → Nat) : outA (evA 183 a b) = expA 183 a b := by kernel_rfl
theorem mid184 (a b : Nat → Nat) : outA (evA 184 a b) = expA 184 a b := by kernel_rfl
theorem mid185 (a b : Nat → Nat) : outA (evA 185 a b) = expA 185 a b := by kernel_rfl
theorem mid186 (a b : Nat → Nat) : outA (evA 186 a b) = expA 186 a b := by kernel_rfl
theorem mid188 (a b : Nat → Nat) : outA (evA 188 a b) = expA 188 a b := by kernel_rfl
theorem mid189 (a b : Nat → Nat) : outA (evA 189 a b) = expA 189 a b := by kernel_rfl
theorem mid190 (a b : Nat → Nat) : outA (evA 190 a b) = expA 190 a b := by kernel_rfl
theorem mid191 (a b : Nat → Nat) : outA (evA 191 a b) = expA 191 a b := by kernel_rfl
theorem mid206 (a b : Nat → Nat) : outA (evA 206 a b) = expA 206 a b := by kernel_rfl
theorem mid209 (a b : Nat → Nat) : outA (evA 209 a b) = expA 209 a b := by kernel_rfl
end Ev
end
