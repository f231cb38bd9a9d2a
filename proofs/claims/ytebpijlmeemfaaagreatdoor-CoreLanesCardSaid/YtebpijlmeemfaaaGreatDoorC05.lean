/- A part of the proof that plaittop.CoreLanes returns true. -/
import Derived.Test.YtebpijlmeemfaaaGreatDoorB23
set_option linter.all false
set_option linter.unusedSectionVars false
set_option linter.unusedSimpArgs false
set_option linter.unusedVariables false
section
set_option maxRecDepth 100000
namespace Ev
theorem mid81 (a b : Nat → Nat) : outA (evA 81 a b) = expA 81 a b := by kernel_rfl
theorem mid110 (a b : Nat → Nat) : outA (evA 110 a b) = expA 110 a b := by kernel_rfl
theorem mid111 (a b : Nat → Nat) : outA (evA 111 a b) = expA 111 a b := by kernel_rfl
theorem mid112 (a b : Nat → Nat) : outA (evA 112 a b) = expA 112 a b := by kernel_rfl
theorem mid113 (a b : Nat → Nat) : outA (evA 113 a b) = expA 113 a b := by kernel_rfl
theorem mid114 (a b : Nat → Nat) : outA (evA 114 a b) = expA 114 a b := by kernel_rfl
theorem mid115 (a b : Nat → Nat) : outA (evA 115 a b) = expA 115 a b := by kernel_rfl
theorem mid118 (a b : Nat → Nat) : outA (evA 118 a b) = expA 118 a b := by kernel_rfl
theorem mid119 (a b : Nat → Nat) : outA (evA 119 a b) = expA 119 a b := by kernel_rfl
theorem mid120 (a b : Nat → Nat) : outA (evA 120 a b) = expA 120 a b := by kernel_rfl
theorem mid121 (a b : Nat → Nat) : outA (evA 121 a b) = expA 121 a b := by kernel_rfl
end Ev
end
