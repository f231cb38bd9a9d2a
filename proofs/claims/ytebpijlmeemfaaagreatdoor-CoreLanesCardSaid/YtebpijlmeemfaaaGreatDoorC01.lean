/- A part of the proof that plaittop.CoreLanes returns true. -/
import Derived.Test.YtebpijlmeemfaaaGreatDoorB23
set_option linter.all false
set_option linter.unusedSectionVars false
set_option linter.unusedSimpArgs false
set_option linter.unusedVariables false
section
set_option maxRecDepth 100000
namespace Ev
theorem mid14 (a b : Nat → Nat) : outA (evA 14 a b) = expA 14 a b := by kernel_rfl
end Ev
end
section
set_option maxRecDepth 100000
namespace Ev
theorem mid101 (a b : Nat → Nat) : outA (evA 101 a b) = expA 101 a b := by kernel_rfl
end Ev
end
section
set_option maxRecDepth 100000
namespace Ev
theorem mid102 (a b : Nat → Nat) : outA (evA 102 a b) = expA 102 a b := by kernel_rfl
end Ev
end
section
set_option maxRecDepth 100000
namespace Ev
theorem mid130 (a b : Nat → Nat) : outA (evA 130 a b) = expA 130 a b := by kernel_rfl
theorem mid13 (a b : Nat → Nat) : outA (evA 13 a b) = expA 13 a b := by kernel_rfl
end Ev
end
