/- A part of the proof that plaittop.CoreLanes returns true. -/
import Derived.Test.YtebpijlmeemfaaaGreatDoorB10
set_option linter.all false
set_option linter.unusedSectionVars false
set_option linter.unusedSimpArgs false
set_option linter.unusedVariables false
section
set_option maxRecDepth 100000
namespace Ev
open Go Go.Proofs
theorem chk0 : [64781, 64782].all chkOk = true := by kernel_rfl
theorem chk1 : [64803, 64804].all chkOk = true := by kernel_rfl
theorem chk2 : [64805, 64806].all chkOk = true := by kernel_rfl
theorem chk3 : [64807, 64808].all chkOk = true := by kernel_rfl
theorem chk4 : [64809, 64810].all chkOk = true := by kernel_rfl
theorem chk5 : [64811, 64812].all chkOk = true := by kernel_rfl
theorem chk6 : [64813, 64814].all chkOk = true := by kernel_rfl
theorem chk7 : [64815, 64816].all chkOk = true := by kernel_rfl
theorem chk8 : [64817, 64818].all chkOk = true := by kernel_rfl
theorem chk9 : [64819, 64820].all chkOk = true := by kernel_rfl
theorem chk10 : [64821, 64822].all chkOk = true := by kernel_rfl
theorem chk11 : [64823, 64824].all chkOk = true := by kernel_rfl
end Ev
end
section
set_option maxRecDepth 100000
namespace Ev
open Go Go.Proofs
theorem chk12 : [64825, 64826].all chkOk = true := by kernel_rfl
theorem chk13 : [64827, 64828].all chkOk = true := by kernel_rfl
theorem chk14 : [64829, 64830].all chkOk = true := by kernel_rfl
theorem chk15 : [64831, 64832].all chkOk = true := by kernel_rfl
theorem chk16 : [64846, 64847].all chkOk = true := by kernel_rfl
theorem chk17 : [64848, 64849].all chkOk = true := by kernel_rfl
theorem chk18 : [64869, 64870].all chkOk = true := by kernel_rfl
theorem chk19 : [64878, 64879].all chkOk = true := by kernel_rfl
theorem chk20 : [64880, 64881].all chkOk = true := by kernel_rfl
theorem chk21 : [64882, 64883].all chkOk = true := by kernel_rfl
theorem chk22 : [64886, 64887].all chkOk = true := by kernel_rfl
theorem chk23 : [64888, 64889].all chkOk = true := by kernel_rfl
end Ev
end
