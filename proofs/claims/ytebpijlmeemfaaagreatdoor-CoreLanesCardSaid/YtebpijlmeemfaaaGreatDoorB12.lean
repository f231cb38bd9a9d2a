/- A part of the proof that plaittop.CoreLanes returns true. -/
import Derived.Test.YtebpijlmeemfaaaGreatDoorB10
set_option linter.all false
set_option linter.unusedSectionVars false
set_option linter.unusedSimpArgs false
set_option linter.unusedVariables false
section
set_option maxRecDepth 100000
namespace Ev
open Go Go.Proofs
theorem chk24 : [64891, 64898].all chkOk = true := by kernel_rfl
theorem chk25 : [64901, 64902].all chkOk = true := by kernel_rfl
theorem chk26 : [64910, 64911].all chkOk = true := by kernel_rfl
theorem chk27 : [64912, 64913].all chkOk = true := by kernel_rfl
theorem chk28 : [64914, 64915].all chkOk = true := by kernel_rfl
theorem chk29 : [64917, 64918].all chkOk = true := by kernel_rfl
theorem chk30 : [64919, 64920].all chkOk = true := by kernel_rfl
theorem chk31 : [64921, 64923].all chkOk = true := by kernel_rfl
theorem chk32 : [64924, 64925].all chkOk = true := by kernel_rfl
theorem chk33 : [64926, 64927].all chkOk = true := by kernel_rfl
theorem chk34 : [64942, 64945].all chkOk = true := by kernel_rfl
theorem chk35 : [64949, 64950].all chkOk = true := by kernel_rfl
end Ev
end
section
set_option maxRecDepth 100000
namespace Ev
open Go Go.Proofs
theorem chk36 : [64951, 64952].all chkOk = true := by kernel_rfl
theorem chk37 : [64953, 64954].all chkOk = true := by kernel_rfl
theorem chk38 : [64956, 64957].all chkOk = true := by kernel_rfl
theorem chk39 : [64958, 64959].all chkOk = true := by kernel_rfl
theorem chk40 : [64974, 64977].all chkOk = true := by kernel_rfl
theorem chk41 : [64981, 64982].all chkOk = true := by kernel_rfl
theorem chk42 : [64983, 64984].all chkOk = true := by kernel_rfl
theorem chk43 : [64985, 64986].all chkOk = true := by kernel_rfl
theorem chk44 : [64987, 64988].all chkOk = true := by kernel_rfl
theorem chk45 : [64989, 64990].all chkOk = true := by kernel_rfl
theorem chk46 : [64991].all chkOk = true := by kernel_rfl
end Ev
end
