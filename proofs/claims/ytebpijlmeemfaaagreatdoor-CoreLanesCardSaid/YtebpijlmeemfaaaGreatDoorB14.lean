/- A part of the proof that plaittop.CoreLanes returns true. -/
import Derived.Test.YtebpijlmeemfaaaGreatDoorB10
set_option linter.all false
set_option linter.unusedSectionVars false
set_option linter.unusedSimpArgs false
set_option linter.unusedVariables false
section
set_option maxRecDepth 100000
namespace Ev
open Go Go.Proofs
theorem sq_134 : seqOk 134 = true := by kernel_rfl
theorem sq_37 : seqOk 37 = true := by kernel_rfl
theorem sq_43 : seqOk 43 = true := by kernel_rfl
theorem sq_49 : seqOk 49 = true := by kernel_rfl
theorem sq_55 : seqOk 55 = true := by kernel_rfl
theorem sq_61 : seqOk 61 = true := by kernel_rfl
theorem sq_80 : seqOk 80 = true := by kernel_rfl
theorem sq_114 : seqOk 114 = true := by kernel_rfl
theorem sq_123 : seqOk 123 = true := by kernel_rfl
theorem sq_147 : seqOk 147 = true := by kernel_rfl
theorem sq_155 : seqOk 155 = true := by kernel_rfl
theorem sq_177 : seqOk 177 = true := by kernel_rfl
theorem sq_186 : seqOk 186 = true := by kernel_rfl
theorem sq_209 : seqOk 209 = true := by kernel_rfl
theorem sq_218 : seqOk 218 = true := by kernel_rfl
end Ev
end
section
set_option maxRecDepth 100000
namespace Ev
open Go Go.Proofs
theorem sq_14 : seqOk 14 = true := by kernel_rfl
theorem sq_38 : seqOk 38 = true := by kernel_rfl
theorem sq_44 : seqOk 44 = true := by kernel_rfl
theorem sq_50 : seqOk 50 = true := by kernel_rfl
theorem sq_56 : seqOk 56 = true := by kernel_rfl
theorem sq_62 : seqOk 62 = true := by kernel_rfl
theorem sq_81 : seqOk 81 = true := by kernel_rfl
theorem sq_115 : seqOk 115 = true := by kernel_rfl
theorem sq_142 : seqOk 142 = true := by kernel_rfl
theorem sq_149 : seqOk 149 = true := by kernel_rfl
theorem sq_156 : seqOk 156 = true := by kernel_rfl
theorem sq_181 : seqOk 181 = true := by kernel_rfl
theorem sq_188 : seqOk 188 = true := by kernel_rfl
theorem sq_213 : seqOk 213 = true := by kernel_rfl
theorem sq_219 : seqOk 219 = true := by kernel_rfl
end Ev
end
section
set_option maxRecDepth 100000
namespace Ev
open Go Go.Proofs
theorem sq_130 : seqOk 130 = true := by kernel_rfl
theorem sq_39 : seqOk 39 = true := by kernel_rfl
theorem sq_45 : seqOk 45 = true := by kernel_rfl
theorem sq_51 : seqOk 51 = true := by kernel_rfl
theorem sq_57 : seqOk 57 = true := by kernel_rfl
theorem sq_63 : seqOk 63 = true := by kernel_rfl
theorem sq_110 : seqOk 110 = true := by kernel_rfl
theorem sq_118 : seqOk 118 = true := by kernel_rfl
theorem sq_143 : seqOk 143 = true := by kernel_rfl
theorem sq_150 : seqOk 150 = true := by kernel_rfl
theorem sq_157 : seqOk 157 = true := by kernel_rfl
theorem sq_182 : seqOk 182 = true := by kernel_rfl
theorem sq_189 : seqOk 189 = true := by kernel_rfl
theorem sq_214 : seqOk 214 = true := by kernel_rfl
theorem sq_220 : seqOk 220 = true := by kernel_rfl
end Ev
end
