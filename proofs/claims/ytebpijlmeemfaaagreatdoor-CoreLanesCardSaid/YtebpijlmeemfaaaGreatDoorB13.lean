/- A part of the proof that plaittop.CoreLanes returns true. -/
import Derived.Test.YtebpijlmeemfaaaGreatDoorB10
set_option linter.all false
set_option linter.unusedSectionVars false
set_option linter.unusedSimpArgs false
set_option linter.unusedVariables false
section
set_option maxRecDepth 100000
namespace Ev
open Go Go.Proofs
theorem sq_101 : seqOk 101 = true := by kernel_rfl
theorem sq_13 : seqOk 13 = true := by kernel_rfl
theorem sq_40 : seqOk 40 = true := by kernel_rfl
theorem sq_46 : seqOk 46 = true := by kernel_rfl
theorem sq_52 : seqOk 52 = true := by kernel_rfl
theorem sq_58 : seqOk 58 = true := by kernel_rfl
theorem sq_64 : seqOk 64 = true := by kernel_rfl
theorem sq_111 : seqOk 111 = true := by kernel_rfl
theorem sq_119 : seqOk 119 = true := by kernel_rfl
theorem sq_144 : seqOk 144 = true := by kernel_rfl
theorem sq_151 : seqOk 151 = true := by kernel_rfl
theorem sq_158 : seqOk 158 = true := by kernel_rfl
theorem sq_183 : seqOk 183 = true := by kernel_rfl
theorem sq_190 : seqOk 190 = true := by kernel_rfl
theorem sq_215 : seqOk 215 = true := by kernel_rfl
theorem sq_221 : seqOk 221 = true := by kernel_rfl
end Ev
end
section
set_option maxRecDepth 100000
namespace Ev
open Go Go.Proofs
theorem sq_102 : seqOk 102 = true := by kernel_rfl
theorem sq_35 : seqOk 35 = true := by kernel_rfl
theorem sq_41 : seqOk 41 = true := by kernel_rfl
theorem sq_47 : seqOk 47 = true := by kernel_rfl
theorem sq_53 : seqOk 53 = true := by kernel_rfl
theorem sq_59 : seqOk 59 = true := by kernel_rfl
theorem sq_78 : seqOk 78 = true := by kernel_rfl
theorem sq_112 : seqOk 112 = true := by kernel_rfl
theorem sq_120 : seqOk 120 = true := by kernel_rfl
theorem sq_145 : seqOk 145 = true := by kernel_rfl
theorem sq_152 : seqOk 152 = true := by kernel_rfl
theorem sq_159 : seqOk 159 = true := by kernel_rfl
theorem sq_184 : seqOk 184 = true := by kernel_rfl
theorem sq_191 : seqOk 191 = true := by kernel_rfl
theorem sq_216 : seqOk 216 = true := by kernel_rfl
theorem sq_222 : seqOk 222 = true := by kernel_rfl
end Ev
end
section
set_option maxRecDepth 100000
namespace Ev
open Go Go.Proofs
theorem sq_133 : seqOk 133 = true := by kernel_rfl
theorem sq_36 : seqOk 36 = true := by kernel_rfl
theorem sq_42 : seqOk 42 = true := by kernel_rfl
theorem sq_48 : seqOk 48 = true := by kernel_rfl
theorem sq_54 : seqOk 54 = true := by kernel_rfl
theorem sq_60 : seqOk 60 = true := by kernel_rfl
theorem sq_79 : seqOk 79 = true := by kernel_rfl
theorem sq_113 : seqOk 113 = true := by kernel_rfl
theorem sq_121 : seqOk 121 = true := by kernel_rfl
theorem sq_146 : seqOk 146 = true := by kernel_rfl
theorem sq_153 : seqOk 153 = true := by kernel_rfl
theorem sq_174 : seqOk 174 = true := by kernel_rfl
theorem sq_185 : seqOk 185 = true := by kernel_rfl
theorem sq_206 : seqOk 206 = true := by kernel_rfl
theorem sq_217 : seqOk 217 = true := by kernel_rfl
theorem sq_223 : seqOk 223 = true := by kernel_rfl
end Ev
end
