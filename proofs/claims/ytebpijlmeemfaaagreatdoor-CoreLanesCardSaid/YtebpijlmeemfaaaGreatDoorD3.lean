/- A part of the proof that plaittop.CoreLanes returns true. -/
import Derived.Test.YtebpijlmeemfaaaGreatDoorCards
import Derived.JoinedOf
set_option linter.all false
set_option linter.unusedSectionVars false
set_option linter.unusedSimpArgs false
set_option linter.unusedVariables false
section
set_option maxRecDepth 100000
namespace Go.Proofs.YtebpijlmeemfaaaGreatDoor
theorem j1 : Rows.coreLanesRow.wf (OpenSpec.ofChange Rows.coreLanesSpec) = true := by kernel_rfl
theorem j2 : laidOutB Tryz.prog = true := by kernel_rfl
theorem j3 : mapsRowed Tryz.prog = true := by kernel_rfl
theorem j4 : Tryz.f3.params.all (Tryz.prog.readableRec ·) = true := by kernel_rfl
theorem j5 : namedTie Tryz.prog Rows.coreLanesRow.named Rows.coreLanesSpec.vars = true := by kernel_rfl
theorem j10 : (Rows.coreLanesRow.inPlace == Tryz.prog.inPlace 3) = true := by kernel_rfl
theorem j11 : (Rows.coreLanesRow.unfollowed == Tryz.prog.unfollowed 3) = true := by kernel_rfl
theorem j12 : (Rows.coreLanesRow.recurses == Tryz.prog.recurses 3) = true := by kernel_rfl
theorem j13 : (Rows.coreLanesRow.named == Tryz.prog.varsNamed 3) = true := by kernel_rfl
theorem j14 : Tryz.prog.stopsHeard = true := by kernel_rfl
theorem j15 : Tryz.prog.mayEnter = true := by kernel_rfl
theorem j16 : (Rows.coreLanesRow.lifted == Tryz.prog.liftsFinal) = true := by kernel_rfl
theorem j17 : (Rows.coreLanesRow.plainKeys == Tryz.prog.plainKeys) = true := by kernel_rfl
theorem j18 : (Tryz.prog.make == some Rows.coreLanesRow.make) = true := by kernel_rfl
theorem closed : joinedFacts Tryz.prog 3 Tryz.f3 Rows.coreLanesSpec Rows.coreLanesRow = true := by
 unfold joinedFacts
 rw [j1, j2, j3, j4, j5, j10, j11, j12, j13, j14, j15, j16, j17, j18]
 kernel_rfl
end Go.Proofs.YtebpijlmeemfaaaGreatDoor
end
