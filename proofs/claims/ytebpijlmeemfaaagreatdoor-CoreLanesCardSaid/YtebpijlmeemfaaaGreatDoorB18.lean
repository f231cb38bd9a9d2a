/- A part of the proof that plaittop.CoreLanes returns true. -/
import Derived.Test.YtebpijlmeemfaaaGreatDoorB16
set_option linter.all false
set_option linter.unusedSectionVars false
set_option linter.unusedSimpArgs false
set_option linter.unusedVariables false
section
set_option maxRecDepth 100000
namespace Ev
theorem tn_t (l : Nat → B64) (t : Nat) : mS.map (tnL l t) = mS.map (tnR l t) := by kernel_rfl
theorem ld_t (v l : Nat → B64) (t f : Nat) (b : Nat → Nat) : lds.map (ldL v l t f b) = lds.map (ldR v l t f b) := by kernel_rfl
theorem st_t (l : Nat → B64) (t f y : Nat) (T : Tr CV) : sts.map (fun x => (stepOut (stE l t f y T x) [1, 2, 4, 5, 9], row9 (stE l t f y T x))) = sts.map (fun x => (some ⟨[], seqN l x.2, nextC t, i64c f⟩, some ⟨.live, 65536, .any, setAll (bytesL y) T (64 + x.1), 5, 1⟩)) := by kernel_rfl
theorem num_t (v l : Nat → B64) (t f : Nat) (y : B64) : (pairsN 0 9).map (numL v l t f y) = (pairsN 0 9).map (numR v l t f y) := by kernel_rfl
theorem nil_t (l : Nat → B64) (t f : Nat) (y : B64) : mS.map (nilL l t f y) = mS.map (nilR l t f y) := by kernel_rfl
theorem un_t (v l : Nat → B64) (t f : Nat) : (pairsN 0 8).map (unL v l t f) = (pairsN 0 8).map (unR v l t f) := by kernel_rfl
theorem sel_0 (v l : Nat → B64) (t f : Nat) : (pairsN 0 7).map (selL 0 v l t f) = (pairsN 0 7).map (selR 0 v l t f) := by kernel_rfl
theorem sel_1 (v l : Nat → B64) (t f : Nat) : (pairsN 0 7).map (selL 1 v l t f) = (pairsN 0 7).map (selR 1 v l t f) := by kernel_rfl
theorem tick_t (v l : Nat → B64) (t : Nat) : ticks.map (tickL v l t) = ticks.map (tickR v l t) := by kernel_rfl
theorem bin_83 (v l : Nat → B64) (t f : Nat) : (pairsN 0 7).map (binL 83 v l t f) = (pairsN 0 7).map (binR 83 v l t f) := by kernel_rfl
theorem bin_84 (v l : Nat → B64) (t f : Nat) : (pairsN 0 7).map (binL 84 v l t f) = (pairsN 0 7).map (binR 84 v l t f) := by kernel_rfl
end Ev
end
section
set_option maxRecDepth 100000
namespace Ev
theorem bin_85 (v l : Nat → B64) (t f : Nat) : (pairsN 0 7).map (binL 85 v l t f) = (pairsN 0 7).map (binR 85 v l t f) := by kernel_rfl
theorem bin_124 (v l : Nat → B64) (t f : Nat) : (pairsN 0 7).map (binL 124 v l t f) = (pairsN 0 7).map (binR 124 v l t f) := by kernel_rfl
theorem bin_125 (v l : Nat → B64) (t f : Nat) : (pairsN 0 7).map (binL 125 v l t f) = (pairsN 0 7).map (binR 125 v l t f) := by kernel_rfl
theorem bin_126 (v l : Nat → B64) (t f : Nat) : (pairsN 0 7).map (binL 126 v l t f) = (pairsN 0 7).map (binR 126 v l t f) := by kernel_rfl
theorem bin_131 (v l : Nat → B64) (t f : Nat) : (pairsN 0 7).map (binL 131 v l t f) = (pairsN 0 7).map (binR 131 v l t f) := by kernel_rfl
theorem bin_132 (v l : Nat → B64) (t f : Nat) : (pairsN 0 7).map (binL 132 v l t f) = (pairsN 0 7).map (binR 132 v l t f) := by kernel_rfl
theorem bin_133 (v l : Nat → B64) (t f : Nat) : (pairsN 0 7).map (binL 133 v l t f) = (pairsN 0 7).map (binR 133 v l t f) := by kernel_rfl
theorem bin_134 (v l : Nat → B64) (t f : Nat) : (pairsN 0 7).map (binL 134 v l t f) = (pairsN 0 7).map (binR 134 v l t f) := by kernel_rfl
theorem bin_135 (v l : Nat → B64) (t f : Nat) : (pairsN 0 7).map (binL 135 v l t f) = (pairsN 0 7).map (binR 135 v l t f) := by kernel_rfl
theorem bin_136 (v l : Nat → B64) (t f : Nat) : (pairsN 0 7).map (binL 136 v l t f) = (pairsN 0 7).map (binR 136 v l t f) := by kernel_rfl
theorem ret_t (l : Nat → B64) (t f : Nat) : mS.map (fun m => stepOut (evS 15 0 u0 [] (seqN l m) false t f anyRow) W4) = mS.map (fun m => some ⟨[], seqN l m, .int .i64 (.negSucc 0), i64c f⟩) := by kernel_rfl
end Ev
end
