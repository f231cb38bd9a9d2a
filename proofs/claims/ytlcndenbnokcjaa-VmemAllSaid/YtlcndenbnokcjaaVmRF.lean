/-
  plaitref11.errs: its contract, gathered.
-/
import Derived.Test.YtlcndenbnokcjaaVmRE
set_option linter.unusedSimpArgs false
set_option linter.unusedVariables false
namespace Go.Proofs.Ytlcndenbnokcjaa
open Go.RowKit Pl

theorem vsz_zero (op : Int) (h : ¬ (64768 ≤ op ∧ op ≤ 64779 ∨ 64852 ≤ op ∧ op ≤ 64861)) : vszN op = 0 := by unfold vszN; rw [if_neg (by omega), if_neg (by omega)]
theorem vsz_ne (op : Int) (h : 64768 ≤ op ∧ op ≤ 64779 ∨ 64852 ≤ op ∧ op ≤ 64861) : vszN op ≠ 0 := by
  rcases vops op h with rfl | rfl | rfl | rfl | rfl | rfl | rfl | rfl | rfl | rfl | rfl | rfl | rfl | rfl | rfl | rfl | rfl | rfl | rfl | rfl | rfl | rfl <;> decide
theorem vsz_lane (op : Int) (h : 64852 ≤ op ∧ op ≤ 64859) : vszN op = 1 ∨ vszN op = 2 ∨ vszN op = 4 ∨ vszN op = 8 := by
  rcases (show op = 64852 ∨ op = 64853 ∨ op = 64854 ∨ op = 64855 ∨ op = 64856 ∨ op = 64857 ∨ op = 64858 ∨ op = 64859 by omega) with rfl | rfl | rfl | rfl | rfl | rfl | rfl | rfl <;> decide
theorem rerr_bad (p : Value) (op a b lo hi : Int) (L : Value) (s : Bool) (w : World) (hr : -9223372036854775808 ≤ op ∧ op ≤ 9223372036854775807) (h0 : 0 ≤ lo) (h : VBad op b lo s) : Calls Try.prog 57 #[p, inV op a b lo hi L, .bool s] w fun e w' => e = .returned (.int .i64 1) ∧ Below w.heap.size w w' := by
  by_cases hv : 64768 ≤ op ∧ op ≤ 64779 ∨ 64852 ≤ op ∧ op ≤ 64861
  · have hn := vsz_ne op hv
    by_cases h2 : vst op = s
    · by_cases h3 : b < 0
      · exact rerr_neg p op a b lo hi L s w hr hn h2 h3
      by_cases h4 : 4294967296 ≤ b
      · exact rerr_big p op a b lo hi L s w hr hn h2 h4
      have h5 : vln op ∧ 16 / vszN op ≤ lo := by
        rcases h with h | h | h | h | h
        · exact absurd hv h
        · exact absurd h2 h
        · exact absurd h h3
        · exact absurd h h4
        · exact h
      obtain ⟨h6, h7⟩ := h5
      rcases vsz_lane op h6 with q | q | q | q
      · rw [q] at h7; exact rerr_lane_1 p op a b lo hi L s w hr q h2 (by omega) h6 h0 (by omega)
      · rw [q] at h7; exact rerr_lane_2 p op a b lo hi L s w hr q h2 (by omega) h6 h0 (by omega)
      · rw [q] at h7; exact rerr_lane_4 p op a b lo hi L s w hr q h2 (by omega) h6 h0 (by omega)
      · rw [q] at h7; exact rerr_lane_8 p op a b lo hi L s w hr q h2 (by omega) h6 h0 (by omega)
    · exact rerr_not p op a b lo hi L s w hr hn h2
  · exact rerr_size p op a b lo hi L s w hr (vsz_zero op hv)
theorem rerr_nil (op a b lo hi : Int) (L : Value) (s : Bool) (w : World) (hr : -9223372036854775808 ≤ op ∧ op ≤ 9223372036854775807) (h0 : 0 ≤ lo) (h : ¬ VBad op b lo s) : Calls Try.prog 57 #[.pointer none, inV op a b lo hi L, .bool s] w fun e w' => e = .returned (.int .i64 2) ∧ Below w.heap.size w w' := by
  have hv : 64768 ≤ op ∧ op ≤ 64779 ∨ 64852 ≤ op ∧ op ≤ 64861 := Classical.byContradiction fun c => h (.inl c)
  have h2 : vst op = s := Classical.byContradiction fun c => h (.inr (.inl c))
  have h3 : ¬ b < 0 := fun c => h (.inr (.inr (.inl c)))
  have h4 : ¬ 4294967296 ≤ b := fun c => h (.inr (.inr (.inr (.inl c))))
  have h5 : ¬ (vln op ∧ 16 / vszN op ≤ lo) := fun c => h (.inr (.inr (.inr (.inr c))))
  have hn := vsz_ne op hv
  by_cases c1 : op < 64852
  · exact rerr_low_2 (.bool true) op a b lo hi L s w hr hn h2 (by omega) c1
  by_cases c2 : 64859 < op
  · exact rerr_high_2 (.bool true) op a b lo hi L s w hr hn h2 (by omega) c2
  have h6 : 64852 ≤ op ∧ op ≤ 64859 := by omega
  have h7 : ¬ 16 / vszN op ≤ lo := fun c => h5 ⟨h6, c⟩
  rcases vsz_lane op h6 with q | q | q | q
  · rw [q] at h7; exact rerr_nil_1 (.bool true) op a b lo hi L s w hr q h2 (by omega) h6 h0 (by omega)
  · rw [q] at h7; exact rerr_nil_2 (.bool true) op a b lo hi L s w hr q h2 (by omega) h6 h0 (by omega)
  · rw [q] at h7; exact rerr_nil_4 (.bool true) op a b lo hi L s w hr q h2 (by omega) h6 h0 (by omega)
  · rw [q] at h7; exact rerr_nil_8 (.bool true) op a b lo hi L s w hr q h2 (by omega) h6 h0 (by omega)
theorem rerr_ok (g : Addr) (op a b lo hi : Int) (L : Value) (s : Bool) (w : World) (hr : -9223372036854775808 ≤ op ∧ op ≤ 9223372036854775807) (h0 : 0 ≤ lo) (h : ¬ VBad op b lo s) : Calls Try.prog 57 #[.pointer (some g), inV op a b lo hi L, .bool s] w fun e w' => e = .returned (.int .i64 0) ∧ Below w.heap.size w w' := by
  have hv : 64768 ≤ op ∧ op ≤ 64779 ∨ 64852 ≤ op ∧ op ≤ 64861 := Classical.byContradiction fun c => h (.inl c)
  have h2 : vst op = s := Classical.byContradiction fun c => h (.inr (.inl c))
  have h3 : ¬ b < 0 := fun c => h (.inr (.inr (.inl c)))
  have h4 : ¬ 4294967296 ≤ b := fun c => h (.inr (.inr (.inr (.inl c))))
  have h5 : ¬ (vln op ∧ 16 / vszN op ≤ lo) := fun c => h (.inr (.inr (.inr (.inr c))))
  have hn := vsz_ne op hv
  by_cases c1 : op < 64852
  · exact rerr_low_0 (.bool true) op a b lo hi L s w hr g hn h2 (by omega) c1
  by_cases c2 : 64859 < op
  · exact rerr_high_0 (.bool true) op a b lo hi L s w hr g hn h2 (by omega) c2
  have h6 : 64852 ≤ op ∧ op ≤ 64859 := by omega
  have h7 : ¬ 16 / vszN op ≤ lo := fun c => h5 ⟨h6, c⟩
  rcases vsz_lane op h6 with q | q | q | q
  · rw [q] at h7; exact rerr_ok_1 (.bool true) op a b lo hi L s w hr g q h2 (by omega) h6 h0 (by omega)
  · rw [q] at h7; exact rerr_ok_2 (.bool true) op a b lo hi L s w hr g q h2 (by omega) h6 h0 (by omega)
  · rw [q] at h7; exact rerr_ok_4 (.bool true) op a b lo hi L s w hr g q h2 (by omega) h6 h0 (by omega)
  · rw [q] at h7; exact rerr_ok_8 (.bool true) op a b lo hi L s w hr g q h2 (by omega) h6 h0 (by omega)
end Go.Proofs.Ytlcndenbnokcjaa
