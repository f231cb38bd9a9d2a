/-
  Plain laws of masks and tests of lanes; no program in sight.
-/
import Derived.Test.YtifafdfjmhadaaaCmpT
set_option linter.unusedSimpArgs false
set_option linter.unusedVariables false
set_option linter.unusedVariables false
set_option linter.unusedSimpArgs false
namespace Pl
theorem mskR_congr (w : Nat) (u v : Vec) (n : Nat) (h : ∀ i, i < n → (sgn w (getN u w i) < 0 ↔ sgn w (getN v w i) < 0)) : mskR w u n = mskR w v n := by
  induction n with
  | zero => rfl
  | succ n ih =>
    unfold mskR
    rw [ih (fun i hi => h i (by omega))]
    have := h n (by omega)
    by_cases h1 : sgn w (getN v w n) < 0
    · rw [if_pos h1, if_pos (this.2 h1)]
    · rw [if_neg h1, if_neg (fun h2 => h1 (this.1 h2))]
theorem mskR_bit (w : Nat) (v : Vec) : ∀ n i, i < n → ((mskR w v n).testBit i = decide (sgn w (getN v w i) < 0))
  | 0, i, h => by omega
  | n + 1, i, h => by
    unfold mskR
    by_cases e : i = n
    · subst e
      have hlt := mskR_lt w v i
      split
      · rename_i hs
        rw [Nat.testBit_or, Nat.testBit_two_pow_self, Bool.or_true, decide_eq_true hs]
      · rename_i hs
        rw [Nat.testBit_lt_two_pow hlt, decide_eq_false hs]
    · have ih := mskR_bit w v n i (by omega)
      split
      · rw [Nat.testBit_or, Nat.testBit_two_pow_of_ne (Ne.symm e), Bool.or_false, ih]
      · exact ih
theorem mskR_zero (w : Nat) (v : Vec) (n : Nat) : mskR w v n = 0 ↔ ∀ i, i < n → ¬ sgn w (getN v w i) < 0 := by
  constructor
  · intro h i hi hs
    have := mskR_bit w v n i hi
    rw [h, Nat.zero_testBit, decide_eq_true hs] at this
    cases this
  · intro h
    apply Nat.eq_of_testBit_eq
    intro i
    rw [Nat.zero_testBit]
    by_cases hi : i < n
    · rw [mskR_bit w v n i hi, decide_eq_false (h i hi)]
    · exact Nat.testBit_lt_two_pow (Nat.lt_of_lt_of_le (mskR_lt w v n) (Nat.pow_le_pow_right (by decide) (by omega)))
theorem allR_spec (w : Nat) (v : Vec) : ∀ n, allR w v n = if ∀ i, i < n → getN v w i ≠ 0 then 1 else 0
  | 0 => by rw [if_pos (fun i h => by omega)]; rfl
  | n + 1 => by
    unfold allR
    rw [allR_spec w v n]
    by_cases h : getN v w n = 0
    · rw [if_pos h, if_neg (fun hh => hh n (by omega) h)]
    · rw [if_neg h]
      by_cases hh : ∀ i, i < n → getN v w i ≠ 0
      · rw [if_pos hh, if_pos (fun i hi => by
          by_cases e : i = n
          · subst e; exact h
          · exact hh i (by omega))]
      · rw [if_neg hh, if_neg (fun h2 => hh (fun i hi => h2 i (by omega)))]
theorem lane_msk (w : Nat) (hw : w = 8 ∨ w = 16 ∨ w = 32 ∨ w = 64) (k : Int) (v : Vec) (i : Nat) (hi : i < 128 / w) : (sgn w (getN (buildOn 0 w (mskN w k v 0) (128 / w)) w i) < 0 ↔ holdC k (sgn w (getN v w i)) 0 = true) := by
  rw [getN_buildOn _ _ _ _ _ (Nat.le_refl _), if_pos hi]
  have z : sgn w (getN 0 w i) = 0 := by
    have : getN 0 w i = 0 := by simp [getN, bitsAt]
    rw [this]
    rcases hw with rfl | rfl | rfl | rfl <;> rfl
  unfold mskN
  rw [z]
  by_cases h : holdC k (sgn w (getN v w i)) 0 = true
  · rw [if_pos h]
    rcases hw with rfl | rfl | rfl | rfl <;> simp [h] <;> decide
  · rw [if_neg h]
    rcases hw with rfl | rfl | rfl | rfl <;> simp [h] <;> decide
theorem below_msk (w : Nat) (hw : w = 8 ∨ w = 16 ∨ w = 32 ∨ w = 64) (v : Vec) : mskR w (buildOn 0 w (mskN w 2 v 0) (128 / w)) (128 / w) = mskR w v (128 / w) :=
  mskR_congr w _ _ _ fun i hi => by
    rw [lane_msk w hw 2 v i hi]
    show decide (sgn w (getN v w i) < 0) = true ↔ _
    simp
theorem none_msk (w : Nat) (hw : w = 8 ∨ w = 16 ∨ w = 32 ∨ w = 64) (v : Vec) : (mskR w (buildOn 0 w (mskN w 0 v 0) (128 / w)) (128 / w) = 0 ↔ allR w v (128 / w) = 1) := by
  rw [mskR_zero, allR_spec]
  have e : ∀ i, i < 128 / w → ((¬ sgn w (getN (buildOn 0 w (mskN w 0 v 0) (128 / w)) w i) < 0) ↔ getN v w i ≠ 0) := fun i hi => by
    rw [lane_msk w hw 0 v i hi]
    show ¬ (decide (sgn w (getN v w i) = 0) = true) ↔ _
    have hl := getN_lt v w i
    have : sgn w (getN v w i) = 0 ↔ getN v w i = 0 := by
      rcases hw with rfl | rfl | rfl | rfl <;> (unfold sgn; generalize getN v _ i = n at *; split <;> omega)
    rw [decide_eq_true_eq, this]
  by_cases h : ∀ i, i < 128 / w → getN v w i ≠ 0
  · rw [if_pos h]
    exact ⟨fun _ => rfl, fun _ i hi => (e i hi).2 (h i hi)⟩
  · rw [if_neg h]
    exact ⟨fun h2 => absurd (fun i hi => (e i hi).1 (h2 i hi)) h, fun h2 => by cases h2⟩
theorem allR_le (w : Nat) (v : Vec) (n : Nat) : allR w v n ≤ 1 := by
  rw [allR_spec]; split <;> omega
end Pl
