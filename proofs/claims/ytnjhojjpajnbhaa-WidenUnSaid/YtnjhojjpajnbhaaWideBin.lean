/-
  What package widen computes of two vectors, by lanes: plain functions, no program in sight.
-/
import Derived.Test.YtnjhojjpajnbhaaWideSpec
namespace Pl
open Go
/-- A signed lane held to lo and hi, as 64 bits. -/
def holdN (lo hi : Int) (w : Nat) (v : Vec) (i : Nat) : Nat := u64 (min (max (sgn w (getN v w i)) lo) hi)
/-- Lanes k of both halves, written in turn. -/
def nbuild (w n : Nat) (fa fb : Nat → Nat) : Nat → Vec
  | 0 => 0
  | k + 1 => setN (setN (nbuild w n fa fb k) w k (fa k)) w (n + k) (fb k)
theorem getN_nbuild (w n : Nat) (fa fb : Nat → Nat) (h : 2 * n = 128 / w) (k j : Nat) (hk : k ≤ n) :
    getN (nbuild w n fa fb k) w j = if j < k then fa j % 2 ^ w else if n ≤ j ∧ j < n + k then fb (j - n) % 2 ^ w else getN 0 w j := by
  induction k with
  | zero => simp only [nbuild, Nat.not_lt_zero, if_false]; rw [if_neg (by omega)]
  | succ k ih =>
    rw [nbuild, getN_setN _ _ _ _ _ (by omega), getN_setN _ _ _ _ _ (by omega), ih (by omega)]
    by_cases h1 : j = n + k
    · rw [if_pos h1, if_neg (by omega), if_pos (by omega), h1, Nat.add_sub_cancel_left]
    · rw [if_neg h1]
      by_cases h2 : j = k
      · rw [if_pos h2, if_pos (by omega), h2]
      · rw [if_neg h2]
        by_cases h3 : j < k
        · rw [if_pos h3, if_pos (by omega)]
        · rw [if_neg h3, if_neg (show ¬ j < k + 1 by omega)]
          by_cases h4 : n ≤ j ∧ j < n + k
          · rw [if_pos h4, if_pos (by omega)]
          · rw [if_neg h4, if_neg (by omega)]
theorem hold_wrap (lo hi x : Int) : IntKind.u64.wrap (if hi < if x < lo then lo else x then hi else if x < lo then lo else x) = ((u64 (min (max x lo) hi) : Nat) : Int) := by
  rw [wrap_u64]
  congr 2
  rw [Int.min_def, Int.max_def]
  split <;> split <;> split <;> split <;> omega
/-- Go's max and min of two integers, folded: so that a walk does not part on them. -/
def maxI (x lo : Int) : Int := if x < lo then lo else x
def minI (hi y : Int) : Int := if hi < y then hi else y
theorem fold_max (x lo : Int) [d : Decidable (x < lo)] : @ite Int (x < lo) d lo x = maxI x lo := by unfold maxI; split <;> rfl
theorem fold_min (hi y : Int) [d : Decidable (hi < y)] : @ite Int (hi < y) d hi y = minI hi y := by unfold minI; split <;> rfl
end Pl
