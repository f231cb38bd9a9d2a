/-
  What package widen and its reference compute of two vectors is the same: plain, no program in sight.
-/
import Derived.Test.YtnjhojjpajnbhaaWideBin
namespace Pl
open Go
theorem mul_mod2 (w x y : Nat) (hw : w ≤ 64) : x * y % 2 ^ 64 % 2 ^ w = (x % 2 ^ w) * (y % 2 ^ w) % 2 ^ 64 % 2 ^ w := by
  rw [Nat.mod_mod_of_dvd _ (Nat.pow_dvd_pow 2 hw), Nat.mod_mod_of_dvd _ (Nat.pow_dvd_pow 2 hw), ← Nat.mul_mod]
theorem mul_rows (w c n : Nat) (a b : Vec) (h1 : 2 * w ≤ 64) (hn : n ≤ 128 / (2 * w)) :
    buildOn 0 (2 * w) (mulN w c a b) n = buildOn 0 (2 * w) (rmulN (2 * w) (buildOn 0 (2 * w) (extN a w c) n) (buildOn 0 (2 * w) (extN b w c) n)) n := by
  refine buildOn_congr _ _ _ _ _ fun i hi => ?_
  unfold mulN rmulN
  rw [getN_buildOn _ _ _ _ _ hn, getN_buildOn _ _ _ _ _ hn, if_pos hi, if_pos hi]
  exact mul_mod2 _ _ _ h1
theorem nar_eq (w n : Nat) (lo hi : Int) (a b : Vec) (hw : 0 < w) (h : w * (2 * n) = 128) :
    nbuild w n (holdN lo hi (2 * w) a) (holdN lo hi (2 * w) b) n = buildOn 0 w (rnarN w n lo hi a b) (2 * n) := by
  have h2 : 2 * n = 128 / w := by rw [← h, Nat.mul_div_cancel_left _ hw]
  refine lanes_ext w (2 * n) hw h fun i hi => ?_
  rw [getN_nbuild _ _ _ _ h2 _ _ (Nat.le_refl _), getN_buildOn _ _ _ _ _ (by omega), if_pos hi]
  unfold rnarN holdN
  by_cases h3 : i < n
  · rw [if_pos h3, if_pos h3]
  · rw [if_neg h3, if_pos ⟨by omega, by omega⟩, if_neg h3]
theorem q15_eq (a b : Vec) (i : Nat) : q15N a b i = rq15N a b i := by
  unfold q15N rq15N
  have h := mul_bd16 _ _ (sgn_bd16 _ (getN_lt a 16 i)) (sgn_bd16 _ (getN_lt b 16 i))
  rw [show max ((sgn 16 (getN a 16 i) * sgn 16 (getN b 16 i) + 16384) / 32768) (-32768) = (sgn 16 (getN a 16 i) * sgn 16 (getN b 16 i) + 16384) / 32768 by omega]
theorem rdot_lane (a b : Vec) : ∀ (k j : Nat), k ≤ 8 → j < 4 →
    ((getN (rdot a b k) 32 j : Nat) : Int) = ((if 2 * j < k then sgn 16 (getN a 16 (2 * j)) * sgn 16 (getN b 16 (2 * j)) else 0) + (if 2 * j + 1 < k then sgn 16 (getN a 16 (2 * j + 1)) * sgn 16 (getN b 16 (2 * j + 1)) else 0)) % 4294967296 := by
  intro k
  induction k with
  | zero => intro j _ _; simp [rdot, getN, bitsAt]
  | succ k ih =>
    intro j hk hj
    rw [rdot, getN_setN _ _ _ _ _ (by omega)]
    by_cases e : j = k / 2
    · rw [if_pos e]
      have h := ih j (by omega) hj
      unfold rdot.rdN
      rw [← e]
      have hm := mul_bd16 _ _ (sgn_bd16 _ (getN_lt a 16 k)) (sgn_bd16 _ (getN_lt b 16 k))
      have e32 : (2 : Nat) ^ 32 = 4294967296 := by decide
      have e64 : (2 : Nat) ^ 64 = 18446744073709551616 := by decide
      rw [e32, e64]
      by_cases ev : k = 2 * j
      · rw [if_neg (by omega), if_neg (by omega)] at h
        rw [if_pos (by omega), if_neg (by omega)]
        rw [← ev]
        generalize sgn 16 (getN a 16 k) * sgn 16 (getN b 16 k) = p at *
        unfold u64
        omega
      · have ek : k = 2 * j + 1 := by omega
        rw [if_pos (by omega), if_neg (by omega)] at h
        rw [if_pos (by omega), if_pos (by omega)]
        rw [← ek]
        generalize sgn 16 (getN a 16 k) * sgn 16 (getN b 16 k) = p at *
        generalize sgn 16 (getN a 16 (2 * j)) * sgn 16 (getN b 16 (2 * j)) = q at *
        unfold u64
        omega
    · rw [if_neg e, ih j (by omega) hj]
      by_cases h1 : 2 * j < k
      · rw [if_pos h1, if_pos (show 2 * j + 1 < k by omega), if_pos (show 2 * j < k + 1 by omega), if_pos (show 2 * j + 1 < k + 1 by omega)]
      · rw [if_neg h1, if_neg (show ¬ 2 * j + 1 < k by omega), if_neg (show ¬ 2 * j < k + 1 by omega), if_neg (show ¬ 2 * j + 1 < k + 1 by omega)]
theorem dot_eq (a b : Vec) : rdot a b 8 = buildOn 0 32 (dotN a b) 4 := by
  refine lanes_ext 32 4 (by decide) (by decide) fun i hi => ?_
  rw [getN_buildOn _ _ _ _ _ (by decide), if_pos hi]
  have h := rdot_lane a b 8 i (by decide) hi
  rw [if_pos (by omega), if_pos (by omega)] at h
  unfold dotN u64
  have e32 : (2 : Nat) ^ 32 = 4294967296 := by decide
  rw [e32]
  omega
end Pl
