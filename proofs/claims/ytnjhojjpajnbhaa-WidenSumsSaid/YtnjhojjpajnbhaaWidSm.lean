/-
  Plain laws for WidenSums: a dot product as sums of products; no program in sight.
-/
import Derived.Test.YtnjhojjpajnbhaaWideLane
import Derived.Test.YtnjhojjpajnbhaaWideBin
import Derived.Test.YtnjhojjpajnbhaaAriLaws
set_option linter.unusedSimpArgs false
set_option linter.unusedVariables false
namespace Pl
open Go
def ones16 : Vec := buildOn 0 16 (fun i => [1, 1, 1, 1, 1, 1, 1, 1].getD i 0) 8
theorem ones_lane (k : Nat) (hk : k < 8) : sgn 16 (getN ones16 16 k) = 1 := by
  have : ∀ k : Fin 8, sgn 16 (getN ones16 16 k.val) = 1 := by decide +kernel
  exact this ⟨k, hk⟩
/-- The lanes of even number below i; all others 0. -/
def evenV (b : Vec) (i : Nat) : Vec := buildOn 0#128 16 (fun j => if j % 2 = 0 then getN b 16 j else 0) i
def oddV (b : Vec) (i : Nat) : Vec := buildOn 0#128 16 (fun j => if j % 2 = 1 then getN b 16 j else 0) i
theorem get_zero (w j : Nat) : getN 0#128 w j = 0 := by simp [getN, bitsAt]
theorem even_lane (b : Vec) (i j : Nat) (hi : i ≤ 8) : getN (evenV b i) 16 j = if j < i then (if j % 2 = 0 then getN b 16 j else 0) else 0 := by
  unfold evenV
  rw [getN_buildOn _ _ _ _ _ hi, get_zero]
  have := getN_lt b 16 j
  split
  · exact Nat.mod_eq_of_lt (by split; exact this; decide)
  · rfl
theorem odd_lane (b : Vec) (i j : Nat) (hi : i ≤ 8) : getN (oddV b i) 16 j = if j < i then (if j % 2 = 1 then getN b 16 j else 0) else 0 := by
  unfold oddV
  rw [getN_buildOn _ _ _ _ _ hi, get_zero]
  have := getN_lt b 16 j
  split
  · exact Nat.mod_eq_of_lt (by split; exact this; decide)
  · rfl
theorem even_skip (b : Vec) (i : Nat) (hi : i < 8) (h : i % 2 = 1) : evenV b (i + 1) = evenV b i :=
  lanes_ext 16 8 (by decide) (by decide) fun j hj => by
    rw [even_lane _ _ _ (by omega), even_lane _ _ _ (by omega)]
    by_cases e : j = i
    · rw [e, if_pos (by omega), if_neg (by omega), if_neg (by omega)]
    · by_cases e2 : j < i
      · rw [if_pos (by omega), if_pos e2]
      · rw [if_neg (by omega), if_neg e2]
theorem odd_skip (b : Vec) (i : Nat) (hi : i < 8) (h : i % 2 = 0) : oddV b (i + 1) = oddV b i :=
  lanes_ext 16 8 (by decide) (by decide) fun j hj => by
    rw [odd_lane _ _ _ (by omega), odd_lane _ _ _ (by omega)]
    by_cases e : j = i
    · rw [e, if_pos (by omega), if_neg (by omega), if_neg (by omega)]
    · by_cases e2 : j < i
      · rw [if_pos (by omega), if_pos e2]
      · rw [if_neg (by omega), if_neg e2]
theorem even_set (b : Vec) (i : Nat) (h : i % 2 = 0) : evenV b (i + 1) = setN (evenV b i) 16 i (getN b 16 i) := by
  show setN _ _ _ (if i % 2 = 0 then getN b 16 i else 0) = _
  rw [if_pos h]; rfl
theorem odd_set (b : Vec) (i : Nat) (h : i % 2 = 1) : oddV b (i + 1) = setN (oddV b i) 16 i (getN b 16 i) := by
  show setN _ _ _ (if i % 2 = 1 then getN b 16 i else 0) = _
  rw [if_pos h]; rfl
theorem dot_ones (a : Vec) : buildOn 0#128 32 (dotN a ones16) 4 = buildOn 0#128 32 (pairN true 16 a) 4 :=
  lanes_ext 32 4 (by decide) (by decide) fun k hk => by
    have h1 := dl a ones16 k hk
    rw [ones_lane _ (by omega), ones_lane _ (by omega), Int.mul_one, Int.mul_one] at h1
    have h2 : getN (buildOn 0#128 32 (pairN true 16 a) 4) 32 k = pairN true 16 a k % 2 ^ 32 := by
      rw [getN_buildOn _ _ _ _ _ (by decide), if_pos hk]
    rw [h2]
    unfold pairN
    rw [if_pos rfl, show (2 : Nat) ^ 32 = 4294967296 from rfl]
    unfold u64
    generalize getN (buildOn 0#128 32 (dotN a ones16) 4) 32 k = z at *
    generalize sgn 16 (getN a 16 (2 * k)) = s at *
    generalize sgn 16 (getN a 16 (2 * k + 1)) = t at *
    omega
theorem dot_comm (a b : Vec) : buildOn 0#128 32 (dotN b a) 4 = buildOn 0#128 32 (dotN a b) 4 :=
  lanes_ext 32 4 (by decide) (by decide) fun k hk => by
    have h1 := dl a b k hk
    have h2 := dl b a k hk
    rw [Int.mul_comm, Int.mul_comm (sgn 16 (getN b 16 (2 * k + 1)))] at h2
    exact Int.ofNat.inj (h2.trans h1.symm)
theorem mul_comm8 (a b : Vec) : buildOn 0#128 16 (mulN 8 0 b a) 8 = buildOn 0#128 16 (mulN 8 0 a b) 8 :=
  lanes_ext 16 8 (by decide) (by decide) fun k hk => by
    have h1 := ms8 a b 0 k (by decide) hk
    have h2 := ms8 b a 0 k (by decide) hk
    rw [Int.mul_comm, ← h1] at h2
    have b1 := getN_lt (buildOn 0#128 16 (mulN 8 0 a b) 8) 16 k
    have b2 := getN_lt (buildOn 0#128 16 (mulN 8 0 b a) 8) 16 k
    generalize getN (buildOn 0#128 16 (mulN 8 0 b a) 8) 16 k = x at *
    generalize getN (buildOn 0#128 16 (mulN 8 0 a b) 8) 16 k = y at *
    unfold sgn at h2
    simp at h2 b1 b2
    split at h2 <;> split at h2 <;> omega
theorem sgn_mod32 (n : Nat) (h : n < 2 ^ 32) : (n : Int) = sgn 32 n % 4294967296 := by
  unfold sgn
  simp at h ⊢
  split <;> omega
theorem prod_lane (a b : Vec) (c j : Nat) (hc : c < 2) (hj : j < 4) : ((getN (buildOn 0#128 32 (mulN 16 c a b) 4) 32 j : Nat) : Int) = (sgn 16 (getN a 16 (j + c * 4)) * sgn 16 (getN b 16 (j + c * 4))) % 4294967296 := by
  rw [sgn_mod32 _ (getN_lt _ 32 j), ms16 a b c j hc hj, show c % 2 = c by omega]
theorem dot_low (a b : Vec) (k : Nat) (hk : k < 2) : getN (buildOn 0#128 32 (dotN a b) 4) 32 k = (getN (buildOn 0#128 32 (mulN 16 0 a b) 4) 32 (2 * k) + getN (buildOn 0#128 32 (mulN 16 0 a b) 4) 32 (2 * k + 1)) % 4294967296 := by
  have h := dl a b k (by omega)
  have h1 := prod_lane a b 0 (2 * k) (by decide) (by omega)
  have h2 := prod_lane a b 0 (2 * k + 1) (by decide) (by omega)
  simp only [Nat.zero_mul, Nat.add_zero] at h1 h2
  generalize sgn 16 (getN a 16 (2 * k)) * sgn 16 (getN b 16 (2 * k)) = p at *
  generalize sgn 16 (getN a 16 (2 * k + 1)) * sgn 16 (getN b 16 (2 * k + 1)) = q at *
  omega
theorem dot_high (a b : Vec) (k : Nat) (hk : k < 2) : getN (buildOn 0#128 32 (dotN a b) 4) 32 (k + 2) = (getN (buildOn 0#128 32 (mulN 16 1 a b) 4) 32 (2 * k) + getN (buildOn 0#128 32 (mulN 16 1 a b) 4) 32 (2 * k + 1)) % 4294967296 := by
  have h := dl a b (k + 2) (by omega)
  have h1 := prod_lane a b 1 (2 * k) (by decide) (by omega)
  have h2 := prod_lane a b 1 (2 * k + 1) (by decide) (by omega)
  simp only [Nat.one_mul] at h1 h2
  rw [show 2 * (k + 2) = 2 * k + 4 by omega, show 2 * k + 4 + 1 = 2 * k + 1 + 4 by omega] at h
  generalize sgn 16 (getN a 16 (2 * k + 4)) * sgn 16 (getN b 16 (2 * k + 4)) = p at *
  generalize sgn 16 (getN a 16 (2 * k + 1 + 4)) * sgn 16 (getN b 16 (2 * k + 1 + 4)) = q at *
  omega
theorem sgn_zero16 : sgn 16 0 = 0 := by decide
theorem dot_split (a b : Vec) : vb 32 14 (buildOn 0#128 32 (dotN a (evenV b 8)) 4) (buildOn 0#128 32 (dotN a (oddV b 8)) 4) = buildOn 0#128 32 (dotN a b) 4 :=
  lanes_ext 32 4 (by decide) (by decide) fun k hk => by
    rw [sum32 _ _ _ hk]
    have h := dl a b k hk
    have h1 := dl a (evenV b 8) k hk
    have h2 := dl a (oddV b 8) k hk
    rw [even_lane _ _ _ (by decide), even_lane _ _ _ (by decide), if_pos (by omega), if_pos (by omega), if_pos (by omega), if_neg (by omega), sgn_zero16, Int.mul_zero, Int.add_zero] at h1
    rw [odd_lane _ _ _ (by decide), odd_lane _ _ _ (by decide), if_pos (by omega), if_neg (by omega), if_pos (by omega), if_pos (by omega), sgn_zero16, Int.mul_zero, Int.zero_add] at h2
    generalize sgn 16 (getN a 16 (2 * k)) * sgn 16 (getN b 16 (2 * k)) = p at *
    generalize sgn 16 (getN a 16 (2 * k + 1)) * sgn 16 (getN b 16 (2 * k + 1)) = q at *
    omega
end Pl
