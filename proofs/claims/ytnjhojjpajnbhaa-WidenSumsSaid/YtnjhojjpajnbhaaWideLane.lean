/-
  The lanes of what package widen computes, as whole numbers: plain, no program in sight.
-/
import Derived.Test.YtnjhojjpajnbhaaWideBin
set_option linter.unusedSimpArgs false
set_option linter.unusedVariables false
namespace Pl
open Go

theorem sgn_16of (p : Int) (m : Nat) (hm : (m : Int) = p % 65536) (h : -32768 ≤ p ∧ p ≤ 32767) : sgn 16 m = p := by
  unfold sgn; rw [show (2 : Nat) ^ (16 - 1) = 32768 from rfl, show (2 : Int) ^ 16 = 65536 from rfl]; split <;> omega
theorem sgn_32of (p : Int) (m : Nat) (hm : (m : Int) = p % 4294967296) (h : -2147483648 ≤ p ∧ p ≤ 2147483647) : sgn 32 m = p := by
  unfold sgn; rw [show (2 : Nat) ^ (32 - 1) = 2147483648 from rfl, show (2 : Int) ^ 32 = 4294967296 from rfl]; split <;> omega
theorem sgn_64of (p : Int) (m : Nat) (hm : (m : Int) = p % 18446744073709551616) (h : -9223372036854775808 ≤ p ∧ p ≤ 9223372036854775807) : sgn 64 m = p := by
  unfold sgn; rw [show (2 : Nat) ^ (64 - 1) = 9223372036854775808 from rfl, show (2 : Int) ^ 64 = 18446744073709551616 from rfl]; split <;> omega
theorem bd8 (v : Vec) (i : Nat) : -128 ≤ sgn 8 (getN v 8 i) ∧ sgn 8 (getN v 8 i) ≤ 127 := by
  have := getN_lt v 8 i
  rw [show (2 : Nat) ^ 8 = 256 from rfl] at this
  unfold sgn; rw [show (2 : Nat) ^ (8 - 1) = 128 from rfl, show (2 : Int) ^ 8 = 256 from rfl]; split <;> omega
theorem bd16 (v : Vec) (i : Nat) : -32768 ≤ sgn 16 (getN v 16 i) ∧ sgn 16 (getN v 16 i) ≤ 32767 := sgn_bd16 _ (getN_lt v 16 i)
theorem bd32 (v : Vec) (i : Nat) : -2147483648 ≤ sgn 32 (getN v 32 i) ∧ sgn 32 (getN v 32 i) ≤ 2147483647 := by
  have := getN_lt v 32 i
  rw [show (2 : Nat) ^ 32 = 4294967296 from rfl] at this
  unfold sgn; rw [show (2 : Nat) ^ (32 - 1) = 2147483648 from rfl, show (2 : Int) ^ 32 = 4294967296 from rfl]; split <;> omega
theorem mul_bd (B : Nat) (x y : Int) (hx : x.natAbs ≤ B) (hy : y.natAbs ≤ B) : -((B * B : Nat) : Int) ≤ x * y ∧ x * y ≤ ((B * B : Nat) : Int) := by
  have h1 : (x * y).natAbs = x.natAbs * y.natAbs := Int.natAbs_mul x y
  have h2 : x.natAbs * y.natAbs ≤ B * B := Nat.mul_le_mul hx hy
  omega
theorem u64_mul (s t : Int) : ((u64 s * u64 t % 2 ^ 64 : Nat) : Int) = s * t % 18446744073709551616 := by
  have e1 : ((u64 s : Nat) : Int) = s % 18446744073709551616 := by unfold u64; omega
  have e2 : ((u64 t : Nat) : Int) = t % 18446744073709551616 := by unfold u64; omega
  rw [show (2 : Nat) ^ 64 = 18446744073709551616 from rfl, Int.natCast_emod, Int.natCast_mul, e1, e2]
  rw [show ((18446744073709551616 : Nat) : Int) = 18446744073709551616 from rfl, ← Int.mul_emod]
theorem xs8 (a : Vec) (c k : Nat) (hc : c < 2) (hk : k < 8) : sgn 16 (getN (buildOn 0#128 16 (extN a 8 c) 8) 16 k) = sgn 8 (getN a 8 (k + c % 2 * 8)) := by
  have hb := bd8 a (k + c % 2 * 8)
  refine sgn_16of _ _ ?_ (by omega)
  rw [getN_buildOn _ _ _ _ _ (by decide), if_pos hk]
  unfold extN
  rw [if_pos hc, show 64 / 8 = 8 from rfl]
  generalize sgn 8 (getN a 8 (k + c % 2 * 8)) = p at *
  rw [show (2 : Nat) ^ 16 = 65536 from rfl]
  unfold u64
  omega
theorem xu8 (a : Vec) (c k : Nat) (hc : 2 ≤ c) (hk : k < 8) : getN (buildOn 0#128 16 (extN a 8 c) 8) 16 k = getN a 8 (k + c % 2 * 8) := by
  have hb := getN_lt a 8 (k + c % 2 * 8)
  rw [getN_buildOn _ _ _ _ _ (by decide), if_pos hk]
  unfold extN
  rw [if_neg (by omega), show 64 / 8 = 8 from rfl]
  exact Nat.mod_eq_of_lt (Nat.lt_trans hb (by decide))
theorem ms8 (a b : Vec) (c k : Nat) (hc : c < 2) (hk : k < 8) : sgn 16 (getN (buildOn 0#128 16 (mulN 8 c a b) 8) 16 k) = sgn 8 (getN a 8 (k + c % 2 * 8)) * sgn 8 (getN b 8 (k + c % 2 * 8)) := by
  have ha := bd8 a (k + c % 2 * 8)
  have hb := bd8 b (k + c % 2 * 8)
  rw [getN_buildOn _ _ _ _ _ (by decide), if_pos hk]
  unfold mulN extN
  rw [if_pos hc, if_pos hc, show 64 / 8 = 8 from rfl]
  generalize sgn 8 (getN a 8 (k + c % 2 * 8)) = p at *
  generalize sgn 8 (getN b 8 (k + c % 2 * 8)) = q at *
  have hm := mul_bd 128 p q (by omega) (by omega)
  have hu := u64_mul p q
  generalize u64 p * u64 q % 2 ^ 64 = m at *
  generalize p * q = z at *
  refine sgn_16of _ _ ?_ (by omega)
  rw [show (2 : Nat) ^ 16 = 65536 from rfl]
  omega
theorem mu8 (a b : Vec) (c k : Nat) (hc : 2 ≤ c) (hk : k < 8) : getN (buildOn 0#128 16 (mulN 8 c a b) 8) 16 k = getN a 8 (k + c % 2 * 8) * getN b 8 (k + c % 2 * 8) := by
  have ha := getN_lt a 8 (k + c % 2 * 8)
  have hb := getN_lt b 8 (k + c % 2 * 8)
  rw [getN_buildOn _ _ _ _ _ (by decide), if_pos hk]
  unfold mulN extN
  rw [if_neg (by omega), if_neg (by omega), show 64 / 8 = 8 from rfl]
  generalize getN a 8 (k + c % 2 * 8) = p at *
  generalize getN b 8 (k + c % 2 * 8) = q at *
  have hm : p * q < 2 ^ 8 * 2 ^ 8 := Nat.mul_lt_mul'' ha hb
  rw [show (2 : Nat) ^ 8 * 2 ^ 8 = 65536 from rfl] at hm
  rw [show (2 : Nat) ^ 16 = 65536 from rfl, show (2 : Nat) ^ 64 = 18446744073709551616 from rfl]
  generalize p * q = z at *
  omega
theorem ps8 (a : Vec) (k : Nat) (hk : k < 8) : sgn 16 (getN (buildOn 0#128 16 (pairN true 8 a) 8) 16 k) = sgn 8 (getN a 8 (2 * k)) + sgn 8 (getN a 8 (2 * k + 1)) := by
  have h1 := bd8 a (2 * k)
  have h2 := bd8 a (2 * k + 1)
  refine sgn_16of _ _ ?_ (by omega)
  rw [getN_buildOn _ _ _ _ _ (by decide), if_pos hk]
  unfold pairN
  rw [if_pos rfl, show (2 : Nat) ^ 16 = 65536 from rfl]
  generalize sgn 8 (getN a 8 (2 * k)) = p at *
  generalize sgn 8 (getN a 8 (2 * k + 1)) = q at *
  unfold u64
  omega
theorem pu8 (a : Vec) (k : Nat) (hk : k < 8) : getN (buildOn 0#128 16 (pairN false 8 a) 8) 16 k = getN a 8 (2 * k) + getN a 8 (2 * k + 1) := by
  have h1 := getN_lt a 8 (2 * k)
  have h2 := getN_lt a 8 (2 * k + 1)
  rw [getN_buildOn _ _ _ _ _ (by decide), if_pos hk]
  unfold pairN
  rw [if_neg (by decide), show (2 : Nat) ^ 16 = 65536 from rfl]
  rw [show (2 : Nat) ^ 8 = 256 from rfl] at h1 h2
  omega
theorem xs16 (a : Vec) (c k : Nat) (hc : c < 2) (hk : k < 4) : sgn 32 (getN (buildOn 0#128 32 (extN a 16 c) 4) 32 k) = sgn 16 (getN a 16 (k + c % 2 * 4)) := by
  have hb := bd16 a (k + c % 2 * 4)
  refine sgn_32of _ _ ?_ (by omega)
  rw [getN_buildOn _ _ _ _ _ (by decide), if_pos hk]
  unfold extN
  rw [if_pos hc, show 64 / 16 = 4 from rfl]
  generalize sgn 16 (getN a 16 (k + c % 2 * 4)) = p at *
  rw [show (2 : Nat) ^ 32 = 4294967296 from rfl]
  unfold u64
  omega
theorem xu16 (a : Vec) (c k : Nat) (hc : 2 ≤ c) (hk : k < 4) : getN (buildOn 0#128 32 (extN a 16 c) 4) 32 k = getN a 16 (k + c % 2 * 4) := by
  have hb := getN_lt a 16 (k + c % 2 * 4)
  rw [getN_buildOn _ _ _ _ _ (by decide), if_pos hk]
  unfold extN
  rw [if_neg (by omega), show 64 / 16 = 4 from rfl]
  exact Nat.mod_eq_of_lt (Nat.lt_trans hb (by decide))
theorem ms16 (a b : Vec) (c k : Nat) (hc : c < 2) (hk : k < 4) : sgn 32 (getN (buildOn 0#128 32 (mulN 16 c a b) 4) 32 k) = sgn 16 (getN a 16 (k + c % 2 * 4)) * sgn 16 (getN b 16 (k + c % 2 * 4)) := by
  have ha := bd16 a (k + c % 2 * 4)
  have hb := bd16 b (k + c % 2 * 4)
  rw [getN_buildOn _ _ _ _ _ (by decide), if_pos hk]
  unfold mulN extN
  rw [if_pos hc, if_pos hc, show 64 / 16 = 4 from rfl]
  generalize sgn 16 (getN a 16 (k + c % 2 * 4)) = p at *
  generalize sgn 16 (getN b 16 (k + c % 2 * 4)) = q at *
  have hm := mul_bd 32768 p q (by omega) (by omega)
  have hu := u64_mul p q
  generalize u64 p * u64 q % 2 ^ 64 = m at *
  generalize p * q = z at *
  refine sgn_32of _ _ ?_ (by omega)
  rw [show (2 : Nat) ^ 32 = 4294967296 from rfl]
  omega
theorem mu16 (a b : Vec) (c k : Nat) (hc : 2 ≤ c) (hk : k < 4) : getN (buildOn 0#128 32 (mulN 16 c a b) 4) 32 k = getN a 16 (k + c % 2 * 4) * getN b 16 (k + c % 2 * 4) := by
  have ha := getN_lt a 16 (k + c % 2 * 4)
  have hb := getN_lt b 16 (k + c % 2 * 4)
  rw [getN_buildOn _ _ _ _ _ (by decide), if_pos hk]
  unfold mulN extN
  rw [if_neg (by omega), if_neg (by omega), show 64 / 16 = 4 from rfl]
  generalize getN a 16 (k + c % 2 * 4) = p at *
  generalize getN b 16 (k + c % 2 * 4) = q at *
  have hm : p * q < 2 ^ 16 * 2 ^ 16 := Nat.mul_lt_mul'' ha hb
  rw [show (2 : Nat) ^ 16 * 2 ^ 16 = 4294967296 from rfl] at hm
  rw [show (2 : Nat) ^ 32 = 4294967296 from rfl, show (2 : Nat) ^ 64 = 18446744073709551616 from rfl]
  generalize p * q = z at *
  omega
theorem ps16 (a : Vec) (k : Nat) (hk : k < 4) : sgn 32 (getN (buildOn 0#128 32 (pairN true 16 a) 4) 32 k) = sgn 16 (getN a 16 (2 * k)) + sgn 16 (getN a 16 (2 * k + 1)) := by
  have h1 := bd16 a (2 * k)
  have h2 := bd16 a (2 * k + 1)
  refine sgn_32of _ _ ?_ (by omega)
  rw [getN_buildOn _ _ _ _ _ (by decide), if_pos hk]
  unfold pairN
  rw [if_pos rfl, show (2 : Nat) ^ 32 = 4294967296 from rfl]
  generalize sgn 16 (getN a 16 (2 * k)) = p at *
  generalize sgn 16 (getN a 16 (2 * k + 1)) = q at *
  unfold u64
  omega
theorem pu16 (a : Vec) (k : Nat) (hk : k < 4) : getN (buildOn 0#128 32 (pairN false 16 a) 4) 32 k = getN a 16 (2 * k) + getN a 16 (2 * k + 1) := by
  have h1 := getN_lt a 16 (2 * k)
  have h2 := getN_lt a 16 (2 * k + 1)
  rw [getN_buildOn _ _ _ _ _ (by decide), if_pos hk]
  unfold pairN
  rw [if_neg (by decide), show (2 : Nat) ^ 32 = 4294967296 from rfl]
  rw [show (2 : Nat) ^ 16 = 65536 from rfl] at h1 h2
  omega
theorem xs32 (a : Vec) (c k : Nat) (hc : c < 2) (hk : k < 2) : sgn 64 (getN (buildOn 0#128 64 (extN a 32 c) 2) 64 k) = sgn 32 (getN a 32 (k + c % 2 * 2)) := by
  have hb := bd32 a (k + c % 2 * 2)
  refine sgn_64of _ _ ?_ (by omega)
  rw [getN_buildOn _ _ _ _ _ (by decide), if_pos hk]
  unfold extN
  rw [if_pos hc, show 64 / 32 = 2 from rfl]
  generalize sgn 32 (getN a 32 (k + c % 2 * 2)) = p at *
  rw [show (2 : Nat) ^ 64 = 18446744073709551616 from rfl]
  unfold u64
  omega
theorem xu32 (a : Vec) (c k : Nat) (hc : 2 ≤ c) (hk : k < 2) : getN (buildOn 0#128 64 (extN a 32 c) 2) 64 k = getN a 32 (k + c % 2 * 2) := by
  have hb := getN_lt a 32 (k + c % 2 * 2)
  rw [getN_buildOn _ _ _ _ _ (by decide), if_pos hk]
  unfold extN
  rw [if_neg (by omega), show 64 / 32 = 2 from rfl]
  exact Nat.mod_eq_of_lt (Nat.lt_trans hb (by decide))
theorem ms32 (a b : Vec) (c k : Nat) (hc : c < 2) (hk : k < 2) : sgn 64 (getN (buildOn 0#128 64 (mulN 32 c a b) 2) 64 k) = sgn 32 (getN a 32 (k + c % 2 * 2)) * sgn 32 (getN b 32 (k + c % 2 * 2)) := by
  have ha := bd32 a (k + c % 2 * 2)
  have hb := bd32 b (k + c % 2 * 2)
  rw [getN_buildOn _ _ _ _ _ (by decide), if_pos hk]
  unfold mulN extN
  rw [if_pos hc, if_pos hc, show 64 / 32 = 2 from rfl]
  generalize sgn 32 (getN a 32 (k + c % 2 * 2)) = p at *
  generalize sgn 32 (getN b 32 (k + c % 2 * 2)) = q at *
  have hm := mul_bd 2147483648 p q (by omega) (by omega)
  have hu := u64_mul p q
  generalize u64 p * u64 q % 2 ^ 64 = m at *
  generalize p * q = z at *
  refine sgn_64of _ _ ?_ (by omega)
  rw [show (2 : Nat) ^ 64 = 18446744073709551616 from rfl]
  omega
theorem mu32 (a b : Vec) (c k : Nat) (hc : 2 ≤ c) (hk : k < 2) : getN (buildOn 0#128 64 (mulN 32 c a b) 2) 64 k = getN a 32 (k + c % 2 * 2) * getN b 32 (k + c % 2 * 2) := by
  have ha := getN_lt a 32 (k + c % 2 * 2)
  have hb := getN_lt b 32 (k + c % 2 * 2)
  rw [getN_buildOn _ _ _ _ _ (by decide), if_pos hk]
  unfold mulN extN
  rw [if_neg (by omega), if_neg (by omega), show 64 / 32 = 2 from rfl]
  generalize getN a 32 (k + c % 2 * 2) = p at *
  generalize getN b 32 (k + c % 2 * 2) = q at *
  have hm : p * q < 2 ^ 32 * 2 ^ 32 := Nat.mul_lt_mul'' ha hb
  rw [show (2 : Nat) ^ 32 * 2 ^ 32 = 18446744073709551616 from rfl] at hm
  rw [show (2 : Nat) ^ 64 = 18446744073709551616 from rfl]
  generalize p * q = z at *
  omega
theorem dl (a b : Vec) (k : Nat) (hk : k < 4) : ((getN (buildOn 0#128 32 (dotN a b) 4) 32 k : Nat) : Int) = (sgn 16 (getN a 16 (2 * k)) * sgn 16 (getN b 16 (2 * k)) + sgn 16 (getN a 16 (2 * k + 1)) * sgn 16 (getN b 16 (2 * k + 1))) % 4294967296 := by
  rw [getN_buildOn _ _ _ _ _ (by decide), if_pos hk]
  unfold dotN
  generalize sgn 16 (getN a 16 (2 * k)) * sgn 16 (getN b 16 (2 * k)) + sgn 16 (getN a 16 (2 * k + 1)) * sgn 16 (getN b 16 (2 * k + 1)) = z
  rw [show (2 : Nat) ^ 32 = 4294967296 from rfl]
  unfold u64
  omega
end Pl
