/-
  Plain laws: lanes of 32 and 64 bits and the operators on whole numbers; no program in sight.
-/
import Derived.Test.YtgemlndpmbeaeaaAriS
import Derived.Test.YtgemlndpmbeaeaaNumOps
set_option linter.unusedVariables false
set_option linter.unusedSimpArgs false
namespace Pl
open Nm Go.Proofs.Ytgemlndpmbeaeaa
theorem g_vs (w k p : Nat) (v : Vec) (i : Nat) (h : i < 128 / w) : getN (vs w k p v) w i = shR w k p v i % 2 ^ w := by
  rw [vs, getN_buildOn _ _ _ _ _ (Nat.le_refl _), if_pos h]
theorem ofn32 (A : Nat) (h : A < 4294967296) : (lo (BitVec.ofNat 64 A)).toNat = A := by
  show ((BitVec.ofNat 64 A).setWidth 32).toNat = A
  rw [BitVec.toNat_setWidth, BitVec.toNat_ofNat]; omega
theorem ofn64 (A : Nat) (h : A < 18446744073709551616) : (BitVec.ofNat 64 A).toNat = A := by
  rw [BitVec.toNat_ofNat]; omega
theorem upn (x : B32) : (up x).toNat = x.toNat := by
  have := x.isLt
  show (x.setWidth 64).toNat = _
  rw [BitVec.toNat_setWidth]; omega
theorem sc32_14 (a b : Vec) (i : Nat) (h : i < 4) : getN (vb 32 14 a b) 32 i = (bB 106 (BitVec.ofNat 64 (getN a 32 i)) (BitVec.ofNat 64 (getN b 32 i))).toNat := by
  have ha : getN a 32 i < 4294967296 := getN_lt a 32 i
  have hb : getN b 32 i < 4294967296 := getN_lt b 32 i
  rw [sum32 _ _ _ h]
  show _ = (up (lo _ + lo _)).toNat
  rw [upn, BitVec.toNat_add, ofn32 _ ha, ofn32 _ hb]
theorem sc32_17 (a b : Vec) (i : Nat) (h : i < 4) : getN (vb 32 17 a b) 32 i = (bB 107 (BitVec.ofNat 64 (getN a 32 i)) (BitVec.ofNat 64 (getN b 32 i))).toNat := by
  have ha : getN a 32 i < 4294967296 := getN_lt a 32 i
  have hb : getN b 32 i < 4294967296 := getN_lt b 32 i
  rw [dif32 _ _ _ h]
  show _ = (up (lo _ - lo _)).toNat
  rw [upn, BitVec.toNat_sub, ofn32 _ ha, ofn32 _ hb]
  omega
theorem sc32_21 (a b : Vec) (i : Nat) (h : i < 4) : getN (vb 32 21 a b) 32 i = (bB 108 (BitVec.ofNat 64 (getN a 32 i)) (BitVec.ofNat 64 (getN b 32 i))).toNat := by
  have ha : getN a 32 i < 4294967296 := getN_lt a 32 i
  have hb : getN b 32 i < 4294967296 := getN_lt b 32 i
  rw [mul32 _ _ _ h]
  show _ = (up (lo _ * lo _)).toNat
  rw [upn, BitVec.toNat_mul, ofn32 _ ha, ofn32 _ hb]
theorem sc64_14 (a b : Vec) (i : Nat) (h : i < 2) : getN (vb 64 14 a b) 64 i = (bB 124 (BitVec.ofNat 64 (getN a 64 i)) (BitVec.ofNat 64 (getN b 64 i))).toNat := by
  have ha : getN a 64 i < 18446744073709551616 := getN_lt a 64 i
  have hb : getN b 64 i < 18446744073709551616 := getN_lt b 64 i
  rw [sum64 _ _ _ h]
  show _ = (_ + _ : B64).toNat
  rw [BitVec.toNat_add, ofn64 _ ha, ofn64 _ hb]
theorem sc64_17 (a b : Vec) (i : Nat) (h : i < 2) : getN (vb 64 17 a b) 64 i = (bB 125 (BitVec.ofNat 64 (getN a 64 i)) (BitVec.ofNat 64 (getN b 64 i))).toNat := by
  have ha : getN a 64 i < 18446744073709551616 := getN_lt a 64 i
  have hb : getN b 64 i < 18446744073709551616 := getN_lt b 64 i
  rw [dif64 _ _ _ h]
  show _ = (_ - _ : B64).toNat
  rw [BitVec.toNat_sub, ofn64 _ ha, ofn64 _ hb]
  omega
theorem sc64_21 (a b : Vec) (i : Nat) (h : i < 2) : getN (vb 64 21 a b) 64 i = (bB 126 (BitVec.ofNat 64 (getN a 64 i)) (BitVec.ofNat 64 (getN b 64 i))).toNat := by
  have ha : getN a 64 i < 18446744073709551616 := getN_lt a 64 i
  have hb : getN b 64 i < 18446744073709551616 := getN_lt b 64 i
  rw [mul64 _ _ _ h]
  show _ = (_ * _ : B64).toNat
  rw [BitVec.toNat_mul, ofn64 _ ha, ofn64 _ hb]
theorem sgn_toInt32 (A : Nat) (h : A < 4294967296) : (lo (BitVec.ofNat 64 A)).toInt = sgn 32 A := by
  rw [BitVec.toInt_eq_toNat_cond, ofn32 _ h]; unfold sgn; split <;> split <;> omega
theorem sgn_toInt64 (A : Nat) (h : A < 18446744073709551616) : (BitVec.ofNat 64 A).toInt = sgn 64 A := by
  rw [BitVec.toInt_eq_toNat_cond, ofn64 _ h]; unfold sgn; split <;> split <;> omega
theorem sh32_11 (v : Vec) (n i : Nat) (hn : n < 4294967296) (h : i < 4) : getN (vs 32 11 (n % 32) v) 32 i = (bB 116 (BitVec.ofNat 64 (getN v 32 i)) (BitVec.ofNat 64 n)).toNat := by
  have ha : getN v 32 i < 4294967296 := getN_lt v 32 i
  rw [g_vs 32 _ _ _ _ h]
  show u64 ((getN v 32 i : Int) * 2 ^ (n % 32)) % 4294967296 = (up (lo _ <<< ((lo (BitVec.ofNat 64 n)).toNat % 32))).toNat
  rw [upn, BitVec.toNat_shiftLeft, ofn32 _ ha, ofn32 _ hn, Nat.shiftLeft_eq, show ((getN v 32 i : Int) * 2 ^ (n % 32)) = ((getN v 32 i * 2 ^ (n % 32) : Nat) : Int) by simp]
  generalize getN v 32 i * 2 ^ (n % 32) = q
  unfold u64; omega
theorem sh32_12 (v : Vec) (n i : Nat) (hn : n < 4294967296) (h : i < 4) : getN (vs 32 12 (n % 32) v) 32 i = (bB 117 (BitVec.ofNat 64 (getN v 32 i)) (BitVec.ofNat 64 n)).toNat := by
  have ha : getN v 32 i < 4294967296 := getN_lt v 32 i
  rw [g_vs 32 _ _ _ _ h]
  show u64 (sgn 32 (getN v 32 i) / 2 ^ (n % 32)) % 4294967296 = (up ((lo _).sshiftRight ((lo (BitVec.ofNat 64 n)).toNat % 32))).toNat
  rw [upn, ofn32 _ hn]
  have := n_sars (lo (BitVec.ofNat 64 (getN v 32 i))) (n % 32)
  rw [sgn_toInt32 _ ha] at this
  generalize (lo (BitVec.ofNat 64 (getN v 32 i))).sshiftRight (n % 32) = r at *
  generalize sgn 32 (getN v 32 i) / 2 ^ (n % 32) = q at *
  unfold u64; omega
theorem sh32_13 (v : Vec) (n i : Nat) (hn : n < 4294967296) (h : i < 4) : getN (vs 32 13 (n % 32) v) 32 i = (bB 118 (BitVec.ofNat 64 (getN v 32 i)) (BitVec.ofNat 64 n)).toNat := by
  have ha : getN v 32 i < 4294967296 := getN_lt v 32 i
  rw [g_vs 32 _ _ _ _ h]
  show u64 ((getN v 32 i : Int) / 2 ^ (n % 32)) % 4294967296 = (up (lo _ >>> ((lo (BitVec.ofNat 64 n)).toNat % 32))).toNat
  rw [upn, BitVec.toNat_ushiftRight, ofn32 _ ha, ofn32 _ hn, Nat.shiftRight_eq_div_pow, show ((getN v 32 i : Int) / 2 ^ (n % 32)) = ((getN v 32 i / 2 ^ (n % 32) : Nat) : Int) by simp]
  have hq : getN v 32 i / 2 ^ (n % 32) ≤ getN v 32 i := Nat.div_le_self _ _
  generalize getN v 32 i / 2 ^ (n % 32) = q at *
  unfold u64; omega
theorem sh64_11 (v : Vec) (n i : Nat) (hn : n < 4294967296) (h : i < 2) : getN (vs 64 11 (n % 64) v) 64 i = (bB 134 (BitVec.ofNat 64 (getN v 64 i)) (BitVec.ofNat 64 n)).toNat := by
  have ha : getN v 64 i < 18446744073709551616 := getN_lt v 64 i
  rw [g_vs 64 _ _ _ _ h]
  show u64 ((getN v 64 i : Int) * 2 ^ (n % 64)) % 18446744073709551616 = (BitVec.ofNat 64 _ <<< ((BitVec.ofNat 64 n).toNat % 64)).toNat
  rw [BitVec.toNat_shiftLeft, ofn64 _ ha, ofn64 n (by omega), Nat.shiftLeft_eq, show ((getN v 64 i : Int) * 2 ^ (n % 64)) = ((getN v 64 i * 2 ^ (n % 64) : Nat) : Int) by simp]
  generalize getN v 64 i * 2 ^ (n % 64) = q
  unfold u64; omega
theorem sh64_12 (v : Vec) (n i : Nat) (hn : n < 4294967296) (h : i < 2) : getN (vs 64 12 (n % 64) v) 64 i = (bB 135 (BitVec.ofNat 64 (getN v 64 i)) (BitVec.ofNat 64 n)).toNat := by
  have ha : getN v 64 i < 18446744073709551616 := getN_lt v 64 i
  rw [g_vs 64 _ _ _ _ h]
  show u64 (sgn 64 (getN v 64 i) / 2 ^ (n % 64)) % 18446744073709551616 = ((BitVec.ofNat 64 _).sshiftRight ((BitVec.ofNat 64 n).toNat % 64)).toNat
  rw [ofn64 n (by omega)]
  have := n_sars (BitVec.ofNat 64 (getN v 64 i)) (n % 64)
  rw [sgn_toInt64 _ ha] at this
  generalize (BitVec.ofNat 64 (getN v 64 i)).sshiftRight (n % 64) = r at *
  generalize sgn 64 (getN v 64 i) / 2 ^ (n % 64) = q at *
  unfold u64; omega
theorem sh64_13 (v : Vec) (n i : Nat) (hn : n < 4294967296) (h : i < 2) : getN (vs 64 13 (n % 64) v) 64 i = (bB 136 (BitVec.ofNat 64 (getN v 64 i)) (BitVec.ofNat 64 n)).toNat := by
  have ha : getN v 64 i < 18446744073709551616 := getN_lt v 64 i
  rw [g_vs 64 _ _ _ _ h]
  show u64 ((getN v 64 i : Int) / 2 ^ (n % 64)) % 18446744073709551616 = (BitVec.ofNat 64 _ >>> ((BitVec.ofNat 64 n).toNat % 64)).toNat
  rw [BitVec.toNat_ushiftRight, ofn64 _ ha, ofn64 n (by omega), Nat.shiftRight_eq_div_pow, show ((getN v 64 i : Int) / 2 ^ (n % 64)) = ((getN v 64 i / 2 ^ (n % 64) : Nat) : Int) by simp]
  have hq : getN v 64 i / 2 ^ (n % 64) ≤ getN v 64 i := Nat.div_le_self _ _
  generalize getN v 64 i / 2 ^ (n % 64) = q at *
  unfold u64; omega
end Pl
