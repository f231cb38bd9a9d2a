/-
  Plain laws: what the reference's operators on widened numbers give, cut, are the operators on the narrow ones.
-/
import Derived.Test.YtllffbdcpilioaaDoorNumRA
set_option linter.unusedSimpArgs false
set_option linter.unusedVariables false
namespace Go.Proofs.YtllffbdcpilioaaDoor
open Go.RowKit Nm

theorem up_toNat' (a : B32) : (up a).toNat = a.toNat := by
  have := a.isLt
  unfold up
  rw [BitVec.toNat_setWidth]; omega
theorem mod_sub_div {w : Nat} (x y : BitVec w) : x - x / y * y = x % y := by
  apply BitVec.eq_of_toNat_eq
  have h := Nat.div_add_mod x.toNat y.toNat
  have hx := x.isLt
  have hle : x.toNat / y.toNat * y.toNat ≤ x.toNat := Nat.div_mul_le_self _ _
  rw [BitVec.toNat_umod, BitVec.toNat_sub, BitVec.toNat_mul, BitVec.toNat_udiv, Nat.mod_eq_of_lt (Nat.lt_of_le_of_lt hle hx)]
  rw [Nat.mul_comm] at h
  have hm : x.toNat % y.toNat ≤ x.toNat := Nat.mod_le _ _
  generalize x.toNat / y.toNat * y.toNat = q at *
  rw [show 2 ^ w - q + x.toNat = 2 ^ w + x.toNat % y.toNat by omega, Nat.add_mod_left]
  exact Nat.mod_eq_of_lt (by omega)
theorem fillB_eq (x : B64) (n : Nat) (hn : n < 64) : fillB x n = if x >>> 63 = 1 ∧ 0 < n then BitVec.allOnes 64 <<< (64 - n) else 0 := by
  have hs : x >>> 63 = 1 ↔ x.toNat / 9223372036854775808 = 1 := by
    constructor
    · intro h
      have := congrArg BitVec.toNat h
      rw [BitVec.toNat_ushiftRight, Nat.shiftRight_eq_div_pow] at this
      exact this
    · intro h
      apply BitVec.eq_of_toNat_eq
      rw [BitVec.toNat_ushiftRight, Nat.shiftRight_eq_div_pow]
      exact h
  have hl : x.toNat / 9223372036854775808 < 2 := by have := x.isLt; omega
  unfold fillB fillN
  by_cases h : x.toNat / 9223372036854775808 = 0 ∨ n = 0
  · rw [if_pos h, if_neg (by rw [hs]; omega)]; rfl
  · rw [if_neg h, if_pos ⟨hs.2 (by omega), by omega⟩]
    apply BitVec.eq_of_toNat_eq
    have h1 : (2 : Nat) ^ (64 - n) ≤ 2 ^ 63 := Nat.pow_le_pow_right (by decide) (by omega)
    have h2 : 0 < (2 : Nat) ^ (64 - n) := Nat.two_pow_pos _
    rw [BitVec.toNat_ofNat, BitVec.toNat_shiftLeft, BitVec.toNat_allOnes, Nat.shiftLeft_eq, Nat.sub_mul, Nat.one_mul]
    have h3 : 2 ^ 64 * 2 ^ (64 - n) - 2 ^ (64 - n) = 2 ^ 64 * (2 ^ (64 - n) - 1) + (2 ^ 64 - 2 ^ (64 - n)) := by
      rw [Nat.mul_sub, Nat.mul_one]
      have h4 := Nat.mul_le_mul_left (2 ^ 64) h2
      have h5 : (2 : Nat) ^ 63 ≤ 2 ^ 64 := by decide
      omega
    rw [h3, Nat.mul_add_mod]
theorem sar64 (x : B64) (n : Nat) (hn : n < 64) : x >>> n ||| fillB x n = x.sshiftRight n := by
  rw [fillB_eq x n hn, sar_or x n hn]
theorem ror_eq {w : Nat} (hw : 0 < w) (x : BitVec w) (n : Nat) (hn : n < w) : x >>> n ||| x <<< (w - n) = rotl x ((w - n) % w) := by
  unfold rotl
  by_cases h : n = 0
  · subst h
    have e1 : x <<< w = 0 := by
      apply BitVec.eq_of_toNat_eq
      rw [BitVec.toNat_shiftLeft, Nat.shiftLeft_eq]; simp
    have e2 : x >>> w = 0 := by
      apply BitVec.eq_of_toNat_eq
      rw [BitVec.toNat_ushiftRight, Nat.shiftRight_eq_div_pow, Nat.div_eq_of_lt x.isLt]; rfl
    rw [Nat.sub_zero, Nat.mod_self, Nat.sub_zero, e1, e2]
    simp
  · rw [Nat.mod_eq_of_lt (show w - n < w by omega), show w - (w - n) = n by omega, BitVec.or_comm]
theorem lo_and (a b : B64) : lo (a &&& b) = lo a &&& lo b := by unfold lo; exact BitVec.setWidth_and
theorem lo_or (a b : B64) : lo (a ||| b) = lo a ||| lo b := by unfold lo; exact BitVec.setWidth_or
theorem lo_xor (a b : B64) : lo (a ^^^ b) = lo a ^^^ lo b := by unfold lo; exact BitVec.setWidth_xor
theorem lo_add (a b : B64) : lo (a + b) = lo a + lo b := by
  apply BitVec.eq_of_toNat_eq
  rw [lo_toNat, BitVec.toNat_add, BitVec.toNat_add, lo_toNat, lo_toNat]; omega
theorem lo_sub (a b : B64) : lo (a - b) = lo a - lo b := by
  apply BitVec.eq_of_toNat_eq
  rw [lo_toNat, BitVec.toNat_sub, BitVec.toNat_sub, lo_toNat, lo_toNat]
  have := a.isLt; have := b.isLt; omega
theorem lo_mul (a b : B64) : lo (a * b) = lo a * lo b := by
  apply BitVec.eq_of_toNat_eq
  rw [lo_toNat, BitVec.toNat_mul, BitVec.toNat_mul, lo_toNat, lo_toNat]
  simp only [Nat.reducePow]
  rw [Nat.mod_mod_of_dvd _ (by decide), Nat.mul_mod]
theorem lo_div (a b : B32) : lo (up a / up b) = a / b := by
  apply BitVec.eq_of_toNat_eq
  rw [lo_toNat, BitVec.toNat_udiv, BitVec.toNat_udiv, up_toNat', up_toNat']
  have h1 := Nat.div_le_self a.toNat b.toNat
  have := a.isLt
  exact Nat.mod_eq_of_lt (by omega)
theorem lo_shl (a : B32) (n : Nat) : lo (up a <<< n) = a <<< n := by
  apply BitVec.eq_of_toNat_eq
  rw [lo_toNat, BitVec.toNat_shiftLeft, BitVec.toNat_shiftLeft, up_toNat', Nat.shiftLeft_eq]
  exact Nat.mod_mod_of_dvd _ (by decide)
theorem lo_shr (a : B32) (n : Nat) : lo (up a >>> n) = a >>> n := by
  apply BitVec.eq_of_toNat_eq
  rw [lo_toNat, BitVec.toNat_ushiftRight, BitVec.toNat_ushiftRight, up_toNat', Nat.shiftRight_eq_div_pow]
  have h1 := Nat.div_le_self a.toNat (2 ^ n)
  have := a.isLt
  exact Nat.mod_eq_of_lt (by omega)
theorem lo_sar (x : B64) (n : Nat) (hn : n < 32) : lo ((sx x).sshiftRight n) = (lo x).sshiftRight n := by
  apply BitVec.eq_of_toNat_eq
  have h1 := n_sars (sx x) n
  have h2 := n_sars (lo x) n
  rw [sx_toInt] at h1
  rw [lo_toNat]
  generalize (lo x).toInt / 2 ^ n = t at *
  rw [show (2 : Int) ^ 64 = 18446744073709551616 from rfl] at h1
  rw [show (2 : Int) ^ 32 = 4294967296 from rfl] at h2
  omega
/-- The reference's result, cut, is the operator's. -/
theorem ar_64 (k : Nat) (hk : k < 15) (x y : B64) (hy : ¬ (3 ≤ k ∧ k ≤ 6 ∧ y = 0)) (ho : ¬ (k = 3 ∧ x = BitVec.intMin 64 ∧ y = BitVec.allOnes 64)) : opB (k : Int) x y = (arB 64 (k : Int) x y x y, 0) := by
  have hn : y.toNat % 64 < 64 := Nat.mod_lt _ (by decide)
  unfold opB
  rw [if_neg (fun h => hy ⟨by omega, by omega, h.2.2⟩)]
  have hk2 : k = 0 ∨ k = 1 ∨ k = 2 ∨ k = 3 ∨ k = 4 ∨ k = 5 ∨ k = 6 ∨ k = 7 ∨ k = 8 ∨ k = 9 ∨ k = 10 ∨ k = 11 ∨ k = 12 ∨ k = 13 ∨ k = 14 := by omega
  rcases hk2 with rfl | rfl | rfl | rfl | rfl | rfl | rfl | rfl | rfl | rfl | rfl | rfl | rfl | rfl | rfl
  · rfl
  · rfl
  · rfl
  · show (if x = BitVec.intMin 64 ∧ y = BitVec.allOnes 64 then _ else _) = (x.sdiv y, 0)
    rw [if_neg (fun h => ho ⟨rfl, h⟩)]
  · rfl
  · show (x.srem y, (0 : Int)) = (x - x.sdiv y * y, 0)
    rw [srem_sub]
  · show (x % y, (0 : Int)) = (x - x / y * y, 0)
    rw [mod_sub_div]
  · rfl
  · rfl
  · rfl
  · rfl
  · show (x.sshiftRight _, (0 : Int)) = (x >>> (y.toNat % 64) ||| fillB x (y.toNat % 64), 0)
    rw [sar64 x _ hn]
  · rfl
  · rfl
  · show (rotl x ((64 - y.toNat % 64) % 64), (0 : Int)) = (x >>> (y.toNat % 64) ||| x <<< (64 - y.toNat % 64), 0)
    rw [ror_eq (by decide) x _ hn]
theorem ar_32 (k : Nat) (hk : k < 15) (x y : B64) (hy : ¬ (3 ≤ k ∧ k ≤ 6 ∧ lo y = 0)) (ho : ¬ (k = 3 ∧ lo x = BitVec.intMin 32 ∧ lo y = BitVec.allOnes 32)) : opB (k : Int) (lo x) (lo y) = (lo (arB 32 (k : Int) (up (lo x)) (up (lo y)) (sx x) (sx y)), 0) := by
  have hn : (lo y).toNat % 32 < 32 := Nat.mod_lt _ (by decide)
  have hu := up_toNat' (lo y)
  unfold opB
  rw [if_neg (fun h => hy ⟨by omega, by omega, h.2.2⟩)]
  have hk2 : k = 0 ∨ k = 1 ∨ k = 2 ∨ k = 3 ∨ k = 4 ∨ k = 5 ∨ k = 6 ∨ k = 7 ∨ k = 8 ∨ k = 9 ∨ k = 10 ∨ k = 11 ∨ k = 12 ∨ k = 13 ∨ k = 14 := by omega
  rcases hk2 with rfl | rfl | rfl | rfl | rfl | rfl | rfl | rfl | rfl | rfl | rfl | rfl | rfl | rfl | rfl
  · show _ = (lo (up (lo x) + up (lo y)), (0 : Int))
    rw [lo_add, lo_up, lo_up]; rfl
  · show _ = (lo (up (lo x) - up (lo y)), (0 : Int))
    rw [lo_sub, lo_up, lo_up]; rfl
  · show _ = (lo (up (lo x) * up (lo y)), (0 : Int))
    rw [lo_mul, lo_up, lo_up]; rfl
  · show (if lo x = BitVec.intMin 32 ∧ lo y = BitVec.allOnes 32 then _ else _) = (lo ((sx x).sdiv (sx y)), 0)
    rw [if_neg (fun h => ho ⟨rfl, h⟩), lo_sdiv]
  · show _ = (lo (up (lo x) / up (lo y)), (0 : Int))
    rw [lo_div]; rfl
  · show _ = (lo (sx x - (sx x).sdiv (sx y) * sx y), (0 : Int))
    rw [lo_srem]; rfl
  · show _ = (lo (up (lo x) - up (lo x) / up (lo y) * up (lo y)), (0 : Int))
    rw [lo_sub, lo_mul, lo_div, lo_up, lo_up, mod_sub_div]; rfl
  · show _ = (lo (up (lo x) &&& up (lo y)), (0 : Int))
    rw [lo_and, lo_up, lo_up]; rfl
  · show _ = (lo (up (lo x) ||| up (lo y)), (0 : Int))
    rw [lo_or, lo_up, lo_up]; rfl
  · show _ = (lo (up (lo x) ^^^ up (lo y)), (0 : Int))
    rw [lo_xor, lo_up, lo_up]; rfl
  · show _ = (lo (up (lo x) <<< ((up (lo y)).toNat % 32)), (0 : Int))
    rw [lo_shl, hu]; rfl
  · show _ = (lo (sx x >>> ((up (lo y)).toNat % 32) ||| fillB (sx x) ((up (lo y)).toNat % 32)), (0 : Int))
    rw [hu, sar64 _ _ (by omega), lo_sar _ _ hn]; rfl
  · show _ = (lo (up (lo x) >>> ((up (lo y)).toNat % 32)), (0 : Int))
    rw [lo_shr, hu]; rfl
  · show _ = (lo (up (lo x) <<< ((up (lo y)).toNat % 32) ||| up (lo x) >>> (32 - (up (lo y)).toNat % 32)), (0 : Int))
    rw [lo_or, lo_shl, lo_shr, hu]; rfl
  · show _ = (lo (up (lo x) >>> ((up (lo y)).toNat % 32) ||| up (lo x) <<< (32 - (up (lo y)).toNat % 32)), (0 : Int))
    rw [lo_or, lo_shl, lo_shr, hu, ror_eq (by decide) (lo x) _ hn]; rfl
end Go.Proofs.YtllffbdcpilioaaDoor
