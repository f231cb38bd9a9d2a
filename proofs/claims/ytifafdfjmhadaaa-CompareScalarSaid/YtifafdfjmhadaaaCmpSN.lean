/-
  Plain laws: lanes of 32 and 64 bits are compared as whole numbers are; no program in sight.
-/
import Derived.Test.YtifafdfjmhadaaaCmpO
import Derived.Test.YtifafdfjmhadaaaNumLaws
set_option linter.unusedSimpArgs false
set_option linter.unusedVariables false
set_option linter.unusedVariables false
set_option linter.unusedSimpArgs false
namespace Pl
open Nm
theorem uns_toInt (x : B64) : uns x.toInt = (x.toNat : Int) := by
  have := x.isLt
  rw [BitVec.toInt_eq_toNat_cond]
  unfold uns
  split <;> omega
theorem cmpB_hold (k : Int) (x y : B64) (hk : 0 ≤ k ∧ k ≤ 9) : cmpB k x y = tru (holdC k x.toInt y.toInt) := by
  have e : decide (x = y) = decide (x.toInt = y.toInt) := by
    rw [Bool.eq_iff_iff, decide_eq_true_eq, decide_eq_true_eq, BitVec.toInt_inj]
  have s1 : ∀ a b : B64, a.slt b = decide (a.toInt < b.toInt) := fun _ _ => rfl
  have u1 : ∀ a b : B64, a.ult b = decide (uns a.toInt < uns b.toInt) := fun a b => by
    rw [uns_toInt, uns_toInt, Bool.eq_iff_iff]
    show decide (a.toNat < b.toNat) = true ↔ _
    simp
  have s2 : ∀ a b : B64, (!(a.slt b)) = decide (b.toInt ≤ a.toInt) := fun a b => by rw [s1, Bool.eq_iff_iff]; simp
  have u2 : ∀ a b : B64, (!(a.ult b)) = decide (uns b.toInt ≤ uns a.toInt) := fun a b => by rw [u1, Bool.eq_iff_iff]; simp
  obtain ⟨n, rfl⟩ : ∃ n : Nat, k = (n : Int) := ⟨k.toNat, by omega⟩
  obtain rfl | rfl | rfl | rfl | rfl | rfl | rfl | rfl | rfl | rfl : n = 0 ∨ n = 1 ∨ n = 2 ∨ n = 3 ∨ n = 4 ∨ n = 5 ∨ n = 6 ∨ n = 7 ∨ n = 8 ∨ n = 9 := by omega
  · show tru (decide (x = y)) = tru (decide (x.toInt = y.toInt)); rw [e]
  · show tru (!decide (x = y)) = tru (!decide (x.toInt = y.toInt)); rw [e]
  · show tru (x.slt y) = tru (decide (x.toInt < y.toInt)); rw [s1]
  · show tru (x.ult y) = tru (decide (uns x.toInt < uns y.toInt)); rw [u1]
  · show tru (y.slt x) = tru (decide (y.toInt < x.toInt)); rw [s1]
  · show tru (y.ult x) = tru (decide (uns y.toInt < uns x.toInt)); rw [u1]
  · show tru (!(y.slt x)) = tru (decide (x.toInt ≤ y.toInt)); rw [s2]
  · show tru (!(y.ult x)) = tru (decide (uns x.toInt ≤ uns y.toInt)); rw [u2]
  · show tru (!(x.slt y)) = tru (decide (y.toInt ≤ x.toInt)); rw [s2]
  · show tru (!(x.ult y)) = tru (decide (uns y.toInt ≤ uns x.toInt)); rw [u2]
theorem cs_int64 (A : Nat) (h : A < 18446744073709551616) : (BitVec.ofNat 64 A).toInt = sgn 64 A := by
  have e : (BitVec.ofNat 64 A).toNat = A := by rw [BitVec.toNat_ofNat]; omega
  rw [BitVec.toInt_eq_toNat_cond, e]; unfold sgn; split <;> split <;> omega
theorem cs_int32 (A : Nat) (h : A < 4294967296) : (sx (BitVec.ofNat 64 A)).toInt = sgn 32 A := by
  have e : (lo (BitVec.ofNat 64 A)).toNat = A := by
    show ((BitVec.ofNat 64 A).setWidth 32).toNat = A
    rw [BitVec.toNat_setWidth, BitVec.toNat_ofNat]; omega
  rw [sx_toInt, BitVec.toInt_eq_toNat_cond, e]; unfold sgn; split <;> split <;> omega
/-- A lane of 32 bits of a mask is the operator's answer with its sign turned. -/
theorem cs32 (k : Int) (hk : 0 ≤ k ∧ k ≤ 9) (a b : Vec) (i : Nat) (hi : i < 4) : sgn 32 (getN (CV 32 k a b) 32 i) = -((bB (70 + k) (BitVec.ofNat 64 (getN a 32 i)) (BitVec.ofNat 64 (getN b 32 i))).toNat : Int) ∧ (binB (70 + k) (BitVec.ofNat 64 (getN a 32 i)) (BitVec.ofNat 64 (getN b 32 i))).2 = 0 := by
  have ha : getN a 32 i < 4294967296 := getN_lt a 32 i
  have hb : getN b 32 i < 4294967296 := getN_lt b 32 i
  unfold bB binB
  rw [if_pos (show 70 ≤ 70 + k ∧ 70 + k ≤ 79 by omega), show 70 + k - 70 = k by omega]
  refine ⟨?_, rfl⟩
  rw [C_sgn 32 (by decide) k a b i hi]
  show _ = -((cmpB k _ _).toNat : Int)
  rw [cmpB_hold k _ _ hk, tru_toNat, cs_int32 _ ha, cs_int32 _ hb]
  split <;> rfl
theorem cs64 (k j : Int) (hj : 0 ≤ j ∧ j ≤ 9) (hk : k = 81 + j) (a b : Vec) (i : Nat) (hi : i < 2) : sgn 64 (getN (CV 64 j a b) 64 i) = -((bB k (BitVec.ofNat 64 (getN a 64 i)) (BitVec.ofNat 64 (getN b 64 i))).toNat : Int) ∧ (binB k (BitVec.ofNat 64 (getN a 64 i)) (BitVec.ofNat 64 (getN b 64 i))).2 = 0 := by
  have ha : getN a 64 i < 18446744073709551616 := getN_lt a 64 i
  have hb : getN b 64 i < 18446744073709551616 := getN_lt b 64 i
  subst hk
  unfold bB binB
  rw [if_neg (show ¬ (70 ≤ 81 + j ∧ 81 + j ≤ 79) by omega), if_pos (show 81 ≤ 81 + j ∧ 81 + j ≤ 90 by omega), show 81 + j - 81 = j by omega]
  refine ⟨?_, rfl⟩
  rw [C_sgn 64 (by decide) j a b i hi]
  show _ = -((cmpB j _ _).toNat : Int)
  rw [cmpB_hold j _ _ hj, tru_toNat, cs_int64 _ ha, cs_int64 _ hb]
  split <;> rfl
theorem bB_one (op : Int) (x y : B64) (h : 70 ≤ op ∧ op ≤ 79 ∨ 81 ≤ op ∧ op ≤ 90) : (bB op x y).toNat ≤ 1 := by
  have t : ∀ b, (tru b).toNat ≤ 1 := fun b => by cases b <;> decide
  have c : ∀ (k : Int) (u v : B64), (cmpB k u v).toNat ≤ 1 := fun k u v => by
    unfold cmpB
    split
    · exact t _
    split
    · exact t _
    split
    · exact t _
    split
    · exact t _
    split
    · exact t _
    split
    · exact t _
    split
    · exact t _
    split
    · exact t _
    split
    · exact t _
    · exact t _
  unfold bB binB
  split
  · exact c _ _ _
  split
  · exact c _ _ _
  · omega
end Pl
