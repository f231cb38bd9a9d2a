/-
  The contracts of package num.
-/
import Derived.Test.YtllffbdcpilioaaDoorRows
import Derived.Test.YtllffbdcpilioaaDoorNumLaws
import Derived.WalkKit
import Derived.WalkSpells
import Derived.WalkLawsBesides
import Derived.Laws.BitsAllLaws
import Derived.Lib.Hide
set_option linter.unusedSimpArgs false
set_option linter.unusedVariables false

namespace Go.Proofs.YtllffbdcpilioaaDoor
open Go.RowKit Nm
set_option linter.unusedSimpArgs false
set_option linter.unusedVariables false

theorem ret_nu64 {a b : Int} (h : a = b) : Ending.returned (.int .u64 a) = .returned (.int .u64 b) := by rw [h]

theorem truth_any (b : Bool) (w : World) : Calls Tryd.prog 24 #[.bool b] w fun e w' => e = .returned (.int .u64 ((tru b).toNat : Int)) ∧ w' = w := by
  cases b <;> (go_enter Tryd.func24, Tryd.ntmps24; go_wp2; go_ret; exact ⟨rfl, rfl⟩)

theorem and_mask64 (l : Nat) (k : Int) (n : Nat) (hl : l ≤ 6) (hn : (n : Int) = k % 2 ^ l) : bits .and .u64 (IntKind.u64.wrap k) (2 ^ l - 1) = (n : Int) := by
  have hw : IntKind.u64.wrap k = (((k % 18446744073709551616).toNat : Nat) : Int) := by
    rw [IntKind.wrap_u64, Int.toNat_of_nonneg (Int.emod_nonneg _ (by decide))]
  have hp : (2 : Int) ^ l - 1 = ((2 ^ l - 1 : Nat) : Int) := by
    have := Nat.two_pow_pos l
    rw [Int.ofNat_sub this]; simp
  have hlt : 2 ^ l - 1 < 18446744073709551616 := by
    have : 2 ^ l ≤ 2 ^ 6 := Nat.pow_le_pow_right (by decide) hl
    omega
  rw [hw, hp, u64_and_nat _ _ (by omega) hlt, Nat.and_two_pow_sub_one_eq_mod]
  have : ((k % 18446744073709551616).toNat % 2 ^ l : Nat) = ((k % 18446744073709551616) % 2 ^ l).toNat := by
    rw [Int.toNat_emod (Int.emod_nonneg _ (by decide)) (by exact Int.le_of_lt (Int.pow_pos (by decide)))]
    congr 1
  have hd : ((2 : Int) ^ l) ∣ 18446744073709551616 := by
    have : (18446744073709551616 : Int) = 2 ^ l * 2 ^ (64 - l) := by rw [← Int.pow_add, show l + (64 - l) = 64 by omega]; rfl
    exact ⟨_, this⟩
  rw [this, Int.emod_emod_of_dvd _ hd, ← hn]
  omega
theorem rotl_num32 (x : BitVec 32) (n : Nat) (_ : n < 32) : bits .or .u32 (IntKind.u32.wrap ((x.toNat : Int) * 2 ^ n)) ((x.toNat : Int) / 2 ^ (32 - n)) = ((rotl x n).toNat : Int) := by
  have hx := x.isLt
  have e1 : IntKind.u32.wrap ((x.toNat : Int) * 2 ^ n) = ((x.toNat * 2 ^ n % 4294967296 : Nat) : Int) := by
    rw [IntKind.wrap_u32]; simp
  have e2 : (x.toNat : Int) / 2 ^ (32 - n) = ((x.toNat / 2 ^ (32 - n) : Nat) : Int) := by simp
  have h2 : x.toNat / 2 ^ (32 - n) < 4294967296 := Nat.lt_of_le_of_lt (Nat.div_le_self _ _) hx
  rw [e1, e2, u32_or_nat _ _ (Nat.mod_lt _ (by decide)) h2]
  congr 1
  unfold rotl
  rw [BitVec.toNat_or, BitVec.toNat_shiftLeft, BitVec.toNat_ushiftRight, Nat.shiftLeft_eq, Nat.shiftRight_eq_div_pow]
theorem rotl_num64 (x : BitVec 64) (n : Nat) (_ : n < 64) : bits .or .u64 (IntKind.u64.wrap ((x.toNat : Int) * 2 ^ n)) ((x.toNat : Int) / 2 ^ (64 - n)) = ((rotl x n).toNat : Int) := by
  have hx := x.isLt
  have e1 : IntKind.u64.wrap ((x.toNat : Int) * 2 ^ n) = ((x.toNat * 2 ^ n % 18446744073709551616 : Nat) : Int) := by
    rw [IntKind.wrap_u64]; simp
  have e2 : (x.toNat : Int) / 2 ^ (64 - n) = ((x.toNat / 2 ^ (64 - n) : Nat) : Int) := by simp
  have h2 : x.toNat / 2 ^ (64 - n) < 18446744073709551616 := Nat.lt_of_le_of_lt (Nat.div_le_self _ _) hx
  rw [e1, e2, u64_or_nat _ _ (Nat.mod_lt _ (by decide)) h2]
  congr 1
  unfold rotl
  rw [BitVec.toNat_or, BitVec.toNat_shiftLeft, BitVec.toNat_ushiftRight, Nat.shiftLeft_eq, Nat.shiftRight_eq_div_pow]
theorem rot32_any (x : BitVec 32) (k : Int) (n : Nat) (w : World) (hn : (n : Int) = k % 32) :
    Calls Tryd.prog 38 #[.int .u32 (x.toNat : Int), .int .i64 k] w fun e w' => e = .returned (.int .u32 ((rotl x n).toNat : Int)) ∧ w' = w := by
  have e1 : bits .and .u64 (IntKind.u64.wrap k) 31 = (n : Int) := and_mask64 5 k n (by decide) hn
  have e2 := rotl_num32 x n (by omega)
  have hn1 : (n : Int) ≤ 31 := by omega
  clear hn
  have E2 := Lib.hid e2
  clear e2
  go_enter Tryd.func38, Tryd.ntmps38
  go_wp2
  go_ret
  exact ⟨congrArg Ending.returned (congrArg (Value.int IntKind.u32) E2.out), rfl⟩
theorem rot64_any (x : BitVec 64) (k : Int) (n : Nat) (w : World) (hn : (n : Int) = k % 64) :
    Calls Tryd.prog 39 #[.int .u64 (x.toNat : Int), .int .i64 k] w fun e w' => e = .returned (.int .u64 ((rotl x n).toNat : Int)) ∧ w' = w := by
  have e1 : bits .and .u64 (IntKind.u64.wrap k) 63 = (n : Int) := and_mask64 6 k n (by decide) hn
  have e2 := rotl_num64 x n (by omega)
  have hn1 : (n : Int) ≤ 63 := by omega
  clear hn
  have E2 := Lib.hid e2
  clear e2
  go_enter Tryd.func39, Tryd.ntmps39
  go_wp2
  go_ret
  exact ⟨congrArg Ending.returned (congrArg (Value.int IntKind.u64) E2.out), rfl⟩
theorem toInt_u64 (x : B64) : IntKind.u64.wrap x.toInt = (x.toNat : Int) := by
  have := x.isLt
  rw [IntKind.wrap_u64, toInt_cases64]
  split <;> omega
theorem cmp_0 {k : Int} (x y : B64) (h : (k == 0) = true) : tru (x.toInt == y.toInt) = cmpB k x y := by
  obtain rfl : k = 0 := by simpa using h
  show _ = tru (decide (x = y))
  congr 1
  rw [Bool.eq_iff_iff]; simp [BitVec.toInt_inj]
theorem cmp_1 {k : Int} (x y : B64) (h : (k == 1) = true) : tru (x.toInt != y.toInt) = cmpB k x y := by
  obtain rfl : k = 1 := by simpa using h
  show _ = tru (!decide (x = y))
  congr 1
  rw [Bool.eq_iff_iff]; simp [BitVec.toInt_inj]
theorem cmp_2 {k : Int} (x y : B64) (h : (k == 2) = true) : tru (decide (x.toInt < y.toInt)) = cmpB k x y := by
  obtain rfl : k = 2 := by simpa using h
  show _ = tru (x.slt y)
  rfl
theorem cmp_3 {k : Int} (x y : B64) (h : (k == 3) = true) : tru (decide (x.toNat < y.toNat)) = cmpB k x y := by
  obtain rfl : k = 3 := by simpa using h
  show _ = tru (x.ult y)
  rfl
theorem cmp_4 {k : Int} (x y : B64) (h : (k == 4) = true) : tru (decide (y.toInt < x.toInt)) = cmpB k x y := by
  obtain rfl : k = 4 := by simpa using h
  show _ = tru (y.slt x)
  rfl
theorem cmp_5 {k : Int} (x y : B64) (h : (k == 5) = true) : tru (decide (y.toNat < x.toNat)) = cmpB k x y := by
  obtain rfl : k = 5 := by simpa using h
  show _ = tru (y.ult x)
  rfl
theorem cmp_6 {k : Int} (x y : B64) (h : (k == 6) = true) : tru (decide (x.toInt ≤ y.toInt)) = cmpB k x y := by
  obtain rfl : k = 6 := by simpa using h
  show _ = tru (!(y.slt x))
  congr 1
  rw [BitVec.slt_eq_decide, Bool.eq_iff_iff]; simp
theorem cmp_7 {k : Int} (x y : B64) (h : (k == 7) = true) : tru (decide (x.toNat ≤ y.toNat)) = cmpB k x y := by
  obtain rfl : k = 7 := by simpa using h
  show _ = tru (!(y.ult x))
  congr 1
  rw [BitVec.ult_eq_decide, Bool.eq_iff_iff]; simp
theorem cmp_8 {k : Int} (x y : B64) (h : (k == 8) = true) : tru (decide (y.toInt ≤ x.toInt)) = cmpB k x y := by
  obtain rfl : k = 8 := by simpa using h
  show _ = tru (!(x.slt y))
  congr 1
  rw [BitVec.slt_eq_decide, Bool.eq_iff_iff]; simp
theorem cmp_9 {k : Int} (x y : B64) (h0 : (k == 0) = false) (h1 : (k == 1) = false) (h2 : (k == 2) = false) (h3 : (k == 3) = false) (h4 : (k == 4) = false) (h5 : (k == 5) = false) (h6 : (k == 6) = false) (h7 : (k == 7) = false) (h8 : (k == 8) = false) : tru (decide (y.toNat ≤ x.toNat)) = cmpB k x y := by
  simp only [beq_eq_false_iff_ne, ne_eq] at h0 h1 h2 h3 h4 h5 h6 h7 h8
  unfold cmpB
  rw [if_neg h0, if_neg h1, if_neg h2, if_neg h3, if_neg h4, if_neg h5, if_neg h6, if_neg h7, if_neg h8]
  congr 1
  rw [BitVec.ult_eq_decide, Bool.eq_iff_iff]; simp
theorem compare_any (k : Int) (x y : B64) (w : World) :
    Calls Tryd.prog 21 #[.int .i64 k, .int .i64 x.toInt, .int .i64 y.toInt] w fun e w' => e = .returned (.int .u64 ((cmpB k x y).toNat : Int)) ∧ w' = w := by
  have e1 := toInt_u64 x
  have e2 := toInt_u64 y
  go_enter Tryd.func21, Tryd.ntmps21
  go_wp2_with (go_at_call 24; refine (truth_any _ _).mono ?_; rintro e w' ⟨rfl, rfl⟩)
  all_goals go_ret
  · exact ⟨ret_nu64 (congrArg (fun b : B64 => (b.toNat : Int)) (cmp_0 x y (by assumption))), rfl⟩
  · exact ⟨ret_nu64 (congrArg (fun b : B64 => (b.toNat : Int)) (cmp_1 x y (by assumption))), rfl⟩
  · exact ⟨ret_nu64 (congrArg (fun b : B64 => (b.toNat : Int)) (cmp_2 x y (by assumption))), rfl⟩
  · exact ⟨ret_nu64 (congrArg (fun b : B64 => (b.toNat : Int)) (cmp_3 x y (by assumption))), rfl⟩
  · exact ⟨ret_nu64 (congrArg (fun b : B64 => (b.toNat : Int)) (cmp_4 x y (by assumption))), rfl⟩
  · exact ⟨ret_nu64 (congrArg (fun b : B64 => (b.toNat : Int)) (cmp_5 x y (by assumption))), rfl⟩
  · exact ⟨ret_nu64 (congrArg (fun b : B64 => (b.toNat : Int)) (cmp_6 x y (by assumption))), rfl⟩
  · exact ⟨ret_nu64 (congrArg (fun b : B64 => (b.toNat : Int)) (cmp_7 x y (by assumption))), rfl⟩
  · exact ⟨ret_nu64 (congrArg (fun b : B64 => (b.toNat : Int)) (cmp_8 x y (by assumption))), rfl⟩
  · exact ⟨ret_nu64 (congrArg (fun b : B64 => (b.toNat : Int)) (cmp_9 x y (by assumption) (by assumption) (by assumption) (by assumption) (by assumption) (by assumption) (by assumption) (by assumption) (by assumption))), rfl⟩
end Go.Proofs.YtllffbdcpilioaaDoor
