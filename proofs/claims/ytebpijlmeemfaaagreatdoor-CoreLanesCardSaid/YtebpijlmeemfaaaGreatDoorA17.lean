/- A part of the proof that plaittop.CoreLanes returns true. -/
import Derived.Lib.BitFns
import Derived.Lib.TrailingZeros
import Derived.Test.YtebpijlmeemfaaaGreatDoorRows
import Derived.WalkKit
import Derived.WalkSpells
import Derived.WalkLawsBesides
import Derived.Laws.BitsAllLaws
import Derived.Lib.Hide
import Derived.Deep.QuietTactic
import Derived.BigQuiet
set_option linter.all false
set_option linter.unusedSectionVars false
set_option linter.unusedSimpArgs false
set_option linter.unusedVariables false
section
open Go
namespace Nm
abbrev B64 := BitVec 64
abbrev B32 := BitVec 32
def tru (b : Bool) : B64 := if b then 1 else 0
def lo (x : B64) : B32 := x.setWidth 32
def up (x : B32) : B64 := x.setWidth 64
def sx (x : B64) : B64 := (lo x).signExtend 64
def rotl {w : Nat} (x : BitVec w) (n : Nat) : BitVec w := x <<< n ||| x >>> (w - n)
def cmpB (k : Int) (x y : B64) : B64 :=
 if k = 0 then tru (decide (x = y)) else if k = 1 then tru (!decide (x = y)) else if k = 2 then tru (x.slt y) else if k = 3 then tru (x.ult y)
 else if k = 4 then tru (y.slt x) else if k = 5 then tru (y.ult x) else if k = 6 then tru (!(y.slt x)) else if k = 7 then tru (!(y.ult x))
 else if k = 8 then tru (!(x.slt y)) else tru (!(x.ult y))
def opB {w : Nat} (k : Int) (x y : BitVec w) : BitVec w × Int :=
 if 3 ≤ k ∧ k ≤ 6 ∧ y = 0 then (0, 21)
 else if k = 0 then (x + y, 0) else if k = 1 then (x - y, 0) else if k = 2 then (x * y, 0)
 else if k = 3 then (if x = BitVec.intMin w ∧ y = BitVec.allOnes w then (0, 22) else (x.sdiv y, 0))
 else if k = 4 then (x / y, 0)
 else if k = 5 then (x.srem y, 0)
 else if k = 6 then (x % y, 0)
 else if k = 7 then (x &&& y, 0) else if k = 8 then (x ||| y, 0) else if k = 9 then (x ^^^ y, 0)
 else if k = 10 then (x <<< (y.toNat % w), 0)
 else if k = 11 then (x.sshiftRight (y.toNat % w), 0)
 else if k = 12 then (x >>> (y.toNat % w), 0)
 else if k = 13 then (rotl x (y.toNat % w), 0)
 else (rotl x ((w - y.toNat % w) % w), 0)
def binB (op : Int) (x y : B64) : B64 × Int :=
 if 70 ≤ op ∧ op ≤ 79 then (cmpB (op - 70) (sx x) (sx y), 0)
 else if 81 ≤ op ∧ op ≤ 90 then (cmpB (op - 81) x y, 0)
 else if 106 ≤ op ∧ op ≤ 120 then (up (opB (op - 106) (lo x) (lo y)).1, (opB (op - 106) (lo x) (lo y)).2)
 else if 124 ≤ op ∧ op ≤ 138 then opB (op - 124) x y
 else (0, 1)
def bB (op : Int) (x y : B64) : B64 := (binB op x y).1
theorem toInt_cases (x : B32) : x.toInt = if x.toNat < 2147483648 then (x.toNat : Int) else x.toNat - 4294967296 := by
 rw [BitVec.toInt_eq_toNat_cond]; split <;> split <;> omega
theorem toInt_cases64 (x : B64) : x.toInt = if x.toNat < 9223372036854775808 then (x.toNat : Int) else x.toNat - 18446744073709551616 := by
 rw [BitVec.toInt_eq_toNat_cond]; split <;> split <;> omega
theorem sx_toInt (x : B64) : (sx x).toInt = (lo x).toInt := BitVec.toInt_signExtend_of_le (by decide)
theorem lo_toNat (x : B64) : (lo x).toNat = x.toNat % 4294967296 := by simp [lo]
def c (k : Int) (x y : B64) : Int := ((cmpB k x y).toNat : Int)
theorem tru_toNat (b : Bool) : ((tru b).toNat : Int) = if b = true then 1 else 0 := by cases b <;> rfl
theorem c0 (x y : B64) : c 0 x y = if x.toNat = y.toNat then 1 else 0 := by
 show ((tru (decide (x = y))).toNat : Int) = _
 rw [tru_toNat]; simp only [decide_eq_true_eq, BitVec.toNat_inj]
theorem c1 (x y : B64) : c 1 x y = if x.toNat = y.toNat then 0 else 1 := by
 show ((tru (!decide (x = y))).toNat : Int) = _
 rw [tru_toNat]
 by_cases h : x = y
 ·subst h; simp
 ·have h2 : x.toNat ≠ y.toNat := fun hh => h (BitVec.eq_of_toNat_eq hh)
  simp [h, h2]
theorem c2 (x y : B64) : c 2 x y = if x.toInt < y.toInt then 1 else 0 := by
 show ((tru (x.slt y)).toNat : Int) = _
 rw [tru_toNat, BitVec.slt_eq_decide]; simp
theorem c3 (x y : B64) : c 3 x y = if x.toNat < y.toNat then 1 else 0 := by
 show ((tru (x.ult y)).toNat : Int) = _
 rw [tru_toNat, BitVec.ult_eq_decide]; simp
theorem c4 (x y : B64) : c 4 x y = if y.toInt < x.toInt then 1 else 0 := by
 show ((tru (y.slt x)).toNat : Int) = _
 rw [tru_toNat, BitVec.slt_eq_decide]; simp
theorem c5 (x y : B64) : c 5 x y = if y.toNat < x.toNat then 1 else 0 := by
 show ((tru (y.ult x)).toNat : Int) = _
 rw [tru_toNat, BitVec.ult_eq_decide]; simp
theorem c6 (x y : B64) : c 6 x y = if y.toInt < x.toInt then 0 else 1 := by
 show ((tru (!y.slt x)).toNat : Int) = _
 rw [tru_toNat, BitVec.slt_eq_decide]; by_cases h : y.toInt < x.toInt <;> simp [h]
theorem c8 (x y : B64) : c 8 x y = if x.toInt < y.toInt then 0 else 1 := by
 show ((tru (!x.slt y)).toNat : Int) = _
 rw [tru_toNat, BitVec.slt_eq_decide]; by_cases h : x.toInt < y.toInt <;> simp [h]
theorem c9 (x y : B64) : c 9 x y = if x.toNat < y.toNat then 0 else 1 := by
 show ((tru (!x.ult y)).toNat : Int) = _
 rw [tru_toNat, BitVec.ult_eq_decide]; by_cases h : x.toNat < y.toNat <;> simp [h]
end Nm
end
section
namespace Go.Proofs.YtebpijlmeemfaaaGreatDoor
open Go.RowKit Nm
theorem ret_nu64 {a b : Int} (h : a = b) : Ending.returned (.int .u64 a) = .returned (.int .u64 b) := by rw [h]
theorem truth_any (b : Bool) (w : World) : Calls Tryz.prog 292 #[.bool b] w fun e w' => e = .returned (.int .u64 ((tru b).toNat : Int)) ∧ w' = w := by
 cases b <;> (go_enter Tryz.func292, Tryz.ntmps292; go_wp2; go_ret; exact ⟨rfl, rfl⟩)
theorem and_mask64 (l : Nat) (k : Int) (n : Nat) (hl : l ≤ 6) (hn : (n : Int) = k % 2 ^ l) : bits .and .u64 (IntKind.u64.wrap k) (2 ^ l - 1) = (n : Int) := by
 have hw : IntKind.u64.wrap k = (((k % 18446744073709551616).toNat : Nat) : Int) := by
  rw [IntKind.wrap_u64, Int.toNat_of_nonneg (Int.emod_nonneg _ (by decide))]
 have hp : (2 : Int) ^ l - 1 = ((2 ^ l - 1 : Nat) : Int) := by
  have := Nat.two_pow_pos l
  rw [Int.ofNat_sub this]; simp
 have hlt : 2 ^ l - 1 < 18446744073709551616 := by
  have : 2 ^ l ≤ 2 ^ 6 := Nat.pow_le_pow_right (by decide) hl
  omega
 rw [hw, hp, u64_and_nat _ _ (by omega) hlt, Nat.and_two_pow_sub_one_eq_mod]
 have : ((k % 18446744073709551616).toNat % 2 ^ l : Nat) = ((k % 18446744073709551616) % 2 ^ l).toNat := by
  rw [Int.toNat_emod (Int.emod_nonneg _ (by decide)) (by exact Int.le_of_lt (Int.pow_pos (by decide)))]
  congr 1
 have hd : ((2 : Int) ^ l) ∣ 18446744073709551616 := by
  have : (18446744073709551616 : Int) = 2 ^ l * 2 ^ (64 - l) := by rw [← Int.pow_add, show l + (64 - l) = 64 by omega]; rfl
  exact ⟨_, this⟩
 rw [this, Int.emod_emod_of_dvd _ hd, ← hn]
 omega
theorem rotl_num32 (x : BitVec 32) (n : Nat) (_ : n < 32) : bits .or .u32 (IntKind.u32.wrap ((x.toNat : Int) * 2 ^ n)) ((x.toNat : Int) / 2 ^ (32 - n)) = ((rotl x n).toNat : Int) := by
 have hx := x.isLt
 have e1 : IntKind.u32.wrap ((x.toNat : Int) * 2 ^ n) = ((x.toNat * 2 ^ n % 4294967296 : Nat) : Int) := by
  rw [IntKind.wrap_u32]; simp
 have e2 : (x.toNat : Int) / 2 ^ (32 - n) = ((x.toNat / 2 ^ (32 - n) : Nat) : Int) := by simp
 have h2 : x.toNat / 2 ^ (32 - n) < 4294967296 := Nat.lt_of_le_of_lt (Nat.div_le_self _ _) hx
 rw [e1, e2, u32_or_nat _ _ (Nat.mod_lt _ (by decide)) h2]
 congr 1
 unfold rotl
 rw [BitVec.toNat_or, BitVec.toNat_shiftLeft, BitVec.toNat_ushiftRight, Nat.shiftLeft_eq, Nat.shiftRight_eq_div_pow]
theorem rotl_num64 (x : BitVec 64) (n : Nat) (_ : n < 64) : bits .or .u64 (IntKind.u64.wrap ((x.toNat : Int) * 2 ^ n)) ((x.toNat : Int) / 2 ^ (64 - n)) = ((rotl x n).toNat : Int) := by
 have hx := x.isLt
 have e1 : IntKind.u64.wrap ((x.toNat : Int) * 2 ^ n) = ((x.toNat * 2 ^ n % 18446744073709551616 : Nat) : Int) := by
  rw [IntKind.wrap_u64]; simp
 have e2 : (x.toNat : Int) / 2 ^ (64 - n) = ((x.toNat / 2 ^ (64 - n) : Nat) : Int) := by simp
 have h2 : x.toNat / 2 ^ (64 - n) < 18446744073709551616 := Nat.lt_of_le_of_lt (Nat.div_le_self _ _) hx
 rw [e1, e2, u64_or_nat _ _ (Nat.mod_lt _ (by decide)) h2]
 congr 1
 unfold rotl
 rw [BitVec.toNat_or, BitVec.toNat_shiftLeft, BitVec.toNat_ushiftRight, Nat.shiftLeft_eq, Nat.shiftRight_eq_div_pow]
theorem rot32_any (x : BitVec 32) (k : Int) (n : Nat) (w : World) (hn : (n : Int) = k % 32) :
  Calls Tryz.prog 320 #[.int .u32 (x.toNat : Int), .int .i64 k] w fun e w' => e = .returned (.int .u32 ((rotl x n).toNat : Int)) ∧ w' = w := by
 have e1 : bits .and .u64 (IntKind.u64.wrap k) 31 = (n : Int) := and_mask64 5 k n (by decide) hn
 have e2 := rotl_num32 x n (by omega)
 have hn1 : (n : Int) ≤ 31 := by omega
 clear hn
 have E2 := Lib.hid e2
 clear e2
 go_enter Tryz.func320, Tryz.ntmps320
 go_wp2
 go_ret
 exact ⟨congrArg Ending.returned (congrArg (Value.int IntKind.u32) E2.out), rfl⟩
theorem rot64_any (x : BitVec 64) (k : Int) (n : Nat) (w : World) (hn : (n : Int) = k % 64) :
  Calls Tryz.prog 321 #[.int .u64 (x.toNat : Int), .int .i64 k] w fun e w' => e = .returned (.int .u64 ((rotl x n).toNat : Int)) ∧ w' = w := by
 have e1 : bits .and .u64 (IntKind.u64.wrap k) 63 = (n : Int) := and_mask64 6 k n (by decide) hn
 have e2 := rotl_num64 x n (by omega)
 have hn1 : (n : Int) ≤ 63 := by omega
 clear hn
 have E2 := Lib.hid e2
 clear e2
 go_enter Tryz.func321, Tryz.ntmps321
 go_wp2
 go_ret
 exact ⟨congrArg Ending.returned (congrArg (Value.int IntKind.u64) E2.out), rfl⟩
theorem toInt_u64 (x : B64) : IntKind.u64.wrap x.toInt = (x.toNat : Int) := by
 have := x.isLt
 rw [IntKind.wrap_u64, toInt_cases64]
 split <;> omega
theorem cmp_0 {k : Int} (x y : B64) (h : (k == 0) = true) : tru (x.toInt == y.toInt) = cmpB k x y := by
 obtain rfl : k = 0 := by simpa using h
 show _ = tru (decide (x = y))
 congr 1
 rw [Bool.eq_iff_iff]; simp [BitVec.toInt_inj]
theorem cmp_1 {k : Int} (x y : B64) (h : (k == 1) = true) : tru (x.toInt != y.toInt) = cmpB k x y := by
 obtain rfl : k = 1 := by simpa using h
 show _ = tru (!decide (x = y))
 congr 1
 rw [Bool.eq_iff_iff]; simp [BitVec.toInt_inj]
theorem cmp_2 {k : Int} (x y : B64) (h : (k == 2) = true) : tru (decide (x.toInt < y.toInt)) = cmpB k x y := by
 obtain rfl : k = 2 := by simpa using h
 show _ = tru (x.slt y)
 rfl
theorem cmp_3 {k : Int} (x y : B64) (h : (k == 3) = true) : tru (decide (x.toNat < y.toNat)) = cmpB k x y := by
 obtain rfl : k = 3 := by simpa using h
 show _ = tru (x.ult y)
 rfl
theorem cmp_4 {k : Int} (x y : B64) (h : (k == 4) = true) : tru (decide (y.toInt < x.toInt)) = cmpB k x y := by
 obtain rfl : k = 4 := by simpa using h
 show _ = tru (y.slt x)
 rfl
theorem cmp_5 {k : Int} (x y : B64) (h : (k == 5) = true) : tru (decide (y.toNat < x.toNat)) = cmpB k x y := by
 obtain rfl : k = 5 := by simpa using h
 show _ = tru (y.ult x)
 rfl
theorem cmp_6 {k : Int} (x y : B64) (h : (k == 6) = true) : tru (decide (x.toInt ≤ y.toInt)) = cmpB k x y := by
 obtain rfl : k = 6 := by simpa using h
 show _ = tru (!(y.slt x))
 congr 1
 rw [BitVec.slt_eq_decide, Bool.eq_iff_iff]; simp
theorem cmp_7 {k : Int} (x y : B64) (h : (k == 7) = true) : tru (decide (x.toNat ≤ y.toNat)) = cmpB k x y := by
 obtain rfl : k = 7 := by simpa using h
 show _ = tru (!(y.ult x))
 congr 1
 rw [BitVec.ult_eq_decide, Bool.eq_iff_iff]; simp
theorem cmp_8 {k : Int} (x y : B64) (h : (k == 8) = true) : tru (decide (y.toInt ≤ x.toInt)) = cmpB k x y := by
 obtain rfl : k = 8 := by simpa using h
 show _ = tru (!(x.slt y))
 congr 1
 rw [BitVec.slt_eq_decide, Bool.eq_iff_iff]; simp
theorem cmp_9 {k : Int} (x y : B64) (h0 : (k == 0) = false) (h1 : (k == 1) = false) (h2 : (k == 2) = false) (h3 : (k == 3) = false) (h4 : (k == 4) = false) (h5 : (k == 5) = false) (h6 : (k == 6) = false) (h7 : (k == 7) = false) (h8 : (k == 8) = false) : tru (decide (y.toNat ≤ x.toNat)) = cmpB k x y := by
 simp only [beq_eq_false_iff_ne, ne_eq] at h0 h1 h2 h3 h4 h5 h6 h7 h8
 unfold cmpB
 rw [if_neg h0, if_neg h1, if_neg h2, if_neg h3, if_neg h4, if_neg h5, if_neg h6, if_neg h7, if_neg h8]
 congr 1
 rw [BitVec.ult_eq_decide, Bool.eq_iff_iff]; simp
theorem compare_any (k : Int) (x y : B64) (w : World) :
  Calls Tryz.prog 299 #[.int .i64 k, .int .i64 x.toInt, .int .i64 y.toInt] w fun e w' => e = .returned (.int .u64 ((cmpB k x y).toNat : Int)) ∧ w' = w := by
 have e1 := toInt_u64 x
 have e2 := toInt_u64 y
 go_enter Tryz.func299, Tryz.ntmps299
 go_wp2_with (go_at_call 292; refine (truth_any _ _).mono ?_; rintro e w' ⟨rfl, rfl⟩)
 all_goals go_ret
 ·exact ⟨ret_nu64 (congrArg (fun b : B64 => (b.toNat : Int)) (cmp_0 x y (by assumption))), rfl⟩
 ·exact ⟨ret_nu64 (congrArg (fun b : B64 => (b.toNat : Int)) (cmp_1 x y (by assumption))), rfl⟩
 ·exact ⟨ret_nu64 (congrArg (fun b : B64 => (b.toNat : Int)) (cmp_2 x y (by assumption))), rfl⟩
 ·exact ⟨ret_nu64 (congrArg (fun b : B64 => (b.toNat : Int)) (cmp_3 x y (by assumption))), rfl⟩
 ·exact ⟨ret_nu64 (congrArg (fun b : B64 => (b.toNat : Int)) (cmp_4 x y (by assumption))), rfl⟩
 ·exact ⟨ret_nu64 (congrArg (fun b : B64 => (b.toNat : Int)) (cmp_5 x y (by assumption))), rfl⟩
 ·exact ⟨ret_nu64 (congrArg (fun b : B64 => (b.toNat : Int)) (cmp_6 x y (by assumption))), rfl⟩
 ·exact ⟨ret_nu64 (congrArg (fun b : B64 => (b.toNat : Int)) (cmp_7 x y (by assumption))), rfl⟩
 ·exact ⟨ret_nu64 (congrArg (fun b : B64 => (b.toNat : Int)) (cmp_8 x y (by assumption))), rfl⟩
 ·exact ⟨ret_nu64 (congrArg (fun b : B64 => (b.toNat : Int)) (cmp_9 x y (by assumption) (by assumption) (by assumption) (by assumption) (by assumption) (by assumption) (by assumption) (by assumption) (by assumption))), rfl⟩
end Go.Proofs.YtebpijlmeemfaaaGreatDoor
end
section
namespace Go.Proofs.YtebpijlmeemfaaaGreatDoor
open Go.RowKit Nm
theorem ret_n32 {a b : Int} (h : a = b) (e : Int) : Ending.returned (.tuple #[.int .u32 a, .int .i64 e]) = .returned (.tuple #[.int .u32 b, .int .i64 e]) := by rw [h]
theorem ret_n64 {a b : Int} (h : a = b) (e : Int) : Ending.returned (.tuple #[.int .u64 a, .int .i64 e]) = .returned (.tuple #[.int .u64 b, .int .i64 e]) := by rw [h]
theorem srem_ones (x : B64) : x.srem (BitVec.allOnes 64) = 0 := by
 apply BitVec.eq_of_toInt_eq
 rw [BitVec.toInt_srem, show (BitVec.allOnes 64).toInt = -1 from rfl]
 simp [Int.tmod_neg]
theorem mask32 (y : B32) (n : Nat) (hn : n = y.toNat % 32) : bits .and .u32 (y.toNat : Int) 31 = (n : Int) := by
 have hy := y.isLt
 have := u32_and_nat y.toNat 31 hy (by decide)
 rw [show ((31 : Nat) : Int) = 31 from rfl] at this
 rw [this, show (31 : Nat) = 2 ^ 5 - 1 from rfl, Nat.and_two_pow_sub_one_eq_mod, hn]
theorem mask64 (y : B64) (n : Nat) (hn : n = y.toNat % 64) : bits .and .u64 (y.toNat : Int) 63 = (n : Int) := by
 have hy := y.isLt
 have := u64_and_nat y.toNat 63 hy (by decide)
 rw [show ((63 : Nat) : Int) = 63 from rfl] at this
 rw [this, show (63 : Nat) = 2 ^ 6 - 1 from rfl, Nat.and_two_pow_sub_one_eq_mod, hn]
theorem wrap32_toInt (x : B32) : wrap32 (x.toNat : Int) = x.toInt := by
 have := x.isLt
 rw [toInt_cases]; unfold wrap32; split <;> omega
theorem wrap64_toInt (x : B64) : wrap64 (x.toNat : Int) = x.toInt := by
 have := x.isLt
 rw [toInt_cases64]; unfold wrap64; split <;> omega
theorem wrap64_toInt32 (x : B32) : wrap64 x.toInt = x.toInt := by
 have := x.isLt
 rw [toInt_cases]; unfold wrap64; split <;> omega
theorem toInt_ne32 {y : B32} (h : y ≠ 0) : y.toInt ≠ 0 := fun e => h (by have := (BitVec.toInt_inj (x := y) (y := 0)).1 (by simpa using e); exact this)
theorem toInt_ne64 {y : B64} (h : y ≠ 0) : y.toInt ≠ 0 := fun e => h (by have := (BitVec.toInt_inj (x := y) (y := 0)).1 (by simpa using e); exact this)
theorem toNat_ne {w : Nat} {y : BitVec w} (h : y ≠ 0) : y.toNat ≠ 0 := fun e => h (BitVec.eq_of_toNat_eq (by simpa using e))
theorem test_ne {n m : Nat} (h : n ≠ m) : ((n : Int) == m) = false := by rw [beq_eq_false_iff_ne]; omega
theorem n_shl {w : Nat} (x : BitVec w) (n : Nat) : ((x.toNat : Int) * 2 ^ n) % 2 ^ w = ((x <<< n).toNat : Int) := by
 rw [BitVec.toNat_shiftLeft, Nat.shiftLeft_eq]; simp
theorem n_shr {w : Nat} (x : BitVec w) (n : Nat) : (x.toNat : Int) / 2 ^ n = ((x >>> n).toNat : Int) := by
 rw [BitVec.toNat_ushiftRight, Nat.shiftRight_eq_div_pow]; simp
theorem u_of_toInt {w : Nat} (z : BitVec w) : z.toInt % 2 ^ w = (z.toNat : Int) := by
 rw [BitVec.toInt_eq_toNat_bmod]
 have := z.isLt
 have h2 : ((2 ^ w : Nat) : Int) = (2 : Int) ^ w := by simp
 rw [← h2, Int.bmod_emod]
 exact Int.emod_eq_of_lt (by omega) (by omega)
theorem n_sars {w : Nat} (x : BitVec w) (n : Nat) : (x.toInt / 2 ^ n) % 2 ^ w = ((x.sshiftRight n).toNat : Int) := by
 rw [← u_of_toInt, BitVec.toInt_sshiftRight, Int.shiftRight_eq_div_pow]
 simp
theorem n_divs {w : Nat} (x y : BitVec w) : (x.toInt.tdiv y.toInt) % 2 ^ w = ((x.sdiv y).toNat : Int) := by
 rw [← u_of_toInt, BitVec.toInt_sdiv]
 have h2 : ((2 ^ w : Nat) : Int) = (2 : Int) ^ w := by simp
 rw [← h2, Int.bmod_emod]
theorem n_rems {w : Nat} (x y : BitVec w) : (x.toInt.tmod y.toInt) % 2 ^ w = ((x.srem y).toNat : Int) := by
 rw [← u_of_toInt, BitVec.toInt_srem]
theorem add32_op (x y : B32) (w : World) : Calls Tryz.prog 300 #[.int .i64 106, .int .u32 (x.toNat : Int), .int .u32 (y.toNat : Int)] w fun e w' => e = .returned (.tuple #[.int .u32 ((x + y).toNat : Int), .int .i64 0]) ∧ w' = w := by
 have hx := x.isLt
 have hy := y.isLt
 go_enter Tryz.func300, Tryz.ntmps300
 go_wp2
 all_goals go_ret2
 all_goals refine ⟨ret_n32 ?_ 0, rfl⟩
 all_goals (rw [BitVec.toNat_add]; simp)
theorem sub32_op (x y : B32) (w : World) : Calls Tryz.prog 300 #[.int .i64 107, .int .u32 (x.toNat : Int), .int .u32 (y.toNat : Int)] w fun e w' => e = .returned (.tuple #[.int .u32 ((x - y).toNat : Int), .int .i64 0]) ∧ w' = w := by
 have hx := x.isLt
 have hy := y.isLt
 go_enter Tryz.func300, Tryz.ntmps300
 go_wp2
 all_goals go_ret2
 all_goals refine ⟨ret_n32 ?_ 0, rfl⟩
 all_goals (rw [BitVec.toNat_sub]; omega)
theorem mul32_op (x y : B32) (w : World) : Calls Tryz.prog 300 #[.int .i64 108, .int .u32 (x.toNat : Int), .int .u32 (y.toNat : Int)] w fun e w' => e = .returned (.tuple #[.int .u32 ((x * y).toNat : Int), .int .i64 0]) ∧ w' = w := by
 have hx := x.isLt
 have hy := y.isLt
 go_enter Tryz.func300, Tryz.ntmps300
 go_wp2
 all_goals go_ret2
 all_goals refine ⟨ret_n32 ?_ 0, rfl⟩
 all_goals (rw [BitVec.toNat_mul]; simp)
theorem divs32_op (x y : B32) (w : World) (hy0 : y ≠ 0) (hov : ¬ (x = BitVec.intMin 32 ∧ y = BitVec.allOnes 32)) : Calls Tryz.prog 300 #[.int .i64 109, .int .u32 (x.toNat : Int), .int .u32 (y.toNat : Int)] w fun e w' => e = .returned (.tuple #[.int .u32 ((x.sdiv y).toNat : Int), .int .i64 0]) ∧ w' = w := by
 have hx := x.isLt
 have hy := y.isLt
 have t1 := toNat_ne hy0
 have t2 : ((y.toNat : Int) == 0) = false := test_ne t1
 have t3 := toInt_ne32 hy0
 have ex := wrap32_toInt x
 have ey := wrap32_toInt y
 clear hy0
 have tx : ((x.toNat : Int) == 2147483648) = true → ((y.toNat : Int) == 4294967295) = false := fun e => test_ne (m := 4294967295) fun e2 => hov ⟨BitVec.eq_of_toNat_eq (by rw [show (BitVec.intMin 32).toNat = 2147483648 from rfl]; have := eq_of_beq e; omega), BitVec.eq_of_toNat_eq (by rw [show (BitVec.allOnes 32).toNat = 4294967295 from rfl]; exact e2)⟩
 have txb : ((x.toNat : Int) == 2147483648) = false ∨ ((x.toNat : Int) == 2147483648) = true := by cases ((x.toNat : Int) == 2147483648) <;> simp
 rcases txb with txb | txb
 ·skip
  clear tx
  go_enter Tryz.func300, Tryz.ntmps300
  go_wp2
  all_goals go_ret2
  all_goals refine ⟨ret_n32 ?_ 0, rfl⟩
  all_goals (have hd := n_divs x y; generalize x.toInt.tdiv y.toInt = q at *; generalize (x.sdiv y).toNat = r at *; clear hx hy; unfold wrap32; omega)
 ·have tyb := tx txb
  clear tx
  go_enter Tryz.func300, Tryz.ntmps300
  go_wp2
  all_goals go_ret2
  all_goals refine ⟨ret_n32 ?_ 0, rfl⟩
  all_goals (have hd := n_divs x y; generalize x.toInt.tdiv y.toInt = q at *; generalize (x.sdiv y).toNat = r at *; clear hx hy; unfold wrap32; omega)
theorem divu32_op (x y : B32) (w : World) (hy0 : y ≠ 0) : Calls Tryz.prog 300 #[.int .i64 110, .int .u32 (x.toNat : Int), .int .u32 (y.toNat : Int)] w fun e w' => e = .returned (.tuple #[.int .u32 ((x / y).toNat : Int), .int .i64 0]) ∧ w' = w := by
 have hx := x.isLt
 have hy := y.isLt
 have t1 := toNat_ne hy0
 have t2 : ((y.toNat : Int) == 0) = false := test_ne t1
 clear hy0
 go_enter Tryz.func300, Tryz.ntmps300
 go_wp2
 all_goals go_ret2
 all_goals refine ⟨ret_n32 ?_ 0, rfl⟩
 all_goals (rw [BitVec.toNat_udiv]; have h2 := Nat.div_le_self x.toNat y.toNat; rw [← Int.natCast_ediv]; generalize x.toNat / y.toNat = q at *; omega)
theorem rems32_op (x y : B32) (w : World) (hy0 : y ≠ 0) : Calls Tryz.prog 300 #[.int .i64 111, .int .u32 (x.toNat : Int), .int .u32 (y.toNat : Int)] w fun e w' => e = .returned (.tuple #[.int .u32 ((x.srem y).toNat : Int), .int .i64 0]) ∧ w' = w := by
 have hx := x.isLt
 have hy := y.isLt
 have t1 := toNat_ne hy0
 have t2 : ((y.toNat : Int) == 0) = false := test_ne t1
 have t3 := toInt_ne32 hy0
 have ex := wrap32_toInt x
 have ey := wrap32_toInt y
 have ex2 := wrap64_toInt32 x
 have ey2 := wrap64_toInt32 y
 clear hy0
 go_enter Tryz.func300, Tryz.ntmps300
 go_wp2
 all_goals go_ret2
 all_goals refine ⟨ret_n32 ?_ 0, rfl⟩
 all_goals (exact n_rems x y)
theorem remu32_op (x y : B32) (w : World) (hy0 : y ≠ 0) : Calls Tryz.prog 300 #[.int .i64 112, .int .u32 (x.toNat : Int), .int .u32 (y.toNat : Int)] w fun e w' => e = .returned (.tuple #[.int .u32 ((x % y).toNat : Int), .int .i64 0]) ∧ w' = w := by
 have hx := x.isLt
 have hy := y.isLt
 have t1 := toNat_ne hy0
 have t2 : ((y.toNat : Int) == 0) = false := test_ne t1
 clear hy0
 go_enter Tryz.func300, Tryz.ntmps300
 go_wp2
 all_goals go_ret2
 all_goals refine ⟨ret_n32 ?_ 0, rfl⟩
 all_goals (rw [BitVec.toNat_umod]; simp)
theorem and32_op (x y : B32) (w : World) : Calls Tryz.prog 300 #[.int .i64 113, .int .u32 (x.toNat : Int), .int .u32 (y.toNat : Int)] w fun e w' => e = .returned (.tuple #[.int .u32 ((x &&& y).toNat : Int), .int .i64 0]) ∧ w' = w := by
 have hx := x.isLt
 have hy := y.isLt
 go_enter Tryz.func300, Tryz.ntmps300
 go_wp2
 all_goals go_ret2
 all_goals refine ⟨ret_n32 ?_ 0, rfl⟩
 all_goals (rw [u32_and_nat _ _ hx hy, BitVec.toNat_and])
theorem or32_op (x y : B32) (w : World) : Calls Tryz.prog 300 #[.int .i64 114, .int .u32 (x.toNat : Int), .int .u32 (y.toNat : Int)] w fun e w' => e = .returned (.tuple #[.int .u32 ((x ||| y).toNat : Int), .int .i64 0]) ∧ w' = w := by
 have hx := x.isLt
 have hy := y.isLt
 go_enter Tryz.func300, Tryz.ntmps300
 go_wp2
 all_goals go_ret2
 all_goals refine ⟨ret_n32 ?_ 0, rfl⟩
 all_goals (rw [u32_or_nat _ _ hx hy, BitVec.toNat_or])
theorem xor32_op (x y : B32) (w : World) : Calls Tryz.prog 300 #[.int .i64 115, .int .u32 (x.toNat : Int), .int .u32 (y.toNat : Int)] w fun e w' => e = .returned (.tuple #[.int .u32 ((x ^^^ y).toNat : Int), .int .i64 0]) ∧ w' = w := by
 have hx := x.isLt
 have hy := y.isLt
 go_enter Tryz.func300, Tryz.ntmps300
 go_wp2
 all_goals go_ret2
 all_goals refine ⟨ret_n32 ?_ 0, rfl⟩
 all_goals (rw [u32_xor_nat _ _ hx hy, BitVec.toNat_xor])
theorem shl32_op (x y : B32) (w : World) : Calls Tryz.prog 300 #[.int .i64 116, .int .u32 (x.toNat : Int), .int .u32 (y.toNat : Int)] w fun e w' => e = .returned (.tuple #[.int .u32 ((x <<< (y.toNat % 32)).toNat : Int), .int .i64 0]) ∧ w' = w := by
 have hx := x.isLt
 have hy := y.isLt
 obtain ⟨n, hn⟩ : ∃ n, n = y.toNat % 32 := ⟨_, rfl⟩
 have em := mask32 y n hn
 have hn1 : n ≤ 31 := by omega
 rw [← hn]
 clear hn
 go_enter Tryz.func300, Tryz.ntmps300
 go_wp2
 all_goals go_ret2
 all_goals refine ⟨ret_n32 ?_ 0, rfl⟩
 all_goals (exact n_shl x n)
theorem sars32_op (x y : B32) (w : World) : Calls Tryz.prog 300 #[.int .i64 117, .int .u32 (x.toNat : Int), .int .u32 (y.toNat : Int)] w fun e w' => e = .returned (.tuple #[.int .u32 ((x.sshiftRight (y.toNat % 32)).toNat : Int), .int .i64 0]) ∧ w' = w := by
 have hx := x.isLt
 have hy := y.isLt
 obtain ⟨n, hn⟩ : ∃ n, n = y.toNat % 32 := ⟨_, rfl⟩
 have em := mask32 y n hn
 have hn1 : n ≤ 31 := by omega
 rw [← hn]
 clear hn
 have ex := wrap32_toInt x
 go_enter Tryz.func300, Tryz.ntmps300
 go_wp2
 all_goals go_ret2
 all_goals refine ⟨ret_n32 ?_ 0, rfl⟩
 all_goals (exact n_sars x n)
theorem shr32_op (x y : B32) (w : World) : Calls Tryz.prog 300 #[.int .i64 118, .int .u32 (x.toNat : Int), .int .u32 (y.toNat : Int)] w fun e w' => e = .returned (.tuple #[.int .u32 ((x >>> (y.toNat % 32)).toNat : Int), .int .i64 0]) ∧ w' = w := by
 have hx := x.isLt
 have hy := y.isLt
 obtain ⟨n, hn⟩ : ∃ n, n = y.toNat % 32 := ⟨_, rfl⟩
 have em := mask32 y n hn
 have hn1 : n ≤ 31 := by omega
 rw [← hn]
 clear hn
 go_enter Tryz.func300, Tryz.ntmps300
 go_wp2
 all_goals go_ret2
 all_goals refine ⟨ret_n32 ?_ 0, rfl⟩
 all_goals (exact n_shr x n)
theorem rotl32_op (x y : B32) (w : World) : Calls Tryz.prog 300 #[.int .i64 119, .int .u32 (x.toNat : Int), .int .u32 (y.toNat : Int)] w fun e w' => e = .returned (.tuple #[.int .u32 ((rotl x (y.toNat % 32)).toNat : Int), .int .i64 0]) ∧ w' = w := by
 have hx := x.isLt
 have hy := y.isLt
 obtain ⟨n, hn⟩ : ∃ n, n = y.toNat % 32 := ⟨_, rfl⟩
 have em := mask32 y n hn
 have hn1 : n ≤ 31 := by omega
 rw [← hn]
 clear hn
 go_enter Tryz.func300, Tryz.ntmps300
 go_wp2_with (go_at_call 320; refine (rot32_any x _ n _ (by omega)).mono ?_; rintro e w' ⟨rfl, rfl⟩)
 all_goals go_ret2
 all_goals refine ⟨ret_n32 ?_ 0, rfl⟩
 all_goals (rfl)
theorem rotr32_op (x y : B32) (w : World) : Calls Tryz.prog 300 #[.int .i64 120, .int .u32 (x.toNat : Int), .int .u32 (y.toNat : Int)] w fun e w' => e = .returned (.tuple #[.int .u32 ((rotl x ((32 - y.toNat % 32) % 32)).toNat : Int), .int .i64 0]) ∧ w' = w := by
 have hx := x.isLt
 have hy := y.isLt
 obtain ⟨n, hn⟩ : ∃ n, n = y.toNat % 32 := ⟨_, rfl⟩
 have em := mask32 y n hn
 have hn1 : n ≤ 31 := by omega
 rw [← hn]
 clear hn
 have en : IntKind.i64.wrap (-(n : Int)) = -(n : Int) := IntWalk.i64_in _ (by omega)
 go_enter Tryz.func300, Tryz.ntmps300
 go_wp2_with (go_at_call 320; refine (rot32_any x _ ((32 - n) % 32) _ (by omega)).mono ?_; rintro e w' ⟨rfl, rfl⟩)
 all_goals go_ret2
 all_goals refine ⟨ret_n32 ?_ 0, rfl⟩
 all_goals (rfl)
theorem add64_op (x y : B64) (w : World) : Calls Tryz.prog 301 #[.int .i64 124, .int .u64 (x.toNat : Int), .int .u64 (y.toNat : Int)] w fun e w' => e = .returned (.tuple #[.int .u64 ((x + y).toNat : Int), .int .i64 0]) ∧ w' = w := by
 have hx := x.isLt
 have hy := y.isLt
 go_enter Tryz.func301, Tryz.ntmps301
 go_wp2
 all_goals go_ret2
 all_goals refine ⟨ret_n64 ?_ 0, rfl⟩
 all_goals (rw [IntKind.wrap_u64]; rw [BitVec.toNat_add]; simp)
theorem sub64_op (x y : B64) (w : World) : Calls Tryz.prog 301 #[.int .i64 125, .int .u64 (x.toNat : Int), .int .u64 (y.toNat : Int)] w fun e w' => e = .returned (.tuple #[.int .u64 ((x - y).toNat : Int), .int .i64 0]) ∧ w' = w := by
 have hx := x.isLt
 have hy := y.isLt
 go_enter Tryz.func301, Tryz.ntmps301
 go_wp2
 all_goals go_ret2
 all_goals refine ⟨ret_n64 ?_ 0, rfl⟩
 all_goals (rw [IntKind.wrap_u64]; rw [BitVec.toNat_sub]; omega)
theorem mul64_op (x y : B64) (w : World) : Calls Tryz.prog 301 #[.int .i64 126, .int .u64 (x.toNat : Int), .int .u64 (y.toNat : Int)] w fun e w' => e = .returned (.tuple #[.int .u64 ((x * y).toNat : Int), .int .i64 0]) ∧ w' = w := by
 have hx := x.isLt
 have hy := y.isLt
 go_enter Tryz.func301, Tryz.ntmps301
 go_wp2
 all_goals go_ret2
 all_goals refine ⟨ret_n64 ?_ 0, rfl⟩
 all_goals (rw [IntKind.wrap_u64]; rw [BitVec.toNat_mul]; simp)
theorem divs64_op (x y : B64) (w : World) (hy0 : y ≠ 0) (hov : ¬ (x = BitVec.intMin 64 ∧ y = BitVec.allOnes 64)) : Calls Tryz.prog 301 #[.int .i64 127, .int .u64 (x.toNat : Int), .int .u64 (y.toNat : Int)] w fun e w' => e = .returned (.tuple #[.int .u64 ((x.sdiv y).toNat : Int), .int .i64 0]) ∧ w' = w := by
 have hx := x.isLt
 have hy := y.isLt
 have t1 := toNat_ne hy0
 have t2 : ((y.toNat : Int) == 0) = false := test_ne t1
 have t3 := toInt_ne64 hy0
 have ex := wrap64_toInt x
 have ey := wrap64_toInt y
 clear hy0
 have tx : ((x.toNat : Int) == 9223372036854775808) = true → ((y.toNat : Int) == 18446744073709551615) = false := fun e => test_ne (m := 18446744073709551615) fun e2 => hov ⟨BitVec.eq_of_toNat_eq (by rw [show (BitVec.intMin 64).toNat = 9223372036854775808 from rfl]; have := eq_of_beq e; omega), BitVec.eq_of_toNat_eq (by rw [show (BitVec.allOnes 64).toNat = 18446744073709551615 from rfl]; exact e2)⟩
 have txb : ((x.toNat : Int) == 9223372036854775808) = false ∨ ((x.toNat : Int) == 9223372036854775808) = true := by cases ((x.toNat : Int) == 9223372036854775808) <;> simp
 rcases txb with txb | txb
 ·skip
  clear tx
  go_enter Tryz.func301, Tryz.ntmps301
  go_wp2
  all_goals go_ret2
  all_goals refine ⟨ret_n64 ?_ 0, rfl⟩
  all_goals (rw [IntKind.wrap_u64]; have hd := n_divs x y; generalize x.toInt.tdiv y.toInt = q at *; generalize (x.sdiv y).toNat = r at *; clear hx hy; unfold wrap64; omega)
 ·have tyb := tx txb
  clear tx
  go_enter Tryz.func301, Tryz.ntmps301
  go_wp2
  all_goals go_ret2
  all_goals refine ⟨ret_n64 ?_ 0, rfl⟩
  all_goals (rw [IntKind.wrap_u64]; have hd := n_divs x y; generalize x.toInt.tdiv y.toInt = q at *; generalize (x.sdiv y).toNat = r at *; clear hx hy; unfold wrap64; omega)
theorem divu64_op (x y : B64) (w : World) (hy0 : y ≠ 0) : Calls Tryz.prog 301 #[.int .i64 128, .int .u64 (x.toNat : Int), .int .u64 (y.toNat : Int)] w fun e w' => e = .returned (.tuple #[.int .u64 ((x / y).toNat : Int), .int .i64 0]) ∧ w' = w := by
 have hx := x.isLt
 have hy := y.isLt
 have t1 := toNat_ne hy0
 have t2 : ((y.toNat : Int) == 0) = false := test_ne t1
 clear hy0
 go_enter Tryz.func301, Tryz.ntmps301
 go_wp2
 all_goals go_ret2
 all_goals refine ⟨ret_n64 ?_ 0, rfl⟩
 all_goals (rw [IntKind.wrap_u64]; rw [BitVec.toNat_udiv]; have h2 := Nat.div_le_self x.toNat y.toNat; rw [← Int.natCast_ediv]; generalize x.toNat / y.toNat = q at *; omega)
theorem rems64_op (x y : B64) (w : World) (hy0 : y ≠ 0) : Calls Tryz.prog 301 #[.int .i64 129, .int .u64 (x.toNat : Int), .int .u64 (y.toNat : Int)] w fun e w' => e = .returned (.tuple #[.int .u64 ((x.srem y).toNat : Int), .int .i64 0]) ∧ w' = w := by
 have hx := x.isLt
 have hy := y.isLt
 have t1 := toNat_ne hy0
 have t2 : ((y.toNat : Int) == 0) = false := test_ne t1
 have t3 := toInt_ne64 hy0
 have ex := wrap64_toInt x
 have ey := wrap64_toInt y
 clear hy0
 by_cases hm : y = BitVec.allOnes 64
 ·have tm : ((y.toNat : Int) == 18446744073709551615) = true := by rw [hm]; rfl
  have e0 : x.srem y = 0 := by rw [hm]; exact srem_ones x
  have E0 := Lib.hid e0
  clear hm e0
  go_enter Tryz.func301, Tryz.ntmps301
  go_wp2
  all_goals go_ret2
  all_goals refine ⟨ret_n64 ?_ 0, rfl⟩
  all_goals (rw [E0.out]; rfl)
 ·have tm : ((y.toNat : Int) == 18446744073709551615) = false := test_ne (m := 18446744073709551615) fun e2 => hm (BitVec.eq_of_toNat_eq (by rw [show (BitVec.allOnes 64).toNat = 18446744073709551615 from rfl]; exact e2))
  clear hm
  go_enter Tryz.func301, Tryz.ntmps301
  go_wp2
  all_goals go_ret2
  all_goals refine ⟨ret_n64 ?_ 0, rfl⟩
  all_goals (rw [IntKind.wrap_u64]; exact n_rems x y)
theorem remu64_op (x y : B64) (w : World) (hy0 : y ≠ 0) : Calls Tryz.prog 301 #[.int .i64 130, .int .u64 (x.toNat : Int), .int .u64 (y.toNat : Int)] w fun e w' => e = .returned (.tuple #[.int .u64 ((x % y).toNat : Int), .int .i64 0]) ∧ w' = w := by
 have hx := x.isLt
 have hy := y.isLt
 have t1 := toNat_ne hy0
 have t2 : ((y.toNat : Int) == 0) = false := test_ne t1
 clear hy0
 go_enter Tryz.func301, Tryz.ntmps301
 go_wp2
 all_goals go_ret2
 all_goals refine ⟨ret_n64 ?_ 0, rfl⟩
 all_goals (rw [BitVec.toNat_umod]; simp)
theorem and64_op (x y : B64) (w : World) : Calls Tryz.prog 301 #[.int .i64 131, .int .u64 (x.toNat : Int), .int .u64 (y.toNat : Int)] w fun e w' => e = .returned (.tuple #[.int .u64 ((x &&& y).toNat : Int), .int .i64 0]) ∧ w' = w := by
 have hx := x.isLt
 have hy := y.isLt
 go_enter Tryz.func301, Tryz.ntmps301
 go_wp2
 all_goals go_ret2
 all_goals refine ⟨ret_n64 ?_ 0, rfl⟩
 all_goals (rw [u64_and_nat _ _ hx hy, BitVec.toNat_and])
theorem or64_op (x y : B64) (w : World) : Calls Tryz.prog 301 #[.int .i64 132, .int .u64 (x.toNat : Int), .int .u64 (y.toNat : Int)] w fun e w' => e = .returned (.tuple #[.int .u64 ((x ||| y).toNat : Int), .int .i64 0]) ∧ w' = w := by
 have hx := x.isLt
 have hy := y.isLt
 go_enter Tryz.func301, Tryz.ntmps301
 go_wp2
 all_goals go_ret2
 all_goals refine ⟨ret_n64 ?_ 0, rfl⟩
 all_goals (rw [u64_or_nat _ _ hx hy, BitVec.toNat_or])
theorem xor64_op (x y : B64) (w : World) : Calls Tryz.prog 301 #[.int .i64 133, .int .u64 (x.toNat : Int), .int .u64 (y.toNat : Int)] w fun e w' => e = .returned (.tuple #[.int .u64 ((x ^^^ y).toNat : Int), .int .i64 0]) ∧ w' = w := by
 have hx := x.isLt
 have hy := y.isLt
 go_enter Tryz.func301, Tryz.ntmps301
 go_wp2
 all_goals go_ret2
 all_goals refine ⟨ret_n64 ?_ 0, rfl⟩
 all_goals (rw [u64_xor_nat _ _ hx hy, BitVec.toNat_xor])
theorem shl64_op (x y : B64) (w : World) : Calls Tryz.prog 301 #[.int .i64 134, .int .u64 (x.toNat : Int), .int .u64 (y.toNat : Int)] w fun e w' => e = .returned (.tuple #[.int .u64 ((x <<< (y.toNat % 64)).toNat : Int), .int .i64 0]) ∧ w' = w := by
 have hx := x.isLt
 have hy := y.isLt
 obtain ⟨n, hn⟩ : ∃ n, n = y.toNat % 64 := ⟨_, rfl⟩
 have em := mask64 y n hn
 have hn1 : n ≤ 63 := by omega
 rw [← hn]
 clear hn
 go_enter Tryz.func301, Tryz.ntmps301
 go_wp2
 all_goals go_ret2
 all_goals refine ⟨ret_n64 ?_ 0, rfl⟩
 all_goals (rw [IntKind.wrap_u64]; exact n_shl x n)
theorem sars64_op (x y : B64) (w : World) : Calls Tryz.prog 301 #[.int .i64 135, .int .u64 (x.toNat : Int), .int .u64 (y.toNat : Int)] w fun e w' => e = .returned (.tuple #[.int .u64 ((x.sshiftRight (y.toNat % 64)).toNat : Int), .int .i64 0]) ∧ w' = w := by
 have hx := x.isLt
 have hy := y.isLt
 obtain ⟨n, hn⟩ : ∃ n, n = y.toNat % 64 := ⟨_, rfl⟩
 have em := mask64 y n hn
 have hn1 : n ≤ 63 := by omega
 rw [← hn]
 clear hn
 have ex := wrap64_toInt x
 go_enter Tryz.func301, Tryz.ntmps301
 go_wp2
 all_goals go_ret2
 all_goals refine ⟨ret_n64 ?_ 0, rfl⟩
 all_goals (rw [IntKind.wrap_u64]; exact n_sars x n)
theorem shr64_op (x y : B64) (w : World) : Calls Tryz.prog 301 #[.int .i64 136, .int .u64 (x.toNat : Int), .int .u64 (y.toNat : Int)] w fun e w' => e = .returned (.tuple #[.int .u64 ((x >>> (y.toNat % 64)).toNat : Int), .int .i64 0]) ∧ w' = w := by
 have hx := x.isLt
 have hy := y.isLt
 obtain ⟨n, hn⟩ : ∃ n, n = y.toNat % 64 := ⟨_, rfl⟩
 have em := mask64 y n hn
 have hn1 : n ≤ 63 := by omega
 rw [← hn]
 clear hn
 go_enter Tryz.func301, Tryz.ntmps301
 go_wp2
 all_goals go_ret2
 all_goals refine ⟨ret_n64 ?_ 0, rfl⟩
 all_goals (exact n_shr x n)
theorem rotl64_op (x y : B64) (w : World) : Calls Tryz.prog 301 #[.int .i64 137, .int .u64 (x.toNat : Int), .int .u64 (y.toNat : Int)] w fun e w' => e = .returned (.tuple #[.int .u64 ((rotl x (y.toNat % 64)).toNat : Int), .int .i64 0]) ∧ w' = w := by
 have hx := x.isLt
 have hy := y.isLt
 obtain ⟨n, hn⟩ : ∃ n, n = y.toNat % 64 := ⟨_, rfl⟩
 have em := mask64 y n hn
 have hn1 : n ≤ 63 := by omega
 rw [← hn]
 clear hn
 go_enter Tryz.func301, Tryz.ntmps301
 go_wp2_with (go_at_call 321; refine (rot64_any x _ n _ (by omega)).mono ?_; rintro e w' ⟨rfl, rfl⟩)
 all_goals go_ret2
 all_goals refine ⟨ret_n64 ?_ 0, rfl⟩
 all_goals (rfl)
theorem rotr64_op (x y : B64) (w : World) : Calls Tryz.prog 301 #[.int .i64 138, .int .u64 (x.toNat : Int), .int .u64 (y.toNat : Int)] w fun e w' => e = .returned (.tuple #[.int .u64 ((rotl x ((64 - y.toNat % 64) % 64)).toNat : Int), .int .i64 0]) ∧ w' = w := by
 have hx := x.isLt
 have hy := y.isLt
 obtain ⟨n, hn⟩ : ∃ n, n = y.toNat % 64 := ⟨_, rfl⟩
 have em := mask64 y n hn
 have hn1 : n ≤ 63 := by omega
 rw [← hn]
 clear hn
 have en : IntKind.i64.wrap (-(n : Int)) = -(n : Int) := IntWalk.i64_in _ (by omega)
 go_enter Tryz.func301, Tryz.ntmps301
 go_wp2_with (go_at_call 321; refine (rot64_any x _ ((64 - n) % 64) _ (by omega)).mono ?_; rintro e w' ⟨rfl, rfl⟩)
 all_goals go_ret2
 all_goals refine ⟨ret_n64 ?_ 0, rfl⟩
 all_goals (rfl)
end Go.Proofs.YtebpijlmeemfaaaGreatDoor
end
section
namespace Go.Proofs.YtebpijlmeemfaaaGreatDoor
open Go.RowKit Nm
theorem zero32_3 (x : B32) (w : World) : Calls Tryz.prog 300 #[.int .i64 109, .int .u32 (x.toNat : Int), .int .u32 ((0 : B32).toNat : Int)] w fun e w' => e = .returned (.tuple #[.int .u32 ((0 : B32).toNat : Int), .int .i64 21]) ∧ w' = w := by
 show Calls Tryz.prog 300 #[.int .i64 109, .int .u32 (x.toNat : Int), .int .u32 0] w _
 go_enter Tryz.func300, Tryz.ntmps300
 go_wp2
 all_goals go_ret2
 all_goals exact ⟨rfl, rfl⟩
theorem zero32_4 (x : B32) (w : World) : Calls Tryz.prog 300 #[.int .i64 110, .int .u32 (x.toNat : Int), .int .u32 ((0 : B32).toNat : Int)] w fun e w' => e = .returned (.tuple #[.int .u32 ((0 : B32).toNat : Int), .int .i64 21]) ∧ w' = w := by
 show Calls Tryz.prog 300 #[.int .i64 110, .int .u32 (x.toNat : Int), .int .u32 0] w _
 go_enter Tryz.func300, Tryz.ntmps300
 go_wp2
 all_goals go_ret2
 all_goals exact ⟨rfl, rfl⟩
theorem zero32_5 (x : B32) (w : World) : Calls Tryz.prog 300 #[.int .i64 111, .int .u32 (x.toNat : Int), .int .u32 ((0 : B32).toNat : Int)] w fun e w' => e = .returned (.tuple #[.int .u32 ((0 : B32).toNat : Int), .int .i64 21]) ∧ w' = w := by
 show Calls Tryz.prog 300 #[.int .i64 111, .int .u32 (x.toNat : Int), .int .u32 0] w _
 go_enter Tryz.func300, Tryz.ntmps300
 go_wp2
 all_goals go_ret2
 all_goals exact ⟨rfl, rfl⟩
theorem zero32_6 (x : B32) (w : World) : Calls Tryz.prog 300 #[.int .i64 112, .int .u32 (x.toNat : Int), .int .u32 ((0 : B32).toNat : Int)] w fun e w' => e = .returned (.tuple #[.int .u32 ((0 : B32).toNat : Int), .int .i64 21]) ∧ w' = w := by
 show Calls Tryz.prog 300 #[.int .i64 112, .int .u32 (x.toNat : Int), .int .u32 0] w _
 go_enter Tryz.func300, Tryz.ntmps300
 go_wp2
 all_goals go_ret2
 all_goals exact ⟨rfl, rfl⟩
theorem over32 (w : World) : Calls Tryz.prog 300 #[.int .i64 109, .int .u32 ((BitVec.intMin 32).toNat : Int), .int .u32 ((BitVec.allOnes 32).toNat : Int)] w fun e w' => e = .returned (.tuple #[.int .u32 ((0 : B32).toNat : Int), .int .i64 22]) ∧ w' = w := by
 show Calls Tryz.prog 300 #[.int .i64 109, .int .u32 2147483648, .int .u32 4294967295] w _
 go_enter Tryz.func300, Tryz.ntmps300
 go_wp2
 all_goals go_ret2
 all_goals exact ⟨rfl, rfl⟩
theorem small_any (op : Int) (x y : B32) (w : World) (ho : 106 ≤ op ∧ op ≤ 120) :
  Calls Tryz.prog 300 #[.int .i64 op, .int .u32 (x.toNat : Int), .int .u32 (y.toNat : Int)] w fun e w' => e = .returned (.tuple #[.int .u32 ((opB (op - 106) x y).1.toNat : Int), .int .i64 (opB (op - 106) x y).2]) ∧ w' = w := by
 rcases (show op = 106 ∨ op = 107 ∨ op = 108 ∨ op = 109 ∨ op = 110 ∨ op = 111 ∨ op = 112 ∨ op = 113 ∨ op = 114 ∨ op = 115 ∨ op = 116 ∨ op = 117 ∨ op = 118 ∨ op = 119 ∨ op = 120 by omega) with rfl | rfl | rfl | rfl | rfl | rfl | rfl | rfl | rfl | rfl | rfl | rfl | rfl | rfl | rfl
 ·exact add32_op x y w
 ·exact sub32_op x y w
 ·exact mul32_op x y w
 ·by_cases h : y = 0
  ·subst h; exact zero32_3 x w
  ·by_cases hov : x = BitVec.intMin 32 ∧ y = BitVec.allOnes 32
   ·obtain ⟨rfl, rfl⟩ := hov; exact over32 w
   ·have e : opB 3 x y = (x.sdiv y, 0) := by unfold opB; rw [if_neg (fun hh => h hh.2.2)]; show (if x = BitVec.intMin 32 ∧ y = BitVec.allOnes 32 then _ else _) = _; rw [if_neg hov]
    rw [show (109 : Int) - 106 = 3 from rfl, e]
    exact divs32_op x y w h hov
 ·by_cases h : y = 0
  ·subst h; exact zero32_4 x w
  ·have e : opB 4 x y = (x / y, 0) := by unfold opB; rw [if_neg (fun hh => h hh.2.2)]; rfl
   rw [show (110 : Int) - 106 = 4 from rfl, e]
   exact divu32_op x y w h
 ·by_cases h : y = 0
  ·subst h; exact zero32_5 x w
  ·have e : opB 5 x y = (x.srem y, 0) := by unfold opB; rw [if_neg (fun hh => h hh.2.2)]; rfl
   rw [show (111 : Int) - 106 = 5 from rfl, e]
   exact rems32_op x y w h
 ·by_cases h : y = 0
  ·subst h; exact zero32_6 x w
  ·have e : opB 6 x y = (x % y, 0) := by unfold opB; rw [if_neg (fun hh => h hh.2.2)]; rfl
   rw [show (112 : Int) - 106 = 6 from rfl, e]
   exact remu32_op x y w h
 ·exact and32_op x y w
 ·exact or32_op x y w
 ·exact xor32_op x y w
 ·exact shl32_op x y w
 ·exact sars32_op x y w
 ·exact shr32_op x y w
 ·exact rotl32_op x y w
 ·exact rotr32_op x y w
theorem zero64_3 (x : B64) (w : World) : Calls Tryz.prog 301 #[.int .i64 127, .int .u64 (x.toNat : Int), .int .u64 ((0 : B64).toNat : Int)] w fun e w' => e = .returned (.tuple #[.int .u64 ((0 : B64).toNat : Int), .int .i64 21]) ∧ w' = w := by
 show Calls Tryz.prog 301 #[.int .i64 127, .int .u64 (x.toNat : Int), .int .u64 0] w _
 go_enter Tryz.func301, Tryz.ntmps301
 go_wp2
 all_goals go_ret2
 all_goals exact ⟨rfl, rfl⟩
theorem zero64_4 (x : B64) (w : World) : Calls Tryz.prog 301 #[.int .i64 128, .int .u64 (x.toNat : Int), .int .u64 ((0 : B64).toNat : Int)] w fun e w' => e = .returned (.tuple #[.int .u64 ((0 : B64).toNat : Int), .int .i64 21]) ∧ w' = w := by
 show Calls Tryz.prog 301 #[.int .i64 128, .int .u64 (x.toNat : Int), .int .u64 0] w _
 go_enter Tryz.func301, Tryz.ntmps301
 go_wp2
 all_goals go_ret2
 all_goals exact ⟨rfl, rfl⟩
theorem zero64_5 (x : B64) (w : World) : Calls Tryz.prog 301 #[.int .i64 129, .int .u64 (x.toNat : Int), .int .u64 ((0 : B64).toNat : Int)] w fun e w' => e = .returned (.tuple #[.int .u64 ((0 : B64).toNat : Int), .int .i64 21]) ∧ w' = w := by
 show Calls Tryz.prog 301 #[.int .i64 129, .int .u64 (x.toNat : Int), .int .u64 0] w _
 go_enter Tryz.func301, Tryz.ntmps301
 go_wp2
 all_goals go_ret2
 all_goals exact ⟨rfl, rfl⟩
theorem zero64_6 (x : B64) (w : World) : Calls Tryz.prog 301 #[.int .i64 130, .int .u64 (x.toNat : Int), .int .u64 ((0 : B64).toNat : Int)] w fun e w' => e = .returned (.tuple #[.int .u64 ((0 : B64).toNat : Int), .int .i64 21]) ∧ w' = w := by
 show Calls Tryz.prog 301 #[.int .i64 130, .int .u64 (x.toNat : Int), .int .u64 0] w _
 go_enter Tryz.func301, Tryz.ntmps301
 go_wp2
 all_goals go_ret2
 all_goals exact ⟨rfl, rfl⟩
theorem over64 (w : World) : Calls Tryz.prog 301 #[.int .i64 127, .int .u64 ((BitVec.intMin 64).toNat : Int), .int .u64 ((BitVec.allOnes 64).toNat : Int)] w fun e w' => e = .returned (.tuple #[.int .u64 ((0 : B64).toNat : Int), .int .i64 22]) ∧ w' = w := by
 show Calls Tryz.prog 301 #[.int .i64 127, .int .u64 9223372036854775808, .int .u64 18446744073709551615] w _
 go_enter Tryz.func301, Tryz.ntmps301
 go_wp2
 all_goals go_ret2
 all_goals exact ⟨rfl, rfl⟩
theorem great_any (op : Int) (x y : B64) (w : World) (ho : 124 ≤ op ∧ op ≤ 138) :
  Calls Tryz.prog 301 #[.int .i64 op, .int .u64 (x.toNat : Int), .int .u64 (y.toNat : Int)] w fun e w' => e = .returned (.tuple #[.int .u64 ((opB (op - 124) x y).1.toNat : Int), .int .i64 (opB (op - 124) x y).2]) ∧ w' = w := by
 rcases (show op = 124 ∨ op = 125 ∨ op = 126 ∨ op = 127 ∨ op = 128 ∨ op = 129 ∨ op = 130 ∨ op = 131 ∨ op = 132 ∨ op = 133 ∨ op = 134 ∨ op = 135 ∨ op = 136 ∨ op = 137 ∨ op = 138 by omega) with rfl | rfl | rfl | rfl | rfl | rfl | rfl | rfl | rfl | rfl | rfl | rfl | rfl | rfl | rfl
 ·exact add64_op x y w
 ·exact sub64_op x y w
 ·exact mul64_op x y w
 ·by_cases h : y = 0
  ·subst h; exact zero64_3 x w
  ·by_cases hov : x = BitVec.intMin 64 ∧ y = BitVec.allOnes 64
   ·obtain ⟨rfl, rfl⟩ := hov; exact over64 w
   ·have e : opB 3 x y = (x.sdiv y, 0) := by unfold opB; rw [if_neg (fun hh => h hh.2.2)]; show (if x = BitVec.intMin 64 ∧ y = BitVec.allOnes 64 then _ else _) = _; rw [if_neg hov]
    rw [show (127 : Int) - 124 = 3 from rfl, e]
    exact divs64_op x y w h hov
 ·by_cases h : y = 0
  ·subst h; exact zero64_4 x w
  ·have e : opB 4 x y = (x / y, 0) := by unfold opB; rw [if_neg (fun hh => h hh.2.2)]; rfl
   rw [show (128 : Int) - 124 = 4 from rfl, e]
   exact divu64_op x y w h
 ·by_cases h : y = 0
  ·subst h; exact zero64_5 x w
  ·have e : opB 5 x y = (x.srem y, 0) := by unfold opB; rw [if_neg (fun hh => h hh.2.2)]; rfl
   rw [show (129 : Int) - 124 = 5 from rfl, e]
   exact rems64_op x y w h
 ·by_cases h : y = 0
  ·subst h; exact zero64_6 x w
  ·have e : opB 6 x y = (x % y, 0) := by unfold opB; rw [if_neg (fun hh => h hh.2.2)]; rfl
   rw [show (130 : Int) - 124 = 6 from rfl, e]
   exact remu64_op x y w h
 ·exact and64_op x y w
 ·exact or64_op x y w
 ·exact xor64_op x y w
 ·exact shl64_op x y w
 ·exact sars64_op x y w
 ·exact shr64_op x y w
 ·exact rotl64_op x y w
 ·exact rotr64_op x y w
def arN (op : Int) : Int :=
 if op = 69 ∨ op = 80 ∨ 103 ≤ op ∧ op ≤ 105 ∨ 121 ≤ op ∧ op ≤ 123 ∨ op = 167 ∨ op = 172 ∨ op = 173 ∨ 192 ≤ op ∧ op ≤ 196 then 1
 else if 70 ≤ op ∧ op ≤ 79 ∨ 81 ≤ op ∧ op ≤ 90 ∨ 106 ≤ op ∧ op ≤ 120 ∨ 124 ≤ op ∧ op ≤ 138 then 2 else 0
theorem ret_ni64 {a b : Int} (h : a = b) : Ending.returned (.int .i64 a) = .returned (.int .i64 b) := by rw [h]
theorem ar_1 {op : Int} (h : op = 69 ∨ op = 80 ∨ 103 ≤ op ∧ op ≤ 105 ∨ 121 ≤ op ∧ op ≤ 123 ∨ op = 167 ∨ op = 172 ∨ op = 173 ∨ 192 ≤ op ∧ op ≤ 196) : 1 = arN op := by unfold arN; rw [if_pos h]
theorem ar_2 {op : Int} (h : 70 ≤ op ∧ op ≤ 79 ∨ 81 ≤ op ∧ op ≤ 90 ∨ 106 ≤ op ∧ op ≤ 120 ∨ 124 ≤ op ∧ op ≤ 138) : 2 = arN op := by unfold arN; rw [if_neg (by omega), if_pos h]
theorem ar_0 {op : Int} (h : ¬ (op = 69 ∨ op = 80 ∨ 103 ≤ op ∧ op ≤ 105 ∨ 121 ≤ op ∧ op ≤ 123 ∨ op = 167 ∨ op = 172 ∨ op = 173 ∨ 192 ≤ op ∧ op ≤ 196)) (h2 : ¬ (70 ≤ op ∧ op ≤ 79 ∨ 81 ≤ op ∧ op ≤ 90 ∨ 106 ≤ op ∧ op ≤ 120 ∨ 124 ≤ op ∧ op ≤ 138)) : 0 = arN op := by unfold arN; rw [if_neg h, if_neg h2]
theorem arity_any (op : Int) (w : World) : Calls Tryz.prog 263 #[.int .i64 op] w fun e w' => e = .returned (.int .i64 (arN op)) ∧ w' = w := by
 go_enter Tryz.func263, Tryz.ntmps263
 go_wp2
 all_goals go_ret
 all_goals refine ⟨ret_ni64 ?_, rfl⟩
 all_goals (simp only [beq_iff_eq, beq_eq_false_iff_ne, ne_eq, decide_eq_true_eq, decide_eq_false_iff_not] at *)
 all_goals first
  | exact ar_1 (by omega)
  | exact ar_2 (by omega)
  | exact ar_0 (by omega) (by omega)
theorem arity_1 {op : Int} (w : World) (h : op = 69 ∨ op = 80 ∨ 103 ≤ op ∧ op ≤ 105 ∨ 121 ≤ op ∧ op ≤ 123 ∨ op = 167 ∨ op = 172 ∨ op = 173 ∨ 192 ≤ op ∧ op ≤ 196) : Calls Tryz.prog 263 #[.int .i64 op] w fun e w' => e = .returned (.int .i64 1) ∧ w' = w :=
 (arity_any op w).mono fun e w' ⟨h1, h2⟩ => ⟨by rw [h1, ← ar_1 h], h2⟩
theorem arity_2 {op : Int} (w : World) (h : 70 ≤ op ∧ op ≤ 79 ∨ 81 ≤ op ∧ op ≤ 90 ∨ 106 ≤ op ∧ op ≤ 120 ∨ 124 ≤ op ∧ op ≤ 138) : Calls Tryz.prog 263 #[.int .i64 op] w fun e w' => e = .returned (.int .i64 2) ∧ w' = w :=
 (arity_any op w).mono fun e w' ⟨h1, h2⟩ => ⟨by rw [h1, ← ar_2 h], h2⟩
theorem arity_no2 {op : Int} (w : World) (h : ¬ (70 ≤ op ∧ op ≤ 79 ∨ 81 ≤ op ∧ op ≤ 90 ∨ 106 ≤ op ∧ op ≤ 120 ∨ 124 ≤ op ∧ op ≤ 138)) : Calls Tryz.prog 263 #[.int .i64 op] w fun e w' => ∃ k : Int, (k != 2) = true ∧ e = .returned (.int .i64 k) ∧ w' = w :=
 (arity_any op w).mono fun e w' ⟨h1, h2⟩ => ⟨arN op, by unfold arN; rw [if_neg h]; split <;> rfl, h1, h2⟩
theorem sx_arg (x : B64) : wrap32 (x.toNat : Int) = (sx x).toInt := by
 rw [sx_toInt, toInt_cases, lo_toNat]; have := x.isLt; unfold wrap32; split <;> omega
theorem lo_arg (x : B64) : (x.toNat : Int) % 4294967296 = ((lo x).toNat : Int) := by rw [lo_toNat]; simp
theorem wrap64_toInt64 (x : B64) : wrap64 x.toInt = x.toInt := by
 have := x.isLt
 rw [toInt_cases64]; unfold wrap64; split <;> omega
theorem i64_toInt (x : B64) : IntKind.i64.wrap x.toInt = x.toInt := by
 have := x.isLt
 exact IntWalk.i64_in _ (by rw [toInt_cases64]; split <;> omega)
theorem up_toNat (x : B32) : (x.toNat : Int) = ((up x).toNat : Int) := by
 have := x.isLt
 unfold up
 rw [BitVec.toNat_setWidth]; omega
theorem nbin_any (op : Int) (x y : B64) (w : World) (hb : -9223372036854775808 ≤ op ∧ op ≤ 9223372036854775807) :
  Calls Tryz.prog 265 #[.int .i64 op, .int .u64 (x.toNat : Int), .int .u64 (y.toNat : Int)] w fun e w' => e = .returned (.tuple #[.int .u64 ((binB op x y).1.toNat : Int), .int .i64 (binB op x y).2]) ∧ w' = w := by
 have ex := lo_arg x
 have ey := lo_arg y
 have sx1 := sx_arg x
 have sy1 := sx_arg y
 have sx2 := i64_toInt (sx x)
 have sy2 := i64_toInt (sx y)
 have sx3 := wrap64_toInt64 (sx x)
 have sy3 := wrap64_toInt64 (sx y)
 unfold binB
 split
 ·rename_i h
  have H := Lib.hid (show 70 ≤ op ∧ op ≤ 79 ∨ 81 ≤ op ∧ op ≤ 90 ∨ 106 ≤ op ∧ op ≤ 120 ∨ 124 ≤ op ∧ op ≤ 138 by omega)
  obtain ⟨h1, h2⟩ := h
  have e1 : IntKind.i64.wrap (op - 70) = op - 70 := IntWalk.i64_in _ (by omega)
  go_enter Tryz.func265, Tryz.ntmps265
  go_wp2_with (first | (go_at_call 263; refine (arity_2 _ H.out).mono ?_; rintro e w' ⟨rfl, rfl⟩) | (go_at_call 299; (with_reducible refine (compare_any _ _ _ _).mono ?_); rintro e w' ⟨rfl, rfl⟩))
  all_goals go_ret2
  all_goals exact ⟨rfl, rfl⟩
 split
 ·rename_i h
  have H := Lib.hid (show 70 ≤ op ∧ op ≤ 79 ∨ 81 ≤ op ∧ op ≤ 90 ∨ 106 ≤ op ∧ op ≤ 120 ∨ 124 ≤ op ∧ op ≤ 138 by omega)
  obtain ⟨h1, h2⟩ := h
  have e1 : IntKind.i64.wrap (op - 81) = op - 81 := IntWalk.i64_in _ (by omega)
  have x64 := wrap64_toInt x
  have y64 := wrap64_toInt y
  go_enter Tryz.func265, Tryz.ntmps265
  go_wp2_with (first | (go_at_call 263; refine (arity_2 _ H.out).mono ?_; rintro e w' ⟨rfl, rfl⟩) | (go_at_call 299; (with_reducible refine (compare_any _ _ _ _).mono ?_); rintro e w' ⟨rfl, rfl⟩))
  all_goals go_ret2
  all_goals exact ⟨rfl, rfl⟩
 split
 ·rename_i h
  have H := Lib.hid (show 70 ≤ op ∧ op ≤ 79 ∨ 81 ≤ op ∧ op ≤ 90 ∨ 106 ≤ op ∧ op ≤ 120 ∨ 124 ≤ op ∧ op ≤ 138 by omega)
  obtain ⟨h1, h2⟩ := h
  have HO := Lib.hid (show 106 ≤ op ∧ op ≤ 120 from ⟨h1, h2⟩)
  have HU := Lib.hid (up_toNat (opB (op - 106) (lo x) (lo y)).1)
  go_enter Tryz.func265, Tryz.ntmps265
  go_wp2_with (first | (go_at_call 263; refine (arity_2 _ H.out).mono ?_; rintro e w' ⟨rfl, rfl⟩) | (go_at_call 300; (with_reducible refine (small_any op _ _ _ HO.out).mono ?_); rintro e w' ⟨rfl, rfl⟩))
  all_goals go_ret2
  all_goals exact ⟨ret_n64 HU.out _, rfl⟩
 split
 ·rename_i h
  have H := Lib.hid (show 70 ≤ op ∧ op ≤ 79 ∨ 81 ≤ op ∧ op ≤ 90 ∨ 106 ≤ op ∧ op ≤ 120 ∨ 124 ≤ op ∧ op ≤ 138 by omega)
  obtain ⟨h1, h2⟩ := h
  have HO := Lib.hid (show 124 ≤ op ∧ op ≤ 138 from ⟨h1, h2⟩)
  go_enter Tryz.func265, Tryz.ntmps265
  go_wp2_with (first | (go_at_call 263; refine (arity_2 _ H.out).mono ?_; rintro e w' ⟨rfl, rfl⟩) | (go_at_call 301; (with_reducible refine (great_any op _ _ _ HO.out).mono ?_); rintro e w' ⟨rfl, rfl⟩))
  all_goals go_ret2
  all_goals exact ⟨rfl, rfl⟩
 ·rename_i h1 h2 h3 h4
  have H := Lib.hid (show ¬ (70 ≤ op ∧ op ≤ 79 ∨ 81 ≤ op ∧ op ≤ 90 ∨ 106 ≤ op ∧ op ≤ 120 ∨ 124 ≤ op ∧ op ≤ 138) by omega)
  clear h1 h2 h3 h4
  go_enter Tryz.func265, Tryz.ntmps265
  go_wp2_with (go_at_call 263; refine (arity_no2 _ H.out).mono ?_; rintro e w' ⟨k, hk, rfl, rfl⟩)
  all_goals go_ret2
  all_goals exact ⟨rfl, rfl⟩
end Go.Proofs.YtebpijlmeemfaaaGreatDoor
end
section
namespace Go.Proofs.YtebpijlmeemfaaaGreatDoor
open Go.RowKit Nm
theorem w_extu (x : B64) (w : World) : Calls Tryz.prog 298 #[.int .i64 173, .int .u64 (x.toNat : Int)] w fun e w' => e = .returned (.int .u64 ((up (lo x)).toNat : Int)) ∧ w' = w := by
 have hx := x.isLt
 have ex := lo_arg x
 go_enter Tryz.func298, Tryz.ntmps298
 go_wp2
 all_goals go_ret
 all_goals refine ⟨ret_nu64 ?_, rfl⟩
 all_goals (exact up_toNat _)
theorem extu_op (x : B64) (w : World) : Calls Tryz.prog 264 #[.int .i64 173, .int .u64 (x.toNat : Int)] w fun e w' => e = .returned (.tuple #[.int .u64 ((up (lo x)).toNat : Int), .int .i64 0]) ∧ w' = w := by
 have hx := x.isLt
 have H := Lib.hid (show ((173 : Int)) = 69 ∨ (173 : Int) = 80 ∨ 103 ≤ (173 : Int) ∧ (173 : Int) ≤ 105 ∨ 121 ≤ (173 : Int) ∧ (173 : Int) ≤ 123 ∨ (173 : Int) = 167 ∨ (173 : Int) = 172 ∨ (173 : Int) = 173 ∨ 192 ≤ (173 : Int) ∧ (173 : Int) ≤ 196 by omega)
 go_enter Tryz.func264, Tryz.ntmps264
 go_wp2_with (first | (go_at_call 263; refine (arity_1 _ H.out).mono ?_; rintro e w' ⟨rfl, rfl⟩) | (go_at_call 298; refine (w_extu x _).mono ?_; rintro e w' ⟨rfl, rfl⟩))
 all_goals go_ret2
 all_goals refine ⟨ret_n64 ?_ 0, rfl⟩
 all_goals (rfl)
end Go.Proofs.YtebpijlmeemfaaaGreatDoor
end
