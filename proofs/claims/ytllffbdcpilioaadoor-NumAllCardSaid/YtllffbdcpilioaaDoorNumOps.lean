/-
  num.small and num.great: each operator's contract.
-/
import Derived.Test.YtllffbdcpilioaaDoorNum
set_option linter.unusedSimpArgs false
set_option linter.unusedVariables false
namespace Go.Proofs.YtllffbdcpilioaaDoor
open Go.RowKit Nm
set_option linter.unusedSimpArgs false
set_option linter.unusedVariables false

theorem ret_n32 {a b : Int} (h : a = b) (e : Int) : Ending.returned (.tuple #[.int .u32 a, .int .i64 e]) = .returned (.tuple #[.int .u32 b, .int .i64 e]) := by rw [h]
theorem ret_n64 {a b : Int} (h : a = b) (e : Int) : Ending.returned (.tuple #[.int .u64 a, .int .i64 e]) = .returned (.tuple #[.int .u64 b, .int .i64 e]) := by rw [h]

theorem srem_ones (x : B64) : x.srem (BitVec.allOnes 64) = 0 := by
  apply BitVec.eq_of_toInt_eq
  rw [BitVec.toInt_srem, show (BitVec.allOnes 64).toInt = -1 from rfl]
  simp [Int.tmod_neg]
theorem mask32 (y : B32) (n : Nat) (hn : n = y.toNat % 32) : bits .and .u32 (y.toNat : Int) 31 = (n : Int) := by
  have hy := y.isLt
  have := u32_and_nat y.toNat 31 hy (by decide)
  rw [show ((31 : Nat) : Int) = 31 from rfl] at this
  rw [this, show (31 : Nat) = 2 ^ 5 - 1 from rfl, Nat.and_two_pow_sub_one_eq_mod, hn]
theorem mask64 (y : B64) (n : Nat) (hn : n = y.toNat % 64) : bits .and .u64 (y.toNat : Int) 63 = (n : Int) := by
  have hy := y.isLt
  have := u64_and_nat y.toNat 63 hy (by decide)
  rw [show ((63 : Nat) : Int) = 63 from rfl] at this
  rw [this, show (63 : Nat) = 2 ^ 6 - 1 from rfl, Nat.and_two_pow_sub_one_eq_mod, hn]
theorem wrap32_toInt (x : B32) : wrap32 (x.toNat : Int) = x.toInt := by
  have := x.isLt
  rw [toInt_cases]; unfold wrap32; split <;> omega
theorem wrap64_toInt (x : B64) : wrap64 (x.toNat : Int) = x.toInt := by
  have := x.isLt
  rw [toInt_cases64]; unfold wrap64; split <;> omega
theorem wrap64_toInt32 (x : B32) : wrap64 x.toInt = x.toInt := by
  have := x.isLt
  rw [toInt_cases]; unfold wrap64; split <;> omega
theorem toInt_ne32 {y : B32} (h : y ≠ 0) : y.toInt ≠ 0 := fun e => h (by have := (BitVec.toInt_inj (x := y) (y := 0)).1 (by simpa using e); exact this)
theorem toInt_ne64 {y : B64} (h : y ≠ 0) : y.toInt ≠ 0 := fun e => h (by have := (BitVec.toInt_inj (x := y) (y := 0)).1 (by simpa using e); exact this)
theorem toNat_ne {w : Nat} {y : BitVec w} (h : y ≠ 0) : y.toNat ≠ 0 := fun e => h (BitVec.eq_of_toNat_eq (by simpa using e))
theorem test_ne {n m : Nat} (h : n ≠ m) : ((n : Int) == m) = false := by rw [beq_eq_false_iff_ne]; omega
theorem n_shl {w : Nat} (x : BitVec w) (n : Nat) : ((x.toNat : Int) * 2 ^ n) % 2 ^ w = ((x <<< n).toNat : Int) := by
  rw [BitVec.toNat_shiftLeft, Nat.shiftLeft_eq]; simp
theorem n_shr {w : Nat} (x : BitVec w) (n : Nat) : (x.toNat : Int) / 2 ^ n = ((x >>> n).toNat : Int) := by
  rw [BitVec.toNat_ushiftRight, Nat.shiftRight_eq_div_pow]; simp
theorem u_of_toInt {w : Nat} (z : BitVec w) : z.toInt % 2 ^ w = (z.toNat : Int) := by
  rw [BitVec.toInt_eq_toNat_bmod]
  have := z.isLt
  have h2 : ((2 ^ w : Nat) : Int) = (2 : Int) ^ w := by simp
  rw [← h2, Int.bmod_emod]
  exact Int.emod_eq_of_lt (by omega) (by omega)
theorem n_sars {w : Nat} (x : BitVec w) (n : Nat) : (x.toInt / 2 ^ n) % 2 ^ w = ((x.sshiftRight n).toNat : Int) := by
  rw [← u_of_toInt, BitVec.toInt_sshiftRight, Int.shiftRight_eq_div_pow]
  simp
theorem n_divs {w : Nat} (x y : BitVec w) : (x.toInt.tdiv y.toInt) % 2 ^ w = ((x.sdiv y).toNat : Int) := by
  rw [← u_of_toInt, BitVec.toInt_sdiv]
  have h2 : ((2 ^ w : Nat) : Int) = (2 : Int) ^ w := by simp
  rw [← h2, Int.bmod_emod]
theorem n_rems {w : Nat} (x y : BitVec w) : (x.toInt.tmod y.toInt) % 2 ^ w = ((x.srem y).toNat : Int) := by
  rw [← u_of_toInt, BitVec.toInt_srem]

theorem add32_op (x y : B32) (w : World) : Calls Tryd.prog 22 #[.int .i64 106, .int .u32 (x.toNat : Int), .int .u32 (y.toNat : Int)] w fun e w' => e = .returned (.tuple #[.int .u32 ((x + y).toNat : Int), .int .i64 0]) ∧ w' = w := by
  have hx := x.isLt
  have hy := y.isLt
  go_enter Tryd.func22, Tryd.ntmps22
  go_wp2
  all_goals go_ret2
  all_goals refine ⟨ret_n32 ?_ 0, rfl⟩
  all_goals (rw [BitVec.toNat_add]; simp)

theorem sub32_op (x y : B32) (w : World) : Calls Tryd.prog 22 #[.int .i64 107, .int .u32 (x.toNat : Int), .int .u32 (y.toNat : Int)] w fun e w' => e = .returned (.tuple #[.int .u32 ((x - y).toNat : Int), .int .i64 0]) ∧ w' = w := by
  have hx := x.isLt
  have hy := y.isLt
  go_enter Tryd.func22, Tryd.ntmps22
  go_wp2
  all_goals go_ret2
  all_goals refine ⟨ret_n32 ?_ 0, rfl⟩
  all_goals (rw [BitVec.toNat_sub]; omega)

theorem mul32_op (x y : B32) (w : World) : Calls Tryd.prog 22 #[.int .i64 108, .int .u32 (x.toNat : Int), .int .u32 (y.toNat : Int)] w fun e w' => e = .returned (.tuple #[.int .u32 ((x * y).toNat : Int), .int .i64 0]) ∧ w' = w := by
  have hx := x.isLt
  have hy := y.isLt
  go_enter Tryd.func22, Tryd.ntmps22
  go_wp2
  all_goals go_ret2
  all_goals refine ⟨ret_n32 ?_ 0, rfl⟩
  all_goals (rw [BitVec.toNat_mul]; simp)

theorem divs32_op (x y : B32) (w : World) (hy0 : y ≠ 0) (hov : ¬ (x = BitVec.intMin 32 ∧ y = BitVec.allOnes 32)) : Calls Tryd.prog 22 #[.int .i64 109, .int .u32 (x.toNat : Int), .int .u32 (y.toNat : Int)] w fun e w' => e = .returned (.tuple #[.int .u32 ((x.sdiv y).toNat : Int), .int .i64 0]) ∧ w' = w := by
  have hx := x.isLt
  have hy := y.isLt
  have t1 := toNat_ne hy0
  have t2 : ((y.toNat : Int) == 0) = false := test_ne t1
  have t3 := toInt_ne32 hy0
  have ex := wrap32_toInt x
  have ey := wrap32_toInt y
  clear hy0
  have tx : ((x.toNat : Int) == 2147483648) = true → ((y.toNat : Int) == 4294967295) = false := fun e => test_ne (m := 4294967295) fun e2 => hov ⟨BitVec.eq_of_toNat_eq (by rw [show (BitVec.intMin 32).toNat = 2147483648 from rfl]; have := eq_of_beq e; omega), BitVec.eq_of_toNat_eq (by rw [show (BitVec.allOnes 32).toNat = 4294967295 from rfl]; exact e2)⟩
  have txb : ((x.toNat : Int) == 2147483648) = false ∨ ((x.toNat : Int) == 2147483648) = true := by cases ((x.toNat : Int) == 2147483648) <;> simp
  rcases txb with txb | txb
  · skip
    clear tx
    go_enter Tryd.func22, Tryd.ntmps22
    go_wp2
    all_goals go_ret2
    all_goals refine ⟨ret_n32 ?_ 0, rfl⟩
    all_goals (have hd := n_divs x y; generalize x.toInt.tdiv y.toInt = q at *; generalize (x.sdiv y).toNat = r at *; clear hx hy; unfold wrap32; omega)
  · have tyb := tx txb
    clear tx
    go_enter Tryd.func22, Tryd.ntmps22
    go_wp2
    all_goals go_ret2
    all_goals refine ⟨ret_n32 ?_ 0, rfl⟩
    all_goals (have hd := n_divs x y; generalize x.toInt.tdiv y.toInt = q at *; generalize (x.sdiv y).toNat = r at *; clear hx hy; unfold wrap32; omega)

theorem divu32_op (x y : B32) (w : World) (hy0 : y ≠ 0) : Calls Tryd.prog 22 #[.int .i64 110, .int .u32 (x.toNat : Int), .int .u32 (y.toNat : Int)] w fun e w' => e = .returned (.tuple #[.int .u32 ((x / y).toNat : Int), .int .i64 0]) ∧ w' = w := by
  have hx := x.isLt
  have hy := y.isLt
  have t1 := toNat_ne hy0
  have t2 : ((y.toNat : Int) == 0) = false := test_ne t1
  clear hy0
  go_enter Tryd.func22, Tryd.ntmps22
  go_wp2
  all_goals go_ret2
  all_goals refine ⟨ret_n32 ?_ 0, rfl⟩
  all_goals (rw [BitVec.toNat_udiv]; have h2 := Nat.div_le_self x.toNat y.toNat; rw [← Int.natCast_ediv]; generalize x.toNat / y.toNat = q at *; omega)

theorem rems32_op (x y : B32) (w : World) (hy0 : y ≠ 0) : Calls Tryd.prog 22 #[.int .i64 111, .int .u32 (x.toNat : Int), .int .u32 (y.toNat : Int)] w fun e w' => e = .returned (.tuple #[.int .u32 ((x.srem y).toNat : Int), .int .i64 0]) ∧ w' = w := by
  have hx := x.isLt
  have hy := y.isLt
  have t1 := toNat_ne hy0
  have t2 : ((y.toNat : Int) == 0) = false := test_ne t1
  have t3 := toInt_ne32 hy0
  have ex := wrap32_toInt x
  have ey := wrap32_toInt y
  have ex2 := wrap64_toInt32 x
  have ey2 := wrap64_toInt32 y
  clear hy0
  go_enter Tryd.func22, Tryd.ntmps22
  go_wp2
  all_goals go_ret2
  all_goals refine ⟨ret_n32 ?_ 0, rfl⟩
  all_goals (exact n_rems x y)

theorem remu32_op (x y : B32) (w : World) (hy0 : y ≠ 0) : Calls Tryd.prog 22 #[.int .i64 112, .int .u32 (x.toNat : Int), .int .u32 (y.toNat : Int)] w fun e w' => e = .returned (.tuple #[.int .u32 ((x % y).toNat : Int), .int .i64 0]) ∧ w' = w := by
  have hx := x.isLt
  have hy := y.isLt
  have t1 := toNat_ne hy0
  have t2 : ((y.toNat : Int) == 0) = false := test_ne t1
  clear hy0
  go_enter Tryd.func22, Tryd.ntmps22
  go_wp2
  all_goals go_ret2
  all_goals refine ⟨ret_n32 ?_ 0, rfl⟩
  all_goals (rw [BitVec.toNat_umod]; simp)

theorem and32_op (x y : B32) (w : World) : Calls Tryd.prog 22 #[.int .i64 113, .int .u32 (x.toNat : Int), .int .u32 (y.toNat : Int)] w fun e w' => e = .returned (.tuple #[.int .u32 ((x &&& y).toNat : Int), .int .i64 0]) ∧ w' = w := by
  have hx := x.isLt
  have hy := y.isLt
  go_enter Tryd.func22, Tryd.ntmps22
  go_wp2
  all_goals go_ret2
  all_goals refine ⟨ret_n32 ?_ 0, rfl⟩
  all_goals (rw [u32_and_nat _ _ hx hy, BitVec.toNat_and])

theorem or32_op (x y : B32) (w : World) : Calls Tryd.prog 22 #[.int .i64 114, .int .u32 (x.toNat : Int), .int .u32 (y.toNat : Int)] w fun e w' => e = .returned (.tuple #[.int .u32 ((x ||| y).toNat : Int), .int .i64 0]) ∧ w' = w := by
  have hx := x.isLt
  have hy := y.isLt
  go_enter Tryd.func22, Tryd.ntmps22
  go_wp2
  all_goals go_ret2
  all_goals refine ⟨ret_n32 ?_ 0, rfl⟩
  all_goals (rw [u32_or_nat _ _ hx hy, BitVec.toNat_or])

theorem xor32_op (x y : B32) (w : World) : Calls Tryd.prog 22 #[.int .i64 115, .int .u32 (x.toNat : Int), .int .u32 (y.toNat : Int)] w fun e w' => e = .returned (.tuple #[.int .u32 ((x ^^^ y).toNat : Int), .int .i64 0]) ∧ w' = w := by
  have hx := x.isLt
  have hy := y.isLt
  go_enter Tryd.func22, Tryd.ntmps22
  go_wp2
  all_goals go_ret2
  all_goals refine ⟨ret_n32 ?_ 0, rfl⟩
  all_goals (rw [u32_xor_nat _ _ hx hy, BitVec.toNat_xor])

theorem shl32_op (x y : B32) (w : World) : Calls Tryd.prog 22 #[.int .i64 116, .int .u32 (x.toNat : Int), .int .u32 (y.toNat : Int)] w fun e w' => e = .returned (.tuple #[.int .u32 ((x <<< (y.toNat % 32)).toNat : Int), .int .i64 0]) ∧ w' = w := by
  have hx := x.isLt
  have hy := y.isLt
  obtain ⟨n, hn⟩ : ∃ n, n = y.toNat % 32 := ⟨_, rfl⟩
  have em := mask32 y n hn
  have hn1 : n ≤ 31 := by omega
  rw [← hn]
  clear hn
  go_enter Tryd.func22, Tryd.ntmps22
  go_wp2
  all_goals go_ret2
  all_goals refine ⟨ret_n32 ?_ 0, rfl⟩
  all_goals (exact n_shl x n)

theorem sars32_op (x y : B32) (w : World) : Calls Tryd.prog 22 #[.int .i64 117, .int .u32 (x.toNat : Int), .int .u32 (y.toNat : Int)] w fun e w' => e = .returned (.tuple #[.int .u32 ((x.sshiftRight (y.toNat % 32)).toNat : Int), .int .i64 0]) ∧ w' = w := by
  have hx := x.isLt
  have hy := y.isLt
  obtain ⟨n, hn⟩ : ∃ n, n = y.toNat % 32 := ⟨_, rfl⟩
  have em := mask32 y n hn
  have hn1 : n ≤ 31 := by omega
  rw [← hn]
  clear hn
  have ex := wrap32_toInt x
  go_enter Tryd.func22, Tryd.ntmps22
  go_wp2
  all_goals go_ret2
  all_goals refine ⟨ret_n32 ?_ 0, rfl⟩
  all_goals (exact n_sars x n)

theorem shr32_op (x y : B32) (w : World) : Calls Tryd.prog 22 #[.int .i64 118, .int .u32 (x.toNat : Int), .int .u32 (y.toNat : Int)] w fun e w' => e = .returned (.tuple #[.int .u32 ((x >>> (y.toNat % 32)).toNat : Int), .int .i64 0]) ∧ w' = w := by
  have hx := x.isLt
  have hy := y.isLt
  obtain ⟨n, hn⟩ : ∃ n, n = y.toNat % 32 := ⟨_, rfl⟩
  have em := mask32 y n hn
  have hn1 : n ≤ 31 := by omega
  rw [← hn]
  clear hn
  go_enter Tryd.func22, Tryd.ntmps22
  go_wp2
  all_goals go_ret2
  all_goals refine ⟨ret_n32 ?_ 0, rfl⟩
  all_goals (exact n_shr x n)

theorem rotl32_op (x y : B32) (w : World) : Calls Tryd.prog 22 #[.int .i64 119, .int .u32 (x.toNat : Int), .int .u32 (y.toNat : Int)] w fun e w' => e = .returned (.tuple #[.int .u32 ((rotl x (y.toNat % 32)).toNat : Int), .int .i64 0]) ∧ w' = w := by
  have hx := x.isLt
  have hy := y.isLt
  obtain ⟨n, hn⟩ : ∃ n, n = y.toNat % 32 := ⟨_, rfl⟩
  have em := mask32 y n hn
  have hn1 : n ≤ 31 := by omega
  rw [← hn]
  clear hn
  go_enter Tryd.func22, Tryd.ntmps22
  go_wp2_with (go_at_call 38; refine (rot32_any x _ n _ (by omega)).mono ?_; rintro e w' ⟨rfl, rfl⟩)
  all_goals go_ret2
  all_goals refine ⟨ret_n32 ?_ 0, rfl⟩
  all_goals (rfl)

theorem rotr32_op (x y : B32) (w : World) : Calls Tryd.prog 22 #[.int .i64 120, .int .u32 (x.toNat : Int), .int .u32 (y.toNat : Int)] w fun e w' => e = .returned (.tuple #[.int .u32 ((rotl x ((32 - y.toNat % 32) % 32)).toNat : Int), .int .i64 0]) ∧ w' = w := by
  have hx := x.isLt
  have hy := y.isLt
  obtain ⟨n, hn⟩ : ∃ n, n = y.toNat % 32 := ⟨_, rfl⟩
  have em := mask32 y n hn
  have hn1 : n ≤ 31 := by omega
  rw [← hn]
  clear hn
  have en : IntKind.i64.wrap (-(n : Int)) = -(n : Int) := IntWalk.i64_in _ (by omega)
  go_enter Tryd.func22, Tryd.ntmps22
  go_wp2_with (go_at_call 38; refine (rot32_any x _ ((32 - n) % 32) _ (by omega)).mono ?_; rintro e w' ⟨rfl, rfl⟩)
  all_goals go_ret2
  all_goals refine ⟨ret_n32 ?_ 0, rfl⟩
  all_goals (rfl)

theorem add64_op (x y : B64) (w : World) : Calls Tryd.prog 23 #[.int .i64 124, .int .u64 (x.toNat : Int), .int .u64 (y.toNat : Int)] w fun e w' => e = .returned (.tuple #[.int .u64 ((x + y).toNat : Int), .int .i64 0]) ∧ w' = w := by
  have hx := x.isLt
  have hy := y.isLt
  go_enter Tryd.func23, Tryd.ntmps23
  go_wp2
  all_goals go_ret2
  all_goals refine ⟨ret_n64 ?_ 0, rfl⟩
  all_goals (rw [IntKind.wrap_u64]; rw [BitVec.toNat_add]; simp)

theorem sub64_op (x y : B64) (w : World) : Calls Tryd.prog 23 #[.int .i64 125, .int .u64 (x.toNat : Int), .int .u64 (y.toNat : Int)] w fun e w' => e = .returned (.tuple #[.int .u64 ((x - y).toNat : Int), .int .i64 0]) ∧ w' = w := by
  have hx := x.isLt
  have hy := y.isLt
  go_enter Tryd.func23, Tryd.ntmps23
  go_wp2
  all_goals go_ret2
  all_goals refine ⟨ret_n64 ?_ 0, rfl⟩
  all_goals (rw [IntKind.wrap_u64]; rw [BitVec.toNat_sub]; omega)

theorem mul64_op (x y : B64) (w : World) : Calls Tryd.prog 23 #[.int .i64 126, .int .u64 (x.toNat : Int), .int .u64 (y.toNat : Int)] w fun e w' => e = .returned (.tuple #[.int .u64 ((x * y).toNat : Int), .int .i64 0]) ∧ w' = w := by
  have hx := x.isLt
  have hy := y.isLt
  go_enter Tryd.func23, Tryd.ntmps23
  go_wp2
  all_goals go_ret2
  all_goals refine ⟨ret_n64 ?_ 0, rfl⟩
  all_goals (rw [IntKind.wrap_u64]; rw [BitVec.toNat_mul]; simp)

theorem divs64_op (x y : B64) (w : World) (hy0 : y ≠ 0) (hov : ¬ (x = BitVec.intMin 64 ∧ y = BitVec.allOnes 64)) : Calls Tryd.prog 23 #[.int .i64 127, .int .u64 (x.toNat : Int), .int .u64 (y.toNat : Int)] w fun e w' => e = .returned (.tuple #[.int .u64 ((x.sdiv y).toNat : Int), .int .i64 0]) ∧ w' = w := by
  have hx := x.isLt
  have hy := y.isLt
  have t1 := toNat_ne hy0
  have t2 : ((y.toNat : Int) == 0) = false := test_ne t1
  have t3 := toInt_ne64 hy0
  have ex := wrap64_toInt x
  have ey := wrap64_toInt y
  clear hy0
  have tx : ((x.toNat : Int) == 9223372036854775808) = true → ((y.toNat : Int) == 18446744073709551615) = false := fun e => test_ne (m := 18446744073709551615) fun e2 => hov ⟨BitVec.eq_of_toNat_eq (by rw [show (BitVec.intMin 64).toNat = 9223372036854775808 from rfl]; have := eq_of_beq e; omega), BitVec.eq_of_toNat_eq (by rw [show (BitVec.allOnes 64).toNat = 18446744073709551615 from rfl]; exact e2)⟩
  have txb : ((x.toNat : Int) == 9223372036854775808) = false ∨ ((x.toNat : Int) == 9223372036854775808) = true := by cases ((x.toNat : Int) == 9223372036854775808) <;> simp
  rcases txb with txb | txb
  · skip
    clear tx
    go_enter Tryd.func23, Tryd.ntmps23
    go_wp2
    all_goals go_ret2
    all_goals refine ⟨ret_n64 ?_ 0, rfl⟩
    all_goals (rw [IntKind.wrap_u64]; have hd := n_divs x y; generalize x.toInt.tdiv y.toInt = q at *; generalize (x.sdiv y).toNat = r at *; clear hx hy; unfold wrap64; omega)
  · have tyb := tx txb
    clear tx
    go_enter Tryd.func23, Tryd.ntmps23
    go_wp2
    all_goals go_ret2
    all_goals refine ⟨ret_n64 ?_ 0, rfl⟩
    all_goals (rw [IntKind.wrap_u64]; have hd := n_divs x y; generalize x.toInt.tdiv y.toInt = q at *; generalize (x.sdiv y).toNat = r at *; clear hx hy; unfold wrap64; omega)

theorem divu64_op (x y : B64) (w : World) (hy0 : y ≠ 0) : Calls Tryd.prog 23 #[.int .i64 128, .int .u64 (x.toNat : Int), .int .u64 (y.toNat : Int)] w fun e w' => e = .returned (.tuple #[.int .u64 ((x / y).toNat : Int), .int .i64 0]) ∧ w' = w := by
  have hx := x.isLt
  have hy := y.isLt
  have t1 := toNat_ne hy0
  have t2 : ((y.toNat : Int) == 0) = false := test_ne t1
  clear hy0
  go_enter Tryd.func23, Tryd.ntmps23
  go_wp2
  all_goals go_ret2
  all_goals refine ⟨ret_n64 ?_ 0, rfl⟩
  all_goals (rw [IntKind.wrap_u64]; rw [BitVec.toNat_udiv]; have h2 := Nat.div_le_self x.toNat y.toNat; rw [← Int.natCast_ediv]; generalize x.toNat / y.toNat = q at *; omega)

theorem rems64_op (x y : B64) (w : World) (hy0 : y ≠ 0) : Calls Tryd.prog 23 #[.int .i64 129, .int .u64 (x.toNat : Int), .int .u64 (y.toNat : Int)] w fun e w' => e = .returned (.tuple #[.int .u64 ((x.srem y).toNat : Int), .int .i64 0]) ∧ w' = w := by
  have hx := x.isLt
  have hy := y.isLt
  have t1 := toNat_ne hy0
  have t2 : ((y.toNat : Int) == 0) = false := test_ne t1
  have t3 := toInt_ne64 hy0
  have ex := wrap64_toInt x
  have ey := wrap64_toInt y
  clear hy0
  by_cases hm : y = BitVec.allOnes 64
  · have tm : ((y.toNat : Int) == 18446744073709551615) = true := by rw [hm]; rfl
    have e0 : x.srem y = 0 := by rw [hm]; exact srem_ones x
    have E0 := Lib.hid e0
    clear hm e0
    go_enter Tryd.func23, Tryd.ntmps23
    go_wp2
    all_goals go_ret2
    all_goals refine ⟨ret_n64 ?_ 0, rfl⟩
    all_goals (rw [E0.out]; rfl)
  · have tm : ((y.toNat : Int) == 18446744073709551615) = false := test_ne (m := 18446744073709551615) fun e2 => hm (BitVec.eq_of_toNat_eq (by rw [show (BitVec.allOnes 64).toNat = 18446744073709551615 from rfl]; exact e2))
    clear hm
    go_enter Tryd.func23, Tryd.ntmps23
    go_wp2
    all_goals go_ret2
    all_goals refine ⟨ret_n64 ?_ 0, rfl⟩
    all_goals (rw [IntKind.wrap_u64]; exact n_rems x y)

theorem remu64_op (x y : B64) (w : World) (hy0 : y ≠ 0) : Calls Tryd.prog 23 #[.int .i64 130, .int .u64 (x.toNat : Int), .int .u64 (y.toNat : Int)] w fun e w' => e = .returned (.tuple #[.int .u64 ((x % y).toNat : Int), .int .i64 0]) ∧ w' = w := by
  have hx := x.isLt
  have hy := y.isLt
  have t1 := toNat_ne hy0
  have t2 : ((y.toNat : Int) == 0) = false := test_ne t1
  clear hy0
  go_enter Tryd.func23, Tryd.ntmps23
  go_wp2
  all_goals go_ret2
  all_goals refine ⟨ret_n64 ?_ 0, rfl⟩
  all_goals (rw [BitVec.toNat_umod]; simp)

theorem and64_op (x y : B64) (w : World) : Calls Tryd.prog 23 #[.int .i64 131, .int .u64 (x.toNat : Int), .int .u64 (y.toNat : Int)] w fun e w' => e = .returned (.tuple #[.int .u64 ((x &&& y).toNat : Int), .int .i64 0]) ∧ w' = w := by
  have hx := x.isLt
  have hy := y.isLt
  go_enter Tryd.func23, Tryd.ntmps23
  go_wp2
  all_goals go_ret2
  all_goals refine ⟨ret_n64 ?_ 0, rfl⟩
  all_goals (rw [u64_and_nat _ _ hx hy, BitVec.toNat_and])

theorem or64_op (x y : B64) (w : World) : Calls Tryd.prog 23 #[.int .i64 132, .int .u64 (x.toNat : Int), .int .u64 (y.toNat : Int)] w fun e w' => e = .returned (.tuple #[.int .u64 ((x ||| y).toNat : Int), .int .i64 0]) ∧ w' = w := by
  have hx := x.isLt
  have hy := y.isLt
  go_enter Tryd.func23, Tryd.ntmps23
  go_wp2
  all_goals go_ret2
  all_goals refine ⟨ret_n64 ?_ 0, rfl⟩
  all_goals (rw [u64_or_nat _ _ hx hy, BitVec.toNat_or])

theorem xor64_op (x y : B64) (w : World) : Calls Tryd.prog 23 #[.int .i64 133, .int .u64 (x.toNat : Int), .int .u64 (y.toNat : Int)] w fun e w' => e = .returned (.tuple #[.int .u64 ((x ^^^ y).toNat : Int), .int .i64 0]) ∧ w' = w := by
  have hx := x.isLt
  have hy := y.isLt
  go_enter Tryd.func23, Tryd.ntmps23
  go_wp2
  all_goals go_ret2
  all_goals refine ⟨ret_n64 ?_ 0, rfl⟩
  all_goals (rw [u64_xor_nat _ _ hx hy, BitVec.toNat_xor])

theorem shl64_op (x y : B64) (w : World) : Calls Tryd.prog 23 #[.int .i64 134, .int .u64 (x.toNat : Int), .int .u64 (y.toNat : Int)] w fun e w' => e = .returned (.tuple #[.int .u64 ((x <<< (y.toNat % 64)).toNat : Int), .int .i64 0]) ∧ w' = w := by
  have hx := x.isLt
  have hy := y.isLt
  obtain ⟨n, hn⟩ : ∃ n, n = y.toNat % 64 := ⟨_, rfl⟩
  have em := mask64 y n hn
  have hn1 : n ≤ 63 := by omega
  rw [← hn]
  clear hn
  go_enter Tryd.func23, Tryd.ntmps23
  go_wp2
  all_goals go_ret2
  all_goals refine ⟨ret_n64 ?_ 0, rfl⟩
  all_goals (rw [IntKind.wrap_u64]; exact n_shl x n)

theorem sars64_op (x y : B64) (w : World) : Calls Tryd.prog 23 #[.int .i64 135, .int .u64 (x.toNat : Int), .int .u64 (y.toNat : Int)] w fun e w' => e = .returned (.tuple #[.int .u64 ((x.sshiftRight (y.toNat % 64)).toNat : Int), .int .i64 0]) ∧ w' = w := by
  have hx := x.isLt
  have hy := y.isLt
  obtain ⟨n, hn⟩ : ∃ n, n = y.toNat % 64 := ⟨_, rfl⟩
  have em := mask64 y n hn
  have hn1 : n ≤ 63 := by omega
  rw [← hn]
  clear hn
  have ex := wrap64_toInt x
  go_enter Tryd.func23, Tryd.ntmps23
  go_wp2
  all_goals go_ret2
  all_goals refine ⟨ret_n64 ?_ 0, rfl⟩
  all_goals (rw [IntKind.wrap_u64]; exact n_sars x n)

theorem shr64_op (x y : B64) (w : World) : Calls Tryd.prog 23 #[.int .i64 136, .int .u64 (x.toNat : Int), .int .u64 (y.toNat : Int)] w fun e w' => e = .returned (.tuple #[.int .u64 ((x >>> (y.toNat % 64)).toNat : Int), .int .i64 0]) ∧ w' = w := by
  have hx := x.isLt
  have hy := y.isLt
  obtain ⟨n, hn⟩ : ∃ n, n = y.toNat % 64 := ⟨_, rfl⟩
  have em := mask64 y n hn
  have hn1 : n ≤ 63 := by omega
  rw [← hn]
  clear hn
  go_enter Tryd.func23, Tryd.ntmps23
  go_wp2
  all_goals go_ret2
  all_goals refine ⟨ret_n64 ?_ 0, rfl⟩
  all_goals (exact n_shr x n)

theorem rotl64_op (x y : B64) (w : World) : Calls Tryd.prog 23 #[.int .i64 137, .int .u64 (x.toNat : Int), .int .u64 (y.toNat : Int)] w fun e w' => e = .returned (.tuple #[.int .u64 ((rotl x (y.toNat % 64)).toNat : Int), .int .i64 0]) ∧ w' = w := by
  have hx := x.isLt
  have hy := y.isLt
  obtain ⟨n, hn⟩ : ∃ n, n = y.toNat % 64 := ⟨_, rfl⟩
  have em := mask64 y n hn
  have hn1 : n ≤ 63 := by omega
  rw [← hn]
  clear hn
  go_enter Tryd.func23, Tryd.ntmps23
  go_wp2_with (go_at_call 39; refine (rot64_any x _ n _ (by omega)).mono ?_; rintro e w' ⟨rfl, rfl⟩)
  all_goals go_ret2
  all_goals refine ⟨ret_n64 ?_ 0, rfl⟩
  all_goals (rfl)

theorem rotr64_op (x y : B64) (w : World) : Calls Tryd.prog 23 #[.int .i64 138, .int .u64 (x.toNat : Int), .int .u64 (y.toNat : Int)] w fun e w' => e = .returned (.tuple #[.int .u64 ((rotl x ((64 - y.toNat % 64) % 64)).toNat : Int), .int .i64 0]) ∧ w' = w := by
  have hx := x.isLt
  have hy := y.isLt
  obtain ⟨n, hn⟩ : ∃ n, n = y.toNat % 64 := ⟨_, rfl⟩
  have em := mask64 y n hn
  have hn1 : n ≤ 63 := by omega
  rw [← hn]
  clear hn
  have en : IntKind.i64.wrap (-(n : Int)) = -(n : Int) := IntWalk.i64_in _ (by omega)
  go_enter Tryd.func23, Tryd.ntmps23
  go_wp2_with (go_at_call 39; refine (rot64_any x _ ((64 - n) % 64) _ (by omega)).mono ?_; rintro e w' ⟨rfl, rfl⟩)
  all_goals go_ret2
  all_goals refine ⟨ret_n64 ?_ 0, rfl⟩
  all_goals (rfl)

end Go.Proofs.YtllffbdcpilioaaDoor
