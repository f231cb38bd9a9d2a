/-
  num.Un but for the counts of bits; plaitlaw03.awake, bin.
-/
import Derived.Deep.QuietTactic
import Derived.BigQuiet
import Derived.Test.YtllffbdcpilioaaDoorNumBin
set_option linter.unusedSimpArgs false
set_option linter.unusedVariables false
namespace Go.Proofs.YtllffbdcpilioaaDoor
open Go.RowKit Nm

theorem i32_arg (x : B64) : IntKind.i32.wrap (x.toNat : Int) = (sx x).toInt := by rw [IntWalk.i32_left]; exact sx_arg x
theorem u64_sx (x : B64) : IntKind.u64.wrap (sx x).toInt = ((sx x).toNat : Int) := by rw [toInt_u64]
theorem i8_arg (x : B64) : IntKind.i8.wrap (x.toNat : Int) = (x.setWidth 8).toInt := by
  have := x.isLt
  rw [BitVec.toInt_eq_toNat_cond, BitVec.toNat_setWidth]
  simp only [IntKind.wrap, IntKind.bits, IntKind.signed]; simp; split <;> split <;> omega
theorem i16_arg (x : B64) : IntKind.i16.wrap (x.toNat : Int) = (x.setWidth 16).toInt := by
  have := x.isLt
  rw [BitVec.toInt_eq_toNat_cond, BitVec.toNat_setWidth]
  simp only [IntKind.wrap, IntKind.bits, IntKind.signed]; simp; split <;> split <;> omega
theorem u64_ext {w : Nat} (hw : w ≤ 64) (z : BitVec w) : IntKind.u64.wrap z.toInt = ((z.signExtend 64).toNat : Int) := by
  rw [← toInt_u64, BitVec.toInt_signExtend_of_le hw]
theorem u32_ext {w : Nat} (hw : w ≤ 32) (z : BitVec w) : IntKind.u32.wrap z.toInt = ((up (z.signExtend 32)).toNat : Int) := by
  rw [← up_toNat, ← u_of_toInt (z.signExtend 32), BitVec.toInt_signExtend_of_le hw, IntKind.wrap_u32]
  rfl
theorem u32_ext2 {w : Nat} (hw : w ≤ 32) (z : BitVec w) : z.toInt % 4294967296 = ((up (z.signExtend 32)).toNat : Int) := by
  rw [← u32_ext hw, IntKind.wrap_u32]

theorem tru_eq0 (n : B32) : (((n.toNat : Int) == 0)) = decide (n = 0) := by
  rw [Bool.eq_iff_iff]; simp; exact ⟨fun h => BitVec.eq_of_toNat_eq (by simpa using h), fun h => by rw [h]; rfl⟩
theorem tru_eq0' (n : B64) : (((n.toNat : Int) == 0)) = decide (n = 0) := by
  rw [Bool.eq_iff_iff]; simp; exact ⟨fun h => BitVec.eq_of_toNat_eq (by simpa using h), fun h => by rw [h]; rfl⟩

theorem eqz32_op (x : B64) (w : World) : Calls Tryd.prog 18 #[.int .i64 69, .int .u64 (x.toNat : Int)] w fun e w' => e = .returned (.tuple #[.int .u64 ((tru (decide (lo x = 0))).toNat : Int), .int .i64 0]) ∧ w' = w := by
  have hx := x.isLt
  have H := Lib.hid (show ((69 : Int)) = 69 ∨ (69 : Int) = 80 ∨ 103 ≤ (69 : Int) ∧ (69 : Int) ≤ 105 ∨ 121 ≤ (69 : Int) ∧ (69 : Int) ≤ 123 ∨ (69 : Int) = 167 ∨ (69 : Int) = 172 ∨ (69 : Int) = 173 ∨ 192 ≤ (69 : Int) ∧ (69 : Int) ≤ 196 by omega)
  have ex := lo_arg x
  have ez := Lib.hid (tru_eq0 (lo x))
  go_enter Tryd.func18, Tryd.ntmps18
  go_wp2_with (first | (go_at_call 11; refine (arity_1 _ H.out).mono ?_; rintro e w' ⟨rfl, rfl⟩) | (go_at_call 24; refine (truth_any _ _).mono ?_; rintro e w' ⟨rfl, rfl⟩))
  all_goals go_ret2
  all_goals refine ⟨ret_n64 ?_ 0, rfl⟩
  all_goals (rw [← ez.out])

theorem eqz64_op (x : B64) (w : World) : Calls Tryd.prog 18 #[.int .i64 80, .int .u64 (x.toNat : Int)] w fun e w' => e = .returned (.tuple #[.int .u64 ((tru (decide (x = 0))).toNat : Int), .int .i64 0]) ∧ w' = w := by
  have hx := x.isLt
  have H := Lib.hid (show ((80 : Int)) = 69 ∨ (80 : Int) = 80 ∨ 103 ≤ (80 : Int) ∧ (80 : Int) ≤ 105 ∨ 121 ≤ (80 : Int) ∧ (80 : Int) ≤ 123 ∨ (80 : Int) = 167 ∨ (80 : Int) = 172 ∨ (80 : Int) = 173 ∨ 192 ≤ (80 : Int) ∧ (80 : Int) ≤ 196 by omega)
  have ez := Lib.hid (tru_eq0' x)
  go_enter Tryd.func18, Tryd.ntmps18
  go_wp2_with (first | (go_at_call 11; refine (arity_1 _ H.out).mono ?_; rintro e w' ⟨rfl, rfl⟩) | (go_at_call 24; refine (truth_any _ _).mono ?_; rintro e w' ⟨rfl, rfl⟩))
  all_goals go_ret2
  all_goals refine ⟨ret_n64 ?_ 0, rfl⟩
  all_goals (rw [← ez.out])

theorem w_wrap (x : B64) (w : World) : Calls Tryd.prog 31 #[.int .i64 167, .int .u64 (x.toNat : Int)] w fun e w' => e = .returned (.int .u64 ((up (lo x)).toNat : Int)) ∧ w' = w := by
  have hx := x.isLt
  have ex := lo_arg x
  go_enter Tryd.func31, Tryd.ntmps31
  go_wp2
  all_goals go_ret
  all_goals refine ⟨ret_nu64 ?_, rfl⟩
  all_goals (exact up_toNat _)

theorem wrap_op (x : B64) (w : World) : Calls Tryd.prog 18 #[.int .i64 167, .int .u64 (x.toNat : Int)] w fun e w' => e = .returned (.tuple #[.int .u64 ((up (lo x)).toNat : Int), .int .i64 0]) ∧ w' = w := by
  have hx := x.isLt
  have H := Lib.hid (show ((167 : Int)) = 69 ∨ (167 : Int) = 80 ∨ 103 ≤ (167 : Int) ∧ (167 : Int) ≤ 105 ∨ 121 ≤ (167 : Int) ∧ (167 : Int) ≤ 123 ∨ (167 : Int) = 167 ∨ (167 : Int) = 172 ∨ (167 : Int) = 173 ∨ 192 ≤ (167 : Int) ∧ (167 : Int) ≤ 196 by omega)
  go_enter Tryd.func18, Tryd.ntmps18
  go_wp2_with (first | (go_at_call 11; refine (arity_1 _ H.out).mono ?_; rintro e w' ⟨rfl, rfl⟩) | (go_at_call 31; refine (w_wrap x _).mono ?_; rintro e w' ⟨rfl, rfl⟩))
  all_goals go_ret2
  all_goals refine ⟨ret_n64 ?_ 0, rfl⟩
  all_goals (rfl)

theorem w_extu (x : B64) (w : World) : Calls Tryd.prog 31 #[.int .i64 173, .int .u64 (x.toNat : Int)] w fun e w' => e = .returned (.int .u64 ((up (lo x)).toNat : Int)) ∧ w' = w := by
  have hx := x.isLt
  have ex := lo_arg x
  go_enter Tryd.func31, Tryd.ntmps31
  go_wp2
  all_goals go_ret
  all_goals refine ⟨ret_nu64 ?_, rfl⟩
  all_goals (exact up_toNat _)

theorem extu_op (x : B64) (w : World) : Calls Tryd.prog 18 #[.int .i64 173, .int .u64 (x.toNat : Int)] w fun e w' => e = .returned (.tuple #[.int .u64 ((up (lo x)).toNat : Int), .int .i64 0]) ∧ w' = w := by
  have hx := x.isLt
  have H := Lib.hid (show ((173 : Int)) = 69 ∨ (173 : Int) = 80 ∨ 103 ≤ (173 : Int) ∧ (173 : Int) ≤ 105 ∨ 121 ≤ (173 : Int) ∧ (173 : Int) ≤ 123 ∨ (173 : Int) = 167 ∨ (173 : Int) = 172 ∨ (173 : Int) = 173 ∨ 192 ≤ (173 : Int) ∧ (173 : Int) ≤ 196 by omega)
  go_enter Tryd.func18, Tryd.ntmps18
  go_wp2_with (first | (go_at_call 11; refine (arity_1 _ H.out).mono ?_; rintro e w' ⟨rfl, rfl⟩) | (go_at_call 31; refine (w_extu x _).mono ?_; rintro e w' ⟨rfl, rfl⟩))
  all_goals go_ret2
  all_goals refine ⟨ret_n64 ?_ 0, rfl⟩
  all_goals (rfl)

theorem w_exts (x : B64) (w : World) : Calls Tryd.prog 31 #[.int .i64 172, .int .u64 (x.toNat : Int)] w fun e w' => e = .returned (.int .u64 ((sx x).toNat : Int)) ∧ w' = w := by
  have hx := x.isLt
  have ex := sx_arg x
  go_enter Tryd.func31, Tryd.ntmps31
  go_wp2
  all_goals go_ret
  all_goals refine ⟨ret_nu64 ?_, rfl⟩
  all_goals (exact u64_sx x)

theorem exts_op (x : B64) (w : World) : Calls Tryd.prog 18 #[.int .i64 172, .int .u64 (x.toNat : Int)] w fun e w' => e = .returned (.tuple #[.int .u64 ((sx x).toNat : Int), .int .i64 0]) ∧ w' = w := by
  have hx := x.isLt
  have H := Lib.hid (show ((172 : Int)) = 69 ∨ (172 : Int) = 80 ∨ 103 ≤ (172 : Int) ∧ (172 : Int) ≤ 105 ∨ 121 ≤ (172 : Int) ∧ (172 : Int) ≤ 123 ∨ (172 : Int) = 167 ∨ (172 : Int) = 172 ∨ (172 : Int) = 173 ∨ 192 ≤ (172 : Int) ∧ (172 : Int) ≤ 196 by omega)
  go_enter Tryd.func18, Tryd.ntmps18
  go_wp2_with (first | (go_at_call 11; refine (arity_1 _ H.out).mono ?_; rintro e w' ⟨rfl, rfl⟩) | (go_at_call 31; refine (w_exts x _).mono ?_; rintro e w' ⟨rfl, rfl⟩))
  all_goals go_ret2
  all_goals refine ⟨ret_n64 ?_ 0, rfl⟩
  all_goals (rfl)

theorem w_exts2 (x : B64) (w : World) : Calls Tryd.prog 31 #[.int .i64 196, .int .u64 (x.toNat : Int)] w fun e w' => e = .returned (.int .u64 ((sx x).toNat : Int)) ∧ w' = w := by
  have hx := x.isLt
  have ex := sx_arg x
  go_enter Tryd.func31, Tryd.ntmps31
  go_wp2
  all_goals go_ret
  all_goals refine ⟨ret_nu64 ?_, rfl⟩
  all_goals (exact u64_sx x)

theorem exts2_op (x : B64) (w : World) : Calls Tryd.prog 18 #[.int .i64 196, .int .u64 (x.toNat : Int)] w fun e w' => e = .returned (.tuple #[.int .u64 ((sx x).toNat : Int), .int .i64 0]) ∧ w' = w := by
  have hx := x.isLt
  have H := Lib.hid (show ((196 : Int)) = 69 ∨ (196 : Int) = 80 ∨ 103 ≤ (196 : Int) ∧ (196 : Int) ≤ 105 ∨ 121 ≤ (196 : Int) ∧ (196 : Int) ≤ 123 ∨ (196 : Int) = 167 ∨ (196 : Int) = 172 ∨ (196 : Int) = 173 ∨ 192 ≤ (196 : Int) ∧ (196 : Int) ≤ 196 by omega)
  go_enter Tryd.func18, Tryd.ntmps18
  go_wp2_with (first | (go_at_call 11; refine (arity_1 _ H.out).mono ?_; rintro e w' ⟨rfl, rfl⟩) | (go_at_call 31; refine (w_exts2 x _).mono ?_; rintro e w' ⟨rfl, rfl⟩))
  all_goals go_ret2
  all_goals refine ⟨ret_n64 ?_ 0, rfl⟩
  all_goals (rfl)

theorem w_e8 (x : B64) (w : World) : Calls Tryd.prog 31 #[.int .i64 192, .int .u64 (x.toNat : Int)] w fun e w' => e = .returned (.int .u64 ((up ((x.setWidth 8).signExtend 32)).toNat : Int)) ∧ w' = w := by
  have hx := x.isLt
  have ex := i8_arg x
  obtain ⟨z, hz⟩ : ∃ z : BitVec 8, z = x.setWidth 8 := ⟨_, rfl⟩
  rw [← hz] at ex ⊢
  clear hz
  go_enter Tryd.func31, Tryd.ntmps31
  go_wp2
  all_goals go_ret
  all_goals refine ⟨ret_nu64 ?_, rfl⟩
  all_goals (exact u32_ext2 (by decide) _)

theorem e8_op (x : B64) (w : World) : Calls Tryd.prog 18 #[.int .i64 192, .int .u64 (x.toNat : Int)] w fun e w' => e = .returned (.tuple #[.int .u64 ((up ((x.setWidth 8).signExtend 32)).toNat : Int), .int .i64 0]) ∧ w' = w := by
  have hx := x.isLt
  have H := Lib.hid (show ((192 : Int)) = 69 ∨ (192 : Int) = 80 ∨ 103 ≤ (192 : Int) ∧ (192 : Int) ≤ 105 ∨ 121 ≤ (192 : Int) ∧ (192 : Int) ≤ 123 ∨ (192 : Int) = 167 ∨ (192 : Int) = 172 ∨ (192 : Int) = 173 ∨ 192 ≤ (192 : Int) ∧ (192 : Int) ≤ 196 by omega)
  go_enter Tryd.func18, Tryd.ntmps18
  go_wp2_with (first | (go_at_call 11; refine (arity_1 _ H.out).mono ?_; rintro e w' ⟨rfl, rfl⟩) | (go_at_call 31; refine (w_e8 x _).mono ?_; rintro e w' ⟨rfl, rfl⟩))
  all_goals go_ret2
  all_goals refine ⟨ret_n64 ?_ 0, rfl⟩
  all_goals (rfl)

theorem w_e16 (x : B64) (w : World) : Calls Tryd.prog 31 #[.int .i64 193, .int .u64 (x.toNat : Int)] w fun e w' => e = .returned (.int .u64 ((up ((x.setWidth 16).signExtend 32)).toNat : Int)) ∧ w' = w := by
  have hx := x.isLt
  have ex := i16_arg x
  obtain ⟨z, hz⟩ : ∃ z : BitVec 16, z = x.setWidth 16 := ⟨_, rfl⟩
  rw [← hz] at ex ⊢
  clear hz
  go_enter Tryd.func31, Tryd.ntmps31
  go_wp2
  all_goals go_ret
  all_goals refine ⟨ret_nu64 ?_, rfl⟩
  all_goals (exact u32_ext2 (by decide) _)

theorem e16_op (x : B64) (w : World) : Calls Tryd.prog 18 #[.int .i64 193, .int .u64 (x.toNat : Int)] w fun e w' => e = .returned (.tuple #[.int .u64 ((up ((x.setWidth 16).signExtend 32)).toNat : Int), .int .i64 0]) ∧ w' = w := by
  have hx := x.isLt
  have H := Lib.hid (show ((193 : Int)) = 69 ∨ (193 : Int) = 80 ∨ 103 ≤ (193 : Int) ∧ (193 : Int) ≤ 105 ∨ 121 ≤ (193 : Int) ∧ (193 : Int) ≤ 123 ∨ (193 : Int) = 167 ∨ (193 : Int) = 172 ∨ (193 : Int) = 173 ∨ 192 ≤ (193 : Int) ∧ (193 : Int) ≤ 196 by omega)
  go_enter Tryd.func18, Tryd.ntmps18
  go_wp2_with (first | (go_at_call 11; refine (arity_1 _ H.out).mono ?_; rintro e w' ⟨rfl, rfl⟩) | (go_at_call 31; refine (w_e16 x _).mono ?_; rintro e w' ⟨rfl, rfl⟩))
  all_goals go_ret2
  all_goals refine ⟨ret_n64 ?_ 0, rfl⟩
  all_goals (rfl)

theorem w_e8l (x : B64) (w : World) : Calls Tryd.prog 31 #[.int .i64 194, .int .u64 (x.toNat : Int)] w fun e w' => e = .returned (.int .u64 (((x.setWidth 8).signExtend 64).toNat : Int)) ∧ w' = w := by
  have hx := x.isLt
  have ex := i8_arg x
  obtain ⟨z, hz⟩ : ∃ z : BitVec 8, z = x.setWidth 8 := ⟨_, rfl⟩
  rw [← hz] at ex ⊢
  clear hz
  go_enter Tryd.func31, Tryd.ntmps31
  go_wp2
  all_goals go_ret
  all_goals refine ⟨ret_nu64 ?_, rfl⟩
  all_goals (exact u64_ext (by decide) _)

theorem e8l_op (x : B64) (w : World) : Calls Tryd.prog 18 #[.int .i64 194, .int .u64 (x.toNat : Int)] w fun e w' => e = .returned (.tuple #[.int .u64 (((x.setWidth 8).signExtend 64).toNat : Int), .int .i64 0]) ∧ w' = w := by
  have hx := x.isLt
  have H := Lib.hid (show ((194 : Int)) = 69 ∨ (194 : Int) = 80 ∨ 103 ≤ (194 : Int) ∧ (194 : Int) ≤ 105 ∨ 121 ≤ (194 : Int) ∧ (194 : Int) ≤ 123 ∨ (194 : Int) = 167 ∨ (194 : Int) = 172 ∨ (194 : Int) = 173 ∨ 192 ≤ (194 : Int) ∧ (194 : Int) ≤ 196 by omega)
  go_enter Tryd.func18, Tryd.ntmps18
  go_wp2_with (first | (go_at_call 11; refine (arity_1 _ H.out).mono ?_; rintro e w' ⟨rfl, rfl⟩) | (go_at_call 31; refine (w_e8l x _).mono ?_; rintro e w' ⟨rfl, rfl⟩))
  all_goals go_ret2
  all_goals refine ⟨ret_n64 ?_ 0, rfl⟩
  all_goals (rfl)

theorem w_e16l (x : B64) (w : World) : Calls Tryd.prog 31 #[.int .i64 195, .int .u64 (x.toNat : Int)] w fun e w' => e = .returned (.int .u64 (((x.setWidth 16).signExtend 64).toNat : Int)) ∧ w' = w := by
  have hx := x.isLt
  have ex := i16_arg x
  obtain ⟨z, hz⟩ : ∃ z : BitVec 16, z = x.setWidth 16 := ⟨_, rfl⟩
  rw [← hz] at ex ⊢
  clear hz
  go_enter Tryd.func31, Tryd.ntmps31
  go_wp2
  all_goals go_ret
  all_goals refine ⟨ret_nu64 ?_, rfl⟩
  all_goals (exact u64_ext (by decide) _)

theorem e16l_op (x : B64) (w : World) : Calls Tryd.prog 18 #[.int .i64 195, .int .u64 (x.toNat : Int)] w fun e w' => e = .returned (.tuple #[.int .u64 (((x.setWidth 16).signExtend 64).toNat : Int), .int .i64 0]) ∧ w' = w := by
  have hx := x.isLt
  have H := Lib.hid (show ((195 : Int)) = 69 ∨ (195 : Int) = 80 ∨ 103 ≤ (195 : Int) ∧ (195 : Int) ≤ 105 ∨ 121 ≤ (195 : Int) ∧ (195 : Int) ≤ 123 ∨ (195 : Int) = 167 ∨ (195 : Int) = 172 ∨ (195 : Int) = 173 ∨ 192 ≤ (195 : Int) ∧ (195 : Int) ≤ 196 by omega)
  go_enter Tryd.func18, Tryd.ntmps18
  go_wp2_with (first | (go_at_call 11; refine (arity_1 _ H.out).mono ?_; rintro e w' ⟨rfl, rfl⟩) | (go_at_call 31; refine (w_e16l x _).mono ?_; rintro e w' ⟨rfl, rfl⟩))
  all_goals go_ret2
  all_goals refine ⟨ret_n64 ?_ 0, rfl⟩
  all_goals (rfl)

theorem bin_z (op : Int) (x y : B64) (zx zy : Int) (w : World) (hx : zx = (x.toNat : Int)) (hy : zy = (y.toNat : Int)) (hb : -9223372036854775808 ≤ op ∧ op ≤ 9223372036854775807) :
    Calls Tryd.prog 14 #[.int .i64 op, .int .u64 zx, .int .u64 zy] w fun e w' => e = .returned (.tuple #[.int .u64 ((binB op x y).1.toNat : Int), .int .i64 (binB op x y).2]) ∧ w' = w := by
  subst hx hy; exact bin_any op x y w hb
theorem aw_1 (w : World) : Calls Tryd.prog 14 #[.int .i64 127, .int .u64 18446744073709551609, .int .u64 2] w fun e w' => e = .returned (.tuple #[.int .u64 18446744073709551613, .int .i64 0]) ∧ w' = w :=
  bin_any 127 18446744073709551609 2 w (by decide)
theorem aw_2 (w : World) : Calls Tryd.prog 18 #[.int .i64 172, .int .u64 2147483648] w fun e w' => e = .returned (.tuple #[.int .u64 18446744071562067968, .int .i64 0]) ∧ w' = w :=
  exts_op 2147483648 w
theorem aw_3 (w : World) : Calls Tryd.prog 14 #[.int .i64 110, .int .u64 1, .int .u64 4294967296] w fun e w' => e = .returned (.tuple #[.int .u64 0, .int .i64 21]) ∧ w' = w :=
  bin_any 110 1 4294967296 w (by decide)
theorem aw_4 (w : World) : Calls Tryd.prog 11 #[.int .i64 106] w fun e w' => e = .returned (.int .i64 2) ∧ w' = w := arity_any 106 w
theorem awake_any (w : World) : Calls Tryd.prog 10 #[] w fun e w' => e = .returned (.bool true) ∧ w' = w := by
  go_enter Tryd.func10, Tryd.ntmps10
  go_wp2_with (first | (go_at_call 14; (with_reducible refine (aw_1 _).mono ?_); rintro e w' ⟨rfl, rfl⟩) | (go_at_call 18; (with_reducible refine (aw_2 _).mono ?_); rintro e w' ⟨rfl, rfl⟩) | (go_at_call 14; (with_reducible refine (aw_3 _).mono ?_); rintro e w' ⟨rfl, rfl⟩) | (go_at_call 11; refine (aw_4 _).mono ?_; rintro e w' ⟨rfl, rfl⟩))
  go_ret
  exact ⟨rfl, rfl⟩
theorem lbin_any (op : Int) (x y : B64) (zx zy : Int) (w : World) (hx : zx = (x.toNat : Int)) (hy : zy = (y.toNat : Int)) (hb : -9223372036854775808 ≤ op ∧ op ≤ 9223372036854775807) :
    Calls Tryd.prog 15 #[.int .i64 op, .int .u64 zx, .int .u64 zy] w fun e w' => e = .returned (.int .u64 ((bB op x y).toNat : Int)) ∧ w' = w := by
  subst hx hy
  have H := Lib.hid hb
  clear hb
  go_enter Tryd.func15, Tryd.ntmps15
  go_wp2_with (go_at_call 14; refine (bin_any op x y _ H.out).mono ?_; rintro e w' ⟨rfl, rfl⟩)
  go_ret
  exact ⟨rfl, rfl⟩

end Go.Proofs.YtllffbdcpilioaaDoor
