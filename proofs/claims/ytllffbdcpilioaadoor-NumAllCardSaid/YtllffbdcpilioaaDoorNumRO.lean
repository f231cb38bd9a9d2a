/-
  plaitref03.order, count, Arity: their contracts.
-/
import Derived.Test.YtllffbdcpilioaaDoorNumRA
import Derived.Test.YtllffbdcpilioaaDoorNumBin
import Derived.Test.YtllffbdcpilioaaDoorDoG
set_option linter.unusedSimpArgs false
set_option linter.unusedVariables false
namespace Go.Proofs.YtllffbdcpilioaaDoor
open Go.RowKit Nm

theorem less_slt (x y : B64) (w : World) : Calls Tryd.prog 42 #[.int .u64 (x.toNat : Int), .int .u64 (y.toNat : Int)] w fun e w' => e = .returned (.bool (x.slt y)) ∧ w' = w := by
  have h := rless_k x.toNat y.toNat w x.isLt y.isLt
  have e : decide ((x.toNat + 9223372036854775808) % 18446744073709551616 < (y.toNat + 9223372036854775808) % 18446744073709551616) = x.slt y := by
    have := x.isLt; have := y.isLt
    rw [BitVec.slt_eq_decide, toInt_cases64, toInt_cases64]
    refine decide_eq_decide.2 ?_
    split <;> split <;> omega
  rw [e] at h
  exact h
theorem yes_tru (b : Bool) (w : World) : Calls Tryd.prog 32 #[.bool b] w fun e w' => e = .returned (.int .u64 ((tru b).toNat : Int)) ∧ w' = w := by
  have h := ryes_k b w
  cases b <;> exact h
theorem eq_slt (x y : B64) : decide (x = y) = (!x.slt y && !y.slt x) := by
  rw [BitVec.slt_eq_decide, BitVec.slt_eq_decide]
  by_cases h : x = y
  · subst h; simp
  · have : x.toInt ≠ y.toInt := fun e => h (BitVec.eq_of_toInt_eq e)
    rw [decide_eq_false h]
    by_cases h1 : x.toInt < y.toInt
    · rw [decide_eq_true h1]; rfl
    · rw [decide_eq_true (show y.toInt < x.toInt by omega)]; simp
theorem rord_0 (x y : B64) (w : World) : Calls Tryd.prog 36 #[.int .i64 0, .int .u64 (x.toNat : Int), .int .u64 (y.toNat : Int)] w fun e w' => e = .returned (.int .u64 ((cmpB 0 x y).toNat : Int)) ∧ w' = w := by
  have l1 := less_slt x y
  have l2 := less_slt y x
  have q1 : decide (x.toNat < y.toNat) = x.ult y := by rw [BitVec.ult_eq_decide]
  have q2 : decide (y.toNat < x.toNat) = y.ult x := by rw [BitVec.ult_eq_decide]
  have hE := eq_slt x y
  obtain ⟨Z, hZ⟩ : ∃ Z, Z = cmpB 0 x y := ⟨_, rfl⟩
  rw [← hZ]
  generalize hb1 : x.slt y = b1 at *
  generalize hb2 : y.slt x = b2 at *
  generalize hu1 : x.ult y = u1 at *
  generalize hu2 : y.ult x = u2 at *
  have hZ2 : Z = tru (!b1 && !b2) := by
    rw [hZ]
    show tru (decide (x = y)) = _
    rw [hE]
  have L1 := Lib.hid l1
  have L2 := Lib.hid l2
  clear l1 l2 hZ hE hb1 hb2 hu1 hu2
  generalize x.toNat = X at *
  generalize y.toNat = Y at *
  subst hZ2
  cases b1 <;> cases b2
  all_goals
    go_enter Tryd.func36, Tryd.ntmps36
    go_wp2_with (first | (go_at_call 42; (with_reducible refine (L1.out _).mono ?_); rintro e u ⟨rfl, rfl⟩) | (go_at_call 42; (with_reducible refine (L2.out _).mono ?_); rintro e u ⟨rfl, rfl⟩) | (go_at_call 32; (with_reducible refine (yes_tru _ _).mono ?_); rintro e u ⟨rfl, rfl⟩))
    go_ret
    exact ⟨rfl, rfl⟩
theorem rord_1 (x y : B64) (w : World) : Calls Tryd.prog 36 #[.int .i64 1, .int .u64 (x.toNat : Int), .int .u64 (y.toNat : Int)] w fun e w' => e = .returned (.int .u64 ((cmpB 1 x y).toNat : Int)) ∧ w' = w := by
  have l1 := less_slt x y
  have l2 := less_slt y x
  have q1 : decide (x.toNat < y.toNat) = x.ult y := by rw [BitVec.ult_eq_decide]
  have q2 : decide (y.toNat < x.toNat) = y.ult x := by rw [BitVec.ult_eq_decide]
  have hE := eq_slt x y
  obtain ⟨Z, hZ⟩ : ∃ Z, Z = cmpB 1 x y := ⟨_, rfl⟩
  rw [← hZ]
  generalize hb1 : x.slt y = b1 at *
  generalize hb2 : y.slt x = b2 at *
  generalize hu1 : x.ult y = u1 at *
  generalize hu2 : y.ult x = u2 at *
  have hZ2 : Z = tru (b1 || b2) := by
    rw [hZ]
    show tru (!decide (x = y)) = _
    rw [hE]; cases b1 <;> cases b2 <;> rfl
  have L1 := Lib.hid l1
  have L2 := Lib.hid l2
  clear l1 l2 hZ hE hb1 hb2 hu1 hu2
  generalize x.toNat = X at *
  generalize y.toNat = Y at *
  subst hZ2
  cases b1 <;> cases b2
  all_goals
    go_enter Tryd.func36, Tryd.ntmps36
    go_wp2_with (first | (go_at_call 42; (with_reducible refine (L1.out _).mono ?_); rintro e u ⟨rfl, rfl⟩) | (go_at_call 42; (with_reducible refine (L2.out _).mono ?_); rintro e u ⟨rfl, rfl⟩) | (go_at_call 32; (with_reducible refine (yes_tru _ _).mono ?_); rintro e u ⟨rfl, rfl⟩))
    go_ret
    exact ⟨rfl, rfl⟩
theorem rord_2 (x y : B64) (w : World) : Calls Tryd.prog 36 #[.int .i64 2, .int .u64 (x.toNat : Int), .int .u64 (y.toNat : Int)] w fun e w' => e = .returned (.int .u64 ((cmpB 2 x y).toNat : Int)) ∧ w' = w := by
  have l1 := less_slt x y
  have l2 := less_slt y x
  have q1 : decide (x.toNat < y.toNat) = x.ult y := by rw [BitVec.ult_eq_decide]
  have q2 : decide (y.toNat < x.toNat) = y.ult x := by rw [BitVec.ult_eq_decide]
  have hE := eq_slt x y
  obtain ⟨Z, hZ⟩ : ∃ Z, Z = cmpB 2 x y := ⟨_, rfl⟩
  rw [← hZ]
  generalize hb1 : x.slt y = b1 at *
  generalize hb2 : y.slt x = b2 at *
  generalize hu1 : x.ult y = u1 at *
  generalize hu2 : y.ult x = u2 at *
  have hZ2 : Z = tru (b1) := by
    rw [hZ]
    show tru (x.slt y) = _
    rw [hb1]
  have L1 := Lib.hid l1
  have L2 := Lib.hid l2
  clear l1 l2 hZ hE hb1 hb2 hu1 hu2
  generalize x.toNat = X at *
  generalize y.toNat = Y at *
  subst hZ2
  cases b1 <;> cases b2
  all_goals
    go_enter Tryd.func36, Tryd.ntmps36
    go_wp2_with (first | (go_at_call 42; (with_reducible refine (L1.out _).mono ?_); rintro e u ⟨rfl, rfl⟩) | (go_at_call 42; (with_reducible refine (L2.out _).mono ?_); rintro e u ⟨rfl, rfl⟩) | (go_at_call 32; (with_reducible refine (yes_tru _ _).mono ?_); rintro e u ⟨rfl, rfl⟩))
    go_ret
    exact ⟨rfl, rfl⟩
theorem rord_3 (x y : B64) (w : World) : Calls Tryd.prog 36 #[.int .i64 3, .int .u64 (x.toNat : Int), .int .u64 (y.toNat : Int)] w fun e w' => e = .returned (.int .u64 ((cmpB 3 x y).toNat : Int)) ∧ w' = w := by
  have l1 := less_slt x y
  have l2 := less_slt y x
  have q1 : decide (x.toNat < y.toNat) = x.ult y := by rw [BitVec.ult_eq_decide]
  have q2 : decide (y.toNat < x.toNat) = y.ult x := by rw [BitVec.ult_eq_decide]
  have hE := eq_slt x y
  obtain ⟨Z, hZ⟩ : ∃ Z, Z = cmpB 3 x y := ⟨_, rfl⟩
  rw [← hZ]
  generalize hb1 : x.slt y = b1 at *
  generalize hb2 : y.slt x = b2 at *
  generalize hu1 : x.ult y = u1 at *
  generalize hu2 : y.ult x = u2 at *
  have hZ2 : Z = tru (u1) := by
    rw [hZ]
    show tru (x.ult y) = _
    rw [hu1]
  have L1 := Lib.hid l1
  have L2 := Lib.hid l2
  clear l1 l2 hZ hE hb1 hb2 hu1 hu2
  generalize x.toNat = X at *
  generalize y.toNat = Y at *
  subst hZ2
  cases u1 <;> cases u2
  all_goals
    go_enter Tryd.func36, Tryd.ntmps36
    go_wp2_with (first | (go_at_call 42; (with_reducible refine (L1.out _).mono ?_); rintro e u ⟨rfl, rfl⟩) | (go_at_call 42; (with_reducible refine (L2.out _).mono ?_); rintro e u ⟨rfl, rfl⟩) | (go_at_call 32; (with_reducible refine (yes_tru _ _).mono ?_); rintro e u ⟨rfl, rfl⟩))
    go_ret
    exact ⟨rfl, rfl⟩
theorem rord_4 (x y : B64) (w : World) : Calls Tryd.prog 36 #[.int .i64 4, .int .u64 (x.toNat : Int), .int .u64 (y.toNat : Int)] w fun e w' => e = .returned (.int .u64 ((cmpB 4 x y).toNat : Int)) ∧ w' = w := by
  have l1 := less_slt x y
  have l2 := less_slt y x
  have q1 : decide (x.toNat < y.toNat) = x.ult y := by rw [BitVec.ult_eq_decide]
  have q2 : decide (y.toNat < x.toNat) = y.ult x := by rw [BitVec.ult_eq_decide]
  have hE := eq_slt x y
  obtain ⟨Z, hZ⟩ : ∃ Z, Z = cmpB 4 x y := ⟨_, rfl⟩
  rw [← hZ]
  generalize hb1 : x.slt y = b1 at *
  generalize hb2 : y.slt x = b2 at *
  generalize hu1 : x.ult y = u1 at *
  generalize hu2 : y.ult x = u2 at *
  have hZ2 : Z = tru (b2) := by
    rw [hZ]
    show tru (y.slt x) = _
    rw [hb2]
  have L1 := Lib.hid l1
  have L2 := Lib.hid l2
  clear l1 l2 hZ hE hb1 hb2 hu1 hu2
  generalize x.toNat = X at *
  generalize y.toNat = Y at *
  subst hZ2
  cases b1 <;> cases b2
  all_goals
    go_enter Tryd.func36, Tryd.ntmps36
    go_wp2_with (first | (go_at_call 42; (with_reducible refine (L1.out _).mono ?_); rintro e u ⟨rfl, rfl⟩) | (go_at_call 42; (with_reducible refine (L2.out _).mono ?_); rintro e u ⟨rfl, rfl⟩) | (go_at_call 32; (with_reducible refine (yes_tru _ _).mono ?_); rintro e u ⟨rfl, rfl⟩))
    go_ret
    exact ⟨rfl, rfl⟩
theorem rord_5 (x y : B64) (w : World) : Calls Tryd.prog 36 #[.int .i64 5, .int .u64 (x.toNat : Int), .int .u64 (y.toNat : Int)] w fun e w' => e = .returned (.int .u64 ((cmpB 5 x y).toNat : Int)) ∧ w' = w := by
  have l1 := less_slt x y
  have l2 := less_slt y x
  have q1 : decide (x.toNat < y.toNat) = x.ult y := by rw [BitVec.ult_eq_decide]
  have q2 : decide (y.toNat < x.toNat) = y.ult x := by rw [BitVec.ult_eq_decide]
  have hE := eq_slt x y
  obtain ⟨Z, hZ⟩ : ∃ Z, Z = cmpB 5 x y := ⟨_, rfl⟩
  rw [← hZ]
  generalize hb1 : x.slt y = b1 at *
  generalize hb2 : y.slt x = b2 at *
  generalize hu1 : x.ult y = u1 at *
  generalize hu2 : y.ult x = u2 at *
  have hZ2 : Z = tru (u2) := by
    rw [hZ]
    show tru (y.ult x) = _
    rw [hu2]
  have L1 := Lib.hid l1
  have L2 := Lib.hid l2
  clear l1 l2 hZ hE hb1 hb2 hu1 hu2
  generalize x.toNat = X at *
  generalize y.toNat = Y at *
  subst hZ2
  cases u1 <;> cases u2
  all_goals
    go_enter Tryd.func36, Tryd.ntmps36
    go_wp2_with (first | (go_at_call 42; (with_reducible refine (L1.out _).mono ?_); rintro e u ⟨rfl, rfl⟩) | (go_at_call 42; (with_reducible refine (L2.out _).mono ?_); rintro e u ⟨rfl, rfl⟩) | (go_at_call 32; (with_reducible refine (yes_tru _ _).mono ?_); rintro e u ⟨rfl, rfl⟩))
    go_ret
    exact ⟨rfl, rfl⟩
theorem rord_6 (x y : B64) (w : World) : Calls Tryd.prog 36 #[.int .i64 6, .int .u64 (x.toNat : Int), .int .u64 (y.toNat : Int)] w fun e w' => e = .returned (.int .u64 ((cmpB 6 x y).toNat : Int)) ∧ w' = w := by
  have l1 := less_slt x y
  have l2 := less_slt y x
  have q1 : decide (x.toNat < y.toNat) = x.ult y := by rw [BitVec.ult_eq_decide]
  have q2 : decide (y.toNat < x.toNat) = y.ult x := by rw [BitVec.ult_eq_decide]
  have hE := eq_slt x y
  obtain ⟨Z, hZ⟩ : ∃ Z, Z = cmpB 6 x y := ⟨_, rfl⟩
  rw [← hZ]
  generalize hb1 : x.slt y = b1 at *
  generalize hb2 : y.slt x = b2 at *
  generalize hu1 : x.ult y = u1 at *
  generalize hu2 : y.ult x = u2 at *
  have hZ2 : Z = tru (!b2) := by
    rw [hZ]
    show tru (!y.slt x) = _
    rw [hb2]
  have L1 := Lib.hid l1
  have L2 := Lib.hid l2
  clear l1 l2 hZ hE hb1 hb2 hu1 hu2
  generalize x.toNat = X at *
  generalize y.toNat = Y at *
  subst hZ2
  cases b1 <;> cases b2
  all_goals
    go_enter Tryd.func36, Tryd.ntmps36
    go_wp2_with (first | (go_at_call 42; (with_reducible refine (L1.out _).mono ?_); rintro e u ⟨rfl, rfl⟩) | (go_at_call 42; (with_reducible refine (L2.out _).mono ?_); rintro e u ⟨rfl, rfl⟩) | (go_at_call 32; (with_reducible refine (yes_tru _ _).mono ?_); rintro e u ⟨rfl, rfl⟩))
    go_ret
    exact ⟨rfl, rfl⟩
theorem rord_7 (x y : B64) (w : World) : Calls Tryd.prog 36 #[.int .i64 7, .int .u64 (x.toNat : Int), .int .u64 (y.toNat : Int)] w fun e w' => e = .returned (.int .u64 ((cmpB 7 x y).toNat : Int)) ∧ w' = w := by
  have l1 := less_slt x y
  have l2 := less_slt y x
  have q1 : decide (x.toNat < y.toNat) = x.ult y := by rw [BitVec.ult_eq_decide]
  have q2 : decide (y.toNat < x.toNat) = y.ult x := by rw [BitVec.ult_eq_decide]
  have hE := eq_slt x y
  obtain ⟨Z, hZ⟩ : ∃ Z, Z = cmpB 7 x y := ⟨_, rfl⟩
  rw [← hZ]
  generalize hb1 : x.slt y = b1 at *
  generalize hb2 : y.slt x = b2 at *
  generalize hu1 : x.ult y = u1 at *
  generalize hu2 : y.ult x = u2 at *
  have hZ2 : Z = tru (!u2) := by
    rw [hZ]
    show tru (!y.ult x) = _
    rw [hu2]
  have L1 := Lib.hid l1
  have L2 := Lib.hid l2
  clear l1 l2 hZ hE hb1 hb2 hu1 hu2
  generalize x.toNat = X at *
  generalize y.toNat = Y at *
  subst hZ2
  cases u1 <;> cases u2
  all_goals
    go_enter Tryd.func36, Tryd.ntmps36
    go_wp2_with (first | (go_at_call 42; (with_reducible refine (L1.out _).mono ?_); rintro e u ⟨rfl, rfl⟩) | (go_at_call 42; (with_reducible refine (L2.out _).mono ?_); rintro e u ⟨rfl, rfl⟩) | (go_at_call 32; (with_reducible refine (yes_tru _ _).mono ?_); rintro e u ⟨rfl, rfl⟩))
    go_ret
    exact ⟨rfl, rfl⟩
theorem rord_8 (x y : B64) (w : World) : Calls Tryd.prog 36 #[.int .i64 8, .int .u64 (x.toNat : Int), .int .u64 (y.toNat : Int)] w fun e w' => e = .returned (.int .u64 ((cmpB 8 x y).toNat : Int)) ∧ w' = w := by
  have l1 := less_slt x y
  have l2 := less_slt y x
  have q1 : decide (x.toNat < y.toNat) = x.ult y := by rw [BitVec.ult_eq_decide]
  have q2 : decide (y.toNat < x.toNat) = y.ult x := by rw [BitVec.ult_eq_decide]
  have hE := eq_slt x y
  obtain ⟨Z, hZ⟩ : ∃ Z, Z = cmpB 8 x y := ⟨_, rfl⟩
  rw [← hZ]
  generalize hb1 : x.slt y = b1 at *
  generalize hb2 : y.slt x = b2 at *
  generalize hu1 : x.ult y = u1 at *
  generalize hu2 : y.ult x = u2 at *
  have hZ2 : Z = tru (!b1) := by
    rw [hZ]
    show tru (!x.slt y) = _
    rw [hb1]
  have L1 := Lib.hid l1
  have L2 := Lib.hid l2
  clear l1 l2 hZ hE hb1 hb2 hu1 hu2
  generalize x.toNat = X at *
  generalize y.toNat = Y at *
  subst hZ2
  cases b1 <;> cases b2
  all_goals
    go_enter Tryd.func36, Tryd.ntmps36
    go_wp2_with (first | (go_at_call 42; (with_reducible refine (L1.out _).mono ?_); rintro e u ⟨rfl, rfl⟩) | (go_at_call 42; (with_reducible refine (L2.out _).mono ?_); rintro e u ⟨rfl, rfl⟩) | (go_at_call 32; (with_reducible refine (yes_tru _ _).mono ?_); rintro e u ⟨rfl, rfl⟩))
    go_ret
    exact ⟨rfl, rfl⟩
theorem rord_9 (x y : B64) (w : World) : Calls Tryd.prog 36 #[.int .i64 9, .int .u64 (x.toNat : Int), .int .u64 (y.toNat : Int)] w fun e w' => e = .returned (.int .u64 ((cmpB 9 x y).toNat : Int)) ∧ w' = w := by
  have l1 := less_slt x y
  have l2 := less_slt y x
  have q1 : decide (x.toNat < y.toNat) = x.ult y := by rw [BitVec.ult_eq_decide]
  have q2 : decide (y.toNat < x.toNat) = y.ult x := by rw [BitVec.ult_eq_decide]
  have hE := eq_slt x y
  obtain ⟨Z, hZ⟩ : ∃ Z, Z = cmpB 9 x y := ⟨_, rfl⟩
  rw [← hZ]
  generalize hb1 : x.slt y = b1 at *
  generalize hb2 : y.slt x = b2 at *
  generalize hu1 : x.ult y = u1 at *
  generalize hu2 : y.ult x = u2 at *
  have hZ2 : Z = tru (!u1) := by
    rw [hZ]
    show tru (!x.ult y) = _
    rw [hu1]
  have L1 := Lib.hid l1
  have L2 := Lib.hid l2
  clear l1 l2 hZ hE hb1 hb2 hu1 hu2
  generalize x.toNat = X at *
  generalize y.toNat = Y at *
  subst hZ2
  cases u1 <;> cases u2
  all_goals
    go_enter Tryd.func36, Tryd.ntmps36
    go_wp2_with (first | (go_at_call 42; (with_reducible refine (L1.out _).mono ?_); rintro e u ⟨rfl, rfl⟩) | (go_at_call 42; (with_reducible refine (L2.out _).mono ?_); rintro e u ⟨rfl, rfl⟩) | (go_at_call 32; (with_reducible refine (yes_tru _ _).mono ?_); rintro e u ⟨rfl, rfl⟩))
    go_ret
    exact ⟨rfl, rfl⟩
theorem bit_mod (x w i : Nat) (h : i < w) : x % 2 ^ w / 2 ^ i % 2 = x / 2 ^ i % 2 := by
  have e1 := Nat.testBit_eq_decide_div_mod_eq (x := x % 2 ^ w) (i := i)
  have e2 := Nat.testBit_eq_decide_div_mod_eq (x := x) (i := i)
  rw [Nat.testBit_mod_two_pow, decide_eq_true h, Bool.true_and, e2] at e1
  have := decide_eq_decide.1 e1
  omega
set_option maxHeartbeats 1000000 in
theorem rcount_32_0 (x : Nat) (w : World) (hx : x < 18446744073709551616) : Calls Tryd.prog 34 #[.int .u64 (x : Int), .int .i64 32, .int .i64 0] w fun e w' => e = .returned (.int .u64 (((32 - Lib.bitLen (x % 2 ^ 32)) : Nat) : Int)) ∧ w' = w := by
  have hF := clz_fz 32 (x % 2 ^ 32) (by decide) (Nat.mod_lt _ (Nat.two_pow_pos _))
  generalize ht : 32 - Lib.bitLen (x % 2 ^ 32) = t at *
  go_enter Tryd.func34, Tryd.ntmps34
  go_wp2_with fail
  go_loopw [7, 8, 9] (fun zv ov iv wr => ∃ i z o : Nat, i ≤ 32 ∧ iv = .int .i64 i ∧ zv = .int .i64 z ∧ ov = .int .i64 o ∧ (z = min i t ∧ (o = 0 ↔ i ≤ t) ∧ o ≤ i) ∧ w = wr) (fun _ _ iv _ => 32 - (intOf iv).toNat)
  case atStart => exact ⟨0, 0, 0, by decide, rfl, rfl, rfl, ⟨by simp, by simp, by decide⟩, rfl⟩
  case round =>
    obtain ⟨i, z, o, hi, rfl, rfl, rfl, hrl, rfl⟩ := hrel
    by_cases hlt : i < 32
    · have hb := bit_mod x 32 (31 - i) (by omega)
      skip
      have eb := shr_mod2 x (31 - i)
      have e1 : ((31 : Int) - (i : Int)) = ((31 - i : Nat) : Int) := by omega
      by_cases h1 : x / 2 ^ (31 - i) % 2 = 1
      · rw [h1] at eb
        have hn : (o + 1 = 0 ↔ i + 1 ≤ t) ∧ z = min (i + 1) t ∧ o + 1 ≤ i + 1 := by
          have hge : t ≤ i := by
            rcases Nat.lt_or_ge i t with h | h
            · have := (show x % 2 ^ 32 / 2 ^ (31 - i) % 2 = 0 from hF.lo i h); omega
            · exact h
          omega
        have HN := Lib.hid hn
        have HR := Lib.hid hrl
        clear hb hn
        go_wp2_with fail
        go_roundw
        case rel => first | exact ⟨i + 1, z, o + 1, by omega, by go_num, rfl, by go_num, (by have h1 := HN.out; have h2 := HR.out; omega), by first | trivial | rfl⟩ | ((repeat apply Exists.intro); exact ⟨⟨i + 1, z, o + 1, by omega, by go_num, rfl, by go_num, (by have h1 := HN.out; have h2 := HR.out; omega), by first | trivial | rfl⟩, rfl⟩)
        case measure => (simp [intOf] <;> omega)
      · have h0 : x / 2 ^ (31 - i) % 2 = 0 := by omega
        rw [h0] at eb
        by_cases ho : o = 0
        · subst ho
          have hn : (0 = 0 ↔ i + 1 ≤ t) ∧ z + 1 = min (i + 1) t := by
            have hle : i ≤ t := by omega
            have hne : i ≠ t := fun e => by have := hF.one (by omega); rw [← e] at this; have h9 := (show x % 2 ^ 32 / 2 ^ (31 - i) % 2 = 1 from this); omega
            omega
          have HN := Lib.hid hn
          have HR := Lib.hid hrl
          clear hb hn h1
          go_wp2_with fail
          go_roundw
          case rel => first | exact ⟨i + 1, z + 1, 0, by omega, by go_num, by go_num, rfl, (by have h1 := HN.out; have h2 := HR.out; omega), by first | trivial | rfl⟩ | ((repeat apply Exists.intro); exact ⟨⟨i + 1, z + 1, 0, by omega, by go_num, by go_num, rfl, (by have h1 := HN.out; have h2 := HR.out; omega), by first | trivial | rfl⟩, rfl⟩)
          case measure => (simp [intOf] <;> omega)
        · have hn : ¬ i + 1 ≤ t ∧ z = min (i + 1) t := by
            omega
          have q0 : ((o : Int) == 0) = false := beq_eq_false_iff_ne.2 (by omega)
          have HN := Lib.hid hn
          have HR := Lib.hid hrl
          have HO := Lib.hid ho
          clear hb hn h1 ho
          go_wp2_with fail
          go_roundw
          case rel => first | exact ⟨i + 1, z, o, by omega, by go_num, rfl, rfl, (by have h1 := HN.out; have h2 := HR.out; have h3 := HO.out; omega), by first | trivial | rfl⟩ | ((repeat apply Exists.intro); exact ⟨⟨i + 1, z, o, by omega, by go_num, rfl, rfl, (by have h1 := HN.out; have h2 := HR.out; have h3 := HO.out; omega), by first | trivial | rfl⟩, rfl⟩)
          case measure => (simp [intOf] <;> omega)
    · obtain rfl : i = 32 := by omega
      have hz : z = t := by have := hF.le; omega
      have hz64 : z ≤ 64 := by omega
      have HZ := Lib.hid hz
      clear hz hrl
      go_wp2_with fail
      go_ret
      exact ⟨ret_q64 (by rw [← HZ.out]), rfl⟩
set_option maxHeartbeats 1000000 in
theorem rcount_32_1 (x : Nat) (w : World) (hx : x < 18446744073709551616) : Calls Tryd.prog 34 #[.int .u64 (x : Int), .int .i64 32, .int .i64 1] w fun e w' => e = .returned (.int .u64 (((Lib.ctz 32 (x % 2 ^ 32)) : Nat) : Int)) ∧ w' = w := by
  have hF := ctz_fz 32 (x % 2 ^ 32) (Nat.mod_lt _ (Nat.two_pow_pos _))
  generalize ht : Lib.ctz 32 (x % 2 ^ 32) = t at *
  go_enter Tryd.func34, Tryd.ntmps34
  go_wp2_with fail
  go_loopw [7, 8, 9] (fun zv ov iv wr => ∃ i z o : Nat, i ≤ 32 ∧ iv = .int .i64 i ∧ zv = .int .i64 z ∧ ov = .int .i64 o ∧ (z = min i t ∧ (o = 0 ↔ i ≤ t) ∧ o ≤ i) ∧ w = wr) (fun _ _ iv _ => 32 - (intOf iv).toNat)
  case atStart => exact ⟨0, 0, 0, by decide, rfl, rfl, rfl, ⟨by simp, by simp, by decide⟩, rfl⟩
  case round =>
    obtain ⟨i, z, o, hi, rfl, rfl, rfl, hrl, rfl⟩ := hrel
    by_cases hlt : i < 32
    · have hb := bit_mod x 32 i (by omega)
      skip
      have eb := shr_mod2 x i
      skip
      by_cases h1 : x / 2 ^ i % 2 = 1
      · rw [h1] at eb
        have hn : (o + 1 = 0 ↔ i + 1 ≤ t) ∧ z = min (i + 1) t ∧ o + 1 ≤ i + 1 := by
          have hge : t ≤ i := by
            rcases Nat.lt_or_ge i t with h | h
            · have := (show x % 2 ^ 32 / 2 ^ i % 2 = 0 from hF.lo i h); omega
            · exact h
          omega
        have HN := Lib.hid hn
        have HR := Lib.hid hrl
        clear hb hn
        go_wp2_with fail
        go_roundw
        case rel => first | exact ⟨i + 1, z, o + 1, by omega, by go_num, rfl, by go_num, (by have h1 := HN.out; have h2 := HR.out; omega), by first | trivial | rfl⟩ | ((repeat apply Exists.intro); exact ⟨⟨i + 1, z, o + 1, by omega, by go_num, rfl, by go_num, (by have h1 := HN.out; have h2 := HR.out; omega), by first | trivial | rfl⟩, rfl⟩)
        case measure => (simp [intOf] <;> omega)
      · have h0 : x / 2 ^ i % 2 = 0 := by omega
        rw [h0] at eb
        by_cases ho : o = 0
        · subst ho
          have hn : (0 = 0 ↔ i + 1 ≤ t) ∧ z + 1 = min (i + 1) t := by
            have hle : i ≤ t := by omega
            have hne : i ≠ t := fun e => by have := hF.one (by omega); rw [← e] at this; have h9 := (show x % 2 ^ 32 / 2 ^ i % 2 = 1 from this); omega
            omega
          have HN := Lib.hid hn
          have HR := Lib.hid hrl
          clear hb hn h1
          go_wp2_with fail
          go_roundw
          case rel => first | exact ⟨i + 1, z + 1, 0, by omega, by go_num, by go_num, rfl, (by have h1 := HN.out; have h2 := HR.out; omega), by first | trivial | rfl⟩ | ((repeat apply Exists.intro); exact ⟨⟨i + 1, z + 1, 0, by omega, by go_num, by go_num, rfl, (by have h1 := HN.out; have h2 := HR.out; omega), by first | trivial | rfl⟩, rfl⟩)
          case measure => (simp [intOf] <;> omega)
        · have hn : ¬ i + 1 ≤ t ∧ z = min (i + 1) t := by
            omega
          have q0 : ((o : Int) == 0) = false := beq_eq_false_iff_ne.2 (by omega)
          have HN := Lib.hid hn
          have HR := Lib.hid hrl
          have HO := Lib.hid ho
          clear hb hn h1 ho
          go_wp2_with fail
          go_roundw
          case rel => first | exact ⟨i + 1, z, o, by omega, by go_num, rfl, rfl, (by have h1 := HN.out; have h2 := HR.out; have h3 := HO.out; omega), by first | trivial | rfl⟩ | ((repeat apply Exists.intro); exact ⟨⟨i + 1, z, o, by omega, by go_num, rfl, rfl, (by have h1 := HN.out; have h2 := HR.out; have h3 := HO.out; omega), by first | trivial | rfl⟩, rfl⟩)
          case measure => (simp [intOf] <;> omega)
    · obtain rfl : i = 32 := by omega
      have hz : z = t := by have := hF.le; omega
      have hz64 : z ≤ 64 := by omega
      have HZ := Lib.hid hz
      clear hz hrl
      go_wp2_with fail
      go_ret
      exact ⟨ret_q64 (by rw [← HZ.out]), rfl⟩
set_option maxHeartbeats 1000000 in
theorem rcount_32_2 (x : Nat) (w : World) (hx : x < 18446744073709551616) : Calls Tryd.prog 34 #[.int .u64 (x : Int), .int .i64 32, .int .i64 2] w fun e w' => e = .returned (.int .u64 (((Lib.onesCount (x % 2 ^ 32)) : Nat) : Int)) ∧ w' = w := by
  rw [ones_pc 32 (x % 2 ^ 32) (by decide) (Nat.mod_lt _ (Nat.two_pow_pos _))]
  obtain ⟨c, hc⟩ : ∃ c, c = x % 2 ^ 32 := ⟨_, rfl⟩
  rw [← hc]
  have HC := Lib.hid hc
  clear hc
  go_enter Tryd.func34, Tryd.ntmps34
  go_wp2_with fail
  go_loopw [7, 8, 9] (fun zv ov iv wr => ∃ i z o : Nat, i ≤ 32 ∧ iv = .int .i64 i ∧ zv = .int .i64 z ∧ ov = .int .i64 o ∧ (z ≤ i ∧ o = pc i c ∧ o ≤ i) ∧ w = wr) (fun _ _ iv _ => 32 - (intOf iv).toNat)
  case atStart => exact ⟨0, 0, 0, by decide, rfl, rfl, rfl, ⟨by decide, rfl, by decide⟩, rfl⟩
  case round =>
    obtain ⟨i, z, o, hi, rfl, rfl, rfl, hrl, rfl⟩ := hrel
    by_cases hlt : i < 32
    · have hb := bit_mod x 32 i (by omega)
      rw [← HC.out] at hb
      have eb := shr_mod2 x i
      skip
      by_cases h1 : x / 2 ^ i % 2 = 1
      · rw [h1] at eb
        have hn : o + 1 = pc (i + 1) c ∧ o + 1 ≤ i + 1 := by
          rw [pc_succ, hb, h1]; omega
        have HN := Lib.hid hn
        have HR := Lib.hid hrl
        clear hb hn
        go_wp2_with fail
        go_roundw
        case rel => first | exact ⟨i + 1, z, o + 1, by omega, by go_num, rfl, by go_num, (by have h1 := HN.out; have h2 := HR.out; omega), by first | trivial | rfl⟩ | ((repeat apply Exists.intro); exact ⟨⟨i + 1, z, o + 1, by omega, by go_num, rfl, by go_num, (by have h1 := HN.out; have h2 := HR.out; omega), by first | trivial | rfl⟩, rfl⟩)
        case measure => (simp [intOf] <;> omega)
      · have h0 : x / 2 ^ i % 2 = 0 := by omega
        rw [h0] at eb
        by_cases ho : o = 0
        · subst ho
          have hn : 0 = pc (i + 1) c := by
            rw [pc_succ, hb, h0]; omega
          have HN := Lib.hid hn
          have HR := Lib.hid hrl
          clear hb hn h1
          go_wp2_with fail
          go_roundw
          case rel => first | exact ⟨i + 1, z + 1, 0, by omega, by go_num, by go_num, rfl, (by have h1 := HN.out; have h2 := HR.out; omega), by first | trivial | rfl⟩ | ((repeat apply Exists.intro); exact ⟨⟨i + 1, z + 1, 0, by omega, by go_num, by go_num, rfl, (by have h1 := HN.out; have h2 := HR.out; omega), by first | trivial | rfl⟩, rfl⟩)
          case measure => (simp [intOf] <;> omega)
        · have hn : o = pc (i + 1) c := by
            rw [pc_succ, hb, h0]; omega
          have q0 : ((o : Int) == 0) = false := beq_eq_false_iff_ne.2 (by omega)
          have HN := Lib.hid hn
          have HR := Lib.hid hrl
          have HO := Lib.hid ho
          clear hb hn h1 ho
          go_wp2_with fail
          go_roundw
          case rel => first | exact ⟨i + 1, z, o, by omega, by go_num, rfl, rfl, (by have h1 := HN.out; have h2 := HR.out; have h3 := HO.out; omega), by first | trivial | rfl⟩ | ((repeat apply Exists.intro); exact ⟨⟨i + 1, z, o, by omega, by go_num, rfl, rfl, (by have h1 := HN.out; have h2 := HR.out; have h3 := HO.out; omega), by first | trivial | rfl⟩, rfl⟩)
          case measure => (simp [intOf] <;> omega)
    · obtain rfl : i = 32 := by omega
      have hz : o = pc 32 c := hrl.2.1
      have hz64 : o ≤ 64 := by omega
      have HZ := Lib.hid hz
      clear hz hrl
      go_wp2_with fail
      go_ret
      exact ⟨ret_q64 (by rw [← HZ.out]), rfl⟩
set_option maxHeartbeats 1000000 in
theorem rcount_64_0 (x : Nat) (w : World) (hx : x < 18446744073709551616) : Calls Tryd.prog 34 #[.int .u64 (x : Int), .int .i64 64, .int .i64 0] w fun e w' => e = .returned (.int .u64 (((64 - Lib.bitLen (x % 2 ^ 64)) : Nat) : Int)) ∧ w' = w := by
  have hF := clz_fz 64 (x % 2 ^ 64) (by decide) (Nat.mod_lt _ (Nat.two_pow_pos _))
  generalize ht : 64 - Lib.bitLen (x % 2 ^ 64) = t at *
  go_enter Tryd.func34, Tryd.ntmps34
  go_wp2_with fail
  go_loopw [7, 8, 9] (fun zv ov iv wr => ∃ i z o : Nat, i ≤ 64 ∧ iv = .int .i64 i ∧ zv = .int .i64 z ∧ ov = .int .i64 o ∧ (z = min i t ∧ (o = 0 ↔ i ≤ t) ∧ o ≤ i) ∧ w = wr) (fun _ _ iv _ => 64 - (intOf iv).toNat)
  case atStart => exact ⟨0, 0, 0, by decide, rfl, rfl, rfl, ⟨by simp, by simp, by decide⟩, rfl⟩
  case round =>
    obtain ⟨i, z, o, hi, rfl, rfl, rfl, hrl, rfl⟩ := hrel
    by_cases hlt : i < 64
    · have hb := bit_mod x 64 (63 - i) (by omega)
      skip
      have eb := shr_mod2 x (63 - i)
      have e1 : ((63 : Int) - (i : Int)) = ((63 - i : Nat) : Int) := by omega
      by_cases h1 : x / 2 ^ (63 - i) % 2 = 1
      · rw [h1] at eb
        have hn : (o + 1 = 0 ↔ i + 1 ≤ t) ∧ z = min (i + 1) t ∧ o + 1 ≤ i + 1 := by
          have hge : t ≤ i := by
            rcases Nat.lt_or_ge i t with h | h
            · have := (show x % 2 ^ 64 / 2 ^ (63 - i) % 2 = 0 from hF.lo i h); omega
            · exact h
          omega
        have HN := Lib.hid hn
        have HR := Lib.hid hrl
        clear hb hn
        go_wp2_with fail
        go_roundw
        case rel => first | exact ⟨i + 1, z, o + 1, by omega, by go_num, rfl, by go_num, (by have h1 := HN.out; have h2 := HR.out; omega), by first | trivial | rfl⟩ | ((repeat apply Exists.intro); exact ⟨⟨i + 1, z, o + 1, by omega, by go_num, rfl, by go_num, (by have h1 := HN.out; have h2 := HR.out; omega), by first | trivial | rfl⟩, rfl⟩)
        case measure => (simp [intOf] <;> omega)
      · have h0 : x / 2 ^ (63 - i) % 2 = 0 := by omega
        rw [h0] at eb
        by_cases ho : o = 0
        · subst ho
          have hn : (0 = 0 ↔ i + 1 ≤ t) ∧ z + 1 = min (i + 1) t := by
            have hle : i ≤ t := by omega
            have hne : i ≠ t := fun e => by have := hF.one (by omega); rw [← e] at this; have h9 := (show x % 2 ^ 64 / 2 ^ (63 - i) % 2 = 1 from this); omega
            omega
          have HN := Lib.hid hn
          have HR := Lib.hid hrl
          clear hb hn h1
          go_wp2_with fail
          go_roundw
          case rel => first | exact ⟨i + 1, z + 1, 0, by omega, by go_num, by go_num, rfl, (by have h1 := HN.out; have h2 := HR.out; omega), by first | trivial | rfl⟩ | ((repeat apply Exists.intro); exact ⟨⟨i + 1, z + 1, 0, by omega, by go_num, by go_num, rfl, (by have h1 := HN.out; have h2 := HR.out; omega), by first | trivial | rfl⟩, rfl⟩)
          case measure => (simp [intOf] <;> omega)
        · have hn : ¬ i + 1 ≤ t ∧ z = min (i + 1) t := by
            omega
          have q0 : ((o : Int) == 0) = false := beq_eq_false_iff_ne.2 (by omega)
          have HN := Lib.hid hn
          have HR := Lib.hid hrl
          have HO := Lib.hid ho
          clear hb hn h1 ho
          go_wp2_with fail
          go_roundw
          case rel => first | exact ⟨i + 1, z, o, by omega, by go_num, rfl, rfl, (by have h1 := HN.out; have h2 := HR.out; have h3 := HO.out; omega), by first | trivial | rfl⟩ | ((repeat apply Exists.intro); exact ⟨⟨i + 1, z, o, by omega, by go_num, rfl, rfl, (by have h1 := HN.out; have h2 := HR.out; have h3 := HO.out; omega), by first | trivial | rfl⟩, rfl⟩)
          case measure => (simp [intOf] <;> omega)
    · obtain rfl : i = 64 := by omega
      have hz : z = t := by have := hF.le; omega
      have hz64 : z ≤ 64 := by omega
      have HZ := Lib.hid hz
      clear hz hrl
      go_wp2_with fail
      go_ret
      exact ⟨ret_q64 (by rw [← HZ.out]), rfl⟩
set_option maxHeartbeats 1000000 in
theorem rcount_64_1 (x : Nat) (w : World) (hx : x < 18446744073709551616) : Calls Tryd.prog 34 #[.int .u64 (x : Int), .int .i64 64, .int .i64 1] w fun e w' => e = .returned (.int .u64 (((Lib.ctz 64 (x % 2 ^ 64)) : Nat) : Int)) ∧ w' = w := by
  have hF := ctz_fz 64 (x % 2 ^ 64) (Nat.mod_lt _ (Nat.two_pow_pos _))
  generalize ht : Lib.ctz 64 (x % 2 ^ 64) = t at *
  go_enter Tryd.func34, Tryd.ntmps34
  go_wp2_with fail
  go_loopw [7, 8, 9] (fun zv ov iv wr => ∃ i z o : Nat, i ≤ 64 ∧ iv = .int .i64 i ∧ zv = .int .i64 z ∧ ov = .int .i64 o ∧ (z = min i t ∧ (o = 0 ↔ i ≤ t) ∧ o ≤ i) ∧ w = wr) (fun _ _ iv _ => 64 - (intOf iv).toNat)
  case atStart => exact ⟨0, 0, 0, by decide, rfl, rfl, rfl, ⟨by simp, by simp, by decide⟩, rfl⟩
  case round =>
    obtain ⟨i, z, o, hi, rfl, rfl, rfl, hrl, rfl⟩ := hrel
    by_cases hlt : i < 64
    · have hb := bit_mod x 64 i (by omega)
      skip
      have eb := shr_mod2 x i
      skip
      by_cases h1 : x / 2 ^ i % 2 = 1
      · rw [h1] at eb
        have hn : (o + 1 = 0 ↔ i + 1 ≤ t) ∧ z = min (i + 1) t ∧ o + 1 ≤ i + 1 := by
          have hge : t ≤ i := by
            rcases Nat.lt_or_ge i t with h | h
            · have := (show x % 2 ^ 64 / 2 ^ i % 2 = 0 from hF.lo i h); omega
            · exact h
          omega
        have HN := Lib.hid hn
        have HR := Lib.hid hrl
        clear hb hn
        go_wp2_with fail
        go_roundw
        case rel => first | exact ⟨i + 1, z, o + 1, by omega, by go_num, rfl, by go_num, (by have h1 := HN.out; have h2 := HR.out; omega), by first | trivial | rfl⟩ | ((repeat apply Exists.intro); exact ⟨⟨i + 1, z, o + 1, by omega, by go_num, rfl, by go_num, (by have h1 := HN.out; have h2 := HR.out; omega), by first | trivial | rfl⟩, rfl⟩)
        case measure => (simp [intOf] <;> omega)
      · have h0 : x / 2 ^ i % 2 = 0 := by omega
        rw [h0] at eb
        by_cases ho : o = 0
        · subst ho
          have hn : (0 = 0 ↔ i + 1 ≤ t) ∧ z + 1 = min (i + 1) t := by
            have hle : i ≤ t := by omega
            have hne : i ≠ t := fun e => by have := hF.one (by omega); rw [← e] at this; have h9 := (show x % 2 ^ 64 / 2 ^ i % 2 = 1 from this); omega
            omega
          have HN := Lib.hid hn
          have HR := Lib.hid hrl
          clear hb hn h1
          go_wp2_with fail
          go_roundw
          case rel => first | exact ⟨i + 1, z + 1, 0, by omega, by go_num, by go_num, rfl, (by have h1 := HN.out; have h2 := HR.out; omega), by first | trivial | rfl⟩ | ((repeat apply Exists.intro); exact ⟨⟨i + 1, z + 1, 0, by omega, by go_num, by go_num, rfl, (by have h1 := HN.out; have h2 := HR.out; omega), by first | trivial | rfl⟩, rfl⟩)
          case measure => (simp [intOf] <;> omega)
        · have hn : ¬ i + 1 ≤ t ∧ z = min (i + 1) t := by
            omega
          have q0 : ((o : Int) == 0) = false := beq_eq_false_iff_ne.2 (by omega)
          have HN := Lib.hid hn
          have HR := Lib.hid hrl
          have HO := Lib.hid ho
          clear hb hn h1 ho
          go_wp2_with fail
          go_roundw
          case rel => first | exact ⟨i + 1, z, o, by omega, by go_num, rfl, rfl, (by have h1 := HN.out; have h2 := HR.out; have h3 := HO.out; omega), by first | trivial | rfl⟩ | ((repeat apply Exists.intro); exact ⟨⟨i + 1, z, o, by omega, by go_num, rfl, rfl, (by have h1 := HN.out; have h2 := HR.out; have h3 := HO.out; omega), by first | trivial | rfl⟩, rfl⟩)
          case measure => (simp [intOf] <;> omega)
    · obtain rfl : i = 64 := by omega
      have hz : z = t := by have := hF.le; omega
      have hz64 : z ≤ 64 := by omega
      have HZ := Lib.hid hz
      clear hz hrl
      go_wp2_with fail
      go_ret
      exact ⟨ret_q64 (by rw [← HZ.out]), rfl⟩
set_option maxHeartbeats 1000000 in
theorem rcount_64_2 (x : Nat) (w : World) (hx : x < 18446744073709551616) : Calls Tryd.prog 34 #[.int .u64 (x : Int), .int .i64 64, .int .i64 2] w fun e w' => e = .returned (.int .u64 (((Lib.onesCount (x % 2 ^ 64)) : Nat) : Int)) ∧ w' = w := by
  rw [ones_pc 64 (x % 2 ^ 64) (by decide) (Nat.mod_lt _ (Nat.two_pow_pos _))]
  obtain ⟨c, hc⟩ : ∃ c, c = x % 2 ^ 64 := ⟨_, rfl⟩
  rw [← hc]
  have HC := Lib.hid hc
  clear hc
  go_enter Tryd.func34, Tryd.ntmps34
  go_wp2_with fail
  go_loopw [7, 8, 9] (fun zv ov iv wr => ∃ i z o : Nat, i ≤ 64 ∧ iv = .int .i64 i ∧ zv = .int .i64 z ∧ ov = .int .i64 o ∧ (z ≤ i ∧ o = pc i c ∧ o ≤ i) ∧ w = wr) (fun _ _ iv _ => 64 - (intOf iv).toNat)
  case atStart => exact ⟨0, 0, 0, by decide, rfl, rfl, rfl, ⟨by decide, rfl, by decide⟩, rfl⟩
  case round =>
    obtain ⟨i, z, o, hi, rfl, rfl, rfl, hrl, rfl⟩ := hrel
    by_cases hlt : i < 64
    · have hb := bit_mod x 64 i (by omega)
      rw [← HC.out] at hb
      have eb := shr_mod2 x i
      skip
      by_cases h1 : x / 2 ^ i % 2 = 1
      · rw [h1] at eb
        have hn : o + 1 = pc (i + 1) c ∧ o + 1 ≤ i + 1 := by
          rw [pc_succ, hb, h1]; omega
        have HN := Lib.hid hn
        have HR := Lib.hid hrl
        clear hb hn
        go_wp2_with fail
        go_roundw
        case rel => first | exact ⟨i + 1, z, o + 1, by omega, by go_num, rfl, by go_num, (by have h1 := HN.out; have h2 := HR.out; omega), by first | trivial | rfl⟩ | ((repeat apply Exists.intro); exact ⟨⟨i + 1, z, o + 1, by omega, by go_num, rfl, by go_num, (by have h1 := HN.out; have h2 := HR.out; omega), by first | trivial | rfl⟩, rfl⟩)
        case measure => (simp [intOf] <;> omega)
      · have h0 : x / 2 ^ i % 2 = 0 := by omega
        rw [h0] at eb
        by_cases ho : o = 0
        · subst ho
          have hn : 0 = pc (i + 1) c := by
            rw [pc_succ, hb, h0]; omega
          have HN := Lib.hid hn
          have HR := Lib.hid hrl
          clear hb hn h1
          go_wp2_with fail
          go_roundw
          case rel => first | exact ⟨i + 1, z + 1, 0, by omega, by go_num, by go_num, rfl, (by have h1 := HN.out; have h2 := HR.out; omega), by first | trivial | rfl⟩ | ((repeat apply Exists.intro); exact ⟨⟨i + 1, z + 1, 0, by omega, by go_num, by go_num, rfl, (by have h1 := HN.out; have h2 := HR.out; omega), by first | trivial | rfl⟩, rfl⟩)
          case measure => (simp [intOf] <;> omega)
        · have hn : o = pc (i + 1) c := by
            rw [pc_succ, hb, h0]; omega
          have q0 : ((o : Int) == 0) = false := beq_eq_false_iff_ne.2 (by omega)
          have HN := Lib.hid hn
          have HR := Lib.hid hrl
          have HO := Lib.hid ho
          clear hb hn h1 ho
          go_wp2_with fail
          go_roundw
          case rel => first | exact ⟨i + 1, z, o, by omega, by go_num, rfl, rfl, (by have h1 := HN.out; have h2 := HR.out; have h3 := HO.out; omega), by first | trivial | rfl⟩ | ((repeat apply Exists.intro); exact ⟨⟨i + 1, z, o, by omega, by go_num, rfl, rfl, (by have h1 := HN.out; have h2 := HR.out; have h3 := HO.out; omega), by first | trivial | rfl⟩, rfl⟩)
          case measure => (simp [intOf] <;> omega)
    · obtain rfl : i = 64 := by omega
      have hz : o = pc 64 c := hrl.2.1
      have hz64 : o ≤ 64 := by omega
      have HZ := Lib.hid hz
      clear hz hrl
      go_wp2_with fail
      go_ret
      exact ⟨ret_q64 (by rw [← HZ.out]), rfl⟩
end Go.Proofs.YtllffbdcpilioaaDoor
