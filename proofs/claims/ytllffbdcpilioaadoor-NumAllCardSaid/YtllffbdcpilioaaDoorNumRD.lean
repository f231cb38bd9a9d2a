/-
  plaitref03.Un, num.Un: their contracts.
-/
import Derived.Test.YtllffbdcpilioaaDoorNumRB
import Derived.Test.YtllffbdcpilioaaDoorNumRW
import Derived.Test.YtllffbdcpilioaaDoorNumUn
import Derived.Test.YtllffbdcpilioaaDoorNumCnt64
set_option linter.unusedSimpArgs false
set_option linter.unusedVariables false
namespace Go.Proofs.YtllffbdcpilioaaDoor
open Go.RowKit _root_.Nm
set_option linter.unusedVariables false

theorem ext8_64 (x : B64) : sg8 x.toNat = ((x.setWidth 8).signExtend 64).toNat := by
  have h1 : ((x.setWidth 8).signExtend 64).toInt = (x.setWidth 8).toInt := BitVec.toInt_signExtend_of_le (by decide)
  have h3 : (x.setWidth 8).toNat = x.toNat % 256 := by simp
  have h2 : (x.setWidth 8).toInt = if (x.setWidth 8).toNat < 128 then ((x.setWidth 8).toNat : Int) else (x.setWidth 8).toNat - 256 := by
    rw [BitVec.toInt_eq_toNat_cond]; split <;> split <;> omega
  rw [toInt_cases64, h2, h3] at h1
  have := ((x.setWidth 8).signExtend 64).isLt
  unfold sg8
  split at h1 <;> split at h1 <;> split <;> omega
theorem ext16_64 (x : B64) : sg16 x.toNat = ((x.setWidth 16).signExtend 64).toNat := by
  have h1 : ((x.setWidth 16).signExtend 64).toInt = (x.setWidth 16).toInt := BitVec.toInt_signExtend_of_le (by decide)
  have h3 : (x.setWidth 16).toNat = x.toNat % 65536 := by simp
  have h2 : (x.setWidth 16).toInt = if (x.setWidth 16).toNat < 32768 then ((x.setWidth 16).toNat : Int) else (x.setWidth 16).toNat - 65536 := by
    rw [BitVec.toInt_eq_toNat_cond]; split <;> split <;> omega
  rw [toInt_cases64, h2, h3] at h1
  have := ((x.setWidth 16).signExtend 64).isLt
  unfold sg16
  split at h1 <;> split at h1 <;> split <;> omega
theorem ext8_32 (x : B64) : sg8 x.toNat % 4294967296 = (up ((x.setWidth 8).signExtend 32)).toNat := by
  have h1 : ((x.setWidth 8).signExtend 32).toInt = (x.setWidth 8).toInt := BitVec.toInt_signExtend_of_le (by decide)
  have h3 : (x.setWidth 8).toNat = x.toNat % 256 := by simp
  have h2 : (x.setWidth 8).toInt = if (x.setWidth 8).toNat < 128 then ((x.setWidth 8).toNat : Int) else (x.setWidth 8).toNat - 256 := by
    rw [BitVec.toInt_eq_toNat_cond]; split <;> split <;> omega
  rw [toInt_cases, h2, h3] at h1
  have := ((x.setWidth 8).signExtend 32).isLt
  rw [up_toNat']
  unfold sg8
  split at h1 <;> split at h1 <;> split <;> omega
theorem ext16_32 (x : B64) : sg16 x.toNat % 4294967296 = (up ((x.setWidth 16).signExtend 32)).toNat := by
  have h1 : ((x.setWidth 16).signExtend 32).toInt = (x.setWidth 16).toInt := BitVec.toInt_signExtend_of_le (by decide)
  have h3 : (x.setWidth 16).toNat = x.toNat % 65536 := by simp
  have h2 : (x.setWidth 16).toInt = if (x.setWidth 16).toNat < 32768 then ((x.setWidth 16).toNat : Int) else (x.setWidth 16).toNat - 65536 := by
    rw [BitVec.toInt_eq_toNat_cond]; split <;> split <;> omega
  rw [toInt_cases, h2, h3] at h1
  have := ((x.setWidth 16).signExtend 32).isLt
  rw [up_toNat']
  unfold sg16
  split at h1 <;> split at h1 <;> split <;> omega
theorem run_69 (x : B64) (w : World) : Calls Tryd.prog 19 #[.int .i64 69, .int .u64 (x.toNat : Int)] w fun e w' => e = .returned (.tuple #[.int .u64 ((unB 69 x).1.toNat : Int), .int .i64 (unB 69 x).2]) ∧ Below w.heap.size w w' := by
  have AR : ∀ W, Calls Tryd.prog 12 #[.int .i64 69] W fun e w' => e = .returned (.int .i64 1) ∧ Below W.heap.size W w' := fun W => by have h := rarity_k 69 W; rw [← (ar_1 (by decide) : 1 = arN 69)] at h; exact h
  replace AR := Lib.hid AR
  have CX := Lib.hid (fun W => rcut_32 x.toNat W x.isLt)
  show Calls Tryd.prog 19 #[.int .i64 69, .int .u64 (x.toNat : Int)] w fun e w' => e = .returned (.tuple #[.int .u64 ((tru (decide (lo x = 0))).toNat : Int), .int .i64 0]) ∧ Below w.heap.size w w'
  by_cases h0 : lo x = 0
  · rw [decide_eq_true h0]
    have tC : (((x.toNat % 4294967296 : Nat) : Int) == 0) = true := by rw [cut32_eq, h0]; rfl
    clear h0
    generalize ((x.toNat % 4294967296 : Nat) : Int) = C at *
    generalize (x.toNat : Int) = X at *
    go_enter Tryd.func19, Tryd.ntmps19
    go_wp2_with (first | (go_at_call 12; (with_reducible refine (AR.out _).mono ?_); rintro e u ⟨rfl, hb⟩) | (go_at_call 33; (with_reducible refine (CX.out _).mono ?_); rintro e u ⟨rfl, rfl⟩) | (go_at_call 32; (with_reducible refine (yes_tru _ _).mono ?_); rintro e u ⟨rfl, rfl⟩))
    go_ret2
    exact ⟨rfl, hb⟩
  · rw [decide_eq_false h0]
    have tC : (((x.toNat % 4294967296 : Nat) : Int) == 0) = false := by
      rw [beq_eq_false_iff_ne, cut32_eq]
      exact fun h => h0 (up_inj (BitVec.eq_of_toNat_eq (by show (up (lo x)).toNat = 0; omega)))
    clear h0
    generalize ((x.toNat % 4294967296 : Nat) : Int) = C at *
    generalize (x.toNat : Int) = X at *
    go_enter Tryd.func19, Tryd.ntmps19
    go_wp2_with (first | (go_at_call 12; (with_reducible refine (AR.out _).mono ?_); rintro e u ⟨rfl, hb⟩) | (go_at_call 33; (with_reducible refine (CX.out _).mono ?_); rintro e u ⟨rfl, rfl⟩) | (go_at_call 32; (with_reducible refine (yes_tru _ _).mono ?_); rintro e u ⟨rfl, rfl⟩))
    go_ret2
    exact ⟨rfl, hb⟩
theorem run_80 (x : B64) (w : World) : Calls Tryd.prog 19 #[.int .i64 80, .int .u64 (x.toNat : Int)] w fun e w' => e = .returned (.tuple #[.int .u64 ((unB 80 x).1.toNat : Int), .int .i64 (unB 80 x).2]) ∧ Below w.heap.size w w' := by
  have AR : ∀ W, Calls Tryd.prog 12 #[.int .i64 80] W fun e w' => e = .returned (.int .i64 1) ∧ Below W.heap.size W w' := fun W => by have h := rarity_k 80 W; rw [← (ar_1 (by decide) : 1 = arN 80)] at h; exact h
  replace AR := Lib.hid AR
  show Calls Tryd.prog 19 #[.int .i64 80, .int .u64 (x.toNat : Int)] w fun e w' => e = .returned (.tuple #[.int .u64 ((tru (decide (x = 0))).toNat : Int), .int .i64 0]) ∧ Below w.heap.size w w'
  by_cases h0 : x = 0
  · rw [decide_eq_true h0]
    have tC : ((x.toNat : Int) == 0) = true := by rw [h0]; rfl
    clear h0
    generalize (x.toNat : Int) = X at *
    go_enter Tryd.func19, Tryd.ntmps19
    go_wp2_with (first | (go_at_call 12; (with_reducible refine (AR.out _).mono ?_); rintro e u ⟨rfl, hb⟩) | (go_at_call 32; (with_reducible refine (yes_tru _ _).mono ?_); rintro e u ⟨rfl, rfl⟩))
    go_ret2
    exact ⟨rfl, hb⟩
  · rw [decide_eq_false h0]
    have tC : ((x.toNat : Int) == 0) = false := by
      rw [beq_eq_false_iff_ne]
      exact fun h => h0 (BitVec.eq_of_toNat_eq (by simpa using h))
    clear h0
    generalize (x.toNat : Int) = X at *
    go_enter Tryd.func19, Tryd.ntmps19
    go_wp2_with (first | (go_at_call 12; (with_reducible refine (AR.out _).mono ?_); rintro e u ⟨rfl, hb⟩) | (go_at_call 32; (with_reducible refine (yes_tru _ _).mono ?_); rintro e u ⟨rfl, rfl⟩))
    go_ret2
    exact ⟨rfl, hb⟩
theorem run_103 (x : B64) (w : World) : Calls Tryd.prog 19 #[.int .i64 103, .int .u64 (x.toNat : Int)] w fun e w' => e = .returned (.tuple #[.int .u64 ((unB 103 x).1.toNat : Int), .int .i64 (unB 103 x).2]) ∧ Below w.heap.size w w' := by
  have AR : ∀ W, Calls Tryd.prog 12 #[.int .i64 103] W fun e w' => e = .returned (.int .i64 1) ∧ Below W.heap.size W w' := fun W => by have h := rarity_k 103 W; rw [← (ar_1 (by decide) : 1 = arN 103)] at h; exact h
  replace AR := Lib.hid AR
  have e : (unB 103 x).1.toNat = 32 - Lib.bitLen (x.toNat % 2 ^ 32) := by
    show (BitVec.ofNat 64 (32 - Lib.bitLen (lo x).toNat)).toNat = _
    rw [ofNat_small _ (Nat.le_trans (Nat.sub_le _ _) (by decide)), lo_toNat]
  rw [e]
  show Calls Tryd.prog 19 #[.int .i64 103, .int .u64 (x.toNat : Int)] w fun e w' => e = .returned (.tuple #[.int .u64 ((32 - Lib.bitLen (x.toNat % 2 ^ 32) : Nat) : Int), .int .i64 0]) ∧ Below w.heap.size w w'
  have CT := Lib.hid (fun W => rcount_32_0 x.toNat W x.isLt)
  clear e
  generalize ((32 - Lib.bitLen (x.toNat % 2 ^ 32) : Nat) : Int) = R at *
  generalize (x.toNat : Int) = X at *
  go_enter Tryd.func19, Tryd.ntmps19
  go_wp2_with (first | (go_at_call 12; (with_reducible refine (AR.out _).mono ?_); rintro e u ⟨rfl, hb⟩) | (go_at_call 34; (with_reducible refine (CT.out _).mono ?_); rintro e u ⟨rfl, rfl⟩))
  go_ret2
  exact ⟨rfl, hb⟩
theorem run_104 (x : B64) (w : World) : Calls Tryd.prog 19 #[.int .i64 104, .int .u64 (x.toNat : Int)] w fun e w' => e = .returned (.tuple #[.int .u64 ((unB 104 x).1.toNat : Int), .int .i64 (unB 104 x).2]) ∧ Below w.heap.size w w' := by
  have AR : ∀ W, Calls Tryd.prog 12 #[.int .i64 104] W fun e w' => e = .returned (.int .i64 1) ∧ Below W.heap.size W w' := fun W => by have h := rarity_k 104 W; rw [← (ar_1 (by decide) : 1 = arN 104)] at h; exact h
  replace AR := Lib.hid AR
  have e : (unB 104 x).1.toNat = Lib.ctz 32 (x.toNat % 2 ^ 32) := by
    show (BitVec.ofNat 64 (Lib.ctz 32 (lo x).toNat)).toNat = _
    rw [ofNat_small _ (Nat.le_trans (ctz_le 32 _) (by decide)), lo_toNat]
  rw [e]
  show Calls Tryd.prog 19 #[.int .i64 104, .int .u64 (x.toNat : Int)] w fun e w' => e = .returned (.tuple #[.int .u64 ((Lib.ctz 32 (x.toNat % 2 ^ 32) : Nat) : Int), .int .i64 0]) ∧ Below w.heap.size w w'
  have CT := Lib.hid (fun W => rcount_32_1 x.toNat W x.isLt)
  clear e
  generalize ((Lib.ctz 32 (x.toNat % 2 ^ 32) : Nat) : Int) = R at *
  generalize (x.toNat : Int) = X at *
  go_enter Tryd.func19, Tryd.ntmps19
  go_wp2_with (first | (go_at_call 12; (with_reducible refine (AR.out _).mono ?_); rintro e u ⟨rfl, hb⟩) | (go_at_call 34; (with_reducible refine (CT.out _).mono ?_); rintro e u ⟨rfl, rfl⟩))
  go_ret2
  exact ⟨rfl, hb⟩
theorem run_105 (x : B64) (w : World) : Calls Tryd.prog 19 #[.int .i64 105, .int .u64 (x.toNat : Int)] w fun e w' => e = .returned (.tuple #[.int .u64 ((unB 105 x).1.toNat : Int), .int .i64 (unB 105 x).2]) ∧ Below w.heap.size w w' := by
  have AR : ∀ W, Calls Tryd.prog 12 #[.int .i64 105] W fun e w' => e = .returned (.int .i64 1) ∧ Below W.heap.size W w' := fun W => by have h := rarity_k 105 W; rw [← (ar_1 (by decide) : 1 = arN 105)] at h; exact h
  replace AR := Lib.hid AR
  have e : (unB 105 x).1.toNat = Lib.onesCount (x.toNat % 2 ^ 32) := by
    show (BitVec.ofNat 64 (Lib.onesCount (lo x).toNat)).toNat = _
    rw [ofNat_small _ (pop_le _), lo_toNat]
  rw [e]
  show Calls Tryd.prog 19 #[.int .i64 105, .int .u64 (x.toNat : Int)] w fun e w' => e = .returned (.tuple #[.int .u64 ((Lib.onesCount (x.toNat % 2 ^ 32) : Nat) : Int), .int .i64 0]) ∧ Below w.heap.size w w'
  have CT := Lib.hid (fun W => rcount_32_2 x.toNat W x.isLt)
  clear e
  generalize ((Lib.onesCount (x.toNat % 2 ^ 32) : Nat) : Int) = R at *
  generalize (x.toNat : Int) = X at *
  go_enter Tryd.func19, Tryd.ntmps19
  go_wp2_with (first | (go_at_call 12; (with_reducible refine (AR.out _).mono ?_); rintro e u ⟨rfl, hb⟩) | (go_at_call 34; (with_reducible refine (CT.out _).mono ?_); rintro e u ⟨rfl, rfl⟩))
  go_ret2
  exact ⟨rfl, hb⟩
theorem run_121 (x : B64) (w : World) : Calls Tryd.prog 19 #[.int .i64 121, .int .u64 (x.toNat : Int)] w fun e w' => e = .returned (.tuple #[.int .u64 ((unB 121 x).1.toNat : Int), .int .i64 (unB 121 x).2]) ∧ Below w.heap.size w w' := by
  have AR : ∀ W, Calls Tryd.prog 12 #[.int .i64 121] W fun e w' => e = .returned (.int .i64 1) ∧ Below W.heap.size W w' := fun W => by have h := rarity_k 121 W; rw [← (ar_1 (by decide) : 1 = arN 121)] at h; exact h
  replace AR := Lib.hid AR
  have e : (unB 121 x).1.toNat = 64 - Lib.bitLen (x.toNat % 2 ^ 64) := by
    show (BitVec.ofNat 64 (64 - Lib.bitLen x.toNat)).toNat = _
    rw [ofNat_small _ (Nat.le_trans (Nat.sub_le _ _) (by decide)), Nat.mod_eq_of_lt (show x.toNat < 2 ^ 64 from x.isLt)]
  rw [e]
  show Calls Tryd.prog 19 #[.int .i64 121, .int .u64 (x.toNat : Int)] w fun e w' => e = .returned (.tuple #[.int .u64 ((64 - Lib.bitLen (x.toNat % 2 ^ 64) : Nat) : Int), .int .i64 0]) ∧ Below w.heap.size w w'
  have CT := Lib.hid (fun W => rcount_64_0 x.toNat W x.isLt)
  clear e
  generalize ((64 - Lib.bitLen (x.toNat % 2 ^ 64) : Nat) : Int) = R at *
  generalize (x.toNat : Int) = X at *
  go_enter Tryd.func19, Tryd.ntmps19
  go_wp2_with (first | (go_at_call 12; (with_reducible refine (AR.out _).mono ?_); rintro e u ⟨rfl, hb⟩) | (go_at_call 34; (with_reducible refine (CT.out _).mono ?_); rintro e u ⟨rfl, rfl⟩))
  go_ret2
  exact ⟨rfl, hb⟩
theorem run_122 (x : B64) (w : World) : Calls Tryd.prog 19 #[.int .i64 122, .int .u64 (x.toNat : Int)] w fun e w' => e = .returned (.tuple #[.int .u64 ((unB 122 x).1.toNat : Int), .int .i64 (unB 122 x).2]) ∧ Below w.heap.size w w' := by
  have AR : ∀ W, Calls Tryd.prog 12 #[.int .i64 122] W fun e w' => e = .returned (.int .i64 1) ∧ Below W.heap.size W w' := fun W => by have h := rarity_k 122 W; rw [← (ar_1 (by decide) : 1 = arN 122)] at h; exact h
  replace AR := Lib.hid AR
  have e : (unB 122 x).1.toNat = Lib.ctz 64 (x.toNat % 2 ^ 64) := by
    show (BitVec.ofNat 64 (Lib.ctz 64 x.toNat)).toNat = _
    rw [ofNat_small _ (ctz_le 64 _), Nat.mod_eq_of_lt (show x.toNat < 2 ^ 64 from x.isLt)]
  rw [e]
  show Calls Tryd.prog 19 #[.int .i64 122, .int .u64 (x.toNat : Int)] w fun e w' => e = .returned (.tuple #[.int .u64 ((Lib.ctz 64 (x.toNat % 2 ^ 64) : Nat) : Int), .int .i64 0]) ∧ Below w.heap.size w w'
  have CT := Lib.hid (fun W => rcount_64_1 x.toNat W x.isLt)
  clear e
  generalize ((Lib.ctz 64 (x.toNat % 2 ^ 64) : Nat) : Int) = R at *
  generalize (x.toNat : Int) = X at *
  go_enter Tryd.func19, Tryd.ntmps19
  go_wp2_with (first | (go_at_call 12; (with_reducible refine (AR.out _).mono ?_); rintro e u ⟨rfl, hb⟩) | (go_at_call 34; (with_reducible refine (CT.out _).mono ?_); rintro e u ⟨rfl, rfl⟩))
  go_ret2
  exact ⟨rfl, hb⟩
theorem run_123 (x : B64) (w : World) : Calls Tryd.prog 19 #[.int .i64 123, .int .u64 (x.toNat : Int)] w fun e w' => e = .returned (.tuple #[.int .u64 ((unB 123 x).1.toNat : Int), .int .i64 (unB 123 x).2]) ∧ Below w.heap.size w w' := by
  have AR : ∀ W, Calls Tryd.prog 12 #[.int .i64 123] W fun e w' => e = .returned (.int .i64 1) ∧ Below W.heap.size W w' := fun W => by have h := rarity_k 123 W; rw [← (ar_1 (by decide) : 1 = arN 123)] at h; exact h
  replace AR := Lib.hid AR
  have e : (unB 123 x).1.toNat = Lib.onesCount (x.toNat % 2 ^ 64) := by
    show (BitVec.ofNat 64 (Lib.onesCount x.toNat)).toNat = _
    rw [ofNat_small _ (pop_le _), Nat.mod_eq_of_lt (show x.toNat < 2 ^ 64 from x.isLt)]
  rw [e]
  show Calls Tryd.prog 19 #[.int .i64 123, .int .u64 (x.toNat : Int)] w fun e w' => e = .returned (.tuple #[.int .u64 ((Lib.onesCount (x.toNat % 2 ^ 64) : Nat) : Int), .int .i64 0]) ∧ Below w.heap.size w w'
  have CT := Lib.hid (fun W => rcount_64_2 x.toNat W x.isLt)
  clear e
  generalize ((Lib.onesCount (x.toNat % 2 ^ 64) : Nat) : Int) = R at *
  generalize (x.toNat : Int) = X at *
  go_enter Tryd.func19, Tryd.ntmps19
  go_wp2_with (first | (go_at_call 12; (with_reducible refine (AR.out _).mono ?_); rintro e u ⟨rfl, hb⟩) | (go_at_call 34; (with_reducible refine (CT.out _).mono ?_); rintro e u ⟨rfl, rfl⟩))
  go_ret2
  exact ⟨rfl, hb⟩
theorem run_167 (x : B64) (w : World) : Calls Tryd.prog 19 #[.int .i64 167, .int .u64 (x.toNat : Int)] w fun e w' => e = .returned (.tuple #[.int .u64 ((unB 167 x).1.toNat : Int), .int .i64 (unB 167 x).2]) ∧ Below w.heap.size w w' := by
  have AR : ∀ W, Calls Tryd.prog 12 #[.int .i64 167] W fun e w' => e = .returned (.int .i64 1) ∧ Below W.heap.size W w' := fun W => by have h := rarity_k 167 W; rw [← (ar_1 (by decide) : 1 = arN 167)] at h; exact h
  replace AR := Lib.hid AR
  have CX : ∀ W, Calls Tryd.prog 33 #[.int .u64 (x.toNat : Int), .int .i64 32] W fun e w' => e = .returned (.int .u64 ((up (lo x)).toNat : Int)) ∧ w' = W := fun W => by have h := rcut_32 x.toNat W x.isLt; rw [cut32_eq] at h; exact h
  replace CX := Lib.hid CX
  show Calls Tryd.prog 19 #[.int .i64 167, .int .u64 (x.toNat : Int)] w fun e w' => e = .returned (.tuple #[.int .u64 ((up (lo x)).toNat : Int), .int .i64 0]) ∧ Below w.heap.size w w'
  generalize ((up (lo x)).toNat : Int) = R at *
  generalize (x.toNat : Int) = X at *
  go_enter Tryd.func19, Tryd.ntmps19
  go_wp2_with (first | (go_at_call 12; (with_reducible refine (AR.out _).mono ?_); rintro e u ⟨rfl, hb⟩) | (go_at_call 33; (with_reducible refine (CX.out _).mono ?_); rintro e u ⟨rfl, rfl⟩))
  go_ret2
  exact ⟨rfl, hb⟩
theorem run_173 (x : B64) (w : World) : Calls Tryd.prog 19 #[.int .i64 173, .int .u64 (x.toNat : Int)] w fun e w' => e = .returned (.tuple #[.int .u64 ((unB 173 x).1.toNat : Int), .int .i64 (unB 173 x).2]) ∧ Below w.heap.size w w' := by
  have AR : ∀ W, Calls Tryd.prog 12 #[.int .i64 173] W fun e w' => e = .returned (.int .i64 1) ∧ Below W.heap.size W w' := fun W => by have h := rarity_k 173 W; rw [← (ar_1 (by decide) : 1 = arN 173)] at h; exact h
  replace AR := Lib.hid AR
  have CX : ∀ W, Calls Tryd.prog 33 #[.int .u64 (x.toNat : Int), .int .i64 32] W fun e w' => e = .returned (.int .u64 ((up (lo x)).toNat : Int)) ∧ w' = W := fun W => by have h := rcut_32 x.toNat W x.isLt; rw [cut32_eq] at h; exact h
  replace CX := Lib.hid CX
  show Calls Tryd.prog 19 #[.int .i64 173, .int .u64 (x.toNat : Int)] w fun e w' => e = .returned (.tuple #[.int .u64 ((up (lo x)).toNat : Int), .int .i64 0]) ∧ Below w.heap.size w w'
  generalize ((up (lo x)).toNat : Int) = R at *
  generalize (x.toNat : Int) = X at *
  go_enter Tryd.func19, Tryd.ntmps19
  go_wp2_with (first | (go_at_call 12; (with_reducible refine (AR.out _).mono ?_); rintro e u ⟨rfl, hb⟩) | (go_at_call 33; (with_reducible refine (CX.out _).mono ?_); rintro e u ⟨rfl, rfl⟩))
  go_ret2
  exact ⟨rfl, hb⟩
theorem run_172 (x : B64) (w : World) : Calls Tryd.prog 19 #[.int .i64 172, .int .u64 (x.toNat : Int)] w fun e w' => e = .returned (.tuple #[.int .u64 ((unB 172 x).1.toNat : Int), .int .i64 (unB 172 x).2]) ∧ Below w.heap.size w w' := by
  have AR : ∀ W, Calls Tryd.prog 12 #[.int .i64 172] W fun e w' => e = .returned (.int .i64 1) ∧ Below W.heap.size W w' := fun W => by have h := rarity_k 172 W; rw [← (ar_1 (by decide) : 1 = arN 172)] at h; exact h
  replace AR := Lib.hid AR
  have CX : ∀ W, Calls Tryd.prog 35 #[.int .u64 (x.toNat : Int), .int .i64 32] W fun e w' => e = .returned (.int .u64 ((sx x).toNat : Int)) ∧ w' = W := fun W => by have h := rsign_32 x.toNat W x.isLt; rw [sg32_eq] at h; exact h
  replace CX := Lib.hid CX
  show Calls Tryd.prog 19 #[.int .i64 172, .int .u64 (x.toNat : Int)] w fun e w' => e = .returned (.tuple #[.int .u64 ((sx x).toNat : Int), .int .i64 0]) ∧ Below w.heap.size w w'
  generalize ((sx x).toNat : Int) = R at *
  generalize (x.toNat : Int) = X at *
  go_enter Tryd.func19, Tryd.ntmps19
  go_wp2_with (first | (go_at_call 12; (with_reducible refine (AR.out _).mono ?_); rintro e u ⟨rfl, hb⟩) | (go_at_call 35; (with_reducible refine (CX.out _).mono ?_); rintro e u ⟨rfl, rfl⟩))
  go_ret2
  exact ⟨rfl, hb⟩
theorem run_196 (x : B64) (w : World) : Calls Tryd.prog 19 #[.int .i64 196, .int .u64 (x.toNat : Int)] w fun e w' => e = .returned (.tuple #[.int .u64 ((unB 196 x).1.toNat : Int), .int .i64 (unB 196 x).2]) ∧ Below w.heap.size w w' := by
  have AR : ∀ W, Calls Tryd.prog 12 #[.int .i64 196] W fun e w' => e = .returned (.int .i64 1) ∧ Below W.heap.size W w' := fun W => by have h := rarity_k 196 W; rw [← (ar_1 (by decide) : 1 = arN 196)] at h; exact h
  replace AR := Lib.hid AR
  have CX : ∀ W, Calls Tryd.prog 35 #[.int .u64 (x.toNat : Int), .int .i64 32] W fun e w' => e = .returned (.int .u64 ((sx x).toNat : Int)) ∧ w' = W := fun W => by have h := rsign_32 x.toNat W x.isLt; rw [sg32_eq] at h; exact h
  replace CX := Lib.hid CX
  show Calls Tryd.prog 19 #[.int .i64 196, .int .u64 (x.toNat : Int)] w fun e w' => e = .returned (.tuple #[.int .u64 ((sx x).toNat : Int), .int .i64 0]) ∧ Below w.heap.size w w'
  generalize ((sx x).toNat : Int) = R at *
  generalize (x.toNat : Int) = X at *
  go_enter Tryd.func19, Tryd.ntmps19
  go_wp2_with (first | (go_at_call 12; (with_reducible refine (AR.out _).mono ?_); rintro e u ⟨rfl, hb⟩) | (go_at_call 35; (with_reducible refine (CX.out _).mono ?_); rintro e u ⟨rfl, rfl⟩))
  go_ret2
  exact ⟨rfl, hb⟩
theorem run_192 (x : B64) (w : World) : Calls Tryd.prog 19 #[.int .i64 192, .int .u64 (x.toNat : Int)] w fun e w' => e = .returned (.tuple #[.int .u64 ((unB 192 x).1.toNat : Int), .int .i64 (unB 192 x).2]) ∧ Below w.heap.size w w' := by
  have AR : ∀ W, Calls Tryd.prog 12 #[.int .i64 192] W fun e w' => e = .returned (.int .i64 1) ∧ Below W.heap.size W w' := fun W => by have h := rarity_k 192 W; rw [← (ar_1 (by decide) : 1 = arN 192)] at h; exact h
  replace AR := Lib.hid AR
  have CX := Lib.hid (fun W => rsign_8 x.toNat W x.isLt)
  have CY : ∀ W, Calls Tryd.prog 33 #[.int .u64 ((sg8 x.toNat : Nat) : Int), .int .i64 32] W fun e w' => e = .returned (.int .u64 ((up ((x.setWidth 8).signExtend 32)).toNat : Int)) ∧ w' = W := fun W => by have h := rcut_32 (sg8 x.toNat) W (sg8_lt _); rw [ext8_32] at h; exact h
  replace CY := Lib.hid CY
  show Calls Tryd.prog 19 #[.int .i64 192, .int .u64 (x.toNat : Int)] w fun e w' => e = .returned (.tuple #[.int .u64 ((up ((x.setWidth 8).signExtend 32)).toNat : Int), .int .i64 0]) ∧ Below w.heap.size w w'
  generalize ((up ((x.setWidth 8).signExtend 32)).toNat : Int) = R at *
  generalize ((sg8 x.toNat : Nat) : Int) = S at *
  generalize (x.toNat : Int) = X at *
  go_enter Tryd.func19, Tryd.ntmps19
  go_wp2_with (first | (go_at_call 12; (with_reducible refine (AR.out _).mono ?_); rintro e u ⟨rfl, hb⟩) | (go_at_call 35; (with_reducible refine (CX.out _).mono ?_); rintro e u ⟨rfl, rfl⟩) | (go_at_call 33; (with_reducible refine (CY.out _).mono ?_); rintro e u ⟨rfl, rfl⟩))
  go_ret2
  exact ⟨rfl, hb⟩
theorem run_193 (x : B64) (w : World) : Calls Tryd.prog 19 #[.int .i64 193, .int .u64 (x.toNat : Int)] w fun e w' => e = .returned (.tuple #[.int .u64 ((unB 193 x).1.toNat : Int), .int .i64 (unB 193 x).2]) ∧ Below w.heap.size w w' := by
  have AR : ∀ W, Calls Tryd.prog 12 #[.int .i64 193] W fun e w' => e = .returned (.int .i64 1) ∧ Below W.heap.size W w' := fun W => by have h := rarity_k 193 W; rw [← (ar_1 (by decide) : 1 = arN 193)] at h; exact h
  replace AR := Lib.hid AR
  have CX := Lib.hid (fun W => rsign_16 x.toNat W x.isLt)
  have CY : ∀ W, Calls Tryd.prog 33 #[.int .u64 ((sg16 x.toNat : Nat) : Int), .int .i64 32] W fun e w' => e = .returned (.int .u64 ((up ((x.setWidth 16).signExtend 32)).toNat : Int)) ∧ w' = W := fun W => by have h := rcut_32 (sg16 x.toNat) W (sg16_lt _); rw [ext16_32] at h; exact h
  replace CY := Lib.hid CY
  show Calls Tryd.prog 19 #[.int .i64 193, .int .u64 (x.toNat : Int)] w fun e w' => e = .returned (.tuple #[.int .u64 ((up ((x.setWidth 16).signExtend 32)).toNat : Int), .int .i64 0]) ∧ Below w.heap.size w w'
  generalize ((up ((x.setWidth 16).signExtend 32)).toNat : Int) = R at *
  generalize ((sg16 x.toNat : Nat) : Int) = S at *
  generalize (x.toNat : Int) = X at *
  go_enter Tryd.func19, Tryd.ntmps19
  go_wp2_with (first | (go_at_call 12; (with_reducible refine (AR.out _).mono ?_); rintro e u ⟨rfl, hb⟩) | (go_at_call 35; (with_reducible refine (CX.out _).mono ?_); rintro e u ⟨rfl, rfl⟩) | (go_at_call 33; (with_reducible refine (CY.out _).mono ?_); rintro e u ⟨rfl, rfl⟩))
  go_ret2
  exact ⟨rfl, hb⟩
theorem run_194 (x : B64) (w : World) : Calls Tryd.prog 19 #[.int .i64 194, .int .u64 (x.toNat : Int)] w fun e w' => e = .returned (.tuple #[.int .u64 ((unB 194 x).1.toNat : Int), .int .i64 (unB 194 x).2]) ∧ Below w.heap.size w w' := by
  have AR : ∀ W, Calls Tryd.prog 12 #[.int .i64 194] W fun e w' => e = .returned (.int .i64 1) ∧ Below W.heap.size W w' := fun W => by have h := rarity_k 194 W; rw [← (ar_1 (by decide) : 1 = arN 194)] at h; exact h
  replace AR := Lib.hid AR
  have CX : ∀ W, Calls Tryd.prog 35 #[.int .u64 (x.toNat : Int), .int .i64 8] W fun e w' => e = .returned (.int .u64 (((x.setWidth 8).signExtend 64).toNat : Int)) ∧ w' = W := fun W => by have h := rsign_8 x.toNat W x.isLt; rw [ext8_64] at h; exact h
  replace CX := Lib.hid CX
  show Calls Tryd.prog 19 #[.int .i64 194, .int .u64 (x.toNat : Int)] w fun e w' => e = .returned (.tuple #[.int .u64 (((x.setWidth 8).signExtend 64).toNat : Int), .int .i64 0]) ∧ Below w.heap.size w w'
  generalize (((x.setWidth 8).signExtend 64).toNat : Int) = R at *
  generalize (x.toNat : Int) = X at *
  go_enter Tryd.func19, Tryd.ntmps19
  go_wp2_with (first | (go_at_call 12; (with_reducible refine (AR.out _).mono ?_); rintro e u ⟨rfl, hb⟩) | (go_at_call 35; (with_reducible refine (CX.out _).mono ?_); rintro e u ⟨rfl, rfl⟩))
  go_ret2
  exact ⟨rfl, hb⟩
theorem run_195 (x : B64) (w : World) : Calls Tryd.prog 19 #[.int .i64 195, .int .u64 (x.toNat : Int)] w fun e w' => e = .returned (.tuple #[.int .u64 ((unB 195 x).1.toNat : Int), .int .i64 (unB 195 x).2]) ∧ Below w.heap.size w w' := by
  have AR : ∀ W, Calls Tryd.prog 12 #[.int .i64 195] W fun e w' => e = .returned (.int .i64 1) ∧ Below W.heap.size W w' := fun W => by have h := rarity_k 195 W; rw [← (ar_1 (by decide) : 1 = arN 195)] at h; exact h
  replace AR := Lib.hid AR
  have CX : ∀ W, Calls Tryd.prog 35 #[.int .u64 (x.toNat : Int), .int .i64 16] W fun e w' => e = .returned (.int .u64 (((x.setWidth 16).signExtend 64).toNat : Int)) ∧ w' = W := fun W => by have h := rsign_16 x.toNat W x.isLt; rw [ext16_64] at h; exact h
  replace CX := Lib.hid CX
  show Calls Tryd.prog 19 #[.int .i64 195, .int .u64 (x.toNat : Int)] w fun e w' => e = .returned (.tuple #[.int .u64 (((x.setWidth 16).signExtend 64).toNat : Int), .int .i64 0]) ∧ Below w.heap.size w w'
  generalize (((x.setWidth 16).signExtend 64).toNat : Int) = R at *
  generalize (x.toNat : Int) = X at *
  go_enter Tryd.func19, Tryd.ntmps19
  go_wp2_with (first | (go_at_call 12; (with_reducible refine (AR.out _).mono ?_); rintro e u ⟨rfl, hb⟩) | (go_at_call 35; (with_reducible refine (CX.out _).mono ?_); rintro e u ⟨rfl, rfl⟩))
  go_ret2
  exact ⟨rfl, hb⟩
theorem run_none (op : Int) (x : Int) (w : World) (h : ¬ (op = 69 ∨ op = 80 ∨ 103 ≤ op ∧ op ≤ 105 ∨ 121 ≤ op ∧ op ≤ 123 ∨ op = 167 ∨ op = 172 ∨ op = 173 ∨ 192 ≤ op ∧ op ≤ 196)) : Calls Tryd.prog 19 #[.int .i64 op, .int .u64 x] w fun e w' => e = .returned (.tuple #[.int .u64 0, .int .i64 1]) ∧ Below w.heap.size w w' := by
  have hn : (arN op == 1) = false := by
    rw [beq_eq_false_iff_ne]
    by_cases h1 : 70 ≤ op ∧ op ≤ 79 ∨ 81 ≤ op ∧ op ≤ 90 ∨ 106 ≤ op ∧ op ≤ 120 ∨ 124 ≤ op ∧ op ≤ 138
    · rw [← ar_2 h1]; decide
    · rw [← ar_0 h h1]; decide
  have hn2 : (arN op != 1) = true := by rw [bne, hn]; rfl
  have AR := Lib.hid (fun W => rarity_k op W)
  generalize arN op = K at *
  clear h
  go_enter Tryd.func19, Tryd.ntmps19
  go_wp2_with (first | (go_at_call 12; (with_reducible refine (AR.out _).mono ?_); rintro e u ⟨rfl, hb⟩))
  go_ret2
  exact ⟨rfl, hb⟩
theorem unB_none (op : Int) (x : B64) (h : ¬ (op = 69 ∨ op = 80 ∨ 103 ≤ op ∧ op ≤ 105 ∨ 121 ≤ op ∧ op ≤ 123 ∨ op = 167 ∨ op = 172 ∨ op = 173 ∨ 192 ≤ op ∧ op ≤ 196)) : unB op x = (0, 1) := by
  unfold unB
  rw [if_neg (show ¬ op = 69 by omega), if_neg (show ¬ op = 80 by omega), if_neg (show ¬ op = 103 by omega), if_neg (show ¬ op = 104 by omega), if_neg (show ¬ op = 105 by omega), if_neg (show ¬ op = 121 by omega), if_neg (show ¬ op = 122 by omega), if_neg (show ¬ op = 123 by omega), if_neg (show ¬ (op = 167 ∨ op = 173) by omega),
    if_neg (show ¬ (op = 172 ∨ op = 196) by omega), if_neg (show ¬ op = 192 by omega), if_neg (show ¬ op = 193 by omega), if_neg (show ¬ op = 194 by omega), if_neg (show ¬ op = 195 by omega)]
theorem one_lst (op : Int) (h : op = 69 ∨ op = 80 ∨ 103 ≤ op ∧ op ≤ 105 ∨ 121 ≤ op ∧ op ≤ 123 ∨ op = 167 ∨ op = 172 ∨ op = 173 ∨ 192 ≤ op ∧ op ≤ 196) : op = 69 ∨ op = 80 ∨ op = 103 ∨ op = 104 ∨ op = 105 ∨ op = 121 ∨ op = 122 ∨ op = 123 ∨ op = 167 ∨ op = 172 ∨ op = 173 ∨ op = 192 ∨ op = 193 ∨ op = 194 ∨ op = 195 ∨ op = 196 := by omega
theorem run_any (op : Int) (x : B64) (w : World) : Calls Tryd.prog 19 #[.int .i64 op, .int .u64 (x.toNat : Int)] w fun e w' => e = .returned (.tuple #[.int .u64 ((unB op x).1.toNat : Int), .int .i64 (unB op x).2]) ∧ Below w.heap.size w w' := by
  by_cases h : op = 69 ∨ op = 80 ∨ 103 ≤ op ∧ op ≤ 105 ∨ 121 ≤ op ∧ op ≤ 123 ∨ op = 167 ∨ op = 172 ∨ op = 173 ∨ 192 ≤ op ∧ op ≤ 196
  · rcases one_lst op h with rfl | rfl | rfl | rfl | rfl | rfl | rfl | rfl | rfl | rfl | rfl | rfl | rfl | rfl | rfl | rfl
    · exact run_69 x w
    · exact run_80 x w
    · exact run_103 x w
    · exact run_104 x w
    · exact run_105 x w
    · exact run_121 x w
    · exact run_122 x w
    · exact run_123 x w
    · exact run_167 x w
    · exact run_172 x w
    · exact run_173 x w
    · exact run_192 x w
    · exact run_193 x w
    · exact run_194 x w
    · exact run_195 x w
    · exact run_196 x w
  · rw [unB_none op x h]
    exact run_none op _ w h
theorem below_n (w : World) (n : Nat) : Below w.heap.size w (w.drewN n) := by
  induction n with
  | zero => exact Below.refl _ _
  | succ n ih => exact ih.drew
theorem same_bel {g : FuncId} {args : Array Value} {w : World} {v : Ending} (h : Calls Tryd.prog g args w fun e w' => e = v ∧ w' = w) : Calls Tryd.prog g args w fun e w' => e = v ∧ Below w.heap.size w w' :=
  h.mono (by rintro e w' ⟨rfl, rfl⟩; exact ⟨rfl, Below.refl _ _⟩)
theorem drew_bel {g : FuncId} {args : Array Value} {w : World} {v : Ending} (h : Calls Tryd.prog g args w fun e w' => e = v ∧ ∃ n, w' = w.drewN n) : Calls Tryd.prog g args w fun e w' => e = v ∧ Below w.heap.size w w' :=
  h.mono (by rintro e w' ⟨rfl, n, rfl⟩; exact ⟨rfl, below_n _ _⟩)
theorem pun_any (op : Int) (x : B64) (w : World) (hT : Tab32 w) (hT2 : Tab64 w) : Calls Tryd.prog 18 #[.int .i64 op, .int .u64 (x.toNat : Int)] w fun e w' => e = .returned (.tuple #[.int .u64 ((unB op x).1.toNat : Int), .int .i64 (unB op x).2]) ∧ Below w.heap.size w w' := by
  by_cases h : op = 69 ∨ op = 80 ∨ 103 ≤ op ∧ op ≤ 105 ∨ 121 ≤ op ∧ op ≤ 123 ∨ op = 167 ∨ op = 172 ∨ op = 173 ∨ 192 ≤ op ∧ op ≤ 196
  · rcases one_lst op h with rfl | rfl | rfl | rfl | rfl | rfl | rfl | rfl | rfl | rfl | rfl | rfl | rfl | rfl | rfl | rfl
    · exact same_bel (eqz32_op x w)
    · exact same_bel (eqz64_op x w)
    · exact same_bel (lz32_op x w)
    · exact same_bel (tz32_op x w hT)
    · exact drew_bel (ones32_op x w)
    · have e : (unB 121 x).1.toNat = 64 - Lib.bitLen x.toNat := ofNat_small _ (Nat.sub_le _ _)
      rw [e]
      exact same_bel (cnt_121 x.toNat w x.isLt)
    · have e : (unB 122 x).1.toNat = Lib.ctz 64 x.toNat := ofNat_small _ (ctz_le 64 _)
      rw [e]
      exact same_bel (cnt_122 x.toNat w x.isLt hT2)
    · have e : (unB 123 x).1.toNat = Lib.onesCount x.toNat := ofNat_small _ (pop_le _)
      rw [e]
      exact same_bel (cnt_123 x.toNat w x.isLt)
    · exact same_bel (wrap_op x w)
    · exact same_bel (exts_op x w)
    · exact same_bel (extu_op x w)
    · exact same_bel (e8_op x w)
    · exact same_bel (e16_op x w)
    · exact same_bel (e8l_op x w)
    · exact same_bel (e16l_op x w)
    · exact same_bel (exts2_op x w)
  · rw [unB_none op x h]
    exact same_bel (un_none op x w h)
end Go.Proofs.YtllffbdcpilioaaDoor
