/-
  plaitref03.Bin: its contract.
-/
import Derived.Test.YtllffbdcpilioaaDoorNumRB
import Derived.Test.YtllffbdcpilioaaDoorNumRW
import Derived.Test.YtllffbdcpilioaaDoorNumUn
set_option linter.unusedSimpArgs false
set_option linter.unusedVariables false
namespace Go.Proofs.YtllffbdcpilioaaDoor
open Go.RowKit _root_.Nm
set_option linter.unusedVariables false

theorem lo_sx (x : B64) : lo (sx x) = lo x := by
  apply BitVec.eq_of_toNat_eq
  rw [lo_toNat, lo_toNat, ← sg32_eq]
  unfold sg32
  split <;> omega
theorem yes_sg (x : B64) : ((sg32 x.toNat : Nat) : Int) = ((sx x).toNat : Int) := by rw [sg32_eq]
theorem ret_two {a b : Int} (h : a = b) (E : Int) : Ending.returned (.tuple #[.int .u64 a, .int .i64 E]) = .returned (.tuple #[.int .u64 b, .int .i64 E]) := by rw [h]
theorem rbin_70 (x y : B64) (w : World) : Calls Tryd.prog 20 #[.int .i64 70, .int .u64 (x.toNat : Int), .int .u64 (y.toNat : Int)] w fun e w' => e = .returned (.tuple #[.int .u64 ((cmpB 0 (sx x) (sx y)).toNat : Int), .int .i64 0]) ∧ Below w.heap.size w w' := by
  have AR : ∀ W, Calls Tryd.prog 12 #[.int .i64 70] W fun e w' => e = .returned (.int .i64 2) ∧ Below W.heap.size W w' := fun W => by have h := rarity_k 70 W; rw [← (ar_2 (by decide) : 2 = arN 70)] at h; exact h
  replace AR := Lib.hid AR
  have S1 : ∀ W, Calls Tryd.prog 35 #[.int .u64 (x.toNat : Int), .int .i64 32] W fun e w' => e = .returned (.int .u64 ((sx x).toNat : Int)) ∧ w' = W := fun W => by have h := rsign_32 x.toNat W x.isLt; rw [yes_sg] at h; exact h
  replace S1 := Lib.hid S1
  have S2 : ∀ W, Calls Tryd.prog 35 #[.int .u64 (y.toNat : Int), .int .i64 32] W fun e w' => e = .returned (.int .u64 ((sx y).toNat : Int)) ∧ w' = W := fun W => by have h := rsign_32 y.toNat W y.isLt; rw [yes_sg] at h; exact h
  replace S2 := Lib.hid S2
  have O1 := Lib.hid (fun W => rord_0 (sx x) (sx y) W)
  generalize ((cmpB 0 (sx x) (sx y)).toNat : Int) = R at *
  generalize ((sx x).toNat : Int) = p at *; generalize ((sx y).toNat : Int) = q at *
  generalize (x.toNat : Int) = X at *
  generalize (y.toNat : Int) = Y at *
  go_enter Tryd.func20, Tryd.ntmps20
  go_wp2_with (first | (go_at_call 12; (with_reducible refine (AR.out _).mono ?_); rintro e u ⟨rfl, hb⟩) | (go_at_call 35; (with_reducible refine (S1.out _).mono ?_); rintro e u ⟨rfl, rfl⟩) | (go_at_call 35; (with_reducible refine (S2.out _).mono ?_); rintro e u ⟨rfl, rfl⟩) | (go_at_call 36; (with_reducible refine (O1.out _).mono ?_); rintro e u ⟨rfl, rfl⟩))
  go_ret2
  exact ⟨rfl, hb⟩
theorem rbin_71 (x y : B64) (w : World) : Calls Tryd.prog 20 #[.int .i64 71, .int .u64 (x.toNat : Int), .int .u64 (y.toNat : Int)] w fun e w' => e = .returned (.tuple #[.int .u64 ((cmpB 1 (sx x) (sx y)).toNat : Int), .int .i64 0]) ∧ Below w.heap.size w w' := by
  have AR : ∀ W, Calls Tryd.prog 12 #[.int .i64 71] W fun e w' => e = .returned (.int .i64 2) ∧ Below W.heap.size W w' := fun W => by have h := rarity_k 71 W; rw [← (ar_2 (by decide) : 2 = arN 71)] at h; exact h
  replace AR := Lib.hid AR
  have S1 : ∀ W, Calls Tryd.prog 35 #[.int .u64 (x.toNat : Int), .int .i64 32] W fun e w' => e = .returned (.int .u64 ((sx x).toNat : Int)) ∧ w' = W := fun W => by have h := rsign_32 x.toNat W x.isLt; rw [yes_sg] at h; exact h
  replace S1 := Lib.hid S1
  have S2 : ∀ W, Calls Tryd.prog 35 #[.int .u64 (y.toNat : Int), .int .i64 32] W fun e w' => e = .returned (.int .u64 ((sx y).toNat : Int)) ∧ w' = W := fun W => by have h := rsign_32 y.toNat W y.isLt; rw [yes_sg] at h; exact h
  replace S2 := Lib.hid S2
  have O1 := Lib.hid (fun W => rord_1 (sx x) (sx y) W)
  generalize ((cmpB 1 (sx x) (sx y)).toNat : Int) = R at *
  generalize ((sx x).toNat : Int) = p at *; generalize ((sx y).toNat : Int) = q at *
  generalize (x.toNat : Int) = X at *
  generalize (y.toNat : Int) = Y at *
  go_enter Tryd.func20, Tryd.ntmps20
  go_wp2_with (first | (go_at_call 12; (with_reducible refine (AR.out _).mono ?_); rintro e u ⟨rfl, hb⟩) | (go_at_call 35; (with_reducible refine (S1.out _).mono ?_); rintro e u ⟨rfl, rfl⟩) | (go_at_call 35; (with_reducible refine (S2.out _).mono ?_); rintro e u ⟨rfl, rfl⟩) | (go_at_call 36; (with_reducible refine (O1.out _).mono ?_); rintro e u ⟨rfl, rfl⟩))
  go_ret2
  exact ⟨rfl, hb⟩
theorem rbin_72 (x y : B64) (w : World) : Calls Tryd.prog 20 #[.int .i64 72, .int .u64 (x.toNat : Int), .int .u64 (y.toNat : Int)] w fun e w' => e = .returned (.tuple #[.int .u64 ((cmpB 2 (sx x) (sx y)).toNat : Int), .int .i64 0]) ∧ Below w.heap.size w w' := by
  have AR : ∀ W, Calls Tryd.prog 12 #[.int .i64 72] W fun e w' => e = .returned (.int .i64 2) ∧ Below W.heap.size W w' := fun W => by have h := rarity_k 72 W; rw [← (ar_2 (by decide) : 2 = arN 72)] at h; exact h
  replace AR := Lib.hid AR
  have S1 : ∀ W, Calls Tryd.prog 35 #[.int .u64 (x.toNat : Int), .int .i64 32] W fun e w' => e = .returned (.int .u64 ((sx x).toNat : Int)) ∧ w' = W := fun W => by have h := rsign_32 x.toNat W x.isLt; rw [yes_sg] at h; exact h
  replace S1 := Lib.hid S1
  have S2 : ∀ W, Calls Tryd.prog 35 #[.int .u64 (y.toNat : Int), .int .i64 32] W fun e w' => e = .returned (.int .u64 ((sx y).toNat : Int)) ∧ w' = W := fun W => by have h := rsign_32 y.toNat W y.isLt; rw [yes_sg] at h; exact h
  replace S2 := Lib.hid S2
  have O1 := Lib.hid (fun W => rord_2 (sx x) (sx y) W)
  generalize ((cmpB 2 (sx x) (sx y)).toNat : Int) = R at *
  generalize ((sx x).toNat : Int) = p at *; generalize ((sx y).toNat : Int) = q at *
  generalize (x.toNat : Int) = X at *
  generalize (y.toNat : Int) = Y at *
  go_enter Tryd.func20, Tryd.ntmps20
  go_wp2_with (first | (go_at_call 12; (with_reducible refine (AR.out _).mono ?_); rintro e u ⟨rfl, hb⟩) | (go_at_call 35; (with_reducible refine (S1.out _).mono ?_); rintro e u ⟨rfl, rfl⟩) | (go_at_call 35; (with_reducible refine (S2.out _).mono ?_); rintro e u ⟨rfl, rfl⟩) | (go_at_call 36; (with_reducible refine (O1.out _).mono ?_); rintro e u ⟨rfl, rfl⟩))
  go_ret2
  exact ⟨rfl, hb⟩
theorem rbin_73 (x y : B64) (w : World) : Calls Tryd.prog 20 #[.int .i64 73, .int .u64 (x.toNat : Int), .int .u64 (y.toNat : Int)] w fun e w' => e = .returned (.tuple #[.int .u64 ((cmpB 3 (sx x) (sx y)).toNat : Int), .int .i64 0]) ∧ Below w.heap.size w w' := by
  have AR : ∀ W, Calls Tryd.prog 12 #[.int .i64 73] W fun e w' => e = .returned (.int .i64 2) ∧ Below W.heap.size W w' := fun W => by have h := rarity_k 73 W; rw [← (ar_2 (by decide) : 2 = arN 73)] at h; exact h
  replace AR := Lib.hid AR
  have S1 : ∀ W, Calls Tryd.prog 35 #[.int .u64 (x.toNat : Int), .int .i64 32] W fun e w' => e = .returned (.int .u64 ((sx x).toNat : Int)) ∧ w' = W := fun W => by have h := rsign_32 x.toNat W x.isLt; rw [yes_sg] at h; exact h
  replace S1 := Lib.hid S1
  have S2 : ∀ W, Calls Tryd.prog 35 #[.int .u64 (y.toNat : Int), .int .i64 32] W fun e w' => e = .returned (.int .u64 ((sx y).toNat : Int)) ∧ w' = W := fun W => by have h := rsign_32 y.toNat W y.isLt; rw [yes_sg] at h; exact h
  replace S2 := Lib.hid S2
  have O1 := Lib.hid (fun W => rord_3 (sx x) (sx y) W)
  generalize ((cmpB 3 (sx x) (sx y)).toNat : Int) = R at *
  generalize ((sx x).toNat : Int) = p at *; generalize ((sx y).toNat : Int) = q at *
  generalize (x.toNat : Int) = X at *
  generalize (y.toNat : Int) = Y at *
  go_enter Tryd.func20, Tryd.ntmps20
  go_wp2_with (first | (go_at_call 12; (with_reducible refine (AR.out _).mono ?_); rintro e u ⟨rfl, hb⟩) | (go_at_call 35; (with_reducible refine (S1.out _).mono ?_); rintro e u ⟨rfl, rfl⟩) | (go_at_call 35; (with_reducible refine (S2.out _).mono ?_); rintro e u ⟨rfl, rfl⟩) | (go_at_call 36; (with_reducible refine (O1.out _).mono ?_); rintro e u ⟨rfl, rfl⟩))
  go_ret2
  exact ⟨rfl, hb⟩
theorem rbin_74 (x y : B64) (w : World) : Calls Tryd.prog 20 #[.int .i64 74, .int .u64 (x.toNat : Int), .int .u64 (y.toNat : Int)] w fun e w' => e = .returned (.tuple #[.int .u64 ((cmpB 4 (sx x) (sx y)).toNat : Int), .int .i64 0]) ∧ Below w.heap.size w w' := by
  have AR : ∀ W, Calls Tryd.prog 12 #[.int .i64 74] W fun e w' => e = .returned (.int .i64 2) ∧ Below W.heap.size W w' := fun W => by have h := rarity_k 74 W; rw [← (ar_2 (by decide) : 2 = arN 74)] at h; exact h
  replace AR := Lib.hid AR
  have S1 : ∀ W, Calls Tryd.prog 35 #[.int .u64 (x.toNat : Int), .int .i64 32] W fun e w' => e = .returned (.int .u64 ((sx x).toNat : Int)) ∧ w' = W := fun W => by have h := rsign_32 x.toNat W x.isLt; rw [yes_sg] at h; exact h
  replace S1 := Lib.hid S1
  have S2 : ∀ W, Calls Tryd.prog 35 #[.int .u64 (y.toNat : Int), .int .i64 32] W fun e w' => e = .returned (.int .u64 ((sx y).toNat : Int)) ∧ w' = W := fun W => by have h := rsign_32 y.toNat W y.isLt; rw [yes_sg] at h; exact h
  replace S2 := Lib.hid S2
  have O1 := Lib.hid (fun W => rord_4 (sx x) (sx y) W)
  generalize ((cmpB 4 (sx x) (sx y)).toNat : Int) = R at *
  generalize ((sx x).toNat : Int) = p at *; generalize ((sx y).toNat : Int) = q at *
  generalize (x.toNat : Int) = X at *
  generalize (y.toNat : Int) = Y at *
  go_enter Tryd.func20, Tryd.ntmps20
  go_wp2_with (first | (go_at_call 12; (with_reducible refine (AR.out _).mono ?_); rintro e u ⟨rfl, hb⟩) | (go_at_call 35; (with_reducible refine (S1.out _).mono ?_); rintro e u ⟨rfl, rfl⟩) | (go_at_call 35; (with_reducible refine (S2.out _).mono ?_); rintro e u ⟨rfl, rfl⟩) | (go_at_call 36; (with_reducible refine (O1.out _).mono ?_); rintro e u ⟨rfl, rfl⟩))
  go_ret2
  exact ⟨rfl, hb⟩
theorem rbin_75 (x y : B64) (w : World) : Calls Tryd.prog 20 #[.int .i64 75, .int .u64 (x.toNat : Int), .int .u64 (y.toNat : Int)] w fun e w' => e = .returned (.tuple #[.int .u64 ((cmpB 5 (sx x) (sx y)).toNat : Int), .int .i64 0]) ∧ Below w.heap.size w w' := by
  have AR : ∀ W, Calls Tryd.prog 12 #[.int .i64 75] W fun e w' => e = .returned (.int .i64 2) ∧ Below W.heap.size W w' := fun W => by have h := rarity_k 75 W; rw [← (ar_2 (by decide) : 2 = arN 75)] at h; exact h
  replace AR := Lib.hid AR
  have S1 : ∀ W, Calls Tryd.prog 35 #[.int .u64 (x.toNat : Int), .int .i64 32] W fun e w' => e = .returned (.int .u64 ((sx x).toNat : Int)) ∧ w' = W := fun W => by have h := rsign_32 x.toNat W x.isLt; rw [yes_sg] at h; exact h
  replace S1 := Lib.hid S1
  have S2 : ∀ W, Calls Tryd.prog 35 #[.int .u64 (y.toNat : Int), .int .i64 32] W fun e w' => e = .returned (.int .u64 ((sx y).toNat : Int)) ∧ w' = W := fun W => by have h := rsign_32 y.toNat W y.isLt; rw [yes_sg] at h; exact h
  replace S2 := Lib.hid S2
  have O1 := Lib.hid (fun W => rord_5 (sx x) (sx y) W)
  generalize ((cmpB 5 (sx x) (sx y)).toNat : Int) = R at *
  generalize ((sx x).toNat : Int) = p at *; generalize ((sx y).toNat : Int) = q at *
  generalize (x.toNat : Int) = X at *
  generalize (y.toNat : Int) = Y at *
  go_enter Tryd.func20, Tryd.ntmps20
  go_wp2_with (first | (go_at_call 12; (with_reducible refine (AR.out _).mono ?_); rintro e u ⟨rfl, hb⟩) | (go_at_call 35; (with_reducible refine (S1.out _).mono ?_); rintro e u ⟨rfl, rfl⟩) | (go_at_call 35; (with_reducible refine (S2.out _).mono ?_); rintro e u ⟨rfl, rfl⟩) | (go_at_call 36; (with_reducible refine (O1.out _).mono ?_); rintro e u ⟨rfl, rfl⟩))
  go_ret2
  exact ⟨rfl, hb⟩
theorem rbin_76 (x y : B64) (w : World) : Calls Tryd.prog 20 #[.int .i64 76, .int .u64 (x.toNat : Int), .int .u64 (y.toNat : Int)] w fun e w' => e = .returned (.tuple #[.int .u64 ((cmpB 6 (sx x) (sx y)).toNat : Int), .int .i64 0]) ∧ Below w.heap.size w w' := by
  have AR : ∀ W, Calls Tryd.prog 12 #[.int .i64 76] W fun e w' => e = .returned (.int .i64 2) ∧ Below W.heap.size W w' := fun W => by have h := rarity_k 76 W; rw [← (ar_2 (by decide) : 2 = arN 76)] at h; exact h
  replace AR := Lib.hid AR
  have S1 : ∀ W, Calls Tryd.prog 35 #[.int .u64 (x.toNat : Int), .int .i64 32] W fun e w' => e = .returned (.int .u64 ((sx x).toNat : Int)) ∧ w' = W := fun W => by have h := rsign_32 x.toNat W x.isLt; rw [yes_sg] at h; exact h
  replace S1 := Lib.hid S1
  have S2 : ∀ W, Calls Tryd.prog 35 #[.int .u64 (y.toNat : Int), .int .i64 32] W fun e w' => e = .returned (.int .u64 ((sx y).toNat : Int)) ∧ w' = W := fun W => by have h := rsign_32 y.toNat W y.isLt; rw [yes_sg] at h; exact h
  replace S2 := Lib.hid S2
  have O1 := Lib.hid (fun W => rord_6 (sx x) (sx y) W)
  generalize ((cmpB 6 (sx x) (sx y)).toNat : Int) = R at *
  generalize ((sx x).toNat : Int) = p at *; generalize ((sx y).toNat : Int) = q at *
  generalize (x.toNat : Int) = X at *
  generalize (y.toNat : Int) = Y at *
  go_enter Tryd.func20, Tryd.ntmps20
  go_wp2_with (first | (go_at_call 12; (with_reducible refine (AR.out _).mono ?_); rintro e u ⟨rfl, hb⟩) | (go_at_call 35; (with_reducible refine (S1.out _).mono ?_); rintro e u ⟨rfl, rfl⟩) | (go_at_call 35; (with_reducible refine (S2.out _).mono ?_); rintro e u ⟨rfl, rfl⟩) | (go_at_call 36; (with_reducible refine (O1.out _).mono ?_); rintro e u ⟨rfl, rfl⟩))
  go_ret2
  exact ⟨rfl, hb⟩
theorem rbin_77 (x y : B64) (w : World) : Calls Tryd.prog 20 #[.int .i64 77, .int .u64 (x.toNat : Int), .int .u64 (y.toNat : Int)] w fun e w' => e = .returned (.tuple #[.int .u64 ((cmpB 7 (sx x) (sx y)).toNat : Int), .int .i64 0]) ∧ Below w.heap.size w w' := by
  have AR : ∀ W, Calls Tryd.prog 12 #[.int .i64 77] W fun e w' => e = .returned (.int .i64 2) ∧ Below W.heap.size W w' := fun W => by have h := rarity_k 77 W; rw [← (ar_2 (by decide) : 2 = arN 77)] at h; exact h
  replace AR := Lib.hid AR
  have S1 : ∀ W, Calls Tryd.prog 35 #[.int .u64 (x.toNat : Int), .int .i64 32] W fun e w' => e = .returned (.int .u64 ((sx x).toNat : Int)) ∧ w' = W := fun W => by have h := rsign_32 x.toNat W x.isLt; rw [yes_sg] at h; exact h
  replace S1 := Lib.hid S1
  have S2 : ∀ W, Calls Tryd.prog 35 #[.int .u64 (y.toNat : Int), .int .i64 32] W fun e w' => e = .returned (.int .u64 ((sx y).toNat : Int)) ∧ w' = W := fun W => by have h := rsign_32 y.toNat W y.isLt; rw [yes_sg] at h; exact h
  replace S2 := Lib.hid S2
  have O1 := Lib.hid (fun W => rord_7 (sx x) (sx y) W)
  generalize ((cmpB 7 (sx x) (sx y)).toNat : Int) = R at *
  generalize ((sx x).toNat : Int) = p at *; generalize ((sx y).toNat : Int) = q at *
  generalize (x.toNat : Int) = X at *
  generalize (y.toNat : Int) = Y at *
  go_enter Tryd.func20, Tryd.ntmps20
  go_wp2_with (first | (go_at_call 12; (with_reducible refine (AR.out _).mono ?_); rintro e u ⟨rfl, hb⟩) | (go_at_call 35; (with_reducible refine (S1.out _).mono ?_); rintro e u ⟨rfl, rfl⟩) | (go_at_call 35; (with_reducible refine (S2.out _).mono ?_); rintro e u ⟨rfl, rfl⟩) | (go_at_call 36; (with_reducible refine (O1.out _).mono ?_); rintro e u ⟨rfl, rfl⟩))
  go_ret2
  exact ⟨rfl, hb⟩
theorem rbin_78 (x y : B64) (w : World) : Calls Tryd.prog 20 #[.int .i64 78, .int .u64 (x.toNat : Int), .int .u64 (y.toNat : Int)] w fun e w' => e = .returned (.tuple #[.int .u64 ((cmpB 8 (sx x) (sx y)).toNat : Int), .int .i64 0]) ∧ Below w.heap.size w w' := by
  have AR : ∀ W, Calls Tryd.prog 12 #[.int .i64 78] W fun e w' => e = .returned (.int .i64 2) ∧ Below W.heap.size W w' := fun W => by have h := rarity_k 78 W; rw [← (ar_2 (by decide) : 2 = arN 78)] at h; exact h
  replace AR := Lib.hid AR
  have S1 : ∀ W, Calls Tryd.prog 35 #[.int .u64 (x.toNat : Int), .int .i64 32] W fun e w' => e = .returned (.int .u64 ((sx x).toNat : Int)) ∧ w' = W := fun W => by have h := rsign_32 x.toNat W x.isLt; rw [yes_sg] at h; exact h
  replace S1 := Lib.hid S1
  have S2 : ∀ W, Calls Tryd.prog 35 #[.int .u64 (y.toNat : Int), .int .i64 32] W fun e w' => e = .returned (.int .u64 ((sx y).toNat : Int)) ∧ w' = W := fun W => by have h := rsign_32 y.toNat W y.isLt; rw [yes_sg] at h; exact h
  replace S2 := Lib.hid S2
  have O1 := Lib.hid (fun W => rord_8 (sx x) (sx y) W)
  generalize ((cmpB 8 (sx x) (sx y)).toNat : Int) = R at *
  generalize ((sx x).toNat : Int) = p at *; generalize ((sx y).toNat : Int) = q at *
  generalize (x.toNat : Int) = X at *
  generalize (y.toNat : Int) = Y at *
  go_enter Tryd.func20, Tryd.ntmps20
  go_wp2_with (first | (go_at_call 12; (with_reducible refine (AR.out _).mono ?_); rintro e u ⟨rfl, hb⟩) | (go_at_call 35; (with_reducible refine (S1.out _).mono ?_); rintro e u ⟨rfl, rfl⟩) | (go_at_call 35; (with_reducible refine (S2.out _).mono ?_); rintro e u ⟨rfl, rfl⟩) | (go_at_call 36; (with_reducible refine (O1.out _).mono ?_); rintro e u ⟨rfl, rfl⟩))
  go_ret2
  exact ⟨rfl, hb⟩
theorem rbin_79 (x y : B64) (w : World) : Calls Tryd.prog 20 #[.int .i64 79, .int .u64 (x.toNat : Int), .int .u64 (y.toNat : Int)] w fun e w' => e = .returned (.tuple #[.int .u64 ((cmpB 9 (sx x) (sx y)).toNat : Int), .int .i64 0]) ∧ Below w.heap.size w w' := by
  have AR : ∀ W, Calls Tryd.prog 12 #[.int .i64 79] W fun e w' => e = .returned (.int .i64 2) ∧ Below W.heap.size W w' := fun W => by have h := rarity_k 79 W; rw [← (ar_2 (by decide) : 2 = arN 79)] at h; exact h
  replace AR := Lib.hid AR
  have S1 : ∀ W, Calls Tryd.prog 35 #[.int .u64 (x.toNat : Int), .int .i64 32] W fun e w' => e = .returned (.int .u64 ((sx x).toNat : Int)) ∧ w' = W := fun W => by have h := rsign_32 x.toNat W x.isLt; rw [yes_sg] at h; exact h
  replace S1 := Lib.hid S1
  have S2 : ∀ W, Calls Tryd.prog 35 #[.int .u64 (y.toNat : Int), .int .i64 32] W fun e w' => e = .returned (.int .u64 ((sx y).toNat : Int)) ∧ w' = W := fun W => by have h := rsign_32 y.toNat W y.isLt; rw [yes_sg] at h; exact h
  replace S2 := Lib.hid S2
  have O1 := Lib.hid (fun W => rord_9 (sx x) (sx y) W)
  generalize ((cmpB 9 (sx x) (sx y)).toNat : Int) = R at *
  generalize ((sx x).toNat : Int) = p at *; generalize ((sx y).toNat : Int) = q at *
  generalize (x.toNat : Int) = X at *
  generalize (y.toNat : Int) = Y at *
  go_enter Tryd.func20, Tryd.ntmps20
  go_wp2_with (first | (go_at_call 12; (with_reducible refine (AR.out _).mono ?_); rintro e u ⟨rfl, hb⟩) | (go_at_call 35; (with_reducible refine (S1.out _).mono ?_); rintro e u ⟨rfl, rfl⟩) | (go_at_call 35; (with_reducible refine (S2.out _).mono ?_); rintro e u ⟨rfl, rfl⟩) | (go_at_call 36; (with_reducible refine (O1.out _).mono ?_); rintro e u ⟨rfl, rfl⟩))
  go_ret2
  exact ⟨rfl, hb⟩
theorem rbin_81 (x y : B64) (w : World) : Calls Tryd.prog 20 #[.int .i64 81, .int .u64 (x.toNat : Int), .int .u64 (y.toNat : Int)] w fun e w' => e = .returned (.tuple #[.int .u64 ((cmpB 0 (x) (y)).toNat : Int), .int .i64 0]) ∧ Below w.heap.size w w' := by
  have AR : ∀ W, Calls Tryd.prog 12 #[.int .i64 81] W fun e w' => e = .returned (.int .i64 2) ∧ Below W.heap.size W w' := fun W => by have h := rarity_k 81 W; rw [← (ar_2 (by decide) : 2 = arN 81)] at h; exact h
  replace AR := Lib.hid AR
  skip
  have O1 := Lib.hid (fun W => rord_0 (x) (y) W)
  generalize ((cmpB 0 (x) (y)).toNat : Int) = R at *
  skip
  generalize (x.toNat : Int) = X at *
  generalize (y.toNat : Int) = Y at *
  go_enter Tryd.func20, Tryd.ntmps20
  go_wp2_with (first | (go_at_call 12; (with_reducible refine (AR.out _).mono ?_); rintro e u ⟨rfl, hb⟩) | (go_at_call 35; (with_reducible refine (S1.out _).mono ?_); rintro e u ⟨rfl, rfl⟩) | (go_at_call 35; (with_reducible refine (S2.out _).mono ?_); rintro e u ⟨rfl, rfl⟩) | (go_at_call 36; (with_reducible refine (O1.out _).mono ?_); rintro e u ⟨rfl, rfl⟩))
  go_ret2
  exact ⟨rfl, hb⟩
theorem rbin_82 (x y : B64) (w : World) : Calls Tryd.prog 20 #[.int .i64 82, .int .u64 (x.toNat : Int), .int .u64 (y.toNat : Int)] w fun e w' => e = .returned (.tuple #[.int .u64 ((cmpB 1 (x) (y)).toNat : Int), .int .i64 0]) ∧ Below w.heap.size w w' := by
  have AR : ∀ W, Calls Tryd.prog 12 #[.int .i64 82] W fun e w' => e = .returned (.int .i64 2) ∧ Below W.heap.size W w' := fun W => by have h := rarity_k 82 W; rw [← (ar_2 (by decide) : 2 = arN 82)] at h; exact h
  replace AR := Lib.hid AR
  skip
  have O1 := Lib.hid (fun W => rord_1 (x) (y) W)
  generalize ((cmpB 1 (x) (y)).toNat : Int) = R at *
  skip
  generalize (x.toNat : Int) = X at *
  generalize (y.toNat : Int) = Y at *
  go_enter Tryd.func20, Tryd.ntmps20
  go_wp2_with (first | (go_at_call 12; (with_reducible refine (AR.out _).mono ?_); rintro e u ⟨rfl, hb⟩) | (go_at_call 35; (with_reducible refine (S1.out _).mono ?_); rintro e u ⟨rfl, rfl⟩) | (go_at_call 35; (with_reducible refine (S2.out _).mono ?_); rintro e u ⟨rfl, rfl⟩) | (go_at_call 36; (with_reducible refine (O1.out _).mono ?_); rintro e u ⟨rfl, rfl⟩))
  go_ret2
  exact ⟨rfl, hb⟩
theorem rbin_83 (x y : B64) (w : World) : Calls Tryd.prog 20 #[.int .i64 83, .int .u64 (x.toNat : Int), .int .u64 (y.toNat : Int)] w fun e w' => e = .returned (.tuple #[.int .u64 ((cmpB 2 (x) (y)).toNat : Int), .int .i64 0]) ∧ Below w.heap.size w w' := by
  have AR : ∀ W, Calls Tryd.prog 12 #[.int .i64 83] W fun e w' => e = .returned (.int .i64 2) ∧ Below W.heap.size W w' := fun W => by have h := rarity_k 83 W; rw [← (ar_2 (by decide) : 2 = arN 83)] at h; exact h
  replace AR := Lib.hid AR
  skip
  have O1 := Lib.hid (fun W => rord_2 (x) (y) W)
  generalize ((cmpB 2 (x) (y)).toNat : Int) = R at *
  skip
  generalize (x.toNat : Int) = X at *
  generalize (y.toNat : Int) = Y at *
  go_enter Tryd.func20, Tryd.ntmps20
  go_wp2_with (first | (go_at_call 12; (with_reducible refine (AR.out _).mono ?_); rintro e u ⟨rfl, hb⟩) | (go_at_call 35; (with_reducible refine (S1.out _).mono ?_); rintro e u ⟨rfl, rfl⟩) | (go_at_call 35; (with_reducible refine (S2.out _).mono ?_); rintro e u ⟨rfl, rfl⟩) | (go_at_call 36; (with_reducible refine (O1.out _).mono ?_); rintro e u ⟨rfl, rfl⟩))
  go_ret2
  exact ⟨rfl, hb⟩
theorem rbin_84 (x y : B64) (w : World) : Calls Tryd.prog 20 #[.int .i64 84, .int .u64 (x.toNat : Int), .int .u64 (y.toNat : Int)] w fun e w' => e = .returned (.tuple #[.int .u64 ((cmpB 3 (x) (y)).toNat : Int), .int .i64 0]) ∧ Below w.heap.size w w' := by
  have AR : ∀ W, Calls Tryd.prog 12 #[.int .i64 84] W fun e w' => e = .returned (.int .i64 2) ∧ Below W.heap.size W w' := fun W => by have h := rarity_k 84 W; rw [← (ar_2 (by decide) : 2 = arN 84)] at h; exact h
  replace AR := Lib.hid AR
  skip
  have O1 := Lib.hid (fun W => rord_3 (x) (y) W)
  generalize ((cmpB 3 (x) (y)).toNat : Int) = R at *
  skip
  generalize (x.toNat : Int) = X at *
  generalize (y.toNat : Int) = Y at *
  go_enter Tryd.func20, Tryd.ntmps20
  go_wp2_with (first | (go_at_call 12; (with_reducible refine (AR.out _).mono ?_); rintro e u ⟨rfl, hb⟩) | (go_at_call 35; (with_reducible refine (S1.out _).mono ?_); rintro e u ⟨rfl, rfl⟩) | (go_at_call 35; (with_reducible refine (S2.out _).mono ?_); rintro e u ⟨rfl, rfl⟩) | (go_at_call 36; (with_reducible refine (O1.out _).mono ?_); rintro e u ⟨rfl, rfl⟩))
  go_ret2
  exact ⟨rfl, hb⟩
theorem rbin_85 (x y : B64) (w : World) : Calls Tryd.prog 20 #[.int .i64 85, .int .u64 (x.toNat : Int), .int .u64 (y.toNat : Int)] w fun e w' => e = .returned (.tuple #[.int .u64 ((cmpB 4 (x) (y)).toNat : Int), .int .i64 0]) ∧ Below w.heap.size w w' := by
  have AR : ∀ W, Calls Tryd.prog 12 #[.int .i64 85] W fun e w' => e = .returned (.int .i64 2) ∧ Below W.heap.size W w' := fun W => by have h := rarity_k 85 W; rw [← (ar_2 (by decide) : 2 = arN 85)] at h; exact h
  replace AR := Lib.hid AR
  skip
  have O1 := Lib.hid (fun W => rord_4 (x) (y) W)
  generalize ((cmpB 4 (x) (y)).toNat : Int) = R at *
  skip
  generalize (x.toNat : Int) = X at *
  generalize (y.toNat : Int) = Y at *
  go_enter Tryd.func20, Tryd.ntmps20
  go_wp2_with (first | (go_at_call 12; (with_reducible refine (AR.out _).mono ?_); rintro e u ⟨rfl, hb⟩) | (go_at_call 35; (with_reducible refine (S1.out _).mono ?_); rintro e u ⟨rfl, rfl⟩) | (go_at_call 35; (with_reducible refine (S2.out _).mono ?_); rintro e u ⟨rfl, rfl⟩) | (go_at_call 36; (with_reducible refine (O1.out _).mono ?_); rintro e u ⟨rfl, rfl⟩))
  go_ret2
  exact ⟨rfl, hb⟩
theorem rbin_86 (x y : B64) (w : World) : Calls Tryd.prog 20 #[.int .i64 86, .int .u64 (x.toNat : Int), .int .u64 (y.toNat : Int)] w fun e w' => e = .returned (.tuple #[.int .u64 ((cmpB 5 (x) (y)).toNat : Int), .int .i64 0]) ∧ Below w.heap.size w w' := by
  have AR : ∀ W, Calls Tryd.prog 12 #[.int .i64 86] W fun e w' => e = .returned (.int .i64 2) ∧ Below W.heap.size W w' := fun W => by have h := rarity_k 86 W; rw [← (ar_2 (by decide) : 2 = arN 86)] at h; exact h
  replace AR := Lib.hid AR
  skip
  have O1 := Lib.hid (fun W => rord_5 (x) (y) W)
  generalize ((cmpB 5 (x) (y)).toNat : Int) = R at *
  skip
  generalize (x.toNat : Int) = X at *
  generalize (y.toNat : Int) = Y at *
  go_enter Tryd.func20, Tryd.ntmps20
  go_wp2_with (first | (go_at_call 12; (with_reducible refine (AR.out _).mono ?_); rintro e u ⟨rfl, hb⟩) | (go_at_call 35; (with_reducible refine (S1.out _).mono ?_); rintro e u ⟨rfl, rfl⟩) | (go_at_call 35; (with_reducible refine (S2.out _).mono ?_); rintro e u ⟨rfl, rfl⟩) | (go_at_call 36; (with_reducible refine (O1.out _).mono ?_); rintro e u ⟨rfl, rfl⟩))
  go_ret2
  exact ⟨rfl, hb⟩
theorem rbin_87 (x y : B64) (w : World) : Calls Tryd.prog 20 #[.int .i64 87, .int .u64 (x.toNat : Int), .int .u64 (y.toNat : Int)] w fun e w' => e = .returned (.tuple #[.int .u64 ((cmpB 6 (x) (y)).toNat : Int), .int .i64 0]) ∧ Below w.heap.size w w' := by
  have AR : ∀ W, Calls Tryd.prog 12 #[.int .i64 87] W fun e w' => e = .returned (.int .i64 2) ∧ Below W.heap.size W w' := fun W => by have h := rarity_k 87 W; rw [← (ar_2 (by decide) : 2 = arN 87)] at h; exact h
  replace AR := Lib.hid AR
  skip
  have O1 := Lib.hid (fun W => rord_6 (x) (y) W)
  generalize ((cmpB 6 (x) (y)).toNat : Int) = R at *
  skip
  generalize (x.toNat : Int) = X at *
  generalize (y.toNat : Int) = Y at *
  go_enter Tryd.func20, Tryd.ntmps20
  go_wp2_with (first | (go_at_call 12; (with_reducible refine (AR.out _).mono ?_); rintro e u ⟨rfl, hb⟩) | (go_at_call 35; (with_reducible refine (S1.out _).mono ?_); rintro e u ⟨rfl, rfl⟩) | (go_at_call 35; (with_reducible refine (S2.out _).mono ?_); rintro e u ⟨rfl, rfl⟩) | (go_at_call 36; (with_reducible refine (O1.out _).mono ?_); rintro e u ⟨rfl, rfl⟩))
  go_ret2
  exact ⟨rfl, hb⟩
theorem rbin_88 (x y : B64) (w : World) : Calls Tryd.prog 20 #[.int .i64 88, .int .u64 (x.toNat : Int), .int .u64 (y.toNat : Int)] w fun e w' => e = .returned (.tuple #[.int .u64 ((cmpB 7 (x) (y)).toNat : Int), .int .i64 0]) ∧ Below w.heap.size w w' := by
  have AR : ∀ W, Calls Tryd.prog 12 #[.int .i64 88] W fun e w' => e = .returned (.int .i64 2) ∧ Below W.heap.size W w' := fun W => by have h := rarity_k 88 W; rw [← (ar_2 (by decide) : 2 = arN 88)] at h; exact h
  replace AR := Lib.hid AR
  skip
  have O1 := Lib.hid (fun W => rord_7 (x) (y) W)
  generalize ((cmpB 7 (x) (y)).toNat : Int) = R at *
  skip
  generalize (x.toNat : Int) = X at *
  generalize (y.toNat : Int) = Y at *
  go_enter Tryd.func20, Tryd.ntmps20
  go_wp2_with (first | (go_at_call 12; (with_reducible refine (AR.out _).mono ?_); rintro e u ⟨rfl, hb⟩) | (go_at_call 35; (with_reducible refine (S1.out _).mono ?_); rintro e u ⟨rfl, rfl⟩) | (go_at_call 35; (with_reducible refine (S2.out _).mono ?_); rintro e u ⟨rfl, rfl⟩) | (go_at_call 36; (with_reducible refine (O1.out _).mono ?_); rintro e u ⟨rfl, rfl⟩))
  go_ret2
  exact ⟨rfl, hb⟩
theorem rbin_89 (x y : B64) (w : World) : Calls Tryd.prog 20 #[.int .i64 89, .int .u64 (x.toNat : Int), .int .u64 (y.toNat : Int)] w fun e w' => e = .returned (.tuple #[.int .u64 ((cmpB 8 (x) (y)).toNat : Int), .int .i64 0]) ∧ Below w.heap.size w w' := by
  have AR : ∀ W, Calls Tryd.prog 12 #[.int .i64 89] W fun e w' => e = .returned (.int .i64 2) ∧ Below W.heap.size W w' := fun W => by have h := rarity_k 89 W; rw [← (ar_2 (by decide) : 2 = arN 89)] at h; exact h
  replace AR := Lib.hid AR
  skip
  have O1 := Lib.hid (fun W => rord_8 (x) (y) W)
  generalize ((cmpB 8 (x) (y)).toNat : Int) = R at *
  skip
  generalize (x.toNat : Int) = X at *
  generalize (y.toNat : Int) = Y at *
  go_enter Tryd.func20, Tryd.ntmps20
  go_wp2_with (first | (go_at_call 12; (with_reducible refine (AR.out _).mono ?_); rintro e u ⟨rfl, hb⟩) | (go_at_call 35; (with_reducible refine (S1.out _).mono ?_); rintro e u ⟨rfl, rfl⟩) | (go_at_call 35; (with_reducible refine (S2.out _).mono ?_); rintro e u ⟨rfl, rfl⟩) | (go_at_call 36; (with_reducible refine (O1.out _).mono ?_); rintro e u ⟨rfl, rfl⟩))
  go_ret2
  exact ⟨rfl, hb⟩
theorem rbin_90 (x y : B64) (w : World) : Calls Tryd.prog 20 #[.int .i64 90, .int .u64 (x.toNat : Int), .int .u64 (y.toNat : Int)] w fun e w' => e = .returned (.tuple #[.int .u64 ((cmpB 9 (x) (y)).toNat : Int), .int .i64 0]) ∧ Below w.heap.size w w' := by
  have AR : ∀ W, Calls Tryd.prog 12 #[.int .i64 90] W fun e w' => e = .returned (.int .i64 2) ∧ Below W.heap.size W w' := fun W => by have h := rarity_k 90 W; rw [← (ar_2 (by decide) : 2 = arN 90)] at h; exact h
  replace AR := Lib.hid AR
  skip
  have O1 := Lib.hid (fun W => rord_9 (x) (y) W)
  generalize ((cmpB 9 (x) (y)).toNat : Int) = R at *
  skip
  generalize (x.toNat : Int) = X at *
  generalize (y.toNat : Int) = Y at *
  go_enter Tryd.func20, Tryd.ntmps20
  go_wp2_with (first | (go_at_call 12; (with_reducible refine (AR.out _).mono ?_); rintro e u ⟨rfl, hb⟩) | (go_at_call 35; (with_reducible refine (S1.out _).mono ?_); rintro e u ⟨rfl, rfl⟩) | (go_at_call 35; (with_reducible refine (S2.out _).mono ?_); rintro e u ⟨rfl, rfl⟩) | (go_at_call 36; (with_reducible refine (O1.out _).mono ?_); rintro e u ⟨rfl, rfl⟩))
  go_ret2
  exact ⟨rfl, hb⟩
set_option maxHeartbeats 2000000 in
theorem rbin_106 (x y : B64) (w : World) : Calls Tryd.prog 20 #[.int .i64 106, .int .u64 (x.toNat : Int), .int .u64 (y.toNat : Int)] w fun e w' => e = .returned (.tuple #[.int .u64 ((up (opB 0 (lo x) (lo y)).1).toNat : Int), .int .i64 (opB 0 (lo x) (lo y)).2]) ∧ Below w.heap.size w w' := by
  have AR : ∀ W, Calls Tryd.prog 12 #[.int .i64 106] W fun e w' => e = .returned (.int .i64 2) ∧ Below W.heap.size W w' := fun W => by have h := rarity_k 106 W; rw [← (ar_2 (by decide) : 2 = arN 106)] at h; exact h
  replace AR := Lib.hid AR
  have AA := Lib.hid (fun W => rar_32_0 x y W)
  have e1 : opB 0 (lo x) (lo y) = (lo (arB 32 0 (up (lo x)) (up (lo y)) (sx x) (sx y)), 0) := ar_32 0 (by decide) x y (by rintro ⟨_, _, h⟩; omega) (by rintro ⟨h, _⟩; omega)
  rw [e1]
  obtain ⟨Z, hZ⟩ : ∃ Z, Z = arB 32 0 (up (lo x)) (up (lo y)) (sx x) (sx y) := ⟨_, rfl⟩
  rw [← hZ] at AA ⊢
  clear hZ e1
  have CZ : ∀ W, Calls Tryd.prog 33 #[.int .u64 (Z.toNat : Int), .int .i64 32] W fun e w' => e = .returned (.int .u64 ((up (lo Z)).toNat : Int)) ∧ w' = W := fun W => by have h := rcut_32 Z.toNat W Z.isLt; rw [cut32_eq] at h; exact h
  replace CZ := Lib.hid CZ
  show Calls Tryd.prog 20 #[.int .i64 106, .int .u64 (x.toNat : Int), .int .u64 (y.toNat : Int)] w fun e w' => e = .returned (.tuple #[.int .u64 ((up (lo Z)).toNat : Int), .int .i64 0]) ∧ Below w.heap.size w w'
  generalize (((up (lo Z)).toNat : Nat) : Int) = R at *
  generalize (Z.toNat : Int) = z at *
  generalize (x.toNat : Int) = X at *
  generalize (y.toNat : Int) = Y at *
  go_enter Tryd.func20, Tryd.ntmps20
  go_wp2_with (first | (go_at_call 12; (with_reducible refine (AR.out _).mono ?_); rintro e u ⟨rfl, hb⟩) | (go_at_call 37; (with_reducible refine (AA.out _).mono ?_); rintro e u ⟨rfl, rfl⟩) | (go_at_call 33; (with_reducible refine (CZ.out _).mono ?_); rintro e u ⟨rfl, rfl⟩))
  go_ret2
  exact ⟨rfl, hb⟩
set_option maxHeartbeats 2000000 in
theorem rbin_107 (x y : B64) (w : World) : Calls Tryd.prog 20 #[.int .i64 107, .int .u64 (x.toNat : Int), .int .u64 (y.toNat : Int)] w fun e w' => e = .returned (.tuple #[.int .u64 ((up (opB 1 (lo x) (lo y)).1).toNat : Int), .int .i64 (opB 1 (lo x) (lo y)).2]) ∧ Below w.heap.size w w' := by
  have AR : ∀ W, Calls Tryd.prog 12 #[.int .i64 107] W fun e w' => e = .returned (.int .i64 2) ∧ Below W.heap.size W w' := fun W => by have h := rarity_k 107 W; rw [← (ar_2 (by decide) : 2 = arN 107)] at h; exact h
  replace AR := Lib.hid AR
  have AA := Lib.hid (fun W => rar_32_1 x y W)
  have e1 : opB 1 (lo x) (lo y) = (lo (arB 32 1 (up (lo x)) (up (lo y)) (sx x) (sx y)), 0) := ar_32 1 (by decide) x y (by rintro ⟨_, _, h⟩; omega) (by rintro ⟨h, _⟩; omega)
  rw [e1]
  obtain ⟨Z, hZ⟩ : ∃ Z, Z = arB 32 1 (up (lo x)) (up (lo y)) (sx x) (sx y) := ⟨_, rfl⟩
  rw [← hZ] at AA ⊢
  clear hZ e1
  have CZ : ∀ W, Calls Tryd.prog 33 #[.int .u64 (Z.toNat : Int), .int .i64 32] W fun e w' => e = .returned (.int .u64 ((up (lo Z)).toNat : Int)) ∧ w' = W := fun W => by have h := rcut_32 Z.toNat W Z.isLt; rw [cut32_eq] at h; exact h
  replace CZ := Lib.hid CZ
  show Calls Tryd.prog 20 #[.int .i64 107, .int .u64 (x.toNat : Int), .int .u64 (y.toNat : Int)] w fun e w' => e = .returned (.tuple #[.int .u64 ((up (lo Z)).toNat : Int), .int .i64 0]) ∧ Below w.heap.size w w'
  generalize (((up (lo Z)).toNat : Nat) : Int) = R at *
  generalize (Z.toNat : Int) = z at *
  generalize (x.toNat : Int) = X at *
  generalize (y.toNat : Int) = Y at *
  go_enter Tryd.func20, Tryd.ntmps20
  go_wp2_with (first | (go_at_call 12; (with_reducible refine (AR.out _).mono ?_); rintro e u ⟨rfl, hb⟩) | (go_at_call 37; (with_reducible refine (AA.out _).mono ?_); rintro e u ⟨rfl, rfl⟩) | (go_at_call 33; (with_reducible refine (CZ.out _).mono ?_); rintro e u ⟨rfl, rfl⟩))
  go_ret2
  exact ⟨rfl, hb⟩
set_option maxHeartbeats 2000000 in
theorem rbin_108 (x y : B64) (w : World) : Calls Tryd.prog 20 #[.int .i64 108, .int .u64 (x.toNat : Int), .int .u64 (y.toNat : Int)] w fun e w' => e = .returned (.tuple #[.int .u64 ((up (opB 2 (lo x) (lo y)).1).toNat : Int), .int .i64 (opB 2 (lo x) (lo y)).2]) ∧ Below w.heap.size w w' := by
  have AR : ∀ W, Calls Tryd.prog 12 #[.int .i64 108] W fun e w' => e = .returned (.int .i64 2) ∧ Below W.heap.size W w' := fun W => by have h := rarity_k 108 W; rw [← (ar_2 (by decide) : 2 = arN 108)] at h; exact h
  replace AR := Lib.hid AR
  have AA := Lib.hid (fun W => rar_32_2 x y W)
  have e1 : opB 2 (lo x) (lo y) = (lo (arB 32 2 (up (lo x)) (up (lo y)) (sx x) (sx y)), 0) := ar_32 2 (by decide) x y (by rintro ⟨_, _, h⟩; omega) (by rintro ⟨h, _⟩; omega)
  rw [e1]
  obtain ⟨Z, hZ⟩ : ∃ Z, Z = arB 32 2 (up (lo x)) (up (lo y)) (sx x) (sx y) := ⟨_, rfl⟩
  rw [← hZ] at AA ⊢
  clear hZ e1
  have CZ : ∀ W, Calls Tryd.prog 33 #[.int .u64 (Z.toNat : Int), .int .i64 32] W fun e w' => e = .returned (.int .u64 ((up (lo Z)).toNat : Int)) ∧ w' = W := fun W => by have h := rcut_32 Z.toNat W Z.isLt; rw [cut32_eq] at h; exact h
  replace CZ := Lib.hid CZ
  show Calls Tryd.prog 20 #[.int .i64 108, .int .u64 (x.toNat : Int), .int .u64 (y.toNat : Int)] w fun e w' => e = .returned (.tuple #[.int .u64 ((up (lo Z)).toNat : Int), .int .i64 0]) ∧ Below w.heap.size w w'
  generalize (((up (lo Z)).toNat : Nat) : Int) = R at *
  generalize (Z.toNat : Int) = z at *
  generalize (x.toNat : Int) = X at *
  generalize (y.toNat : Int) = Y at *
  go_enter Tryd.func20, Tryd.ntmps20
  go_wp2_with (first | (go_at_call 12; (with_reducible refine (AR.out _).mono ?_); rintro e u ⟨rfl, hb⟩) | (go_at_call 37; (with_reducible refine (AA.out _).mono ?_); rintro e u ⟨rfl, rfl⟩) | (go_at_call 33; (with_reducible refine (CZ.out _).mono ?_); rintro e u ⟨rfl, rfl⟩))
  go_ret2
  exact ⟨rfl, hb⟩
set_option maxHeartbeats 2000000 in
theorem rbin_109 (x y : B64) (w : World) : Calls Tryd.prog 20 #[.int .i64 109, .int .u64 (x.toNat : Int), .int .u64 (y.toNat : Int)] w fun e w' => e = .returned (.tuple #[.int .u64 ((up (opB 3 (lo x) (lo y)).1).toNat : Int), .int .i64 (opB 3 (lo x) (lo y)).2]) ∧ Below w.heap.size w w' := by
  have AR : ∀ W, Calls Tryd.prog 12 #[.int .i64 109] W fun e w' => e = .returned (.int .i64 2) ∧ Below W.heap.size W w' := fun W => by have h := rarity_k 109 W; rw [← (ar_2 (by decide) : 2 = arN 109)] at h; exact h
  replace AR := Lib.hid AR
  by_cases h0 : lo y = 0
  · have e1 : opB 3 (lo x) (lo y) = (0, 21) := by unfold opB; rw [if_pos ⟨by decide, by decide, h0⟩]
    rw [e1]
    have tC : (((y.toNat % 4294967296 : Nat) : Int) == 0) = true := by
      rw [cut32_eq, h0]; rfl
    have CY := Lib.hid (fun W => rcut_32 y.toNat W y.isLt)
    clear h0 e1
    generalize ((y.toNat % 4294967296 : Nat) : Int) = C at *
    show Calls Tryd.prog 20 #[.int .i64 109, .int .u64 (x.toNat : Int), .int .u64 (y.toNat : Int)] w fun e w' => e = .returned (.tuple #[.int .u64 0, .int .i64 21]) ∧ Below w.heap.size w w'
    generalize (x.toNat : Int) = X at *
    generalize (y.toNat : Int) = Y at *
    go_enter Tryd.func20, Tryd.ntmps20
    go_wp2_with (first | (go_at_call 12; (with_reducible refine (AR.out _).mono ?_); rintro e u ⟨rfl, hb⟩) | (go_at_call 33; (with_reducible refine (CY.out _).mono ?_); rintro e u ⟨rfl, rfl⟩))
    go_ret2
    exact ⟨rfl, hb⟩
  · by_cases h1 : lo x = BitVec.intMin 32 ∧ lo y = BitVec.allOnes 32
    · have e1 : opB 3 (lo x) (lo y) = (0, 22) := by
        unfold opB
        rw [if_neg (fun h => h0 h.2.2)]
        show (if lo x = BitVec.intMin 32 ∧ lo y = BitVec.allOnes 32 then ((0 : BitVec 32), (22 : Int)) else ((lo x).sdiv (lo y), 0)) = _
        rw [if_pos h1]
      rw [e1]
      have HY2 : up (lo y) ≠ 0 := fun h => h0 (up_inj h)
      have tC : (((y.toNat % 4294967296 : Nat) : Int) == 0) = false := by
        rw [beq_eq_false_iff_ne, cut32_eq]
        exact fun h => HY2 (BitVec.eq_of_toNat_eq (by simpa using h))
      have tX : (((x.toNat % 4294967296 : Nat) : Int) == 2147483648) = true := by rw [cut32_eq, h1.1]; decide
      have tY : (((sx y).toNat : Int) == 18446744073709551615) = true := by unfold sx; rw [h1.2]; decide
      have CY := Lib.hid (fun W => rcut_32 y.toNat W y.isLt)
      have CX := Lib.hid (fun W => rcut_32 x.toNat W x.isLt)
      have SY : ∀ W, Calls Tryd.prog 35 #[.int .u64 (y.toNat : Int), .int .i64 32] W fun e w' => e = .returned (.int .u64 ((sx y).toNat : Int)) ∧ w' = W := fun W => by have h := rsign_32 y.toNat W y.isLt; rw [yes_sg] at h; exact h
      replace SY := Lib.hid SY
      clear h0 h1 e1 HY2
      generalize ((y.toNat % 4294967296 : Nat) : Int) = C at *
      generalize ((x.toNat % 4294967296 : Nat) : Int) = D at *
      generalize ((sx y).toNat : Int) = S at *
      show Calls Tryd.prog 20 #[.int .i64 109, .int .u64 (x.toNat : Int), .int .u64 (y.toNat : Int)] w fun e w' => e = .returned (.tuple #[.int .u64 0, .int .i64 22]) ∧ Below w.heap.size w w'
      generalize (x.toNat : Int) = X at *
      generalize (y.toNat : Int) = Y at *
      go_enter Tryd.func20, Tryd.ntmps20
      go_wp2_with (first | (go_at_call 12; (with_reducible refine (AR.out _).mono ?_); rintro e u ⟨rfl, hb⟩) | (go_at_call 33; (with_reducible refine (CY.out _).mono ?_); rintro e u ⟨rfl, rfl⟩) | (go_at_call 33; (with_reducible refine (CX.out _).mono ?_); rintro e u ⟨rfl, rfl⟩) | (go_at_call 35; (with_reducible refine (SY.out _).mono ?_); rintro e u ⟨rfl, rfl⟩))
      go_ret2
      exact ⟨rfl, hb⟩
    · skip
      have HY1 : sx y ≠ 0 := fun h => h0 (by have := congrArg lo h; rw [lo_sx] at this; exact this)
      have HY2 : up (lo y) ≠ 0 := fun h => h0 (up_inj h)
      have tC : (((y.toNat % 4294967296 : Nat) : Int) == 0) = false := by
        rw [beq_eq_false_iff_ne, cut32_eq]
        exact fun h => HY2 (BitVec.eq_of_toNat_eq (by simpa using h))
      have t3 : (((x.toNat % 4294967296 : Nat) : Int) == 2147483648) = false ∨ (((x.toNat % 4294967296 : Nat) : Int) == 2147483648) = true ∧ (((sx y).toNat : Int) == 18446744073709551615) = false := by
        by_cases q : lo x = BitVec.intMin 32
        · refine .inr ⟨by rw [cut32_eq, q]; decide, ?_⟩
          rw [beq_eq_false_iff_ne]
          intro h
          refine h1 ⟨q, ?_⟩
          have h2 : sx y = BitVec.allOnes 64 := BitVec.eq_of_toNat_eq (by rw [show (BitVec.allOnes 64).toNat = 18446744073709551615 from rfl]; omega)
          have h3 := congrArg lo h2; rw [lo_sx] at h3; rw [h3]; rfl
        · refine .inl ?_
          rw [beq_eq_false_iff_ne, cut32_eq]
          intro h
          exact q (up_inj (BitVec.eq_of_toNat_eq (by have e : (up (BitVec.intMin 32)).toNat = 2147483648 := rfl; rw [e]; omega)))
      have AA := Lib.hid (fun W => rar_32_3 x y W (HY1))
      have e1 : opB 3 (lo x) (lo y) = (lo (arB 32 3 (up (lo x)) (up (lo y)) (sx x) (sx y)), 0) := ar_32 3 (by decide) x y (fun h => h0 h.2.2) (fun h => h1 h.2)
      rw [e1]
      obtain ⟨Z, hZ⟩ : ∃ Z, Z = arB 32 3 (up (lo x)) (up (lo y)) (sx x) (sx y) := ⟨_, rfl⟩
      rw [← hZ] at AA ⊢
      clear hZ e1
      have CZ : ∀ W, Calls Tryd.prog 33 #[.int .u64 (Z.toNat : Int), .int .i64 32] W fun e w' => e = .returned (.int .u64 ((up (lo Z)).toNat : Int)) ∧ w' = W := fun W => by have h := rcut_32 Z.toNat W Z.isLt; rw [cut32_eq] at h; exact h
      replace CZ := Lib.hid CZ
      show Calls Tryd.prog 20 #[.int .i64 109, .int .u64 (x.toNat : Int), .int .u64 (y.toNat : Int)] w fun e w' => e = .returned (.tuple #[.int .u64 ((up (lo Z)).toNat : Int), .int .i64 0]) ∧ Below w.heap.size w w'
      have CY := Lib.hid (fun W => rcut_32 y.toNat W y.isLt)
      have CX := Lib.hid (fun W => rcut_32 x.toNat W x.isLt)
      have SY : ∀ W, Calls Tryd.prog 35 #[.int .u64 (y.toNat : Int), .int .i64 32] W fun e w' => e = .returned (.int .u64 ((sx y).toNat : Int)) ∧ w' = W := fun W => by have h := rsign_32 y.toNat W y.isLt; rw [yes_sg] at h; exact h
      replace SY := Lib.hid SY
      clear h0 h1 HY1 HY2
      generalize (((up (lo Z)).toNat : Nat) : Int) = R at *
      generalize (Z.toNat : Int) = z at *
      generalize ((y.toNat % 4294967296 : Nat) : Int) = C at *
      generalize ((x.toNat % 4294967296 : Nat) : Int) = D at *
      generalize ((sx y).toNat : Int) = S at *
      generalize (x.toNat : Int) = X at *
      generalize (y.toNat : Int) = Y at *
      rcases t3 with t3 | ⟨t3, t4⟩
      · skip
        go_enter Tryd.func20, Tryd.ntmps20
        go_wp2_with (first | (go_at_call 12; (with_reducible refine (AR.out _).mono ?_); rintro e u ⟨rfl, hb⟩) | (go_at_call 33; (with_reducible refine (CY.out _).mono ?_); rintro e u ⟨rfl, rfl⟩) | (go_at_call 33; (with_reducible refine (CX.out _).mono ?_); rintro e u ⟨rfl, rfl⟩) | (go_at_call 33; (with_reducible refine (CZ.out _).mono ?_); rintro e u ⟨rfl, rfl⟩) | (go_at_call 35; (with_reducible refine (SY.out _).mono ?_); rintro e u ⟨rfl, rfl⟩) | (go_at_call 37; (with_reducible refine (AA.out _).mono ?_); rintro e u ⟨rfl, rfl⟩))
        go_ret2
        exact ⟨rfl, hb⟩
      · skip
        go_enter Tryd.func20, Tryd.ntmps20
        go_wp2_with (first | (go_at_call 12; (with_reducible refine (AR.out _).mono ?_); rintro e u ⟨rfl, hb⟩) | (go_at_call 33; (with_reducible refine (CY.out _).mono ?_); rintro e u ⟨rfl, rfl⟩) | (go_at_call 33; (with_reducible refine (CX.out _).mono ?_); rintro e u ⟨rfl, rfl⟩) | (go_at_call 33; (with_reducible refine (CZ.out _).mono ?_); rintro e u ⟨rfl, rfl⟩) | (go_at_call 35; (with_reducible refine (SY.out _).mono ?_); rintro e u ⟨rfl, rfl⟩) | (go_at_call 37; (with_reducible refine (AA.out _).mono ?_); rintro e u ⟨rfl, rfl⟩))
        go_ret2
        exact ⟨rfl, hb⟩
set_option maxHeartbeats 2000000 in
theorem rbin_110 (x y : B64) (w : World) : Calls Tryd.prog 20 #[.int .i64 110, .int .u64 (x.toNat : Int), .int .u64 (y.toNat : Int)] w fun e w' => e = .returned (.tuple #[.int .u64 ((up (opB 4 (lo x) (lo y)).1).toNat : Int), .int .i64 (opB 4 (lo x) (lo y)).2]) ∧ Below w.heap.size w w' := by
  have AR : ∀ W, Calls Tryd.prog 12 #[.int .i64 110] W fun e w' => e = .returned (.int .i64 2) ∧ Below W.heap.size W w' := fun W => by have h := rarity_k 110 W; rw [← (ar_2 (by decide) : 2 = arN 110)] at h; exact h
  replace AR := Lib.hid AR
  by_cases h0 : lo y = 0
  · have e1 : opB 4 (lo x) (lo y) = (0, 21) := by unfold opB; rw [if_pos ⟨by decide, by decide, h0⟩]
    rw [e1]
    have tC : (((y.toNat % 4294967296 : Nat) : Int) == 0) = true := by
      rw [cut32_eq, h0]; rfl
    have CY := Lib.hid (fun W => rcut_32 y.toNat W y.isLt)
    clear h0 e1
    generalize ((y.toNat % 4294967296 : Nat) : Int) = C at *
    show Calls Tryd.prog 20 #[.int .i64 110, .int .u64 (x.toNat : Int), .int .u64 (y.toNat : Int)] w fun e w' => e = .returned (.tuple #[.int .u64 0, .int .i64 21]) ∧ Below w.heap.size w w'
    generalize (x.toNat : Int) = X at *
    generalize (y.toNat : Int) = Y at *
    go_enter Tryd.func20, Tryd.ntmps20
    go_wp2_with (first | (go_at_call 12; (with_reducible refine (AR.out _).mono ?_); rintro e u ⟨rfl, hb⟩) | (go_at_call 33; (with_reducible refine (CY.out _).mono ?_); rintro e u ⟨rfl, rfl⟩))
    go_ret2
    exact ⟨rfl, hb⟩
  · skip
    have HY1 : sx y ≠ 0 := fun h => h0 (by have := congrArg lo h; rw [lo_sx] at this; exact this)
    have HY2 : up (lo y) ≠ 0 := fun h => h0 (up_inj h)
    have tC : (((y.toNat % 4294967296 : Nat) : Int) == 0) = false := by
      rw [beq_eq_false_iff_ne, cut32_eq]
      exact fun h => HY2 (BitVec.eq_of_toNat_eq (by simpa using h))
    have AA := Lib.hid (fun W => rar_32_4 x y W (HY2))
    have e1 : opB 4 (lo x) (lo y) = (lo (arB 32 4 (up (lo x)) (up (lo y)) (sx x) (sx y)), 0) := ar_32 4 (by decide) x y (fun h => h0 h.2.2) (by rintro ⟨h, _⟩; omega)
    rw [e1]
    obtain ⟨Z, hZ⟩ : ∃ Z, Z = arB 32 4 (up (lo x)) (up (lo y)) (sx x) (sx y) := ⟨_, rfl⟩
    rw [← hZ] at AA ⊢
    clear hZ e1
    have CZ : ∀ W, Calls Tryd.prog 33 #[.int .u64 (Z.toNat : Int), .int .i64 32] W fun e w' => e = .returned (.int .u64 ((up (lo Z)).toNat : Int)) ∧ w' = W := fun W => by have h := rcut_32 Z.toNat W Z.isLt; rw [cut32_eq] at h; exact h
    replace CZ := Lib.hid CZ
    show Calls Tryd.prog 20 #[.int .i64 110, .int .u64 (x.toNat : Int), .int .u64 (y.toNat : Int)] w fun e w' => e = .returned (.tuple #[.int .u64 ((up (lo Z)).toNat : Int), .int .i64 0]) ∧ Below w.heap.size w w'
    have CY := Lib.hid (fun W => rcut_32 y.toNat W y.isLt)
    clear h0 HY1 HY2
    generalize (((up (lo Z)).toNat : Nat) : Int) = R at *
    generalize (Z.toNat : Int) = z at *
    generalize ((y.toNat % 4294967296 : Nat) : Int) = C at *
    generalize (x.toNat : Int) = X at *
    generalize (y.toNat : Int) = Y at *
    go_enter Tryd.func20, Tryd.ntmps20
    go_wp2_with (first | (go_at_call 12; (with_reducible refine (AR.out _).mono ?_); rintro e u ⟨rfl, hb⟩) | (go_at_call 33; (with_reducible refine (CY.out _).mono ?_); rintro e u ⟨rfl, rfl⟩) | (go_at_call 33; (with_reducible refine (CZ.out _).mono ?_); rintro e u ⟨rfl, rfl⟩) | (go_at_call 37; (with_reducible refine (AA.out _).mono ?_); rintro e u ⟨rfl, rfl⟩))
    go_ret2
    exact ⟨rfl, hb⟩
set_option maxHeartbeats 2000000 in
theorem rbin_111 (x y : B64) (w : World) : Calls Tryd.prog 20 #[.int .i64 111, .int .u64 (x.toNat : Int), .int .u64 (y.toNat : Int)] w fun e w' => e = .returned (.tuple #[.int .u64 ((up (opB 5 (lo x) (lo y)).1).toNat : Int), .int .i64 (opB 5 (lo x) (lo y)).2]) ∧ Below w.heap.size w w' := by
  have AR : ∀ W, Calls Tryd.prog 12 #[.int .i64 111] W fun e w' => e = .returned (.int .i64 2) ∧ Below W.heap.size W w' := fun W => by have h := rarity_k 111 W; rw [← (ar_2 (by decide) : 2 = arN 111)] at h; exact h
  replace AR := Lib.hid AR
  by_cases h0 : lo y = 0
  · have e1 : opB 5 (lo x) (lo y) = (0, 21) := by unfold opB; rw [if_pos ⟨by decide, by decide, h0⟩]
    rw [e1]
    have tC : (((y.toNat % 4294967296 : Nat) : Int) == 0) = true := by
      rw [cut32_eq, h0]; rfl
    have CY := Lib.hid (fun W => rcut_32 y.toNat W y.isLt)
    clear h0 e1
    generalize ((y.toNat % 4294967296 : Nat) : Int) = C at *
    show Calls Tryd.prog 20 #[.int .i64 111, .int .u64 (x.toNat : Int), .int .u64 (y.toNat : Int)] w fun e w' => e = .returned (.tuple #[.int .u64 0, .int .i64 21]) ∧ Below w.heap.size w w'
    generalize (x.toNat : Int) = X at *
    generalize (y.toNat : Int) = Y at *
    go_enter Tryd.func20, Tryd.ntmps20
    go_wp2_with (first | (go_at_call 12; (with_reducible refine (AR.out _).mono ?_); rintro e u ⟨rfl, hb⟩) | (go_at_call 33; (with_reducible refine (CY.out _).mono ?_); rintro e u ⟨rfl, rfl⟩))
    go_ret2
    exact ⟨rfl, hb⟩
  · skip
    have HY1 : sx y ≠ 0 := fun h => h0 (by have := congrArg lo h; rw [lo_sx] at this; exact this)
    have HY2 : up (lo y) ≠ 0 := fun h => h0 (up_inj h)
    have tC : (((y.toNat % 4294967296 : Nat) : Int) == 0) = false := by
      rw [beq_eq_false_iff_ne, cut32_eq]
      exact fun h => HY2 (BitVec.eq_of_toNat_eq (by simpa using h))
    have AA := Lib.hid (fun W => rar_32_5 x y W (HY1))
    have e1 : opB 5 (lo x) (lo y) = (lo (arB 32 5 (up (lo x)) (up (lo y)) (sx x) (sx y)), 0) := ar_32 5 (by decide) x y (fun h => h0 h.2.2) (by rintro ⟨h, _⟩; omega)
    rw [e1]
    obtain ⟨Z, hZ⟩ : ∃ Z, Z = arB 32 5 (up (lo x)) (up (lo y)) (sx x) (sx y) := ⟨_, rfl⟩
    rw [← hZ] at AA ⊢
    clear hZ e1
    have CZ : ∀ W, Calls Tryd.prog 33 #[.int .u64 (Z.toNat : Int), .int .i64 32] W fun e w' => e = .returned (.int .u64 ((up (lo Z)).toNat : Int)) ∧ w' = W := fun W => by have h := rcut_32 Z.toNat W Z.isLt; rw [cut32_eq] at h; exact h
    replace CZ := Lib.hid CZ
    show Calls Tryd.prog 20 #[.int .i64 111, .int .u64 (x.toNat : Int), .int .u64 (y.toNat : Int)] w fun e w' => e = .returned (.tuple #[.int .u64 ((up (lo Z)).toNat : Int), .int .i64 0]) ∧ Below w.heap.size w w'
    have CY := Lib.hid (fun W => rcut_32 y.toNat W y.isLt)
    clear h0 HY1 HY2
    generalize (((up (lo Z)).toNat : Nat) : Int) = R at *
    generalize (Z.toNat : Int) = z at *
    generalize ((y.toNat % 4294967296 : Nat) : Int) = C at *
    generalize (x.toNat : Int) = X at *
    generalize (y.toNat : Int) = Y at *
    go_enter Tryd.func20, Tryd.ntmps20
    go_wp2_with (first | (go_at_call 12; (with_reducible refine (AR.out _).mono ?_); rintro e u ⟨rfl, hb⟩) | (go_at_call 33; (with_reducible refine (CY.out _).mono ?_); rintro e u ⟨rfl, rfl⟩) | (go_at_call 33; (with_reducible refine (CZ.out _).mono ?_); rintro e u ⟨rfl, rfl⟩) | (go_at_call 37; (with_reducible refine (AA.out _).mono ?_); rintro e u ⟨rfl, rfl⟩))
    go_ret2
    exact ⟨rfl, hb⟩
set_option maxHeartbeats 2000000 in
theorem rbin_112 (x y : B64) (w : World) : Calls Tryd.prog 20 #[.int .i64 112, .int .u64 (x.toNat : Int), .int .u64 (y.toNat : Int)] w fun e w' => e = .returned (.tuple #[.int .u64 ((up (opB 6 (lo x) (lo y)).1).toNat : Int), .int .i64 (opB 6 (lo x) (lo y)).2]) ∧ Below w.heap.size w w' := by
  have AR : ∀ W, Calls Tryd.prog 12 #[.int .i64 112] W fun e w' => e = .returned (.int .i64 2) ∧ Below W.heap.size W w' := fun W => by have h := rarity_k 112 W; rw [← (ar_2 (by decide) : 2 = arN 112)] at h; exact h
  replace AR := Lib.hid AR
  by_cases h0 : lo y = 0
  · have e1 : opB 6 (lo x) (lo y) = (0, 21) := by unfold opB; rw [if_pos ⟨by decide, by decide, h0⟩]
    rw [e1]
    have tC : (((y.toNat % 4294967296 : Nat) : Int) == 0) = true := by
      rw [cut32_eq, h0]; rfl
    have CY := Lib.hid (fun W => rcut_32 y.toNat W y.isLt)
    clear h0 e1
    generalize ((y.toNat % 4294967296 : Nat) : Int) = C at *
    show Calls Tryd.prog 20 #[.int .i64 112, .int .u64 (x.toNat : Int), .int .u64 (y.toNat : Int)] w fun e w' => e = .returned (.tuple #[.int .u64 0, .int .i64 21]) ∧ Below w.heap.size w w'
    generalize (x.toNat : Int) = X at *
    generalize (y.toNat : Int) = Y at *
    go_enter Tryd.func20, Tryd.ntmps20
    go_wp2_with (first | (go_at_call 12; (with_reducible refine (AR.out _).mono ?_); rintro e u ⟨rfl, hb⟩) | (go_at_call 33; (with_reducible refine (CY.out _).mono ?_); rintro e u ⟨rfl, rfl⟩))
    go_ret2
    exact ⟨rfl, hb⟩
  · skip
    have HY1 : sx y ≠ 0 := fun h => h0 (by have := congrArg lo h; rw [lo_sx] at this; exact this)
    have HY2 : up (lo y) ≠ 0 := fun h => h0 (up_inj h)
    have tC : (((y.toNat % 4294967296 : Nat) : Int) == 0) = false := by
      rw [beq_eq_false_iff_ne, cut32_eq]
      exact fun h => HY2 (BitVec.eq_of_toNat_eq (by simpa using h))
    have AA := Lib.hid (fun W => rar_32_6 x y W (HY2))
    have e1 : opB 6 (lo x) (lo y) = (lo (arB 32 6 (up (lo x)) (up (lo y)) (sx x) (sx y)), 0) := ar_32 6 (by decide) x y (fun h => h0 h.2.2) (by rintro ⟨h, _⟩; omega)
    rw [e1]
    obtain ⟨Z, hZ⟩ : ∃ Z, Z = arB 32 6 (up (lo x)) (up (lo y)) (sx x) (sx y) := ⟨_, rfl⟩
    rw [← hZ] at AA ⊢
    clear hZ e1
    have CZ : ∀ W, Calls Tryd.prog 33 #[.int .u64 (Z.toNat : Int), .int .i64 32] W fun e w' => e = .returned (.int .u64 ((up (lo Z)).toNat : Int)) ∧ w' = W := fun W => by have h := rcut_32 Z.toNat W Z.isLt; rw [cut32_eq] at h; exact h
    replace CZ := Lib.hid CZ
    show Calls Tryd.prog 20 #[.int .i64 112, .int .u64 (x.toNat : Int), .int .u64 (y.toNat : Int)] w fun e w' => e = .returned (.tuple #[.int .u64 ((up (lo Z)).toNat : Int), .int .i64 0]) ∧ Below w.heap.size w w'
    have CY := Lib.hid (fun W => rcut_32 y.toNat W y.isLt)
    clear h0 HY1 HY2
    generalize (((up (lo Z)).toNat : Nat) : Int) = R at *
    generalize (Z.toNat : Int) = z at *
    generalize ((y.toNat % 4294967296 : Nat) : Int) = C at *
    generalize (x.toNat : Int) = X at *
    generalize (y.toNat : Int) = Y at *
    go_enter Tryd.func20, Tryd.ntmps20
    go_wp2_with (first | (go_at_call 12; (with_reducible refine (AR.out _).mono ?_); rintro e u ⟨rfl, hb⟩) | (go_at_call 33; (with_reducible refine (CY.out _).mono ?_); rintro e u ⟨rfl, rfl⟩) | (go_at_call 33; (with_reducible refine (CZ.out _).mono ?_); rintro e u ⟨rfl, rfl⟩) | (go_at_call 37; (with_reducible refine (AA.out _).mono ?_); rintro e u ⟨rfl, rfl⟩))
    go_ret2
    exact ⟨rfl, hb⟩
set_option maxHeartbeats 2000000 in
theorem rbin_113 (x y : B64) (w : World) : Calls Tryd.prog 20 #[.int .i64 113, .int .u64 (x.toNat : Int), .int .u64 (y.toNat : Int)] w fun e w' => e = .returned (.tuple #[.int .u64 ((up (opB 7 (lo x) (lo y)).1).toNat : Int), .int .i64 (opB 7 (lo x) (lo y)).2]) ∧ Below w.heap.size w w' := by
  have AR : ∀ W, Calls Tryd.prog 12 #[.int .i64 113] W fun e w' => e = .returned (.int .i64 2) ∧ Below W.heap.size W w' := fun W => by have h := rarity_k 113 W; rw [← (ar_2 (by decide) : 2 = arN 113)] at h; exact h
  replace AR := Lib.hid AR
  have AA := Lib.hid (fun W => rar_32_7 x y W)
  have e1 : opB 7 (lo x) (lo y) = (lo (arB 32 7 (up (lo x)) (up (lo y)) (sx x) (sx y)), 0) := ar_32 7 (by decide) x y (by rintro ⟨_, _, h⟩; omega) (by rintro ⟨h, _⟩; omega)
  rw [e1]
  obtain ⟨Z, hZ⟩ : ∃ Z, Z = arB 32 7 (up (lo x)) (up (lo y)) (sx x) (sx y) := ⟨_, rfl⟩
  rw [← hZ] at AA ⊢
  clear hZ e1
  have CZ : ∀ W, Calls Tryd.prog 33 #[.int .u64 (Z.toNat : Int), .int .i64 32] W fun e w' => e = .returned (.int .u64 ((up (lo Z)).toNat : Int)) ∧ w' = W := fun W => by have h := rcut_32 Z.toNat W Z.isLt; rw [cut32_eq] at h; exact h
  replace CZ := Lib.hid CZ
  show Calls Tryd.prog 20 #[.int .i64 113, .int .u64 (x.toNat : Int), .int .u64 (y.toNat : Int)] w fun e w' => e = .returned (.tuple #[.int .u64 ((up (lo Z)).toNat : Int), .int .i64 0]) ∧ Below w.heap.size w w'
  generalize (((up (lo Z)).toNat : Nat) : Int) = R at *
  generalize (Z.toNat : Int) = z at *
  generalize (x.toNat : Int) = X at *
  generalize (y.toNat : Int) = Y at *
  go_enter Tryd.func20, Tryd.ntmps20
  go_wp2_with (first | (go_at_call 12; (with_reducible refine (AR.out _).mono ?_); rintro e u ⟨rfl, hb⟩) | (go_at_call 37; (with_reducible refine (AA.out _).mono ?_); rintro e u ⟨rfl, rfl⟩) | (go_at_call 33; (with_reducible refine (CZ.out _).mono ?_); rintro e u ⟨rfl, rfl⟩))
  go_ret2
  exact ⟨rfl, hb⟩
set_option maxHeartbeats 2000000 in
theorem rbin_114 (x y : B64) (w : World) : Calls Tryd.prog 20 #[.int .i64 114, .int .u64 (x.toNat : Int), .int .u64 (y.toNat : Int)] w fun e w' => e = .returned (.tuple #[.int .u64 ((up (opB 8 (lo x) (lo y)).1).toNat : Int), .int .i64 (opB 8 (lo x) (lo y)).2]) ∧ Below w.heap.size w w' := by
  have AR : ∀ W, Calls Tryd.prog 12 #[.int .i64 114] W fun e w' => e = .returned (.int .i64 2) ∧ Below W.heap.size W w' := fun W => by have h := rarity_k 114 W; rw [← (ar_2 (by decide) : 2 = arN 114)] at h; exact h
  replace AR := Lib.hid AR
  have AA := Lib.hid (fun W => rar_32_8 x y W)
  have e1 : opB 8 (lo x) (lo y) = (lo (arB 32 8 (up (lo x)) (up (lo y)) (sx x) (sx y)), 0) := ar_32 8 (by decide) x y (by rintro ⟨_, _, h⟩; omega) (by rintro ⟨h, _⟩; omega)
  rw [e1]
  obtain ⟨Z, hZ⟩ : ∃ Z, Z = arB 32 8 (up (lo x)) (up (lo y)) (sx x) (sx y) := ⟨_, rfl⟩
  rw [← hZ] at AA ⊢
  clear hZ e1
  have CZ : ∀ W, Calls Tryd.prog 33 #[.int .u64 (Z.toNat : Int), .int .i64 32] W fun e w' => e = .returned (.int .u64 ((up (lo Z)).toNat : Int)) ∧ w' = W := fun W => by have h := rcut_32 Z.toNat W Z.isLt; rw [cut32_eq] at h; exact h
  replace CZ := Lib.hid CZ
  show Calls Tryd.prog 20 #[.int .i64 114, .int .u64 (x.toNat : Int), .int .u64 (y.toNat : Int)] w fun e w' => e = .returned (.tuple #[.int .u64 ((up (lo Z)).toNat : Int), .int .i64 0]) ∧ Below w.heap.size w w'
  generalize (((up (lo Z)).toNat : Nat) : Int) = R at *
  generalize (Z.toNat : Int) = z at *
  generalize (x.toNat : Int) = X at *
  generalize (y.toNat : Int) = Y at *
  go_enter Tryd.func20, Tryd.ntmps20
  go_wp2_with (first | (go_at_call 12; (with_reducible refine (AR.out _).mono ?_); rintro e u ⟨rfl, hb⟩) | (go_at_call 37; (with_reducible refine (AA.out _).mono ?_); rintro e u ⟨rfl, rfl⟩) | (go_at_call 33; (with_reducible refine (CZ.out _).mono ?_); rintro e u ⟨rfl, rfl⟩))
  go_ret2
  exact ⟨rfl, hb⟩
set_option maxHeartbeats 2000000 in
theorem rbin_115 (x y : B64) (w : World) : Calls Tryd.prog 20 #[.int .i64 115, .int .u64 (x.toNat : Int), .int .u64 (y.toNat : Int)] w fun e w' => e = .returned (.tuple #[.int .u64 ((up (opB 9 (lo x) (lo y)).1).toNat : Int), .int .i64 (opB 9 (lo x) (lo y)).2]) ∧ Below w.heap.size w w' := by
  have AR : ∀ W, Calls Tryd.prog 12 #[.int .i64 115] W fun e w' => e = .returned (.int .i64 2) ∧ Below W.heap.size W w' := fun W => by have h := rarity_k 115 W; rw [← (ar_2 (by decide) : 2 = arN 115)] at h; exact h
  replace AR := Lib.hid AR
  have AA := Lib.hid (fun W => rar_32_9 x y W)
  have e1 : opB 9 (lo x) (lo y) = (lo (arB 32 9 (up (lo x)) (up (lo y)) (sx x) (sx y)), 0) := ar_32 9 (by decide) x y (by rintro ⟨_, _, h⟩; omega) (by rintro ⟨h, _⟩; omega)
  rw [e1]
  obtain ⟨Z, hZ⟩ : ∃ Z, Z = arB 32 9 (up (lo x)) (up (lo y)) (sx x) (sx y) := ⟨_, rfl⟩
  rw [← hZ] at AA ⊢
  clear hZ e1
  have CZ : ∀ W, Calls Tryd.prog 33 #[.int .u64 (Z.toNat : Int), .int .i64 32] W fun e w' => e = .returned (.int .u64 ((up (lo Z)).toNat : Int)) ∧ w' = W := fun W => by have h := rcut_32 Z.toNat W Z.isLt; rw [cut32_eq] at h; exact h
  replace CZ := Lib.hid CZ
  show Calls Tryd.prog 20 #[.int .i64 115, .int .u64 (x.toNat : Int), .int .u64 (y.toNat : Int)] w fun e w' => e = .returned (.tuple #[.int .u64 ((up (lo Z)).toNat : Int), .int .i64 0]) ∧ Below w.heap.size w w'
  generalize (((up (lo Z)).toNat : Nat) : Int) = R at *
  generalize (Z.toNat : Int) = z at *
  generalize (x.toNat : Int) = X at *
  generalize (y.toNat : Int) = Y at *
  go_enter Tryd.func20, Tryd.ntmps20
  go_wp2_with (first | (go_at_call 12; (with_reducible refine (AR.out _).mono ?_); rintro e u ⟨rfl, hb⟩) | (go_at_call 37; (with_reducible refine (AA.out _).mono ?_); rintro e u ⟨rfl, rfl⟩) | (go_at_call 33; (with_reducible refine (CZ.out _).mono ?_); rintro e u ⟨rfl, rfl⟩))
  go_ret2
  exact ⟨rfl, hb⟩
set_option maxHeartbeats 2000000 in
theorem rbin_116 (x y : B64) (w : World) : Calls Tryd.prog 20 #[.int .i64 116, .int .u64 (x.toNat : Int), .int .u64 (y.toNat : Int)] w fun e w' => e = .returned (.tuple #[.int .u64 ((up (opB 10 (lo x) (lo y)).1).toNat : Int), .int .i64 (opB 10 (lo x) (lo y)).2]) ∧ Below w.heap.size w w' := by
  have AR : ∀ W, Calls Tryd.prog 12 #[.int .i64 116] W fun e w' => e = .returned (.int .i64 2) ∧ Below W.heap.size W w' := fun W => by have h := rarity_k 116 W; rw [← (ar_2 (by decide) : 2 = arN 116)] at h; exact h
  replace AR := Lib.hid AR
  have AA := Lib.hid (fun W => rar_32_10 x y W)
  have e1 : opB 10 (lo x) (lo y) = (lo (arB 32 10 (up (lo x)) (up (lo y)) (sx x) (sx y)), 0) := ar_32 10 (by decide) x y (by rintro ⟨_, _, h⟩; omega) (by rintro ⟨h, _⟩; omega)
  rw [e1]
  obtain ⟨Z, hZ⟩ : ∃ Z, Z = arB 32 10 (up (lo x)) (up (lo y)) (sx x) (sx y) := ⟨_, rfl⟩
  rw [← hZ] at AA ⊢
  clear hZ e1
  have CZ : ∀ W, Calls Tryd.prog 33 #[.int .u64 (Z.toNat : Int), .int .i64 32] W fun e w' => e = .returned (.int .u64 ((up (lo Z)).toNat : Int)) ∧ w' = W := fun W => by have h := rcut_32 Z.toNat W Z.isLt; rw [cut32_eq] at h; exact h
  replace CZ := Lib.hid CZ
  show Calls Tryd.prog 20 #[.int .i64 116, .int .u64 (x.toNat : Int), .int .u64 (y.toNat : Int)] w fun e w' => e = .returned (.tuple #[.int .u64 ((up (lo Z)).toNat : Int), .int .i64 0]) ∧ Below w.heap.size w w'
  generalize (((up (lo Z)).toNat : Nat) : Int) = R at *
  generalize (Z.toNat : Int) = z at *
  generalize (x.toNat : Int) = X at *
  generalize (y.toNat : Int) = Y at *
  go_enter Tryd.func20, Tryd.ntmps20
  go_wp2_with (first | (go_at_call 12; (with_reducible refine (AR.out _).mono ?_); rintro e u ⟨rfl, hb⟩) | (go_at_call 37; (with_reducible refine (AA.out _).mono ?_); rintro e u ⟨rfl, rfl⟩) | (go_at_call 33; (with_reducible refine (CZ.out _).mono ?_); rintro e u ⟨rfl, rfl⟩))
  go_ret2
  exact ⟨rfl, hb⟩
set_option maxHeartbeats 2000000 in
theorem rbin_117 (x y : B64) (w : World) : Calls Tryd.prog 20 #[.int .i64 117, .int .u64 (x.toNat : Int), .int .u64 (y.toNat : Int)] w fun e w' => e = .returned (.tuple #[.int .u64 ((up (opB 11 (lo x) (lo y)).1).toNat : Int), .int .i64 (opB 11 (lo x) (lo y)).2]) ∧ Below w.heap.size w w' := by
  have AR : ∀ W, Calls Tryd.prog 12 #[.int .i64 117] W fun e w' => e = .returned (.int .i64 2) ∧ Below W.heap.size W w' := fun W => by have h := rarity_k 117 W; rw [← (ar_2 (by decide) : 2 = arN 117)] at h; exact h
  replace AR := Lib.hid AR
  have AA := Lib.hid (fun W => rar_32_11 x y W)
  have e1 : opB 11 (lo x) (lo y) = (lo (arB 32 11 (up (lo x)) (up (lo y)) (sx x) (sx y)), 0) := ar_32 11 (by decide) x y (by rintro ⟨_, _, h⟩; omega) (by rintro ⟨h, _⟩; omega)
  rw [e1]
  obtain ⟨Z, hZ⟩ : ∃ Z, Z = arB 32 11 (up (lo x)) (up (lo y)) (sx x) (sx y) := ⟨_, rfl⟩
  rw [← hZ] at AA ⊢
  clear hZ e1
  have CZ : ∀ W, Calls Tryd.prog 33 #[.int .u64 (Z.toNat : Int), .int .i64 32] W fun e w' => e = .returned (.int .u64 ((up (lo Z)).toNat : Int)) ∧ w' = W := fun W => by have h := rcut_32 Z.toNat W Z.isLt; rw [cut32_eq] at h; exact h
  replace CZ := Lib.hid CZ
  show Calls Tryd.prog 20 #[.int .i64 117, .int .u64 (x.toNat : Int), .int .u64 (y.toNat : Int)] w fun e w' => e = .returned (.tuple #[.int .u64 ((up (lo Z)).toNat : Int), .int .i64 0]) ∧ Below w.heap.size w w'
  generalize (((up (lo Z)).toNat : Nat) : Int) = R at *
  generalize (Z.toNat : Int) = z at *
  generalize (x.toNat : Int) = X at *
  generalize (y.toNat : Int) = Y at *
  go_enter Tryd.func20, Tryd.ntmps20
  go_wp2_with (first | (go_at_call 12; (with_reducible refine (AR.out _).mono ?_); rintro e u ⟨rfl, hb⟩) | (go_at_call 37; (with_reducible refine (AA.out _).mono ?_); rintro e u ⟨rfl, rfl⟩) | (go_at_call 33; (with_reducible refine (CZ.out _).mono ?_); rintro e u ⟨rfl, rfl⟩))
  go_ret2
  exact ⟨rfl, hb⟩
set_option maxHeartbeats 2000000 in
theorem rbin_118 (x y : B64) (w : World) : Calls Tryd.prog 20 #[.int .i64 118, .int .u64 (x.toNat : Int), .int .u64 (y.toNat : Int)] w fun e w' => e = .returned (.tuple #[.int .u64 ((up (opB 12 (lo x) (lo y)).1).toNat : Int), .int .i64 (opB 12 (lo x) (lo y)).2]) ∧ Below w.heap.size w w' := by
  have AR : ∀ W, Calls Tryd.prog 12 #[.int .i64 118] W fun e w' => e = .returned (.int .i64 2) ∧ Below W.heap.size W w' := fun W => by have h := rarity_k 118 W; rw [← (ar_2 (by decide) : 2 = arN 118)] at h; exact h
  replace AR := Lib.hid AR
  have AA := Lib.hid (fun W => rar_32_12 x y W)
  have e1 : opB 12 (lo x) (lo y) = (lo (arB 32 12 (up (lo x)) (up (lo y)) (sx x) (sx y)), 0) := ar_32 12 (by decide) x y (by rintro ⟨_, _, h⟩; omega) (by rintro ⟨h, _⟩; omega)
  rw [e1]
  obtain ⟨Z, hZ⟩ : ∃ Z, Z = arB 32 12 (up (lo x)) (up (lo y)) (sx x) (sx y) := ⟨_, rfl⟩
  rw [← hZ] at AA ⊢
  clear hZ e1
  have CZ : ∀ W, Calls Tryd.prog 33 #[.int .u64 (Z.toNat : Int), .int .i64 32] W fun e w' => e = .returned (.int .u64 ((up (lo Z)).toNat : Int)) ∧ w' = W := fun W => by have h := rcut_32 Z.toNat W Z.isLt; rw [cut32_eq] at h; exact h
  replace CZ := Lib.hid CZ
  show Calls Tryd.prog 20 #[.int .i64 118, .int .u64 (x.toNat : Int), .int .u64 (y.toNat : Int)] w fun e w' => e = .returned (.tuple #[.int .u64 ((up (lo Z)).toNat : Int), .int .i64 0]) ∧ Below w.heap.size w w'
  generalize (((up (lo Z)).toNat : Nat) : Int) = R at *
  generalize (Z.toNat : Int) = z at *
  generalize (x.toNat : Int) = X at *
  generalize (y.toNat : Int) = Y at *
  go_enter Tryd.func20, Tryd.ntmps20
  go_wp2_with (first | (go_at_call 12; (with_reducible refine (AR.out _).mono ?_); rintro e u ⟨rfl, hb⟩) | (go_at_call 37; (with_reducible refine (AA.out _).mono ?_); rintro e u ⟨rfl, rfl⟩) | (go_at_call 33; (with_reducible refine (CZ.out _).mono ?_); rintro e u ⟨rfl, rfl⟩))
  go_ret2
  exact ⟨rfl, hb⟩
set_option maxHeartbeats 2000000 in
theorem rbin_119 (x y : B64) (w : World) : Calls Tryd.prog 20 #[.int .i64 119, .int .u64 (x.toNat : Int), .int .u64 (y.toNat : Int)] w fun e w' => e = .returned (.tuple #[.int .u64 ((up (opB 13 (lo x) (lo y)).1).toNat : Int), .int .i64 (opB 13 (lo x) (lo y)).2]) ∧ Below w.heap.size w w' := by
  have AR : ∀ W, Calls Tryd.prog 12 #[.int .i64 119] W fun e w' => e = .returned (.int .i64 2) ∧ Below W.heap.size W w' := fun W => by have h := rarity_k 119 W; rw [← (ar_2 (by decide) : 2 = arN 119)] at h; exact h
  replace AR := Lib.hid AR
  have AA := Lib.hid (fun W => rar_32_13 x y W)
  have e1 : opB 13 (lo x) (lo y) = (lo (arB 32 13 (up (lo x)) (up (lo y)) (sx x) (sx y)), 0) := ar_32 13 (by decide) x y (by rintro ⟨_, _, h⟩; omega) (by rintro ⟨h, _⟩; omega)
  rw [e1]
  obtain ⟨Z, hZ⟩ : ∃ Z, Z = arB 32 13 (up (lo x)) (up (lo y)) (sx x) (sx y) := ⟨_, rfl⟩
  rw [← hZ] at AA ⊢
  clear hZ e1
  have CZ : ∀ W, Calls Tryd.prog 33 #[.int .u64 (Z.toNat : Int), .int .i64 32] W fun e w' => e = .returned (.int .u64 ((up (lo Z)).toNat : Int)) ∧ w' = W := fun W => by have h := rcut_32 Z.toNat W Z.isLt; rw [cut32_eq] at h; exact h
  replace CZ := Lib.hid CZ
  show Calls Tryd.prog 20 #[.int .i64 119, .int .u64 (x.toNat : Int), .int .u64 (y.toNat : Int)] w fun e w' => e = .returned (.tuple #[.int .u64 ((up (lo Z)).toNat : Int), .int .i64 0]) ∧ Below w.heap.size w w'
  generalize (((up (lo Z)).toNat : Nat) : Int) = R at *
  generalize (Z.toNat : Int) = z at *
  generalize (x.toNat : Int) = X at *
  generalize (y.toNat : Int) = Y at *
  go_enter Tryd.func20, Tryd.ntmps20
  go_wp2_with (first | (go_at_call 12; (with_reducible refine (AR.out _).mono ?_); rintro e u ⟨rfl, hb⟩) | (go_at_call 37; (with_reducible refine (AA.out _).mono ?_); rintro e u ⟨rfl, rfl⟩) | (go_at_call 33; (with_reducible refine (CZ.out _).mono ?_); rintro e u ⟨rfl, rfl⟩))
  go_ret2
  exact ⟨rfl, hb⟩
set_option maxHeartbeats 2000000 in
theorem rbin_120 (x y : B64) (w : World) : Calls Tryd.prog 20 #[.int .i64 120, .int .u64 (x.toNat : Int), .int .u64 (y.toNat : Int)] w fun e w' => e = .returned (.tuple #[.int .u64 ((up (opB 14 (lo x) (lo y)).1).toNat : Int), .int .i64 (opB 14 (lo x) (lo y)).2]) ∧ Below w.heap.size w w' := by
  have AR : ∀ W, Calls Tryd.prog 12 #[.int .i64 120] W fun e w' => e = .returned (.int .i64 2) ∧ Below W.heap.size W w' := fun W => by have h := rarity_k 120 W; rw [← (ar_2 (by decide) : 2 = arN 120)] at h; exact h
  replace AR := Lib.hid AR
  have AA := Lib.hid (fun W => rar_32_14 x y W)
  have e1 : opB 14 (lo x) (lo y) = (lo (arB 32 14 (up (lo x)) (up (lo y)) (sx x) (sx y)), 0) := ar_32 14 (by decide) x y (by rintro ⟨_, _, h⟩; omega) (by rintro ⟨h, _⟩; omega)
  rw [e1]
  obtain ⟨Z, hZ⟩ : ∃ Z, Z = arB 32 14 (up (lo x)) (up (lo y)) (sx x) (sx y) := ⟨_, rfl⟩
  rw [← hZ] at AA ⊢
  clear hZ e1
  have CZ : ∀ W, Calls Tryd.prog 33 #[.int .u64 (Z.toNat : Int), .int .i64 32] W fun e w' => e = .returned (.int .u64 ((up (lo Z)).toNat : Int)) ∧ w' = W := fun W => by have h := rcut_32 Z.toNat W Z.isLt; rw [cut32_eq] at h; exact h
  replace CZ := Lib.hid CZ
  show Calls Tryd.prog 20 #[.int .i64 120, .int .u64 (x.toNat : Int), .int .u64 (y.toNat : Int)] w fun e w' => e = .returned (.tuple #[.int .u64 ((up (lo Z)).toNat : Int), .int .i64 0]) ∧ Below w.heap.size w w'
  generalize (((up (lo Z)).toNat : Nat) : Int) = R at *
  generalize (Z.toNat : Int) = z at *
  generalize (x.toNat : Int) = X at *
  generalize (y.toNat : Int) = Y at *
  go_enter Tryd.func20, Tryd.ntmps20
  go_wp2_with (first | (go_at_call 12; (with_reducible refine (AR.out _).mono ?_); rintro e u ⟨rfl, hb⟩) | (go_at_call 37; (with_reducible refine (AA.out _).mono ?_); rintro e u ⟨rfl, rfl⟩) | (go_at_call 33; (with_reducible refine (CZ.out _).mono ?_); rintro e u ⟨rfl, rfl⟩))
  go_ret2
  exact ⟨rfl, hb⟩
set_option maxHeartbeats 2000000 in
theorem rbin_124 (x y : B64) (w : World) : Calls Tryd.prog 20 #[.int .i64 124, .int .u64 (x.toNat : Int), .int .u64 (y.toNat : Int)] w fun e w' => e = .returned (.tuple #[.int .u64 ((opB 0 x y).1.toNat : Int), .int .i64 (opB 0 (x) (y)).2]) ∧ Below w.heap.size w w' := by
  have AR : ∀ W, Calls Tryd.prog 12 #[.int .i64 124] W fun e w' => e = .returned (.int .i64 2) ∧ Below W.heap.size W w' := fun W => by have h := rarity_k 124 W; rw [← (ar_2 (by decide) : 2 = arN 124)] at h; exact h
  replace AR := Lib.hid AR
  have AA := Lib.hid (fun W => rar_64_0 x y W)
  have e1 : opB 0 (x) (y) = (arB 64 0 x y x y, 0) := ar_64 0 (by decide) x y (by rintro ⟨_, _, h⟩; omega) (by rintro ⟨h, _⟩; omega)
  rw [e1]
  obtain ⟨Z, hZ⟩ : ∃ Z, Z = arB 64 0 x y x y := ⟨_, rfl⟩
  rw [← hZ] at AA ⊢
  clear hZ e1
  have CZ : ∀ W, Calls Tryd.prog 33 #[.int .u64 (Z.toNat : Int), .int .i64 64] W fun e w' => e = .returned (.int .u64 (Z.toNat : Int)) ∧ w' = W := fun W => by have h := rcut_64 Z.toNat W Z.isLt; rw [cut64_eq] at h; exact h
  replace CZ := Lib.hid CZ
  show Calls Tryd.prog 20 #[.int .i64 124, .int .u64 (x.toNat : Int), .int .u64 (y.toNat : Int)] w fun e w' => e = .returned (.tuple #[.int .u64 (Z.toNat : Int), .int .i64 0]) ∧ Below w.heap.size w w'
  generalize ((Z.toNat : Nat) : Int) = R at *
  skip
  generalize (x.toNat : Int) = X at *
  generalize (y.toNat : Int) = Y at *
  go_enter Tryd.func20, Tryd.ntmps20
  go_wp2_with (first | (go_at_call 12; (with_reducible refine (AR.out _).mono ?_); rintro e u ⟨rfl, hb⟩) | (go_at_call 37; (with_reducible refine (AA.out _).mono ?_); rintro e u ⟨rfl, rfl⟩) | (go_at_call 33; (with_reducible refine (CZ.out _).mono ?_); rintro e u ⟨rfl, rfl⟩))
  go_ret2
  exact ⟨rfl, hb⟩
set_option maxHeartbeats 2000000 in
theorem rbin_125 (x y : B64) (w : World) : Calls Tryd.prog 20 #[.int .i64 125, .int .u64 (x.toNat : Int), .int .u64 (y.toNat : Int)] w fun e w' => e = .returned (.tuple #[.int .u64 ((opB 1 x y).1.toNat : Int), .int .i64 (opB 1 (x) (y)).2]) ∧ Below w.heap.size w w' := by
  have AR : ∀ W, Calls Tryd.prog 12 #[.int .i64 125] W fun e w' => e = .returned (.int .i64 2) ∧ Below W.heap.size W w' := fun W => by have h := rarity_k 125 W; rw [← (ar_2 (by decide) : 2 = arN 125)] at h; exact h
  replace AR := Lib.hid AR
  have AA := Lib.hid (fun W => rar_64_1 x y W)
  have e1 : opB 1 (x) (y) = (arB 64 1 x y x y, 0) := ar_64 1 (by decide) x y (by rintro ⟨_, _, h⟩; omega) (by rintro ⟨h, _⟩; omega)
  rw [e1]
  obtain ⟨Z, hZ⟩ : ∃ Z, Z = arB 64 1 x y x y := ⟨_, rfl⟩
  rw [← hZ] at AA ⊢
  clear hZ e1
  have CZ : ∀ W, Calls Tryd.prog 33 #[.int .u64 (Z.toNat : Int), .int .i64 64] W fun e w' => e = .returned (.int .u64 (Z.toNat : Int)) ∧ w' = W := fun W => by have h := rcut_64 Z.toNat W Z.isLt; rw [cut64_eq] at h; exact h
  replace CZ := Lib.hid CZ
  show Calls Tryd.prog 20 #[.int .i64 125, .int .u64 (x.toNat : Int), .int .u64 (y.toNat : Int)] w fun e w' => e = .returned (.tuple #[.int .u64 (Z.toNat : Int), .int .i64 0]) ∧ Below w.heap.size w w'
  generalize ((Z.toNat : Nat) : Int) = R at *
  skip
  generalize (x.toNat : Int) = X at *
  generalize (y.toNat : Int) = Y at *
  go_enter Tryd.func20, Tryd.ntmps20
  go_wp2_with (first | (go_at_call 12; (with_reducible refine (AR.out _).mono ?_); rintro e u ⟨rfl, hb⟩) | (go_at_call 37; (with_reducible refine (AA.out _).mono ?_); rintro e u ⟨rfl, rfl⟩) | (go_at_call 33; (with_reducible refine (CZ.out _).mono ?_); rintro e u ⟨rfl, rfl⟩))
  go_ret2
  exact ⟨rfl, hb⟩
set_option maxHeartbeats 2000000 in
theorem rbin_126 (x y : B64) (w : World) : Calls Tryd.prog 20 #[.int .i64 126, .int .u64 (x.toNat : Int), .int .u64 (y.toNat : Int)] w fun e w' => e = .returned (.tuple #[.int .u64 ((opB 2 x y).1.toNat : Int), .int .i64 (opB 2 (x) (y)).2]) ∧ Below w.heap.size w w' := by
  have AR : ∀ W, Calls Tryd.prog 12 #[.int .i64 126] W fun e w' => e = .returned (.int .i64 2) ∧ Below W.heap.size W w' := fun W => by have h := rarity_k 126 W; rw [← (ar_2 (by decide) : 2 = arN 126)] at h; exact h
  replace AR := Lib.hid AR
  have AA := Lib.hid (fun W => rar_64_2 x y W)
  have e1 : opB 2 (x) (y) = (arB 64 2 x y x y, 0) := ar_64 2 (by decide) x y (by rintro ⟨_, _, h⟩; omega) (by rintro ⟨h, _⟩; omega)
  rw [e1]
  obtain ⟨Z, hZ⟩ : ∃ Z, Z = arB 64 2 x y x y := ⟨_, rfl⟩
  rw [← hZ] at AA ⊢
  clear hZ e1
  have CZ : ∀ W, Calls Tryd.prog 33 #[.int .u64 (Z.toNat : Int), .int .i64 64] W fun e w' => e = .returned (.int .u64 (Z.toNat : Int)) ∧ w' = W := fun W => by have h := rcut_64 Z.toNat W Z.isLt; rw [cut64_eq] at h; exact h
  replace CZ := Lib.hid CZ
  show Calls Tryd.prog 20 #[.int .i64 126, .int .u64 (x.toNat : Int), .int .u64 (y.toNat : Int)] w fun e w' => e = .returned (.tuple #[.int .u64 (Z.toNat : Int), .int .i64 0]) ∧ Below w.heap.size w w'
  generalize ((Z.toNat : Nat) : Int) = R at *
  skip
  generalize (x.toNat : Int) = X at *
  generalize (y.toNat : Int) = Y at *
  go_enter Tryd.func20, Tryd.ntmps20
  go_wp2_with (first | (go_at_call 12; (with_reducible refine (AR.out _).mono ?_); rintro e u ⟨rfl, hb⟩) | (go_at_call 37; (with_reducible refine (AA.out _).mono ?_); rintro e u ⟨rfl, rfl⟩) | (go_at_call 33; (with_reducible refine (CZ.out _).mono ?_); rintro e u ⟨rfl, rfl⟩))
  go_ret2
  exact ⟨rfl, hb⟩
set_option maxHeartbeats 2000000 in
theorem rbin_127 (x y : B64) (w : World) : Calls Tryd.prog 20 #[.int .i64 127, .int .u64 (x.toNat : Int), .int .u64 (y.toNat : Int)] w fun e w' => e = .returned (.tuple #[.int .u64 ((opB 3 x y).1.toNat : Int), .int .i64 (opB 3 (x) (y)).2]) ∧ Below w.heap.size w w' := by
  have AR : ∀ W, Calls Tryd.prog 12 #[.int .i64 127] W fun e w' => e = .returned (.int .i64 2) ∧ Below W.heap.size W w' := fun W => by have h := rarity_k 127 W; rw [← (ar_2 (by decide) : 2 = arN 127)] at h; exact h
  replace AR := Lib.hid AR
  by_cases h0 : y = 0
  · have e1 : opB 3 (x) (y) = (0, 21) := by unfold opB; rw [if_pos ⟨by decide, by decide, h0⟩]
    rw [e1]
    have tC : (((y.toNat % 18446744073709551616 : Nat) : Int) == 0) = true := by
      rw [cut64_eq, h0]; rfl
    have CY := Lib.hid (fun W => rcut_64 y.toNat W y.isLt)
    clear h0 e1
    generalize ((y.toNat % 18446744073709551616 : Nat) : Int) = C at *
    show Calls Tryd.prog 20 #[.int .i64 127, .int .u64 (x.toNat : Int), .int .u64 (y.toNat : Int)] w fun e w' => e = .returned (.tuple #[.int .u64 0, .int .i64 21]) ∧ Below w.heap.size w w'
    generalize (x.toNat : Int) = X at *
    generalize (y.toNat : Int) = Y at *
    go_enter Tryd.func20, Tryd.ntmps20
    go_wp2_with (first | (go_at_call 12; (with_reducible refine (AR.out _).mono ?_); rintro e u ⟨rfl, hb⟩) | (go_at_call 33; (with_reducible refine (CY.out _).mono ?_); rintro e u ⟨rfl, rfl⟩))
    go_ret2
    exact ⟨rfl, hb⟩
  · by_cases h1 : x = BitVec.intMin 64 ∧ y = BitVec.allOnes 64
    · have e1 : opB 3 (x) (y) = (0, 22) := by
        unfold opB
        rw [if_neg (fun h => h0 h.2.2)]
        show (if x = BitVec.intMin 64 ∧ y = BitVec.allOnes 64 then ((0 : BitVec 64), (22 : Int)) else ((x).sdiv (y), 0)) = _
        rw [if_pos h1]
      rw [e1]
      have HY2 : y ≠ 0 := h0
      have tC : (((y.toNat % 18446744073709551616 : Nat) : Int) == 0) = false := by
        rw [beq_eq_false_iff_ne, cut64_eq]
        exact fun h => HY2 (BitVec.eq_of_toNat_eq (by simpa using h))
      have tX : (((x.toNat % 18446744073709551616 : Nat) : Int) == 9223372036854775808) = true := by rw [cut64_eq, h1.1]; decide
      have tY : (((y).toNat : Int) == 18446744073709551615) = true := by rw [h1.2]; decide
      have CY := Lib.hid (fun W => rcut_64 y.toNat W y.isLt)
      have CX := Lib.hid (fun W => rcut_64 x.toNat W x.isLt)
      have SY : ∀ W, Calls Tryd.prog 35 #[.int .u64 (y.toNat : Int), .int .i64 64] W fun e w' => e = .returned (.int .u64 (y.toNat : Int)) ∧ w' = W := fun W => by have h := rsign_64 y.toNat W y.isLt; rw [sg64_eq] at h; exact h
      replace SY := Lib.hid SY
      clear h0 h1 e1 HY2
      generalize ((y.toNat % 18446744073709551616 : Nat) : Int) = C at *
      generalize ((x.toNat % 18446744073709551616 : Nat) : Int) = D at *
      skip
      show Calls Tryd.prog 20 #[.int .i64 127, .int .u64 (x.toNat : Int), .int .u64 (y.toNat : Int)] w fun e w' => e = .returned (.tuple #[.int .u64 0, .int .i64 22]) ∧ Below w.heap.size w w'
      generalize (x.toNat : Int) = X at *
      generalize (y.toNat : Int) = Y at *
      go_enter Tryd.func20, Tryd.ntmps20
      go_wp2_with (first | (go_at_call 12; (with_reducible refine (AR.out _).mono ?_); rintro e u ⟨rfl, hb⟩) | (go_at_call 33; (with_reducible refine (CY.out _).mono ?_); rintro e u ⟨rfl, rfl⟩) | (go_at_call 33; (with_reducible refine (CX.out _).mono ?_); rintro e u ⟨rfl, rfl⟩) | (go_at_call 35; (with_reducible refine (SY.out _).mono ?_); rintro e u ⟨rfl, rfl⟩))
      go_ret2
      exact ⟨rfl, hb⟩
    · skip
      have HY1 : y ≠ 0 := h0
      have HY2 : y ≠ 0 := h0
      have tC : (((y.toNat % 18446744073709551616 : Nat) : Int) == 0) = false := by
        rw [beq_eq_false_iff_ne, cut64_eq]
        exact fun h => HY2 (BitVec.eq_of_toNat_eq (by simpa using h))
      have t3 : (((x.toNat % 18446744073709551616 : Nat) : Int) == 9223372036854775808) = false ∨ (((x.toNat % 18446744073709551616 : Nat) : Int) == 9223372036854775808) = true ∧ (((y).toNat : Int) == 18446744073709551615) = false := by
        by_cases q : x = BitVec.intMin 64
        · refine .inr ⟨by rw [cut64_eq, q]; decide, ?_⟩
          rw [beq_eq_false_iff_ne]
          intro h
          refine h1 ⟨q, ?_⟩
          have h2 : y = BitVec.allOnes 64 := BitVec.eq_of_toNat_eq (by rw [show (BitVec.allOnes 64).toNat = 18446744073709551615 from rfl]; omega)
          exact h2
        · refine .inl ?_
          rw [beq_eq_false_iff_ne, cut64_eq]
          intro h
          exact q ((BitVec.eq_of_toNat_eq (by have e : (BitVec.intMin 64).toNat = 9223372036854775808 := rfl; rw [e]; omega)))
      have AA := Lib.hid (fun W => rar_64_3 x y W (HY1))
      have e1 : opB 3 (x) (y) = (arB 64 3 x y x y, 0) := ar_64 3 (by decide) x y (fun h => h0 h.2.2) (fun h => h1 h.2)
      rw [e1]
      obtain ⟨Z, hZ⟩ : ∃ Z, Z = arB 64 3 x y x y := ⟨_, rfl⟩
      rw [← hZ] at AA ⊢
      clear hZ e1
      have CZ : ∀ W, Calls Tryd.prog 33 #[.int .u64 (Z.toNat : Int), .int .i64 64] W fun e w' => e = .returned (.int .u64 (Z.toNat : Int)) ∧ w' = W := fun W => by have h := rcut_64 Z.toNat W Z.isLt; rw [cut64_eq] at h; exact h
      replace CZ := Lib.hid CZ
      show Calls Tryd.prog 20 #[.int .i64 127, .int .u64 (x.toNat : Int), .int .u64 (y.toNat : Int)] w fun e w' => e = .returned (.tuple #[.int .u64 (Z.toNat : Int), .int .i64 0]) ∧ Below w.heap.size w w'
      have CY := Lib.hid (fun W => rcut_64 y.toNat W y.isLt)
      have CX := Lib.hid (fun W => rcut_64 x.toNat W x.isLt)
      have SY : ∀ W, Calls Tryd.prog 35 #[.int .u64 (y.toNat : Int), .int .i64 64] W fun e w' => e = .returned (.int .u64 (y.toNat : Int)) ∧ w' = W := fun W => by have h := rsign_64 y.toNat W y.isLt; rw [sg64_eq] at h; exact h
      replace SY := Lib.hid SY
      clear h0 h1 HY1 HY2
      generalize ((Z.toNat : Nat) : Int) = R at *
      skip
      generalize ((y.toNat % 18446744073709551616 : Nat) : Int) = C at *
      generalize ((x.toNat % 18446744073709551616 : Nat) : Int) = D at *
      skip
      generalize (x.toNat : Int) = X at *
      generalize (y.toNat : Int) = Y at *
      rcases t3 with t3 | ⟨t3, t4⟩
      · skip
        go_enter Tryd.func20, Tryd.ntmps20
        go_wp2_with (first | (go_at_call 12; (with_reducible refine (AR.out _).mono ?_); rintro e u ⟨rfl, hb⟩) | (go_at_call 33; (with_reducible refine (CY.out _).mono ?_); rintro e u ⟨rfl, rfl⟩) | (go_at_call 33; (with_reducible refine (CX.out _).mono ?_); rintro e u ⟨rfl, rfl⟩) | (go_at_call 33; (with_reducible refine (CZ.out _).mono ?_); rintro e u ⟨rfl, rfl⟩) | (go_at_call 35; (with_reducible refine (SY.out _).mono ?_); rintro e u ⟨rfl, rfl⟩) | (go_at_call 37; (with_reducible refine (AA.out _).mono ?_); rintro e u ⟨rfl, rfl⟩))
        go_ret2
        exact ⟨rfl, hb⟩
      · skip
        go_enter Tryd.func20, Tryd.ntmps20
        go_wp2_with (first | (go_at_call 12; (with_reducible refine (AR.out _).mono ?_); rintro e u ⟨rfl, hb⟩) | (go_at_call 33; (with_reducible refine (CY.out _).mono ?_); rintro e u ⟨rfl, rfl⟩) | (go_at_call 33; (with_reducible refine (CX.out _).mono ?_); rintro e u ⟨rfl, rfl⟩) | (go_at_call 33; (with_reducible refine (CZ.out _).mono ?_); rintro e u ⟨rfl, rfl⟩) | (go_at_call 35; (with_reducible refine (SY.out _).mono ?_); rintro e u ⟨rfl, rfl⟩) | (go_at_call 37; (with_reducible refine (AA.out _).mono ?_); rintro e u ⟨rfl, rfl⟩))
        go_ret2
        exact ⟨rfl, hb⟩
set_option maxHeartbeats 2000000 in
theorem rbin_128 (x y : B64) (w : World) : Calls Tryd.prog 20 #[.int .i64 128, .int .u64 (x.toNat : Int), .int .u64 (y.toNat : Int)] w fun e w' => e = .returned (.tuple #[.int .u64 ((opB 4 x y).1.toNat : Int), .int .i64 (opB 4 (x) (y)).2]) ∧ Below w.heap.size w w' := by
  have AR : ∀ W, Calls Tryd.prog 12 #[.int .i64 128] W fun e w' => e = .returned (.int .i64 2) ∧ Below W.heap.size W w' := fun W => by have h := rarity_k 128 W; rw [← (ar_2 (by decide) : 2 = arN 128)] at h; exact h
  replace AR := Lib.hid AR
  by_cases h0 : y = 0
  · have e1 : opB 4 (x) (y) = (0, 21) := by unfold opB; rw [if_pos ⟨by decide, by decide, h0⟩]
    rw [e1]
    have tC : (((y.toNat % 18446744073709551616 : Nat) : Int) == 0) = true := by
      rw [cut64_eq, h0]; rfl
    have CY := Lib.hid (fun W => rcut_64 y.toNat W y.isLt)
    clear h0 e1
    generalize ((y.toNat % 18446744073709551616 : Nat) : Int) = C at *
    show Calls Tryd.prog 20 #[.int .i64 128, .int .u64 (x.toNat : Int), .int .u64 (y.toNat : Int)] w fun e w' => e = .returned (.tuple #[.int .u64 0, .int .i64 21]) ∧ Below w.heap.size w w'
    generalize (x.toNat : Int) = X at *
    generalize (y.toNat : Int) = Y at *
    go_enter Tryd.func20, Tryd.ntmps20
    go_wp2_with (first | (go_at_call 12; (with_reducible refine (AR.out _).mono ?_); rintro e u ⟨rfl, hb⟩) | (go_at_call 33; (with_reducible refine (CY.out _).mono ?_); rintro e u ⟨rfl, rfl⟩))
    go_ret2
    exact ⟨rfl, hb⟩
  · skip
    have HY1 : y ≠ 0 := h0
    have HY2 : y ≠ 0 := h0
    have tC : (((y.toNat % 18446744073709551616 : Nat) : Int) == 0) = false := by
      rw [beq_eq_false_iff_ne, cut64_eq]
      exact fun h => HY2 (BitVec.eq_of_toNat_eq (by simpa using h))
    have AA := Lib.hid (fun W => rar_64_4 x y W (HY2))
    have e1 : opB 4 (x) (y) = (arB 64 4 x y x y, 0) := ar_64 4 (by decide) x y (fun h => h0 h.2.2) (by rintro ⟨h, _⟩; omega)
    rw [e1]
    obtain ⟨Z, hZ⟩ : ∃ Z, Z = arB 64 4 x y x y := ⟨_, rfl⟩
    rw [← hZ] at AA ⊢
    clear hZ e1
    have CZ : ∀ W, Calls Tryd.prog 33 #[.int .u64 (Z.toNat : Int), .int .i64 64] W fun e w' => e = .returned (.int .u64 (Z.toNat : Int)) ∧ w' = W := fun W => by have h := rcut_64 Z.toNat W Z.isLt; rw [cut64_eq] at h; exact h
    replace CZ := Lib.hid CZ
    show Calls Tryd.prog 20 #[.int .i64 128, .int .u64 (x.toNat : Int), .int .u64 (y.toNat : Int)] w fun e w' => e = .returned (.tuple #[.int .u64 (Z.toNat : Int), .int .i64 0]) ∧ Below w.heap.size w w'
    have CY := Lib.hid (fun W => rcut_64 y.toNat W y.isLt)
    clear h0 HY1 HY2
    generalize ((Z.toNat : Nat) : Int) = R at *
    skip
    generalize ((y.toNat % 18446744073709551616 : Nat) : Int) = C at *
    generalize (x.toNat : Int) = X at *
    generalize (y.toNat : Int) = Y at *
    go_enter Tryd.func20, Tryd.ntmps20
    go_wp2_with (first | (go_at_call 12; (with_reducible refine (AR.out _).mono ?_); rintro e u ⟨rfl, hb⟩) | (go_at_call 33; (with_reducible refine (CY.out _).mono ?_); rintro e u ⟨rfl, rfl⟩) | (go_at_call 33; (with_reducible refine (CZ.out _).mono ?_); rintro e u ⟨rfl, rfl⟩) | (go_at_call 37; (with_reducible refine (AA.out _).mono ?_); rintro e u ⟨rfl, rfl⟩))
    go_ret2
    exact ⟨rfl, hb⟩
set_option maxHeartbeats 2000000 in
theorem rbin_129 (x y : B64) (w : World) : Calls Tryd.prog 20 #[.int .i64 129, .int .u64 (x.toNat : Int), .int .u64 (y.toNat : Int)] w fun e w' => e = .returned (.tuple #[.int .u64 ((opB 5 x y).1.toNat : Int), .int .i64 (opB 5 (x) (y)).2]) ∧ Below w.heap.size w w' := by
  have AR : ∀ W, Calls Tryd.prog 12 #[.int .i64 129] W fun e w' => e = .returned (.int .i64 2) ∧ Below W.heap.size W w' := fun W => by have h := rarity_k 129 W; rw [← (ar_2 (by decide) : 2 = arN 129)] at h; exact h
  replace AR := Lib.hid AR
  by_cases h0 : y = 0
  · have e1 : opB 5 (x) (y) = (0, 21) := by unfold opB; rw [if_pos ⟨by decide, by decide, h0⟩]
    rw [e1]
    have tC : (((y.toNat % 18446744073709551616 : Nat) : Int) == 0) = true := by
      rw [cut64_eq, h0]; rfl
    have CY := Lib.hid (fun W => rcut_64 y.toNat W y.isLt)
    clear h0 e1
    generalize ((y.toNat % 18446744073709551616 : Nat) : Int) = C at *
    show Calls Tryd.prog 20 #[.int .i64 129, .int .u64 (x.toNat : Int), .int .u64 (y.toNat : Int)] w fun e w' => e = .returned (.tuple #[.int .u64 0, .int .i64 21]) ∧ Below w.heap.size w w'
    generalize (x.toNat : Int) = X at *
    generalize (y.toNat : Int) = Y at *
    go_enter Tryd.func20, Tryd.ntmps20
    go_wp2_with (first | (go_at_call 12; (with_reducible refine (AR.out _).mono ?_); rintro e u ⟨rfl, hb⟩) | (go_at_call 33; (with_reducible refine (CY.out _).mono ?_); rintro e u ⟨rfl, rfl⟩))
    go_ret2
    exact ⟨rfl, hb⟩
  · skip
    have HY1 : y ≠ 0 := h0
    have HY2 : y ≠ 0 := h0
    have tC : (((y.toNat % 18446744073709551616 : Nat) : Int) == 0) = false := by
      rw [beq_eq_false_iff_ne, cut64_eq]
      exact fun h => HY2 (BitVec.eq_of_toNat_eq (by simpa using h))
    have AA := Lib.hid (fun W => rar_64_5 x y W (HY1))
    have e1 : opB 5 (x) (y) = (arB 64 5 x y x y, 0) := ar_64 5 (by decide) x y (fun h => h0 h.2.2) (by rintro ⟨h, _⟩; omega)
    rw [e1]
    obtain ⟨Z, hZ⟩ : ∃ Z, Z = arB 64 5 x y x y := ⟨_, rfl⟩
    rw [← hZ] at AA ⊢
    clear hZ e1
    have CZ : ∀ W, Calls Tryd.prog 33 #[.int .u64 (Z.toNat : Int), .int .i64 64] W fun e w' => e = .returned (.int .u64 (Z.toNat : Int)) ∧ w' = W := fun W => by have h := rcut_64 Z.toNat W Z.isLt; rw [cut64_eq] at h; exact h
    replace CZ := Lib.hid CZ
    show Calls Tryd.prog 20 #[.int .i64 129, .int .u64 (x.toNat : Int), .int .u64 (y.toNat : Int)] w fun e w' => e = .returned (.tuple #[.int .u64 (Z.toNat : Int), .int .i64 0]) ∧ Below w.heap.size w w'
    have CY := Lib.hid (fun W => rcut_64 y.toNat W y.isLt)
    clear h0 HY1 HY2
    generalize ((Z.toNat : Nat) : Int) = R at *
    skip
    generalize ((y.toNat % 18446744073709551616 : Nat) : Int) = C at *
    generalize (x.toNat : Int) = X at *
    generalize (y.toNat : Int) = Y at *
    go_enter Tryd.func20, Tryd.ntmps20
    go_wp2_with (first | (go_at_call 12; (with_reducible refine (AR.out _).mono ?_); rintro e u ⟨rfl, hb⟩) | (go_at_call 33; (with_reducible refine (CY.out _).mono ?_); rintro e u ⟨rfl, rfl⟩) | (go_at_call 33; (with_reducible refine (CZ.out _).mono ?_); rintro e u ⟨rfl, rfl⟩) | (go_at_call 37; (with_reducible refine (AA.out _).mono ?_); rintro e u ⟨rfl, rfl⟩))
    go_ret2
    exact ⟨rfl, hb⟩
set_option maxHeartbeats 2000000 in
theorem rbin_130 (x y : B64) (w : World) : Calls Tryd.prog 20 #[.int .i64 130, .int .u64 (x.toNat : Int), .int .u64 (y.toNat : Int)] w fun e w' => e = .returned (.tuple #[.int .u64 ((opB 6 x y).1.toNat : Int), .int .i64 (opB 6 (x) (y)).2]) ∧ Below w.heap.size w w' := by
  have AR : ∀ W, Calls Tryd.prog 12 #[.int .i64 130] W fun e w' => e = .returned (.int .i64 2) ∧ Below W.heap.size W w' := fun W => by have h := rarity_k 130 W; rw [← (ar_2 (by decide) : 2 = arN 130)] at h; exact h
  replace AR := Lib.hid AR
  by_cases h0 : y = 0
  · have e1 : opB 6 (x) (y) = (0, 21) := by unfold opB; rw [if_pos ⟨by decide, by decide, h0⟩]
    rw [e1]
    have tC : (((y.toNat % 18446744073709551616 : Nat) : Int) == 0) = true := by
      rw [cut64_eq, h0]; rfl
    have CY := Lib.hid (fun W => rcut_64 y.toNat W y.isLt)
    clear h0 e1
    generalize ((y.toNat % 18446744073709551616 : Nat) : Int) = C at *
    show Calls Tryd.prog 20 #[.int .i64 130, .int .u64 (x.toNat : Int), .int .u64 (y.toNat : Int)] w fun e w' => e = .returned (.tuple #[.int .u64 0, .int .i64 21]) ∧ Below w.heap.size w w'
    generalize (x.toNat : Int) = X at *
    generalize (y.toNat : Int) = Y at *
    go_enter Tryd.func20, Tryd.ntmps20
    go_wp2_with (first | (go_at_call 12; (with_reducible refine (AR.out _).mono ?_); rintro e u ⟨rfl, hb⟩) | (go_at_call 33; (with_reducible refine (CY.out _).mono ?_); rintro e u ⟨rfl, rfl⟩))
    go_ret2
    exact ⟨rfl, hb⟩
  · skip
    have HY1 : y ≠ 0 := h0
    have HY2 : y ≠ 0 := h0
    have tC : (((y.toNat % 18446744073709551616 : Nat) : Int) == 0) = false := by
      rw [beq_eq_false_iff_ne, cut64_eq]
      exact fun h => HY2 (BitVec.eq_of_toNat_eq (by simpa using h))
    have AA := Lib.hid (fun W => rar_64_6 x y W (HY2))
    have e1 : opB 6 (x) (y) = (arB 64 6 x y x y, 0) := ar_64 6 (by decide) x y (fun h => h0 h.2.2) (by rintro ⟨h, _⟩; omega)
    rw [e1]
    obtain ⟨Z, hZ⟩ : ∃ Z, Z = arB 64 6 x y x y := ⟨_, rfl⟩
    rw [← hZ] at AA ⊢
    clear hZ e1
    have CZ : ∀ W, Calls Tryd.prog 33 #[.int .u64 (Z.toNat : Int), .int .i64 64] W fun e w' => e = .returned (.int .u64 (Z.toNat : Int)) ∧ w' = W := fun W => by have h := rcut_64 Z.toNat W Z.isLt; rw [cut64_eq] at h; exact h
    replace CZ := Lib.hid CZ
    show Calls Tryd.prog 20 #[.int .i64 130, .int .u64 (x.toNat : Int), .int .u64 (y.toNat : Int)] w fun e w' => e = .returned (.tuple #[.int .u64 (Z.toNat : Int), .int .i64 0]) ∧ Below w.heap.size w w'
    have CY := Lib.hid (fun W => rcut_64 y.toNat W y.isLt)
    clear h0 HY1 HY2
    generalize ((Z.toNat : Nat) : Int) = R at *
    skip
    generalize ((y.toNat % 18446744073709551616 : Nat) : Int) = C at *
    generalize (x.toNat : Int) = X at *
    generalize (y.toNat : Int) = Y at *
    go_enter Tryd.func20, Tryd.ntmps20
    go_wp2_with (first | (go_at_call 12; (with_reducible refine (AR.out _).mono ?_); rintro e u ⟨rfl, hb⟩) | (go_at_call 33; (with_reducible refine (CY.out _).mono ?_); rintro e u ⟨rfl, rfl⟩) | (go_at_call 33; (with_reducible refine (CZ.out _).mono ?_); rintro e u ⟨rfl, rfl⟩) | (go_at_call 37; (with_reducible refine (AA.out _).mono ?_); rintro e u ⟨rfl, rfl⟩))
    go_ret2
    exact ⟨rfl, hb⟩
set_option maxHeartbeats 2000000 in
theorem rbin_131 (x y : B64) (w : World) : Calls Tryd.prog 20 #[.int .i64 131, .int .u64 (x.toNat : Int), .int .u64 (y.toNat : Int)] w fun e w' => e = .returned (.tuple #[.int .u64 ((opB 7 x y).1.toNat : Int), .int .i64 (opB 7 (x) (y)).2]) ∧ Below w.heap.size w w' := by
  have AR : ∀ W, Calls Tryd.prog 12 #[.int .i64 131] W fun e w' => e = .returned (.int .i64 2) ∧ Below W.heap.size W w' := fun W => by have h := rarity_k 131 W; rw [← (ar_2 (by decide) : 2 = arN 131)] at h; exact h
  replace AR := Lib.hid AR
  have AA := Lib.hid (fun W => rar_64_7 x y W)
  have e1 : opB 7 (x) (y) = (arB 64 7 x y x y, 0) := ar_64 7 (by decide) x y (by rintro ⟨_, _, h⟩; omega) (by rintro ⟨h, _⟩; omega)
  rw [e1]
  obtain ⟨Z, hZ⟩ : ∃ Z, Z = arB 64 7 x y x y := ⟨_, rfl⟩
  rw [← hZ] at AA ⊢
  clear hZ e1
  have CZ : ∀ W, Calls Tryd.prog 33 #[.int .u64 (Z.toNat : Int), .int .i64 64] W fun e w' => e = .returned (.int .u64 (Z.toNat : Int)) ∧ w' = W := fun W => by have h := rcut_64 Z.toNat W Z.isLt; rw [cut64_eq] at h; exact h
  replace CZ := Lib.hid CZ
  show Calls Tryd.prog 20 #[.int .i64 131, .int .u64 (x.toNat : Int), .int .u64 (y.toNat : Int)] w fun e w' => e = .returned (.tuple #[.int .u64 (Z.toNat : Int), .int .i64 0]) ∧ Below w.heap.size w w'
  generalize ((Z.toNat : Nat) : Int) = R at *
  skip
  generalize (x.toNat : Int) = X at *
  generalize (y.toNat : Int) = Y at *
  go_enter Tryd.func20, Tryd.ntmps20
  go_wp2_with (first | (go_at_call 12; (with_reducible refine (AR.out _).mono ?_); rintro e u ⟨rfl, hb⟩) | (go_at_call 37; (with_reducible refine (AA.out _).mono ?_); rintro e u ⟨rfl, rfl⟩) | (go_at_call 33; (with_reducible refine (CZ.out _).mono ?_); rintro e u ⟨rfl, rfl⟩))
  go_ret2
  exact ⟨rfl, hb⟩
set_option maxHeartbeats 2000000 in
theorem rbin_132 (x y : B64) (w : World) : Calls Tryd.prog 20 #[.int .i64 132, .int .u64 (x.toNat : Int), .int .u64 (y.toNat : Int)] w fun e w' => e = .returned (.tuple #[.int .u64 ((opB 8 x y).1.toNat : Int), .int .i64 (opB 8 (x) (y)).2]) ∧ Below w.heap.size w w' := by
  have AR : ∀ W, Calls Tryd.prog 12 #[.int .i64 132] W fun e w' => e = .returned (.int .i64 2) ∧ Below W.heap.size W w' := fun W => by have h := rarity_k 132 W; rw [← (ar_2 (by decide) : 2 = arN 132)] at h; exact h
  replace AR := Lib.hid AR
  have AA := Lib.hid (fun W => rar_64_8 x y W)
  have e1 : opB 8 (x) (y) = (arB 64 8 x y x y, 0) := ar_64 8 (by decide) x y (by rintro ⟨_, _, h⟩; omega) (by rintro ⟨h, _⟩; omega)
  rw [e1]
  obtain ⟨Z, hZ⟩ : ∃ Z, Z = arB 64 8 x y x y := ⟨_, rfl⟩
  rw [← hZ] at AA ⊢
  clear hZ e1
  have CZ : ∀ W, Calls Tryd.prog 33 #[.int .u64 (Z.toNat : Int), .int .i64 64] W fun e w' => e = .returned (.int .u64 (Z.toNat : Int)) ∧ w' = W := fun W => by have h := rcut_64 Z.toNat W Z.isLt; rw [cut64_eq] at h; exact h
  replace CZ := Lib.hid CZ
  show Calls Tryd.prog 20 #[.int .i64 132, .int .u64 (x.toNat : Int), .int .u64 (y.toNat : Int)] w fun e w' => e = .returned (.tuple #[.int .u64 (Z.toNat : Int), .int .i64 0]) ∧ Below w.heap.size w w'
  generalize ((Z.toNat : Nat) : Int) = R at *
  skip
  generalize (x.toNat : Int) = X at *
  generalize (y.toNat : Int) = Y at *
  go_enter Tryd.func20, Tryd.ntmps20
  go_wp2_with (first | (go_at_call 12; (with_reducible refine (AR.out _).mono ?_); rintro e u ⟨rfl, hb⟩) | (go_at_call 37; (with_reducible refine (AA.out _).mono ?_); rintro e u ⟨rfl, rfl⟩) | (go_at_call 33; (with_reducible refine (CZ.out _).mono ?_); rintro e u ⟨rfl, rfl⟩))
  go_ret2
  exact ⟨rfl, hb⟩
set_option maxHeartbeats 2000000 in
theorem rbin_133 (x y : B64) (w : World) : Calls Tryd.prog 20 #[.int .i64 133, .int .u64 (x.toNat : Int), .int .u64 (y.toNat : Int)] w fun e w' => e = .returned (.tuple #[.int .u64 ((opB 9 x y).1.toNat : Int), .int .i64 (opB 9 (x) (y)).2]) ∧ Below w.heap.size w w' := by
  have AR : ∀ W, Calls Tryd.prog 12 #[.int .i64 133] W fun e w' => e = .returned (.int .i64 2) ∧ Below W.heap.size W w' := fun W => by have h := rarity_k 133 W; rw [← (ar_2 (by decide) : 2 = arN 133)] at h; exact h
  replace AR := Lib.hid AR
  have AA := Lib.hid (fun W => rar_64_9 x y W)
  have e1 : opB 9 (x) (y) = (arB 64 9 x y x y, 0) := ar_64 9 (by decide) x y (by rintro ⟨_, _, h⟩; omega) (by rintro ⟨h, _⟩; omega)
  rw [e1]
  obtain ⟨Z, hZ⟩ : ∃ Z, Z = arB 64 9 x y x y := ⟨_, rfl⟩
  rw [← hZ] at AA ⊢
  clear hZ e1
  have CZ : ∀ W, Calls Tryd.prog 33 #[.int .u64 (Z.toNat : Int), .int .i64 64] W fun e w' => e = .returned (.int .u64 (Z.toNat : Int)) ∧ w' = W := fun W => by have h := rcut_64 Z.toNat W Z.isLt; rw [cut64_eq] at h; exact h
  replace CZ := Lib.hid CZ
  show Calls Tryd.prog 20 #[.int .i64 133, .int .u64 (x.toNat : Int), .int .u64 (y.toNat : Int)] w fun e w' => e = .returned (.tuple #[.int .u64 (Z.toNat : Int), .int .i64 0]) ∧ Below w.heap.size w w'
  generalize ((Z.toNat : Nat) : Int) = R at *
  skip
  generalize (x.toNat : Int) = X at *
  generalize (y.toNat : Int) = Y at *
  go_enter Tryd.func20, Tryd.ntmps20
  go_wp2_with (first | (go_at_call 12; (with_reducible refine (AR.out _).mono ?_); rintro e u ⟨rfl, hb⟩) | (go_at_call 37; (with_reducible refine (AA.out _).mono ?_); rintro e u ⟨rfl, rfl⟩) | (go_at_call 33; (with_reducible refine (CZ.out _).mono ?_); rintro e u ⟨rfl, rfl⟩))
  go_ret2
  exact ⟨rfl, hb⟩
set_option maxHeartbeats 2000000 in
theorem rbin_134 (x y : B64) (w : World) : Calls Tryd.prog 20 #[.int .i64 134, .int .u64 (x.toNat : Int), .int .u64 (y.toNat : Int)] w fun e w' => e = .returned (.tuple #[.int .u64 ((opB 10 x y).1.toNat : Int), .int .i64 (opB 10 (x) (y)).2]) ∧ Below w.heap.size w w' := by
  have AR : ∀ W, Calls Tryd.prog 12 #[.int .i64 134] W fun e w' => e = .returned (.int .i64 2) ∧ Below W.heap.size W w' := fun W => by have h := rarity_k 134 W; rw [← (ar_2 (by decide) : 2 = arN 134)] at h; exact h
  replace AR := Lib.hid AR
  have AA := Lib.hid (fun W => rar_64_10 x y W)
  have e1 : opB 10 (x) (y) = (arB 64 10 x y x y, 0) := ar_64 10 (by decide) x y (by rintro ⟨_, _, h⟩; omega) (by rintro ⟨h, _⟩; omega)
  rw [e1]
  obtain ⟨Z, hZ⟩ : ∃ Z, Z = arB 64 10 x y x y := ⟨_, rfl⟩
  rw [← hZ] at AA ⊢
  clear hZ e1
  have CZ : ∀ W, Calls Tryd.prog 33 #[.int .u64 (Z.toNat : Int), .int .i64 64] W fun e w' => e = .returned (.int .u64 (Z.toNat : Int)) ∧ w' = W := fun W => by have h := rcut_64 Z.toNat W Z.isLt; rw [cut64_eq] at h; exact h
  replace CZ := Lib.hid CZ
  show Calls Tryd.prog 20 #[.int .i64 134, .int .u64 (x.toNat : Int), .int .u64 (y.toNat : Int)] w fun e w' => e = .returned (.tuple #[.int .u64 (Z.toNat : Int), .int .i64 0]) ∧ Below w.heap.size w w'
  generalize ((Z.toNat : Nat) : Int) = R at *
  skip
  generalize (x.toNat : Int) = X at *
  generalize (y.toNat : Int) = Y at *
  go_enter Tryd.func20, Tryd.ntmps20
  go_wp2_with (first | (go_at_call 12; (with_reducible refine (AR.out _).mono ?_); rintro e u ⟨rfl, hb⟩) | (go_at_call 37; (with_reducible refine (AA.out _).mono ?_); rintro e u ⟨rfl, rfl⟩) | (go_at_call 33; (with_reducible refine (CZ.out _).mono ?_); rintro e u ⟨rfl, rfl⟩))
  go_ret2
  exact ⟨rfl, hb⟩
set_option maxHeartbeats 2000000 in
theorem rbin_135 (x y : B64) (w : World) : Calls Tryd.prog 20 #[.int .i64 135, .int .u64 (x.toNat : Int), .int .u64 (y.toNat : Int)] w fun e w' => e = .returned (.tuple #[.int .u64 ((opB 11 x y).1.toNat : Int), .int .i64 (opB 11 (x) (y)).2]) ∧ Below w.heap.size w w' := by
  have AR : ∀ W, Calls Tryd.prog 12 #[.int .i64 135] W fun e w' => e = .returned (.int .i64 2) ∧ Below W.heap.size W w' := fun W => by have h := rarity_k 135 W; rw [← (ar_2 (by decide) : 2 = arN 135)] at h; exact h
  replace AR := Lib.hid AR
  have AA := Lib.hid (fun W => rar_64_11 x y W)
  have e1 : opB 11 (x) (y) = (arB 64 11 x y x y, 0) := ar_64 11 (by decide) x y (by rintro ⟨_, _, h⟩; omega) (by rintro ⟨h, _⟩; omega)
  rw [e1]
  obtain ⟨Z, hZ⟩ : ∃ Z, Z = arB 64 11 x y x y := ⟨_, rfl⟩
  rw [← hZ] at AA ⊢
  clear hZ e1
  have CZ : ∀ W, Calls Tryd.prog 33 #[.int .u64 (Z.toNat : Int), .int .i64 64] W fun e w' => e = .returned (.int .u64 (Z.toNat : Int)) ∧ w' = W := fun W => by have h := rcut_64 Z.toNat W Z.isLt; rw [cut64_eq] at h; exact h
  replace CZ := Lib.hid CZ
  show Calls Tryd.prog 20 #[.int .i64 135, .int .u64 (x.toNat : Int), .int .u64 (y.toNat : Int)] w fun e w' => e = .returned (.tuple #[.int .u64 (Z.toNat : Int), .int .i64 0]) ∧ Below w.heap.size w w'
  generalize ((Z.toNat : Nat) : Int) = R at *
  skip
  generalize (x.toNat : Int) = X at *
  generalize (y.toNat : Int) = Y at *
  go_enter Tryd.func20, Tryd.ntmps20
  go_wp2_with (first | (go_at_call 12; (with_reducible refine (AR.out _).mono ?_); rintro e u ⟨rfl, hb⟩) | (go_at_call 37; (with_reducible refine (AA.out _).mono ?_); rintro e u ⟨rfl, rfl⟩) | (go_at_call 33; (with_reducible refine (CZ.out _).mono ?_); rintro e u ⟨rfl, rfl⟩))
  go_ret2
  exact ⟨rfl, hb⟩
set_option maxHeartbeats 2000000 in
theorem rbin_136 (x y : B64) (w : World) : Calls Tryd.prog 20 #[.int .i64 136, .int .u64 (x.toNat : Int), .int .u64 (y.toNat : Int)] w fun e w' => e = .returned (.tuple #[.int .u64 ((opB 12 x y).1.toNat : Int), .int .i64 (opB 12 (x) (y)).2]) ∧ Below w.heap.size w w' := by
  have AR : ∀ W, Calls Tryd.prog 12 #[.int .i64 136] W fun e w' => e = .returned (.int .i64 2) ∧ Below W.heap.size W w' := fun W => by have h := rarity_k 136 W; rw [← (ar_2 (by decide) : 2 = arN 136)] at h; exact h
  replace AR := Lib.hid AR
  have AA := Lib.hid (fun W => rar_64_12 x y W)
  have e1 : opB 12 (x) (y) = (arB 64 12 x y x y, 0) := ar_64 12 (by decide) x y (by rintro ⟨_, _, h⟩; omega) (by rintro ⟨h, _⟩; omega)
  rw [e1]
  obtain ⟨Z, hZ⟩ : ∃ Z, Z = arB 64 12 x y x y := ⟨_, rfl⟩
  rw [← hZ] at AA ⊢
  clear hZ e1
  have CZ : ∀ W, Calls Tryd.prog 33 #[.int .u64 (Z.toNat : Int), .int .i64 64] W fun e w' => e = .returned (.int .u64 (Z.toNat : Int)) ∧ w' = W := fun W => by have h := rcut_64 Z.toNat W Z.isLt; rw [cut64_eq] at h; exact h
  replace CZ := Lib.hid CZ
  show Calls Tryd.prog 20 #[.int .i64 136, .int .u64 (x.toNat : Int), .int .u64 (y.toNat : Int)] w fun e w' => e = .returned (.tuple #[.int .u64 (Z.toNat : Int), .int .i64 0]) ∧ Below w.heap.size w w'
  generalize ((Z.toNat : Nat) : Int) = R at *
  skip
  generalize (x.toNat : Int) = X at *
  generalize (y.toNat : Int) = Y at *
  go_enter Tryd.func20, Tryd.ntmps20
  go_wp2_with (first | (go_at_call 12; (with_reducible refine (AR.out _).mono ?_); rintro e u ⟨rfl, hb⟩) | (go_at_call 37; (with_reducible refine (AA.out _).mono ?_); rintro e u ⟨rfl, rfl⟩) | (go_at_call 33; (with_reducible refine (CZ.out _).mono ?_); rintro e u ⟨rfl, rfl⟩))
  go_ret2
  exact ⟨rfl, hb⟩
set_option maxHeartbeats 2000000 in
theorem rbin_137 (x y : B64) (w : World) : Calls Tryd.prog 20 #[.int .i64 137, .int .u64 (x.toNat : Int), .int .u64 (y.toNat : Int)] w fun e w' => e = .returned (.tuple #[.int .u64 ((opB 13 x y).1.toNat : Int), .int .i64 (opB 13 (x) (y)).2]) ∧ Below w.heap.size w w' := by
  have AR : ∀ W, Calls Tryd.prog 12 #[.int .i64 137] W fun e w' => e = .returned (.int .i64 2) ∧ Below W.heap.size W w' := fun W => by have h := rarity_k 137 W; rw [← (ar_2 (by decide) : 2 = arN 137)] at h; exact h
  replace AR := Lib.hid AR
  have AA := Lib.hid (fun W => rar_64_13 x y W)
  have e1 : opB 13 (x) (y) = (arB 64 13 x y x y, 0) := ar_64 13 (by decide) x y (by rintro ⟨_, _, h⟩; omega) (by rintro ⟨h, _⟩; omega)
  rw [e1]
  obtain ⟨Z, hZ⟩ : ∃ Z, Z = arB 64 13 x y x y := ⟨_, rfl⟩
  rw [← hZ] at AA ⊢
  clear hZ e1
  have CZ : ∀ W, Calls Tryd.prog 33 #[.int .u64 (Z.toNat : Int), .int .i64 64] W fun e w' => e = .returned (.int .u64 (Z.toNat : Int)) ∧ w' = W := fun W => by have h := rcut_64 Z.toNat W Z.isLt; rw [cut64_eq] at h; exact h
  replace CZ := Lib.hid CZ
  show Calls Tryd.prog 20 #[.int .i64 137, .int .u64 (x.toNat : Int), .int .u64 (y.toNat : Int)] w fun e w' => e = .returned (.tuple #[.int .u64 (Z.toNat : Int), .int .i64 0]) ∧ Below w.heap.size w w'
  generalize ((Z.toNat : Nat) : Int) = R at *
  skip
  generalize (x.toNat : Int) = X at *
  generalize (y.toNat : Int) = Y at *
  go_enter Tryd.func20, Tryd.ntmps20
  go_wp2_with (first | (go_at_call 12; (with_reducible refine (AR.out _).mono ?_); rintro e u ⟨rfl, hb⟩) | (go_at_call 37; (with_reducible refine (AA.out _).mono ?_); rintro e u ⟨rfl, rfl⟩) | (go_at_call 33; (with_reducible refine (CZ.out _).mono ?_); rintro e u ⟨rfl, rfl⟩))
  go_ret2
  exact ⟨rfl, hb⟩
set_option maxHeartbeats 2000000 in
theorem rbin_138 (x y : B64) (w : World) : Calls Tryd.prog 20 #[.int .i64 138, .int .u64 (x.toNat : Int), .int .u64 (y.toNat : Int)] w fun e w' => e = .returned (.tuple #[.int .u64 ((opB 14 x y).1.toNat : Int), .int .i64 (opB 14 (x) (y)).2]) ∧ Below w.heap.size w w' := by
  have AR : ∀ W, Calls Tryd.prog 12 #[.int .i64 138] W fun e w' => e = .returned (.int .i64 2) ∧ Below W.heap.size W w' := fun W => by have h := rarity_k 138 W; rw [← (ar_2 (by decide) : 2 = arN 138)] at h; exact h
  replace AR := Lib.hid AR
  have AA := Lib.hid (fun W => rar_64_14 x y W)
  have e1 : opB 14 (x) (y) = (arB 64 14 x y x y, 0) := ar_64 14 (by decide) x y (by rintro ⟨_, _, h⟩; omega) (by rintro ⟨h, _⟩; omega)
  rw [e1]
  obtain ⟨Z, hZ⟩ : ∃ Z, Z = arB 64 14 x y x y := ⟨_, rfl⟩
  rw [← hZ] at AA ⊢
  clear hZ e1
  have CZ : ∀ W, Calls Tryd.prog 33 #[.int .u64 (Z.toNat : Int), .int .i64 64] W fun e w' => e = .returned (.int .u64 (Z.toNat : Int)) ∧ w' = W := fun W => by have h := rcut_64 Z.toNat W Z.isLt; rw [cut64_eq] at h; exact h
  replace CZ := Lib.hid CZ
  show Calls Tryd.prog 20 #[.int .i64 138, .int .u64 (x.toNat : Int), .int .u64 (y.toNat : Int)] w fun e w' => e = .returned (.tuple #[.int .u64 (Z.toNat : Int), .int .i64 0]) ∧ Below w.heap.size w w'
  generalize ((Z.toNat : Nat) : Int) = R at *
  skip
  generalize (x.toNat : Int) = X at *
  generalize (y.toNat : Int) = Y at *
  go_enter Tryd.func20, Tryd.ntmps20
  go_wp2_with (first | (go_at_call 12; (with_reducible refine (AR.out _).mono ?_); rintro e u ⟨rfl, hb⟩) | (go_at_call 37; (with_reducible refine (AA.out _).mono ?_); rintro e u ⟨rfl, rfl⟩) | (go_at_call 33; (with_reducible refine (CZ.out _).mono ?_); rintro e u ⟨rfl, rfl⟩))
  go_ret2
  exact ⟨rfl, hb⟩
theorem rbin_none (op : Int) (x y : Int) (w : World) (h : ¬ (70 ≤ op ∧ op ≤ 79 ∨ 81 ≤ op ∧ op ≤ 90 ∨ 106 ≤ op ∧ op ≤ 120 ∨ 124 ≤ op ∧ op ≤ 138)) : Calls Tryd.prog 20 #[.int .i64 op, .int .u64 x, .int .u64 y] w fun e w' => e = .returned (.tuple #[.int .u64 0, .int .i64 1]) ∧ Below w.heap.size w w' := by
  have hn : (arN op == 2) = false := by
    rw [beq_eq_false_iff_ne]
    by_cases h1 : op = 69 ∨ op = 80 ∨ 103 ≤ op ∧ op ≤ 105 ∨ 121 ≤ op ∧ op ≤ 123 ∨ op = 167 ∨ op = 172 ∨ op = 173 ∨ 192 ≤ op ∧ op ≤ 196
    · rw [← ar_1 h1]; decide
    · rw [← ar_0 h1 h]; decide
  have hn2 : (arN op != 2) = true := by rw [bne, hn]; rfl
  have AR := Lib.hid (fun W => rarity_k op W)
  generalize arN op = K at *
  clear h
  go_enter Tryd.func20, Tryd.ntmps20
  go_wp2_with (first | (go_at_call 12; (with_reducible refine (AR.out _).mono ?_); rintro e u ⟨rfl, hb⟩))
  go_ret2
  exact ⟨rfl, hb⟩
theorem rbin_any (op : Int) (x y : B64) (w : World) : Calls Tryd.prog 20 #[.int .i64 op, .int .u64 (x.toNat : Int), .int .u64 (y.toNat : Int)] w fun e w' => e = .returned (.tuple #[.int .u64 ((binB op x y).1.toNat : Int), .int .i64 (binB op x y).2]) ∧ Below w.heap.size w w' := by
  by_cases h : 70 ≤ op ∧ op ≤ 79 ∨ 81 ≤ op ∧ op ≤ 90 ∨ 106 ≤ op ∧ op ≤ 120 ∨ 124 ≤ op ∧ op ≤ 138
  · have hl : op ∈ ([70, 71, 72, 73, 74, 75, 76, 77, 78, 79, 81, 82, 83, 84, 85, 86, 87, 88, 89, 90, 106, 107, 108, 109, 110, 111, 112, 113, 114, 115, 116, 117, 118, 119, 120, 124, 125, 126, 127, 128, 129, 130, 131, 132, 133, 134, 135, 136, 137, 138] : List Int) := by
      simp only [List.mem_cons, List.not_mem_nil, or_false]
      omega
    clear h
    simp only [List.mem_cons, List.not_mem_nil, or_false] at hl
    rcases hl with rfl | rfl | rfl | rfl | rfl | rfl | rfl | rfl | rfl | rfl | rfl | rfl | rfl | rfl | rfl | rfl | rfl | rfl | rfl | rfl | rfl | rfl | rfl | rfl | rfl | rfl | rfl | rfl | rfl | rfl | rfl | rfl | rfl | rfl | rfl | rfl | rfl | rfl | rfl | rfl | rfl | rfl | rfl | rfl | rfl | rfl | rfl | rfl | rfl | rfl
    · exact rbin_70 x y w
    · exact rbin_71 x y w
    · exact rbin_72 x y w
    · exact rbin_73 x y w
    · exact rbin_74 x y w
    · exact rbin_75 x y w
    · exact rbin_76 x y w
    · exact rbin_77 x y w
    · exact rbin_78 x y w
    · exact rbin_79 x y w
    · exact rbin_81 x y w
    · exact rbin_82 x y w
    · exact rbin_83 x y w
    · exact rbin_84 x y w
    · exact rbin_85 x y w
    · exact rbin_86 x y w
    · exact rbin_87 x y w
    · exact rbin_88 x y w
    · exact rbin_89 x y w
    · exact rbin_90 x y w
    · exact rbin_106 x y w
    · exact rbin_107 x y w
    · exact rbin_108 x y w
    · exact rbin_109 x y w
    · exact rbin_110 x y w
    · exact rbin_111 x y w
    · exact rbin_112 x y w
    · exact rbin_113 x y w
    · exact rbin_114 x y w
    · exact rbin_115 x y w
    · exact rbin_116 x y w
    · exact rbin_117 x y w
    · exact rbin_118 x y w
    · exact rbin_119 x y w
    · exact rbin_120 x y w
    · exact rbin_124 x y w
    · exact rbin_125 x y w
    · exact rbin_126 x y w
    · exact rbin_127 x y w
    · exact rbin_128 x y w
    · exact rbin_129 x y w
    · exact rbin_130 x y w
    · exact rbin_131 x y w
    · exact rbin_132 x y w
    · exact rbin_133 x y w
    · exact rbin_134 x y w
    · exact rbin_135 x y w
    · exact rbin_136 x y w
    · exact rbin_137 x y w
    · exact rbin_138 x y w
  · have e : binB op x y = (0, 1) := by
      unfold binB
      rw [if_neg (by omega), if_neg (by omega), if_neg (by omega), if_neg (by omega)]
    rw [e]
    exact rbin_none op _ _ w h
end Go.Proofs.YtllffbdcpilioaaDoor
