/-
  Texts NumRC.
-/
import Derived.Test.YtmfmokblmipagaaGreatR09
import Derived.Test.YtmfmokblmipagaaGreatR10
import Derived.Test.YtmfmokblmipagaaGreatR16
set_option linter.unusedSimpArgs false
set_option linter.unusedVariables false
set_option maxHeartbeats 8000000
open Pl
namespace Go.Proofs.YtmfmokblmipagaaGreat
open Go.RowKit _root_.Nm
theorem rbin_124 (x y : B64) (w : World) : Calls Tryz.prog 118 #[.int .i64 124, .int .u64 (x.toNat : Int), .int .u64 (y.toNat : Int)] w fun e w' => e = .returned (.tuple #[.int .u64 ((opB 0 x y).1.toNat : Int), .int .i64 (opB 0 (x) (y)).2]) ∧ Below w.heap.size w w' := by
 have AR : ∀ W, Calls Tryz.prog 102 #[.int .i64 124] W fun e w' => e = .returned (.int .i64 2) ∧ Below W.heap.size W w' := fun W => by have h := rarity_k 124 W; rw [← (ar_2 (by decide) : 2 = arN 124)] at h; exact h
 replace AR := Lib.hid AR
 have AA := Lib.hid (fun W => rar_64_0 x y W)
 have e1 : opB 0 (x) (y) = (arB 64 0 x y x y, 0) := ar_64 0 (by decide) x y (by rintro ⟨_, _, h⟩; omega) (by rintro ⟨h, _⟩; omega)
 rw [e1]
 obtain ⟨Z, hZ⟩ : ∃ Z, Z = arB 64 0 x y x y := ⟨_, rfl⟩
 rw [← hZ] at AA ⊢
 clear hZ e1
 have CZ : ∀ W, Calls Tryz.prog 123 #[.int .u64 (Z.toNat : Int), .int .i64 64] W fun e w' => e = .returned (.int .u64 (Z.toNat : Int)) ∧ w' = W := fun W => by have h := rcut_64 Z.toNat W Z.isLt; rw [cut64_eq] at h; exact h
 replace CZ := Lib.hid CZ
 show Calls Tryz.prog 118 #[.int .i64 124, .int .u64 (x.toNat : Int), .int .u64 (y.toNat : Int)] w fun e w' => e = .returned (.tuple #[.int .u64 (Z.toNat : Int), .int .i64 0]) ∧ Below w.heap.size w w'
 generalize ((Z.toNat : Nat) : Int) = R at *
 skip
 generalize (x.toNat : Int) = X at *
 generalize (y.toNat : Int) = Y at *
 go_enter Tryz.func118, Tryz.ntmps118
 go_wp2_with (first | (go_at_call 102; (with_reducible refine (AR.out _).mono ?_); rintro e u ⟨rfl, hb⟩) | (go_at_call 127; (with_reducible refine (AA.out _).mono ?_); rintro e u ⟨rfl, rfl⟩) | (go_at_call 123; (with_reducible refine (CZ.out _).mono ?_); rintro e u ⟨rfl, rfl⟩))
 go_ret2
 exact ⟨rfl, hb⟩
theorem rbin_126 (x y : B64) (w : World) : Calls Tryz.prog 118 #[.int .i64 126, .int .u64 (x.toNat : Int), .int .u64 (y.toNat : Int)] w fun e w' => e = .returned (.tuple #[.int .u64 ((opB 2 x y).1.toNat : Int), .int .i64 (opB 2 (x) (y)).2]) ∧ Below w.heap.size w w' := by
 have AR : ∀ W, Calls Tryz.prog 102 #[.int .i64 126] W fun e w' => e = .returned (.int .i64 2) ∧ Below W.heap.size W w' := fun W => by have h := rarity_k 126 W; rw [← (ar_2 (by decide) : 2 = arN 126)] at h; exact h
 replace AR := Lib.hid AR
 have AA := Lib.hid (fun W => rar_64_2 x y W)
 have e1 : opB 2 (x) (y) = (arB 64 2 x y x y, 0) := ar_64 2 (by decide) x y (by rintro ⟨_, _, h⟩; omega) (by rintro ⟨h, _⟩; omega)
 rw [e1]
 obtain ⟨Z, hZ⟩ : ∃ Z, Z = arB 64 2 x y x y := ⟨_, rfl⟩
 rw [← hZ] at AA ⊢
 clear hZ e1
 have CZ : ∀ W, Calls Tryz.prog 123 #[.int .u64 (Z.toNat : Int), .int .i64 64] W fun e w' => e = .returned (.int .u64 (Z.toNat : Int)) ∧ w' = W := fun W => by have h := rcut_64 Z.toNat W Z.isLt; rw [cut64_eq] at h; exact h
 replace CZ := Lib.hid CZ
 show Calls Tryz.prog 118 #[.int .i64 126, .int .u64 (x.toNat : Int), .int .u64 (y.toNat : Int)] w fun e w' => e = .returned (.tuple #[.int .u64 (Z.toNat : Int), .int .i64 0]) ∧ Below w.heap.size w w'
 generalize ((Z.toNat : Nat) : Int) = R at *
 skip
 generalize (x.toNat : Int) = X at *
 generalize (y.toNat : Int) = Y at *
 go_enter Tryz.func118, Tryz.ntmps118
 go_wp2_with (first | (go_at_call 102; (with_reducible refine (AR.out _).mono ?_); rintro e u ⟨rfl, hb⟩) | (go_at_call 127; (with_reducible refine (AA.out _).mono ?_); rintro e u ⟨rfl, rfl⟩) | (go_at_call 123; (with_reducible refine (CZ.out _).mono ?_); rintro e u ⟨rfl, rfl⟩))
 go_ret2
 exact ⟨rfl, hb⟩
theorem rbin_131 (x y : B64) (w : World) : Calls Tryz.prog 118 #[.int .i64 131, .int .u64 (x.toNat : Int), .int .u64 (y.toNat : Int)] w fun e w' => e = .returned (.tuple #[.int .u64 ((opB 7 x y).1.toNat : Int), .int .i64 (opB 7 (x) (y)).2]) ∧ Below w.heap.size w w' := by
 have AR : ∀ W, Calls Tryz.prog 102 #[.int .i64 131] W fun e w' => e = .returned (.int .i64 2) ∧ Below W.heap.size W w' := fun W => by have h := rarity_k 131 W; rw [← (ar_2 (by decide) : 2 = arN 131)] at h; exact h
 replace AR := Lib.hid AR
 have AA := Lib.hid (fun W => rar_64_7 x y W)
 have e1 : opB 7 (x) (y) = (arB 64 7 x y x y, 0) := ar_64 7 (by decide) x y (by rintro ⟨_, _, h⟩; omega) (by rintro ⟨h, _⟩; omega)
 rw [e1]
 obtain ⟨Z, hZ⟩ : ∃ Z, Z = arB 64 7 x y x y := ⟨_, rfl⟩
 rw [← hZ] at AA ⊢
 clear hZ e1
 have CZ : ∀ W, Calls Tryz.prog 123 #[.int .u64 (Z.toNat : Int), .int .i64 64] W fun e w' => e = .returned (.int .u64 (Z.toNat : Int)) ∧ w' = W := fun W => by have h := rcut_64 Z.toNat W Z.isLt; rw [cut64_eq] at h; exact h
 replace CZ := Lib.hid CZ
 show Calls Tryz.prog 118 #[.int .i64 131, .int .u64 (x.toNat : Int), .int .u64 (y.toNat : Int)] w fun e w' => e = .returned (.tuple #[.int .u64 (Z.toNat : Int), .int .i64 0]) ∧ Below w.heap.size w w'
 generalize ((Z.toNat : Nat) : Int) = R at *
 skip
 generalize (x.toNat : Int) = X at *
 generalize (y.toNat : Int) = Y at *
 go_enter Tryz.func118, Tryz.ntmps118
 go_wp2_with (first | (go_at_call 102; (with_reducible refine (AR.out _).mono ?_); rintro e u ⟨rfl, hb⟩) | (go_at_call 127; (with_reducible refine (AA.out _).mono ?_); rintro e u ⟨rfl, rfl⟩) | (go_at_call 123; (with_reducible refine (CZ.out _).mono ?_); rintro e u ⟨rfl, rfl⟩))
 go_ret2
 exact ⟨rfl, hb⟩
theorem rbin_132 (x y : B64) (w : World) : Calls Tryz.prog 118 #[.int .i64 132, .int .u64 (x.toNat : Int), .int .u64 (y.toNat : Int)] w fun e w' => e = .returned (.tuple #[.int .u64 ((opB 8 x y).1.toNat : Int), .int .i64 (opB 8 (x) (y)).2]) ∧ Below w.heap.size w w' := by
 have AR : ∀ W, Calls Tryz.prog 102 #[.int .i64 132] W fun e w' => e = .returned (.int .i64 2) ∧ Below W.heap.size W w' := fun W => by have h := rarity_k 132 W; rw [← (ar_2 (by decide) : 2 = arN 132)] at h; exact h
 replace AR := Lib.hid AR
 have AA := Lib.hid (fun W => rar_64_8 x y W)
 have e1 : opB 8 (x) (y) = (arB 64 8 x y x y, 0) := ar_64 8 (by decide) x y (by rintro ⟨_, _, h⟩; omega) (by rintro ⟨h, _⟩; omega)
 rw [e1]
 obtain ⟨Z, hZ⟩ : ∃ Z, Z = arB 64 8 x y x y := ⟨_, rfl⟩
 rw [← hZ] at AA ⊢
 clear hZ e1
 have CZ : ∀ W, Calls Tryz.prog 123 #[.int .u64 (Z.toNat : Int), .int .i64 64] W fun e w' => e = .returned (.int .u64 (Z.toNat : Int)) ∧ w' = W := fun W => by have h := rcut_64 Z.toNat W Z.isLt; rw [cut64_eq] at h; exact h
 replace CZ := Lib.hid CZ
 show Calls Tryz.prog 118 #[.int .i64 132, .int .u64 (x.toNat : Int), .int .u64 (y.toNat : Int)] w fun e w' => e = .returned (.tuple #[.int .u64 (Z.toNat : Int), .int .i64 0]) ∧ Below w.heap.size w w'
 generalize ((Z.toNat : Nat) : Int) = R at *
 skip
 generalize (x.toNat : Int) = X at *
 generalize (y.toNat : Int) = Y at *
 go_enter Tryz.func118, Tryz.ntmps118
 go_wp2_with (first | (go_at_call 102; (with_reducible refine (AR.out _).mono ?_); rintro e u ⟨rfl, hb⟩) | (go_at_call 127; (with_reducible refine (AA.out _).mono ?_); rintro e u ⟨rfl, rfl⟩) | (go_at_call 123; (with_reducible refine (CZ.out _).mono ?_); rintro e u ⟨rfl, rfl⟩))
 go_ret2
 exact ⟨rfl, hb⟩
theorem rbin_133 (x y : B64) (w : World) : Calls Tryz.prog 118 #[.int .i64 133, .int .u64 (x.toNat : Int), .int .u64 (y.toNat : Int)] w fun e w' => e = .returned (.tuple #[.int .u64 ((opB 9 x y).1.toNat : Int), .int .i64 (opB 9 (x) (y)).2]) ∧ Below w.heap.size w w' := by
 have AR : ∀ W, Calls Tryz.prog 102 #[.int .i64 133] W fun e w' => e = .returned (.int .i64 2) ∧ Below W.heap.size W w' := fun W => by have h := rarity_k 133 W; rw [← (ar_2 (by decide) : 2 = arN 133)] at h; exact h
 replace AR := Lib.hid AR
 have AA := Lib.hid (fun W => rar_64_9 x y W)
 have e1 : opB 9 (x) (y) = (arB 64 9 x y x y, 0) := ar_64 9 (by decide) x y (by rintro ⟨_, _, h⟩; omega) (by rintro ⟨h, _⟩; omega)
 rw [e1]
 obtain ⟨Z, hZ⟩ : ∃ Z, Z = arB 64 9 x y x y := ⟨_, rfl⟩
 rw [← hZ] at AA ⊢
 clear hZ e1
 have CZ : ∀ W, Calls Tryz.prog 123 #[.int .u64 (Z.toNat : Int), .int .i64 64] W fun e w' => e = .returned (.int .u64 (Z.toNat : Int)) ∧ w' = W := fun W => by have h := rcut_64 Z.toNat W Z.isLt; rw [cut64_eq] at h; exact h
 replace CZ := Lib.hid CZ
 show Calls Tryz.prog 118 #[.int .i64 133, .int .u64 (x.toNat : Int), .int .u64 (y.toNat : Int)] w fun e w' => e = .returned (.tuple #[.int .u64 (Z.toNat : Int), .int .i64 0]) ∧ Below w.heap.size w w'
 generalize ((Z.toNat : Nat) : Int) = R at *
 skip
 generalize (x.toNat : Int) = X at *
 generalize (y.toNat : Int) = Y at *
 go_enter Tryz.func118, Tryz.ntmps118
 go_wp2_with (first | (go_at_call 102; (with_reducible refine (AR.out _).mono ?_); rintro e u ⟨rfl, hb⟩) | (go_at_call 127; (with_reducible refine (AA.out _).mono ?_); rintro e u ⟨rfl, rfl⟩) | (go_at_call 123; (with_reducible refine (CZ.out _).mono ?_); rintro e u ⟨rfl, rfl⟩))
 go_ret2
 exact ⟨rfl, hb⟩
theorem rbin_134 (x y : B64) (w : World) : Calls Tryz.prog 118 #[.int .i64 134, .int .u64 (x.toNat : Int), .int .u64 (y.toNat : Int)] w fun e w' => e = .returned (.tuple #[.int .u64 ((opB 10 x y).1.toNat : Int), .int .i64 (opB 10 (x) (y)).2]) ∧ Below w.heap.size w w' := by
 have AR : ∀ W, Calls Tryz.prog 102 #[.int .i64 134] W fun e w' => e = .returned (.int .i64 2) ∧ Below W.heap.size W w' := fun W => by have h := rarity_k 134 W; rw [← (ar_2 (by decide) : 2 = arN 134)] at h; exact h
 replace AR := Lib.hid AR
 have AA := Lib.hid (fun W => rar_64_10 x y W)
 have e1 : opB 10 (x) (y) = (arB 64 10 x y x y, 0) := ar_64 10 (by decide) x y (by rintro ⟨_, _, h⟩; omega) (by rintro ⟨h, _⟩; omega)
 rw [e1]
 obtain ⟨Z, hZ⟩ : ∃ Z, Z = arB 64 10 x y x y := ⟨_, rfl⟩
 rw [← hZ] at AA ⊢
 clear hZ e1
 have CZ : ∀ W, Calls Tryz.prog 123 #[.int .u64 (Z.toNat : Int), .int .i64 64] W fun e w' => e = .returned (.int .u64 (Z.toNat : Int)) ∧ w' = W := fun W => by have h := rcut_64 Z.toNat W Z.isLt; rw [cut64_eq] at h; exact h
 replace CZ := Lib.hid CZ
 show Calls Tryz.prog 118 #[.int .i64 134, .int .u64 (x.toNat : Int), .int .u64 (y.toNat : Int)] w fun e w' => e = .returned (.tuple #[.int .u64 (Z.toNat : Int), .int .i64 0]) ∧ Below w.heap.size w w'
 generalize ((Z.toNat : Nat) : Int) = R at *
 skip
 generalize (x.toNat : Int) = X at *
 generalize (y.toNat : Int) = Y at *
 go_enter Tryz.func118, Tryz.ntmps118
 go_wp2_with (first | (go_at_call 102; (with_reducible refine (AR.out _).mono ?_); rintro e u ⟨rfl, hb⟩) | (go_at_call 127; (with_reducible refine (AA.out _).mono ?_); rintro e u ⟨rfl, rfl⟩) | (go_at_call 123; (with_reducible refine (CZ.out _).mono ?_); rintro e u ⟨rfl, rfl⟩))
 go_ret2
 exact ⟨rfl, hb⟩
theorem rbin_135 (x y : B64) (w : World) : Calls Tryz.prog 118 #[.int .i64 135, .int .u64 (x.toNat : Int), .int .u64 (y.toNat : Int)] w fun e w' => e = .returned (.tuple #[.int .u64 ((opB 11 x y).1.toNat : Int), .int .i64 (opB 11 (x) (y)).2]) ∧ Below w.heap.size w w' := by
 have AR : ∀ W, Calls Tryz.prog 102 #[.int .i64 135] W fun e w' => e = .returned (.int .i64 2) ∧ Below W.heap.size W w' := fun W => by have h := rarity_k 135 W; rw [← (ar_2 (by decide) : 2 = arN 135)] at h; exact h
 replace AR := Lib.hid AR
 have AA := Lib.hid (fun W => rar_64_11 x y W)
 have e1 : opB 11 (x) (y) = (arB 64 11 x y x y, 0) := ar_64 11 (by decide) x y (by rintro ⟨_, _, h⟩; omega) (by rintro ⟨h, _⟩; omega)
 rw [e1]
 obtain ⟨Z, hZ⟩ : ∃ Z, Z = arB 64 11 x y x y := ⟨_, rfl⟩
 rw [← hZ] at AA ⊢
 clear hZ e1
 have CZ : ∀ W, Calls Tryz.prog 123 #[.int .u64 (Z.toNat : Int), .int .i64 64] W fun e w' => e = .returned (.int .u64 (Z.toNat : Int)) ∧ w' = W := fun W => by have h := rcut_64 Z.toNat W Z.isLt; rw [cut64_eq] at h; exact h
 replace CZ := Lib.hid CZ
 show Calls Tryz.prog 118 #[.int .i64 135, .int .u64 (x.toNat : Int), .int .u64 (y.toNat : Int)] w fun e w' => e = .returned (.tuple #[.int .u64 (Z.toNat : Int), .int .i64 0]) ∧ Below w.heap.size w w'
 generalize ((Z.toNat : Nat) : Int) = R at *
 skip
 generalize (x.toNat : Int) = X at *
 generalize (y.toNat : Int) = Y at *
 go_enter Tryz.func118, Tryz.ntmps118
 go_wp2_with (first | (go_at_call 102; (with_reducible refine (AR.out _).mono ?_); rintro e u ⟨rfl, hb⟩) | (go_at_call 127; (with_reducible refine (AA.out _).mono ?_); rintro e u ⟨rfl, rfl⟩) | (go_at_call 123; (with_reducible refine (CZ.out _).mono ?_); rintro e u ⟨rfl, rfl⟩))
 go_ret2
 exact ⟨rfl, hb⟩
theorem rbin_136 (x y : B64) (w : World) : Calls Tryz.prog 118 #[.int .i64 136, .int .u64 (x.toNat : Int), .int .u64 (y.toNat : Int)] w fun e w' => e = .returned (.tuple #[.int .u64 ((opB 12 x y).1.toNat : Int), .int .i64 (opB 12 (x) (y)).2]) ∧ Below w.heap.size w w' := by
 have AR : ∀ W, Calls Tryz.prog 102 #[.int .i64 136] W fun e w' => e = .returned (.int .i64 2) ∧ Below W.heap.size W w' := fun W => by have h := rarity_k 136 W; rw [← (ar_2 (by decide) : 2 = arN 136)] at h; exact h
 replace AR := Lib.hid AR
 have AA := Lib.hid (fun W => rar_64_12 x y W)
 have e1 : opB 12 (x) (y) = (arB 64 12 x y x y, 0) := ar_64 12 (by decide) x y (by rintro ⟨_, _, h⟩; omega) (by rintro ⟨h, _⟩; omega)
 rw [e1]
 obtain ⟨Z, hZ⟩ : ∃ Z, Z = arB 64 12 x y x y := ⟨_, rfl⟩
 rw [← hZ] at AA ⊢
 clear hZ e1
 have CZ : ∀ W, Calls Tryz.prog 123 #[.int .u64 (Z.toNat : Int), .int .i64 64] W fun e w' => e = .returned (.int .u64 (Z.toNat : Int)) ∧ w' = W := fun W => by have h := rcut_64 Z.toNat W Z.isLt; rw [cut64_eq] at h; exact h
 replace CZ := Lib.hid CZ
 show Calls Tryz.prog 118 #[.int .i64 136, .int .u64 (x.toNat : Int), .int .u64 (y.toNat : Int)] w fun e w' => e = .returned (.tuple #[.int .u64 (Z.toNat : Int), .int .i64 0]) ∧ Below w.heap.size w w'
 generalize ((Z.toNat : Nat) : Int) = R at *
 skip
 generalize (x.toNat : Int) = X at *
 generalize (y.toNat : Int) = Y at *
 go_enter Tryz.func118, Tryz.ntmps118
 go_wp2_with (first | (go_at_call 102; (with_reducible refine (AR.out _).mono ?_); rintro e u ⟨rfl, hb⟩) | (go_at_call 127; (with_reducible refine (AA.out _).mono ?_); rintro e u ⟨rfl, rfl⟩) | (go_at_call 123; (with_reducible refine (CZ.out _).mono ?_); rintro e u ⟨rfl, rfl⟩))
 go_ret2
 exact ⟨rfl, hb⟩
end Go.Proofs.YtmfmokblmipagaaGreat
