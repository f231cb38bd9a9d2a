/-
  Texts Ref.
-/
import Derived.Test.YtmfmokblmipagaaGreatR02
set_option linter.unusedSimpArgs false
set_option linter.unusedVariables false
set_option maxHeartbeats 8000000
open Pl
namespace Go.Proofs.YtmfmokblmipagaaGreat
open Go.RowKit Pl
theorem rlanes_any (x : Int) (w : World) :
 Calls Tryz.prog 83 #[.int .i64 x] w fun e w' => e = .returned (.int .i64 (lanesOf x)) ∧ w = w' := by
 by_cases h1 : x = 8
 ·subst h1; go_enter Tryz.func83, Tryz.ntmps83; go_wp2; go_ret; exact ⟨rfl, rfl⟩
 by_cases h2 : x = 16
 ·subst h2; go_enter Tryz.func83, Tryz.ntmps83; go_wp2; go_ret; exact ⟨rfl, rfl⟩
 by_cases h3 : x = 32
 ·subst h3; go_enter Tryz.func83, Tryz.ntmps83; go_wp2; go_ret; exact ⟨rfl, rfl⟩
 by_cases h4 : x = 64
 ·subst h4; go_enter Tryz.func83, Tryz.ntmps83; go_wp2; go_ret; exact ⟨rfl, rfl⟩
 have e : lanesOf x = 0 := by simp [lanesOf, h1, h2, h3, h4]
 rw [e]
 have h1' := beq_eq_false_iff_ne.2 h1
 have h2' := beq_eq_false_iff_ne.2 h2
 have h3' := beq_eq_false_iff_ne.2 h3
 have h4' := beq_eq_false_iff_ne.2 h4
 clear e h1 h2 h3 h4
 go_enter Tryz.func83, Tryz.ntmps83
 go_wp2
 go_ret
 exact ⟨rfl, rfl⟩
theorem rlanes8 (w : World) : Calls Tryz.prog 83 #[.int .i64 8] w fun e w' => e = .returned (.int .i64 16) ∧ w = w' := rlanes_any 8 w
theorem rlanes16 (w : World) : Calls Tryz.prog 83 #[.int .i64 16] w fun e w' => e = .returned (.int .i64 8) ∧ w = w' := rlanes_any 16 w
theorem rlanes32 (w : World) : Calls Tryz.prog 83 #[.int .i64 32] w fun e w' => e = .returned (.int .i64 4) ∧ w = w' := rlanes_any 32 w
theorem rlanes64 (w : World) : Calls Tryz.prog 83 #[.int .i64 64] w fun e w' => e = .returned (.int .i64 2) ∧ w = w' := rlanes_any 64 w
theorem rget8 (v : Vec) (i : Nat) (w : World) (hi : i < 16) :
 Calls Tryz.prog 49 #[.agg (cells v), .int .i64 8, .int .i64 i] w fun e w' => e = .returned (.int .u64 (getN v 8 i : Nat)) ∧ Below w.heap.size w w' := by
 have hi' : (i : Int) < 16 := by omega
 go_enter Tryz.func49, Tryz.ntmps49
 go_wp2_with (first | (go_at_call 83; ((with_reducible refine (rlanes8 _).mono ?_); rintro e w' ⟨rfl, rfl⟩)))
 obtain ⟨W, hW⟩ : ∃ W, W = w.alloc (.cells (cells v) 28) := ⟨_, rfl⟩
 have hB : W.heap[w.heap.size]? = some (.cells (cells v) 28 (0, 0)) := hW ▸ heap_alloc_new _ _
 have hZ : Below w.heap.size w W := hW ▸ (Below.refl _ _).alloc (Nat.le_refl _) _
 rw [← hW]
 clear hW
 go_loop [7, 8] (fun x j => ∃ m X : Nat, m ≤ 1 ∧ j = .int .i64 ((m : Int) - 1) ∧ x = .int .u64 X ∧ X = bitsAt v (8 * (i + m)) (8 * (1 - m))) (fun _ j => (intOf j + 1).toNat)
 case atStart => exact ⟨1, 0, Nat.le_refl _, rfl, rfl, by simp [bitsAt, Nat.mod_one]⟩
 case round =>
  obtain ⟨m, X, hm, rfl, rfl, hX⟩ := hrel
  have HX := Lib.hid hX
  clear hX
  cases m with
  | succ m =>
    have e : ((m + 1 : Nat) : Int) - 1 = m := by omega
    rw [e]
    have hcell : W.cell? ⟨w.heap.size, i + m, none⟩ = some (byteV v (i + m)) := by
     rw [cell_of_row W _ _ _ _ _ hB, getElem?_cells _ _ (by omega)]
    unfold byteV at hcell
    clear e
    go_wp2
    go_round
    case rel =>
     refine ⟨m, X * 256 + bitsAt v (8 * (i + m)) 8, by omega, rfl, ?_, ?_⟩
     ·rw [get_step X _ (bitsAt_lt _ _ _)]
      have h1 := bitsAt_lt v (8 * (i + (m + 1))) (8 * (1 - (m + 1)))
      have h2 := Nat.pow_le_pow_right (show 0 < 2 by decide) (show 8 * (1 - (m + 1)) ≤ 56 by omega)
      rw [HX.out]
      omega
     ·rw [show 8 * (1 - m) = 8 + 8 * (1 - (m + 1)) by omega, bitsAt_more, HX.out, show 8 * (i + m) + 8 = 8 * (i + (m + 1)) by omega, Nat.mul_comm, Nat.add_comm]
    case measure => (simp [intOf] <;> omega)
  | zero =>
    have e : ((0 : Nat) : Int) - 1 = -1 := rfl
    rw [e]
    clear e
    go_wp2
    go_ret
    refine ⟨ret_u64 ?_, hZ⟩
    rw [HX.out]
    unfold getN
    rw [show 8 * (i + 0) = 8 * i by omega]
theorem rget16 (v : Vec) (i : Nat) (w : World) (hi : i < 8) :
 Calls Tryz.prog 49 #[.agg (cells v), .int .i64 16, .int .i64 i] w fun e w' => e = .returned (.int .u64 (getN v 16 i : Nat)) ∧ Below w.heap.size w w' := by
 have hi' : (i : Int) < 8 := by omega
 go_enter Tryz.func49, Tryz.ntmps49
 go_wp2_with (first | (go_at_call 83; ((with_reducible refine (rlanes16 _).mono ?_); rintro e w' ⟨rfl, rfl⟩)))
 obtain ⟨W, hW⟩ : ∃ W, W = w.alloc (.cells (cells v) 28) := ⟨_, rfl⟩
 have hB : W.heap[w.heap.size]? = some (.cells (cells v) 28 (0, 0)) := hW ▸ heap_alloc_new _ _
 have hZ : Below w.heap.size w W := hW ▸ (Below.refl _ _).alloc (Nat.le_refl _) _
 rw [← hW]
 clear hW
 go_loop [7, 8] (fun x j => ∃ m X : Nat, m ≤ 2 ∧ j = .int .i64 ((m : Int) - 1) ∧ x = .int .u64 X ∧ X = bitsAt v (8 * (i * 2 + m)) (8 * (2 - m))) (fun _ j => (intOf j + 1).toNat)
 case atStart => exact ⟨2, 0, Nat.le_refl _, rfl, rfl, by simp [bitsAt, Nat.mod_one]⟩
 case round =>
  obtain ⟨m, X, hm, rfl, rfl, hX⟩ := hrel
  have HX := Lib.hid hX
  clear hX
  cases m with
  | succ m =>
    have e : ((m + 1 : Nat) : Int) - 1 = m := by omega
    rw [e]
    have hcell : W.cell? ⟨w.heap.size, i * 2 + m, none⟩ = some (byteV v (i * 2 + m)) := by
     rw [cell_of_row W _ _ _ _ _ hB, getElem?_cells _ _ (by omega)]
    unfold byteV at hcell
    clear e
    go_wp2
    go_round
    case rel =>
     refine ⟨m, X * 256 + bitsAt v (8 * (i * 2 + m)) 8, by omega, rfl, ?_, ?_⟩
     ·rw [get_step X _ (bitsAt_lt _ _ _)]
      have h1 := bitsAt_lt v (8 * (i * 2 + (m + 1))) (8 * (2 - (m + 1)))
      have h2 := Nat.pow_le_pow_right (show 0 < 2 by decide) (show 8 * (2 - (m + 1)) ≤ 56 by omega)
      rw [HX.out]
      omega
     ·rw [show 8 * (2 - m) = 8 + 8 * (2 - (m + 1)) by omega, bitsAt_more, HX.out, show 8 * (i * 2 + m) + 8 = 8 * (i * 2 + (m + 1)) by omega, Nat.mul_comm, Nat.add_comm]
    case measure => (simp [intOf] <;> omega)
  | zero =>
    have e : ((0 : Nat) : Int) - 1 = -1 := rfl
    rw [e]
    clear e
    go_wp2
    go_ret
    refine ⟨ret_u64 ?_, hZ⟩
    rw [HX.out]
    unfold getN
    rw [show 8 * (i * 2 + 0) = 16 * i by omega]
theorem rget32 (v : Vec) (i : Nat) (w : World) (hi : i < 4) :
 Calls Tryz.prog 49 #[.agg (cells v), .int .i64 32, .int .i64 i] w fun e w' => e = .returned (.int .u64 (getN v 32 i : Nat)) ∧ Below w.heap.size w w' := by
 have hi' : (i : Int) < 4 := by omega
 go_enter Tryz.func49, Tryz.ntmps49
 go_wp2_with (first | (go_at_call 83; ((with_reducible refine (rlanes32 _).mono ?_); rintro e w' ⟨rfl, rfl⟩)))
 obtain ⟨W, hW⟩ : ∃ W, W = w.alloc (.cells (cells v) 28) := ⟨_, rfl⟩
 have hB : W.heap[w.heap.size]? = some (.cells (cells v) 28 (0, 0)) := hW ▸ heap_alloc_new _ _
 have hZ : Below w.heap.size w W := hW ▸ (Below.refl _ _).alloc (Nat.le_refl _) _
 rw [← hW]
 clear hW
 go_loop [7, 8] (fun x j => ∃ m X : Nat, m ≤ 4 ∧ j = .int .i64 ((m : Int) - 1) ∧ x = .int .u64 X ∧ X = bitsAt v (8 * (i * 4 + m)) (8 * (4 - m))) (fun _ j => (intOf j + 1).toNat)
 case atStart => exact ⟨4, 0, Nat.le_refl _, rfl, rfl, by simp [bitsAt, Nat.mod_one]⟩
 case round =>
  obtain ⟨m, X, hm, rfl, rfl, hX⟩ := hrel
  have HX := Lib.hid hX
  clear hX
  cases m with
  | succ m =>
    have e : ((m + 1 : Nat) : Int) - 1 = m := by omega
    rw [e]
    have hcell : W.cell? ⟨w.heap.size, i * 4 + m, none⟩ = some (byteV v (i * 4 + m)) := by
     rw [cell_of_row W _ _ _ _ _ hB, getElem?_cells _ _ (by omega)]
    unfold byteV at hcell
    clear e
    go_wp2
    go_round
    case rel =>
     refine ⟨m, X * 256 + bitsAt v (8 * (i * 4 + m)) 8, by omega, rfl, ?_, ?_⟩
     ·rw [get_step X _ (bitsAt_lt _ _ _)]
      have h1 := bitsAt_lt v (8 * (i * 4 + (m + 1))) (8 * (4 - (m + 1)))
      have h2 := Nat.pow_le_pow_right (show 0 < 2 by decide) (show 8 * (4 - (m + 1)) ≤ 56 by omega)
      rw [HX.out]
      omega
     ·rw [show 8 * (4 - m) = 8 + 8 * (4 - (m + 1)) by omega, bitsAt_more, HX.out, show 8 * (i * 4 + m) + 8 = 8 * (i * 4 + (m + 1)) by omega, Nat.mul_comm, Nat.add_comm]
    case measure => (simp [intOf] <;> omega)
  | zero =>
    have e : ((0 : Nat) : Int) - 1 = -1 := rfl
    rw [e]
    clear e
    go_wp2
    go_ret
    refine ⟨ret_u64 ?_, hZ⟩
    rw [HX.out]
    unfold getN
    rw [show 8 * (i * 4 + 0) = 32 * i by omega]
theorem rget64 (v : Vec) (i : Nat) (w : World) (hi : i < 2) :
 Calls Tryz.prog 49 #[.agg (cells v), .int .i64 64, .int .i64 i] w fun e w' => e = .returned (.int .u64 (getN v 64 i : Nat)) ∧ Below w.heap.size w w' := by
 have hi' : (i : Int) < 2 := by omega
 go_enter Tryz.func49, Tryz.ntmps49
 go_wp2_with (first | (go_at_call 83; ((with_reducible refine (rlanes64 _).mono ?_); rintro e w' ⟨rfl, rfl⟩)))
 obtain ⟨W, hW⟩ : ∃ W, W = w.alloc (.cells (cells v) 28) := ⟨_, rfl⟩
 have hB : W.heap[w.heap.size]? = some (.cells (cells v) 28 (0, 0)) := hW ▸ heap_alloc_new _ _
 have hZ : Below w.heap.size w W := hW ▸ (Below.refl _ _).alloc (Nat.le_refl _) _
 rw [← hW]
 clear hW
 go_loop [7, 8] (fun x j => ∃ m X : Nat, m ≤ 8 ∧ j = .int .i64 ((m : Int) - 1) ∧ x = .int .u64 X ∧ X = bitsAt v (8 * (i * 8 + m)) (8 * (8 - m))) (fun _ j => (intOf j + 1).toNat)
 case atStart => exact ⟨8, 0, Nat.le_refl _, rfl, rfl, by simp [bitsAt, Nat.mod_one]⟩
 case round =>
  obtain ⟨m, X, hm, rfl, rfl, hX⟩ := hrel
  have HX := Lib.hid hX
  clear hX
  cases m with
  | succ m =>
    have e : ((m + 1 : Nat) : Int) - 1 = m := by omega
    rw [e]
    have hcell : W.cell? ⟨w.heap.size, i * 8 + m, none⟩ = some (byteV v (i * 8 + m)) := by
     rw [cell_of_row W _ _ _ _ _ hB, getElem?_cells _ _ (by omega)]
    unfold byteV at hcell
    clear e
    go_wp2
    go_round
    case rel =>
     refine ⟨m, X * 256 + bitsAt v (8 * (i * 8 + m)) 8, by omega, rfl, ?_, ?_⟩
     ·rw [get_step X _ (bitsAt_lt _ _ _)]
      have h1 := bitsAt_lt v (8 * (i * 8 + (m + 1))) (8 * (8 - (m + 1)))
      have h2 := Nat.pow_le_pow_right (show 0 < 2 by decide) (show 8 * (8 - (m + 1)) ≤ 56 by omega)
      rw [HX.out]
      omega
     ·rw [show 8 * (8 - m) = 8 + 8 * (8 - (m + 1)) by omega, bitsAt_more, HX.out, show 8 * (i * 8 + m) + 8 = 8 * (i * 8 + (m + 1)) by omega, Nat.mul_comm, Nat.add_comm]
    case measure => (simp [intOf] <;> omega)
  | zero =>
    have e : ((0 : Nat) : Int) - 1 = -1 := rfl
    rw [e]
    clear e
    go_wp2
    go_ret
    refine ⟨ret_u64 ?_, hZ⟩
    rw [HX.out]
    unfold getN
    rw [show 8 * (i * 8 + 0) = 64 * i by omega]
set_option maxRecDepth 100000 in
theorem rsign8 (x : Nat) (w : World) (hx : x < 2 ^ 8) :
 Calls Tryz.prog 84 #[.int .u64 x, .int .i64 8] w fun e w' => e = .returned (.int .i64 (sgn 8 x)) ∧ w = w' := by
 have Hx := Lib.hid hx
 clear hx
 by_cases h : (128 : Int) ≤ (x : Int) % 256
 all_goals
  go_enter Tryz.func84, Tryz.ntmps84
  go_wp2
  go_ret
  refine ⟨ret_i64 ?_, rfl⟩
  have hx := Hx.out
  unfold sgn
  split <;> omega
theorem rset16 (v : Vec) (i x : Nat) (w : World) (hi : i < 8) (hx : x < 2 ^ 64) :
 Calls Tryz.prog 52 #[.agg (cells v), .int .i64 16, .int .i64 i, .int .u64 x] w fun e w' => e = .returned (.agg (cells (setN v 16 i x))) ∧ Below w.heap.size w w' := by
 have hi' : (i : Int) < 8 := by omega
 have Hx := Lib.hid hx
 clear hx
 go_enter Tryz.func52, Tryz.ntmps52
 go_wp2_with (first | (go_at_call 83; ((with_reducible refine (rlanes16 _).mono ?_); rintro e w' ⟨rfl, rfl⟩)))
 rw [← cells_zero]
 obtain ⟨W, hW, hB, hR, hZ⟩ := zA w v
 rw [← hW]
 clear hW
 go_loopw [3, 9] (fun y j wr => ∃ k X : Nat, k ≤ 2 ∧ j = .int .i64 k ∧ y = .int .u64 X ∧ X = x / 2 ^ (8 * k) ∧ Sets W w.heap.size (putAt v (8 * (i * 2)) (8 * k) x) wr) (fun _ j _ => 2 - (intOf j).toNat)
 case atStart => exact ⟨0, x, Nat.zero_le _, rfl, rfl, by simp, by rw [putAt_zero _ _ _ (by omega)]; exact Sets.refl hB⟩
 case round =>
  obtain ⟨k, X, hk, rfl, rfl, hX, hs⟩ := hrel
  have HX := Lib.hid hX
  clear hX
  by_cases hlt : k < 2
  ·have hz : (X : Int) % 256 % 256 = ((X % 256 : Nat) : Int) := by omega
   have hz2 : (X : Int) % 256 = ((X % 256 : Nat) : Int) := by omega
   have hz' := Lib.hid hz
   have hz2' := Lib.hid hz2
   clear hz hz2
   go_wp2_with (first | (with_reducible refine store_byte rfl _ _ rfl w.heap.size (i * 2 + k) _ X rfl rfl _ hs.this (by omega) hz'.out ?_; intro wq hq) | (with_reducible refine store_byte rfl _ _ rfl w.heap.size (i * 2 + k) _ X rfl rfl _ hs.this (by omega) hz2'.out ?_; intro wq hq))
   go_roundw
   case rel =>
    refine ⟨k + 1, X / 256, by omega, by go_num, by rw [u64_div256 X (HX.out ▸ Nat.lt_of_le_of_lt (Nat.div_le_self _ _) Hx.out)], ?_, ?_⟩
    ·rw [HX.out, Nat.div_div_eq_div_mul, Nat.mul_add, Nat.pow_add]
    ·have := hs.trans hq
     rw [HX.out, show 8 * (i * 2 + k) = 8 * (i * 2) + 8 * k by omega, putAt_more _ _ _ _ _ (by omega)] at this
     exact this
   case measure => (simp [intOf] <;> omega)
  ·obtain rfl : k = 2 := by omega
   have hR' : wr.heap[w.heap.size + 1]? = some (.cells (cells 0) 28 (0, 0)) := (hs.other _ (by omega)).trans hR
   go_wp2_with (first | (with_reducible refine load_vec rfl _ rfl _ rfl _ hs.this ?_) | (with_reducible refine store_vec rfl _ _ rfl (w.heap.size + 1) _ rfl rfl _ hR' ?_; intro wq hq))
   refine bodyPost_ret (results_cell_row rfl _ _ (w.heap.size + 1) _ _ _ _ rfl hq.this vunder rfl (vsize _)) rfl ⟨?_, ?_⟩
   ·unfold setN
    rw [show 8 * (i * 2) = 16 * i by omega]
   ·exact hZ.trans ((hs.below.mono (Nat.le_refl _)).trans (hq.below.mono (by omega)))
set_option maxRecDepth 100000 in
theorem rsign16 (x : Nat) (w : World) (hx : x < 2 ^ 16) :
 Calls Tryz.prog 84 #[.int .u64 x, .int .i64 16] w fun e w' => e = .returned (.int .i64 (sgn 16 x)) ∧ w = w' := by
 have Hx := Lib.hid hx
 clear hx
 by_cases h : (32768 : Int) ≤ (x : Int) % 65536
 all_goals
  go_enter Tryz.func84, Tryz.ntmps84
  go_wp2
  go_ret
  refine ⟨ret_i64 ?_, rfl⟩
  have hx := Hx.out
  unfold sgn
  split <;> omega
theorem rset32 (v : Vec) (i x : Nat) (w : World) (hi : i < 4) (hx : x < 2 ^ 64) :
 Calls Tryz.prog 52 #[.agg (cells v), .int .i64 32, .int .i64 i, .int .u64 x] w fun e w' => e = .returned (.agg (cells (setN v 32 i x))) ∧ Below w.heap.size w w' := by
 have hi' : (i : Int) < 4 := by omega
 have Hx := Lib.hid hx
 clear hx
 go_enter Tryz.func52, Tryz.ntmps52
 go_wp2_with (first | (go_at_call 83; ((with_reducible refine (rlanes32 _).mono ?_); rintro e w' ⟨rfl, rfl⟩)))
 rw [← cells_zero]
 obtain ⟨W, hW, hB, hR, hZ⟩ := zA w v
 rw [← hW]
 clear hW
 go_loopw [3, 9] (fun y j wr => ∃ k X : Nat, k ≤ 4 ∧ j = .int .i64 k ∧ y = .int .u64 X ∧ X = x / 2 ^ (8 * k) ∧ Sets W w.heap.size (putAt v (8 * (i * 4)) (8 * k) x) wr) (fun _ j _ => 4 - (intOf j).toNat)
 case atStart => exact ⟨0, x, Nat.zero_le _, rfl, rfl, by simp, by rw [putAt_zero _ _ _ (by omega)]; exact Sets.refl hB⟩
 case round =>
  obtain ⟨k, X, hk, rfl, rfl, hX, hs⟩ := hrel
  have HX := Lib.hid hX
  clear hX
  by_cases hlt : k < 4
  ·have hz : (X : Int) % 256 % 256 = ((X % 256 : Nat) : Int) := by omega
   have hz2 : (X : Int) % 256 = ((X % 256 : Nat) : Int) := by omega
   have hz' := Lib.hid hz
   have hz2' := Lib.hid hz2
   clear hz hz2
   go_wp2_with (first | (with_reducible refine store_byte rfl _ _ rfl w.heap.size (i * 4 + k) _ X rfl rfl _ hs.this (by omega) hz'.out ?_; intro wq hq) | (with_reducible refine store_byte rfl _ _ rfl w.heap.size (i * 4 + k) _ X rfl rfl _ hs.this (by omega) hz2'.out ?_; intro wq hq))
   go_roundw
   case rel =>
    refine ⟨k + 1, X / 256, by omega, by go_num, by rw [u64_div256 X (HX.out ▸ Nat.lt_of_le_of_lt (Nat.div_le_self _ _) Hx.out)], ?_, ?_⟩
    ·rw [HX.out, Nat.div_div_eq_div_mul, Nat.mul_add, Nat.pow_add]
    ·have := hs.trans hq
     rw [HX.out, show 8 * (i * 4 + k) = 8 * (i * 4) + 8 * k by omega, putAt_more _ _ _ _ _ (by omega)] at this
     exact this
   case measure => (simp [intOf] <;> omega)
  ·obtain rfl : k = 4 := by omega
   have hR' : wr.heap[w.heap.size + 1]? = some (.cells (cells 0) 28 (0, 0)) := (hs.other _ (by omega)).trans hR
   go_wp2_with (first | (with_reducible refine load_vec rfl _ rfl _ rfl _ hs.this ?_) | (with_reducible refine store_vec rfl _ _ rfl (w.heap.size + 1) _ rfl rfl _ hR' ?_; intro wq hq))
   refine bodyPost_ret (results_cell_row rfl _ _ (w.heap.size + 1) _ _ _ _ rfl hq.this vunder rfl (vsize _)) rfl ⟨?_, ?_⟩
   ·unfold setN
    rw [show 8 * (i * 4) = 32 * i by omega]
   ·exact hZ.trans ((hs.below.mono (Nat.le_refl _)).trans (hq.below.mono (by omega)))
set_option maxRecDepth 100000 in
theorem rsign32 (x : Nat) (w : World) (hx : x < 2 ^ 32) :
 Calls Tryz.prog 84 #[.int .u64 x, .int .i64 32] w fun e w' => e = .returned (.int .i64 (sgn 32 x)) ∧ w = w' := by
 have Hx := Lib.hid hx
 clear hx
 by_cases h : (2147483648 : Int) ≤ (x : Int) % 4294967296
 all_goals
  go_enter Tryz.func84, Tryz.ntmps84
  go_wp2
  go_ret
  refine ⟨ret_i64 ?_, rfl⟩
  have hx := Hx.out
  unfold sgn
  split <;> omega
theorem rset64 (v : Vec) (i x : Nat) (w : World) (hi : i < 2) (hx : x < 2 ^ 64) :
 Calls Tryz.prog 52 #[.agg (cells v), .int .i64 64, .int .i64 i, .int .u64 x] w fun e w' => e = .returned (.agg (cells (setN v 64 i x))) ∧ Below w.heap.size w w' := by
 have hi' : (i : Int) < 2 := by omega
 have Hx := Lib.hid hx
 clear hx
 go_enter Tryz.func52, Tryz.ntmps52
 go_wp2_with (first | (go_at_call 83; ((with_reducible refine (rlanes64 _).mono ?_); rintro e w' ⟨rfl, rfl⟩)))
 rw [← cells_zero]
 obtain ⟨W, hW, hB, hR, hZ⟩ := zA w v
 rw [← hW]
 clear hW
 go_loopw [3, 9] (fun y j wr => ∃ k X : Nat, k ≤ 8 ∧ j = .int .i64 k ∧ y = .int .u64 X ∧ X = x / 2 ^ (8 * k) ∧ Sets W w.heap.size (putAt v (8 * (i * 8)) (8 * k) x) wr) (fun _ j _ => 8 - (intOf j).toNat)
 case atStart => exact ⟨0, x, Nat.zero_le _, rfl, rfl, by simp, by rw [putAt_zero _ _ _ (by omega)]; exact Sets.refl hB⟩
 case round =>
  obtain ⟨k, X, hk, rfl, rfl, hX, hs⟩ := hrel
  have HX := Lib.hid hX
  clear hX
  by_cases hlt : k < 8
  ·have hz : (X : Int) % 256 % 256 = ((X % 256 : Nat) : Int) := by omega
   have hz2 : (X : Int) % 256 = ((X % 256 : Nat) : Int) := by omega
   have hz' := Lib.hid hz
   have hz2' := Lib.hid hz2
   clear hz hz2
   go_wp2_with (first | (with_reducible refine store_byte rfl _ _ rfl w.heap.size (i * 8 + k) _ X rfl rfl _ hs.this (by omega) hz'.out ?_; intro wq hq) | (with_reducible refine store_byte rfl _ _ rfl w.heap.size (i * 8 + k) _ X rfl rfl _ hs.this (by omega) hz2'.out ?_; intro wq hq))
   go_roundw
   case rel =>
    refine ⟨k + 1, X / 256, by omega, by go_num, by rw [u64_div256 X (HX.out ▸ Nat.lt_of_le_of_lt (Nat.div_le_self _ _) Hx.out)], ?_, ?_⟩
    ·rw [HX.out, Nat.div_div_eq_div_mul, Nat.mul_add, Nat.pow_add]
    ·have := hs.trans hq
     rw [HX.out, show 8 * (i * 8 + k) = 8 * (i * 8) + 8 * k by omega, putAt_more _ _ _ _ _ (by omega)] at this
     exact this
   case measure => (simp [intOf] <;> omega)
  ·obtain rfl : k = 8 := by omega
   have hR' : wr.heap[w.heap.size + 1]? = some (.cells (cells 0) 28 (0, 0)) := (hs.other _ (by omega)).trans hR
   go_wp2_with (first | (with_reducible refine load_vec rfl _ rfl _ rfl _ hs.this ?_) | (with_reducible refine store_vec rfl _ _ rfl (w.heap.size + 1) _ rfl rfl _ hR' ?_; intro wq hq))
   refine bodyPost_ret (results_cell_row rfl _ _ (w.heap.size + 1) _ _ _ _ rfl hq.this vunder rfl (vsize _)) rfl ⟨?_, ?_⟩
   ·unfold setN
    rw [show 8 * (i * 8) = 64 * i by omega]
   ·exact hZ.trans ((hs.below.mono (Nat.le_refl _)).trans (hq.below.mono (by omega)))
theorem rsigned8 (v : Vec) (i : Nat) (w : World) (hi : i < 16) :
 Calls Tryz.prog 51 #[.agg (cells v), .int .i64 8, .int .i64 i] w fun e w' => e = .returned (.int .i64 (sgn 8 (getN v 8 i))) ∧ Below w.heap.size w w' := by
 have hg := rget8 v i (w.alloc (.cells (cells v) 28)) hi
 have hs := fun W => rsign8 (getN v 8 i) W (getN_lt _ _ _)
 go_enter Tryz.func51, Tryz.ntmps51
 go_wp2_with (first | (go_at_call 83; ((with_reducible refine (rlanes8 _).mono ?_); rintro e w' ⟨rfl, rfl⟩)) | (with_reducible refine load_vec rfl _ rfl _ rfl v (heap_alloc_new _ _) ?_) | (go_at_call 49; refine hg.mono ?_; rintro e w' ⟨rfl, hb⟩) | (go_at_call 84; refine (hs _).mono ?_; rintro e w' ⟨rfl, rfl⟩))
 go_ret
 exact ⟨rfl, ((Below.refl _ _).alloc (Nat.le_refl _) _).trans (hb.mono (by simp))⟩
theorem rsigned16 (v : Vec) (i : Nat) (w : World) (hi : i < 8) :
 Calls Tryz.prog 51 #[.agg (cells v), .int .i64 16, .int .i64 i] w fun e w' => e = .returned (.int .i64 (sgn 16 (getN v 16 i))) ∧ Below w.heap.size w w' := by
 have hg := rget16 v i (w.alloc (.cells (cells v) 28)) hi
 have hs := fun W => rsign16 (getN v 16 i) W (getN_lt _ _ _)
 go_enter Tryz.func51, Tryz.ntmps51
 go_wp2_with (first | (go_at_call 83; ((with_reducible refine (rlanes16 _).mono ?_); rintro e w' ⟨rfl, rfl⟩)) | (with_reducible refine load_vec rfl _ rfl _ rfl v (heap_alloc_new _ _) ?_) | (go_at_call 49; refine hg.mono ?_; rintro e w' ⟨rfl, hb⟩) | (go_at_call 84; refine (hs _).mono ?_; rintro e w' ⟨rfl, rfl⟩))
 go_ret
 exact ⟨rfl, ((Below.refl _ _).alloc (Nat.le_refl _) _).trans (hb.mono (by simp))⟩
theorem rsigned32 (v : Vec) (i : Nat) (w : World) (hi : i < 4) :
 Calls Tryz.prog 51 #[.agg (cells v), .int .i64 32, .int .i64 i] w fun e w' => e = .returned (.int .i64 (sgn 32 (getN v 32 i))) ∧ Below w.heap.size w w' := by
 have hg := rget32 v i (w.alloc (.cells (cells v) 28)) hi
 have hs := fun W => rsign32 (getN v 32 i) W (getN_lt _ _ _)
 go_enter Tryz.func51, Tryz.ntmps51
 go_wp2_with (first | (go_at_call 83; ((with_reducible refine (rlanes32 _).mono ?_); rintro e w' ⟨rfl, rfl⟩)) | (with_reducible refine load_vec rfl _ rfl _ rfl v (heap_alloc_new _ _) ?_) | (go_at_call 49; refine hg.mono ?_; rintro e w' ⟨rfl, hb⟩) | (go_at_call 84; refine (hs _).mono ?_; rintro e w' ⟨rfl, rfl⟩))
 go_ret
 exact ⟨rfl, ((Below.refl _ _).alloc (Nat.le_refl _) _).trans (hb.mono (by simp))⟩
theorem rget8z (v : Vec) (j : Int) (i : Nat) (w : World) (hj : j = i) (hi : i < 16) :
 Calls Tryz.prog 49 #[.agg (cells v), .int .i64 8, .int .i64 j] w fun e w' => e = .returned (.int .u64 (getN v 8 i : Nat)) ∧ Below w.heap.size w w' := hj ▸ rget8 v i w hi
theorem rsigned8z (v : Vec) (j : Int) (i : Nat) (w : World) (hj : j = i) (hi : i < 16) :
 Calls Tryz.prog 51 #[.agg (cells v), .int .i64 8, .int .i64 j] w fun e w' => e = .returned (.int .i64 (sgn 8 (getN v 8 i))) ∧ Below w.heap.size w w' := hj ▸ rsigned8 v i w hi
theorem rget16z (v : Vec) (j : Int) (i : Nat) (w : World) (hj : j = i) (hi : i < 8) :
 Calls Tryz.prog 49 #[.agg (cells v), .int .i64 16, .int .i64 j] w fun e w' => e = .returned (.int .u64 (getN v 16 i : Nat)) ∧ Below w.heap.size w w' := hj ▸ rget16 v i w hi
theorem rsigned16z (v : Vec) (j : Int) (i : Nat) (w : World) (hj : j = i) (hi : i < 8) :
 Calls Tryz.prog 51 #[.agg (cells v), .int .i64 16, .int .i64 j] w fun e w' => e = .returned (.int .i64 (sgn 16 (getN v 16 i))) ∧ Below w.heap.size w w' := hj ▸ rsigned16 v i w hi
theorem rset16z (v : Vec) (j z : Int) (i x : Nat) (w : World) (hj : j = i) (hz : z = x) (hi : i < 8) (hx : x < 2 ^ 64) :
 Calls Tryz.prog 52 #[.agg (cells v), .int .i64 16, .int .i64 j, .int .u64 z] w fun e w' => e = .returned (.agg (cells (setN v 16 i x))) ∧ Below w.heap.size w w' := hj ▸ hz ▸ rset16 v i x w hi hx
theorem rget32z (v : Vec) (j : Int) (i : Nat) (w : World) (hj : j = i) (hi : i < 4) :
 Calls Tryz.prog 49 #[.agg (cells v), .int .i64 32, .int .i64 j] w fun e w' => e = .returned (.int .u64 (getN v 32 i : Nat)) ∧ Below w.heap.size w w' := hj ▸ rget32 v i w hi
theorem rsigned32z (v : Vec) (j : Int) (i : Nat) (w : World) (hj : j = i) (hi : i < 4) :
 Calls Tryz.prog 51 #[.agg (cells v), .int .i64 32, .int .i64 j] w fun e w' => e = .returned (.int .i64 (sgn 32 (getN v 32 i))) ∧ Below w.heap.size w w' := hj ▸ rsigned32 v i w hi
theorem rset32z (v : Vec) (j z : Int) (i x : Nat) (w : World) (hj : j = i) (hz : z = x) (hi : i < 4) (hx : x < 2 ^ 64) :
 Calls Tryz.prog 52 #[.agg (cells v), .int .i64 32, .int .i64 j, .int .u64 z] w fun e w' => e = .returned (.agg (cells (setN v 32 i x))) ∧ Below w.heap.size w w' := hj ▸ hz ▸ rset32 v i x w hi hx
theorem rget64z (v : Vec) (j : Int) (i : Nat) (w : World) (hj : j = i) (hi : i < 2) :
 Calls Tryz.prog 49 #[.agg (cells v), .int .i64 64, .int .i64 j] w fun e w' => e = .returned (.int .u64 (getN v 64 i : Nat)) ∧ Below w.heap.size w w' := hj ▸ rget64 v i w hi
theorem rset64z (v : Vec) (j z : Int) (i x : Nat) (w : World) (hj : j = i) (hz : z = x) (hi : i < 2) (hx : x < 2 ^ 64) :
 Calls Tryz.prog 52 #[.agg (cells v), .int .i64 64, .int .i64 j, .int .u64 z] w fun e w' => e = .returned (.agg (cells (setN v 64 i x))) ∧ Below w.heap.size w w' := hj ▸ hz ▸ rset64 v i x w hi hx
end Go.Proofs.YtmfmokblmipagaaGreat
