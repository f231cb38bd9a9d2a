/-
  Texts Ref.
-/
import Derived.Test.YtcpfabkokgiepaaQ03
set_option linter.unusedSimpArgs false
set_option linter.unusedVariables false
set_option maxHeartbeats 8000000
open Pl
namespace Go.Proofs.Ytcpfabkokgiepaa
open Go.RowKit Pl
theorem dP (x : Int) (w : World) :
 Calls Try.prog 82 #[.int .i64 x] w fun e w' => e = .returned (.int .i64 (sE x)) ∧ w = w' := by
 by_cases h1 : x = 8
 ·subst h1; go_enter Try.func82, Try.ntmps82; go_wp2; go_ret; exact ⟨rfl, rfl⟩
 by_cases h2 : x = 16
 ·subst h2; go_enter Try.func82, Try.ntmps82; go_wp2; go_ret; exact ⟨rfl, rfl⟩
 by_cases h3 : x = 32
 ·subst h3; go_enter Try.func82, Try.ntmps82; go_wp2; go_ret; exact ⟨rfl, rfl⟩
 by_cases h4 : x = 64
 ·subst h4; go_enter Try.func82, Try.ntmps82; go_wp2; go_ret; exact ⟨rfl, rfl⟩
 have e : sE x = 0 := by simp [sE, h1, h2, h3, h4]
 rw [e]
 have h1' := beq_eq_false_iff_ne.2 h1
 have h2' := beq_eq_false_iff_ne.2 h2
 have h3' := beq_eq_false_iff_ne.2 h3
 have h4' := beq_eq_false_iff_ne.2 h4
 clear e h1 h2 h3 h4
 go_enter Try.func82, Try.ntmps82
 go_wp2
 go_ret
 exact ⟨rfl, rfl⟩
theorem v6 (w : World) : Calls Try.prog 82 #[.int .i64 8] w fun e w' => e = .returned (.int .i64 16) ∧ w = w' := dP 8 w
theorem pP (w : World) : Calls Try.prog 82 #[.int .i64 16] w fun e w' => e = .returned (.int .i64 8) ∧ w = w' := dP 16 w
theorem pR (w : World) : Calls Try.prog 82 #[.int .i64 32] w fun e w' => e = .returned (.int .i64 4) ∧ w = w' := dP 32 w
theorem pH (w : World) : Calls Try.prog 82 #[.int .i64 64] w fun e w' => e = .returned (.int .i64 2) ∧ w = w' := dP 64 w
theorem rget8 (v : Vec) (i : Nat) (w : World) (hi : i < 16) :
 Calls Try.prog 74 #[.agg (mY v), .int .i64 8, .int .i64 i] w fun e w' => e = .returned (.int .u64 (mT v 8 i : Nat)) ∧ Below w.heap.size w w' := by
 have hi' : (i : Int) < 16 := by omega
 go_enter Try.func74, Try.ntmps74
 go_wp2_with (first | (go_at_call 82; ((with_reducible refine (v6 _).mono ?_); rintro e w' ⟨rfl, rfl⟩)))
 obtain ⟨W, hW⟩ : ∃ W, W = w.alloc (.cells (mY v) 45) := ⟨_, rfl⟩
 have hB : W.heap[w.heap.size]? = some (.cells (mY v) 45 (0, 0)) := hW ▸ heap_alloc_new _ _
 have hZ : Below w.heap.size w W := hW ▸ (Below.refl _ _).alloc (Nat.le_refl _) _
 rw [← hW]
 clear hW
 go_loop [7, 8] (fun x j => ∃ m X : Nat, m ≤ 1 ∧ j = .int .i64 ((m : Int) - 1) ∧ x = .int .u64 X ∧ X = tW v (8 * (i + m)) (8 * (1 - m))) (fun _ j => (intOf j + 1).toNat)
 case atStart => exact ⟨1, 0, Nat.le_refl _, rfl, rfl, by simp [tW, Nat.mod_one]⟩
 case round =>
  obtain ⟨m, X, hm, rfl, rfl, hX⟩ := hrel
  have HX := Lib.hid hX
  clear hX
  cases m with
  | succ m =>
    have e : ((m + 1 : Nat) : Int) - 1 = m := by omega
    rw [e]
    have hcell : W.cell? ⟨w.heap.size, i + m, none⟩ = some (sP v (i + m)) := jX
    unfold sP at hcell
    clear e
    go_wp2
    go_round
    case rel =>
     refine ⟨m, X * 256 + tW v (8 * (i + m)) 8, by omega, rfl, ?_, ?_⟩
     ·rw [get_step X _ (r9 _ _ _)]
      have h1 := r9 v (8 * (i + (m + 1))) (8 * (1 - (m + 1)))
      have h2 := Nat.pow_le_pow_right (show 0 < 2 by decide) (show 8 * (1 - (m + 1)) ≤ 56 by omega)
      rw [HX.out]
      omega
     ·rw [show 8 * (1 - m) = 8 + 8 * (1 - (m + 1)) by omega, fV, HX.out, show 8 * (i + m) + 8 = 8 * (i + (m + 1)) by omega, Nat.mul_comm, Nat.add_comm]
    case measure => exact xL
  | zero =>
    have e : ((0 : Nat) : Int) - 1 = -1 := rfl
    rw [e]
    clear e
    go_wp2
    go_ret
    refine ⟨eU ?_, hZ⟩
    rw [HX.out]
    unfold mT
    rw [show 8 * (i + 0) = 8 * i by omega]
theorem rget16 (v : Vec) (i : Nat) (w : World) (hi : i < 8) :
 Calls Try.prog 74 #[.agg (mY v), .int .i64 16, .int .i64 i] w fun e w' => e = .returned (.int .u64 (mT v 16 i : Nat)) ∧ Below w.heap.size w w' := by
 have hi' : (i : Int) < 8 := by omega
 go_enter Try.func74, Try.ntmps74
 go_wp2_with (first | (go_at_call 82; ((with_reducible refine (pP _).mono ?_); rintro e w' ⟨rfl, rfl⟩)))
 obtain ⟨W, hW⟩ : ∃ W, W = w.alloc (.cells (mY v) 45) := ⟨_, rfl⟩
 have hB : W.heap[w.heap.size]? = some (.cells (mY v) 45 (0, 0)) := hW ▸ heap_alloc_new _ _
 have hZ : Below w.heap.size w W := hW ▸ (Below.refl _ _).alloc (Nat.le_refl _) _
 rw [← hW]
 clear hW
 go_loop [7, 8] (fun x j => ∃ m X : Nat, m ≤ 2 ∧ j = .int .i64 ((m : Int) - 1) ∧ x = .int .u64 X ∧ X = tW v (8 * (i * 2 + m)) (8 * (2 - m))) (fun _ j => (intOf j + 1).toNat)
 case atStart => exact ⟨2, 0, Nat.le_refl _, rfl, rfl, by simp [tW, Nat.mod_one]⟩
 case round =>
  obtain ⟨m, X, hm, rfl, rfl, hX⟩ := hrel
  have HX := Lib.hid hX
  clear hX
  cases m with
  | succ m =>
    have e : ((m + 1 : Nat) : Int) - 1 = m := by omega
    rw [e]
    have hcell : W.cell? ⟨w.heap.size, i * 2 + m, none⟩ = some (sP v (i * 2 + m)) := jX
    unfold sP at hcell
    clear e
    go_wp2
    go_round
    case rel =>
     refine ⟨m, X * 256 + tW v (8 * (i * 2 + m)) 8, by omega, rfl, ?_, ?_⟩
     ·rw [get_step X _ (r9 _ _ _)]
      have h1 := r9 v (8 * (i * 2 + (m + 1))) (8 * (2 - (m + 1)))
      have h2 := Nat.pow_le_pow_right (show 0 < 2 by decide) (show 8 * (2 - (m + 1)) ≤ 56 by omega)
      rw [HX.out]
      omega
     ·rw [show 8 * (2 - m) = 8 + 8 * (2 - (m + 1)) by omega, fV, HX.out, show 8 * (i * 2 + m) + 8 = 8 * (i * 2 + (m + 1)) by omega, Nat.mul_comm, Nat.add_comm]
    case measure => exact xL
  | zero =>
    have e : ((0 : Nat) : Int) - 1 = -1 := rfl
    rw [e]
    clear e
    go_wp2
    go_ret
    refine ⟨eU ?_, hZ⟩
    rw [HX.out]
    unfold mT
    rw [show 8 * (i * 2 + 0) = 16 * i by omega]
theorem rget32 (v : Vec) (i : Nat) (w : World) (hi : i < 4) :
 Calls Try.prog 74 #[.agg (mY v), .int .i64 32, .int .i64 i] w fun e w' => e = .returned (.int .u64 (mT v 32 i : Nat)) ∧ Below w.heap.size w w' := by
 have hi' : (i : Int) < 4 := by omega
 go_enter Try.func74, Try.ntmps74
 go_wp2_with (first | (go_at_call 82; ((with_reducible refine (pR _).mono ?_); rintro e w' ⟨rfl, rfl⟩)))
 obtain ⟨W, hW⟩ : ∃ W, W = w.alloc (.cells (mY v) 45) := ⟨_, rfl⟩
 have hB : W.heap[w.heap.size]? = some (.cells (mY v) 45 (0, 0)) := hW ▸ heap_alloc_new _ _
 have hZ : Below w.heap.size w W := hW ▸ (Below.refl _ _).alloc (Nat.le_refl _) _
 rw [← hW]
 clear hW
 go_loop [7, 8] (fun x j => ∃ m X : Nat, m ≤ 4 ∧ j = .int .i64 ((m : Int) - 1) ∧ x = .int .u64 X ∧ X = tW v (8 * (i * 4 + m)) (8 * (4 - m))) (fun _ j => (intOf j + 1).toNat)
 case atStart => exact ⟨4, 0, Nat.le_refl _, rfl, rfl, by simp [tW, Nat.mod_one]⟩
 case round =>
  obtain ⟨m, X, hm, rfl, rfl, hX⟩ := hrel
  have HX := Lib.hid hX
  clear hX
  cases m with
  | succ m =>
    have e : ((m + 1 : Nat) : Int) - 1 = m := by omega
    rw [e]
    have hcell : W.cell? ⟨w.heap.size, i * 4 + m, none⟩ = some (sP v (i * 4 + m)) := jX
    unfold sP at hcell
    clear e
    go_wp2
    go_round
    case rel =>
     refine ⟨m, X * 256 + tW v (8 * (i * 4 + m)) 8, by omega, rfl, ?_, ?_⟩
     ·rw [get_step X _ (r9 _ _ _)]
      have h1 := r9 v (8 * (i * 4 + (m + 1))) (8 * (4 - (m + 1)))
      have h2 := Nat.pow_le_pow_right (show 0 < 2 by decide) (show 8 * (4 - (m + 1)) ≤ 56 by omega)
      rw [HX.out]
      omega
     ·rw [show 8 * (4 - m) = 8 + 8 * (4 - (m + 1)) by omega, fV, HX.out, show 8 * (i * 4 + m) + 8 = 8 * (i * 4 + (m + 1)) by omega, Nat.mul_comm, Nat.add_comm]
    case measure => exact xL
  | zero =>
    have e : ((0 : Nat) : Int) - 1 = -1 := rfl
    rw [e]
    clear e
    go_wp2
    go_ret
    refine ⟨eU ?_, hZ⟩
    rw [HX.out]
    unfold mT
    rw [show 8 * (i * 4 + 0) = 32 * i by omega]
theorem rget64 (v : Vec) (i : Nat) (w : World) (hi : i < 2) :
 Calls Try.prog 74 #[.agg (mY v), .int .i64 64, .int .i64 i] w fun e w' => e = .returned (.int .u64 (mT v 64 i : Nat)) ∧ Below w.heap.size w w' := by
 have hi' : (i : Int) < 2 := by omega
 go_enter Try.func74, Try.ntmps74
 go_wp2_with (first | (go_at_call 82; ((with_reducible refine (pH _).mono ?_); rintro e w' ⟨rfl, rfl⟩)))
 obtain ⟨W, hW⟩ : ∃ W, W = w.alloc (.cells (mY v) 45) := ⟨_, rfl⟩
 have hB : W.heap[w.heap.size]? = some (.cells (mY v) 45 (0, 0)) := hW ▸ heap_alloc_new _ _
 have hZ : Below w.heap.size w W := hW ▸ (Below.refl _ _).alloc (Nat.le_refl _) _
 rw [← hW]
 clear hW
 go_loop [7, 8] (fun x j => ∃ m X : Nat, m ≤ 8 ∧ j = .int .i64 ((m : Int) - 1) ∧ x = .int .u64 X ∧ X = tW v (8 * (i * 8 + m)) (8 * (8 - m))) (fun _ j => (intOf j + 1).toNat)
 case atStart => exact ⟨8, 0, Nat.le_refl _, rfl, rfl, by simp [tW, Nat.mod_one]⟩
 case round =>
  obtain ⟨m, X, hm, rfl, rfl, hX⟩ := hrel
  have HX := Lib.hid hX
  clear hX
  cases m with
  | succ m =>
    have e : ((m + 1 : Nat) : Int) - 1 = m := by omega
    rw [e]
    have hcell : W.cell? ⟨w.heap.size, i * 8 + m, none⟩ = some (sP v (i * 8 + m)) := jX
    unfold sP at hcell
    clear e
    go_wp2
    go_round
    case rel =>
     refine ⟨m, X * 256 + tW v (8 * (i * 8 + m)) 8, by omega, rfl, ?_, ?_⟩
     ·rw [get_step X _ (r9 _ _ _)]
      have h1 := r9 v (8 * (i * 8 + (m + 1))) (8 * (8 - (m + 1)))
      have h2 := Nat.pow_le_pow_right (show 0 < 2 by decide) (show 8 * (8 - (m + 1)) ≤ 56 by omega)
      rw [HX.out]
      omega
     ·rw [show 8 * (8 - m) = 8 + 8 * (8 - (m + 1)) by omega, fV, HX.out, show 8 * (i * 8 + m) + 8 = 8 * (i * 8 + (m + 1)) by omega, Nat.mul_comm, Nat.add_comm]
    case measure => exact xL
  | zero =>
    have e : ((0 : Nat) : Int) - 1 = -1 := rfl
    rw [e]
    clear e
    go_wp2
    go_ret
    refine ⟨eU ?_, hZ⟩
    rw [HX.out]
    unfold mT
    rw [show 8 * (i * 8 + 0) = 64 * i by omega]
theorem rset8 (v : Vec) (i x : Nat) (w : World) (hi : i < 16) (hx : x < 2 ^ 64) :
 Calls Try.prog 68 #[.agg (mY v), .int .i64 8, .int .i64 i, .int .u64 x] w fun e w' => e = .returned (.agg (mY (t7 v 8 i x))) ∧ Below w.heap.size w w' := by
 have hi' : (i : Int) < 16 := by omega
 have Hx := Lib.hid hx
 clear hx
 go_enter Try.func68, Try.ntmps68
 go_wp2_with (first | (go_at_call 82; ((with_reducible refine (v6 _).mono ?_); rintro e w' ⟨rfl, rfl⟩)))
 rw [← mU]
 obtain ⟨W, hW, hB, hR, hZ⟩ := zF w v
 rw [← hW]
 clear hW
 go_loopw [3, 9] (fun y j wr => ∃ k X : Nat, k ≤ 1 ∧ j = .int .i64 k ∧ y = .int .u64 X ∧ X = x / 2 ^ (8 * k) ∧ Sets W w.heap.size (pN v (8 * (i)) (8 * k) x) wr) (fun _ j _ => 1 - (intOf j).toNat)
 case atStart => exact qA
 case round =>
  obtain ⟨k, X, hk, rfl, rfl, hX, hs⟩ := hrel
  have HX := Lib.hid hX
  clear hX
  by_cases hlt : k < 1
  ·have hz : (X : Int) % 256 % 256 = ((X % 256 : Nat) : Int) := by omega
   have hz2 : (X : Int) % 256 = ((X % 256 : Nat) : Int) := by omega
   have hz' := Lib.hid hz
   have hz2' := Lib.hid hz2
   clear hz hz2
   go_wp2_with (first | (with_reducible refine mP rfl _ _ rfl w.heap.size (i + k) _ X rfl rfl _ hs.this (by omega) hz'.out ?_; intro wq hq) | (with_reducible refine mP rfl _ _ rfl w.heap.size (i + k) _ X rfl rfl _ hs.this (by omega) hz2'.out ?_; intro wq hq))
   go_roundw
   case rel =>
    refine ⟨k + 1, X / 256, by omega, by go_num, by rw [dU X (HX.out ▸ Nat.lt_of_le_of_lt (Nat.div_le_self _ _) Hx.out)], ?_, ?_⟩
    ·exact jJ
    ·have := hs.trans hq
     rw [HX.out, show 8 * (i + k) = 8 * (i) + 8 * k by omega, v8 _ _ _ _ _ (by omega)] at this
     exact this
   case measure => exact xL
  ·exact yF
set_option maxRecDepth 100000 in
theorem rsign8 (x : Nat) (w : World) (hx : x < 2 ^ 8) :
 Calls Try.prog 83 #[.int .u64 x, .int .i64 8] w fun e w' => e = .returned (.int .i64 (sgn 8 x)) ∧ w = w' := by
 have Hx := Lib.hid hx
 clear hx
 by_cases h : (128 : Int) ≤ (x : Int) % 256
 all_goals
  go_enter Try.func83, Try.ntmps83
  go_wp2
  go_ret
  refine ⟨uU ?_, rfl⟩
  have hx := Hx.out
  unfold sgn
  split <;> omega
theorem rset16 (v : Vec) (i x : Nat) (w : World) (hi : i < 8) (hx : x < 2 ^ 64) :
 Calls Try.prog 68 #[.agg (mY v), .int .i64 16, .int .i64 i, .int .u64 x] w fun e w' => e = .returned (.agg (mY (t7 v 16 i x))) ∧ Below w.heap.size w w' := by
 have hi' : (i : Int) < 8 := by omega
 have Hx := Lib.hid hx
 clear hx
 go_enter Try.func68, Try.ntmps68
 go_wp2_with (first | (go_at_call 82; ((with_reducible refine (pP _).mono ?_); rintro e w' ⟨rfl, rfl⟩)))
 rw [← mU]
 obtain ⟨W, hW, hB, hR, hZ⟩ := zF w v
 rw [← hW]
 clear hW
 go_loopw [3, 9] (fun y j wr => ∃ k X : Nat, k ≤ 2 ∧ j = .int .i64 k ∧ y = .int .u64 X ∧ X = x / 2 ^ (8 * k) ∧ Sets W w.heap.size (pN v (8 * (i * 2)) (8 * k) x) wr) (fun _ j _ => 2 - (intOf j).toNat)
 case atStart => exact qA
 case round =>
  obtain ⟨k, X, hk, rfl, rfl, hX, hs⟩ := hrel
  have HX := Lib.hid hX
  clear hX
  by_cases hlt : k < 2
  ·have hz : (X : Int) % 256 % 256 = ((X % 256 : Nat) : Int) := by omega
   have hz2 : (X : Int) % 256 = ((X % 256 : Nat) : Int) := by omega
   have hz' := Lib.hid hz
   have hz2' := Lib.hid hz2
   clear hz hz2
   go_wp2_with (first | (with_reducible refine mP rfl _ _ rfl w.heap.size (i * 2 + k) _ X rfl rfl _ hs.this (by omega) hz'.out ?_; intro wq hq) | (with_reducible refine mP rfl _ _ rfl w.heap.size (i * 2 + k) _ X rfl rfl _ hs.this (by omega) hz2'.out ?_; intro wq hq))
   go_roundw
   case rel =>
    refine ⟨k + 1, X / 256, by omega, by go_num, by rw [dU X (HX.out ▸ Nat.lt_of_le_of_lt (Nat.div_le_self _ _) Hx.out)], ?_, ?_⟩
    ·exact jJ
    ·have := hs.trans hq
     rw [HX.out, show 8 * (i * 2 + k) = 8 * (i * 2) + 8 * k by omega, v8 _ _ _ _ _ (by omega)] at this
     exact this
   case measure => exact xL
  ·exact yH
set_option maxRecDepth 100000 in
theorem rsign16 (x : Nat) (w : World) (hx : x < 2 ^ 16) :
 Calls Try.prog 83 #[.int .u64 x, .int .i64 16] w fun e w' => e = .returned (.int .i64 (sgn 16 x)) ∧ w = w' := by
 have Hx := Lib.hid hx
 clear hx
 by_cases h : (32768 : Int) ≤ (x : Int) % 65536
 all_goals
  go_enter Try.func83, Try.ntmps83
  go_wp2
  go_ret
  refine ⟨uU ?_, rfl⟩
  have hx := Hx.out
  unfold sgn
  split <;> omega
theorem rset32 (v : Vec) (i x : Nat) (w : World) (hi : i < 4) (hx : x < 2 ^ 64) :
 Calls Try.prog 68 #[.agg (mY v), .int .i64 32, .int .i64 i, .int .u64 x] w fun e w' => e = .returned (.agg (mY (t7 v 32 i x))) ∧ Below w.heap.size w w' := by
 have hi' : (i : Int) < 4 := by omega
 have Hx := Lib.hid hx
 clear hx
 go_enter Try.func68, Try.ntmps68
 go_wp2_with (first | (go_at_call 82; ((with_reducible refine (pR _).mono ?_); rintro e w' ⟨rfl, rfl⟩)))
 rw [← mU]
 obtain ⟨W, hW, hB, hR, hZ⟩ := zF w v
 rw [← hW]
 clear hW
 go_loopw [3, 9] (fun y j wr => ∃ k X : Nat, k ≤ 4 ∧ j = .int .i64 k ∧ y = .int .u64 X ∧ X = x / 2 ^ (8 * k) ∧ Sets W w.heap.size (pN v (8 * (i * 4)) (8 * k) x) wr) (fun _ j _ => 4 - (intOf j).toNat)
 case atStart => exact qA
 case round =>
  obtain ⟨k, X, hk, rfl, rfl, hX, hs⟩ := hrel
  have HX := Lib.hid hX
  clear hX
  by_cases hlt : k < 4
  ·have hz : (X : Int) % 256 % 256 = ((X % 256 : Nat) : Int) := by omega
   have hz2 : (X : Int) % 256 = ((X % 256 : Nat) : Int) := by omega
   have hz' := Lib.hid hz
   have hz2' := Lib.hid hz2
   clear hz hz2
   go_wp2_with (first | (with_reducible refine mP rfl _ _ rfl w.heap.size (i * 4 + k) _ X rfl rfl _ hs.this (by omega) hz'.out ?_; intro wq hq) | (with_reducible refine mP rfl _ _ rfl w.heap.size (i * 4 + k) _ X rfl rfl _ hs.this (by omega) hz2'.out ?_; intro wq hq))
   go_roundw
   case rel =>
    refine ⟨k + 1, X / 256, by omega, by go_num, by rw [dU X (HX.out ▸ Nat.lt_of_le_of_lt (Nat.div_le_self _ _) Hx.out)], ?_, ?_⟩
    ·exact jJ
    ·have := hs.trans hq
     rw [HX.out, show 8 * (i * 4 + k) = 8 * (i * 4) + 8 * k by omega, v8 _ _ _ _ _ (by omega)] at this
     exact this
   case measure => exact xL
  ·exact yL
set_option maxRecDepth 100000 in
theorem rsign32 (x : Nat) (w : World) (hx : x < 2 ^ 32) :
 Calls Try.prog 83 #[.int .u64 x, .int .i64 32] w fun e w' => e = .returned (.int .i64 (sgn 32 x)) ∧ w = w' := by
 have Hx := Lib.hid hx
 clear hx
 by_cases h : (2147483648 : Int) ≤ (x : Int) % 4294967296
 all_goals
  go_enter Try.func83, Try.ntmps83
  go_wp2
  go_ret
  refine ⟨uU ?_, rfl⟩
  have hx := Hx.out
  unfold sgn
  split <;> omega
theorem rset64 (v : Vec) (i x : Nat) (w : World) (hi : i < 2) (hx : x < 2 ^ 64) :
 Calls Try.prog 68 #[.agg (mY v), .int .i64 64, .int .i64 i, .int .u64 x] w fun e w' => e = .returned (.agg (mY (t7 v 64 i x))) ∧ Below w.heap.size w w' := by
 have hi' : (i : Int) < 2 := by omega
 have Hx := Lib.hid hx
 clear hx
 go_enter Try.func68, Try.ntmps68
 go_wp2_with (first | (go_at_call 82; ((with_reducible refine (pH _).mono ?_); rintro e w' ⟨rfl, rfl⟩)))
 rw [← mU]
 obtain ⟨W, hW, hB, hR, hZ⟩ := zF w v
 rw [← hW]
 clear hW
 go_loopw [3, 9] (fun y j wr => ∃ k X : Nat, k ≤ 8 ∧ j = .int .i64 k ∧ y = .int .u64 X ∧ X = x / 2 ^ (8 * k) ∧ Sets W w.heap.size (pN v (8 * (i * 8)) (8 * k) x) wr) (fun _ j _ => 8 - (intOf j).toNat)
 case atStart => exact qA
 case round =>
  obtain ⟨k, X, hk, rfl, rfl, hX, hs⟩ := hrel
  have HX := Lib.hid hX
  clear hX
  by_cases hlt : k < 8
  ·have hz : (X : Int) % 256 % 256 = ((X % 256 : Nat) : Int) := by omega
   have hz2 : (X : Int) % 256 = ((X % 256 : Nat) : Int) := by omega
   have hz' := Lib.hid hz
   have hz2' := Lib.hid hz2
   clear hz hz2
   go_wp2_with (first | (with_reducible refine mP rfl _ _ rfl w.heap.size (i * 8 + k) _ X rfl rfl _ hs.this (by omega) hz'.out ?_; intro wq hq) | (with_reducible refine mP rfl _ _ rfl w.heap.size (i * 8 + k) _ X rfl rfl _ hs.this (by omega) hz2'.out ?_; intro wq hq))
   go_roundw
   case rel =>
    refine ⟨k + 1, X / 256, by omega, by go_num, by rw [dU X (HX.out ▸ Nat.lt_of_le_of_lt (Nat.div_le_self _ _) Hx.out)], ?_, ?_⟩
    ·exact jJ
    ·have := hs.trans hq
     rw [HX.out, show 8 * (i * 8 + k) = 8 * (i * 8) + 8 * k by omega, v8 _ _ _ _ _ (by omega)] at this
     exact this
   case measure => exact xL
  ·exact yM
set_option maxRecDepth 100000 in
theorem rsign64 (x : Nat) (w : World) (hx : x < 2 ^ 64) :
 Calls Try.prog 83 #[.int .u64 x, .int .i64 64] w fun e w' => e = .returned (.int .i64 (sgn 64 x)) ∧ w = w' := by
 have Hx := Lib.hid hx
 clear hx
 go_enter Try.func83, Try.ntmps83
 go_wp2
 go_ret
 refine ⟨uU ?_, rfl⟩
 have hx := Hx.out
 unfold sgn wrap64
 split <;> omega
theorem rsigned8 (v : Vec) (i : Nat) (w : World) (hi : i < 16) :
 Calls Try.prog 73 #[.agg (mY v), .int .i64 8, .int .i64 i] w fun e w' => e = .returned (.int .i64 (sgn 8 (mT v 8 i))) ∧ Below w.heap.size w w' := by
 have hg := rget8 v i (w.alloc (.cells (mY v) 45)) hi
 have hs := fun W => rsign8 (mT v 8 i) W (mL _ _ _)
 go_enter Try.func73, Try.ntmps73
 go_wp2_with (first | (go_at_call 82; ((with_reducible refine (v6 _).mono ?_); rintro e w' ⟨rfl, rfl⟩)) | (with_reducible refine mG rfl _ rfl _ rfl v (heap_alloc_new _ _) ?_) | (go_at_call 74; refine hg.mono ?_; rintro e w' ⟨rfl, hb⟩) | (go_at_call 83; refine (hs _).mono ?_; rintro e w' ⟨rfl, rfl⟩))
 go_ret
 exact ⟨rfl, ((Below.refl _ _).alloc (Nat.le_refl _) _).trans (hb.mono (by simp))⟩
theorem rsigned16 (v : Vec) (i : Nat) (w : World) (hi : i < 8) :
 Calls Try.prog 73 #[.agg (mY v), .int .i64 16, .int .i64 i] w fun e w' => e = .returned (.int .i64 (sgn 16 (mT v 16 i))) ∧ Below w.heap.size w w' := by
 have hg := rget16 v i (w.alloc (.cells (mY v) 45)) hi
 have hs := fun W => rsign16 (mT v 16 i) W (mL _ _ _)
 exact qS
theorem rsigned32 (v : Vec) (i : Nat) (w : World) (hi : i < 4) :
 Calls Try.prog 73 #[.agg (mY v), .int .i64 32, .int .i64 i] w fun e w' => e = .returned (.int .i64 (sgn 32 (mT v 32 i))) ∧ Below w.heap.size w w' := by
 have hg := rget32 v i (w.alloc (.cells (mY v) 45)) hi
 have hs := fun W => rsign32 (mT v 32 i) W (mL _ _ _)
 exact qT
theorem rsigned64 (v : Vec) (i : Nat) (w : World) (hi : i < 2) :
 Calls Try.prog 73 #[.agg (mY v), .int .i64 64, .int .i64 i] w fun e w' => e = .returned (.int .i64 (sgn 64 (mT v 64 i))) ∧ Below w.heap.size w w' := by
 have hg := rget64 v i (w.alloc (.cells (mY v) 45)) hi
 have hs := fun W => rsign64 (mT v 64 i) W (mL _ _ _)
 go_enter Try.func73, Try.ntmps73
 go_wp2_with (first | (go_at_call 82; ((with_reducible refine (pH _).mono ?_); rintro e w' ⟨rfl, rfl⟩)) | (with_reducible refine mG rfl _ rfl _ rfl v (heap_alloc_new _ _) ?_) | (go_at_call 74; refine hg.mono ?_; rintro e w' ⟨rfl, hb⟩) | (go_at_call 83; refine (hs _).mono ?_; rintro e w' ⟨rfl, rfl⟩))
 go_ret
 exact ⟨rfl, ((Below.refl _ _).alloc (Nat.le_refl _) _).trans (hb.mono (by simp))⟩
theorem fC (v : Vec) (j : Int) (i : Nat) (w : World) (hj : j = i) (hi : i < 16) :
 Calls Try.prog 74 #[.agg (mY v), .int .i64 8, .int .i64 j] w fun e w' => e = .returned (.int .u64 (mT v 8 i : Nat)) ∧ Below w.heap.size w w' := hj ▸ rget8 v i w hi
theorem uD (v : Vec) (j : Int) (i : Nat) (w : World) (hj : j = i) (hi : i < 16) :
 Calls Try.prog 73 #[.agg (mY v), .int .i64 8, .int .i64 j] w fun e w' => e = .returned (.int .i64 (sgn 8 (mT v 8 i))) ∧ Below w.heap.size w w' := hj ▸ rsigned8 v i w hi
theorem uA (v : Vec) (j z : Int) (i x : Nat) (w : World) (hj : j = i) (hz : z = x) (hi : i < 16) (hx : x < 2 ^ 64) :
 Calls Try.prog 68 #[.agg (mY v), .int .i64 8, .int .i64 j, .int .u64 z] w fun e w' => e = .returned (.agg (mY (t7 v 8 i x))) ∧ Below w.heap.size w w' := hj ▸ hz ▸ rset8 v i x w hi hx
theorem vA (v : Vec) (j : Int) (i : Nat) (w : World) (hj : j = i) (hi : i < 8) :
 Calls Try.prog 74 #[.agg (mY v), .int .i64 16, .int .i64 j] w fun e w' => e = .returned (.int .u64 (mT v 16 i : Nat)) ∧ Below w.heap.size w w' := hj ▸ rget16 v i w hi
theorem v3 (v : Vec) (j : Int) (i : Nat) (w : World) (hj : j = i) (hi : i < 8) :
 Calls Try.prog 73 #[.agg (mY v), .int .i64 16, .int .i64 j] w fun e w' => e = .returned (.int .i64 (sgn 16 (mT v 16 i))) ∧ Below w.heap.size w w' := hj ▸ rsigned16 v i w hi
theorem v4 (v : Vec) (j z : Int) (i x : Nat) (w : World) (hj : j = i) (hz : z = x) (hi : i < 8) (hx : x < 2 ^ 64) :
 Calls Try.prog 68 #[.agg (mY v), .int .i64 16, .int .i64 j, .int .u64 z] w fun e w' => e = .returned (.agg (mY (t7 v 16 i x))) ∧ Below w.heap.size w w' := hj ▸ hz ▸ rset16 v i x w hi hx
theorem vL (v : Vec) (j : Int) (i : Nat) (w : World) (hj : j = i) (hi : i < 4) :
 Calls Try.prog 74 #[.agg (mY v), .int .i64 32, .int .i64 j] w fun e w' => e = .returned (.int .u64 (mT v 32 i : Nat)) ∧ Below w.heap.size w w' := hj ▸ rget32 v i w hi
theorem rY (v : Vec) (j : Int) (i : Nat) (w : World) (hj : j = i) (hi : i < 4) :
 Calls Try.prog 73 #[.agg (mY v), .int .i64 32, .int .i64 j] w fun e w' => e = .returned (.int .i64 (sgn 32 (mT v 32 i))) ∧ Below w.heap.size w w' := hj ▸ rsigned32 v i w hi
theorem vM (v : Vec) (j z : Int) (i x : Nat) (w : World) (hj : j = i) (hz : z = x) (hi : i < 4) (hx : x < 2 ^ 64) :
 Calls Try.prog 68 #[.agg (mY v), .int .i64 32, .int .i64 j, .int .u64 z] w fun e w' => e = .returned (.agg (mY (t7 v 32 i x))) ∧ Below w.heap.size w w' := hj ▸ hz ▸ rset32 v i x w hi hx
theorem vU (v : Vec) (j : Int) (i : Nat) (w : World) (hj : j = i) (hi : i < 2) :
 Calls Try.prog 74 #[.agg (mY v), .int .i64 64, .int .i64 j] w fun e w' => e = .returned (.int .u64 (mT v 64 i : Nat)) ∧ Below w.heap.size w w' := hj ▸ rget64 v i w hi
theorem uB (v : Vec) (j : Int) (i : Nat) (w : World) (hj : j = i) (hi : i < 2) :
 Calls Try.prog 73 #[.agg (mY v), .int .i64 64, .int .i64 j] w fun e w' => e = .returned (.int .i64 (sgn 64 (mT v 64 i))) ∧ Below w.heap.size w w' := hj ▸ rsigned64 v i w hi
theorem vN (v : Vec) (j z : Int) (i x : Nat) (w : World) (hj : j = i) (hz : z = x) (hi : i < 2) (hx : x < 2 ^ 64) :
 Calls Try.prog 68 #[.agg (mY v), .int .i64 64, .int .i64 j, .int .u64 z] w fun e w' => e = .returned (.agg (mY (t7 v 64 i x))) ∧ Below w.heap.size w w' := hj ▸ hz ▸ rset64 v i x w hi hx
end Go.Proofs.Ytcpfabkokgiepaa
