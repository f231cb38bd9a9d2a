/-
  Texts VcM, CmpO, WidRBR3.
-/
import Derived.Test.YtcpfabkokgiepaaQ02
import Derived.Test.YtcpfabkokgiepaaQ05
import Derived.Test.YtcpfabkokgiepaaQ07
import Derived.Test.YtcpfabkokgiepaaQ22
set_option linter.unusedSimpArgs false
set_option linter.unusedVariables false
set_option maxHeartbeats 8000000
open Pl
section
namespace Go.Proofs.Ytcpfabkokgiepaa
open Go.RowKit Pl
end Go.Proofs.Ytcpfabkokgiepaa
namespace Pl
open Go
def vF (κ : Int) : Nat × Bool :=
 if κ = 21 ∨ κ = 22 then (8, false) else if κ = 23 then (8, true) else if κ = 24 ∨ κ = 25 then (16, false) else if κ = 26 then (16, true) else
 if κ = 27 then (32, false) else if κ = 28 then (32, true) else if κ = 29 then (64, false) else if κ = 30 then (64, true) else (0, false)
def lanesN (w : Nat) : Nat := if w = 8 then 16 else if w = 16 then 8 else if w = 32 then 4 else if w = 64 then 2 else 0
def sS (κ i : Int) (v : Vec) : Nat × Int :=
 if (vF κ).1 = 0 ∨ (vF κ).2 = true ∨ i < 0 ∨ (lanesN (vF κ).1 : Int) ≤ i then (0, 1)
 else if κ = 21 ∨ κ = 24 then (((sgn (vF κ).1 (mT v (vF κ).1 i.toNat)) % 4294967296).toNat, 0)
 else (mT v (vF κ).1 i.toNat, 0)
def v7 (κ i : Int) (v : Vec) (x : Nat) : Vec × Int :=
 if (vF κ).1 = 0 ∨ (vF κ).2 = false ∨ i < 0 ∨ (lanesN (vF κ).1 : Int) ≤ i then (0, 1)
 else (t7 v (vF κ).1 i.toNat x, 0)
def vK (κ : Int) (x : Nat) : Vec × Int :=
 if κ = 15 then (mJ 0 8 (fun _ => x) 16, 0) else if κ = 16 then (mJ 0 16 (fun _ => x) 8, 0) else if κ = 17 then (mJ 0 32 (fun _ => x) 4, 0) else if κ = 18 then (mJ 0 64 (fun _ => x) 2, 0) else (0, 1)
def sA (s a b : Vec) (i : Nat) : Nat := if 16 ≤ mT s 8 i then mT b 8 (mT s 8 i - 16) else mT a 8 (mT s 8 i)
def rC (s a b : Vec) : Vec × Int := if (List.range 16).all (fun i => decide (mT s 8 i < 32)) = true then (mJ 0 8 (sA s a b) 16, 0) else (0, 1)
def sH (a b : Vec) (i : Nat) : Nat := if mT b 8 i < 16 then mT a 8 (mT b 8 i) else 0
def swizV (a b : Vec) : Vec := mJ 0 8 (sH a b) 16
end Pl
namespace Go.Proofs.Ytcpfabkokgiepaa
open Go.RowKit Pl
set_option maxRecDepth 100000 in
theorem splat_8 (x : Nat) (w : World) :
 Calls Try.prog 25 #[.int .i64 64783, .int .u64 (x : Nat)] w fun e w' => e = .returned (.tuple #[.agg (mY (mJ 0 8 (fun _ => x) 16)), .int .i64 0]) ∧ Below w.heap.size w w' := by
 go_enter Try.func25, Try.ntmps25
 go_wp2_with (first | (go_at_call 50; ((with_reducible refine (sL _).mono ?_); rintro e w' ⟨rfl, rfl⟩)))
 rw [← mU]
 obtain ⟨W, hW, hR, hO, hZ⟩ := x9 w
 rw [← hW]
 clear hW
 go_loopw [24] (fun j wr => ∃ k : Nat, k ≤ 16 ∧ j = .int .i64 k ∧ St W (w.heap.size + 1) (mJ 0 8 (fun _ => x) k) wr) (fun j _ => 16 - (intOf j).toNat)
 case atStart => exact xE
 case round =>
  obtain ⟨k, hk, rfl, hs⟩ := hrel
  by_cases hlt : k < 16
  ·go_wp2_with (first | (with_reducible refine mG rfl _ rfl _ rfl _ hs.this ?_) | (go_at_call 54; (with_reducible refine (eG _ _ _ k x _ rfl rfl (by omega)).mono ?_); rintro e u ⟨rfl, hb⟩; replace hs := hs.below hb; clear hb) | (with_reducible refine mK rfl _ _ rfl (w.heap.size + 1) _ rfl rfl _ hs.this ?_; intro wz hz))
   go_roundw
   case rel => exact jP
   case measure => exact xL
  ·obtain rfl : k = 16 := by omega
   exact xC
set_option maxRecDepth 100000 in
theorem splat_16 (x : Nat) (w : World) :
 Calls Try.prog 25 #[.int .i64 64784, .int .u64 (x : Nat)] w fun e w' => e = .returned (.tuple #[.agg (mY (mJ 0 16 (fun _ => x) 8)), .int .i64 0]) ∧ Below w.heap.size w w' := by
 go_enter Try.func25, Try.ntmps25
 go_wp2_with (first | (go_at_call 50; ((with_reducible refine (rD _).mono ?_); rintro e w' ⟨rfl, rfl⟩)))
 rw [← mU]
 obtain ⟨W, hW, hR, hO, hZ⟩ := x9 w
 rw [← hW]
 clear hW
 go_loopw [24] (fun j wr => ∃ k : Nat, k ≤ 8 ∧ j = .int .i64 k ∧ St W (w.heap.size + 1) (mJ 0 16 (fun _ => x) k) wr) (fun j _ => 8 - (intOf j).toNat)
 case atStart => exact xE
 case round =>
  obtain ⟨k, hk, rfl, hs⟩ := hrel
  by_cases hlt : k < 8
  ·go_wp2_with (first | (with_reducible refine mG rfl _ rfl _ rfl _ hs.this ?_) | (go_at_call 54; (with_reducible refine (rN _ _ _ k x _ rfl rfl (by omega)).mono ?_); rintro e u ⟨rfl, hb⟩; replace hs := hs.below hb; clear hb) | (with_reducible refine mK rfl _ _ rfl (w.heap.size + 1) _ rfl rfl _ hs.this ?_; intro wz hz))
   go_roundw
   case rel => exact jP
   case measure => exact xL
  ·obtain rfl : k = 8 := by omega
   exact xC
set_option maxRecDepth 100000 in
theorem splat_32 (x : Nat) (w : World) :
 Calls Try.prog 25 #[.int .i64 64785, .int .u64 (x : Nat)] w fun e w' => e = .returned (.tuple #[.agg (mY (mJ 0 32 (fun _ => x) 4)), .int .i64 0]) ∧ Below w.heap.size w w' := by
 go_enter Try.func25, Try.ntmps25
 go_wp2_with (first | (go_at_call 50; ((with_reducible refine (sX _).mono ?_); rintro e w' ⟨rfl, rfl⟩)))
 rw [← mU]
 obtain ⟨W, hW, hR, hO, hZ⟩ := x9 w
 rw [← hW]
 clear hW
 go_loopw [24] (fun j wr => ∃ k : Nat, k ≤ 4 ∧ j = .int .i64 k ∧ St W (w.heap.size + 1) (mJ 0 32 (fun _ => x) k) wr) (fun j _ => 4 - (intOf j).toNat)
 case atStart => exact xE
 case round =>
  obtain ⟨k, hk, rfl, hs⟩ := hrel
  by_cases hlt : k < 4
  ·go_wp2_with (first | (with_reducible refine mG rfl _ rfl _ rfl _ hs.this ?_) | (go_at_call 54; (with_reducible refine (uK _ _ _ k x _ rfl rfl (by omega)).mono ?_); rintro e u ⟨rfl, hb⟩; replace hs := hs.below hb; clear hb) | (with_reducible refine mK rfl _ _ rfl (w.heap.size + 1) _ rfl rfl _ hs.this ?_; intro wz hz))
   go_roundw
   case rel => exact jP
   case measure => exact xL
  ·obtain rfl : k = 4 := by omega
   exact xC
set_option maxRecDepth 100000 in
theorem splat_64 (x : Nat) (w : World) :
 Calls Try.prog 25 #[.int .i64 64786, .int .u64 (x : Nat)] w fun e w' => e = .returned (.tuple #[.agg (mY (mJ 0 64 (fun _ => x) 2)), .int .i64 0]) ∧ Below w.heap.size w w' := by
 go_enter Try.func25, Try.ntmps25
 go_wp2_with (first | (go_at_call 50; ((with_reducible refine (sZ _).mono ?_); rintro e w' ⟨rfl, rfl⟩)))
 rw [← mU]
 obtain ⟨W, hW, hR, hO, hZ⟩ := x9 w
 rw [← hW]
 clear hW
 go_loopw [24] (fun j wr => ∃ k : Nat, k ≤ 2 ∧ j = .int .i64 k ∧ St W (w.heap.size + 1) (mJ 0 64 (fun _ => x) k) wr) (fun j _ => 2 - (intOf j).toNat)
 case atStart => exact xE
 case round =>
  obtain ⟨k, hk, rfl, hs⟩ := hrel
  by_cases hlt : k < 2
  ·go_wp2_with (first | (with_reducible refine mG rfl _ rfl _ rfl _ hs.this ?_) | (go_at_call 54; (with_reducible refine (fD _ _ _ k x _ rfl rfl (by omega)).mono ?_); rintro e u ⟨rfl, hb⟩; replace hs := hs.below hb; clear hb) | (with_reducible refine mK rfl _ _ rfl (w.heap.size + 1) _ rfl rfl _ hs.this ?_; intro wz hz))
   go_roundw
   case rel => exact jP
   case measure => exact xL
  ·obtain rfl : k = 2 := by omega
   exact xC
theorem eF (w : World) (x y : Obj) : Below w.heap.size w ((w.alloc x).alloc y) := ((Below.refl _ _).alloc (Nat.le_refl _) _).alloc (by simp) _
theorem vH (w : World) (x y : Obj) {u : World} (h : Below ((w.alloc x).alloc y).heap.size ((w.alloc x).alloc y) u) : Below w.heap.size w u := (eF w x y).trans (h.mono (by simp; omega))
theorem lane_21 (w : World) : Calls Try.prog 61 #[.int .i64 64789] w fun e w' => e = .returned (.tuple #[.int .i64 8, .bool false]) ∧ w' = w := yS
theorem lane_22 (w : World) : Calls Try.prog 61 #[.int .i64 64790] w fun e w' => e = .returned (.tuple #[.int .i64 8, .bool false]) ∧ w' = w := yS
theorem lane_23 (w : World) : Calls Try.prog 61 #[.int .i64 64791] w fun e w' => e = .returned (.tuple #[.int .i64 8, .bool true]) ∧ w' = w := yS
theorem lane_24 (w : World) : Calls Try.prog 61 #[.int .i64 64792] w fun e w' => e = .returned (.tuple #[.int .i64 16, .bool false]) ∧ w' = w := yS
theorem lane_25 (w : World) : Calls Try.prog 61 #[.int .i64 64793] w fun e w' => e = .returned (.tuple #[.int .i64 16, .bool false]) ∧ w' = w := yS
theorem lane_26 (w : World) : Calls Try.prog 61 #[.int .i64 64794] w fun e w' => e = .returned (.tuple #[.int .i64 16, .bool true]) ∧ w' = w := yS
theorem lane_27 (w : World) : Calls Try.prog 61 #[.int .i64 64795] w fun e w' => e = .returned (.tuple #[.int .i64 32, .bool false]) ∧ w' = w := yS
theorem lane_28 (w : World) : Calls Try.prog 61 #[.int .i64 64796] w fun e w' => e = .returned (.tuple #[.int .i64 32, .bool true]) ∧ w' = w := yS
theorem lane_29 (w : World) : Calls Try.prog 61 #[.int .i64 64797] w fun e w' => e = .returned (.tuple #[.int .i64 64, .bool false]) ∧ w' = w := yS
theorem lane_30 (w : World) : Calls Try.prog 61 #[.int .i64 64798] w fun e w' => e = .returned (.tuple #[.int .i64 64, .bool true]) ∧ w' = w := yS
theorem lane_no (op κ : Int) (w : World) (hκ : IntKind.i64.wrap (op - 64768) = κ) (h : κ < 21 ∨ 30 < κ) : Calls Try.prog 61 #[.int .i64 op] w fun e w' => e = .returned (.tuple #[.int .i64 0, .bool false]) ∧ w' = w := by
 have t21 : (κ == 21) = false := beq_eq_false_iff_ne.2 (by omega)
 have t22 : (κ == 22) = false := beq_eq_false_iff_ne.2 (by omega)
 have t23 : (κ == 23) = false := beq_eq_false_iff_ne.2 (by omega)
 have t24 : (κ == 24) = false := beq_eq_false_iff_ne.2 (by omega)
 have t25 : (κ == 25) = false := beq_eq_false_iff_ne.2 (by omega)
 have t26 : (κ == 26) = false := beq_eq_false_iff_ne.2 (by omega)
 have t27 : (κ == 27) = false := beq_eq_false_iff_ne.2 (by omega)
 have t28 : (κ == 28) = false := beq_eq_false_iff_ne.2 (by omega)
 have t29 : (κ == 29) = false := beq_eq_false_iff_ne.2 (by omega)
 have t30 : (κ == 30) = false := beq_eq_false_iff_ne.2 (by omega)
 exact yS
set_option maxRecDepth 100000 in
theorem splat_no (op : Int) (x : Nat) (w : World) (h1 : 64768 ≤ op) (h2 : op ≤ 65023) (h : op < 64783 ∨ 64786 < op) :
 Calls Try.prog 25 #[.int .i64 op, .int .u64 (x : Nat)] w fun e w' => e = .returned (.tuple #[.agg (mY 0), .int .i64 1]) ∧ Below w.heap.size w w' := by
 by_cases h0 : op < 64783
 ·exact j1
 ·have h3 : 64786 < op := by omega
  exact j1
theorem splat_k (κ : Int) (x : Nat) (w : World) (h : 0 ≤ κ ∧ κ ≤ 255) :
 Calls Try.prog 25 #[.int .i64 (64768 + κ), .int .u64 (x : Nat)] w fun e w' => e = .returned (.tuple #[.agg (mY (vK κ x).1), .int .i64 (vK κ x).2]) ∧ Below w.heap.size w w' := by
 unfold vK
 by_cases h15 : κ = 15
 ·subst h15; exact splat_8 x w
 ·by_cases h16 : κ = 16
  ·subst h16; exact splat_16 x w
  ·by_cases h17 : κ = 17
   ·subst h17; exact splat_32 x w
   ·by_cases h18 : κ = 18
    ·subst h18; exact splat_64 x w
    ·rw [if_neg h15, if_neg h16, if_neg h17, if_neg h18]
     exact splat_no _ x w (by omega) (by omega) (by omega)
set_option maxRecDepth 100000 in
theorem repl_23 (i : Int) (j : Nat) (v : Vec) (x : Nat) (w : World) (hj : i = j) (hlt : j < 16) :
 Calls Try.prog 26 #[.int .i64 64791, .int .i64 i, .agg (mY v), .int .u64 (x : Nat)] w fun e w' => e = .returned (.tuple #[.agg (mY (t7 v 8 j x)), .int .i64 0]) ∧ Below w.heap.size w w' := by
 have h0 : decide (i < 0) = false := by simp; omega
 have h1 : decide (16 ≤ i) = false := by simp; omega
 have HJ := Lib.hid hj
 clear hj
 go_enter Try.func26, Try.ntmps26
 go_wp2_with (first | (go_at_call 61; refine (lane_23 _).mono ?_; rintro e w1 ⟨rfl, rfl⟩) | (go_at_call 50; ((with_reducible refine (sL _).mono ?_); rintro e w2 ⟨rfl, rfl⟩)) | (with_reducible refine mG rfl _ rfl _ rfl _ (heap_alloc2_old _ _ _) ?_) | (go_at_call 54; refine (eG v i _ j x _ HJ.out rfl hlt).mono ?_; rintro e u ⟨rfl, hb⟩; have hr := mV (sD w 45 _) hb; have hZ := vH w _ _ hb) | (with_reducible refine mK rfl _ _ rfl (w.heap.size + 1) _ rfl rfl 0 hr ?_; intro wq hq))
 exact bodyPost_ret (mS rfl _ _ (w.heap.size + 1) _ _ rfl rfl hq.this) rfl ⟨rfl, hZ.trans (hq.below.mono (by omega))⟩
set_option maxRecDepth 100000 in
theorem repl_26 (i : Int) (j : Nat) (v : Vec) (x : Nat) (w : World) (hj : i = j) (hlt : j < 8) :
 Calls Try.prog 26 #[.int .i64 64794, .int .i64 i, .agg (mY v), .int .u64 (x : Nat)] w fun e w' => e = .returned (.tuple #[.agg (mY (t7 v 16 j x)), .int .i64 0]) ∧ Below w.heap.size w w' := by
 have h0 : decide (i < 0) = false := by simp; omega
 have h1 : decide (8 ≤ i) = false := by simp; omega
 have HJ := Lib.hid hj
 clear hj
 go_enter Try.func26, Try.ntmps26
 go_wp2_with (first | (go_at_call 61; refine (lane_26 _).mono ?_; rintro e w1 ⟨rfl, rfl⟩) | (go_at_call 50; ((with_reducible refine (rD _).mono ?_); rintro e w2 ⟨rfl, rfl⟩)) | (with_reducible refine mG rfl _ rfl _ rfl _ (heap_alloc2_old _ _ _) ?_) | (go_at_call 54; refine (rN v i _ j x _ HJ.out rfl hlt).mono ?_; rintro e u ⟨rfl, hb⟩; have hr := mV (sD w 45 _) hb; have hZ := vH w _ _ hb) | (with_reducible refine mK rfl _ _ rfl (w.heap.size + 1) _ rfl rfl 0 hr ?_; intro wq hq))
 exact bodyPost_ret (mS rfl _ _ (w.heap.size + 1) _ _ rfl rfl hq.this) rfl ⟨rfl, hZ.trans (hq.below.mono (by omega))⟩
set_option maxRecDepth 100000 in
theorem repl_28 (i : Int) (j : Nat) (v : Vec) (x : Nat) (w : World) (hj : i = j) (hlt : j < 4) :
 Calls Try.prog 26 #[.int .i64 64796, .int .i64 i, .agg (mY v), .int .u64 (x : Nat)] w fun e w' => e = .returned (.tuple #[.agg (mY (t7 v 32 j x)), .int .i64 0]) ∧ Below w.heap.size w w' := by
 have h0 : decide (i < 0) = false := by simp; omega
 have h1 : decide (4 ≤ i) = false := by simp; omega
 have HJ := Lib.hid hj
 clear hj
 go_enter Try.func26, Try.ntmps26
 go_wp2_with (first | (go_at_call 61; refine (lane_28 _).mono ?_; rintro e w1 ⟨rfl, rfl⟩) | (go_at_call 50; ((with_reducible refine (sX _).mono ?_); rintro e w2 ⟨rfl, rfl⟩)) | (with_reducible refine mG rfl _ rfl _ rfl _ (heap_alloc2_old _ _ _) ?_) | (go_at_call 54; refine (uK v i _ j x _ HJ.out rfl hlt).mono ?_; rintro e u ⟨rfl, hb⟩; have hr := mV (sD w 45 _) hb; have hZ := vH w _ _ hb) | (with_reducible refine mK rfl _ _ rfl (w.heap.size + 1) _ rfl rfl 0 hr ?_; intro wq hq))
 exact bodyPost_ret (mS rfl _ _ (w.heap.size + 1) _ _ rfl rfl hq.this) rfl ⟨rfl, hZ.trans (hq.below.mono (by omega))⟩
set_option maxRecDepth 100000 in
theorem repl_30 (i : Int) (j : Nat) (v : Vec) (x : Nat) (w : World) (hj : i = j) (hlt : j < 2) :
 Calls Try.prog 26 #[.int .i64 64798, .int .i64 i, .agg (mY v), .int .u64 (x : Nat)] w fun e w' => e = .returned (.tuple #[.agg (mY (t7 v 64 j x)), .int .i64 0]) ∧ Below w.heap.size w w' := by
 have h0 : decide (i < 0) = false := by simp; omega
 have h1 : decide (2 ≤ i) = false := by simp; omega
 have HJ := Lib.hid hj
 clear hj
 go_enter Try.func26, Try.ntmps26
 go_wp2_with (first | (go_at_call 61; refine (lane_30 _).mono ?_; rintro e w1 ⟨rfl, rfl⟩) | (go_at_call 50; ((with_reducible refine (sZ _).mono ?_); rintro e w2 ⟨rfl, rfl⟩)) | (with_reducible refine mG rfl _ rfl _ rfl _ (heap_alloc2_old _ _ _) ?_) | (go_at_call 54; refine (fD v i _ j x _ HJ.out rfl hlt).mono ?_; rintro e u ⟨rfl, hb⟩; have hr := mV (sD w 45 _) hb; have hZ := vH w _ _ hb) | (with_reducible refine mK rfl _ _ rfl (w.heap.size + 1) _ rfl rfl 0 hr ?_; intro wq hq))
 exact bodyPost_ret (mS rfl _ _ (w.heap.size + 1) _ _ rfl rfl hq.this) rfl ⟨rfl, hZ.trans (hq.below.mono (by omega))⟩
theorem repl_no (op i : Int) (z : Int) (lb : Bool) (v : Vec) (x : Nat) (w : World) (HK : ∀ W, Calls Try.prog 61 #[.int .i64 op] W fun e w' => e = .returned (.tuple #[.int .i64 z, .bool lb]) ∧ w' = W) (h : z = 0 ∨ lb = false ∨ i < 0 ∨ sE z ≤ i) :
 Calls Try.prog 26 #[.int .i64 op, .int .i64 i, .agg (mY v), .int .u64 (x : Nat)] w fun e w' => e = .returned (.tuple #[.agg (mY 0), .int .i64 1]) ∧ Below w.heap.size w w' := by
 have HL := Lib.hid HK
 clear HK
 have HLA := Lib.hid (fun W => fH z W)
 obtain ⟨n, hn⟩ : ∃ n, n = sE z := ⟨_, rfl⟩
 rw [← hn] at h HLA
 clear hn
 by_cases hz : z = 0
 ·subst hz
  clear h
  exact qG
 ·have q0 : (z == 0) = false := beq_eq_false_iff_ne.2 hz
  rcases lb with _ | _
  ·clear h hz
   exact qG
  ·by_cases h0 : i < 0
   ·have q1 : decide (i < 0) = true := by simp [h0]
    clear h hz h0
    exact qG
   ·have q1 : decide (i < 0) = false := by simp; omega
    have h4 : n ≤ i := by simp [hz, h0] at h; exact h
    have q2 : decide (n ≤ i) = true := by simp [h4]
    clear h hz h0 h4
    go_enter Try.func26, Try.ntmps26
    go_wp2_with (first | (go_at_call 61; refine (HL.out _).mono ?_; rintro e w1 ⟨rfl, rfl⟩) | (go_at_call 50; refine (HLA.out _).mono ?_; rintro e w2 ⟨rfl, rfl⟩))
    exact bodyPost_ret (mS rfl _ _ (w.heap.size + 1) _ _ rfl rfl (sD w 45 _)) rfl ⟨rfl, eF w _ _⟩
end Go.Proofs.Ytcpfabkokgiepaa
end
section
namespace Pl
def CV (w : Nat) (k : Int) (a b : Vec) : Vec := mJ 0 w (vV w k a b) (128 / w)
end Pl
end
section
namespace Go.Proofs.Ytcpfabkokgiepaa
open Go.RowKit Pl
set_option maxRecDepth 100000 in
theorem rbin_row8_3 (a b : Vec) (w : World) :
 Calls Try.prog 81 #[.int .i64 64927, .agg (mY a), .agg (mY b)] w fun e w' => e = .returned (.tuple #[.agg (mY (mJ 0 16 (tK 16 ((unW 64906 a).1) ((unW 64906 b).1)) 8)), .int .i64 0]) ∧ Below w.heap.size w w' := by
 go_enter Try.func81, Try.ntmps81
 go_wp2_with fail
 rw [← mU]
 obtain ⟨W, hW, hA, hB, hR, hO, hX, hY, hZ⟩ := pF w (.cells (mY a) 45) (.cells (mY b) 45) (.cells (mY 0) 45) (.cells (mY 0) 45) (.cells (mY 0) 45) (.cells (mY 0) 45)
 rw [← hW]
 clear hW
 refine wp_loop_rounds 1 ?_
 iterate 0 (rw [rounds_succ]; go_wp2_with fail)
 rw [rounds_succ]
 go_wp2_with (first | (with_reducible refine mG rfl _ rfl _ rfl _ hA ?_) | (go_at_call 77; (with_reducible refine (pM 64906 a _).mono ?_); rintro e u2 ⟨rfl, hb⟩; have z1 := hZ.trans (hb.mono (by have := mF hY; omega)); have kB1 := mV hB hb; have kR1 := mV hR hb; have kO1 := mV hO hb; have kX1 := mV hX hb; have kY1 := mV hY hb; clear hb) | (with_reducible refine mK rfl _ _ rfl (w.heap.size + 4) _ rfl rfl _ kX1 ?_; intro w3 h3; have z2 := z1.trans (h3.below.mono (by omega)); have kB2 := mR kB1 h3 (by omega); have kR2 := mR kR1 h3 (by omega); have kO2 := mR kO1 h3 (by omega); have kY2 := mR kY1 h3 (by omega); have kX2 := h3.this; clear h3 kB1 kR1 kO1 kX1 kY1 z1) | (with_reducible refine mG rfl _ rfl _ rfl _ kB2 ?_) | (go_at_call 77; (with_reducible refine (pM 64906 b _).mono ?_); rintro e u4 ⟨rfl, hb⟩; have z3 := z2.trans (hb.mono (by have := mF kY2; omega)); have kB3 := mV kB2 hb; have kR3 := mV kR2 hb; have kO3 := mV kO2 hb; have kX3 := mV kX2 hb; have kY3 := mV kY2 hb; clear hb kB2 kR2 kO2 kX2 kY2 z2) | (with_reducible refine mK rfl _ _ rfl (w.heap.size + 5) _ rfl rfl _ kY3 ?_; intro w5 h5; have z4 := z3.trans (h5.below.mono (by omega)); have kB4 := mR kB3 h5 (by omega); have kR4 := mR kR3 h5 (by omega); have kO4 := mR kO3 h5 (by omega); have kX4 := mR kX3 h5 (by omega); have kY4 := h5.this; clear h5 kB3 kR3 kO3 kX3 kY3 z3))
 refine wp_loop_rounds 1 ?_
 iterate 0 (rw [rounds_succ]; go_wp2_with fail)
 rw [rounds_succ]
 go_wp2_with fail
 clear kB4 hA hB hR hO hX hY hZ
 go_loopw [25] (fun jv wr => ∃ k : Nat, k ≤ 8 ∧ jv = .int .i64 k ∧ St w5 (w.heap.size + 3) (mJ 0 16 (tK 16 ((unW 64906 a).1) ((unW 64906 b).1)) k) wr) (fun jv _ => 8 - (intOf jv).toNat)
 case atStart => exact qR
 case round =>
  obtain ⟨k, hk, rfl, hs⟩ := hrel
  by_cases hlt : k < 8
  ·go_wp2_with fail
   refine mN (St w5 (w.heap.size + 3) (mJ 0 16 (tK 16 ((unW 64906 a).1) ((unW 64906 b).1)) k)) 13 (by kernel_rfl) (by kernel_rfl) hs.drew ?_
   simp only [zP, zN, zM, zL]
   (refine zK rfl _ rfl _ rfl _ (fun u hS => hS.this) ?_)
   repeat (refine z8 ?_)
   (refine zK rfl _ rfl _ rfl _ (fun u hS => hS.kb.get kX4 (by omega)) ?_)
   repeat (refine z8 ?_)
   (refine zZ (.int .u64 (mT ((unW 64906 a).1) 16 k : Nat)) 74 (c := fun u hS => by exact vA _ _ k _ rfl (by omega)) (r := ?_))
   (refine zK rfl _ rfl _ rfl _ (fun u hS => hS.kb.get kY4 (by omega)) ?_)
   repeat (refine z8 ?_)
   (refine zZ (.int .u64 (mT ((unW 64906 b).1) 16 k : Nat)) 74 (c := fun u hS => by exact vA _ _ k _ rfl (by omega)) (r := ?_))
   repeat (refine z8 ?_)
   (refine zZ (.agg (mY (t7 (mJ 0 16 (tK 16 ((unW 64906 a).1) ((unW 64906 b).1)) k) 16 k (tK 16 ((unW 64906 a).1) ((unW 64906 b).1) k)))) 68 (c := fun u hS => by exact v4 _ _ _ k (tK 16 ((unW 64906 a).1) ((unW 64906 b).1) k) _ rfl (vD _ _) (by omega) (Nat.mod_lt _ (by decide))) (r := ?_))
   refine mH (fun wr2 hr => ?_)
   go_wp2_with ((with_reducible refine mK rfl _ _ rfl (w.heap.size + 3) _ rfl rfl _ hr.this ?_; intro wy hy))
   go_roundw
   case rel => exact xD
   case measure => exact xL
  ·exact m0
set_option maxRecDepth 100000 in
theorem rbin_row16_3 (a b : Vec) (w : World) :
 Calls Try.prog 81 #[.int .i64 64959, .agg (mY a), .agg (mY b)] w fun e w' => e = .returned (.tuple #[.agg (mY (mJ 0 32 (tK 32 ((unW 64938 a).1) ((unW 64938 b).1)) 4)), .int .i64 0]) ∧ Below w.heap.size w w' := by
 go_enter Try.func81, Try.ntmps81
 go_wp2_with fail
 rw [← mU]
 obtain ⟨W, hW, hA, hB, hR, hO, hX, hY, hZ⟩ := pF w (.cells (mY a) 45) (.cells (mY b) 45) (.cells (mY 0) 45) (.cells (mY 0) 45) (.cells (mY 0) 45) (.cells (mY 0) 45)
 rw [← hW]
 clear hW
 refine wp_loop_rounds 2 ?_
 iterate 1 (rw [rounds_succ]; go_wp2_with fail)
 rw [rounds_succ]
 go_wp2_with (first | (with_reducible refine mG rfl _ rfl _ rfl _ hA ?_) | (go_at_call 77; (with_reducible refine (pM 64938 a _).mono ?_); rintro e u2 ⟨rfl, hb⟩; have z1 := hZ.trans (hb.mono (by have := mF hY; omega)); have kB1 := mV hB hb; have kR1 := mV hR hb; have kO1 := mV hO hb; have kX1 := mV hX hb; have kY1 := mV hY hb; clear hb) | (with_reducible refine mK rfl _ _ rfl (w.heap.size + 4) _ rfl rfl _ kX1 ?_; intro w3 h3; have z2 := z1.trans (h3.below.mono (by omega)); have kB2 := mR kB1 h3 (by omega); have kR2 := mR kR1 h3 (by omega); have kO2 := mR kO1 h3 (by omega); have kY2 := mR kY1 h3 (by omega); have kX2 := h3.this; clear h3 kB1 kR1 kO1 kX1 kY1 z1) | (with_reducible refine mG rfl _ rfl _ rfl _ kB2 ?_) | (go_at_call 77; (with_reducible refine (pM 64938 b _).mono ?_); rintro e u4 ⟨rfl, hb⟩; have z3 := z2.trans (hb.mono (by have := mF kY2; omega)); have kB3 := mV kB2 hb; have kR3 := mV kR2 hb; have kO3 := mV kO2 hb; have kX3 := mV kX2 hb; have kY3 := mV kY2 hb; clear hb kB2 kR2 kO2 kX2 kY2 z2) | (with_reducible refine mK rfl _ _ rfl (w.heap.size + 5) _ rfl rfl _ kY3 ?_; intro w5 h5; have z4 := z3.trans (h5.below.mono (by omega)); have kB4 := mR kB3 h5 (by omega); have kR4 := mR kR3 h5 (by omega); have kO4 := mR kO3 h5 (by omega); have kX4 := mR kX3 h5 (by omega); have kY4 := h5.this; clear h5 kB3 kR3 kO3 kX3 kY3 z3))
 refine wp_loop_rounds 2 ?_
 iterate 1 (rw [rounds_succ]; go_wp2_with fail)
 rw [rounds_succ]
 go_wp2_with fail
 clear kB4 hA hB hR hO hX hY hZ
 go_loopw [25] (fun jv wr => ∃ k : Nat, k ≤ 4 ∧ jv = .int .i64 k ∧ St w5 (w.heap.size + 3) (mJ 0 32 (tK 32 ((unW 64938 a).1) ((unW 64938 b).1)) k) wr) (fun jv _ => 4 - (intOf jv).toNat)
 case atStart => exact qR
 case round =>
  obtain ⟨k, hk, rfl, hs⟩ := hrel
  by_cases hlt : k < 4
  ·go_wp2_with fail
   refine mN (St w5 (w.heap.size + 3) (mJ 0 32 (tK 32 ((unW 64938 a).1) ((unW 64938 b).1)) k)) 13 (by kernel_rfl) (by kernel_rfl) hs.drew ?_
   simp only [zP, zN, zM, zL]
   (refine zK rfl _ rfl _ rfl _ (fun u hS => hS.this) ?_)
   repeat (refine z8 ?_)
   (refine zK rfl _ rfl _ rfl _ (fun u hS => hS.kb.get kX4 (by omega)) ?_)
   repeat (refine z8 ?_)
   (refine zZ (.int .u64 (mT ((unW 64938 a).1) 32 k : Nat)) 74 (c := fun u hS => by exact vL _ _ k _ rfl (by omega)) (r := ?_))
   (refine zK rfl _ rfl _ rfl _ (fun u hS => hS.kb.get kY4 (by omega)) ?_)
   repeat (refine z8 ?_)
   (refine zZ (.int .u64 (mT ((unW 64938 b).1) 32 k : Nat)) 74 (c := fun u hS => by exact vL _ _ k _ rfl (by omega)) (r := ?_))
   repeat (refine z8 ?_)
   (refine zZ (.agg (mY (t7 (mJ 0 32 (tK 32 ((unW 64938 a).1) ((unW 64938 b).1)) k) 32 k (tK 32 ((unW 64938 a).1) ((unW 64938 b).1) k)))) 68 (c := fun u hS => by exact vM _ _ _ k (tK 32 ((unW 64938 a).1) ((unW 64938 b).1) k) _ rfl (vD _ _) (by omega) (Nat.mod_lt _ (by decide))) (r := ?_))
   refine mH (fun wr2 hr => ?_)
   go_wp2_with ((with_reducible refine mK rfl _ _ rfl (w.heap.size + 3) _ rfl rfl _ hr.this ?_; intro wy hy))
   go_roundw
   case rel => exact xD
   case measure => exact xL
  ·exact m1
set_option maxRecDepth 100000 in
theorem rbin_row32_3 (a b : Vec) (w : World) :
 Calls Try.prog 81 #[.int .i64 64991, .agg (mY a), .agg (mY b)] w fun e w' => e = .returned (.tuple #[.agg (mY (mJ 0 64 (tK 64 ((unW 64970 a).1) ((unW 64970 b).1)) 2)), .int .i64 0]) ∧ Below w.heap.size w w' := by
 go_enter Try.func81, Try.ntmps81
 go_wp2_with fail
 rw [← mU]
 obtain ⟨W, hW, hA, hB, hR, hO, hX, hY, hZ⟩ := pF w (.cells (mY a) 45) (.cells (mY b) 45) (.cells (mY 0) 45) (.cells (mY 0) 45) (.cells (mY 0) 45) (.cells (mY 0) 45)
 rw [← hW]
 clear hW
 refine wp_loop_rounds 3 ?_
 iterate 2 (rw [rounds_succ]; go_wp2_with fail)
 rw [rounds_succ]
 go_wp2_with (first | (with_reducible refine mG rfl _ rfl _ rfl _ hA ?_) | (go_at_call 77; (with_reducible refine (pM 64970 a _).mono ?_); rintro e u2 ⟨rfl, hb⟩; have z1 := hZ.trans (hb.mono (by have := mF hY; omega)); have kB1 := mV hB hb; have kR1 := mV hR hb; have kO1 := mV hO hb; have kX1 := mV hX hb; have kY1 := mV hY hb; clear hb) | (with_reducible refine mK rfl _ _ rfl (w.heap.size + 4) _ rfl rfl _ kX1 ?_; intro w3 h3; have z2 := z1.trans (h3.below.mono (by omega)); have kB2 := mR kB1 h3 (by omega); have kR2 := mR kR1 h3 (by omega); have kO2 := mR kO1 h3 (by omega); have kY2 := mR kY1 h3 (by omega); have kX2 := h3.this; clear h3 kB1 kR1 kO1 kX1 kY1 z1) | (with_reducible refine mG rfl _ rfl _ rfl _ kB2 ?_) | (go_at_call 77; (with_reducible refine (pM 64970 b _).mono ?_); rintro e u4 ⟨rfl, hb⟩; have z3 := z2.trans (hb.mono (by have := mF kY2; omega)); have kB3 := mV kB2 hb; have kR3 := mV kR2 hb; have kO3 := mV kO2 hb; have kX3 := mV kX2 hb; have kY3 := mV kY2 hb; clear hb kB2 kR2 kO2 kX2 kY2 z2) | (with_reducible refine mK rfl _ _ rfl (w.heap.size + 5) _ rfl rfl _ kY3 ?_; intro w5 h5; have z4 := z3.trans (h5.below.mono (by omega)); have kB4 := mR kB3 h5 (by omega); have kR4 := mR kR3 h5 (by omega); have kO4 := mR kO3 h5 (by omega); have kX4 := mR kX3 h5 (by omega); have kY4 := h5.this; clear h5 kB3 kR3 kO3 kX3 kY3 z3))
 refine wp_loop_rounds 3 ?_
 iterate 2 (rw [rounds_succ]; go_wp2_with fail)
 rw [rounds_succ]
 go_wp2_with fail
 clear kB4 hA hB hR hO hX hY hZ
 go_loopw [25] (fun jv wr => ∃ k : Nat, k ≤ 2 ∧ jv = .int .i64 k ∧ St w5 (w.heap.size + 3) (mJ 0 64 (tK 64 ((unW 64970 a).1) ((unW 64970 b).1)) k) wr) (fun jv _ => 2 - (intOf jv).toNat)
 case atStart => exact qR
 case round =>
  obtain ⟨k, hk, rfl, hs⟩ := hrel
  by_cases hlt : k < 2
  ·go_wp2_with fail
   refine mN (St w5 (w.heap.size + 3) (mJ 0 64 (tK 64 ((unW 64970 a).1) ((unW 64970 b).1)) k)) 13 (by kernel_rfl) (by kernel_rfl) hs.drew ?_
   simp only [zP, zN, zM, zL]
   (refine zK rfl _ rfl _ rfl _ (fun u hS => hS.this) ?_)
   repeat (refine z8 ?_)
   (refine zK rfl _ rfl _ rfl _ (fun u hS => hS.kb.get kX4 (by omega)) ?_)
   repeat (refine z8 ?_)
   (refine zZ (.int .u64 (mT ((unW 64970 a).1) 64 k : Nat)) 74 (c := fun u hS => by exact vU _ _ k _ rfl (by omega)) (r := ?_))
   (refine zK rfl _ rfl _ rfl _ (fun u hS => hS.kb.get kY4 (by omega)) ?_)
   repeat (refine z8 ?_)
   (refine zZ (.int .u64 (mT ((unW 64970 b).1) 64 k : Nat)) 74 (c := fun u hS => by exact vU _ _ k _ rfl (by omega)) (r := ?_))
   repeat (refine z8 ?_)
   (refine zZ (.agg (mY (t7 (mJ 0 64 (tK 64 ((unW 64970 a).1) ((unW 64970 b).1)) k) 64 k (tK 64 ((unW 64970 a).1) ((unW 64970 b).1) k)))) 68 (c := fun u hS => by exact vN _ _ _ k (tK 64 ((unW 64970 a).1) ((unW 64970 b).1) k) _ rfl (vD _ _) (by omega) (Nat.mod_lt _ (by decide))) (r := ?_))
   refine mH (fun wr2 hr => ?_)
   go_wp2_with ((with_reducible refine mK rfl _ _ rfl (w.heap.size + 3) _ rfl rfl _ hr.this ?_; intro wy hy))
   go_roundw
   case rel => exact xD
   case measure => exact xL
  ·exact m3
end Go.Proofs.Ytcpfabkokgiepaa
end
