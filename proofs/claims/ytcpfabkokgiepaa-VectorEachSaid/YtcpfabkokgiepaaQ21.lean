/-
  Texts WidRP, WidRBN, WidRBD.
-/
import Derived.Test.YtcpfabkokgiepaaQ02
import Derived.Test.YtcpfabkokgiepaaQ07
set_option linter.unusedSimpArgs false
set_option linter.unusedVariables false
set_option maxHeartbeats 8000000
open Pl
section
namespace Go.Proofs.Ytcpfabkokgiepaa
open Go.RowKit Pl
theorem run_pair0 (v : Vec) (w : World) :
 Calls Try.prog 77 #[.int .i64 64892, .agg (mY v)] w fun e w' => e = .returned (.tuple #[.agg (mY (mJ 0 16 (pZ true 8 v) 8)), .int .i64 0]) ∧ Below w.heap.size w w' := by
 go_enter Try.func77, Try.ntmps77
 go_wp2_with fail
 rw [← mU]
 obtain ⟨W, hW, hB, hR, hO, hZ⟩ := zA w v
 rw [← hW]
 clear hW
 refine wp_loop_rounds 4 ?_
 iterate 4 (rw [rounds_succ]; go_wp2_with fail)
 refine wp_loop_rounds 1 ?_
 iterate 1 (rw [rounds_succ]; go_wp2_with fail)
 go_loopw [14] (fun j wr => ∃ k : Nat, k ≤ 8 ∧ j = .int .i64 k ∧ St W (w.heap.size + 2) (mJ 0 16 (pZ true 8 v) k) wr) (fun j _ => 8 - (intOf j).toNat)
 case atStart => exact xE
 case round =>
  obtain ⟨k, hk, rfl, hs⟩ := hrel
  by_cases hlt : k < 8
  ·have hk0 : (0 : Int) ≤ (k : Int) := Int.natCast_nonneg _
   have e1 : IntKind.i64.wrap (2 * (k : Int)) = 2 * k := IntWalk.i64_in _ (by omega)
   have e2 : IntKind.i64.wrap (2 * (k : Int) + 1) = 2 * k + 1 := IntWalk.i64_in _ (by omega)
   go_wp2_with fail
   refine mN (St W (w.heap.size + 2) (mJ 0 16 (pZ true 8 v) k)) 24 (by kernel_rfl) (by kernel_rfl) hs.drew ?_
   simp only [zP, zN, zM, zL]
   repeat (first | (refine zK rfl _ rfl _ rfl _ (fun u hS => hS.this) ?_) | (refine zK rfl _ rfl _ rfl _ (fun u hS => hS.kb.get hB (by omega)) ?_) | (refine z8 ?_) | (refine zZ (.int .i64 (vS true 8 v (2 * k))) 87 (c := fun u hS => by exact rlane8 v (2 * k) _ true _ (by omega) (by omega)) (r := ?_)) | (refine zZ (.int .i64 (vS true 8 v (2 * k + 1))) 87 (c := fun u hS => by exact rlane8 v (2 * k + 1) _ true _ (by omega) (by omega)) (r := ?_)) | (refine zZ (.agg (mY (t7 (mJ 0 16 (pZ true 8 v) k) 16 k (pZ true 8 v k)))) 68 (c := fun u hS => by exact v4 _ _ _ k (pZ true 8 v k) _ rfl (rpair 8 v k true (by decide) (by decide)) (by omega) (pair_lt 8 v k true (by decide))) (r := ?_)))
   refine mH (fun wq hq => ?_)
   clear e1 e2
   go_wp2_with ((with_reducible refine mK rfl _ _ rfl (w.heap.size + 2) _ rfl rfl _ hq.this ?_; intro wz hz))
   go_roundw
   case rel => exact xA
   case measure => exact xL
  ·exact nW
theorem run_pair1 (v : Vec) (w : World) :
 Calls Try.prog 77 #[.int .i64 64893, .agg (mY v)] w fun e w' => e = .returned (.tuple #[.agg (mY (mJ 0 16 (pZ false 8 v) 8)), .int .i64 0]) ∧ Below w.heap.size w w' := by
 go_enter Try.func77, Try.ntmps77
 go_wp2_with fail
 rw [← mU]
 obtain ⟨W, hW, hB, hR, hO, hZ⟩ := zA w v
 rw [← hW]
 clear hW
 refine wp_loop_rounds 4 ?_
 iterate 4 (rw [rounds_succ]; go_wp2_with fail)
 refine wp_loop_rounds 2 ?_
 iterate 2 (rw [rounds_succ]; go_wp2_with fail)
 go_loopw [14] (fun j wr => ∃ k : Nat, k ≤ 8 ∧ j = .int .i64 k ∧ St W (w.heap.size + 2) (mJ 0 16 (pZ false 8 v) k) wr) (fun j _ => 8 - (intOf j).toNat)
 case atStart => exact xE
 case round =>
  obtain ⟨k, hk, rfl, hs⟩ := hrel
  by_cases hlt : k < 8
  ·have hk0 : (0 : Int) ≤ (k : Int) := Int.natCast_nonneg _
   have e1 : IntKind.i64.wrap (2 * (k : Int)) = 2 * k := IntWalk.i64_in _ (by omega)
   have e2 : IntKind.i64.wrap (2 * (k : Int) + 1) = 2 * k + 1 := IntWalk.i64_in _ (by omega)
   go_wp2_with fail
   refine mN (St W (w.heap.size + 2) (mJ 0 16 (pZ false 8 v) k)) 24 (by kernel_rfl) (by kernel_rfl) hs.drew ?_
   simp only [zP, zN, zM, zL]
   repeat (first | (refine zK rfl _ rfl _ rfl _ (fun u hS => hS.this) ?_) | (refine zK rfl _ rfl _ rfl _ (fun u hS => hS.kb.get hB (by omega)) ?_) | (refine z8 ?_) | (refine zZ (.int .i64 (vS false 8 v (2 * k))) 87 (c := fun u hS => by exact rlane8 v (2 * k) _ false _ (by omega) (by omega)) (r := ?_)) | (refine zZ (.int .i64 (vS false 8 v (2 * k + 1))) 87 (c := fun u hS => by exact rlane8 v (2 * k + 1) _ false _ (by omega) (by omega)) (r := ?_)) | (refine zZ (.agg (mY (t7 (mJ 0 16 (pZ false 8 v) k) 16 k (pZ false 8 v k)))) 68 (c := fun u hS => by exact v4 _ _ _ k (pZ false 8 v k) _ rfl (rpair 8 v k false (by decide) (by decide)) (by omega) (pair_lt 8 v k false (by decide))) (r := ?_)))
   refine mH (fun wq hq => ?_)
   clear e1 e2
   go_wp2_with ((with_reducible refine mK rfl _ _ rfl (w.heap.size + 2) _ rfl rfl _ hq.this ?_; intro wz hz))
   go_roundw
   case rel => exact xA
   case measure => exact xL
  ·exact nW
theorem run_pair2 (v : Vec) (w : World) :
 Calls Try.prog 77 #[.int .i64 64894, .agg (mY v)] w fun e w' => e = .returned (.tuple #[.agg (mY (mJ 0 32 (pZ true 16 v) 4)), .int .i64 0]) ∧ Below w.heap.size w w' := by
 go_enter Try.func77, Try.ntmps77
 go_wp2_with fail
 rw [← mU]
 obtain ⟨W, hW, hB, hR, hO, hZ⟩ := zA w v
 rw [← hW]
 clear hW
 refine wp_loop_rounds 4 ?_
 iterate 4 (rw [rounds_succ]; go_wp2_with fail)
 refine wp_loop_rounds 3 ?_
 iterate 3 (rw [rounds_succ]; go_wp2_with fail)
 go_loopw [14] (fun j wr => ∃ k : Nat, k ≤ 4 ∧ j = .int .i64 k ∧ St W (w.heap.size + 2) (mJ 0 32 (pZ true 16 v) k) wr) (fun j _ => 4 - (intOf j).toNat)
 case atStart => exact xE
 case round =>
  obtain ⟨k, hk, rfl, hs⟩ := hrel
  by_cases hlt : k < 4
  ·have hk0 : (0 : Int) ≤ (k : Int) := Int.natCast_nonneg _
   have e1 : IntKind.i64.wrap (2 * (k : Int)) = 2 * k := IntWalk.i64_in _ (by omega)
   have e2 : IntKind.i64.wrap (2 * (k : Int) + 1) = 2 * k + 1 := IntWalk.i64_in _ (by omega)
   go_wp2_with fail
   refine mN (St W (w.heap.size + 2) (mJ 0 32 (pZ true 16 v) k)) 24 (by kernel_rfl) (by kernel_rfl) hs.drew ?_
   simp only [zP, zN, zM, zL]
   repeat (first | (refine zK rfl _ rfl _ rfl _ (fun u hS => hS.this) ?_) | (refine zK rfl _ rfl _ rfl _ (fun u hS => hS.kb.get hB (by omega)) ?_) | (refine z8 ?_) | (refine zZ (.int .i64 (vS true 16 v (2 * k))) 87 (c := fun u hS => by exact eV v (2 * k) _ true _ (by omega) (by omega)) (r := ?_)) | (refine zZ (.int .i64 (vS true 16 v (2 * k + 1))) 87 (c := fun u hS => by exact eV v (2 * k + 1) _ true _ (by omega) (by omega)) (r := ?_)) | (refine zZ (.agg (mY (t7 (mJ 0 32 (pZ true 16 v) k) 32 k (pZ true 16 v k)))) 68 (c := fun u hS => by exact vM _ _ _ k (pZ true 16 v k) _ rfl (rpair 16 v k true (by decide) (by decide)) (by omega) (pair_lt 16 v k true (by decide))) (r := ?_)))
   refine mH (fun wq hq => ?_)
   clear e1 e2
   go_wp2_with ((with_reducible refine mK rfl _ _ rfl (w.heap.size + 2) _ rfl rfl _ hq.this ?_; intro wz hz))
   go_roundw
   case rel => exact xA
   case measure => exact xL
  ·exact nY
theorem run_pair3 (v : Vec) (w : World) :
 Calls Try.prog 77 #[.int .i64 64895, .agg (mY v)] w fun e w' => e = .returned (.tuple #[.agg (mY (mJ 0 32 (pZ false 16 v) 4)), .int .i64 0]) ∧ Below w.heap.size w w' := by
 go_enter Try.func77, Try.ntmps77
 go_wp2_with fail
 rw [← mU]
 obtain ⟨W, hW, hB, hR, hO, hZ⟩ := zA w v
 rw [← hW]
 clear hW
 refine wp_loop_rounds 4 ?_
 iterate 4 (rw [rounds_succ]; go_wp2_with fail)
 refine wp_loop_rounds 4 ?_
 iterate 4 (rw [rounds_succ]; go_wp2_with fail)
 go_loopw [14] (fun j wr => ∃ k : Nat, k ≤ 4 ∧ j = .int .i64 k ∧ St W (w.heap.size + 2) (mJ 0 32 (pZ false 16 v) k) wr) (fun j _ => 4 - (intOf j).toNat)
 case atStart => exact xE
 case round =>
  obtain ⟨k, hk, rfl, hs⟩ := hrel
  by_cases hlt : k < 4
  ·have hk0 : (0 : Int) ≤ (k : Int) := Int.natCast_nonneg _
   have e1 : IntKind.i64.wrap (2 * (k : Int)) = 2 * k := IntWalk.i64_in _ (by omega)
   have e2 : IntKind.i64.wrap (2 * (k : Int) + 1) = 2 * k + 1 := IntWalk.i64_in _ (by omega)
   go_wp2_with fail
   refine mN (St W (w.heap.size + 2) (mJ 0 32 (pZ false 16 v) k)) 24 (by kernel_rfl) (by kernel_rfl) hs.drew ?_
   simp only [zP, zN, zM, zL]
   repeat (first | (refine zK rfl _ rfl _ rfl _ (fun u hS => hS.this) ?_) | (refine zK rfl _ rfl _ rfl _ (fun u hS => hS.kb.get hB (by omega)) ?_) | (refine z8 ?_) | (refine zZ (.int .i64 (vS false 16 v (2 * k))) 87 (c := fun u hS => by exact eV v (2 * k) _ false _ (by omega) (by omega)) (r := ?_)) | (refine zZ (.int .i64 (vS false 16 v (2 * k + 1))) 87 (c := fun u hS => by exact eV v (2 * k + 1) _ false _ (by omega) (by omega)) (r := ?_)) | (refine zZ (.agg (mY (t7 (mJ 0 32 (pZ false 16 v) k) 32 k (pZ false 16 v k)))) 68 (c := fun u hS => by exact vM _ _ _ k (pZ false 16 v k) _ rfl (rpair 16 v k false (by decide) (by decide)) (by omega) (pair_lt 16 v k false (by decide))) (r := ?_)))
   refine mH (fun wq hq => ?_)
   clear e1 e2
   go_wp2_with ((with_reducible refine mK rfl _ _ rfl (w.heap.size + 2) _ rfl rfl _ hq.this ?_; intro wz hz))
   go_roundw
   case rel => exact xA
   case measure => exact xL
  ·exact nY
end Go.Proofs.Ytcpfabkokgiepaa
end
section
namespace Go.Proofs.Ytcpfabkokgiepaa
open Go.RowKit Pl
set_option maxRecDepth 100000 in
theorem rbin_narrow101 (a b : Vec) (w : World) :
 Calls Try.prog 81 #[.int .i64 64869, .agg (mY a), .agg (mY b)] w fun e w' => e = .returned (.tuple #[.agg (mY (mJ 0 8 (tD 8 8 (-128) 127 a b) 16)), .int .i64 0]) ∧ Below w.heap.size w w' := by
 go_enter Try.func81, Try.ntmps81
 go_wp2_with fail
 rw [← mU]
 obtain ⟨W, hW, hA, hB, hR, hO, hZ⟩ := zD w a b
 rw [← hW]
 clear hW
 go_wp2_with fail
 go_loopw [12] (fun j wr => ∃ k : Nat, k ≤ 16 ∧ j = .int .i64 k ∧ St W (w.heap.size + 3) (mJ 0 8 (tD 8 8 (-128) 127 a b) k) wr) (fun j _ => 16 - (intOf j).toNat)
 case atStart => exact xE
 case round =>
  obtain ⟨k, hk, rfl, hs⟩ := hrel
  by_cases hlt : k < 8
  ·go_wp2_with (first | (with_reducible refine mG rfl _ rfl _ rfl _ (hs.kb.get hA (by omega)) ?_) | (go_at_call 73; with_reducible refine (v3 a _ k _ rfl (by omega)).mono ?_; rintro e u2 ⟨rfl, hb⟩; have hq2 := hs.below hb))
   refine mN (St W (w.heap.size + 3) (mJ 0 8 (tD 8 8 (-128) 127 a b) k)) 13 (by kernel_rfl) (by kernel_rfl) hq2.drew ?_
   simp only [zP, zN, zM, zL]
   (refine zK rfl _ rfl _ rfl _ (fun u hS => hS.this) ?_)
   repeat (first | (refine z8 ?_) | (refine z9 ?_) | (refine fZ rfl ?_; simp only [Act.put, z5, z6, z7]))
   (refine zZ (.int .u64 (tD 8 8 (-128) 127 a b k : Nat)) 89 (c := fun u hS => by exact rhold8s _ _ (tD 8 8 (-128) 127 a b k) _ rfl (rnar_a 8 8 _ _ a b k (by omega))) (r := ?_))
   (refine zZ (.agg (mY (t7 (mJ 0 8 (tD 8 8 (-128) 127 a b) k) 8 k (tD 8 8 (-128) 127 a b k)))) 68 (c := fun u hS => by exact uA _ _ _ k (tD 8 8 (-128) 127 a b k) _ rfl rfl (by omega) (tR _)) (r := ?_))
   refine mH (fun wr2 hr => ?_)
   go_wp2_with ((with_reducible refine mK rfl _ _ rfl (w.heap.size + 3) _ rfl rfl _ hr.this ?_; intro wy hy))
   go_roundw
   case rel => exact xD
   case measure => exact xL
  ·by_cases hlt2 : k < 16
   ·have e1 : IntKind.i64.wrap ((k : Int) - 8) = k - 8 := IntWalk.i64_in _ (by omega)
    go_wp2_with (first | (with_reducible refine mG rfl _ rfl _ rfl _ (hs.kb.get hA (by omega)) ?_) | (go_at_call 73; with_reducible refine (rsigned_out16 a _ k _ rfl (by omega)).mono ?_; rintro e u2 ⟨rfl, hb⟩; have hq1 := hs.below hb) | (with_reducible refine mG rfl _ rfl _ rfl _ (hq1.kb.get hB (by omega)) ?_) | (go_at_call 73; with_reducible refine (v3 b _ (k - 8) _ (by omega) (by omega)).mono ?_; rintro e u2 ⟨rfl, hb2⟩; have hq2 := hq1.below hb2))
    refine mN (St W (w.heap.size + 3) (mJ 0 8 (tD 8 8 (-128) 127 a b) k)) 13 (by kernel_rfl) (by kernel_rfl) hq2.drew ?_
    simp only [zP, zN, zM, zL]
    (refine zK rfl _ rfl _ rfl _ (fun u hS => hS.this) ?_)
    repeat (first | (refine z8 ?_) | (refine z9 ?_) | (refine fZ rfl ?_; simp only [Act.put, z5, z6, z7]))
    (refine zZ (.int .u64 (tD 8 8 (-128) 127 a b k : Nat)) 89 (c := fun u hS => by exact rhold8s _ _ (tD 8 8 (-128) 127 a b k) _ rfl (rnar_b 8 8 _ _ a b k (by omega))) (r := ?_))
    (refine zZ (.agg (mY (t7 (mJ 0 8 (tD 8 8 (-128) 127 a b) k) 8 k (tD 8 8 (-128) 127 a b k)))) 68 (c := fun u hS => by exact uA _ _ _ k (tD 8 8 (-128) 127 a b k) _ rfl rfl (by omega) (tR _)) (r := ?_))
    refine mH (fun wr2 hr => ?_)
    go_wp2_with ((with_reducible refine mK rfl _ _ rfl (w.heap.size + 3) _ rfl rfl _ hr.this ?_; intro wy hy))
    go_roundw
    case rel => exact xD
    case measure => exact xL
   ·obtain rfl : k = 16 := by omega
    exact xP
set_option maxRecDepth 100000 in
theorem rbin_narrow102 (a b : Vec) (w : World) :
 Calls Try.prog 81 #[.int .i64 64870, .agg (mY a), .agg (mY b)] w fun e w' => e = .returned (.tuple #[.agg (mY (mJ 0 8 (tD 8 8 (0) 255 a b) 16)), .int .i64 0]) ∧ Below w.heap.size w w' := by
 go_enter Try.func81, Try.ntmps81
 go_wp2_with fail
 rw [← mU]
 obtain ⟨W, hW, hA, hB, hR, hO, hZ⟩ := zD w a b
 rw [← hW]
 clear hW
 go_wp2_with fail
 go_loopw [12] (fun j wr => ∃ k : Nat, k ≤ 16 ∧ j = .int .i64 k ∧ St W (w.heap.size + 3) (mJ 0 8 (tD 8 8 (0) 255 a b) k) wr) (fun j _ => 16 - (intOf j).toNat)
 case atStart => exact xE
 case round =>
  obtain ⟨k, hk, rfl, hs⟩ := hrel
  by_cases hlt : k < 8
  ·go_wp2_with (first | (with_reducible refine mG rfl _ rfl _ rfl _ (hs.kb.get hA (by omega)) ?_) | (go_at_call 73; with_reducible refine (v3 a _ k _ rfl (by omega)).mono ?_; rintro e u2 ⟨rfl, hb⟩; have hq2 := hs.below hb))
   refine mN (St W (w.heap.size + 3) (mJ 0 8 (tD 8 8 (0) 255 a b) k)) 13 (by kernel_rfl) (by kernel_rfl) hq2.drew ?_
   simp only [zP, zN, zM, zL]
   (refine zK rfl _ rfl _ rfl _ (fun u hS => hS.this) ?_)
   repeat (first | (refine z8 ?_) | (refine z9 ?_) | (refine fZ rfl ?_; simp only [Act.put, z5, z6, z7]))
   (refine zZ (.int .u64 (tD 8 8 (0) 255 a b k : Nat)) 89 (c := fun u hS => by exact rhold8u _ _ (tD 8 8 (0) 255 a b k) _ rfl (rnar_a 8 8 _ _ a b k (by omega))) (r := ?_))
   (refine zZ (.agg (mY (t7 (mJ 0 8 (tD 8 8 (0) 255 a b) k) 8 k (tD 8 8 (0) 255 a b k)))) 68 (c := fun u hS => by exact uA _ _ _ k (tD 8 8 (0) 255 a b k) _ rfl rfl (by omega) (tR _)) (r := ?_))
   refine mH (fun wr2 hr => ?_)
   go_wp2_with ((with_reducible refine mK rfl _ _ rfl (w.heap.size + 3) _ rfl rfl _ hr.this ?_; intro wy hy))
   go_roundw
   case rel => exact xD
   case measure => exact xL
  ·by_cases hlt2 : k < 16
   ·have e1 : IntKind.i64.wrap ((k : Int) - 8) = k - 8 := IntWalk.i64_in _ (by omega)
    go_wp2_with (first | (with_reducible refine mG rfl _ rfl _ rfl _ (hs.kb.get hA (by omega)) ?_) | (go_at_call 73; with_reducible refine (rsigned_out16 a _ k _ rfl (by omega)).mono ?_; rintro e u2 ⟨rfl, hb⟩; have hq1 := hs.below hb) | (with_reducible refine mG rfl _ rfl _ rfl _ (hq1.kb.get hB (by omega)) ?_) | (go_at_call 73; with_reducible refine (v3 b _ (k - 8) _ (by omega) (by omega)).mono ?_; rintro e u2 ⟨rfl, hb2⟩; have hq2 := hq1.below hb2))
    refine mN (St W (w.heap.size + 3) (mJ 0 8 (tD 8 8 (0) 255 a b) k)) 13 (by kernel_rfl) (by kernel_rfl) hq2.drew ?_
    simp only [zP, zN, zM, zL]
    (refine zK rfl _ rfl _ rfl _ (fun u hS => hS.this) ?_)
    repeat (first | (refine z8 ?_) | (refine z9 ?_) | (refine fZ rfl ?_; simp only [Act.put, z5, z6, z7]))
    (refine zZ (.int .u64 (tD 8 8 (0) 255 a b k : Nat)) 89 (c := fun u hS => by exact rhold8u _ _ (tD 8 8 (0) 255 a b k) _ rfl (rnar_b 8 8 _ _ a b k (by omega))) (r := ?_))
    (refine zZ (.agg (mY (t7 (mJ 0 8 (tD 8 8 (0) 255 a b) k) 8 k (tD 8 8 (0) 255 a b k)))) 68 (c := fun u hS => by exact uA _ _ _ k (tD 8 8 (0) 255 a b k) _ rfl rfl (by omega) (tR _)) (r := ?_))
    refine mH (fun wr2 hr => ?_)
    go_wp2_with ((with_reducible refine mK rfl _ _ rfl (w.heap.size + 3) _ rfl rfl _ hr.this ?_; intro wy hy))
    go_roundw
    case rel => exact xD
    case measure => exact xL
   ·obtain rfl : k = 16 := by omega
    exact xP
set_option maxRecDepth 100000 in
theorem rbin_narrow133 (a b : Vec) (w : World) :
 Calls Try.prog 81 #[.int .i64 64901, .agg (mY a), .agg (mY b)] w fun e w' => e = .returned (.tuple #[.agg (mY (mJ 0 16 (tD 16 4 (-32768) 32767 a b) 8)), .int .i64 0]) ∧ Below w.heap.size w w' := by
 go_enter Try.func81, Try.ntmps81
 go_wp2_with fail
 rw [← mU]
 obtain ⟨W, hW, hA, hB, hR, hO, hZ⟩ := zD w a b
 rw [← hW]
 clear hW
 go_wp2_with fail
 go_loopw [12] (fun j wr => ∃ k : Nat, k ≤ 8 ∧ j = .int .i64 k ∧ St W (w.heap.size + 3) (mJ 0 16 (tD 16 4 (-32768) 32767 a b) k) wr) (fun j _ => 8 - (intOf j).toNat)
 case atStart => exact xE
 case round =>
  obtain ⟨k, hk, rfl, hs⟩ := hrel
  by_cases hlt : k < 4
  ·go_wp2_with (first | (with_reducible refine mG rfl _ rfl _ rfl _ (hs.kb.get hA (by omega)) ?_) | (go_at_call 73; with_reducible refine (rY a _ k _ rfl (by omega)).mono ?_; rintro e u2 ⟨rfl, hb⟩; have hq2 := hs.below hb))
   refine mN (St W (w.heap.size + 3) (mJ 0 16 (tD 16 4 (-32768) 32767 a b) k)) 13 (by kernel_rfl) (by kernel_rfl) hq2.drew ?_
   simp only [zP, zN, zM, zL]
   (refine zK rfl _ rfl _ rfl _ (fun u hS => hS.this) ?_)
   repeat (first | (refine z8 ?_) | (refine z9 ?_) | (refine fZ rfl ?_; simp only [Act.put, z5, z6, z7]))
   (refine zZ (.int .u64 (tD 16 4 (-32768) 32767 a b k : Nat)) 89 (c := fun u hS => by exact rhold16s _ _ (tD 16 4 (-32768) 32767 a b k) _ rfl (rnar_a 16 4 _ _ a b k (by omega))) (r := ?_))
   (refine zZ (.agg (mY (t7 (mJ 0 16 (tD 16 4 (-32768) 32767 a b) k) 16 k (tD 16 4 (-32768) 32767 a b k)))) 68 (c := fun u hS => by exact v4 _ _ _ k (tD 16 4 (-32768) 32767 a b k) _ rfl rfl (by omega) (tR _)) (r := ?_))
   refine mH (fun wr2 hr => ?_)
   go_wp2_with ((with_reducible refine mK rfl _ _ rfl (w.heap.size + 3) _ rfl rfl _ hr.this ?_; intro wy hy))
   go_roundw
   case rel => exact xD
   case measure => exact xL
  ·by_cases hlt2 : k < 8
   ·have e1 : IntKind.i64.wrap ((k : Int) - 4) = k - 4 := IntWalk.i64_in _ (by omega)
    go_wp2_with (first | (with_reducible refine mG rfl _ rfl _ rfl _ (hs.kb.get hA (by omega)) ?_) | (go_at_call 73; with_reducible refine (rsigned_out32 a _ k _ rfl (by omega)).mono ?_; rintro e u2 ⟨rfl, hb⟩; have hq1 := hs.below hb) | (with_reducible refine mG rfl _ rfl _ rfl _ (hq1.kb.get hB (by omega)) ?_) | (go_at_call 73; with_reducible refine (rY b _ (k - 4) _ (by omega) (by omega)).mono ?_; rintro e u2 ⟨rfl, hb2⟩; have hq2 := hq1.below hb2))
    refine mN (St W (w.heap.size + 3) (mJ 0 16 (tD 16 4 (-32768) 32767 a b) k)) 13 (by kernel_rfl) (by kernel_rfl) hq2.drew ?_
    simp only [zP, zN, zM, zL]
    (refine zK rfl _ rfl _ rfl _ (fun u hS => hS.this) ?_)
    repeat (first | (refine z8 ?_) | (refine z9 ?_) | (refine fZ rfl ?_; simp only [Act.put, z5, z6, z7]))
    (refine zZ (.int .u64 (tD 16 4 (-32768) 32767 a b k : Nat)) 89 (c := fun u hS => by exact rhold16s _ _ (tD 16 4 (-32768) 32767 a b k) _ rfl (rnar_b 16 4 _ _ a b k (by omega))) (r := ?_))
    (refine zZ (.agg (mY (t7 (mJ 0 16 (tD 16 4 (-32768) 32767 a b) k) 16 k (tD 16 4 (-32768) 32767 a b k)))) 68 (c := fun u hS => by exact v4 _ _ _ k (tD 16 4 (-32768) 32767 a b k) _ rfl rfl (by omega) (tR _)) (r := ?_))
    refine mH (fun wr2 hr => ?_)
    go_wp2_with ((with_reducible refine mK rfl _ _ rfl (w.heap.size + 3) _ rfl rfl _ hr.this ?_; intro wy hy))
    go_roundw
    case rel => exact xD
    case measure => exact xL
   ·exact nN
set_option maxRecDepth 100000 in
theorem rbin_narrow134 (a b : Vec) (w : World) :
 Calls Try.prog 81 #[.int .i64 64902, .agg (mY a), .agg (mY b)] w fun e w' => e = .returned (.tuple #[.agg (mY (mJ 0 16 (tD 16 4 (0) 65535 a b) 8)), .int .i64 0]) ∧ Below w.heap.size w w' := by
 go_enter Try.func81, Try.ntmps81
 go_wp2_with fail
 rw [← mU]
 obtain ⟨W, hW, hA, hB, hR, hO, hZ⟩ := zD w a b
 rw [← hW]
 clear hW
 go_wp2_with fail
 go_loopw [12] (fun j wr => ∃ k : Nat, k ≤ 8 ∧ j = .int .i64 k ∧ St W (w.heap.size + 3) (mJ 0 16 (tD 16 4 (0) 65535 a b) k) wr) (fun j _ => 8 - (intOf j).toNat)
 case atStart => exact xE
 case round =>
  obtain ⟨k, hk, rfl, hs⟩ := hrel
  by_cases hlt : k < 4
  ·go_wp2_with (first | (with_reducible refine mG rfl _ rfl _ rfl _ (hs.kb.get hA (by omega)) ?_) | (go_at_call 73; with_reducible refine (rY a _ k _ rfl (by omega)).mono ?_; rintro e u2 ⟨rfl, hb⟩; have hq2 := hs.below hb))
   refine mN (St W (w.heap.size + 3) (mJ 0 16 (tD 16 4 (0) 65535 a b) k)) 13 (by kernel_rfl) (by kernel_rfl) hq2.drew ?_
   simp only [zP, zN, zM, zL]
   (refine zK rfl _ rfl _ rfl _ (fun u hS => hS.this) ?_)
   repeat (first | (refine z8 ?_) | (refine z9 ?_) | (refine fZ rfl ?_; simp only [Act.put, z5, z6, z7]))
   (refine zZ (.int .u64 (tD 16 4 (0) 65535 a b k : Nat)) 89 (c := fun u hS => by exact rhold16u _ _ (tD 16 4 (0) 65535 a b k) _ rfl (rnar_a 16 4 _ _ a b k (by omega))) (r := ?_))
   (refine zZ (.agg (mY (t7 (mJ 0 16 (tD 16 4 (0) 65535 a b) k) 16 k (tD 16 4 (0) 65535 a b k)))) 68 (c := fun u hS => by exact v4 _ _ _ k (tD 16 4 (0) 65535 a b k) _ rfl rfl (by omega) (tR _)) (r := ?_))
   refine mH (fun wr2 hr => ?_)
   go_wp2_with ((with_reducible refine mK rfl _ _ rfl (w.heap.size + 3) _ rfl rfl _ hr.this ?_; intro wy hy))
   go_roundw
   case rel => exact xD
   case measure => exact xL
  ·by_cases hlt2 : k < 8
   ·have e1 : IntKind.i64.wrap ((k : Int) - 4) = k - 4 := IntWalk.i64_in _ (by omega)
    go_wp2_with (first | (with_reducible refine mG rfl _ rfl _ rfl _ (hs.kb.get hA (by omega)) ?_) | (go_at_call 73; with_reducible refine (rsigned_out32 a _ k _ rfl (by omega)).mono ?_; rintro e u2 ⟨rfl, hb⟩; have hq1 := hs.below hb) | (with_reducible refine mG rfl _ rfl _ rfl _ (hq1.kb.get hB (by omega)) ?_) | (go_at_call 73; with_reducible refine (rY b _ (k - 4) _ (by omega) (by omega)).mono ?_; rintro e u2 ⟨rfl, hb2⟩; have hq2 := hq1.below hb2))
    refine mN (St W (w.heap.size + 3) (mJ 0 16 (tD 16 4 (0) 65535 a b) k)) 13 (by kernel_rfl) (by kernel_rfl) hq2.drew ?_
    simp only [zP, zN, zM, zL]
    (refine zK rfl _ rfl _ rfl _ (fun u hS => hS.this) ?_)
    repeat (first | (refine z8 ?_) | (refine z9 ?_) | (refine fZ rfl ?_; simp only [Act.put, z5, z6, z7]))
    (refine zZ (.int .u64 (tD 16 4 (0) 65535 a b k : Nat)) 89 (c := fun u hS => by exact rhold16u _ _ (tD 16 4 (0) 65535 a b k) _ rfl (rnar_b 16 4 _ _ a b k (by omega))) (r := ?_))
    (refine zZ (.agg (mY (t7 (mJ 0 16 (tD 16 4 (0) 65535 a b) k) 16 k (tD 16 4 (0) 65535 a b k)))) 68 (c := fun u hS => by exact v4 _ _ _ k (tD 16 4 (0) 65535 a b k) _ rfl rfl (by omega) (tR _)) (r := ?_))
    refine mH (fun wr2 hr => ?_)
    go_wp2_with ((with_reducible refine mK rfl _ _ rfl (w.heap.size + 3) _ rfl rfl _ hr.this ?_; intro wy hy))
    go_roundw
    case rel => exact xD
    case measure => exact xL
   ·exact nN
end Go.Proofs.Ytcpfabkokgiepaa
end
section
namespace Go.Proofs.Ytcpfabkokgiepaa
open Go.RowKit Pl
set_option maxRecDepth 100000 in
theorem rbin_dot (a b : Vec) (w : World) :
 Calls Try.prog 81 #[.int .i64 64954, .agg (mY a), .agg (mY b)] w fun e w' => e = .returned (.tuple #[.agg (mY (rdot a b 8)), .int .i64 0]) ∧ Below w.heap.size w w' := by
 go_enter Try.func81, Try.ntmps81
 go_wp2_with fail
 rw [← mU]
 obtain ⟨W, hW, hA, hB, hR, hO, hZ⟩ := zD w a b
 rw [← hW]
 clear hW
 go_wp2_with fail
 go_loopw [17] (fun j wr => ∃ k : Nat, k ≤ 8 ∧ j = .int .i64 k ∧ St W (w.heap.size + 3) (rdot a b k) wr) (fun j _ => 8 - (intOf j).toNat)
 case atStart => exact xE
 case round =>
  obtain ⟨k, hk, rfl, hs⟩ := hrel
  by_cases hlt : k < 8
  ·have e1 : IntKind.i64.wrap ((k : Int) / 2) = ((k / 2 : Nat) : Int) := by rw [IntWalk.i64_in _ (by omega)]; omega
   go_wp2_with fail
   refine mN (St W (w.heap.size + 3) (rdot a b k)) 13 (by kernel_rfl) (by kernel_rfl) hs.drew ?_
   simp only [zP, zN, zM, zL]
   (refine zK rfl _ rfl _ rfl _ (fun u hS => hS.this) ?_)
   repeat (refine z8 ?_)
   (refine zZ (.int .u64 (mT (rdot a b k) 32 (k / 2) : Nat)) 74 (c := fun u hS => by exact vL _ _ (k / 2) _ (by omega) (by omega)) (r := ?_))
   (refine zK rfl _ rfl _ rfl _ (fun u hS => hS.kb.get hA (by omega)) ?_)
   repeat (refine z8 ?_)
   (refine zZ (.int .i64 (sgn 16 (mT a 16 (k)))) 73 (c := fun u hS => by exact v3 a _ k _ rfl (by omega)) (r := ?_))
   (refine zK rfl _ rfl _ rfl _ (fun u hS => hS.kb.get hB (by omega)) ?_)
   repeat (refine z8 ?_)
   (refine zZ (.int .i64 (sgn 16 (mT b 16 (k)))) 73 (c := fun u hS => by exact v3 b _ k _ rfl (by omega)) (r := ?_))
   repeat (refine z8 ?_)
   refine mH (fun wq hq => ?_)
   have Hv := Lib.hid (rdot_wrap a b (rdot a b k) k)
   have E1 := Lib.hid e1
   clear e1
   go_wp2_with (first | (with_reducible refine mG rfl _ rfl _ rfl _ hq.this ?_) | (go_at_call 68; refine (vM _ _ _ (k / 2) (rdot.rdN a b (rdot a b k) k) _ (by omega) Hv.out (by omega) (Nat.mod_lt _ (by decide))).mono ?_; rintro e u2 ⟨rfl, hb⟩; have hq2 := hq.below hb) | (with_reducible refine mK rfl _ _ rfl (w.heap.size + 3) _ rfl rfl _ hq2.this ?_; intro wz hz))
   go_roundw
   case rel => first | exact ⟨k + 1, by omega, by go_num, hq2.sets hz⟩ | ((repeat apply Exists.intro); exact ⟨⟨k + 1, by omega, by go_num, hq2.sets hz⟩, rfl⟩)
   case measure => exact xL
  ·exact nN
end Go.Proofs.Ytcpfabkokgiepaa
end
