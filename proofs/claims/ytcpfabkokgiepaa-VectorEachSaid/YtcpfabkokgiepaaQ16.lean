/-
  Texts WidN.
-/
import Derived.Test.YtcpfabkokgiepaaQ05
set_option linter.unusedSimpArgs false
set_option linter.unusedVariables false
set_option maxHeartbeats 8000000
open Pl
namespace Go.Proofs.Ytcpfabkokgiepaa
open Go.RowKit Pl
theorem narrow101 (a b : Vec) (w : World) :
 Calls Try.prog 58 #[.int .i64 101, .agg (mY a), .agg (mY b)] w fun e w' => e = .returned (.agg (mY (pW 8 8 (tZ (-128) 127 16 a) (tZ (-128) 127 16 b) 8))) ∧ Below w.heap.size w w' := by
 go_enter Try.func58, Try.ntmps58
 go_wp2_with fail
 go_region
 go_wp2_with fail
 rw [← mU]
 obtain ⟨W, hW, hA, hB, hR, hO⟩ := zB w a b
 have hZ : Below w.heap.size w W := by rw [hW]; exact Below.drew (vY _ _ _ _ _)
 rw [← hW]
 clear hW
 go_loopw [29] (fun j wr => ∃ k : Nat, k ≤ 8 ∧ j = .int .i64 k ∧ St W (w.heap.size + 3) (pW 8 8 (tZ (-128) 127 16 a) (tZ (-128) 127 16 b) k) wr) (fun j _ => 8 - (intOf j).toNat)
 case atStart => exact xE
 case round =>
  obtain ⟨k, hk, rfl, hs⟩ := hrel
  by_cases hlt : k < 8
  ·have e1 : IntKind.i64.wrap (8 + (k : Int)) = 8 + k := IntWalk.i64_in _ (by omega)
   have e2 : IntKind.i64.wrap 16 = 16 := IntWalk.i64_in _ (by decide)
   have e3 : IntKind.i64.wrap 8 = 8 := IntWalk.i64_in _ (by decide)
   go_wp2_with fail
   refine mN (St W (w.heap.size + 3) (pW 8 8 (tZ (-128) 127 16 a) (tZ (-128) 127 16 b) k)) 14 (by kernel_rfl) (by kernel_rfl) hs.drew ?_
   simp only [zP, zN, zM, zL]
   repeat (first | (refine zK rfl _ rfl _ rfl _ (fun u hS => hS.this) ?_) | (refine zK rfl _ rfl _ rfl _ (fun u hS => hS.kb.get hA (by omega)) ?_) | (refine zZ (.int .i64 (sgn 16 (mT a 16 k))) 53 (c := fun u hS => by exact tB a _ k _ rfl (by omega)) (r := ?_)) | (refine zZ (.agg (mY (t7 (pW 8 8 (tZ (-128) 127 16 a) (tZ (-128) 127 16 b) k) 8 k ((tZ (-128) 127 16 a) k)))) 54 (c := fun u hS => by exact eG _ _ _ k ((tZ (-128) 127 16 a) k) _ rfl (uW _ _ _) (by omega)) (r := ?_)) | (refine z8 ?_))
   simp only [fG, fK]
   refine mH (fun wq hq => ?_)
   go_wp2_with ((with_reducible refine mK rfl _ _ rfl (w.heap.size + 3) _ rfl rfl _ hq.this ?_; intro wz hz))
   have hq2 := hq.sets hz
   refine mN (St W (w.heap.size + 3) (t7 (pW 8 8 (tZ (-128) 127 16 a) (tZ (-128) 127 16 b) k) 8 k ((tZ (-128) 127 16 a) k))) 17 (by kernel_rfl) (by kernel_rfl) hq2.drew ?_
   simp only [zP, zN, zM, zL]
   repeat (first | (refine zK rfl _ rfl _ rfl _ (fun u hS => hS.this) ?_) | (refine zK rfl _ rfl _ rfl _ (fun u hS => hS.kb.get hB (by omega)) ?_) | (refine zZ (.int .i64 (sgn 16 (mT b 16 k))) 53 (c := fun u hS => by exact tB b _ k _ rfl (by omega)) (r := ?_)) | (refine zZ (.agg (mY (t7 (t7 (pW 8 8 (tZ (-128) 127 16 a) (tZ (-128) 127 16 b) k) 8 k ((tZ (-128) 127 16 a) k)) 8 (8 + k) ((tZ (-128) 127 16 b) k)))) 54 (c := fun u hS => by exact eG _ _ _ (8 + k) ((tZ (-128) 127 16 b) k) _ rfl (uW _ _ _) (by omega)) (r := ?_)) | (refine z8 ?_))
   simp only [fG, fK]
   refine mH (fun wr2 hr => ?_)
   clear e1 e2 e3
   go_wp2_with ((with_reducible refine mK rfl _ _ rfl (w.heap.size + 3) _ rfl rfl _ hr.this ?_; intro wy hy))
   go_roundw
   case rel => exact jN
   case measure => exact xL
  ·obtain rfl : k = 8 := by omega
   exact yQ
theorem narrow102 (a b : Vec) (w : World) :
 Calls Try.prog 58 #[.int .i64 102, .agg (mY a), .agg (mY b)] w fun e w' => e = .returned (.agg (mY (pW 8 8 (tZ (0) 255 16 a) (tZ (0) 255 16 b) 8))) ∧ Below w.heap.size w w' := by
 go_enter Try.func58, Try.ntmps58
 go_wp2_with fail
 go_region
 go_wp2_with fail
 go_region
 go_wp2_with fail
 rw [← mU]
 obtain ⟨W, hW, hA, hB, hR, hO⟩ := xZ w a b
 have hZ : Below w.heap.size w W := by rw [hW]; exact Below.drew (Below.drew (vY _ _ _ _ _))
 rw [← hW]
 clear hW
 go_loopw [29] (fun j wr => ∃ k : Nat, k ≤ 8 ∧ j = .int .i64 k ∧ St W (w.heap.size + 3) (pW 8 8 (tZ (0) 255 16 a) (tZ (0) 255 16 b) k) wr) (fun j _ => 8 - (intOf j).toNat)
 case atStart => exact xE
 case round =>
  obtain ⟨k, hk, rfl, hs⟩ := hrel
  by_cases hlt : k < 8
  ·have e1 : IntKind.i64.wrap (8 + (k : Int)) = 8 + k := IntWalk.i64_in _ (by omega)
   have e2 : IntKind.i64.wrap 16 = 16 := IntWalk.i64_in _ (by decide)
   have e3 : IntKind.i64.wrap 8 = 8 := IntWalk.i64_in _ (by decide)
   go_wp2_with fail
   refine mN (St W (w.heap.size + 3) (pW 8 8 (tZ (0) 255 16 a) (tZ (0) 255 16 b) k)) 14 (by kernel_rfl) (by kernel_rfl) hs.drew ?_
   simp only [zP, zN, zM, zL]
   repeat (first | (refine zK rfl _ rfl _ rfl _ (fun u hS => hS.this) ?_) | (refine zK rfl _ rfl _ rfl _ (fun u hS => hS.kb.get hA (by omega)) ?_) | (refine zZ (.int .i64 (sgn 16 (mT a 16 k))) 53 (c := fun u hS => by exact tB a _ k _ rfl (by omega)) (r := ?_)) | (refine zZ (.agg (mY (t7 (pW 8 8 (tZ (0) 255 16 a) (tZ (0) 255 16 b) k) 8 k ((tZ (0) 255 16 a) k)))) 54 (c := fun u hS => by exact eG _ _ _ k ((tZ (0) 255 16 a) k) _ rfl (uW _ _ _) (by omega)) (r := ?_)) | (refine z8 ?_))
   simp only [fG, fK]
   refine mH (fun wq hq => ?_)
   go_wp2_with ((with_reducible refine mK rfl _ _ rfl (w.heap.size + 3) _ rfl rfl _ hq.this ?_; intro wz hz))
   have hq2 := hq.sets hz
   refine mN (St W (w.heap.size + 3) (t7 (pW 8 8 (tZ (0) 255 16 a) (tZ (0) 255 16 b) k) 8 k ((tZ (0) 255 16 a) k))) 17 (by kernel_rfl) (by kernel_rfl) hq2.drew ?_
   simp only [zP, zN, zM, zL]
   repeat (first | (refine zK rfl _ rfl _ rfl _ (fun u hS => hS.this) ?_) | (refine zK rfl _ rfl _ rfl _ (fun u hS => hS.kb.get hB (by omega)) ?_) | (refine zZ (.int .i64 (sgn 16 (mT b 16 k))) 53 (c := fun u hS => by exact tB b _ k _ rfl (by omega)) (r := ?_)) | (refine zZ (.agg (mY (t7 (t7 (pW 8 8 (tZ (0) 255 16 a) (tZ (0) 255 16 b) k) 8 k ((tZ (0) 255 16 a) k)) 8 (8 + k) ((tZ (0) 255 16 b) k)))) 54 (c := fun u hS => by exact eG _ _ _ (8 + k) ((tZ (0) 255 16 b) k) _ rfl (uW _ _ _) (by omega)) (r := ?_)) | (refine z8 ?_))
   simp only [fG, fK]
   refine mH (fun wr2 hr => ?_)
   clear e1 e2 e3
   go_wp2_with ((with_reducible refine mK rfl _ _ rfl (w.heap.size + 3) _ rfl rfl _ hr.this ?_; intro wy hy))
   go_roundw
   case rel => exact jN
   case measure => exact xL
  ·obtain rfl : k = 8 := by omega
   exact yQ
theorem narrow133 (a b : Vec) (w : World) :
 Calls Try.prog 58 #[.int .i64 133, .agg (mY a), .agg (mY b)] w fun e w' => e = .returned (.agg (mY (pW 16 4 (tZ (-32768) 32767 32 a) (tZ (-32768) 32767 32 b) 4))) ∧ Below w.heap.size w w' := by
 go_enter Try.func58, Try.ntmps58
 go_wp2_with fail
 go_region
 go_wp2_with fail
 rw [← mU]
 obtain ⟨W, hW, hA, hB, hR, hO⟩ := zB w a b
 have hZ : Below w.heap.size w W := by rw [hW]; exact Below.drew (vY _ _ _ _ _)
 rw [← hW]
 clear hW
 go_loopw [29] (fun j wr => ∃ k : Nat, k ≤ 4 ∧ j = .int .i64 k ∧ St W (w.heap.size + 3) (pW 16 4 (tZ (-32768) 32767 32 a) (tZ (-32768) 32767 32 b) k) wr) (fun j _ => 4 - (intOf j).toNat)
 case atStart => exact xE
 case round =>
  obtain ⟨k, hk, rfl, hs⟩ := hrel
  by_cases hlt : k < 4
  ·have e1 : IntKind.i64.wrap (4 + (k : Int)) = 4 + k := IntWalk.i64_in _ (by omega)
   have e2 : IntKind.i64.wrap 32 = 32 := IntWalk.i64_in _ (by decide)
   have e3 : IntKind.i64.wrap 4 = 4 := IntWalk.i64_in _ (by decide)
   go_wp2_with fail
   refine mN (St W (w.heap.size + 3) (pW 16 4 (tZ (-32768) 32767 32 a) (tZ (-32768) 32767 32 b) k)) 14 (by kernel_rfl) (by kernel_rfl) hs.drew ?_
   simp only [zP, zN, zM, zL]
   repeat (first | (refine zK rfl _ rfl _ rfl _ (fun u hS => hS.this) ?_) | (refine zK rfl _ rfl _ rfl _ (fun u hS => hS.kb.get hA (by omega)) ?_) | (refine zZ (.int .i64 (sgn 32 (mT a 32 k))) 53 (c := fun u hS => by exact v9 a _ k _ rfl (by omega)) (r := ?_)) | (refine zZ (.agg (mY (t7 (pW 16 4 (tZ (-32768) 32767 32 a) (tZ (-32768) 32767 32 b) k) 16 k ((tZ (-32768) 32767 32 a) k)))) 54 (c := fun u hS => by exact rN _ _ _ k ((tZ (-32768) 32767 32 a) k) _ rfl (uW _ _ _) (by omega)) (r := ?_)) | (refine z8 ?_))
   simp only [fG, fK]
   refine mH (fun wq hq => ?_)
   go_wp2_with ((with_reducible refine mK rfl _ _ rfl (w.heap.size + 3) _ rfl rfl _ hq.this ?_; intro wz hz))
   have hq2 := hq.sets hz
   refine mN (St W (w.heap.size + 3) (t7 (pW 16 4 (tZ (-32768) 32767 32 a) (tZ (-32768) 32767 32 b) k) 16 k ((tZ (-32768) 32767 32 a) k))) 17 (by kernel_rfl) (by kernel_rfl) hq2.drew ?_
   simp only [zP, zN, zM, zL]
   repeat (first | (refine zK rfl _ rfl _ rfl _ (fun u hS => hS.this) ?_) | (refine zK rfl _ rfl _ rfl _ (fun u hS => hS.kb.get hB (by omega)) ?_) | (refine zZ (.int .i64 (sgn 32 (mT b 32 k))) 53 (c := fun u hS => by exact v9 b _ k _ rfl (by omega)) (r := ?_)) | (refine zZ (.agg (mY (t7 (t7 (pW 16 4 (tZ (-32768) 32767 32 a) (tZ (-32768) 32767 32 b) k) 16 k ((tZ (-32768) 32767 32 a) k)) 16 (4 + k) ((tZ (-32768) 32767 32 b) k)))) 54 (c := fun u hS => by exact rN _ _ _ (4 + k) ((tZ (-32768) 32767 32 b) k) _ rfl (uW _ _ _) (by omega)) (r := ?_)) | (refine z8 ?_))
   simp only [fG, fK]
   refine mH (fun wr2 hr => ?_)
   clear e1 e2 e3
   go_wp2_with ((with_reducible refine mK rfl _ _ rfl (w.heap.size + 3) _ rfl rfl _ hr.this ?_; intro wy hy))
   go_roundw
   case rel => exact jN
   case measure => exact xL
  ·obtain rfl : k = 4 := by omega
   exact yQ
theorem narrow134 (a b : Vec) (w : World) :
 Calls Try.prog 58 #[.int .i64 134, .agg (mY a), .agg (mY b)] w fun e w' => e = .returned (.agg (mY (pW 16 4 (tZ (0) 65535 32 a) (tZ (0) 65535 32 b) 4))) ∧ Below w.heap.size w w' := by
 go_enter Try.func58, Try.ntmps58
 go_wp2_with fail
 go_region
 go_wp2_with fail
 go_region
 go_wp2_with fail
 rw [← mU]
 obtain ⟨W, hW, hA, hB, hR, hO⟩ := xZ w a b
 have hZ : Below w.heap.size w W := by rw [hW]; exact Below.drew (Below.drew (vY _ _ _ _ _))
 rw [← hW]
 clear hW
 go_loopw [29] (fun j wr => ∃ k : Nat, k ≤ 4 ∧ j = .int .i64 k ∧ St W (w.heap.size + 3) (pW 16 4 (tZ (0) 65535 32 a) (tZ (0) 65535 32 b) k) wr) (fun j _ => 4 - (intOf j).toNat)
 case atStart => exact xE
 case round =>
  obtain ⟨k, hk, rfl, hs⟩ := hrel
  by_cases hlt : k < 4
  ·have e1 : IntKind.i64.wrap (4 + (k : Int)) = 4 + k := IntWalk.i64_in _ (by omega)
   have e2 : IntKind.i64.wrap 32 = 32 := IntWalk.i64_in _ (by decide)
   have e3 : IntKind.i64.wrap 4 = 4 := IntWalk.i64_in _ (by decide)
   go_wp2_with fail
   refine mN (St W (w.heap.size + 3) (pW 16 4 (tZ (0) 65535 32 a) (tZ (0) 65535 32 b) k)) 14 (by kernel_rfl) (by kernel_rfl) hs.drew ?_
   simp only [zP, zN, zM, zL]
   repeat (first | (refine zK rfl _ rfl _ rfl _ (fun u hS => hS.this) ?_) | (refine zK rfl _ rfl _ rfl _ (fun u hS => hS.kb.get hA (by omega)) ?_) | (refine zZ (.int .i64 (sgn 32 (mT a 32 k))) 53 (c := fun u hS => by exact v9 a _ k _ rfl (by omega)) (r := ?_)) | (refine zZ (.agg (mY (t7 (pW 16 4 (tZ (0) 65535 32 a) (tZ (0) 65535 32 b) k) 16 k ((tZ (0) 65535 32 a) k)))) 54 (c := fun u hS => by exact rN _ _ _ k ((tZ (0) 65535 32 a) k) _ rfl (uW _ _ _) (by omega)) (r := ?_)) | (refine z8 ?_))
   simp only [fG, fK]
   refine mH (fun wq hq => ?_)
   go_wp2_with ((with_reducible refine mK rfl _ _ rfl (w.heap.size + 3) _ rfl rfl _ hq.this ?_; intro wz hz))
   have hq2 := hq.sets hz
   refine mN (St W (w.heap.size + 3) (t7 (pW 16 4 (tZ (0) 65535 32 a) (tZ (0) 65535 32 b) k) 16 k ((tZ (0) 65535 32 a) k))) 17 (by kernel_rfl) (by kernel_rfl) hq2.drew ?_
   simp only [zP, zN, zM, zL]
   repeat (first | (refine zK rfl _ rfl _ rfl _ (fun u hS => hS.this) ?_) | (refine zK rfl _ rfl _ rfl _ (fun u hS => hS.kb.get hB (by omega)) ?_) | (refine zZ (.int .i64 (sgn 32 (mT b 32 k))) 53 (c := fun u hS => by exact v9 b _ k _ rfl (by omega)) (r := ?_)) | (refine zZ (.agg (mY (t7 (t7 (pW 16 4 (tZ (0) 65535 32 a) (tZ (0) 65535 32 b) k) 16 k ((tZ (0) 65535 32 a) k)) 16 (4 + k) ((tZ (0) 65535 32 b) k)))) 54 (c := fun u hS => by exact rN _ _ _ (4 + k) ((tZ (0) 65535 32 b) k) _ rfl (uW _ _ _) (by omega)) (r := ?_)) | (refine z8 ?_))
   simp only [fG, fK]
   refine mH (fun wr2 hr => ?_)
   clear e1 e2 e3
   go_wp2_with ((with_reducible refine mK rfl _ _ rfl (w.heap.size + 3) _ rfl rfl _ hr.this ?_; intro wy hy))
   go_roundw
   case rel => exact jN
   case measure => exact xL
  ·obtain rfl : k = 4 := by omega
   exact yQ
end Go.Proofs.Ytcpfabkokgiepaa
