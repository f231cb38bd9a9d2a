/- A part of the proof that plaittop.CoreLanes returns true. -/
import Derived.Test.YtebpijlmeemfaaaGreatDoorA01
import Derived.Test.YtebpijlmeemfaaaGreatDoorA10
import Derived.Test.YtebpijlmeemfaaaGreatDoorA12
set_option linter.all false
set_option linter.unusedSectionVars false
set_option linter.unusedSimpArgs false
set_option linter.unusedVariables false
section
namespace Go.Proofs.YtebpijlmeemfaaaGreatDoor
open Go.RowKit Pl
theorem narrow101 (a b : Vec) (w : World) :
  Calls Tryz.prog 158 #[.int .i64 101, .agg (cells a), .agg (cells b)] w fun e w' => e = .returned (.agg (cells (nbuild 8 8 (holdN (-128) 127 16 a) (holdN (-128) 127 16 b) 8))) ∧ Below w.heap.size w w' := by
 go_enter Tryz.func158, Tryz.ntmps158
 go_wp2_with fail
 go_region
 go_wp2_with fail
 rw [← cells_zero]
 obtain ⟨W, hW⟩ : ∃ W, W = (((((w.alloc (.cells (cells a) 23)).alloc (.cells (cells b) 23)).alloc (.cells (cells 0) 23)).alloc (.cells (cells 0) 23)).drew) := ⟨_, rfl⟩
 have hA : W.heap[w.heap.size]? = some (.cells (cells a) 23 (0, 0)) := by rw [hW]; exact heap_alloc4_0 _ _ _ _ _
 have hB : W.heap[w.heap.size + 1]? = some (.cells (cells b) 23 (0, 0)) := by rw [hW]; exact heap_alloc4_1 _ _ _ _ _
 have hR : W.heap[w.heap.size + 2]? = some (.cells (cells 0) 23 (0, 0)) := by rw [hW]; exact heap_alloc4_2 _ _ _ _ _
 have hO : W.heap[w.heap.size + 3]? = some (.cells (cells 0) 23 (0, 0)) := by rw [hW]; exact heap_alloc4_3 _ _ _ _ _
 have hZ : Below w.heap.size w W := by rw [hW]; exact Below.drew (below_alloc4 _ _ _ _ _)
 rw [← hW]
 clear hW
 go_loopw [29] (fun j wr => ∃ k : Nat, k ≤ 8 ∧ j = .int .i64 k ∧ St W (w.heap.size + 3) (nbuild 8 8 (holdN (-128) 127 16 a) (holdN (-128) 127 16 b) k) wr) (fun j _ => 8 - (intOf j).toNat)
 case atStart => exact ⟨0, Nat.zero_le _, rfl, St.start hO⟩
 case round =>
  obtain ⟨k, hk, rfl, hs⟩ := hrel
  by_cases hlt : k < 8
  ·have e1 : IntKind.i64.wrap (8 + (k : Int)) = 8 + k := IntWalk.i64_in _ (by omega)
   have e2 : IntKind.i64.wrap 16 = 16 := IntWalk.i64_in _ (by decide)
   have e3 : IntKind.i64.wrap 8 = 8 := IntWalk.i64_in _ (by decide)
   go_wp2_with fail
   refine region_do (St W (w.heap.size + 3) (nbuild 8 8 (holdN (-128) 127 16 a) (holdN (-128) 127 16 b) k)) 14 (by kernel_rfl) (by kernel_rfl) hs.drew ?_
   simp only [List.take_succ_cons, List.take_zero, List.drop_succ_cons, List.drop_zero]
   repeat (first | (refine do_load rfl _ rfl _ rfl _ (fun u hS => hS.this) ?_; simp only [Act.put, zqA, zqB, zqC]) | (refine do_load rfl _ rfl _ rfl _ (fun u hS => hS.kb.get hA (by omega)) ?_; simp only [Act.put, zqA, zqB, zqC]) | (refine wpD_call (v := .int .i64 (sgn 16 (getN a 16 k))) rfl 122 ?_ (fun u => ?_) (fun u hS => ?_) ?_; rotate_left 1; (focus (go_simp; (try with_reducible rfl); done)); (focus (refine (signed16z a _ k _ rfl (by omega)).mono ?_; rintro e u2 ⟨rfl, hb⟩; exact ⟨rfl, hS.below hb⟩)); simp only [Act.put, zqA, zqB, zqC]) | (refine wpD_call (v := .agg (cells (setN (nbuild 8 8 (holdN (-128) 127 16 a) (holdN (-128) 127 16 b) k) 8 k ((holdN (-128) 127 16 a) k)))) rfl 51 ?_ (fun u => ?_) (fun u hS => ?_) ?_; rotate_left 1; (focus (go_simp; (try with_reducible rfl); done)); (focus (refine (set8z _ _ _ k ((holdN (-128) 127 16 a) k) _ rfl (hold_wrap _ _ _) (by omega)).mono ?_; rintro e u2 ⟨rfl, hb⟩; exact ⟨rfl, hS.below hb⟩)); simp only [Act.put, zqA, zqB, zqC]) | (refine wpD_pure (v := ?_) rfl (fun u => ?_) ?_; rotate_left; (focus (go_simp; (try with_reducible rfl); done)); simp only [Act.put, zqA, zqB, zqC]))
   simp only [fold_max, fold_min]
   refine wpD_nil (fun wq hq => ?_)
   go_wp2_with ((with_reducible refine store_vec rfl _ _ rfl (w.heap.size + 3) _ rfl rfl _ hq.this ?_; intro wz hz))
   have hq2 := hq.sets hz
   refine region_do (St W (w.heap.size + 3) (setN (nbuild 8 8 (holdN (-128) 127 16 a) (holdN (-128) 127 16 b) k) 8 k ((holdN (-128) 127 16 a) k))) 17 (by kernel_rfl) (by kernel_rfl) hq2.drew ?_
   simp only [List.take_succ_cons, List.take_zero, List.drop_succ_cons, List.drop_zero]
   repeat (first | (refine do_load rfl _ rfl _ rfl _ (fun u hS => hS.this) ?_; simp only [Act.put, zqA, zqB, zqC]) | (refine do_load rfl _ rfl _ rfl _ (fun u hS => hS.kb.get hB (by omega)) ?_; simp only [Act.put, zqA, zqB, zqC]) | (refine wpD_call (v := .int .i64 (sgn 16 (getN b 16 k))) rfl 122 ?_ (fun u => ?_) (fun u hS => ?_) ?_; rotate_left 1; (focus (go_simp; (try with_reducible rfl); done)); (focus (refine (signed16z b _ k _ rfl (by omega)).mono ?_; rintro e u2 ⟨rfl, hb⟩; exact ⟨rfl, hS.below hb⟩)); simp only [Act.put, zqA, zqB, zqC]) | (refine wpD_call (v := .agg (cells (setN (setN (nbuild 8 8 (holdN (-128) 127 16 a) (holdN (-128) 127 16 b) k) 8 k ((holdN (-128) 127 16 a) k)) 8 (8 + k) ((holdN (-128) 127 16 b) k)))) rfl 51 ?_ (fun u => ?_) (fun u hS => ?_) ?_; rotate_left 1; (focus (go_simp; (try with_reducible rfl); done)); (focus (refine (set8z _ _ _ (8 + k) ((holdN (-128) 127 16 b) k) _ rfl (hold_wrap _ _ _) (by omega)).mono ?_; rintro e u2 ⟨rfl, hb⟩; exact ⟨rfl, hS.below hb⟩)); simp only [Act.put, zqA, zqB, zqC]) | (refine wpD_pure (v := ?_) rfl (fun u => ?_) ?_; rotate_left; (focus (go_simp; (try with_reducible rfl); done)); simp only [Act.put, zqA, zqB, zqC]))
   simp only [fold_max, fold_min]
   refine wpD_nil (fun wr2 hr => ?_)
   clear e1 e2 e3
   go_wp2_with ((with_reducible refine store_vec rfl _ _ rfl (w.heap.size + 3) _ rfl rfl _ hr.this ?_; intro wy hy))
   go_roundw
   case rel => exact ⟨k + 1, by omega, by go_num, hr.sets hy⟩
   case measure => (simp [intOf] <;> omega)
  ·obtain rfl : k = 8 := by omega
   have hR' := hs.kb.get hR (by omega)
   go_wp2_with (first | (with_reducible refine load_vec rfl _ rfl _ rfl _ hs.this ?_) | (with_reducible refine store_vec rfl _ _ rfl (w.heap.size + 2) _ rfl rfl _ hR' ?_; intro wq hq))
   exact bodyPost_ret (results_cell_row rfl _ _ (w.heap.size + 2) _ _ _ _ rfl hq.this vunder rfl (vsize _)) rfl ⟨rfl, (hs.kb.to_below hZ (by omega)).trans (hq.below.mono (by omega))⟩
theorem narrow102 (a b : Vec) (w : World) :
  Calls Tryz.prog 158 #[.int .i64 102, .agg (cells a), .agg (cells b)] w fun e w' => e = .returned (.agg (cells (nbuild 8 8 (holdN (0) 255 16 a) (holdN (0) 255 16 b) 8))) ∧ Below w.heap.size w w' := by
 go_enter Tryz.func158, Tryz.ntmps158
 go_wp2_with fail
 go_region
 go_wp2_with fail
 go_region
 go_wp2_with fail
 rw [← cells_zero]
 obtain ⟨W, hW⟩ : ∃ W, W = (((((w.alloc (.cells (cells a) 23)).alloc (.cells (cells b) 23)).alloc (.cells (cells 0) 23)).alloc (.cells (cells 0) 23)).drew.drew) := ⟨_, rfl⟩
 have hA : W.heap[w.heap.size]? = some (.cells (cells a) 23 (0, 0)) := by rw [hW]; exact heap_alloc4_0 _ _ _ _ _
 have hB : W.heap[w.heap.size + 1]? = some (.cells (cells b) 23 (0, 0)) := by rw [hW]; exact heap_alloc4_1 _ _ _ _ _
 have hR : W.heap[w.heap.size + 2]? = some (.cells (cells 0) 23 (0, 0)) := by rw [hW]; exact heap_alloc4_2 _ _ _ _ _
 have hO : W.heap[w.heap.size + 3]? = some (.cells (cells 0) 23 (0, 0)) := by rw [hW]; exact heap_alloc4_3 _ _ _ _ _
 have hZ : Below w.heap.size w W := by rw [hW]; exact Below.drew (Below.drew (below_alloc4 _ _ _ _ _))
 rw [← hW]
 clear hW
 go_loopw [29] (fun j wr => ∃ k : Nat, k ≤ 8 ∧ j = .int .i64 k ∧ St W (w.heap.size + 3) (nbuild 8 8 (holdN (0) 255 16 a) (holdN (0) 255 16 b) k) wr) (fun j _ => 8 - (intOf j).toNat)
 case atStart => exact ⟨0, Nat.zero_le _, rfl, St.start hO⟩
 case round =>
  obtain ⟨k, hk, rfl, hs⟩ := hrel
  by_cases hlt : k < 8
  ·have e1 : IntKind.i64.wrap (8 + (k : Int)) = 8 + k := IntWalk.i64_in _ (by omega)
   have e2 : IntKind.i64.wrap 16 = 16 := IntWalk.i64_in _ (by decide)
   have e3 : IntKind.i64.wrap 8 = 8 := IntWalk.i64_in _ (by decide)
   go_wp2_with fail
   refine region_do (St W (w.heap.size + 3) (nbuild 8 8 (holdN (0) 255 16 a) (holdN (0) 255 16 b) k)) 14 (by kernel_rfl) (by kernel_rfl) hs.drew ?_
   simp only [List.take_succ_cons, List.take_zero, List.drop_succ_cons, List.drop_zero]
   repeat (first | (refine do_load rfl _ rfl _ rfl _ (fun u hS => hS.this) ?_; simp only [Act.put, zqA, zqB, zqC]) | (refine do_load rfl _ rfl _ rfl _ (fun u hS => hS.kb.get hA (by omega)) ?_; simp only [Act.put, zqA, zqB, zqC]) | (refine wpD_call (v := .int .i64 (sgn 16 (getN a 16 k))) rfl 122 ?_ (fun u => ?_) (fun u hS => ?_) ?_; rotate_left 1; (focus (go_simp; (try with_reducible rfl); done)); (focus (refine (signed16z a _ k _ rfl (by omega)).mono ?_; rintro e u2 ⟨rfl, hb⟩; exact ⟨rfl, hS.below hb⟩)); simp only [Act.put, zqA, zqB, zqC]) | (refine wpD_call (v := .agg (cells (setN (nbuild 8 8 (holdN (0) 255 16 a) (holdN (0) 255 16 b) k) 8 k ((holdN (0) 255 16 a) k)))) rfl 51 ?_ (fun u => ?_) (fun u hS => ?_) ?_; rotate_left 1; (focus (go_simp; (try with_reducible rfl); done)); (focus (refine (set8z _ _ _ k ((holdN (0) 255 16 a) k) _ rfl (hold_wrap _ _ _) (by omega)).mono ?_; rintro e u2 ⟨rfl, hb⟩; exact ⟨rfl, hS.below hb⟩)); simp only [Act.put, zqA, zqB, zqC]) | (refine wpD_pure (v := ?_) rfl (fun u => ?_) ?_; rotate_left; (focus (go_simp; (try with_reducible rfl); done)); simp only [Act.put, zqA, zqB, zqC]))
   simp only [fold_max, fold_min]
   refine wpD_nil (fun wq hq => ?_)
   go_wp2_with ((with_reducible refine store_vec rfl _ _ rfl (w.heap.size + 3) _ rfl rfl _ hq.this ?_; intro wz hz))
   have hq2 := hq.sets hz
   refine region_do (St W (w.heap.size + 3) (setN (nbuild 8 8 (holdN (0) 255 16 a) (holdN (0) 255 16 b) k) 8 k ((holdN (0) 255 16 a) k))) 17 (by kernel_rfl) (by kernel_rfl) hq2.drew ?_
   simp only [List.take_succ_cons, List.take_zero, List.drop_succ_cons, List.drop_zero]
   repeat (first | (refine do_load rfl _ rfl _ rfl _ (fun u hS => hS.this) ?_; simp only [Act.put, zqA, zqB, zqC]) | (refine do_load rfl _ rfl _ rfl _ (fun u hS => hS.kb.get hB (by omega)) ?_; simp only [Act.put, zqA, zqB, zqC]) | (refine wpD_call (v := .int .i64 (sgn 16 (getN b 16 k))) rfl 122 ?_ (fun u => ?_) (fun u hS => ?_) ?_; rotate_left 1; (focus (go_simp; (try with_reducible rfl); done)); (focus (refine (signed16z b _ k _ rfl (by omega)).mono ?_; rintro e u2 ⟨rfl, hb⟩; exact ⟨rfl, hS.below hb⟩)); simp only [Act.put, zqA, zqB, zqC]) | (refine wpD_call (v := .agg (cells (setN (setN (nbuild 8 8 (holdN (0) 255 16 a) (holdN (0) 255 16 b) k) 8 k ((holdN (0) 255 16 a) k)) 8 (8 + k) ((holdN (0) 255 16 b) k)))) rfl 51 ?_ (fun u => ?_) (fun u hS => ?_) ?_; rotate_left 1; (focus (go_simp; (try with_reducible rfl); done)); (focus (refine (set8z _ _ _ (8 + k) ((holdN (0) 255 16 b) k) _ rfl (hold_wrap _ _ _) (by omega)).mono ?_; rintro e u2 ⟨rfl, hb⟩; exact ⟨rfl, hS.below hb⟩)); simp only [Act.put, zqA, zqB, zqC]) | (refine wpD_pure (v := ?_) rfl (fun u => ?_) ?_; rotate_left; (focus (go_simp; (try with_reducible rfl); done)); simp only [Act.put, zqA, zqB, zqC]))
   simp only [fold_max, fold_min]
   refine wpD_nil (fun wr2 hr => ?_)
   clear e1 e2 e3
   go_wp2_with ((with_reducible refine store_vec rfl _ _ rfl (w.heap.size + 3) _ rfl rfl _ hr.this ?_; intro wy hy))
   go_roundw
   case rel => exact ⟨k + 1, by omega, by go_num, hr.sets hy⟩
   case measure => (simp [intOf] <;> omega)
  ·obtain rfl : k = 8 := by omega
   have hR' := hs.kb.get hR (by omega)
   go_wp2_with (first | (with_reducible refine load_vec rfl _ rfl _ rfl _ hs.this ?_) | (with_reducible refine store_vec rfl _ _ rfl (w.heap.size + 2) _ rfl rfl _ hR' ?_; intro wq hq))
   exact bodyPost_ret (results_cell_row rfl _ _ (w.heap.size + 2) _ _ _ _ rfl hq.this vunder rfl (vsize _)) rfl ⟨rfl, (hs.kb.to_below hZ (by omega)).trans (hq.below.mono (by omega))⟩
theorem narrow133 (a b : Vec) (w : World) :
  Calls Tryz.prog 158 #[.int .i64 133, .agg (cells a), .agg (cells b)] w fun e w' => e = .returned (.agg (cells (nbuild 16 4 (holdN (-32768) 32767 32 a) (holdN (-32768) 32767 32 b) 4))) ∧ Below w.heap.size w w' := by
 go_enter Tryz.func158, Tryz.ntmps158
 go_wp2_with fail
 go_region
 go_wp2_with fail
 rw [← cells_zero]
 obtain ⟨W, hW⟩ : ∃ W, W = (((((w.alloc (.cells (cells a) 23)).alloc (.cells (cells b) 23)).alloc (.cells (cells 0) 23)).alloc (.cells (cells 0) 23)).drew) := ⟨_, rfl⟩
 have hA : W.heap[w.heap.size]? = some (.cells (cells a) 23 (0, 0)) := by rw [hW]; exact heap_alloc4_0 _ _ _ _ _
 have hB : W.heap[w.heap.size + 1]? = some (.cells (cells b) 23 (0, 0)) := by rw [hW]; exact heap_alloc4_1 _ _ _ _ _
 have hR : W.heap[w.heap.size + 2]? = some (.cells (cells 0) 23 (0, 0)) := by rw [hW]; exact heap_alloc4_2 _ _ _ _ _
 have hO : W.heap[w.heap.size + 3]? = some (.cells (cells 0) 23 (0, 0)) := by rw [hW]; exact heap_alloc4_3 _ _ _ _ _
 have hZ : Below w.heap.size w W := by rw [hW]; exact Below.drew (below_alloc4 _ _ _ _ _)
 rw [← hW]
 clear hW
 go_loopw [29] (fun j wr => ∃ k : Nat, k ≤ 4 ∧ j = .int .i64 k ∧ St W (w.heap.size + 3) (nbuild 16 4 (holdN (-32768) 32767 32 a) (holdN (-32768) 32767 32 b) k) wr) (fun j _ => 4 - (intOf j).toNat)
 case atStart => exact ⟨0, Nat.zero_le _, rfl, St.start hO⟩
 case round =>
  obtain ⟨k, hk, rfl, hs⟩ := hrel
  by_cases hlt : k < 4
  ·have e1 : IntKind.i64.wrap (4 + (k : Int)) = 4 + k := IntWalk.i64_in _ (by omega)
   have e2 : IntKind.i64.wrap 32 = 32 := IntWalk.i64_in _ (by decide)
   have e3 : IntKind.i64.wrap 4 = 4 := IntWalk.i64_in _ (by decide)
   go_wp2_with fail
   refine region_do (St W (w.heap.size + 3) (nbuild 16 4 (holdN (-32768) 32767 32 a) (holdN (-32768) 32767 32 b) k)) 14 (by kernel_rfl) (by kernel_rfl) hs.drew ?_
   simp only [List.take_succ_cons, List.take_zero, List.drop_succ_cons, List.drop_zero]
   repeat (first | (refine do_load rfl _ rfl _ rfl _ (fun u hS => hS.this) ?_; simp only [Act.put, zqA, zqB, zqC]) | (refine do_load rfl _ rfl _ rfl _ (fun u hS => hS.kb.get hA (by omega)) ?_; simp only [Act.put, zqA, zqB, zqC]) | (refine wpD_call (v := .int .i64 (sgn 32 (getN a 32 k))) rfl 122 ?_ (fun u => ?_) (fun u hS => ?_) ?_; rotate_left 1; (focus (go_simp; (try with_reducible rfl); done)); (focus (refine (signed32z a _ k _ rfl (by omega)).mono ?_; rintro e u2 ⟨rfl, hb⟩; exact ⟨rfl, hS.below hb⟩)); simp only [Act.put, zqA, zqB, zqC]) | (refine wpD_call (v := .agg (cells (setN (nbuild 16 4 (holdN (-32768) 32767 32 a) (holdN (-32768) 32767 32 b) k) 16 k ((holdN (-32768) 32767 32 a) k)))) rfl 51 ?_ (fun u => ?_) (fun u hS => ?_) ?_; rotate_left 1; (focus (go_simp; (try with_reducible rfl); done)); (focus (refine (set16z _ _ _ k ((holdN (-32768) 32767 32 a) k) _ rfl (hold_wrap _ _ _) (by omega)).mono ?_; rintro e u2 ⟨rfl, hb⟩; exact ⟨rfl, hS.below hb⟩)); simp only [Act.put, zqA, zqB, zqC]) | (refine wpD_pure (v := ?_) rfl (fun u => ?_) ?_; rotate_left; (focus (go_simp; (try with_reducible rfl); done)); simp only [Act.put, zqA, zqB, zqC]))
   simp only [fold_max, fold_min]
   refine wpD_nil (fun wq hq => ?_)
   go_wp2_with ((with_reducible refine store_vec rfl _ _ rfl (w.heap.size + 3) _ rfl rfl _ hq.this ?_; intro wz hz))
   have hq2 := hq.sets hz
   refine region_do (St W (w.heap.size + 3) (setN (nbuild 16 4 (holdN (-32768) 32767 32 a) (holdN (-32768) 32767 32 b) k) 16 k ((holdN (-32768) 32767 32 a) k))) 17 (by kernel_rfl) (by kernel_rfl) hq2.drew ?_
   simp only [List.take_succ_cons, List.take_zero, List.drop_succ_cons, List.drop_zero]
   repeat (first | (refine do_load rfl _ rfl _ rfl _ (fun u hS => hS.this) ?_; simp only [Act.put, zqA, zqB, zqC]) | (refine do_load rfl _ rfl _ rfl _ (fun u hS => hS.kb.get hB (by omega)) ?_; simp only [Act.put, zqA, zqB, zqC]) | (refine wpD_call (v := .int .i64 (sgn 32 (getN b 32 k))) rfl 122 ?_ (fun u => ?_) (fun u hS => ?_) ?_; rotate_left 1; (focus (go_simp; (try with_reducible rfl); done)); (focus (refine (signed32z b _ k _ rfl (by omega)).mono ?_; rintro e u2 ⟨rfl, hb⟩; exact ⟨rfl, hS.below hb⟩)); simp only [Act.put, zqA, zqB, zqC]) | (refine wpD_call (v := .agg (cells (setN (setN (nbuild 16 4 (holdN (-32768) 32767 32 a) (holdN (-32768) 32767 32 b) k) 16 k ((holdN (-32768) 32767 32 a) k)) 16 (4 + k) ((holdN (-32768) 32767 32 b) k)))) rfl 51 ?_ (fun u => ?_) (fun u hS => ?_) ?_; rotate_left 1; (focus (go_simp; (try with_reducible rfl); done)); (focus (refine (set16z _ _ _ (4 + k) ((holdN (-32768) 32767 32 b) k) _ rfl (hold_wrap _ _ _) (by omega)).mono ?_; rintro e u2 ⟨rfl, hb⟩; exact ⟨rfl, hS.below hb⟩)); simp only [Act.put, zqA, zqB, zqC]) | (refine wpD_pure (v := ?_) rfl (fun u => ?_) ?_; rotate_left; (focus (go_simp; (try with_reducible rfl); done)); simp only [Act.put, zqA, zqB, zqC]))
   simp only [fold_max, fold_min]
   refine wpD_nil (fun wr2 hr => ?_)
   clear e1 e2 e3
   go_wp2_with ((with_reducible refine store_vec rfl _ _ rfl (w.heap.size + 3) _ rfl rfl _ hr.this ?_; intro wy hy))
   go_roundw
   case rel => exact ⟨k + 1, by omega, by go_num, hr.sets hy⟩
   case measure => (simp [intOf] <;> omega)
  ·obtain rfl : k = 4 := by omega
   have hR' := hs.kb.get hR (by omega)
   go_wp2_with (first | (with_reducible refine load_vec rfl _ rfl _ rfl _ hs.this ?_) | (with_reducible refine store_vec rfl _ _ rfl (w.heap.size + 2) _ rfl rfl _ hR' ?_; intro wq hq))
   exact bodyPost_ret (results_cell_row rfl _ _ (w.heap.size + 2) _ _ _ _ rfl hq.this vunder rfl (vsize _)) rfl ⟨rfl, (hs.kb.to_below hZ (by omega)).trans (hq.below.mono (by omega))⟩
theorem narrow134 (a b : Vec) (w : World) :
  Calls Tryz.prog 158 #[.int .i64 134, .agg (cells a), .agg (cells b)] w fun e w' => e = .returned (.agg (cells (nbuild 16 4 (holdN (0) 65535 32 a) (holdN (0) 65535 32 b) 4))) ∧ Below w.heap.size w w' := by
 go_enter Tryz.func158, Tryz.ntmps158
 go_wp2_with fail
 go_region
 go_wp2_with fail
 go_region
 go_wp2_with fail
 rw [← cells_zero]
 obtain ⟨W, hW⟩ : ∃ W, W = (((((w.alloc (.cells (cells a) 23)).alloc (.cells (cells b) 23)).alloc (.cells (cells 0) 23)).alloc (.cells (cells 0) 23)).drew.drew) := ⟨_, rfl⟩
 have hA : W.heap[w.heap.size]? = some (.cells (cells a) 23 (0, 0)) := by rw [hW]; exact heap_alloc4_0 _ _ _ _ _
 have hB : W.heap[w.heap.size + 1]? = some (.cells (cells b) 23 (0, 0)) := by rw [hW]; exact heap_alloc4_1 _ _ _ _ _
 have hR : W.heap[w.heap.size + 2]? = some (.cells (cells 0) 23 (0, 0)) := by rw [hW]; exact heap_alloc4_2 _ _ _ _ _
 have hO : W.heap[w.heap.size + 3]? = some (.cells (cells 0) 23 (0, 0)) := by rw [hW]; exact heap_alloc4_3 _ _ _ _ _
 have hZ : Below w.heap.size w W := by rw [hW]; exact Below.drew (Below.drew (below_alloc4 _ _ _ _ _))
 rw [← hW]
 clear hW
 go_loopw [29] (fun j wr => ∃ k : Nat, k ≤ 4 ∧ j = .int .i64 k ∧ St W (w.heap.size + 3) (nbuild 16 4 (holdN (0) 65535 32 a) (holdN (0) 65535 32 b) k) wr) (fun j _ => 4 - (intOf j).toNat)
 case atStart => exact ⟨0, Nat.zero_le _, rfl, St.start hO⟩
 case round =>
  obtain ⟨k, hk, rfl, hs⟩ := hrel
  by_cases hlt : k < 4
  ·have e1 : IntKind.i64.wrap (4 + (k : Int)) = 4 + k := IntWalk.i64_in _ (by omega)
   have e2 : IntKind.i64.wrap 32 = 32 := IntWalk.i64_in _ (by decide)
   have e3 : IntKind.i64.wrap 4 = 4 := IntWalk.i64_in _ (by decide)
   go_wp2_with fail
   refine region_do (St W (w.heap.size + 3) (nbuild 16 4 (holdN (0) 65535 32 a) (holdN (0) 65535 32 b) k)) 14 (by kernel_rfl) (by kernel_rfl) hs.drew ?_
   simp only [List.take_succ_cons, List.take_zero, List.drop_succ_cons, List.drop_zero]
   repeat (first | (refine do_load rfl _ rfl _ rfl _ (fun u hS => hS.this) ?_; simp only [Act.put, zqA, zqB, zqC]) | (refine do_load rfl _ rfl _ rfl _ (fun u hS => hS.kb.get hA (by omega)) ?_; simp only [Act.put, zqA, zqB, zqC]) | (refine wpD_call (v := .int .i64 (sgn 32 (getN a 32 k))) rfl 122 ?_ (fun u => ?_) (fun u hS => ?_) ?_; rotate_left 1; (focus (go_simp; (try with_reducible rfl); done)); (focus (refine (signed32z a _ k _ rfl (by omega)).mono ?_; rintro e u2 ⟨rfl, hb⟩; exact ⟨rfl, hS.below hb⟩)); simp only [Act.put, zqA, zqB, zqC]) | (refine wpD_call (v := .agg (cells (setN (nbuild 16 4 (holdN (0) 65535 32 a) (holdN (0) 65535 32 b) k) 16 k ((holdN (0) 65535 32 a) k)))) rfl 51 ?_ (fun u => ?_) (fun u hS => ?_) ?_; rotate_left 1; (focus (go_simp; (try with_reducible rfl); done)); (focus (refine (set16z _ _ _ k ((holdN (0) 65535 32 a) k) _ rfl (hold_wrap _ _ _) (by omega)).mono ?_; rintro e u2 ⟨rfl, hb⟩; exact ⟨rfl, hS.below hb⟩)); simp only [Act.put, zqA, zqB, zqC]) | (refine wpD_pure (v := ?_) rfl (fun u => ?_) ?_; rotate_left; (focus (go_simp; (try with_reducible rfl); done)); simp only [Act.put, zqA, zqB, zqC]))
   simp only [fold_max, fold_min]
   refine wpD_nil (fun wq hq => ?_)
   go_wp2_with ((with_reducible refine store_vec rfl _ _ rfl (w.heap.size + 3) _ rfl rfl _ hq.this ?_; intro wz hz))
   have hq2 := hq.sets hz
   refine region_do (St W (w.heap.size + 3) (setN (nbuild 16 4 (holdN (0) 65535 32 a) (holdN (0) 65535 32 b) k) 16 k ((holdN (0) 65535 32 a) k))) 17 (by kernel_rfl) (by kernel_rfl) hq2.drew ?_
   simp only [List.take_succ_cons, List.take_zero, List.drop_succ_cons, List.drop_zero]
   repeat (first | (refine do_load rfl _ rfl _ rfl _ (fun u hS => hS.this) ?_; simp only [Act.put, zqA, zqB, zqC]) | (refine do_load rfl _ rfl _ rfl _ (fun u hS => hS.kb.get hB (by omega)) ?_; simp only [Act.put, zqA, zqB, zqC]) | (refine wpD_call (v := .int .i64 (sgn 32 (getN b 32 k))) rfl 122 ?_ (fun u => ?_) (fun u hS => ?_) ?_; rotate_left 1; (focus (go_simp; (try with_reducible rfl); done)); (focus (refine (signed32z b _ k _ rfl (by omega)).mono ?_; rintro e u2 ⟨rfl, hb⟩; exact ⟨rfl, hS.below hb⟩)); simp only [Act.put, zqA, zqB, zqC]) | (refine wpD_call (v := .agg (cells (setN (setN (nbuild 16 4 (holdN (0) 65535 32 a) (holdN (0) 65535 32 b) k) 16 k ((holdN (0) 65535 32 a) k)) 16 (4 + k) ((holdN (0) 65535 32 b) k)))) rfl 51 ?_ (fun u => ?_) (fun u hS => ?_) ?_; rotate_left 1; (focus (go_simp; (try with_reducible rfl); done)); (focus (refine (set16z _ _ _ (4 + k) ((holdN (0) 65535 32 b) k) _ rfl (hold_wrap _ _ _) (by omega)).mono ?_; rintro e u2 ⟨rfl, hb⟩; exact ⟨rfl, hS.below hb⟩)); simp only [Act.put, zqA, zqB, zqC]) | (refine wpD_pure (v := ?_) rfl (fun u => ?_) ?_; rotate_left; (focus (go_simp; (try with_reducible rfl); done)); simp only [Act.put, zqA, zqB, zqC]))
   simp only [fold_max, fold_min]
   refine wpD_nil (fun wr2 hr => ?_)
   clear e1 e2 e3
   go_wp2_with ((with_reducible refine store_vec rfl _ _ rfl (w.heap.size + 3) _ rfl rfl _ hr.this ?_; intro wy hy))
   go_roundw
   case rel => exact ⟨k + 1, by omega, by go_num, hr.sets hy⟩
   case measure => (simp [intOf] <;> omega)
  ·obtain rfl : k = 4 := by omega
   have hR' := hs.kb.get hR (by omega)
   go_wp2_with (first | (with_reducible refine load_vec rfl _ rfl _ rfl _ hs.this ?_) | (with_reducible refine store_vec rfl _ _ rfl (w.heap.size + 2) _ rfl rfl _ hR' ?_; intro wq hq))
   exact bodyPost_ret (results_cell_row rfl _ _ (w.heap.size + 2) _ _ _ _ rfl hq.this vunder rfl (vsize _)) rfl ⟨rfl, (hs.kb.to_below hZ (by omega)).trans (hq.below.mono (by omega))⟩
end Go.Proofs.YtebpijlmeemfaaaGreatDoor
end
section
namespace Go.Proofs.YtebpijlmeemfaaaGreatDoor
open Go.RowKit Pl
theorem bin_narrow101 (a b : Vec) (w : World) :
  Calls Tryz.prog 91 #[.int .i64 64869, .agg (cells a), .agg (cells b)] w fun e w' => e = .returned (.tuple #[.agg (cells (nbuild 8 8 (holdN (-128) 127 16 a) (holdN (-128) 127 16 b) 8)), .int .i64 0]) ∧ Below w.heap.size w w' := by
 go_enter Tryz.func91, Tryz.ntmps91
 go_wp2_with fail
 rw [← cells_zero]
 obtain ⟨W, hW⟩ : ∃ W, W = (((((w.alloc (.cells (cells a) 23)).alloc (.cells (cells b) 23)).alloc (.cells (cells 0) 23)).alloc (.cells (cells 0) 23))) := ⟨_, rfl⟩
 have hA : W.heap[w.heap.size]? = some (.cells (cells a) 23 (0, 0)) := by rw [hW]; exact heap_alloc4_0 _ _ _ _ _
 have hB : W.heap[w.heap.size + 1]? = some (.cells (cells b) 23 (0, 0)) := by rw [hW]; exact heap_alloc4_1 _ _ _ _ _
 have hR : W.heap[w.heap.size + 2]? = some (.cells (cells 0) 23 (0, 0)) := by rw [hW]; exact heap_alloc4_2 _ _ _ _ _
 have hO : W.heap[w.heap.size + 3]? = some (.cells (cells 0) 23 (0, 0)) := by rw [hW]; exact heap_alloc4_3 _ _ _ _ _
 have hZ : Below w.heap.size w W := by rw [hW]; exact below_alloc4 _ _ _ _ _
 rw [← hW]
 clear hW
 refine (group_no _ _ _ (by unfold wrap64; decide) (by unfold wrap64; decide) (by unfold wrap64; decide)).mono ?_
 rintro e w' ⟨rfl, rfl⟩
 go_wp2_with (first | (with_reducible refine load_vec rfl _ rfl _ rfl _ hA ?_) | (with_reducible refine load_vec rfl _ rfl _ rfl _ hB ?_) | (go_at_call 158; refine (narrow101 a b _).mono ?_; rintro e u2 ⟨rfl, hb⟩; have hR2 := (hb.block _ (block_lt hR)).trans hR) | (with_reducible refine store_vec rfl _ _ rfl (w.heap.size + 2) _ rfl rfl _ hR2 ?_; intro wq hq))
 exact bodyPost_ret (results_vec_tmp rfl _ _ (w.heap.size + 2) _ _ rfl rfl hq.this) rfl ⟨rfl, hZ.trans ((hb.mono hZ.size).trans (hq.below.mono (by omega)))⟩
theorem bin_narrow102 (a b : Vec) (w : World) :
  Calls Tryz.prog 91 #[.int .i64 64870, .agg (cells a), .agg (cells b)] w fun e w' => e = .returned (.tuple #[.agg (cells (nbuild 8 8 (holdN (0) 255 16 a) (holdN (0) 255 16 b) 8)), .int .i64 0]) ∧ Below w.heap.size w w' := by
 go_enter Tryz.func91, Tryz.ntmps91
 go_wp2_with fail
 rw [← cells_zero]
 obtain ⟨W, hW⟩ : ∃ W, W = (((((w.alloc (.cells (cells a) 23)).alloc (.cells (cells b) 23)).alloc (.cells (cells 0) 23)).alloc (.cells (cells 0) 23))) := ⟨_, rfl⟩
 have hA : W.heap[w.heap.size]? = some (.cells (cells a) 23 (0, 0)) := by rw [hW]; exact heap_alloc4_0 _ _ _ _ _
 have hB : W.heap[w.heap.size + 1]? = some (.cells (cells b) 23 (0, 0)) := by rw [hW]; exact heap_alloc4_1 _ _ _ _ _
 have hR : W.heap[w.heap.size + 2]? = some (.cells (cells 0) 23 (0, 0)) := by rw [hW]; exact heap_alloc4_2 _ _ _ _ _
 have hO : W.heap[w.heap.size + 3]? = some (.cells (cells 0) 23 (0, 0)) := by rw [hW]; exact heap_alloc4_3 _ _ _ _ _
 have hZ : Below w.heap.size w W := by rw [hW]; exact below_alloc4 _ _ _ _ _
 rw [← hW]
 clear hW
 refine (group_no _ _ _ (by unfold wrap64; decide) (by unfold wrap64; decide) (by unfold wrap64; decide)).mono ?_
 rintro e w' ⟨rfl, rfl⟩
 go_wp2_with (first | (with_reducible refine load_vec rfl _ rfl _ rfl _ hA ?_) | (with_reducible refine load_vec rfl _ rfl _ rfl _ hB ?_) | (go_at_call 158; refine (narrow102 a b _).mono ?_; rintro e u2 ⟨rfl, hb⟩; have hR2 := (hb.block _ (block_lt hR)).trans hR) | (with_reducible refine store_vec rfl _ _ rfl (w.heap.size + 2) _ rfl rfl _ hR2 ?_; intro wq hq))
 exact bodyPost_ret (results_vec_tmp rfl _ _ (w.heap.size + 2) _ _ rfl rfl hq.this) rfl ⟨rfl, hZ.trans ((hb.mono hZ.size).trans (hq.below.mono (by omega)))⟩
theorem bin_narrow133 (a b : Vec) (w : World) :
  Calls Tryz.prog 91 #[.int .i64 64901, .agg (cells a), .agg (cells b)] w fun e w' => e = .returned (.tuple #[.agg (cells (nbuild 16 4 (holdN (-32768) 32767 32 a) (holdN (-32768) 32767 32 b) 4)), .int .i64 0]) ∧ Below w.heap.size w w' := by
 go_enter Tryz.func91, Tryz.ntmps91
 go_wp2_with fail
 rw [← cells_zero]
 obtain ⟨W, hW⟩ : ∃ W, W = (((((w.alloc (.cells (cells a) 23)).alloc (.cells (cells b) 23)).alloc (.cells (cells 0) 23)).alloc (.cells (cells 0) 23))) := ⟨_, rfl⟩
 have hA : W.heap[w.heap.size]? = some (.cells (cells a) 23 (0, 0)) := by rw [hW]; exact heap_alloc4_0 _ _ _ _ _
 have hB : W.heap[w.heap.size + 1]? = some (.cells (cells b) 23 (0, 0)) := by rw [hW]; exact heap_alloc4_1 _ _ _ _ _
 have hR : W.heap[w.heap.size + 2]? = some (.cells (cells 0) 23 (0, 0)) := by rw [hW]; exact heap_alloc4_2 _ _ _ _ _
 have hO : W.heap[w.heap.size + 3]? = some (.cells (cells 0) 23 (0, 0)) := by rw [hW]; exact heap_alloc4_3 _ _ _ _ _
 have hZ : Below w.heap.size w W := by rw [hW]; exact below_alloc4 _ _ _ _ _
 rw [← hW]
 clear hW
 refine (group_no _ _ _ (by unfold wrap64; decide) (by unfold wrap64; decide) (by unfold wrap64; decide)).mono ?_
 rintro e w' ⟨rfl, rfl⟩
 go_wp2_with (first | (with_reducible refine load_vec rfl _ rfl _ rfl _ hA ?_) | (with_reducible refine load_vec rfl _ rfl _ rfl _ hB ?_) | (go_at_call 158; refine (narrow133 a b _).mono ?_; rintro e u2 ⟨rfl, hb⟩; have hR2 := (hb.block _ (block_lt hR)).trans hR) | (with_reducible refine store_vec rfl _ _ rfl (w.heap.size + 2) _ rfl rfl _ hR2 ?_; intro wq hq))
 exact bodyPost_ret (results_vec_tmp rfl _ _ (w.heap.size + 2) _ _ rfl rfl hq.this) rfl ⟨rfl, hZ.trans ((hb.mono hZ.size).trans (hq.below.mono (by omega)))⟩
theorem bin_narrow134 (a b : Vec) (w : World) :
  Calls Tryz.prog 91 #[.int .i64 64902, .agg (cells a), .agg (cells b)] w fun e w' => e = .returned (.tuple #[.agg (cells (nbuild 16 4 (holdN (0) 65535 32 a) (holdN (0) 65535 32 b) 4)), .int .i64 0]) ∧ Below w.heap.size w w' := by
 go_enter Tryz.func91, Tryz.ntmps91
 go_wp2_with fail
 rw [← cells_zero]
 obtain ⟨W, hW⟩ : ∃ W, W = (((((w.alloc (.cells (cells a) 23)).alloc (.cells (cells b) 23)).alloc (.cells (cells 0) 23)).alloc (.cells (cells 0) 23))) := ⟨_, rfl⟩
 have hA : W.heap[w.heap.size]? = some (.cells (cells a) 23 (0, 0)) := by rw [hW]; exact heap_alloc4_0 _ _ _ _ _
 have hB : W.heap[w.heap.size + 1]? = some (.cells (cells b) 23 (0, 0)) := by rw [hW]; exact heap_alloc4_1 _ _ _ _ _
 have hR : W.heap[w.heap.size + 2]? = some (.cells (cells 0) 23 (0, 0)) := by rw [hW]; exact heap_alloc4_2 _ _ _ _ _
 have hO : W.heap[w.heap.size + 3]? = some (.cells (cells 0) 23 (0, 0)) := by rw [hW]; exact heap_alloc4_3 _ _ _ _ _
 have hZ : Below w.heap.size w W := by rw [hW]; exact below_alloc4 _ _ _ _ _
 rw [← hW]
 clear hW
 refine (group_no _ _ _ (by unfold wrap64; decide) (by unfold wrap64; decide) (by unfold wrap64; decide)).mono ?_
 rintro e w' ⟨rfl, rfl⟩
 go_wp2_with (first | (with_reducible refine load_vec rfl _ rfl _ rfl _ hA ?_) | (with_reducible refine load_vec rfl _ rfl _ rfl _ hB ?_) | (go_at_call 158; refine (narrow134 a b _).mono ?_; rintro e u2 ⟨rfl, hb⟩; have hR2 := (hb.block _ (block_lt hR)).trans hR) | (with_reducible refine store_vec rfl _ _ rfl (w.heap.size + 2) _ rfl rfl _ hR2 ?_; intro wq hq))
 exact bodyPost_ret (results_vec_tmp rfl _ _ (w.heap.size + 2) _ _ rfl rfl hq.this) rfl ⟨rfl, hZ.trans ((hb.mono hZ.size).trans (hq.below.mono (by omega)))⟩
end Go.Proofs.YtebpijlmeemfaaaGreatDoor
end
section
namespace Go.Proofs.YtebpijlmeemfaaaGreatDoor
open Go.RowKit Pl
theorem bin_none (op : Int) (a b : Vec) (w : World) (h0 : wrap64 (wrap64 (wrap64 (op - 64768) - 156)) < 0 ∨ 4 ≤ wrap64 (wrap64 (wrap64 (op - 64768) - 156)))
  (h1 : wrap64 (wrap64 (wrap64 (op - 64768) - 156) - 32) < 0 ∨ 4 ≤ wrap64 (wrap64 (wrap64 (op - 64768) - 156) - 32)) (h2 : wrap64 (wrap64 (wrap64 (op - 64768) - 156) - 64) < 0 ∨ 4 ≤ wrap64 (wrap64 (wrap64 (op - 64768) - 156) - 64))
  (h3 : wrap64 (op - 64768) ≠ 101) (h4 : wrap64 (op - 64768) ≠ 102) (h5 : wrap64 (op - 64768) ≠ 133) (h6 : wrap64 (op - 64768) ≠ 134) (h7 : wrap64 (op - 64768) ≠ 130) (h8 : wrap64 (op - 64768) ≠ 186) :
  Calls Tryz.prog 91 #[.int .i64 op, .agg (cells a), .agg (cells b)] w fun e w' => e = .returned (.tuple #[.agg (cells 0), .int .i64 1]) ∧ Below w.heap.size w w' := by
 have H0 := Lib.hid h0
 have H1 := Lib.hid h1
 have H2 := Lib.hid h2
 clear h0 h1 h2
 go_enter Tryz.func91, Tryz.ntmps91
 go_wp2_with fail
 rw [← cells_zero]
 obtain ⟨W, hW⟩ : ∃ W, W = (((((w.alloc (.cells (cells a) 23)).alloc (.cells (cells b) 23)).alloc (.cells (cells 0) 23)).alloc (.cells (cells 0) 23))) := ⟨_, rfl⟩
 have hA : W.heap[w.heap.size]? = some (.cells (cells a) 23 (0, 0)) := by rw [hW]; exact heap_alloc4_0 _ _ _ _ _
 have hB : W.heap[w.heap.size + 1]? = some (.cells (cells b) 23 (0, 0)) := by rw [hW]; exact heap_alloc4_1 _ _ _ _ _
 have hR : W.heap[w.heap.size + 2]? = some (.cells (cells 0) 23 (0, 0)) := by rw [hW]; exact heap_alloc4_2 _ _ _ _ _
 have hO : W.heap[w.heap.size + 3]? = some (.cells (cells 0) 23 (0, 0)) := by rw [hW]; exact heap_alloc4_3 _ _ _ _ _
 have hZ : Below w.heap.size w W := by rw [hW]; exact below_alloc4 _ _ _ _ _
 rw [← hW]
 clear hW
 refine (group_no _ _ _ H0.out H1.out H2.out).mono ?_
 rintro e w' ⟨rfl, rfl⟩
 go_wp2_with (first | (with_reducible refine load_vec rfl _ rfl _ rfl _ hO ?_) | (with_reducible refine store_vec rfl _ _ rfl (w.heap.size + 2) _ rfl rfl _ hR ?_; intro wq hq))
 exact bodyPost_ret (results_vec_tmp rfl _ _ (w.heap.size + 2) _ _ rfl rfl hq.this) rfl ⟨rfl, hZ.trans (hq.below.mono (by omega))⟩
theorem bin_any (op : Int) (a b : Vec) (w : World) (ho : -9223372036854775808 ≤ op ∧ op ≤ 9223372036854775807) :
  Calls Tryz.prog 91 #[.int .i64 op, .agg (cells a), .agg (cells b)] w fun e w' => e = .returned (.tuple #[.agg (cells (binW op a b).1), .int .i64 (binW op a b).2]) ∧ Below w.heap.size w w' := by
 unfold binW
 split
 ·exact bin_row8 op (op - 64924).toNat a b w (by omega) (by omega)
 split
 ·exact bin_row16 op (op - 64956).toNat a b w (by omega) (by omega)
 split
 ·exact bin_row32 op (op - 64988).toNat a b w (by omega) (by omega)
 split
 ·rename_i h; subst h; exact bin_narrow101 a b w
 split
 ·rename_i h; subst h; exact bin_narrow102 a b w
 split
 ·rename_i h; subst h; exact bin_narrow133 a b w
 split
 ·rename_i h; subst h; exact bin_narrow134 a b w
 split
 ·rename_i h; subst h; exact bin_q15 a b w
 split
 ·rename_i h; subst h; exact bin_dot a b w
 ·exact bin_none op a b w (by unfold wrap64; omega) (by unfold wrap64; omega) (by unfold wrap64; omega) (by unfold wrap64; omega) (by unfold wrap64; omega) (by unfold wrap64; omega) (by unfold wrap64; omega) (by unfold wrap64; omega) (by unfold wrap64; omega)
end Go.Proofs.YtebpijlmeemfaaaGreatDoor
end
