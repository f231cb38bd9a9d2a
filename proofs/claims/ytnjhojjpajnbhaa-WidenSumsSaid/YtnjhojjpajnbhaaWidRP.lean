/-
  plaitref08.Un: the sums of pairs; no opcode.
-/
import Derived.Test.YtnjhojjpajnbhaaWidR
set_option linter.unusedSimpArgs false
set_option linter.unusedVariables false
namespace Go.Proofs.Ytnjhojjpajnbhaa
open Go.RowKit Pl


theorem run_pair0 (v : Vec) (w : World) :
    Calls Try.prog 11 #[.int .i64 64892, .agg (cells v)] w fun e w' => e = .returned (.tuple #[.agg (cells (buildOn 0 16 (pairN true 8 v) 8)), .int .i64 0]) ∧ Below w.heap.size w w' := by
  go_enter Try.func11, Try.ntmps11
  go_wp2_with fail
  rw [← cells_zero]
  obtain ⟨W, hW⟩ : ∃ W, W = ((w.alloc (.cells (cells v) 23)).alloc (.cells (cells 0) 23)).alloc (.cells (cells 0) 23) := ⟨_, rfl⟩
  have hB : W.heap[w.heap.size]? = some (.cells (cells v) 23 (0, 0)) := hW ▸ heap_alloc3_0 _ _ _ _
  have hR : W.heap[w.heap.size + 1]? = some (.cells (cells 0) 23 (0, 0)) := hW ▸ heap_alloc3_1 _ _ _ _
  have hO : W.heap[w.heap.size + 2]? = some (.cells (cells 0) 23 (0, 0)) := hW ▸ heap_alloc3_2 _ _ _ _
  have hZ : Below w.heap.size w W := hW ▸ below_alloc3 _ _ _ _
  rw [← hW]
  clear hW
  refine wp_loop_rounds 4 ?_
  iterate 4 (rw [rounds_succ]; go_wp2_with fail)
  refine wp_loop_rounds 1 ?_
  iterate 1 (rw [rounds_succ]; go_wp2_with fail)
  go_loopw [14] (fun j wr => ∃ k : Nat, k ≤ 8 ∧ j = .int .i64 k ∧ St W (w.heap.size + 2) (buildOn 0 16 (pairN true 8 v) k) wr) (fun j _ => 8 - (intOf j).toNat)
  case atStart => exact ⟨0, Nat.zero_le _, rfl, St.start hO⟩
  case round =>
    obtain ⟨k, hk, rfl, hs⟩ := hrel
    by_cases hlt : k < 8
    · have hk0 : (0 : Int) ≤ (k : Int) := Int.natCast_nonneg _
      have e1 : IntKind.i64.wrap (2 * (k : Int)) = 2 * k := IntWalk.i64_in _ (by omega)
      have e2 : IntKind.i64.wrap (2 * (k : Int) + 1) = 2 * k + 1 := IntWalk.i64_in _ (by omega)
      go_wp2_with fail
      refine region_do (St W (w.heap.size + 2) (buildOn 0 16 (pairN true 8 v) k)) 24 (by kernel_rfl) (by kernel_rfl) hs.drew ?_
      simp only [List.take_succ_cons, List.take_zero, List.drop_succ_cons, List.drop_zero]
      repeat (first | (refine do_load rfl _ rfl _ rfl _ (fun u hS => hS.this) ?_; simp only [Act.put, List.setIfInBounds_toArray, List.set_cons_zero, List.set_cons_succ]) | (refine do_load rfl _ rfl _ rfl _ (fun u hS => hS.kb.get hB (by omega)) ?_; simp only [Act.put, List.setIfInBounds_toArray, List.set_cons_zero, List.set_cons_succ]) | (refine wpD_pure (v := ?_) rfl (fun u => ?_) ?_; rotate_left; (focus (go_simp; (try with_reducible rfl); done)); simp only [Act.put, List.setIfInBounds_toArray, List.set_cons_zero, List.set_cons_succ]) | (refine wpD_call (v := .int .i64 (laneI true 8 v (2 * k))) rfl 24 ?_ (fun u => ?_) (fun u hS => ?_) ?_; rotate_left 1; (focus (go_simp; (try with_reducible rfl); done)); (focus (refine (rlane8 v (2 * k) _ true _ (by omega) (by omega)).mono ?_; rintro e u2 ⟨rfl, hb⟩; exact ⟨rfl, hS.below hb⟩)); simp only [Act.put, List.setIfInBounds_toArray, List.set_cons_zero, List.set_cons_succ]) | (refine wpD_call (v := .int .i64 (laneI true 8 v (2 * k + 1))) rfl 24 ?_ (fun u => ?_) (fun u hS => ?_) ?_; rotate_left 1; (focus (go_simp; (try with_reducible rfl); done)); (focus (refine (rlane8 v (2 * k + 1) _ true _ (by omega) (by omega)).mono ?_; rintro e u2 ⟨rfl, hb⟩; exact ⟨rfl, hS.below hb⟩)); simp only [Act.put, List.setIfInBounds_toArray, List.set_cons_zero, List.set_cons_succ]) | (refine wpD_call (v := .agg (cells (setN (buildOn 0 16 (pairN true 8 v) k) 16 k (pairN true 8 v k)))) rfl 23 ?_ (fun u => ?_) (fun u hS => ?_) ?_; rotate_left 1; (focus (go_simp; (try with_reducible rfl); done)); (focus (refine (rset16z _ _ _ k (pairN true 8 v k) _ rfl (rpair 8 v k true (by decide) (by decide)) (by omega) (pair_lt 8 v k true (by decide))).mono ?_; rintro e u2 ⟨rfl, hb⟩; exact ⟨rfl, hS.below hb⟩)); simp only [Act.put, List.setIfInBounds_toArray, List.set_cons_zero, List.set_cons_succ]))
      refine wpD_nil (fun wq hq => ?_)
      clear e1 e2
      go_wp2_with ((with_reducible refine store_vec rfl _ _ rfl (w.heap.size + 2) _ rfl rfl _ hq.this ?_; intro wz hz))
      go_roundw
      case rel => first | exact ⟨k + 1, by omega, by go_num, hq.sets hz⟩ | ((repeat apply Exists.intro); exact ⟨⟨k + 1, by omega, by go_num, hq.sets hz⟩, rfl⟩)
      case measure => (simp [intOf] <;> omega)
    · obtain rfl : k = 8 := by omega
      have hR' := hs.kb.get hR (by omega)
      go_wp2_with (first | (with_reducible refine load_vec rfl _ rfl _ rfl _ hs.this ?_) | (with_reducible refine store_vec rfl _ _ rfl (w.heap.size + 1) _ rfl rfl _ hR' ?_; intro wq hq))
      exact bodyPost_ret (results_vec_tmp rfl _ _ (w.heap.size + 1) _ _ rfl rfl hq.this) rfl ⟨rfl, (hs.kb.to_below hZ (by omega)).trans (hq.below.mono (by omega))⟩


theorem run_pair1 (v : Vec) (w : World) :
    Calls Try.prog 11 #[.int .i64 64893, .agg (cells v)] w fun e w' => e = .returned (.tuple #[.agg (cells (buildOn 0 16 (pairN false 8 v) 8)), .int .i64 0]) ∧ Below w.heap.size w w' := by
  go_enter Try.func11, Try.ntmps11
  go_wp2_with fail
  rw [← cells_zero]
  obtain ⟨W, hW⟩ : ∃ W, W = ((w.alloc (.cells (cells v) 23)).alloc (.cells (cells 0) 23)).alloc (.cells (cells 0) 23) := ⟨_, rfl⟩
  have hB : W.heap[w.heap.size]? = some (.cells (cells v) 23 (0, 0)) := hW ▸ heap_alloc3_0 _ _ _ _
  have hR : W.heap[w.heap.size + 1]? = some (.cells (cells 0) 23 (0, 0)) := hW ▸ heap_alloc3_1 _ _ _ _
  have hO : W.heap[w.heap.size + 2]? = some (.cells (cells 0) 23 (0, 0)) := hW ▸ heap_alloc3_2 _ _ _ _
  have hZ : Below w.heap.size w W := hW ▸ below_alloc3 _ _ _ _
  rw [← hW]
  clear hW
  refine wp_loop_rounds 4 ?_
  iterate 4 (rw [rounds_succ]; go_wp2_with fail)
  refine wp_loop_rounds 2 ?_
  iterate 2 (rw [rounds_succ]; go_wp2_with fail)
  go_loopw [14] (fun j wr => ∃ k : Nat, k ≤ 8 ∧ j = .int .i64 k ∧ St W (w.heap.size + 2) (buildOn 0 16 (pairN false 8 v) k) wr) (fun j _ => 8 - (intOf j).toNat)
  case atStart => exact ⟨0, Nat.zero_le _, rfl, St.start hO⟩
  case round =>
    obtain ⟨k, hk, rfl, hs⟩ := hrel
    by_cases hlt : k < 8
    · have hk0 : (0 : Int) ≤ (k : Int) := Int.natCast_nonneg _
      have e1 : IntKind.i64.wrap (2 * (k : Int)) = 2 * k := IntWalk.i64_in _ (by omega)
      have e2 : IntKind.i64.wrap (2 * (k : Int) + 1) = 2 * k + 1 := IntWalk.i64_in _ (by omega)
      go_wp2_with fail
      refine region_do (St W (w.heap.size + 2) (buildOn 0 16 (pairN false 8 v) k)) 24 (by kernel_rfl) (by kernel_rfl) hs.drew ?_
      simp only [List.take_succ_cons, List.take_zero, List.drop_succ_cons, List.drop_zero]
      repeat (first | (refine do_load rfl _ rfl _ rfl _ (fun u hS => hS.this) ?_; simp only [Act.put, List.setIfInBounds_toArray, List.set_cons_zero, List.set_cons_succ]) | (refine do_load rfl _ rfl _ rfl _ (fun u hS => hS.kb.get hB (by omega)) ?_; simp only [Act.put, List.setIfInBounds_toArray, List.set_cons_zero, List.set_cons_succ]) | (refine wpD_pure (v := ?_) rfl (fun u => ?_) ?_; rotate_left; (focus (go_simp; (try with_reducible rfl); done)); simp only [Act.put, List.setIfInBounds_toArray, List.set_cons_zero, List.set_cons_succ]) | (refine wpD_call (v := .int .i64 (laneI false 8 v (2 * k))) rfl 24 ?_ (fun u => ?_) (fun u hS => ?_) ?_; rotate_left 1; (focus (go_simp; (try with_reducible rfl); done)); (focus (refine (rlane8 v (2 * k) _ false _ (by omega) (by omega)).mono ?_; rintro e u2 ⟨rfl, hb⟩; exact ⟨rfl, hS.below hb⟩)); simp only [Act.put, List.setIfInBounds_toArray, List.set_cons_zero, List.set_cons_succ]) | (refine wpD_call (v := .int .i64 (laneI false 8 v (2 * k + 1))) rfl 24 ?_ (fun u => ?_) (fun u hS => ?_) ?_; rotate_left 1; (focus (go_simp; (try with_reducible rfl); done)); (focus (refine (rlane8 v (2 * k + 1) _ false _ (by omega) (by omega)).mono ?_; rintro e u2 ⟨rfl, hb⟩; exact ⟨rfl, hS.below hb⟩)); simp only [Act.put, List.setIfInBounds_toArray, List.set_cons_zero, List.set_cons_succ]) | (refine wpD_call (v := .agg (cells (setN (buildOn 0 16 (pairN false 8 v) k) 16 k (pairN false 8 v k)))) rfl 23 ?_ (fun u => ?_) (fun u hS => ?_) ?_; rotate_left 1; (focus (go_simp; (try with_reducible rfl); done)); (focus (refine (rset16z _ _ _ k (pairN false 8 v k) _ rfl (rpair 8 v k false (by decide) (by decide)) (by omega) (pair_lt 8 v k false (by decide))).mono ?_; rintro e u2 ⟨rfl, hb⟩; exact ⟨rfl, hS.below hb⟩)); simp only [Act.put, List.setIfInBounds_toArray, List.set_cons_zero, List.set_cons_succ]))
      refine wpD_nil (fun wq hq => ?_)
      clear e1 e2
      go_wp2_with ((with_reducible refine store_vec rfl _ _ rfl (w.heap.size + 2) _ rfl rfl _ hq.this ?_; intro wz hz))
      go_roundw
      case rel => first | exact ⟨k + 1, by omega, by go_num, hq.sets hz⟩ | ((repeat apply Exists.intro); exact ⟨⟨k + 1, by omega, by go_num, hq.sets hz⟩, rfl⟩)
      case measure => (simp [intOf] <;> omega)
    · obtain rfl : k = 8 := by omega
      have hR' := hs.kb.get hR (by omega)
      go_wp2_with (first | (with_reducible refine load_vec rfl _ rfl _ rfl _ hs.this ?_) | (with_reducible refine store_vec rfl _ _ rfl (w.heap.size + 1) _ rfl rfl _ hR' ?_; intro wq hq))
      exact bodyPost_ret (results_vec_tmp rfl _ _ (w.heap.size + 1) _ _ rfl rfl hq.this) rfl ⟨rfl, (hs.kb.to_below hZ (by omega)).trans (hq.below.mono (by omega))⟩


theorem run_pair2 (v : Vec) (w : World) :
    Calls Try.prog 11 #[.int .i64 64894, .agg (cells v)] w fun e w' => e = .returned (.tuple #[.agg (cells (buildOn 0 32 (pairN true 16 v) 4)), .int .i64 0]) ∧ Below w.heap.size w w' := by
  go_enter Try.func11, Try.ntmps11
  go_wp2_with fail
  rw [← cells_zero]
  obtain ⟨W, hW⟩ : ∃ W, W = ((w.alloc (.cells (cells v) 23)).alloc (.cells (cells 0) 23)).alloc (.cells (cells 0) 23) := ⟨_, rfl⟩
  have hB : W.heap[w.heap.size]? = some (.cells (cells v) 23 (0, 0)) := hW ▸ heap_alloc3_0 _ _ _ _
  have hR : W.heap[w.heap.size + 1]? = some (.cells (cells 0) 23 (0, 0)) := hW ▸ heap_alloc3_1 _ _ _ _
  have hO : W.heap[w.heap.size + 2]? = some (.cells (cells 0) 23 (0, 0)) := hW ▸ heap_alloc3_2 _ _ _ _
  have hZ : Below w.heap.size w W := hW ▸ below_alloc3 _ _ _ _
  rw [← hW]
  clear hW
  refine wp_loop_rounds 4 ?_
  iterate 4 (rw [rounds_succ]; go_wp2_with fail)
  refine wp_loop_rounds 3 ?_
  iterate 3 (rw [rounds_succ]; go_wp2_with fail)
  go_loopw [14] (fun j wr => ∃ k : Nat, k ≤ 4 ∧ j = .int .i64 k ∧ St W (w.heap.size + 2) (buildOn 0 32 (pairN true 16 v) k) wr) (fun j _ => 4 - (intOf j).toNat)
  case atStart => exact ⟨0, Nat.zero_le _, rfl, St.start hO⟩
  case round =>
    obtain ⟨k, hk, rfl, hs⟩ := hrel
    by_cases hlt : k < 4
    · have hk0 : (0 : Int) ≤ (k : Int) := Int.natCast_nonneg _
      have e1 : IntKind.i64.wrap (2 * (k : Int)) = 2 * k := IntWalk.i64_in _ (by omega)
      have e2 : IntKind.i64.wrap (2 * (k : Int) + 1) = 2 * k + 1 := IntWalk.i64_in _ (by omega)
      go_wp2_with fail
      refine region_do (St W (w.heap.size + 2) (buildOn 0 32 (pairN true 16 v) k)) 24 (by kernel_rfl) (by kernel_rfl) hs.drew ?_
      simp only [List.take_succ_cons, List.take_zero, List.drop_succ_cons, List.drop_zero]
      repeat (first | (refine do_load rfl _ rfl _ rfl _ (fun u hS => hS.this) ?_; simp only [Act.put, List.setIfInBounds_toArray, List.set_cons_zero, List.set_cons_succ]) | (refine do_load rfl _ rfl _ rfl _ (fun u hS => hS.kb.get hB (by omega)) ?_; simp only [Act.put, List.setIfInBounds_toArray, List.set_cons_zero, List.set_cons_succ]) | (refine wpD_pure (v := ?_) rfl (fun u => ?_) ?_; rotate_left; (focus (go_simp; (try with_reducible rfl); done)); simp only [Act.put, List.setIfInBounds_toArray, List.set_cons_zero, List.set_cons_succ]) | (refine wpD_call (v := .int .i64 (laneI true 16 v (2 * k))) rfl 24 ?_ (fun u => ?_) (fun u hS => ?_) ?_; rotate_left 1; (focus (go_simp; (try with_reducible rfl); done)); (focus (refine (rlane16 v (2 * k) _ true _ (by omega) (by omega)).mono ?_; rintro e u2 ⟨rfl, hb⟩; exact ⟨rfl, hS.below hb⟩)); simp only [Act.put, List.setIfInBounds_toArray, List.set_cons_zero, List.set_cons_succ]) | (refine wpD_call (v := .int .i64 (laneI true 16 v (2 * k + 1))) rfl 24 ?_ (fun u => ?_) (fun u hS => ?_) ?_; rotate_left 1; (focus (go_simp; (try with_reducible rfl); done)); (focus (refine (rlane16 v (2 * k + 1) _ true _ (by omega) (by omega)).mono ?_; rintro e u2 ⟨rfl, hb⟩; exact ⟨rfl, hS.below hb⟩)); simp only [Act.put, List.setIfInBounds_toArray, List.set_cons_zero, List.set_cons_succ]) | (refine wpD_call (v := .agg (cells (setN (buildOn 0 32 (pairN true 16 v) k) 32 k (pairN true 16 v k)))) rfl 23 ?_ (fun u => ?_) (fun u hS => ?_) ?_; rotate_left 1; (focus (go_simp; (try with_reducible rfl); done)); (focus (refine (rset32z _ _ _ k (pairN true 16 v k) _ rfl (rpair 16 v k true (by decide) (by decide)) (by omega) (pair_lt 16 v k true (by decide))).mono ?_; rintro e u2 ⟨rfl, hb⟩; exact ⟨rfl, hS.below hb⟩)); simp only [Act.put, List.setIfInBounds_toArray, List.set_cons_zero, List.set_cons_succ]))
      refine wpD_nil (fun wq hq => ?_)
      clear e1 e2
      go_wp2_with ((with_reducible refine store_vec rfl _ _ rfl (w.heap.size + 2) _ rfl rfl _ hq.this ?_; intro wz hz))
      go_roundw
      case rel => first | exact ⟨k + 1, by omega, by go_num, hq.sets hz⟩ | ((repeat apply Exists.intro); exact ⟨⟨k + 1, by omega, by go_num, hq.sets hz⟩, rfl⟩)
      case measure => (simp [intOf] <;> omega)
    · obtain rfl : k = 4 := by omega
      have hR' := hs.kb.get hR (by omega)
      go_wp2_with (first | (with_reducible refine load_vec rfl _ rfl _ rfl _ hs.this ?_) | (with_reducible refine store_vec rfl _ _ rfl (w.heap.size + 1) _ rfl rfl _ hR' ?_; intro wq hq))
      exact bodyPost_ret (results_vec_tmp rfl _ _ (w.heap.size + 1) _ _ rfl rfl hq.this) rfl ⟨rfl, (hs.kb.to_below hZ (by omega)).trans (hq.below.mono (by omega))⟩


theorem run_pair3 (v : Vec) (w : World) :
    Calls Try.prog 11 #[.int .i64 64895, .agg (cells v)] w fun e w' => e = .returned (.tuple #[.agg (cells (buildOn 0 32 (pairN false 16 v) 4)), .int .i64 0]) ∧ Below w.heap.size w w' := by
  go_enter Try.func11, Try.ntmps11
  go_wp2_with fail
  rw [← cells_zero]
  obtain ⟨W, hW⟩ : ∃ W, W = ((w.alloc (.cells (cells v) 23)).alloc (.cells (cells 0) 23)).alloc (.cells (cells 0) 23) := ⟨_, rfl⟩
  have hB : W.heap[w.heap.size]? = some (.cells (cells v) 23 (0, 0)) := hW ▸ heap_alloc3_0 _ _ _ _
  have hR : W.heap[w.heap.size + 1]? = some (.cells (cells 0) 23 (0, 0)) := hW ▸ heap_alloc3_1 _ _ _ _
  have hO : W.heap[w.heap.size + 2]? = some (.cells (cells 0) 23 (0, 0)) := hW ▸ heap_alloc3_2 _ _ _ _
  have hZ : Below w.heap.size w W := hW ▸ below_alloc3 _ _ _ _
  rw [← hW]
  clear hW
  refine wp_loop_rounds 4 ?_
  iterate 4 (rw [rounds_succ]; go_wp2_with fail)
  refine wp_loop_rounds 4 ?_
  iterate 4 (rw [rounds_succ]; go_wp2_with fail)
  go_loopw [14] (fun j wr => ∃ k : Nat, k ≤ 4 ∧ j = .int .i64 k ∧ St W (w.heap.size + 2) (buildOn 0 32 (pairN false 16 v) k) wr) (fun j _ => 4 - (intOf j).toNat)
  case atStart => exact ⟨0, Nat.zero_le _, rfl, St.start hO⟩
  case round =>
    obtain ⟨k, hk, rfl, hs⟩ := hrel
    by_cases hlt : k < 4
    · have hk0 : (0 : Int) ≤ (k : Int) := Int.natCast_nonneg _
      have e1 : IntKind.i64.wrap (2 * (k : Int)) = 2 * k := IntWalk.i64_in _ (by omega)
      have e2 : IntKind.i64.wrap (2 * (k : Int) + 1) = 2 * k + 1 := IntWalk.i64_in _ (by omega)
      go_wp2_with fail
      refine region_do (St W (w.heap.size + 2) (buildOn 0 32 (pairN false 16 v) k)) 24 (by kernel_rfl) (by kernel_rfl) hs.drew ?_
      simp only [List.take_succ_cons, List.take_zero, List.drop_succ_cons, List.drop_zero]
      repeat (first | (refine do_load rfl _ rfl _ rfl _ (fun u hS => hS.this) ?_; simp only [Act.put, List.setIfInBounds_toArray, List.set_cons_zero, List.set_cons_succ]) | (refine do_load rfl _ rfl _ rfl _ (fun u hS => hS.kb.get hB (by omega)) ?_; simp only [Act.put, List.setIfInBounds_toArray, List.set_cons_zero, List.set_cons_succ]) | (refine wpD_pure (v := ?_) rfl (fun u => ?_) ?_; rotate_left; (focus (go_simp; (try with_reducible rfl); done)); simp only [Act.put, List.setIfInBounds_toArray, List.set_cons_zero, List.set_cons_succ]) | (refine wpD_call (v := .int .i64 (laneI false 16 v (2 * k))) rfl 24 ?_ (fun u => ?_) (fun u hS => ?_) ?_; rotate_left 1; (focus (go_simp; (try with_reducible rfl); done)); (focus (refine (rlane16 v (2 * k) _ false _ (by omega) (by omega)).mono ?_; rintro e u2 ⟨rfl, hb⟩; exact ⟨rfl, hS.below hb⟩)); simp only [Act.put, List.setIfInBounds_toArray, List.set_cons_zero, List.set_cons_succ]) | (refine wpD_call (v := .int .i64 (laneI false 16 v (2 * k + 1))) rfl 24 ?_ (fun u => ?_) (fun u hS => ?_) ?_; rotate_left 1; (focus (go_simp; (try with_reducible rfl); done)); (focus (refine (rlane16 v (2 * k + 1) _ false _ (by omega) (by omega)).mono ?_; rintro e u2 ⟨rfl, hb⟩; exact ⟨rfl, hS.below hb⟩)); simp only [Act.put, List.setIfInBounds_toArray, List.set_cons_zero, List.set_cons_succ]) | (refine wpD_call (v := .agg (cells (setN (buildOn 0 32 (pairN false 16 v) k) 32 k (pairN false 16 v k)))) rfl 23 ?_ (fun u => ?_) (fun u hS => ?_) ?_; rotate_left 1; (focus (go_simp; (try with_reducible rfl); done)); (focus (refine (rset32z _ _ _ k (pairN false 16 v k) _ rfl (rpair 16 v k false (by decide) (by decide)) (by omega) (pair_lt 16 v k false (by decide))).mono ?_; rintro e u2 ⟨rfl, hb⟩; exact ⟨rfl, hS.below hb⟩)); simp only [Act.put, List.setIfInBounds_toArray, List.set_cons_zero, List.set_cons_succ]))
      refine wpD_nil (fun wq hq => ?_)
      clear e1 e2
      go_wp2_with ((with_reducible refine store_vec rfl _ _ rfl (w.heap.size + 2) _ rfl rfl _ hq.this ?_; intro wz hz))
      go_roundw
      case rel => first | exact ⟨k + 1, by omega, by go_num, hq.sets hz⟩ | ((repeat apply Exists.intro); exact ⟨⟨k + 1, by omega, by go_num, hq.sets hz⟩, rfl⟩)
      case measure => (simp [intOf] <;> omega)
    · obtain rfl : k = 4 := by omega
      have hR' := hs.kb.get hR (by omega)
      go_wp2_with (first | (with_reducible refine load_vec rfl _ rfl _ rfl _ hs.this ?_) | (with_reducible refine store_vec rfl _ _ rfl (w.heap.size + 1) _ rfl rfl _ hR' ?_; intro wq hq))
      exact bodyPost_ret (results_vec_tmp rfl _ _ (w.heap.size + 1) _ _ rfl rfl hq.this) rfl ⟨rfl, (hs.kb.to_below hZ (by omega)).trans (hq.below.mono (by omega))⟩

end Go.Proofs.Ytnjhojjpajnbhaa
