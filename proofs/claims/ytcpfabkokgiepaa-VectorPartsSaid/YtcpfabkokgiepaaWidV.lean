/-
  widen.Un: the sums of pairs; the opcodes that are none; the whole contract.
-/
import Derived.Test.YtcpfabkokgiepaaWidU
set_option linter.unusedSimpArgs false
set_option linter.unusedVariables false
namespace Go.Proofs.Ytcpfabkokgiepaa
open Go.RowKit Pl


theorem un_pair0 (v : Vec) (w : World) :
    Calls Try.prog 18 #[.int .i64 64892, .agg (cells v)] w fun e w' => e = .returned (.tuple #[.agg (cells (buildOn 0 16 (pairN true 8 v) 8)), .int .i64 0]) ∧ Below w.heap.size w w' := by
  go_enter Try.func18, Try.ntmps18
  go_wp2_with (first | (go_at_call 55; refine (group_no _ _ _ (by unfold wrap64; decide) (by unfold wrap64; decide) (by unfold wrap64; decide)).mono ?_; rintro e w' ⟨rfl, rfl⟩))
  rw [← cells_zero]
  obtain ⟨W, hW⟩ : ∃ W, W = ((w.alloc (.cells (cells v) 45)).alloc (.cells (cells 0) 45)).alloc (.cells (cells 0) 45) := ⟨_, rfl⟩
  have hB : W.heap[w.heap.size]? = some (.cells (cells v) 45 (0, 0)) := hW ▸ heap_alloc3_0 _ _ _ _
  have hR : W.heap[w.heap.size + 1]? = some (.cells (cells 0) 45 (0, 0)) := hW ▸ heap_alloc3_1 _ _ _ _
  have hO : W.heap[w.heap.size + 2]? = some (.cells (cells 0) 45 (0, 0)) := hW ▸ heap_alloc3_2 _ _ _ _
  have hZ : Below w.heap.size w W := hW ▸ below_alloc3 _ _ _ _
  rw [← hW]
  clear hW
  go_loopw [51] (fun j wr => ∃ k : Nat, k ≤ 8 ∧ j = .int .i64 k ∧ St W (w.heap.size + 2) (buildOn 0 16 (pairN true 8 v) k) wr) (fun j _ => 8 - (intOf j).toNat)
  case atStart => exact ⟨0, Nat.zero_le _, rfl, St.start hO⟩
  case round =>
    obtain ⟨k, hk, rfl, hs⟩ := hrel
    by_cases hlt : k < 8
    · have hk0 : (0 : Int) ≤ (k : Int) := Int.natCast_nonneg _
      have e1 : IntKind.i64.wrap (2 * (k : Int)) = 2 * k := IntWalk.i64_in _ (by omega)
      have e2 : IntKind.i64.wrap (2 * (k : Int) + 1) = 2 * k + 1 := IntWalk.i64_in _ (by omega)
      go_wp2_with fail
      refine region_do (St W (w.heap.size + 2) (buildOn 0 16 (pairN true 8 v) k)) 12 (by kernel_rfl) (by kernel_rfl) hs.drew ?_
      simp only [List.take_succ_cons, List.take_zero, List.drop_succ_cons, List.drop_zero]
      repeat (first | (refine do_load rfl _ rfl _ rfl _ (fun u hS => hS.kb.get hB (by omega)) ?_; simp only [Act.put, List.setIfInBounds_toArray, List.set_cons_zero, List.set_cons_succ]) | (refine wpD_pure (v := ?_) rfl (fun u => ?_) ?_; rotate_left; (focus (go_simp; (try with_reducible rfl); done)); simp only [Act.put, List.setIfInBounds_toArray, List.set_cons_zero, List.set_cons_succ]) | (refine wpD_call (v := .int .u64 (getN v 8 (2 * k) : Nat)) rfl 51 ?_ (fun u => ?_) (fun u hS => ?_) ?_; rotate_left 1; (focus (go_simp; (try with_reducible rfl); done)); (focus (refine (get8z v _ (2 * k) _ (by omega) (by omega)).mono ?_; rintro e u2 ⟨rfl, hb⟩; exact ⟨rfl, hS.below hb⟩)); simp only [Act.put, List.setIfInBounds_toArray, List.set_cons_zero, List.set_cons_succ]) | (refine wpD_call (v := .int .u64 (getN v 8 (2 * k + 1) : Nat)) rfl 51 ?_ (fun u => ?_) (fun u hS => ?_) ?_; rotate_left 1; (focus (go_simp; (try with_reducible rfl); done)); (focus (refine (get8z v _ (2 * k + 1) _ (by omega) (by omega)).mono ?_; rintro e u2 ⟨rfl, hb⟩; exact ⟨rfl, hS.below hb⟩)); simp only [Act.put, List.setIfInBounds_toArray, List.set_cons_zero, List.set_cons_succ]))
      refine wpD_nil (fun wq hq => ?_)
      go_wp2_with fail
      refine region_do (St W (w.heap.size + 2) (buildOn 0 16 (pairN true 8 v) k)) 13 (by kernel_rfl) (by kernel_rfl) hq.drew ?_
      simp only [List.take_succ_cons, List.take_zero, List.drop_succ_cons, List.drop_zero]
      repeat (first | (refine do_load rfl _ rfl _ rfl _ (fun u hS => hS.kb.get hB (by omega)) ?_; simp only [Act.put, List.setIfInBounds_toArray, List.set_cons_zero, List.set_cons_succ]) | (refine wpD_pure (v := ?_) rfl (fun u => ?_) ?_; rotate_left; (focus (go_simp; (try with_reducible rfl); done)); simp only [Act.put, List.setIfInBounds_toArray, List.set_cons_zero, List.set_cons_succ]) | (refine wpD_call (v := .int .i64 (sgn 8 (getN v 8 (2 * k)))) rfl 53 ?_ (fun u => ?_) (fun u hS => ?_) ?_; rotate_left 1; (focus (go_simp; (try with_reducible rfl); done)); (focus (refine (signed8z v _ (2 * k) _ (by omega) (by omega)).mono ?_; rintro e u2 ⟨rfl, hb⟩; exact ⟨rfl, hS.below hb⟩)); simp only [Act.put, List.setIfInBounds_toArray, List.set_cons_zero, List.set_cons_succ]) | (refine wpD_call (v := .int .i64 (sgn 8 (getN v 8 (2 * k + 1)))) rfl 53 ?_ (fun u => ?_) (fun u hS => ?_) ?_; rotate_left 1; (focus (go_simp; (try with_reducible rfl); done)); (focus (refine (signed8z v _ (2 * k + 1) _ (by omega) (by omega)).mono ?_; rintro e u2 ⟨rfl, hb⟩; exact ⟨rfl, hS.below hb⟩)); simp only [Act.put, List.setIfInBounds_toArray, List.set_cons_zero, List.set_cons_succ]))
      refine wpD_nil (fun wq hq => ?_)
      clear e1 e2
      go_wp2_with (first | (with_reducible refine load_vec rfl _ rfl _ rfl _ hq.this ?_) | (go_at_call 54; refine (set16z _ _ _ k (pairN true 8 v k) _ rfl (pair_s 8 v k (by decide) (by decide)) (by omega)).mono ?_; rintro e u2 ⟨rfl, hb⟩; have hq2 := hq.below hb) | (with_reducible refine store_vec rfl _ _ rfl (w.heap.size + 2) _ rfl rfl _ hq2.this ?_; intro wz hz))
      go_roundw
      case rel => exact ⟨k + 1, by omega, by go_num, hq2.sets hz⟩
      case measure => (simp [intOf] <;> omega)
    · obtain rfl : k = 8 := by omega
      have hR' := hs.kb.get hR (by omega)
      go_wp2_with (first | (with_reducible refine load_vec rfl _ rfl _ rfl _ hs.this ?_) | (with_reducible refine store_vec rfl _ _ rfl (w.heap.size + 1) _ rfl rfl _ hR' ?_; intro wq hq))
      exact bodyPost_ret (results_vec_tmp rfl _ _ (w.heap.size + 1) _ _ rfl rfl hq.this) rfl ⟨rfl, (hs.kb.to_below hZ (by omega)).trans (hq.below.mono (by omega))⟩


theorem un_pair1 (v : Vec) (w : World) :
    Calls Try.prog 18 #[.int .i64 64893, .agg (cells v)] w fun e w' => e = .returned (.tuple #[.agg (cells (buildOn 0 16 (pairN false 8 v) 8)), .int .i64 0]) ∧ Below w.heap.size w w' := by
  go_enter Try.func18, Try.ntmps18
  go_wp2_with (first | (go_at_call 55; refine (group_no _ _ _ (by unfold wrap64; decide) (by unfold wrap64; decide) (by unfold wrap64; decide)).mono ?_; rintro e w' ⟨rfl, rfl⟩))
  rw [← cells_zero]
  obtain ⟨W, hW⟩ : ∃ W, W = ((w.alloc (.cells (cells v) 45)).alloc (.cells (cells 0) 45)).alloc (.cells (cells 0) 45) := ⟨_, rfl⟩
  have hB : W.heap[w.heap.size]? = some (.cells (cells v) 45 (0, 0)) := hW ▸ heap_alloc3_0 _ _ _ _
  have hR : W.heap[w.heap.size + 1]? = some (.cells (cells 0) 45 (0, 0)) := hW ▸ heap_alloc3_1 _ _ _ _
  have hO : W.heap[w.heap.size + 2]? = some (.cells (cells 0) 45 (0, 0)) := hW ▸ heap_alloc3_2 _ _ _ _
  have hZ : Below w.heap.size w W := hW ▸ below_alloc3 _ _ _ _
  rw [← hW]
  clear hW
  go_loopw [51] (fun j wr => ∃ k : Nat, k ≤ 8 ∧ j = .int .i64 k ∧ St W (w.heap.size + 2) (buildOn 0 16 (pairN false 8 v) k) wr) (fun j _ => 8 - (intOf j).toNat)
  case atStart => exact ⟨0, Nat.zero_le _, rfl, St.start hO⟩
  case round =>
    obtain ⟨k, hk, rfl, hs⟩ := hrel
    by_cases hlt : k < 8
    · have hk0 : (0 : Int) ≤ (k : Int) := Int.natCast_nonneg _
      have e1 : IntKind.i64.wrap (2 * (k : Int)) = 2 * k := IntWalk.i64_in _ (by omega)
      have e2 : IntKind.i64.wrap (2 * (k : Int) + 1) = 2 * k + 1 := IntWalk.i64_in _ (by omega)
      go_wp2_with fail
      refine region_do (St W (w.heap.size + 2) (buildOn 0 16 (pairN false 8 v) k)) 12 (by kernel_rfl) (by kernel_rfl) hs.drew ?_
      simp only [List.take_succ_cons, List.take_zero, List.drop_succ_cons, List.drop_zero]
      repeat (first | (refine do_load rfl _ rfl _ rfl _ (fun u hS => hS.kb.get hB (by omega)) ?_; simp only [Act.put, List.setIfInBounds_toArray, List.set_cons_zero, List.set_cons_succ]) | (refine wpD_pure (v := ?_) rfl (fun u => ?_) ?_; rotate_left; (focus (go_simp; (try with_reducible rfl); done)); simp only [Act.put, List.setIfInBounds_toArray, List.set_cons_zero, List.set_cons_succ]) | (refine wpD_call (v := .int .u64 (getN v 8 (2 * k) : Nat)) rfl 51 ?_ (fun u => ?_) (fun u hS => ?_) ?_; rotate_left 1; (focus (go_simp; (try with_reducible rfl); done)); (focus (refine (get8z v _ (2 * k) _ (by omega) (by omega)).mono ?_; rintro e u2 ⟨rfl, hb⟩; exact ⟨rfl, hS.below hb⟩)); simp only [Act.put, List.setIfInBounds_toArray, List.set_cons_zero, List.set_cons_succ]) | (refine wpD_call (v := .int .u64 (getN v 8 (2 * k + 1) : Nat)) rfl 51 ?_ (fun u => ?_) (fun u hS => ?_) ?_; rotate_left 1; (focus (go_simp; (try with_reducible rfl); done)); (focus (refine (get8z v _ (2 * k + 1) _ (by omega) (by omega)).mono ?_; rintro e u2 ⟨rfl, hb⟩; exact ⟨rfl, hS.below hb⟩)); simp only [Act.put, List.setIfInBounds_toArray, List.set_cons_zero, List.set_cons_succ]))
      refine wpD_nil (fun wq hq => ?_)
      clear e1 e2
      go_wp2_with (first | (with_reducible refine load_vec rfl _ rfl _ rfl _ hq.this ?_) | (go_at_call 54; refine (set16z _ _ _ k (pairN false 8 v k) _ rfl (pair_u 8 v k (by decide)) (by omega)).mono ?_; rintro e u2 ⟨rfl, hb⟩; have hq2 := hq.below hb) | (with_reducible refine store_vec rfl _ _ rfl (w.heap.size + 2) _ rfl rfl _ hq2.this ?_; intro wz hz))
      go_roundw
      case rel => exact ⟨k + 1, by omega, by go_num, hq2.sets hz⟩
      case measure => (simp [intOf] <;> omega)
    · obtain rfl : k = 8 := by omega
      have hR' := hs.kb.get hR (by omega)
      go_wp2_with (first | (with_reducible refine load_vec rfl _ rfl _ rfl _ hs.this ?_) | (with_reducible refine store_vec rfl _ _ rfl (w.heap.size + 1) _ rfl rfl _ hR' ?_; intro wq hq))
      exact bodyPost_ret (results_vec_tmp rfl _ _ (w.heap.size + 1) _ _ rfl rfl hq.this) rfl ⟨rfl, (hs.kb.to_below hZ (by omega)).trans (hq.below.mono (by omega))⟩


theorem un_pair2 (v : Vec) (w : World) :
    Calls Try.prog 18 #[.int .i64 64894, .agg (cells v)] w fun e w' => e = .returned (.tuple #[.agg (cells (buildOn 0 32 (pairN true 16 v) 4)), .int .i64 0]) ∧ Below w.heap.size w w' := by
  go_enter Try.func18, Try.ntmps18
  go_wp2_with (first | (go_at_call 55; refine (group_no _ _ _ (by unfold wrap64; decide) (by unfold wrap64; decide) (by unfold wrap64; decide)).mono ?_; rintro e w' ⟨rfl, rfl⟩))
  rw [← cells_zero]
  obtain ⟨W, hW⟩ : ∃ W, W = ((w.alloc (.cells (cells v) 45)).alloc (.cells (cells 0) 45)).alloc (.cells (cells 0) 45) := ⟨_, rfl⟩
  have hB : W.heap[w.heap.size]? = some (.cells (cells v) 45 (0, 0)) := hW ▸ heap_alloc3_0 _ _ _ _
  have hR : W.heap[w.heap.size + 1]? = some (.cells (cells 0) 45 (0, 0)) := hW ▸ heap_alloc3_1 _ _ _ _
  have hO : W.heap[w.heap.size + 2]? = some (.cells (cells 0) 45 (0, 0)) := hW ▸ heap_alloc3_2 _ _ _ _
  have hZ : Below w.heap.size w W := hW ▸ below_alloc3 _ _ _ _
  rw [← hW]
  clear hW
  go_loopw [51] (fun j wr => ∃ k : Nat, k ≤ 4 ∧ j = .int .i64 k ∧ St W (w.heap.size + 2) (buildOn 0 32 (pairN true 16 v) k) wr) (fun j _ => 4 - (intOf j).toNat)
  case atStart => exact ⟨0, Nat.zero_le _, rfl, St.start hO⟩
  case round =>
    obtain ⟨k, hk, rfl, hs⟩ := hrel
    by_cases hlt : k < 4
    · have hk0 : (0 : Int) ≤ (k : Int) := Int.natCast_nonneg _
      have e1 : IntKind.i64.wrap (2 * (k : Int)) = 2 * k := IntWalk.i64_in _ (by omega)
      have e2 : IntKind.i64.wrap (2 * (k : Int) + 1) = 2 * k + 1 := IntWalk.i64_in _ (by omega)
      go_wp2_with fail
      refine region_do (St W (w.heap.size + 2) (buildOn 0 32 (pairN true 16 v) k)) 12 (by kernel_rfl) (by kernel_rfl) hs.drew ?_
      simp only [List.take_succ_cons, List.take_zero, List.drop_succ_cons, List.drop_zero]
      repeat (first | (refine do_load rfl _ rfl _ rfl _ (fun u hS => hS.kb.get hB (by omega)) ?_; simp only [Act.put, List.setIfInBounds_toArray, List.set_cons_zero, List.set_cons_succ]) | (refine wpD_pure (v := ?_) rfl (fun u => ?_) ?_; rotate_left; (focus (go_simp; (try with_reducible rfl); done)); simp only [Act.put, List.setIfInBounds_toArray, List.set_cons_zero, List.set_cons_succ]) | (refine wpD_call (v := .int .u64 (getN v 16 (2 * k) : Nat)) rfl 51 ?_ (fun u => ?_) (fun u hS => ?_) ?_; rotate_left 1; (focus (go_simp; (try with_reducible rfl); done)); (focus (refine (get16z v _ (2 * k) _ (by omega) (by omega)).mono ?_; rintro e u2 ⟨rfl, hb⟩; exact ⟨rfl, hS.below hb⟩)); simp only [Act.put, List.setIfInBounds_toArray, List.set_cons_zero, List.set_cons_succ]) | (refine wpD_call (v := .int .u64 (getN v 16 (2 * k + 1) : Nat)) rfl 51 ?_ (fun u => ?_) (fun u hS => ?_) ?_; rotate_left 1; (focus (go_simp; (try with_reducible rfl); done)); (focus (refine (get16z v _ (2 * k + 1) _ (by omega) (by omega)).mono ?_; rintro e u2 ⟨rfl, hb⟩; exact ⟨rfl, hS.below hb⟩)); simp only [Act.put, List.setIfInBounds_toArray, List.set_cons_zero, List.set_cons_succ]))
      refine wpD_nil (fun wq hq => ?_)
      go_wp2_with fail
      refine region_do (St W (w.heap.size + 2) (buildOn 0 32 (pairN true 16 v) k)) 13 (by kernel_rfl) (by kernel_rfl) hq.drew ?_
      simp only [List.take_succ_cons, List.take_zero, List.drop_succ_cons, List.drop_zero]
      repeat (first | (refine do_load rfl _ rfl _ rfl _ (fun u hS => hS.kb.get hB (by omega)) ?_; simp only [Act.put, List.setIfInBounds_toArray, List.set_cons_zero, List.set_cons_succ]) | (refine wpD_pure (v := ?_) rfl (fun u => ?_) ?_; rotate_left; (focus (go_simp; (try with_reducible rfl); done)); simp only [Act.put, List.setIfInBounds_toArray, List.set_cons_zero, List.set_cons_succ]) | (refine wpD_call (v := .int .i64 (sgn 16 (getN v 16 (2 * k)))) rfl 53 ?_ (fun u => ?_) (fun u hS => ?_) ?_; rotate_left 1; (focus (go_simp; (try with_reducible rfl); done)); (focus (refine (signed16z v _ (2 * k) _ (by omega) (by omega)).mono ?_; rintro e u2 ⟨rfl, hb⟩; exact ⟨rfl, hS.below hb⟩)); simp only [Act.put, List.setIfInBounds_toArray, List.set_cons_zero, List.set_cons_succ]) | (refine wpD_call (v := .int .i64 (sgn 16 (getN v 16 (2 * k + 1)))) rfl 53 ?_ (fun u => ?_) (fun u hS => ?_) ?_; rotate_left 1; (focus (go_simp; (try with_reducible rfl); done)); (focus (refine (signed16z v _ (2 * k + 1) _ (by omega) (by omega)).mono ?_; rintro e u2 ⟨rfl, hb⟩; exact ⟨rfl, hS.below hb⟩)); simp only [Act.put, List.setIfInBounds_toArray, List.set_cons_zero, List.set_cons_succ]))
      refine wpD_nil (fun wq hq => ?_)
      clear e1 e2
      go_wp2_with (first | (with_reducible refine load_vec rfl _ rfl _ rfl _ hq.this ?_) | (go_at_call 54; refine (set32z _ _ _ k (pairN true 16 v k) _ rfl (pair_s 16 v k (by decide) (by decide)) (by omega)).mono ?_; rintro e u2 ⟨rfl, hb⟩; have hq2 := hq.below hb) | (with_reducible refine store_vec rfl _ _ rfl (w.heap.size + 2) _ rfl rfl _ hq2.this ?_; intro wz hz))
      go_roundw
      case rel => exact ⟨k + 1, by omega, by go_num, hq2.sets hz⟩
      case measure => (simp [intOf] <;> omega)
    · obtain rfl : k = 4 := by omega
      have hR' := hs.kb.get hR (by omega)
      go_wp2_with (first | (with_reducible refine load_vec rfl _ rfl _ rfl _ hs.this ?_) | (with_reducible refine store_vec rfl _ _ rfl (w.heap.size + 1) _ rfl rfl _ hR' ?_; intro wq hq))
      exact bodyPost_ret (results_vec_tmp rfl _ _ (w.heap.size + 1) _ _ rfl rfl hq.this) rfl ⟨rfl, (hs.kb.to_below hZ (by omega)).trans (hq.below.mono (by omega))⟩


theorem un_pair3 (v : Vec) (w : World) :
    Calls Try.prog 18 #[.int .i64 64895, .agg (cells v)] w fun e w' => e = .returned (.tuple #[.agg (cells (buildOn 0 32 (pairN false 16 v) 4)), .int .i64 0]) ∧ Below w.heap.size w w' := by
  go_enter Try.func18, Try.ntmps18
  go_wp2_with (first | (go_at_call 55; refine (group_no _ _ _ (by unfold wrap64; decide) (by unfold wrap64; decide) (by unfold wrap64; decide)).mono ?_; rintro e w' ⟨rfl, rfl⟩))
  rw [← cells_zero]
  obtain ⟨W, hW⟩ : ∃ W, W = ((w.alloc (.cells (cells v) 45)).alloc (.cells (cells 0) 45)).alloc (.cells (cells 0) 45) := ⟨_, rfl⟩
  have hB : W.heap[w.heap.size]? = some (.cells (cells v) 45 (0, 0)) := hW ▸ heap_alloc3_0 _ _ _ _
  have hR : W.heap[w.heap.size + 1]? = some (.cells (cells 0) 45 (0, 0)) := hW ▸ heap_alloc3_1 _ _ _ _
  have hO : W.heap[w.heap.size + 2]? = some (.cells (cells 0) 45 (0, 0)) := hW ▸ heap_alloc3_2 _ _ _ _
  have hZ : Below w.heap.size w W := hW ▸ below_alloc3 _ _ _ _
  rw [← hW]
  clear hW
  go_loopw [51] (fun j wr => ∃ k : Nat, k ≤ 4 ∧ j = .int .i64 k ∧ St W (w.heap.size + 2) (buildOn 0 32 (pairN false 16 v) k) wr) (fun j _ => 4 - (intOf j).toNat)
  case atStart => exact ⟨0, Nat.zero_le _, rfl, St.start hO⟩
  case round =>
    obtain ⟨k, hk, rfl, hs⟩ := hrel
    by_cases hlt : k < 4
    · have hk0 : (0 : Int) ≤ (k : Int) := Int.natCast_nonneg _
      have e1 : IntKind.i64.wrap (2 * (k : Int)) = 2 * k := IntWalk.i64_in _ (by omega)
      have e2 : IntKind.i64.wrap (2 * (k : Int) + 1) = 2 * k + 1 := IntWalk.i64_in _ (by omega)
      go_wp2_with fail
      refine region_do (St W (w.heap.size + 2) (buildOn 0 32 (pairN false 16 v) k)) 12 (by kernel_rfl) (by kernel_rfl) hs.drew ?_
      simp only [List.take_succ_cons, List.take_zero, List.drop_succ_cons, List.drop_zero]
      repeat (first | (refine do_load rfl _ rfl _ rfl _ (fun u hS => hS.kb.get hB (by omega)) ?_; simp only [Act.put, List.setIfInBounds_toArray, List.set_cons_zero, List.set_cons_succ]) | (refine wpD_pure (v := ?_) rfl (fun u => ?_) ?_; rotate_left; (focus (go_simp; (try with_reducible rfl); done)); simp only [Act.put, List.setIfInBounds_toArray, List.set_cons_zero, List.set_cons_succ]) | (refine wpD_call (v := .int .u64 (getN v 16 (2 * k) : Nat)) rfl 51 ?_ (fun u => ?_) (fun u hS => ?_) ?_; rotate_left 1; (focus (go_simp; (try with_reducible rfl); done)); (focus (refine (get16z v _ (2 * k) _ (by omega) (by omega)).mono ?_; rintro e u2 ⟨rfl, hb⟩; exact ⟨rfl, hS.below hb⟩)); simp only [Act.put, List.setIfInBounds_toArray, List.set_cons_zero, List.set_cons_succ]) | (refine wpD_call (v := .int .u64 (getN v 16 (2 * k + 1) : Nat)) rfl 51 ?_ (fun u => ?_) (fun u hS => ?_) ?_; rotate_left 1; (focus (go_simp; (try with_reducible rfl); done)); (focus (refine (get16z v _ (2 * k + 1) _ (by omega) (by omega)).mono ?_; rintro e u2 ⟨rfl, hb⟩; exact ⟨rfl, hS.below hb⟩)); simp only [Act.put, List.setIfInBounds_toArray, List.set_cons_zero, List.set_cons_succ]))
      refine wpD_nil (fun wq hq => ?_)
      clear e1 e2
      go_wp2_with (first | (with_reducible refine load_vec rfl _ rfl _ rfl _ hq.this ?_) | (go_at_call 54; refine (set32z _ _ _ k (pairN false 16 v k) _ rfl (pair_u 16 v k (by decide)) (by omega)).mono ?_; rintro e u2 ⟨rfl, hb⟩; have hq2 := hq.below hb) | (with_reducible refine store_vec rfl _ _ rfl (w.heap.size + 2) _ rfl rfl _ hq2.this ?_; intro wz hz))
      go_roundw
      case rel => exact ⟨k + 1, by omega, by go_num, hq2.sets hz⟩
      case measure => (simp [intOf] <;> omega)
    · obtain rfl : k = 4 := by omega
      have hR' := hs.kb.get hR (by omega)
      go_wp2_with (first | (with_reducible refine load_vec rfl _ rfl _ rfl _ hs.this ?_) | (with_reducible refine store_vec rfl _ _ rfl (w.heap.size + 1) _ rfl rfl _ hR' ?_; intro wq hq))
      exact bodyPost_ret (results_vec_tmp rfl _ _ (w.heap.size + 1) _ _ rfl rfl hq.this) rfl ⟨rfl, (hs.kb.to_below hZ (by omega)).trans (hq.below.mono (by omega))⟩


theorem un_none (op : Int) (v : Vec) (w : World) (h0 : wrap64 (wrap64 (wrap64 (op - 64768) - 135)) < 0 ∨ 4 ≤ wrap64 (wrap64 (wrap64 (op - 64768) - 135)))
    (h1 : wrap64 (wrap64 (wrap64 (op - 64768) - 135) - 32) < 0 ∨ 4 ≤ wrap64 (wrap64 (wrap64 (op - 64768) - 135) - 32)) (h2 : wrap64 (wrap64 (wrap64 (op - 64768) - 135) - 64) < 0 ∨ 4 ≤ wrap64 (wrap64 (wrap64 (op - 64768) - 135) - 64))
    (h3 : wrap64 (op - 64768) < 124 ∨ 127 < wrap64 (op - 64768)) :
    Calls Try.prog 18 #[.int .i64 op, .agg (cells v)] w fun e w' => e = .returned (.tuple #[.agg (cells 0), .int .i64 1]) ∧ Below w.heap.size w w' := by
  have H0 := Lib.hid h0
  have H1 := Lib.hid h1
  have H2 := Lib.hid h2
  clear h0 h1 h2
  rcases h3 with h3 | h3
  all_goals
    go_enter Try.func18, Try.ntmps18
    go_wp2_with fail
    rw [← cells_zero]
    obtain ⟨W, hW⟩ : ∃ W, W = ((w.alloc (.cells (cells v) 45)).alloc (.cells (cells 0) 45)).alloc (.cells (cells 0) 45) := ⟨_, rfl⟩
    have hB : W.heap[w.heap.size]? = some (.cells (cells v) 45 (0, 0)) := hW ▸ heap_alloc3_0 _ _ _ _
    have hR : W.heap[w.heap.size + 1]? = some (.cells (cells 0) 45 (0, 0)) := hW ▸ heap_alloc3_1 _ _ _ _
    have hO : W.heap[w.heap.size + 2]? = some (.cells (cells 0) 45 (0, 0)) := hW ▸ heap_alloc3_2 _ _ _ _
    have hZ : Below w.heap.size w W := hW ▸ below_alloc3 _ _ _ _
    rw [← hW]
    clear hW
    refine (group_no _ _ _ H0.out H1.out H2.out).mono ?_
    rintro e w' ⟨rfl, rfl⟩
    go_wp2_with (first | (with_reducible refine load_vec rfl _ rfl _ rfl _ hO ?_) | (with_reducible refine store_vec rfl _ _ rfl (w.heap.size + 1) _ rfl rfl _ hR ?_; intro wq hq))
    exact bodyPost_ret (results_vec_tmp rfl _ _ (w.heap.size + 1) _ _ rfl rfl hq.this) rfl ⟨rfl, hZ.trans (hq.below.mono (by omega))⟩


theorem un_any (op : Int) (v : Vec) (w : World) (ho : -9223372036854775808 ≤ op ∧ op ≤ 9223372036854775807) :
    Calls Try.prog 18 #[.int .i64 op, .agg (cells v)] w fun e w' => e = .returned (.tuple #[.agg (cells (unW op v).1), .int .i64 (unW op v).2]) ∧ Below w.heap.size w w' := by
  unfold unW
  split
  · exact un_row8 op (op - 64903).toNat v w (by omega) (by omega)
  split
  · exact un_row16 op (op - 64935).toNat v w (by omega) (by omega)
  split
  · exact un_row32 op (op - 64967).toNat v w (by omega) (by omega)
  split
  · rename_i h; subst h; exact un_pair0 v w
  split
  · rename_i h; subst h; exact un_pair1 v w
  split
  · rename_i h; subst h; exact un_pair2 v w
  split
  · rename_i h; subst h; exact un_pair3 v w
  · exact un_none op v w (by unfold wrap64; omega) (by unfold wrap64; omega) (by unfold wrap64; omega) (by unfold wrap64; omega)

end Go.Proofs.Ytcpfabkokgiepaa
