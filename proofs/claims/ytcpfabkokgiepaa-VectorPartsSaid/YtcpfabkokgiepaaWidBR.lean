/-
  widen.Bin: the rows of products.
-/
import Derived.Test.YtcpfabkokgiepaaWidA
import Derived.Test.YtcpfabkokgiepaaWideBin
set_option linter.unusedSimpArgs false
set_option linter.unusedVariables false
namespace Go.Proofs.Ytcpfabkokgiepaa
open Go.RowKit Pl


set_option maxHeartbeats 1000000 in
theorem bin_row8 (op : Int) (c : Nat) (a b : Vec) (w : World) (hc : c < 4) (hop : op = 64924 + c) :
    Calls Try.prog 22 #[.int .i64 op, .agg (cells a), .agg (cells b)] w fun e w' => e = .returned (.tuple #[.agg (cells (buildOn 0 16 (mulN 8 c a b) 8)), .int .i64 0]) ∧ Below w.heap.size w w' := by
  subst hop
  go_enter Try.func22, Try.ntmps22
  go_wp2_with fail
  rw [← cells_zero]
  obtain ⟨W, hW⟩ : ∃ W, W = (((((w.alloc (.cells (cells a) 45)).alloc (.cells (cells b) 45)).alloc (.cells (cells 0) 45)).alloc (.cells (cells 0) 45))) := ⟨_, rfl⟩
  have hA : W.heap[w.heap.size]? = some (.cells (cells a) 45 (0, 0)) := by rw [hW]; exact heap_alloc4_0 _ _ _ _ _
  have hB : W.heap[w.heap.size + 1]? = some (.cells (cells b) 45 (0, 0)) := by rw [hW]; exact heap_alloc4_1 _ _ _ _ _
  have hR : W.heap[w.heap.size + 2]? = some (.cells (cells 0) 45 (0, 0)) := by rw [hW]; exact heap_alloc4_2 _ _ _ _ _
  have hO : W.heap[w.heap.size + 3]? = some (.cells (cells 0) 45 (0, 0)) := by rw [hW]; exact heap_alloc4_3 _ _ _ _ _
  have hZ : Below w.heap.size w W := by rw [hW]; exact below_alloc4 _ _ _ _ _
  rw [← hW]
  clear hW
  refine (group0 _ 156 c _ hc (by omega) (by decide) (by decide)).mono ?_
  rintro e w' ⟨rfl, rfl⟩
  go_wp2_with fail
  go_loopw [29] (fun j wr => ∃ k : Nat, k ≤ 8 ∧ j = .int .i64 k ∧ St W (w.heap.size + 3) (buildOn 0 16 (mulN 8 c a b) k) wr) (fun j _ => 8 - (intOf j).toNat)
  case atStart => exact ⟨0, Nat.zero_le _, rfl, St.start hO⟩
  case round =>
    obtain ⟨k, hk, rfl, hs⟩ := hrel
    by_cases hlt : k < 8
    · go_wp2_with fail
      refine region_do (St W (w.heap.size + 3) (buildOn 0 16 (mulN 8 c a b) k)) 16 (by kernel_rfl) (by kernel_rfl) hs.drew ?_
      simp only [List.take_succ_cons, List.take_zero, List.drop_succ_cons, List.drop_zero]
      (refine do_load rfl _ rfl _ rfl _ (fun u hS => hS.this) ?_; simp only [Act.put, List.setIfInBounds_toArray, List.set_cons_zero, List.set_cons_succ])
      repeat (refine wpD_pure (v := ?_) rfl (fun u => ?_) ?_; rotate_left; (focus (go_simp; (try with_reducible rfl); done)); simp only [Act.put, List.setIfInBounds_toArray, List.set_cons_zero, List.set_cons_succ])
      (refine do_load rfl _ rfl _ rfl _ (fun u hS => hS.kb.get hA (by omega)) ?_; simp only [Act.put, List.setIfInBounds_toArray, List.set_cons_zero, List.set_cons_succ])
      repeat (refine wpD_pure (v := ?_) rfl (fun u => ?_) ?_; rotate_left; (focus (go_simp; (try with_reducible rfl); done)); simp only [Act.put, List.setIfInBounds_toArray, List.set_cons_zero, List.set_cons_succ])
      (refine wpD_call (v := .int .u64 (extN a 8 c k : Nat)) rfl 56 ?_ (fun u => ?_) (fun u hS => ?_) ?_; rotate_left 1; (focus (go_simp; (try with_reducible rfl); done)); (focus (refine (ext8 a c k _ _ rfl hc (by omega)).mono ?_; rintro e u2 ⟨rfl, hb⟩; exact ⟨rfl, hS.below hb⟩)); simp only [Act.put, List.setIfInBounds_toArray, List.set_cons_zero, List.set_cons_succ])
      repeat (refine wpD_pure (v := ?_) rfl (fun u => ?_) ?_; rotate_left; (focus (go_simp; (try with_reducible rfl); done)); simp only [Act.put, List.setIfInBounds_toArray, List.set_cons_zero, List.set_cons_succ])
      (refine do_load rfl _ rfl _ rfl _ (fun u hS => hS.kb.get hB (by omega)) ?_; simp only [Act.put, List.setIfInBounds_toArray, List.set_cons_zero, List.set_cons_succ])
      repeat (refine wpD_pure (v := ?_) rfl (fun u => ?_) ?_; rotate_left; (focus (go_simp; (try with_reducible rfl); done)); simp only [Act.put, List.setIfInBounds_toArray, List.set_cons_zero, List.set_cons_succ])
      (refine wpD_call (v := .int .u64 (extN b 8 c k : Nat)) rfl 56 ?_ (fun u => ?_) (fun u hS => ?_) ?_; rotate_left 1; (focus (go_simp; (try with_reducible rfl); done)); (focus (refine (ext8 b c k _ _ rfl hc (by omega)).mono ?_; rintro e u2 ⟨rfl, hb⟩; exact ⟨rfl, hS.below hb⟩)); simp only [Act.put, List.setIfInBounds_toArray, List.set_cons_zero, List.set_cons_succ])
      repeat (refine wpD_pure (v := ?_) rfl (fun u => ?_) ?_; rotate_left; (focus (go_simp; (try with_reducible rfl); done)); simp only [Act.put, List.setIfInBounds_toArray, List.set_cons_zero, List.set_cons_succ])
      (refine wpD_call (v := .agg (cells (setN (buildOn 0 16 (mulN 8 c a b) k) 16 k (mulN 8 c a b k)))) rfl 54 ?_ (fun u => ?_) (fun u hS => ?_) ?_; rotate_left 1; (focus (go_simp; (try with_reducible rfl); done)); (focus (refine (set16z _ _ _ k (mulN 8 c a b k) _ rfl (wrap_mul _ _) (by omega)).mono ?_; rintro e u2 ⟨rfl, hb⟩; exact ⟨rfl, hS.below hb⟩)); simp only [Act.put, List.setIfInBounds_toArray, List.set_cons_zero, List.set_cons_succ])
      refine wpD_nil (fun wq hq => ?_)
      go_wp2_with ((with_reducible refine store_vec rfl _ _ rfl (w.heap.size + 3) _ rfl rfl _ hq.this ?_; intro wz hz))
      go_roundw
      case rel => exact ⟨k + 1, by omega, by go_num, hq.sets hz⟩
      case measure => (simp [intOf] <;> omega)
    · obtain rfl : k = 8 := by omega
      have hR' := hs.kb.get hR (by omega)
      go_wp2_with (first | (with_reducible refine load_vec rfl _ rfl _ rfl _ hs.this ?_) | (with_reducible refine store_vec rfl _ _ rfl (w.heap.size + 2) _ rfl rfl _ hR' ?_; intro wq hq))
      exact bodyPost_ret (results_vec_tmp rfl _ _ (w.heap.size + 2) _ _ rfl rfl hq.this) rfl ⟨rfl, (hs.kb.to_below hZ (by omega)).trans (hq.below.mono (by omega))⟩


set_option maxHeartbeats 1000000 in
theorem bin_row16 (op : Int) (c : Nat) (a b : Vec) (w : World) (hc : c < 4) (hop : op = 64956 + c) :
    Calls Try.prog 22 #[.int .i64 op, .agg (cells a), .agg (cells b)] w fun e w' => e = .returned (.tuple #[.agg (cells (buildOn 0 32 (mulN 16 c a b) 4)), .int .i64 0]) ∧ Below w.heap.size w w' := by
  subst hop
  go_enter Try.func22, Try.ntmps22
  go_wp2_with fail
  rw [← cells_zero]
  obtain ⟨W, hW⟩ : ∃ W, W = (((((w.alloc (.cells (cells a) 45)).alloc (.cells (cells b) 45)).alloc (.cells (cells 0) 45)).alloc (.cells (cells 0) 45))) := ⟨_, rfl⟩
  have hA : W.heap[w.heap.size]? = some (.cells (cells a) 45 (0, 0)) := by rw [hW]; exact heap_alloc4_0 _ _ _ _ _
  have hB : W.heap[w.heap.size + 1]? = some (.cells (cells b) 45 (0, 0)) := by rw [hW]; exact heap_alloc4_1 _ _ _ _ _
  have hR : W.heap[w.heap.size + 2]? = some (.cells (cells 0) 45 (0, 0)) := by rw [hW]; exact heap_alloc4_2 _ _ _ _ _
  have hO : W.heap[w.heap.size + 3]? = some (.cells (cells 0) 45 (0, 0)) := by rw [hW]; exact heap_alloc4_3 _ _ _ _ _
  have hZ : Below w.heap.size w W := by rw [hW]; exact below_alloc4 _ _ _ _ _
  rw [← hW]
  clear hW
  refine (group1 _ 156 c _ hc (by omega) (by decide) (by decide)).mono ?_
  rintro e w' ⟨rfl, rfl⟩
  go_wp2_with fail
  go_loopw [29] (fun j wr => ∃ k : Nat, k ≤ 4 ∧ j = .int .i64 k ∧ St W (w.heap.size + 3) (buildOn 0 32 (mulN 16 c a b) k) wr) (fun j _ => 4 - (intOf j).toNat)
  case atStart => exact ⟨0, Nat.zero_le _, rfl, St.start hO⟩
  case round =>
    obtain ⟨k, hk, rfl, hs⟩ := hrel
    by_cases hlt : k < 4
    · go_wp2_with fail
      refine region_do (St W (w.heap.size + 3) (buildOn 0 32 (mulN 16 c a b) k)) 16 (by kernel_rfl) (by kernel_rfl) hs.drew ?_
      simp only [List.take_succ_cons, List.take_zero, List.drop_succ_cons, List.drop_zero]
      (refine do_load rfl _ rfl _ rfl _ (fun u hS => hS.this) ?_; simp only [Act.put, List.setIfInBounds_toArray, List.set_cons_zero, List.set_cons_succ])
      repeat (refine wpD_pure (v := ?_) rfl (fun u => ?_) ?_; rotate_left; (focus (go_simp; (try with_reducible rfl); done)); simp only [Act.put, List.setIfInBounds_toArray, List.set_cons_zero, List.set_cons_succ])
      (refine do_load rfl _ rfl _ rfl _ (fun u hS => hS.kb.get hA (by omega)) ?_; simp only [Act.put, List.setIfInBounds_toArray, List.set_cons_zero, List.set_cons_succ])
      repeat (refine wpD_pure (v := ?_) rfl (fun u => ?_) ?_; rotate_left; (focus (go_simp; (try with_reducible rfl); done)); simp only [Act.put, List.setIfInBounds_toArray, List.set_cons_zero, List.set_cons_succ])
      (refine wpD_call (v := .int .u64 (extN a 16 c k : Nat)) rfl 56 ?_ (fun u => ?_) (fun u hS => ?_) ?_; rotate_left 1; (focus (go_simp; (try with_reducible rfl); done)); (focus (refine (ext16 a c k _ _ rfl hc (by omega)).mono ?_; rintro e u2 ⟨rfl, hb⟩; exact ⟨rfl, hS.below hb⟩)); simp only [Act.put, List.setIfInBounds_toArray, List.set_cons_zero, List.set_cons_succ])
      repeat (refine wpD_pure (v := ?_) rfl (fun u => ?_) ?_; rotate_left; (focus (go_simp; (try with_reducible rfl); done)); simp only [Act.put, List.setIfInBounds_toArray, List.set_cons_zero, List.set_cons_succ])
      (refine do_load rfl _ rfl _ rfl _ (fun u hS => hS.kb.get hB (by omega)) ?_; simp only [Act.put, List.setIfInBounds_toArray, List.set_cons_zero, List.set_cons_succ])
      repeat (refine wpD_pure (v := ?_) rfl (fun u => ?_) ?_; rotate_left; (focus (go_simp; (try with_reducible rfl); done)); simp only [Act.put, List.setIfInBounds_toArray, List.set_cons_zero, List.set_cons_succ])
      (refine wpD_call (v := .int .u64 (extN b 16 c k : Nat)) rfl 56 ?_ (fun u => ?_) (fun u hS => ?_) ?_; rotate_left 1; (focus (go_simp; (try with_reducible rfl); done)); (focus (refine (ext16 b c k _ _ rfl hc (by omega)).mono ?_; rintro e u2 ⟨rfl, hb⟩; exact ⟨rfl, hS.below hb⟩)); simp only [Act.put, List.setIfInBounds_toArray, List.set_cons_zero, List.set_cons_succ])
      repeat (refine wpD_pure (v := ?_) rfl (fun u => ?_) ?_; rotate_left; (focus (go_simp; (try with_reducible rfl); done)); simp only [Act.put, List.setIfInBounds_toArray, List.set_cons_zero, List.set_cons_succ])
      (refine wpD_call (v := .agg (cells (setN (buildOn 0 32 (mulN 16 c a b) k) 32 k (mulN 16 c a b k)))) rfl 54 ?_ (fun u => ?_) (fun u hS => ?_) ?_; rotate_left 1; (focus (go_simp; (try with_reducible rfl); done)); (focus (refine (set32z _ _ _ k (mulN 16 c a b k) _ rfl (wrap_mul _ _) (by omega)).mono ?_; rintro e u2 ⟨rfl, hb⟩; exact ⟨rfl, hS.below hb⟩)); simp only [Act.put, List.setIfInBounds_toArray, List.set_cons_zero, List.set_cons_succ])
      refine wpD_nil (fun wq hq => ?_)
      go_wp2_with ((with_reducible refine store_vec rfl _ _ rfl (w.heap.size + 3) _ rfl rfl _ hq.this ?_; intro wz hz))
      go_roundw
      case rel => exact ⟨k + 1, by omega, by go_num, hq.sets hz⟩
      case measure => (simp [intOf] <;> omega)
    · obtain rfl : k = 4 := by omega
      have hR' := hs.kb.get hR (by omega)
      go_wp2_with (first | (with_reducible refine load_vec rfl _ rfl _ rfl _ hs.this ?_) | (with_reducible refine store_vec rfl _ _ rfl (w.heap.size + 2) _ rfl rfl _ hR' ?_; intro wq hq))
      exact bodyPost_ret (results_vec_tmp rfl _ _ (w.heap.size + 2) _ _ rfl rfl hq.this) rfl ⟨rfl, (hs.kb.to_below hZ (by omega)).trans (hq.below.mono (by omega))⟩


set_option maxHeartbeats 1000000 in
theorem bin_row32 (op : Int) (c : Nat) (a b : Vec) (w : World) (hc : c < 4) (hop : op = 64988 + c) :
    Calls Try.prog 22 #[.int .i64 op, .agg (cells a), .agg (cells b)] w fun e w' => e = .returned (.tuple #[.agg (cells (buildOn 0 64 (mulN 32 c a b) 2)), .int .i64 0]) ∧ Below w.heap.size w w' := by
  subst hop
  go_enter Try.func22, Try.ntmps22
  go_wp2_with fail
  rw [← cells_zero]
  obtain ⟨W, hW⟩ : ∃ W, W = (((((w.alloc (.cells (cells a) 45)).alloc (.cells (cells b) 45)).alloc (.cells (cells 0) 45)).alloc (.cells (cells 0) 45))) := ⟨_, rfl⟩
  have hA : W.heap[w.heap.size]? = some (.cells (cells a) 45 (0, 0)) := by rw [hW]; exact heap_alloc4_0 _ _ _ _ _
  have hB : W.heap[w.heap.size + 1]? = some (.cells (cells b) 45 (0, 0)) := by rw [hW]; exact heap_alloc4_1 _ _ _ _ _
  have hR : W.heap[w.heap.size + 2]? = some (.cells (cells 0) 45 (0, 0)) := by rw [hW]; exact heap_alloc4_2 _ _ _ _ _
  have hO : W.heap[w.heap.size + 3]? = some (.cells (cells 0) 45 (0, 0)) := by rw [hW]; exact heap_alloc4_3 _ _ _ _ _
  have hZ : Below w.heap.size w W := by rw [hW]; exact below_alloc4 _ _ _ _ _
  rw [← hW]
  clear hW
  refine (group2 _ 156 c _ hc (by omega) (by decide) (by decide)).mono ?_
  rintro e w' ⟨rfl, rfl⟩
  go_wp2_with fail
  go_loopw [29] (fun j wr => ∃ k : Nat, k ≤ 2 ∧ j = .int .i64 k ∧ St W (w.heap.size + 3) (buildOn 0 64 (mulN 32 c a b) k) wr) (fun j _ => 2 - (intOf j).toNat)
  case atStart => exact ⟨0, Nat.zero_le _, rfl, St.start hO⟩
  case round =>
    obtain ⟨k, hk, rfl, hs⟩ := hrel
    by_cases hlt : k < 2
    · go_wp2_with fail
      refine region_do (St W (w.heap.size + 3) (buildOn 0 64 (mulN 32 c a b) k)) 16 (by kernel_rfl) (by kernel_rfl) hs.drew ?_
      simp only [List.take_succ_cons, List.take_zero, List.drop_succ_cons, List.drop_zero]
      (refine do_load rfl _ rfl _ rfl _ (fun u hS => hS.this) ?_; simp only [Act.put, List.setIfInBounds_toArray, List.set_cons_zero, List.set_cons_succ])
      repeat (refine wpD_pure (v := ?_) rfl (fun u => ?_) ?_; rotate_left; (focus (go_simp; (try with_reducible rfl); done)); simp only [Act.put, List.setIfInBounds_toArray, List.set_cons_zero, List.set_cons_succ])
      (refine do_load rfl _ rfl _ rfl _ (fun u hS => hS.kb.get hA (by omega)) ?_; simp only [Act.put, List.setIfInBounds_toArray, List.set_cons_zero, List.set_cons_succ])
      repeat (refine wpD_pure (v := ?_) rfl (fun u => ?_) ?_; rotate_left; (focus (go_simp; (try with_reducible rfl); done)); simp only [Act.put, List.setIfInBounds_toArray, List.set_cons_zero, List.set_cons_succ])
      (refine wpD_call (v := .int .u64 (extN a 32 c k : Nat)) rfl 56 ?_ (fun u => ?_) (fun u hS => ?_) ?_; rotate_left 1; (focus (go_simp; (try with_reducible rfl); done)); (focus (refine (ext32 a c k _ _ rfl hc (by omega)).mono ?_; rintro e u2 ⟨rfl, hb⟩; exact ⟨rfl, hS.below hb⟩)); simp only [Act.put, List.setIfInBounds_toArray, List.set_cons_zero, List.set_cons_succ])
      repeat (refine wpD_pure (v := ?_) rfl (fun u => ?_) ?_; rotate_left; (focus (go_simp; (try with_reducible rfl); done)); simp only [Act.put, List.setIfInBounds_toArray, List.set_cons_zero, List.set_cons_succ])
      (refine do_load rfl _ rfl _ rfl _ (fun u hS => hS.kb.get hB (by omega)) ?_; simp only [Act.put, List.setIfInBounds_toArray, List.set_cons_zero, List.set_cons_succ])
      repeat (refine wpD_pure (v := ?_) rfl (fun u => ?_) ?_; rotate_left; (focus (go_simp; (try with_reducible rfl); done)); simp only [Act.put, List.setIfInBounds_toArray, List.set_cons_zero, List.set_cons_succ])
      (refine wpD_call (v := .int .u64 (extN b 32 c k : Nat)) rfl 56 ?_ (fun u => ?_) (fun u hS => ?_) ?_; rotate_left 1; (focus (go_simp; (try with_reducible rfl); done)); (focus (refine (ext32 b c k _ _ rfl hc (by omega)).mono ?_; rintro e u2 ⟨rfl, hb⟩; exact ⟨rfl, hS.below hb⟩)); simp only [Act.put, List.setIfInBounds_toArray, List.set_cons_zero, List.set_cons_succ])
      repeat (refine wpD_pure (v := ?_) rfl (fun u => ?_) ?_; rotate_left; (focus (go_simp; (try with_reducible rfl); done)); simp only [Act.put, List.setIfInBounds_toArray, List.set_cons_zero, List.set_cons_succ])
      (refine wpD_call (v := .agg (cells (setN (buildOn 0 64 (mulN 32 c a b) k) 64 k (mulN 32 c a b k)))) rfl 54 ?_ (fun u => ?_) (fun u hS => ?_) ?_; rotate_left 1; (focus (go_simp; (try with_reducible rfl); done)); (focus (refine (set64z _ _ _ k (mulN 32 c a b k) _ rfl (wrap_mul _ _) (by omega)).mono ?_; rintro e u2 ⟨rfl, hb⟩; exact ⟨rfl, hS.below hb⟩)); simp only [Act.put, List.setIfInBounds_toArray, List.set_cons_zero, List.set_cons_succ])
      refine wpD_nil (fun wq hq => ?_)
      go_wp2_with ((with_reducible refine store_vec rfl _ _ rfl (w.heap.size + 3) _ rfl rfl _ hq.this ?_; intro wz hz))
      go_roundw
      case rel => exact ⟨k + 1, by omega, by go_num, hq.sets hz⟩
      case measure => (simp [intOf] <;> omega)
    · obtain rfl : k = 2 := by omega
      have hR' := hs.kb.get hR (by omega)
      go_wp2_with (first | (with_reducible refine load_vec rfl _ rfl _ rfl _ hs.this ?_) | (with_reducible refine store_vec rfl _ _ rfl (w.heap.size + 2) _ rfl rfl _ hR' ?_; intro wq hq))
      exact bodyPost_ret (results_vec_tmp rfl _ _ (w.heap.size + 2) _ _ rfl rfl hq.this) rfl ⟨rfl, (hs.kb.to_below hZ (by omega)).trans (hq.below.mono (by omega))⟩

end Go.Proofs.Ytcpfabkokgiepaa
