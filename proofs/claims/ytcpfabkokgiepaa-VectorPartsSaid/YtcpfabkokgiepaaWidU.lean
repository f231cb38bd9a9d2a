/-
  The contract of widen.Un.
-/
import Derived.Test.YtcpfabkokgiepaaWidA
set_option linter.unusedSimpArgs false
set_option linter.unusedVariables false
namespace Go.Proofs.Ytcpfabkokgiepaa
open Go.RowKit Pl


theorem un_row8 (op : Int) (a : Nat) (v : Vec) (w : World) (ha : a < 4) (hop : op = 64903 + a) :
    Calls Try.prog 18 #[.int .i64 op, .agg (cells v)] w fun e w' => e = .returned (.tuple #[.agg (cells (buildOn 0 16 (extN v 8 a) 8)), .int .i64 0]) ∧ Below w.heap.size w w' := by
  subst hop
  go_enter Try.func18, Try.ntmps18
  go_wp2_with (first | (go_at_call 55; refine (group0 _ 135 a _ ha (by omega) (by decide) (by decide)).mono ?_; rintro e w' ⟨rfl, rfl⟩))
  rw [← cells_zero]
  obtain ⟨W, hW⟩ : ∃ W, W = ((w.alloc (.cells (cells v) 45)).alloc (.cells (cells 0) 45)).alloc (.cells (cells 0) 45) := ⟨_, rfl⟩
  have hB : W.heap[w.heap.size]? = some (.cells (cells v) 45 (0, 0)) := hW ▸ heap_alloc3_0 _ _ _ _
  have hR : W.heap[w.heap.size + 1]? = some (.cells (cells 0) 45 (0, 0)) := hW ▸ heap_alloc3_1 _ _ _ _
  have hO : W.heap[w.heap.size + 2]? = some (.cells (cells 0) 45 (0, 0)) := hW ▸ heap_alloc3_2 _ _ _ _
  have hZ : Below w.heap.size w W := hW ▸ below_alloc3 _ _ _ _
  rw [← hW]
  clear hW
  go_loopw [25] (fun j wr => ∃ k : Nat, k ≤ 8 ∧ j = .int .i64 k ∧ St W (w.heap.size + 2) (buildOn 0 16 (extN v 8 a) k) wr) (fun j _ => 8 - (intOf j).toNat)
  case atStart => exact ⟨0, Nat.zero_le _, rfl, St.start hO⟩
  case round =>
    obtain ⟨k, hk, rfl, hs⟩ := hrel
    by_cases hlt : k < 8
    · go_wp2_with fail
      refine region_do (St W (w.heap.size + 2) (buildOn 0 16 (extN v 8 a) k)) 10 (by kernel_rfl) (by kernel_rfl) hs.drew ?_
      simp only [List.take_succ_cons, List.take_zero, List.drop_succ_cons, List.drop_zero]
      refine do_load rfl _ rfl _ rfl _ (fun u hS => hS.this) ?_
      simp only [Act.put, List.setIfInBounds_toArray, List.set_cons_zero, List.set_cons_succ]
      repeat (refine wpD_pure (v := ?_) rfl (fun u => ?_) ?_; rotate_left; (focus (go_simp; (try with_reducible rfl); done)); simp only [Act.put, List.setIfInBounds_toArray, List.set_cons_zero, List.set_cons_succ])
      refine do_load rfl _ rfl _ rfl _ (fun u hS => hS.kb.get hB (by omega)) ?_
      simp only [Act.put, List.setIfInBounds_toArray, List.set_cons_zero, List.set_cons_succ]
      repeat (refine wpD_pure (v := ?_) rfl (fun u => ?_) ?_; rotate_left; (focus (go_simp; (try with_reducible rfl); done)); simp only [Act.put, List.setIfInBounds_toArray, List.set_cons_zero, List.set_cons_succ])
      (refine wpD_call (v := .int .u64 (extN v 8 a k : Nat)) rfl 56 ?_ (fun u => ?_) (fun u hS => ?_) ?_; rotate_left 1; (focus (go_simp; (try with_reducible rfl); done)); (focus (refine (ext8 v a k _ _ rfl ha (by omega)).mono ?_; rintro e u2 ⟨rfl, hb⟩; exact ⟨rfl, hS.below hb⟩)); simp only [Act.put, List.setIfInBounds_toArray, List.set_cons_zero, List.set_cons_succ])
      (refine wpD_call (v := .agg (cells (setN (buildOn 0 16 (extN v 8 a) k) 16 k (extN v 8 a k)))) rfl 54 ?_ (fun u => ?_) (fun u hS => ?_) ?_; rotate_left 1; (focus (go_simp; (try with_reducible rfl); done)); (focus (refine (set16z _ _ _ k _ _ rfl rfl (by omega)).mono ?_; rintro e u2 ⟨rfl, hb⟩; exact ⟨rfl, hS.below hb⟩)); simp only [Act.put, List.setIfInBounds_toArray, List.set_cons_zero, List.set_cons_succ])
      refine wpD_nil (fun wq hq => ?_)
      go_wp2_with (with_reducible refine store_vec rfl _ _ rfl (w.heap.size + 2) _ rfl rfl _ hq.this ?_; intro wz hz)
      go_roundw
      case rel => exact ⟨k + 1, by omega, by go_num, hq.sets hz⟩
      case measure => (simp [intOf] <;> omega)
    · obtain rfl : k = 8 := by omega
      have hR' := hs.kb.get hR (by omega)
      go_wp2_with (first | (with_reducible refine load_vec rfl _ rfl _ rfl _ hs.this ?_) | (with_reducible refine store_vec rfl _ _ rfl (w.heap.size + 1) _ rfl rfl _ hR' ?_; intro wq hq))
      exact bodyPost_ret (results_vec_tmp rfl _ _ (w.heap.size + 1) _ _ rfl rfl hq.this) rfl ⟨rfl, (hs.kb.to_below hZ (by omega)).trans (hq.below.mono (by omega))⟩


theorem un_row16 (op : Int) (a : Nat) (v : Vec) (w : World) (ha : a < 4) (hop : op = 64935 + a) :
    Calls Try.prog 18 #[.int .i64 op, .agg (cells v)] w fun e w' => e = .returned (.tuple #[.agg (cells (buildOn 0 32 (extN v 16 a) 4)), .int .i64 0]) ∧ Below w.heap.size w w' := by
  subst hop
  go_enter Try.func18, Try.ntmps18
  go_wp2_with (first | (go_at_call 55; refine (group1 _ 135 a _ ha (by omega) (by decide) (by decide)).mono ?_; rintro e w' ⟨rfl, rfl⟩))
  rw [← cells_zero]
  obtain ⟨W, hW⟩ : ∃ W, W = ((w.alloc (.cells (cells v) 45)).alloc (.cells (cells 0) 45)).alloc (.cells (cells 0) 45) := ⟨_, rfl⟩
  have hB : W.heap[w.heap.size]? = some (.cells (cells v) 45 (0, 0)) := hW ▸ heap_alloc3_0 _ _ _ _
  have hR : W.heap[w.heap.size + 1]? = some (.cells (cells 0) 45 (0, 0)) := hW ▸ heap_alloc3_1 _ _ _ _
  have hO : W.heap[w.heap.size + 2]? = some (.cells (cells 0) 45 (0, 0)) := hW ▸ heap_alloc3_2 _ _ _ _
  have hZ : Below w.heap.size w W := hW ▸ below_alloc3 _ _ _ _
  rw [← hW]
  clear hW
  go_loopw [25] (fun j wr => ∃ k : Nat, k ≤ 4 ∧ j = .int .i64 k ∧ St W (w.heap.size + 2) (buildOn 0 32 (extN v 16 a) k) wr) (fun j _ => 4 - (intOf j).toNat)
  case atStart => exact ⟨0, Nat.zero_le _, rfl, St.start hO⟩
  case round =>
    obtain ⟨k, hk, rfl, hs⟩ := hrel
    by_cases hlt : k < 4
    · go_wp2_with fail
      refine region_do (St W (w.heap.size + 2) (buildOn 0 32 (extN v 16 a) k)) 10 (by kernel_rfl) (by kernel_rfl) hs.drew ?_
      simp only [List.take_succ_cons, List.take_zero, List.drop_succ_cons, List.drop_zero]
      refine do_load rfl _ rfl _ rfl _ (fun u hS => hS.this) ?_
      simp only [Act.put, List.setIfInBounds_toArray, List.set_cons_zero, List.set_cons_succ]
      repeat (refine wpD_pure (v := ?_) rfl (fun u => ?_) ?_; rotate_left; (focus (go_simp; (try with_reducible rfl); done)); simp only [Act.put, List.setIfInBounds_toArray, List.set_cons_zero, List.set_cons_succ])
      refine do_load rfl _ rfl _ rfl _ (fun u hS => hS.kb.get hB (by omega)) ?_
      simp only [Act.put, List.setIfInBounds_toArray, List.set_cons_zero, List.set_cons_succ]
      repeat (refine wpD_pure (v := ?_) rfl (fun u => ?_) ?_; rotate_left; (focus (go_simp; (try with_reducible rfl); done)); simp only [Act.put, List.setIfInBounds_toArray, List.set_cons_zero, List.set_cons_succ])
      (refine wpD_call (v := .int .u64 (extN v 16 a k : Nat)) rfl 56 ?_ (fun u => ?_) (fun u hS => ?_) ?_; rotate_left 1; (focus (go_simp; (try with_reducible rfl); done)); (focus (refine (ext16 v a k _ _ rfl ha (by omega)).mono ?_; rintro e u2 ⟨rfl, hb⟩; exact ⟨rfl, hS.below hb⟩)); simp only [Act.put, List.setIfInBounds_toArray, List.set_cons_zero, List.set_cons_succ])
      (refine wpD_call (v := .agg (cells (setN (buildOn 0 32 (extN v 16 a) k) 32 k (extN v 16 a k)))) rfl 54 ?_ (fun u => ?_) (fun u hS => ?_) ?_; rotate_left 1; (focus (go_simp; (try with_reducible rfl); done)); (focus (refine (set32z _ _ _ k _ _ rfl rfl (by omega)).mono ?_; rintro e u2 ⟨rfl, hb⟩; exact ⟨rfl, hS.below hb⟩)); simp only [Act.put, List.setIfInBounds_toArray, List.set_cons_zero, List.set_cons_succ])
      refine wpD_nil (fun wq hq => ?_)
      go_wp2_with (with_reducible refine store_vec rfl _ _ rfl (w.heap.size + 2) _ rfl rfl _ hq.this ?_; intro wz hz)
      go_roundw
      case rel => exact ⟨k + 1, by omega, by go_num, hq.sets hz⟩
      case measure => (simp [intOf] <;> omega)
    · obtain rfl : k = 4 := by omega
      have hR' := hs.kb.get hR (by omega)
      go_wp2_with (first | (with_reducible refine load_vec rfl _ rfl _ rfl _ hs.this ?_) | (with_reducible refine store_vec rfl _ _ rfl (w.heap.size + 1) _ rfl rfl _ hR' ?_; intro wq hq))
      exact bodyPost_ret (results_vec_tmp rfl _ _ (w.heap.size + 1) _ _ rfl rfl hq.this) rfl ⟨rfl, (hs.kb.to_below hZ (by omega)).trans (hq.below.mono (by omega))⟩


theorem un_row32 (op : Int) (a : Nat) (v : Vec) (w : World) (ha : a < 4) (hop : op = 64967 + a) :
    Calls Try.prog 18 #[.int .i64 op, .agg (cells v)] w fun e w' => e = .returned (.tuple #[.agg (cells (buildOn 0 64 (extN v 32 a) 2)), .int .i64 0]) ∧ Below w.heap.size w w' := by
  subst hop
  go_enter Try.func18, Try.ntmps18
  go_wp2_with (first | (go_at_call 55; refine (group2 _ 135 a _ ha (by omega) (by decide) (by decide)).mono ?_; rintro e w' ⟨rfl, rfl⟩))
  rw [← cells_zero]
  obtain ⟨W, hW⟩ : ∃ W, W = ((w.alloc (.cells (cells v) 45)).alloc (.cells (cells 0) 45)).alloc (.cells (cells 0) 45) := ⟨_, rfl⟩
  have hB : W.heap[w.heap.size]? = some (.cells (cells v) 45 (0, 0)) := hW ▸ heap_alloc3_0 _ _ _ _
  have hR : W.heap[w.heap.size + 1]? = some (.cells (cells 0) 45 (0, 0)) := hW ▸ heap_alloc3_1 _ _ _ _
  have hO : W.heap[w.heap.size + 2]? = some (.cells (cells 0) 45 (0, 0)) := hW ▸ heap_alloc3_2 _ _ _ _
  have hZ : Below w.heap.size w W := hW ▸ below_alloc3 _ _ _ _
  rw [← hW]
  clear hW
  go_loopw [25] (fun j wr => ∃ k : Nat, k ≤ 2 ∧ j = .int .i64 k ∧ St W (w.heap.size + 2) (buildOn 0 64 (extN v 32 a) k) wr) (fun j _ => 2 - (intOf j).toNat)
  case atStart => exact ⟨0, Nat.zero_le _, rfl, St.start hO⟩
  case round =>
    obtain ⟨k, hk, rfl, hs⟩ := hrel
    by_cases hlt : k < 2
    · go_wp2_with fail
      refine region_do (St W (w.heap.size + 2) (buildOn 0 64 (extN v 32 a) k)) 10 (by kernel_rfl) (by kernel_rfl) hs.drew ?_
      simp only [List.take_succ_cons, List.take_zero, List.drop_succ_cons, List.drop_zero]
      refine do_load rfl _ rfl _ rfl _ (fun u hS => hS.this) ?_
      simp only [Act.put, List.setIfInBounds_toArray, List.set_cons_zero, List.set_cons_succ]
      repeat (refine wpD_pure (v := ?_) rfl (fun u => ?_) ?_; rotate_left; (focus (go_simp; (try with_reducible rfl); done)); simp only [Act.put, List.setIfInBounds_toArray, List.set_cons_zero, List.set_cons_succ])
      refine do_load rfl _ rfl _ rfl _ (fun u hS => hS.kb.get hB (by omega)) ?_
      simp only [Act.put, List.setIfInBounds_toArray, List.set_cons_zero, List.set_cons_succ]
      repeat (refine wpD_pure (v := ?_) rfl (fun u => ?_) ?_; rotate_left; (focus (go_simp; (try with_reducible rfl); done)); simp only [Act.put, List.setIfInBounds_toArray, List.set_cons_zero, List.set_cons_succ])
      (refine wpD_call (v := .int .u64 (extN v 32 a k : Nat)) rfl 56 ?_ (fun u => ?_) (fun u hS => ?_) ?_; rotate_left 1; (focus (go_simp; (try with_reducible rfl); done)); (focus (refine (ext32 v a k _ _ rfl ha (by omega)).mono ?_; rintro e u2 ⟨rfl, hb⟩; exact ⟨rfl, hS.below hb⟩)); simp only [Act.put, List.setIfInBounds_toArray, List.set_cons_zero, List.set_cons_succ])
      (refine wpD_call (v := .agg (cells (setN (buildOn 0 64 (extN v 32 a) k) 64 k (extN v 32 a k)))) rfl 54 ?_ (fun u => ?_) (fun u hS => ?_) ?_; rotate_left 1; (focus (go_simp; (try with_reducible rfl); done)); (focus (refine (set64z _ _ _ k _ _ rfl rfl (by omega)).mono ?_; rintro e u2 ⟨rfl, hb⟩; exact ⟨rfl, hS.below hb⟩)); simp only [Act.put, List.setIfInBounds_toArray, List.set_cons_zero, List.set_cons_succ])
      refine wpD_nil (fun wq hq => ?_)
      go_wp2_with (with_reducible refine store_vec rfl _ _ rfl (w.heap.size + 2) _ rfl rfl _ hq.this ?_; intro wz hz)
      go_roundw
      case rel => exact ⟨k + 1, by omega, by go_num, hq.sets hz⟩
      case measure => (simp [intOf] <;> omega)
    · obtain rfl : k = 2 := by omega
      have hR' := hs.kb.get hR (by omega)
      go_wp2_with (first | (with_reducible refine load_vec rfl _ rfl _ rfl _ hs.this ?_) | (with_reducible refine store_vec rfl _ _ rfl (w.heap.size + 1) _ rfl rfl _ hR' ?_; intro wq hq))
      exact bodyPost_ret (results_vec_tmp rfl _ _ (w.heap.size + 1) _ _ rfl rfl hq.this) rfl ⟨rfl, (hs.kb.to_below hZ (by omega)).trans (hq.below.mono (by omega))⟩

end Go.Proofs.Ytcpfabkokgiepaa
