/-
  plaitref08.Bin: the narrowing opcodes.
-/
import Derived.Test.YtnjhojjpajnbhaaWidH
import Derived.Test.YtnjhojjpajnbhaaDoG
namespace Go.Proofs.Ytnjhojjpajnbhaa
open Go.RowKit Pl


set_option maxRecDepth 100000 in
set_option maxHeartbeats 1000000 in
theorem rbin_narrow101 (a b : Vec) (w : World) :
    Calls Try.prog 13 #[.int .i64 64869, .agg (cells a), .agg (cells b)] w fun e w' => e = .returned (.tuple #[.agg (cells (buildOn 0 8 (rnarN 8 8 (-128) 127 a b) 16)), .int .i64 0]) ∧ Below w.heap.size w w' := by
  go_enter Try.func13, Try.ntmps13
  go_wp2_with fail
  rw [← cells_zero]
  obtain ⟨W, hW⟩ : ∃ W, W = (((((w.alloc (.cells (cells a) 23)).alloc (.cells (cells b) 23)).alloc (.cells (cells 0) 23)).alloc (.cells (cells 0) 23))) := ⟨_, rfl⟩
  have hA : W.heap[w.heap.size]? = some (.cells (cells a) 23 (0, 0)) := by rw [hW]; exact heap_alloc4_0 _ _ _ _ _
  have hB : W.heap[w.heap.size + 1]? = some (.cells (cells b) 23 (0, 0)) := by rw [hW]; exact heap_alloc4_1 _ _ _ _ _
  have hR : W.heap[w.heap.size + 2]? = some (.cells (cells 0) 23 (0, 0)) := by rw [hW]; exact heap_alloc4_2 _ _ _ _ _
  have hO : W.heap[w.heap.size + 3]? = some (.cells (cells 0) 23 (0, 0)) := by rw [hW]; exact heap_alloc4_3 _ _ _ _ _
  have hZ : Below w.heap.size w W := by rw [hW]; exact below_alloc4 _ _ _ _ _
  rw [← hW]
  clear hW
  go_wp2_with fail
  go_loopw [12] (fun j wr => ∃ k : Nat, k ≤ 16 ∧ j = .int .i64 k ∧ St W (w.heap.size + 3) (buildOn 0 8 (rnarN 8 8 (-128) 127 a b) k) wr) (fun j _ => 16 - (intOf j).toNat)
  case atStart => exact ⟨0, Nat.zero_le _, rfl, St.start hO⟩
  case round =>
    obtain ⟨k, hk, rfl, hs⟩ := hrel
    by_cases hlt : k < 8
    · go_wp2_with (first | (with_reducible refine load_vec rfl _ rfl _ rfl _ (hs.kb.get hA (by omega)) ?_) | (go_at_call 26; with_reducible refine (rsigned16z a _ k _ rfl (by omega)).mono ?_; rintro e u2 ⟨rfl, hb⟩; have hq2 := hs.below hb))
      refine region_do (St W (w.heap.size + 3) (buildOn 0 8 (rnarN 8 8 (-128) 127 a b) k)) 13 (by kernel_rfl) (by kernel_rfl) hq2.drew ?_
      simp only [List.take_succ_cons, List.take_zero, List.drop_succ_cons, List.drop_zero]
      (refine do_load rfl _ rfl _ rfl _ (fun u hS => hS.this) ?_; simp only [Act.put, List.setIfInBounds_toArray, List.set_cons_zero, List.set_cons_succ])
      repeat (first | (refine wpD_pure (v := ?_) rfl (fun u => ?_) ?_; rotate_left; (focus (go_simp; (try with_reducible rfl); done)); simp only [Act.put, List.setIfInBounds_toArray, List.set_cons_zero, List.set_cons_succ]) | (refine wpD_pureg (v := ?_) rfl (fun u => ?_) ?_; rotate_left; (focus (go_simp; (try with_reducible rfl); done)); simp only [Act.put, List.setIfInBounds_toArray, List.set_cons_zero, List.set_cons_succ]) | (refine wpD_skip rfl ?_; simp only [Act.put, List.setIfInBounds_toArray, List.set_cons_zero, List.set_cons_succ]))
      (refine wpD_call (v := .int .u64 (rnarN 8 8 (-128) 127 a b k : Nat)) rfl 27 ?_ (fun u => ?_) (fun u hS => ?_) ?_; rotate_left 1; (focus (go_simp; (try with_reducible rfl); done)); (focus (refine (rhold8s _ _ (rnarN 8 8 (-128) 127 a b k) _ rfl (rnar_a 8 8 _ _ a b k (by omega))).mono ?_; rintro e u2 ⟨rfl, hb⟩; exact ⟨rfl, hS.below hb⟩)); simp only [Act.put, List.setIfInBounds_toArray, List.set_cons_zero, List.set_cons_succ])
      (refine wpD_call (v := .agg (cells (setN (buildOn 0 8 (rnarN 8 8 (-128) 127 a b) k) 8 k (rnarN 8 8 (-128) 127 a b k)))) rfl 23 ?_ (fun u => ?_) (fun u hS => ?_) ?_; rotate_left 1; (focus (go_simp; (try with_reducible rfl); done)); (focus (refine (rset8z _ _ _ k (rnarN 8 8 (-128) 127 a b k) _ rfl rfl (by omega) (u64_lt _)).mono ?_; rintro e u2 ⟨rfl, hb⟩; exact ⟨rfl, hS.below hb⟩)); simp only [Act.put, List.setIfInBounds_toArray, List.set_cons_zero, List.set_cons_succ])
      refine wpD_nil (fun wr2 hr => ?_)
      go_wp2_with ((with_reducible refine store_vec rfl _ _ rfl (w.heap.size + 3) _ rfl rfl _ hr.this ?_; intro wy hy))
      go_roundw
      case rel => first | exact ⟨k + 1, by omega, by go_num, hr.sets hy⟩ | ((repeat apply Exists.intro); exact ⟨⟨k + 1, by omega, by go_num, hr.sets hy⟩, rfl⟩)
      case measure => (simp [intOf] <;> omega)
    · by_cases hlt2 : k < 16
      · have e1 : IntKind.i64.wrap ((k : Int) - 8) = k - 8 := IntWalk.i64_in _ (by omega)
        go_wp2_with (first | (with_reducible refine load_vec rfl _ rfl _ rfl _ (hs.kb.get hA (by omega)) ?_) | (go_at_call 26; with_reducible refine (rsigned_out16 a _ k _ rfl (by omega)).mono ?_; rintro e u2 ⟨rfl, hb⟩; have hq1 := hs.below hb) | (with_reducible refine load_vec rfl _ rfl _ rfl _ (hq1.kb.get hB (by omega)) ?_) | (go_at_call 26; with_reducible refine (rsigned16z b _ (k - 8) _ (by omega) (by omega)).mono ?_; rintro e u2 ⟨rfl, hb2⟩; have hq2 := hq1.below hb2))
        refine region_do (St W (w.heap.size + 3) (buildOn 0 8 (rnarN 8 8 (-128) 127 a b) k)) 13 (by kernel_rfl) (by kernel_rfl) hq2.drew ?_
        simp only [List.take_succ_cons, List.take_zero, List.drop_succ_cons, List.drop_zero]
        (refine do_load rfl _ rfl _ rfl _ (fun u hS => hS.this) ?_; simp only [Act.put, List.setIfInBounds_toArray, List.set_cons_zero, List.set_cons_succ])
        repeat (first | (refine wpD_pure (v := ?_) rfl (fun u => ?_) ?_; rotate_left; (focus (go_simp; (try with_reducible rfl); done)); simp only [Act.put, List.setIfInBounds_toArray, List.set_cons_zero, List.set_cons_succ]) | (refine wpD_pureg (v := ?_) rfl (fun u => ?_) ?_; rotate_left; (focus (go_simp; (try with_reducible rfl); done)); simp only [Act.put, List.setIfInBounds_toArray, List.set_cons_zero, List.set_cons_succ]) | (refine wpD_skip rfl ?_; simp only [Act.put, List.setIfInBounds_toArray, List.set_cons_zero, List.set_cons_succ]))
        (refine wpD_call (v := .int .u64 (rnarN 8 8 (-128) 127 a b k : Nat)) rfl 27 ?_ (fun u => ?_) (fun u hS => ?_) ?_; rotate_left 1; (focus (go_simp; (try with_reducible rfl); done)); (focus (refine (rhold8s _ _ (rnarN 8 8 (-128) 127 a b k) _ rfl (rnar_b 8 8 _ _ a b k (by omega))).mono ?_; rintro e u2 ⟨rfl, hb⟩; exact ⟨rfl, hS.below hb⟩)); simp only [Act.put, List.setIfInBounds_toArray, List.set_cons_zero, List.set_cons_succ])
        (refine wpD_call (v := .agg (cells (setN (buildOn 0 8 (rnarN 8 8 (-128) 127 a b) k) 8 k (rnarN 8 8 (-128) 127 a b k)))) rfl 23 ?_ (fun u => ?_) (fun u hS => ?_) ?_; rotate_left 1; (focus (go_simp; (try with_reducible rfl); done)); (focus (refine (rset8z _ _ _ k (rnarN 8 8 (-128) 127 a b k) _ rfl rfl (by omega) (u64_lt _)).mono ?_; rintro e u2 ⟨rfl, hb⟩; exact ⟨rfl, hS.below hb⟩)); simp only [Act.put, List.setIfInBounds_toArray, List.set_cons_zero, List.set_cons_succ])
        refine wpD_nil (fun wr2 hr => ?_)
        go_wp2_with ((with_reducible refine store_vec rfl _ _ rfl (w.heap.size + 3) _ rfl rfl _ hr.this ?_; intro wy hy))
        go_roundw
        case rel => first | exact ⟨k + 1, by omega, by go_num, hr.sets hy⟩ | ((repeat apply Exists.intro); exact ⟨⟨k + 1, by omega, by go_num, hr.sets hy⟩, rfl⟩)
        case measure => (simp [intOf] <;> omega)
      · obtain rfl : k = 16 := by omega
        have hR' := hs.kb.get hR (by omega)
        go_wp2_with (first | (with_reducible refine load_vec rfl _ rfl _ rfl _ hs.this ?_) | (with_reducible refine store_vec rfl _ _ rfl (w.heap.size + 2) _ rfl rfl _ hR' ?_; intro wq hq))
        exact bodyPost_ret (results_vec_tmp rfl _ _ (w.heap.size + 2) _ _ rfl rfl hq.this) rfl ⟨rfl, (hs.kb.to_below hZ (by omega)).trans (hq.below.mono (by omega))⟩


set_option maxRecDepth 100000 in
set_option maxHeartbeats 1000000 in
theorem rbin_narrow102 (a b : Vec) (w : World) :
    Calls Try.prog 13 #[.int .i64 64870, .agg (cells a), .agg (cells b)] w fun e w' => e = .returned (.tuple #[.agg (cells (buildOn 0 8 (rnarN 8 8 (0) 255 a b) 16)), .int .i64 0]) ∧ Below w.heap.size w w' := by
  go_enter Try.func13, Try.ntmps13
  go_wp2_with fail
  rw [← cells_zero]
  obtain ⟨W, hW⟩ : ∃ W, W = (((((w.alloc (.cells (cells a) 23)).alloc (.cells (cells b) 23)).alloc (.cells (cells 0) 23)).alloc (.cells (cells 0) 23))) := ⟨_, rfl⟩
  have hA : W.heap[w.heap.size]? = some (.cells (cells a) 23 (0, 0)) := by rw [hW]; exact heap_alloc4_0 _ _ _ _ _
  have hB : W.heap[w.heap.size + 1]? = some (.cells (cells b) 23 (0, 0)) := by rw [hW]; exact heap_alloc4_1 _ _ _ _ _
  have hR : W.heap[w.heap.size + 2]? = some (.cells (cells 0) 23 (0, 0)) := by rw [hW]; exact heap_alloc4_2 _ _ _ _ _
  have hO : W.heap[w.heap.size + 3]? = some (.cells (cells 0) 23 (0, 0)) := by rw [hW]; exact heap_alloc4_3 _ _ _ _ _
  have hZ : Below w.heap.size w W := by rw [hW]; exact below_alloc4 _ _ _ _ _
  rw [← hW]
  clear hW
  go_wp2_with fail
  go_loopw [12] (fun j wr => ∃ k : Nat, k ≤ 16 ∧ j = .int .i64 k ∧ St W (w.heap.size + 3) (buildOn 0 8 (rnarN 8 8 (0) 255 a b) k) wr) (fun j _ => 16 - (intOf j).toNat)
  case atStart => exact ⟨0, Nat.zero_le _, rfl, St.start hO⟩
  case round =>
    obtain ⟨k, hk, rfl, hs⟩ := hrel
    by_cases hlt : k < 8
    · go_wp2_with (first | (with_reducible refine load_vec rfl _ rfl _ rfl _ (hs.kb.get hA (by omega)) ?_) | (go_at_call 26; with_reducible refine (rsigned16z a _ k _ rfl (by omega)).mono ?_; rintro e u2 ⟨rfl, hb⟩; have hq2 := hs.below hb))
      refine region_do (St W (w.heap.size + 3) (buildOn 0 8 (rnarN 8 8 (0) 255 a b) k)) 13 (by kernel_rfl) (by kernel_rfl) hq2.drew ?_
      simp only [List.take_succ_cons, List.take_zero, List.drop_succ_cons, List.drop_zero]
      (refine do_load rfl _ rfl _ rfl _ (fun u hS => hS.this) ?_; simp only [Act.put, List.setIfInBounds_toArray, List.set_cons_zero, List.set_cons_succ])
      repeat (first | (refine wpD_pure (v := ?_) rfl (fun u => ?_) ?_; rotate_left; (focus (go_simp; (try with_reducible rfl); done)); simp only [Act.put, List.setIfInBounds_toArray, List.set_cons_zero, List.set_cons_succ]) | (refine wpD_pureg (v := ?_) rfl (fun u => ?_) ?_; rotate_left; (focus (go_simp; (try with_reducible rfl); done)); simp only [Act.put, List.setIfInBounds_toArray, List.set_cons_zero, List.set_cons_succ]) | (refine wpD_skip rfl ?_; simp only [Act.put, List.setIfInBounds_toArray, List.set_cons_zero, List.set_cons_succ]))
      (refine wpD_call (v := .int .u64 (rnarN 8 8 (0) 255 a b k : Nat)) rfl 27 ?_ (fun u => ?_) (fun u hS => ?_) ?_; rotate_left 1; (focus (go_simp; (try with_reducible rfl); done)); (focus (refine (rhold8u _ _ (rnarN 8 8 (0) 255 a b k) _ rfl (rnar_a 8 8 _ _ a b k (by omega))).mono ?_; rintro e u2 ⟨rfl, hb⟩; exact ⟨rfl, hS.below hb⟩)); simp only [Act.put, List.setIfInBounds_toArray, List.set_cons_zero, List.set_cons_succ])
      (refine wpD_call (v := .agg (cells (setN (buildOn 0 8 (rnarN 8 8 (0) 255 a b) k) 8 k (rnarN 8 8 (0) 255 a b k)))) rfl 23 ?_ (fun u => ?_) (fun u hS => ?_) ?_; rotate_left 1; (focus (go_simp; (try with_reducible rfl); done)); (focus (refine (rset8z _ _ _ k (rnarN 8 8 (0) 255 a b k) _ rfl rfl (by omega) (u64_lt _)).mono ?_; rintro e u2 ⟨rfl, hb⟩; exact ⟨rfl, hS.below hb⟩)); simp only [Act.put, List.setIfInBounds_toArray, List.set_cons_zero, List.set_cons_succ])
      refine wpD_nil (fun wr2 hr => ?_)
      go_wp2_with ((with_reducible refine store_vec rfl _ _ rfl (w.heap.size + 3) _ rfl rfl _ hr.this ?_; intro wy hy))
      go_roundw
      case rel => first | exact ⟨k + 1, by omega, by go_num, hr.sets hy⟩ | ((repeat apply Exists.intro); exact ⟨⟨k + 1, by omega, by go_num, hr.sets hy⟩, rfl⟩)
      case measure => (simp [intOf] <;> omega)
    · by_cases hlt2 : k < 16
      · have e1 : IntKind.i64.wrap ((k : Int) - 8) = k - 8 := IntWalk.i64_in _ (by omega)
        go_wp2_with (first | (with_reducible refine load_vec rfl _ rfl _ rfl _ (hs.kb.get hA (by omega)) ?_) | (go_at_call 26; with_reducible refine (rsigned_out16 a _ k _ rfl (by omega)).mono ?_; rintro e u2 ⟨rfl, hb⟩; have hq1 := hs.below hb) | (with_reducible refine load_vec rfl _ rfl _ rfl _ (hq1.kb.get hB (by omega)) ?_) | (go_at_call 26; with_reducible refine (rsigned16z b _ (k - 8) _ (by omega) (by omega)).mono ?_; rintro e u2 ⟨rfl, hb2⟩; have hq2 := hq1.below hb2))
        refine region_do (St W (w.heap.size + 3) (buildOn 0 8 (rnarN 8 8 (0) 255 a b) k)) 13 (by kernel_rfl) (by kernel_rfl) hq2.drew ?_
        simp only [List.take_succ_cons, List.take_zero, List.drop_succ_cons, List.drop_zero]
        (refine do_load rfl _ rfl _ rfl _ (fun u hS => hS.this) ?_; simp only [Act.put, List.setIfInBounds_toArray, List.set_cons_zero, List.set_cons_succ])
        repeat (first | (refine wpD_pure (v := ?_) rfl (fun u => ?_) ?_; rotate_left; (focus (go_simp; (try with_reducible rfl); done)); simp only [Act.put, List.setIfInBounds_toArray, List.set_cons_zero, List.set_cons_succ]) | (refine wpD_pureg (v := ?_) rfl (fun u => ?_) ?_; rotate_left; (focus (go_simp; (try with_reducible rfl); done)); simp only [Act.put, List.setIfInBounds_toArray, List.set_cons_zero, List.set_cons_succ]) | (refine wpD_skip rfl ?_; simp only [Act.put, List.setIfInBounds_toArray, List.set_cons_zero, List.set_cons_succ]))
        (refine wpD_call (v := .int .u64 (rnarN 8 8 (0) 255 a b k : Nat)) rfl 27 ?_ (fun u => ?_) (fun u hS => ?_) ?_; rotate_left 1; (focus (go_simp; (try with_reducible rfl); done)); (focus (refine (rhold8u _ _ (rnarN 8 8 (0) 255 a b k) _ rfl (rnar_b 8 8 _ _ a b k (by omega))).mono ?_; rintro e u2 ⟨rfl, hb⟩; exact ⟨rfl, hS.below hb⟩)); simp only [Act.put, List.setIfInBounds_toArray, List.set_cons_zero, List.set_cons_succ])
        (refine wpD_call (v := .agg (cells (setN (buildOn 0 8 (rnarN 8 8 (0) 255 a b) k) 8 k (rnarN 8 8 (0) 255 a b k)))) rfl 23 ?_ (fun u => ?_) (fun u hS => ?_) ?_; rotate_left 1; (focus (go_simp; (try with_reducible rfl); done)); (focus (refine (rset8z _ _ _ k (rnarN 8 8 (0) 255 a b k) _ rfl rfl (by omega) (u64_lt _)).mono ?_; rintro e u2 ⟨rfl, hb⟩; exact ⟨rfl, hS.below hb⟩)); simp only [Act.put, List.setIfInBounds_toArray, List.set_cons_zero, List.set_cons_succ])
        refine wpD_nil (fun wr2 hr => ?_)
        go_wp2_with ((with_reducible refine store_vec rfl _ _ rfl (w.heap.size + 3) _ rfl rfl _ hr.this ?_; intro wy hy))
        go_roundw
        case rel => first | exact ⟨k + 1, by omega, by go_num, hr.sets hy⟩ | ((repeat apply Exists.intro); exact ⟨⟨k + 1, by omega, by go_num, hr.sets hy⟩, rfl⟩)
        case measure => (simp [intOf] <;> omega)
      · obtain rfl : k = 16 := by omega
        have hR' := hs.kb.get hR (by omega)
        go_wp2_with (first | (with_reducible refine load_vec rfl _ rfl _ rfl _ hs.this ?_) | (with_reducible refine store_vec rfl _ _ rfl (w.heap.size + 2) _ rfl rfl _ hR' ?_; intro wq hq))
        exact bodyPost_ret (results_vec_tmp rfl _ _ (w.heap.size + 2) _ _ rfl rfl hq.this) rfl ⟨rfl, (hs.kb.to_below hZ (by omega)).trans (hq.below.mono (by omega))⟩


set_option maxRecDepth 100000 in
set_option maxHeartbeats 1000000 in
theorem rbin_narrow133 (a b : Vec) (w : World) :
    Calls Try.prog 13 #[.int .i64 64901, .agg (cells a), .agg (cells b)] w fun e w' => e = .returned (.tuple #[.agg (cells (buildOn 0 16 (rnarN 16 4 (-32768) 32767 a b) 8)), .int .i64 0]) ∧ Below w.heap.size w w' := by
  go_enter Try.func13, Try.ntmps13
  go_wp2_with fail
  rw [← cells_zero]
  obtain ⟨W, hW⟩ : ∃ W, W = (((((w.alloc (.cells (cells a) 23)).alloc (.cells (cells b) 23)).alloc (.cells (cells 0) 23)).alloc (.cells (cells 0) 23))) := ⟨_, rfl⟩
  have hA : W.heap[w.heap.size]? = some (.cells (cells a) 23 (0, 0)) := by rw [hW]; exact heap_alloc4_0 _ _ _ _ _
  have hB : W.heap[w.heap.size + 1]? = some (.cells (cells b) 23 (0, 0)) := by rw [hW]; exact heap_alloc4_1 _ _ _ _ _
  have hR : W.heap[w.heap.size + 2]? = some (.cells (cells 0) 23 (0, 0)) := by rw [hW]; exact heap_alloc4_2 _ _ _ _ _
  have hO : W.heap[w.heap.size + 3]? = some (.cells (cells 0) 23 (0, 0)) := by rw [hW]; exact heap_alloc4_3 _ _ _ _ _
  have hZ : Below w.heap.size w W := by rw [hW]; exact below_alloc4 _ _ _ _ _
  rw [← hW]
  clear hW
  go_wp2_with fail
  go_loopw [12] (fun j wr => ∃ k : Nat, k ≤ 8 ∧ j = .int .i64 k ∧ St W (w.heap.size + 3) (buildOn 0 16 (rnarN 16 4 (-32768) 32767 a b) k) wr) (fun j _ => 8 - (intOf j).toNat)
  case atStart => exact ⟨0, Nat.zero_le _, rfl, St.start hO⟩
  case round =>
    obtain ⟨k, hk, rfl, hs⟩ := hrel
    by_cases hlt : k < 4
    · go_wp2_with (first | (with_reducible refine load_vec rfl _ rfl _ rfl _ (hs.kb.get hA (by omega)) ?_) | (go_at_call 26; with_reducible refine (rsigned32z a _ k _ rfl (by omega)).mono ?_; rintro e u2 ⟨rfl, hb⟩; have hq2 := hs.below hb))
      refine region_do (St W (w.heap.size + 3) (buildOn 0 16 (rnarN 16 4 (-32768) 32767 a b) k)) 13 (by kernel_rfl) (by kernel_rfl) hq2.drew ?_
      simp only [List.take_succ_cons, List.take_zero, List.drop_succ_cons, List.drop_zero]
      (refine do_load rfl _ rfl _ rfl _ (fun u hS => hS.this) ?_; simp only [Act.put, List.setIfInBounds_toArray, List.set_cons_zero, List.set_cons_succ])
      repeat (first | (refine wpD_pure (v := ?_) rfl (fun u => ?_) ?_; rotate_left; (focus (go_simp; (try with_reducible rfl); done)); simp only [Act.put, List.setIfInBounds_toArray, List.set_cons_zero, List.set_cons_succ]) | (refine wpD_pureg (v := ?_) rfl (fun u => ?_) ?_; rotate_left; (focus (go_simp; (try with_reducible rfl); done)); simp only [Act.put, List.setIfInBounds_toArray, List.set_cons_zero, List.set_cons_succ]) | (refine wpD_skip rfl ?_; simp only [Act.put, List.setIfInBounds_toArray, List.set_cons_zero, List.set_cons_succ]))
      (refine wpD_call (v := .int .u64 (rnarN 16 4 (-32768) 32767 a b k : Nat)) rfl 27 ?_ (fun u => ?_) (fun u hS => ?_) ?_; rotate_left 1; (focus (go_simp; (try with_reducible rfl); done)); (focus (refine (rhold16s _ _ (rnarN 16 4 (-32768) 32767 a b k) _ rfl (rnar_a 16 4 _ _ a b k (by omega))).mono ?_; rintro e u2 ⟨rfl, hb⟩; exact ⟨rfl, hS.below hb⟩)); simp only [Act.put, List.setIfInBounds_toArray, List.set_cons_zero, List.set_cons_succ])
      (refine wpD_call (v := .agg (cells (setN (buildOn 0 16 (rnarN 16 4 (-32768) 32767 a b) k) 16 k (rnarN 16 4 (-32768) 32767 a b k)))) rfl 23 ?_ (fun u => ?_) (fun u hS => ?_) ?_; rotate_left 1; (focus (go_simp; (try with_reducible rfl); done)); (focus (refine (rset16z _ _ _ k (rnarN 16 4 (-32768) 32767 a b k) _ rfl rfl (by omega) (u64_lt _)).mono ?_; rintro e u2 ⟨rfl, hb⟩; exact ⟨rfl, hS.below hb⟩)); simp only [Act.put, List.setIfInBounds_toArray, List.set_cons_zero, List.set_cons_succ])
      refine wpD_nil (fun wr2 hr => ?_)
      go_wp2_with ((with_reducible refine store_vec rfl _ _ rfl (w.heap.size + 3) _ rfl rfl _ hr.this ?_; intro wy hy))
      go_roundw
      case rel => first | exact ⟨k + 1, by omega, by go_num, hr.sets hy⟩ | ((repeat apply Exists.intro); exact ⟨⟨k + 1, by omega, by go_num, hr.sets hy⟩, rfl⟩)
      case measure => (simp [intOf] <;> omega)
    · by_cases hlt2 : k < 8
      · have e1 : IntKind.i64.wrap ((k : Int) - 4) = k - 4 := IntWalk.i64_in _ (by omega)
        go_wp2_with (first | (with_reducible refine load_vec rfl _ rfl _ rfl _ (hs.kb.get hA (by omega)) ?_) | (go_at_call 26; with_reducible refine (rsigned_out32 a _ k _ rfl (by omega)).mono ?_; rintro e u2 ⟨rfl, hb⟩; have hq1 := hs.below hb) | (with_reducible refine load_vec rfl _ rfl _ rfl _ (hq1.kb.get hB (by omega)) ?_) | (go_at_call 26; with_reducible refine (rsigned32z b _ (k - 4) _ (by omega) (by omega)).mono ?_; rintro e u2 ⟨rfl, hb2⟩; have hq2 := hq1.below hb2))
        refine region_do (St W (w.heap.size + 3) (buildOn 0 16 (rnarN 16 4 (-32768) 32767 a b) k)) 13 (by kernel_rfl) (by kernel_rfl) hq2.drew ?_
        simp only [List.take_succ_cons, List.take_zero, List.drop_succ_cons, List.drop_zero]
        (refine do_load rfl _ rfl _ rfl _ (fun u hS => hS.this) ?_; simp only [Act.put, List.setIfInBounds_toArray, List.set_cons_zero, List.set_cons_succ])
        repeat (first | (refine wpD_pure (v := ?_) rfl (fun u => ?_) ?_; rotate_left; (focus (go_simp; (try with_reducible rfl); done)); simp only [Act.put, List.setIfInBounds_toArray, List.set_cons_zero, List.set_cons_succ]) | (refine wpD_pureg (v := ?_) rfl (fun u => ?_) ?_; rotate_left; (focus (go_simp; (try with_reducible rfl); done)); simp only [Act.put, List.setIfInBounds_toArray, List.set_cons_zero, List.set_cons_succ]) | (refine wpD_skip rfl ?_; simp only [Act.put, List.setIfInBounds_toArray, List.set_cons_zero, List.set_cons_succ]))
        (refine wpD_call (v := .int .u64 (rnarN 16 4 (-32768) 32767 a b k : Nat)) rfl 27 ?_ (fun u => ?_) (fun u hS => ?_) ?_; rotate_left 1; (focus (go_simp; (try with_reducible rfl); done)); (focus (refine (rhold16s _ _ (rnarN 16 4 (-32768) 32767 a b k) _ rfl (rnar_b 16 4 _ _ a b k (by omega))).mono ?_; rintro e u2 ⟨rfl, hb⟩; exact ⟨rfl, hS.below hb⟩)); simp only [Act.put, List.setIfInBounds_toArray, List.set_cons_zero, List.set_cons_succ])
        (refine wpD_call (v := .agg (cells (setN (buildOn 0 16 (rnarN 16 4 (-32768) 32767 a b) k) 16 k (rnarN 16 4 (-32768) 32767 a b k)))) rfl 23 ?_ (fun u => ?_) (fun u hS => ?_) ?_; rotate_left 1; (focus (go_simp; (try with_reducible rfl); done)); (focus (refine (rset16z _ _ _ k (rnarN 16 4 (-32768) 32767 a b k) _ rfl rfl (by omega) (u64_lt _)).mono ?_; rintro e u2 ⟨rfl, hb⟩; exact ⟨rfl, hS.below hb⟩)); simp only [Act.put, List.setIfInBounds_toArray, List.set_cons_zero, List.set_cons_succ])
        refine wpD_nil (fun wr2 hr => ?_)
        go_wp2_with ((with_reducible refine store_vec rfl _ _ rfl (w.heap.size + 3) _ rfl rfl _ hr.this ?_; intro wy hy))
        go_roundw
        case rel => first | exact ⟨k + 1, by omega, by go_num, hr.sets hy⟩ | ((repeat apply Exists.intro); exact ⟨⟨k + 1, by omega, by go_num, hr.sets hy⟩, rfl⟩)
        case measure => (simp [intOf] <;> omega)
      · obtain rfl : k = 8 := by omega
        have hR' := hs.kb.get hR (by omega)
        go_wp2_with (first | (with_reducible refine load_vec rfl _ rfl _ rfl _ hs.this ?_) | (with_reducible refine store_vec rfl _ _ rfl (w.heap.size + 2) _ rfl rfl _ hR' ?_; intro wq hq))
        exact bodyPost_ret (results_vec_tmp rfl _ _ (w.heap.size + 2) _ _ rfl rfl hq.this) rfl ⟨rfl, (hs.kb.to_below hZ (by omega)).trans (hq.below.mono (by omega))⟩


set_option maxRecDepth 100000 in
set_option maxHeartbeats 1000000 in
theorem rbin_narrow134 (a b : Vec) (w : World) :
    Calls Try.prog 13 #[.int .i64 64902, .agg (cells a), .agg (cells b)] w fun e w' => e = .returned (.tuple #[.agg (cells (buildOn 0 16 (rnarN 16 4 (0) 65535 a b) 8)), .int .i64 0]) ∧ Below w.heap.size w w' := by
  go_enter Try.func13, Try.ntmps13
  go_wp2_with fail
  rw [← cells_zero]
  obtain ⟨W, hW⟩ : ∃ W, W = (((((w.alloc (.cells (cells a) 23)).alloc (.cells (cells b) 23)).alloc (.cells (cells 0) 23)).alloc (.cells (cells 0) 23))) := ⟨_, rfl⟩
  have hA : W.heap[w.heap.size]? = some (.cells (cells a) 23 (0, 0)) := by rw [hW]; exact heap_alloc4_0 _ _ _ _ _
  have hB : W.heap[w.heap.size + 1]? = some (.cells (cells b) 23 (0, 0)) := by rw [hW]; exact heap_alloc4_1 _ _ _ _ _
  have hR : W.heap[w.heap.size + 2]? = some (.cells (cells 0) 23 (0, 0)) := by rw [hW]; exact heap_alloc4_2 _ _ _ _ _
  have hO : W.heap[w.heap.size + 3]? = some (.cells (cells 0) 23 (0, 0)) := by rw [hW]; exact heap_alloc4_3 _ _ _ _ _
  have hZ : Below w.heap.size w W := by rw [hW]; exact below_alloc4 _ _ _ _ _
  rw [← hW]
  clear hW
  go_wp2_with fail
  go_loopw [12] (fun j wr => ∃ k : Nat, k ≤ 8 ∧ j = .int .i64 k ∧ St W (w.heap.size + 3) (buildOn 0 16 (rnarN 16 4 (0) 65535 a b) k) wr) (fun j _ => 8 - (intOf j).toNat)
  case atStart => exact ⟨0, Nat.zero_le _, rfl, St.start hO⟩
  case round =>
    obtain ⟨k, hk, rfl, hs⟩ := hrel
    by_cases hlt : k < 4
    · go_wp2_with (first | (with_reducible refine load_vec rfl _ rfl _ rfl _ (hs.kb.get hA (by omega)) ?_) | (go_at_call 26; with_reducible refine (rsigned32z a _ k _ rfl (by omega)).mono ?_; rintro e u2 ⟨rfl, hb⟩; have hq2 := hs.below hb))
      refine region_do (St W (w.heap.size + 3) (buildOn 0 16 (rnarN 16 4 (0) 65535 a b) k)) 13 (by kernel_rfl) (by kernel_rfl) hq2.drew ?_
      simp only [List.take_succ_cons, List.take_zero, List.drop_succ_cons, List.drop_zero]
      (refine do_load rfl _ rfl _ rfl _ (fun u hS => hS.this) ?_; simp only [Act.put, List.setIfInBounds_toArray, List.set_cons_zero, List.set_cons_succ])
      repeat (first | (refine wpD_pure (v := ?_) rfl (fun u => ?_) ?_; rotate_left; (focus (go_simp; (try with_reducible rfl); done)); simp only [Act.put, List.setIfInBounds_toArray, List.set_cons_zero, List.set_cons_succ]) | (refine wpD_pureg (v := ?_) rfl (fun u => ?_) ?_; rotate_left; (focus (go_simp; (try with_reducible rfl); done)); simp only [Act.put, List.setIfInBounds_toArray, List.set_cons_zero, List.set_cons_succ]) | (refine wpD_skip rfl ?_; simp only [Act.put, List.setIfInBounds_toArray, List.set_cons_zero, List.set_cons_succ]))
      (refine wpD_call (v := .int .u64 (rnarN 16 4 (0) 65535 a b k : Nat)) rfl 27 ?_ (fun u => ?_) (fun u hS => ?_) ?_; rotate_left 1; (focus (go_simp; (try with_reducible rfl); done)); (focus (refine (rhold16u _ _ (rnarN 16 4 (0) 65535 a b k) _ rfl (rnar_a 16 4 _ _ a b k (by omega))).mono ?_; rintro e u2 ⟨rfl, hb⟩; exact ⟨rfl, hS.below hb⟩)); simp only [Act.put, List.setIfInBounds_toArray, List.set_cons_zero, List.set_cons_succ])
      (refine wpD_call (v := .agg (cells (setN (buildOn 0 16 (rnarN 16 4 (0) 65535 a b) k) 16 k (rnarN 16 4 (0) 65535 a b k)))) rfl 23 ?_ (fun u => ?_) (fun u hS => ?_) ?_; rotate_left 1; (focus (go_simp; (try with_reducible rfl); done)); (focus (refine (rset16z _ _ _ k (rnarN 16 4 (0) 65535 a b k) _ rfl rfl (by omega) (u64_lt _)).mono ?_; rintro e u2 ⟨rfl, hb⟩; exact ⟨rfl, hS.below hb⟩)); simp only [Act.put, List.setIfInBounds_toArray, List.set_cons_zero, List.set_cons_succ])
      refine wpD_nil (fun wr2 hr => ?_)
      go_wp2_with ((with_reducible refine store_vec rfl _ _ rfl (w.heap.size + 3) _ rfl rfl _ hr.this ?_; intro wy hy))
      go_roundw
      case rel => first | exact ⟨k + 1, by omega, by go_num, hr.sets hy⟩ | ((repeat apply Exists.intro); exact ⟨⟨k + 1, by omega, by go_num, hr.sets hy⟩, rfl⟩)
      case measure => (simp [intOf] <;> omega)
    · by_cases hlt2 : k < 8
      · have e1 : IntKind.i64.wrap ((k : Int) - 4) = k - 4 := IntWalk.i64_in _ (by omega)
        go_wp2_with (first | (with_reducible refine load_vec rfl _ rfl _ rfl _ (hs.kb.get hA (by omega)) ?_) | (go_at_call 26; with_reducible refine (rsigned_out32 a _ k _ rfl (by omega)).mono ?_; rintro e u2 ⟨rfl, hb⟩; have hq1 := hs.below hb) | (with_reducible refine load_vec rfl _ rfl _ rfl _ (hq1.kb.get hB (by omega)) ?_) | (go_at_call 26; with_reducible refine (rsigned32z b _ (k - 4) _ (by omega) (by omega)).mono ?_; rintro e u2 ⟨rfl, hb2⟩; have hq2 := hq1.below hb2))
        refine region_do (St W (w.heap.size + 3) (buildOn 0 16 (rnarN 16 4 (0) 65535 a b) k)) 13 (by kernel_rfl) (by kernel_rfl) hq2.drew ?_
        simp only [List.take_succ_cons, List.take_zero, List.drop_succ_cons, List.drop_zero]
        (refine do_load rfl _ rfl _ rfl _ (fun u hS => hS.this) ?_; simp only [Act.put, List.setIfInBounds_toArray, List.set_cons_zero, List.set_cons_succ])
        repeat (first | (refine wpD_pure (v := ?_) rfl (fun u => ?_) ?_; rotate_left; (focus (go_simp; (try with_reducible rfl); done)); simp only [Act.put, List.setIfInBounds_toArray, List.set_cons_zero, List.set_cons_succ]) | (refine wpD_pureg (v := ?_) rfl (fun u => ?_) ?_; rotate_left; (focus (go_simp; (try with_reducible rfl); done)); simp only [Act.put, List.setIfInBounds_toArray, List.set_cons_zero, List.set_cons_succ]) | (refine wpD_skip rfl ?_; simp only [Act.put, List.setIfInBounds_toArray, List.set_cons_zero, List.set_cons_succ]))
        (refine wpD_call (v := .int .u64 (rnarN 16 4 (0) 65535 a b k : Nat)) rfl 27 ?_ (fun u => ?_) (fun u hS => ?_) ?_; rotate_left 1; (focus (go_simp; (try with_reducible rfl); done)); (focus (refine (rhold16u _ _ (rnarN 16 4 (0) 65535 a b k) _ rfl (rnar_b 16 4 _ _ a b k (by omega))).mono ?_; rintro e u2 ⟨rfl, hb⟩; exact ⟨rfl, hS.below hb⟩)); simp only [Act.put, List.setIfInBounds_toArray, List.set_cons_zero, List.set_cons_succ])
        (refine wpD_call (v := .agg (cells (setN (buildOn 0 16 (rnarN 16 4 (0) 65535 a b) k) 16 k (rnarN 16 4 (0) 65535 a b k)))) rfl 23 ?_ (fun u => ?_) (fun u hS => ?_) ?_; rotate_left 1; (focus (go_simp; (try with_reducible rfl); done)); (focus (refine (rset16z _ _ _ k (rnarN 16 4 (0) 65535 a b k) _ rfl rfl (by omega) (u64_lt _)).mono ?_; rintro e u2 ⟨rfl, hb⟩; exact ⟨rfl, hS.below hb⟩)); simp only [Act.put, List.setIfInBounds_toArray, List.set_cons_zero, List.set_cons_succ])
        refine wpD_nil (fun wr2 hr => ?_)
        go_wp2_with ((with_reducible refine store_vec rfl _ _ rfl (w.heap.size + 3) _ rfl rfl _ hr.this ?_; intro wy hy))
        go_roundw
        case rel => first | exact ⟨k + 1, by omega, by go_num, hr.sets hy⟩ | ((repeat apply Exists.intro); exact ⟨⟨k + 1, by omega, by go_num, hr.sets hy⟩, rfl⟩)
        case measure => (simp [intOf] <;> omega)
      · obtain rfl : k = 8 := by omega
        have hR' := hs.kb.get hR (by omega)
        go_wp2_with (first | (with_reducible refine load_vec rfl _ rfl _ rfl _ hs.this ?_) | (with_reducible refine store_vec rfl _ _ rfl (w.heap.size + 2) _ rfl rfl _ hR' ?_; intro wq hq))
        exact bodyPost_ret (results_vec_tmp rfl _ _ (w.heap.size + 2) _ _ rfl rfl hq.this) rfl ⟨rfl, (hs.kb.to_below hZ (by omega)).trans (hq.below.mono (by omega))⟩

end Go.Proofs.Ytnjhojjpajnbhaa
