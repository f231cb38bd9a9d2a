/-
  plaitref08.Bin: rows of products.
-/
import Derived.Test.YtnjhojjpajnbhaaWidH
import Derived.Test.YtnjhojjpajnbhaaDoG
import Derived.Test.YtnjhojjpajnbhaaWidRA
namespace Go.Proofs.Ytnjhojjpajnbhaa
open Go.RowKit Pl
set_option linter.unusedVariables false


set_option maxRecDepth 100000 in
set_option maxHeartbeats 4000000 in
theorem rbin_row8_0 (a b : Vec) (w : World) :
    Calls Try.prog 13 #[.int .i64 64924, .agg (cells a), .agg (cells b)] w fun e w' => e = .returned (.tuple #[.agg (cells (buildOn 0 16 (rmulN 16 ((unW 64903 a).1) ((unW 64903 b).1)) 8)), .int .i64 0]) ∧ Below w.heap.size w w' := by
  go_enter Try.func13, Try.ntmps13
  go_wp2_with fail
  rw [← cells_zero]
  obtain ⟨W, hW, hA, hB, hR, hO, hX, hY, hZ⟩ := heap_alloc6 w (.cells (cells a) 23) (.cells (cells b) 23) (.cells (cells 0) 23) (.cells (cells 0) 23) (.cells (cells 0) 23) (.cells (cells 0) 23)
  rw [← hW]
  clear hW
  refine wp_loop_rounds 1 ?_
  iterate 0 (rw [rounds_succ]; go_wp2_with fail)
  rw [rounds_succ]
  go_wp2_with (first | (with_reducible refine load_vec rfl _ rfl _ rfl _ hA ?_) | (go_at_call 11; (with_reducible refine (run_any 64903 a _).mono ?_); rintro e u2 ⟨rfl, hb⟩; have z1 := hZ.trans (hb.mono (by have := block_lt hY; omega)); have kB1 := blk_keep hB hb; have kR1 := blk_keep hR hb; have kO1 := blk_keep hO hb; have kX1 := blk_keep hX hb; have kY1 := blk_keep hY hb; clear hb) | (with_reducible refine store_vec rfl _ _ rfl (w.heap.size + 4) _ rfl rfl _ kX1 ?_; intro w3 h3; have z2 := z1.trans (h3.below.mono (by omega)); have kB2 := blk_sets kB1 h3 (by omega); have kR2 := blk_sets kR1 h3 (by omega); have kO2 := blk_sets kO1 h3 (by omega); have kY2 := blk_sets kY1 h3 (by omega); have kX2 := h3.this; clear h3 kB1 kR1 kO1 kX1 kY1 z1) | (with_reducible refine load_vec rfl _ rfl _ rfl _ kB2 ?_) | (go_at_call 11; (with_reducible refine (run_any 64903 b _).mono ?_); rintro e u4 ⟨rfl, hb⟩; have z3 := z2.trans (hb.mono (by have := block_lt kY2; omega)); have kB3 := blk_keep kB2 hb; have kR3 := blk_keep kR2 hb; have kO3 := blk_keep kO2 hb; have kX3 := blk_keep kX2 hb; have kY3 := blk_keep kY2 hb; clear hb kB2 kR2 kO2 kX2 kY2 z2) | (with_reducible refine store_vec rfl _ _ rfl (w.heap.size + 5) _ rfl rfl _ kY3 ?_; intro w5 h5; have z4 := z3.trans (h5.below.mono (by omega)); have kB4 := blk_sets kB3 h5 (by omega); have kR4 := blk_sets kR3 h5 (by omega); have kO4 := blk_sets kO3 h5 (by omega); have kX4 := blk_sets kX3 h5 (by omega); have kY4 := h5.this; clear h5 kB3 kR3 kO3 kX3 kY3 z3))
  refine wp_loop_rounds 1 ?_
  iterate 0 (rw [rounds_succ]; go_wp2_with fail)
  rw [rounds_succ]
  go_wp2_with fail
  clear kB4 hA hB hR hO hX hY hZ
  go_loopw [25] (fun jv wr => ∃ k : Nat, k ≤ 8 ∧ jv = .int .i64 k ∧ St w5 (w.heap.size + 3) (buildOn 0 16 (rmulN 16 ((unW 64903 a).1) ((unW 64903 b).1)) k) wr) (fun jv _ => 8 - (intOf jv).toNat)
  case atStart => exact ⟨0, Nat.zero_le _, rfl, St.start kO4⟩
  case round =>
    obtain ⟨k, hk, rfl, hs⟩ := hrel
    by_cases hlt : k < 8
    · go_wp2_with fail
      refine region_do (St w5 (w.heap.size + 3) (buildOn 0 16 (rmulN 16 ((unW 64903 a).1) ((unW 64903 b).1)) k)) 13 (by kernel_rfl) (by kernel_rfl) hs.drew ?_
      simp only [List.take_succ_cons, List.take_zero, List.drop_succ_cons, List.drop_zero]
      (refine do_load rfl _ rfl _ rfl _ (fun u hS => hS.this) ?_; simp only [Act.put, List.setIfInBounds_toArray, List.set_cons_zero, List.set_cons_succ])
      repeat (refine wpD_pure (v := ?_) rfl (fun u => ?_) ?_; rotate_left; (focus (go_simp; (try with_reducible rfl); done)); simp only [Act.put, List.setIfInBounds_toArray, List.set_cons_zero, List.set_cons_succ])
      (refine do_load rfl _ rfl _ rfl _ (fun u hS => hS.kb.get kX4 (by omega)) ?_; simp only [Act.put, List.setIfInBounds_toArray, List.set_cons_zero, List.set_cons_succ])
      repeat (refine wpD_pure (v := ?_) rfl (fun u => ?_) ?_; rotate_left; (focus (go_simp; (try with_reducible rfl); done)); simp only [Act.put, List.setIfInBounds_toArray, List.set_cons_zero, List.set_cons_succ])
      (refine wpD_call (v := .int .u64 (getN ((unW 64903 a).1) 16 k : Nat)) rfl 28 ?_ (fun u => ?_) (fun u hS => ?_) ?_; rotate_left 1; (focus (go_simp; (try with_reducible rfl); done)); (focus (refine (rget16z _ _ k _ rfl (by omega)).mono ?_; rintro e u2 ⟨rfl, hb⟩; exact ⟨rfl, hS.below hb⟩)); simp only [Act.put, List.setIfInBounds_toArray, List.set_cons_zero, List.set_cons_succ])
      (refine do_load rfl _ rfl _ rfl _ (fun u hS => hS.kb.get kY4 (by omega)) ?_; simp only [Act.put, List.setIfInBounds_toArray, List.set_cons_zero, List.set_cons_succ])
      repeat (refine wpD_pure (v := ?_) rfl (fun u => ?_) ?_; rotate_left; (focus (go_simp; (try with_reducible rfl); done)); simp only [Act.put, List.setIfInBounds_toArray, List.set_cons_zero, List.set_cons_succ])
      (refine wpD_call (v := .int .u64 (getN ((unW 64903 b).1) 16 k : Nat)) rfl 28 ?_ (fun u => ?_) (fun u hS => ?_) ?_; rotate_left 1; (focus (go_simp; (try with_reducible rfl); done)); (focus (refine (rget16z _ _ k _ rfl (by omega)).mono ?_; rintro e u2 ⟨rfl, hb⟩; exact ⟨rfl, hS.below hb⟩)); simp only [Act.put, List.setIfInBounds_toArray, List.set_cons_zero, List.set_cons_succ])
      repeat (refine wpD_pure (v := ?_) rfl (fun u => ?_) ?_; rotate_left; (focus (go_simp; (try with_reducible rfl); done)); simp only [Act.put, List.setIfInBounds_toArray, List.set_cons_zero, List.set_cons_succ])
      (refine wpD_call (v := .agg (cells (setN (buildOn 0 16 (rmulN 16 ((unW 64903 a).1) ((unW 64903 b).1)) k) 16 k (rmulN 16 ((unW 64903 a).1) ((unW 64903 b).1) k)))) rfl 23 ?_ (fun u => ?_) (fun u hS => ?_) ?_; rotate_left 1; (focus (go_simp; (try with_reducible rfl); done)); (focus (refine (rset16z _ _ _ k (rmulN 16 ((unW 64903 a).1) ((unW 64903 b).1) k) _ rfl (wrap_mul _ _) (by omega) (Nat.mod_lt _ (by decide))).mono ?_; rintro e u2 ⟨rfl, hb⟩; exact ⟨rfl, hS.below hb⟩)); simp only [Act.put, List.setIfInBounds_toArray, List.set_cons_zero, List.set_cons_succ])
      refine wpD_nil (fun wr2 hr => ?_)
      go_wp2_with ((with_reducible refine store_vec rfl _ _ rfl (w.heap.size + 3) _ rfl rfl _ hr.this ?_; intro wy hy))
      go_roundw
      case rel => first | exact ⟨k + 1, by omega, by go_num, hr.sets hy⟩ | ((repeat apply Exists.intro); exact ⟨⟨k + 1, by omega, by go_num, hr.sets hy⟩, rfl⟩)
      case measure => (simp [intOf] <;> omega)
    · obtain rfl : k = 8 := by omega
      have hR' := hs.kb.get kR4 (by omega)
      go_wp2_with (first | (with_reducible refine load_vec rfl _ rfl _ rfl _ hs.this ?_) | (with_reducible refine store_vec rfl _ _ rfl (w.heap.size + 2) _ rfl rfl _ hR' ?_; intro wq hq))
      exact bodyPost_ret (results_vec_tmp rfl _ _ (w.heap.size + 2) _ _ rfl rfl hq.this) rfl ⟨rfl, (hs.kb.to_below z4 (by omega)).trans (hq.below.mono (by omega))⟩


set_option maxRecDepth 100000 in
set_option maxHeartbeats 4000000 in
theorem rbin_row16_0 (a b : Vec) (w : World) :
    Calls Try.prog 13 #[.int .i64 64956, .agg (cells a), .agg (cells b)] w fun e w' => e = .returned (.tuple #[.agg (cells (buildOn 0 32 (rmulN 32 ((unW 64935 a).1) ((unW 64935 b).1)) 4)), .int .i64 0]) ∧ Below w.heap.size w w' := by
  go_enter Try.func13, Try.ntmps13
  go_wp2_with fail
  rw [← cells_zero]
  obtain ⟨W, hW, hA, hB, hR, hO, hX, hY, hZ⟩ := heap_alloc6 w (.cells (cells a) 23) (.cells (cells b) 23) (.cells (cells 0) 23) (.cells (cells 0) 23) (.cells (cells 0) 23) (.cells (cells 0) 23)
  rw [← hW]
  clear hW
  refine wp_loop_rounds 2 ?_
  iterate 1 (rw [rounds_succ]; go_wp2_with fail)
  rw [rounds_succ]
  go_wp2_with (first | (with_reducible refine load_vec rfl _ rfl _ rfl _ hA ?_) | (go_at_call 11; (with_reducible refine (run_any 64935 a _).mono ?_); rintro e u2 ⟨rfl, hb⟩; have z1 := hZ.trans (hb.mono (by have := block_lt hY; omega)); have kB1 := blk_keep hB hb; have kR1 := blk_keep hR hb; have kO1 := blk_keep hO hb; have kX1 := blk_keep hX hb; have kY1 := blk_keep hY hb; clear hb) | (with_reducible refine store_vec rfl _ _ rfl (w.heap.size + 4) _ rfl rfl _ kX1 ?_; intro w3 h3; have z2 := z1.trans (h3.below.mono (by omega)); have kB2 := blk_sets kB1 h3 (by omega); have kR2 := blk_sets kR1 h3 (by omega); have kO2 := blk_sets kO1 h3 (by omega); have kY2 := blk_sets kY1 h3 (by omega); have kX2 := h3.this; clear h3 kB1 kR1 kO1 kX1 kY1 z1) | (with_reducible refine load_vec rfl _ rfl _ rfl _ kB2 ?_) | (go_at_call 11; (with_reducible refine (run_any 64935 b _).mono ?_); rintro e u4 ⟨rfl, hb⟩; have z3 := z2.trans (hb.mono (by have := block_lt kY2; omega)); have kB3 := blk_keep kB2 hb; have kR3 := blk_keep kR2 hb; have kO3 := blk_keep kO2 hb; have kX3 := blk_keep kX2 hb; have kY3 := blk_keep kY2 hb; clear hb kB2 kR2 kO2 kX2 kY2 z2) | (with_reducible refine store_vec rfl _ _ rfl (w.heap.size + 5) _ rfl rfl _ kY3 ?_; intro w5 h5; have z4 := z3.trans (h5.below.mono (by omega)); have kB4 := blk_sets kB3 h5 (by omega); have kR4 := blk_sets kR3 h5 (by omega); have kO4 := blk_sets kO3 h5 (by omega); have kX4 := blk_sets kX3 h5 (by omega); have kY4 := h5.this; clear h5 kB3 kR3 kO3 kX3 kY3 z3))
  refine wp_loop_rounds 2 ?_
  iterate 1 (rw [rounds_succ]; go_wp2_with fail)
  rw [rounds_succ]
  go_wp2_with fail
  clear kB4 hA hB hR hO hX hY hZ
  go_loopw [25] (fun jv wr => ∃ k : Nat, k ≤ 4 ∧ jv = .int .i64 k ∧ St w5 (w.heap.size + 3) (buildOn 0 32 (rmulN 32 ((unW 64935 a).1) ((unW 64935 b).1)) k) wr) (fun jv _ => 4 - (intOf jv).toNat)
  case atStart => exact ⟨0, Nat.zero_le _, rfl, St.start kO4⟩
  case round =>
    obtain ⟨k, hk, rfl, hs⟩ := hrel
    by_cases hlt : k < 4
    · go_wp2_with fail
      refine region_do (St w5 (w.heap.size + 3) (buildOn 0 32 (rmulN 32 ((unW 64935 a).1) ((unW 64935 b).1)) k)) 13 (by kernel_rfl) (by kernel_rfl) hs.drew ?_
      simp only [List.take_succ_cons, List.take_zero, List.drop_succ_cons, List.drop_zero]
      (refine do_load rfl _ rfl _ rfl _ (fun u hS => hS.this) ?_; simp only [Act.put, List.setIfInBounds_toArray, List.set_cons_zero, List.set_cons_succ])
      repeat (refine wpD_pure (v := ?_) rfl (fun u => ?_) ?_; rotate_left; (focus (go_simp; (try with_reducible rfl); done)); simp only [Act.put, List.setIfInBounds_toArray, List.set_cons_zero, List.set_cons_succ])
      (refine do_load rfl _ rfl _ rfl _ (fun u hS => hS.kb.get kX4 (by omega)) ?_; simp only [Act.put, List.setIfInBounds_toArray, List.set_cons_zero, List.set_cons_succ])
      repeat (refine wpD_pure (v := ?_) rfl (fun u => ?_) ?_; rotate_left; (focus (go_simp; (try with_reducible rfl); done)); simp only [Act.put, List.setIfInBounds_toArray, List.set_cons_zero, List.set_cons_succ])
      (refine wpD_call (v := .int .u64 (getN ((unW 64935 a).1) 32 k : Nat)) rfl 28 ?_ (fun u => ?_) (fun u hS => ?_) ?_; rotate_left 1; (focus (go_simp; (try with_reducible rfl); done)); (focus (refine (rget32z _ _ k _ rfl (by omega)).mono ?_; rintro e u2 ⟨rfl, hb⟩; exact ⟨rfl, hS.below hb⟩)); simp only [Act.put, List.setIfInBounds_toArray, List.set_cons_zero, List.set_cons_succ])
      (refine do_load rfl _ rfl _ rfl _ (fun u hS => hS.kb.get kY4 (by omega)) ?_; simp only [Act.put, List.setIfInBounds_toArray, List.set_cons_zero, List.set_cons_succ])
      repeat (refine wpD_pure (v := ?_) rfl (fun u => ?_) ?_; rotate_left; (focus (go_simp; (try with_reducible rfl); done)); simp only [Act.put, List.setIfInBounds_toArray, List.set_cons_zero, List.set_cons_succ])
      (refine wpD_call (v := .int .u64 (getN ((unW 64935 b).1) 32 k : Nat)) rfl 28 ?_ (fun u => ?_) (fun u hS => ?_) ?_; rotate_left 1; (focus (go_simp; (try with_reducible rfl); done)); (focus (refine (rget32z _ _ k _ rfl (by omega)).mono ?_; rintro e u2 ⟨rfl, hb⟩; exact ⟨rfl, hS.below hb⟩)); simp only [Act.put, List.setIfInBounds_toArray, List.set_cons_zero, List.set_cons_succ])
      repeat (refine wpD_pure (v := ?_) rfl (fun u => ?_) ?_; rotate_left; (focus (go_simp; (try with_reducible rfl); done)); simp only [Act.put, List.setIfInBounds_toArray, List.set_cons_zero, List.set_cons_succ])
      (refine wpD_call (v := .agg (cells (setN (buildOn 0 32 (rmulN 32 ((unW 64935 a).1) ((unW 64935 b).1)) k) 32 k (rmulN 32 ((unW 64935 a).1) ((unW 64935 b).1) k)))) rfl 23 ?_ (fun u => ?_) (fun u hS => ?_) ?_; rotate_left 1; (focus (go_simp; (try with_reducible rfl); done)); (focus (refine (rset32z _ _ _ k (rmulN 32 ((unW 64935 a).1) ((unW 64935 b).1) k) _ rfl (wrap_mul _ _) (by omega) (Nat.mod_lt _ (by decide))).mono ?_; rintro e u2 ⟨rfl, hb⟩; exact ⟨rfl, hS.below hb⟩)); simp only [Act.put, List.setIfInBounds_toArray, List.set_cons_zero, List.set_cons_succ])
      refine wpD_nil (fun wr2 hr => ?_)
      go_wp2_with ((with_reducible refine store_vec rfl _ _ rfl (w.heap.size + 3) _ rfl rfl _ hr.this ?_; intro wy hy))
      go_roundw
      case rel => first | exact ⟨k + 1, by omega, by go_num, hr.sets hy⟩ | ((repeat apply Exists.intro); exact ⟨⟨k + 1, by omega, by go_num, hr.sets hy⟩, rfl⟩)
      case measure => (simp [intOf] <;> omega)
    · obtain rfl : k = 4 := by omega
      have hR' := hs.kb.get kR4 (by omega)
      go_wp2_with (first | (with_reducible refine load_vec rfl _ rfl _ rfl _ hs.this ?_) | (with_reducible refine store_vec rfl _ _ rfl (w.heap.size + 2) _ rfl rfl _ hR' ?_; intro wq hq))
      exact bodyPost_ret (results_vec_tmp rfl _ _ (w.heap.size + 2) _ _ rfl rfl hq.this) rfl ⟨rfl, (hs.kb.to_below z4 (by omega)).trans (hq.below.mono (by omega))⟩


set_option maxRecDepth 100000 in
set_option maxHeartbeats 4000000 in
theorem rbin_row32_0 (a b : Vec) (w : World) :
    Calls Try.prog 13 #[.int .i64 64988, .agg (cells a), .agg (cells b)] w fun e w' => e = .returned (.tuple #[.agg (cells (buildOn 0 64 (rmulN 64 ((unW 64967 a).1) ((unW 64967 b).1)) 2)), .int .i64 0]) ∧ Below w.heap.size w w' := by
  go_enter Try.func13, Try.ntmps13
  go_wp2_with fail
  rw [← cells_zero]
  obtain ⟨W, hW, hA, hB, hR, hO, hX, hY, hZ⟩ := heap_alloc6 w (.cells (cells a) 23) (.cells (cells b) 23) (.cells (cells 0) 23) (.cells (cells 0) 23) (.cells (cells 0) 23) (.cells (cells 0) 23)
  rw [← hW]
  clear hW
  refine wp_loop_rounds 3 ?_
  iterate 2 (rw [rounds_succ]; go_wp2_with fail)
  rw [rounds_succ]
  go_wp2_with (first | (with_reducible refine load_vec rfl _ rfl _ rfl _ hA ?_) | (go_at_call 11; (with_reducible refine (run_any 64967 a _).mono ?_); rintro e u2 ⟨rfl, hb⟩; have z1 := hZ.trans (hb.mono (by have := block_lt hY; omega)); have kB1 := blk_keep hB hb; have kR1 := blk_keep hR hb; have kO1 := blk_keep hO hb; have kX1 := blk_keep hX hb; have kY1 := blk_keep hY hb; clear hb) | (with_reducible refine store_vec rfl _ _ rfl (w.heap.size + 4) _ rfl rfl _ kX1 ?_; intro w3 h3; have z2 := z1.trans (h3.below.mono (by omega)); have kB2 := blk_sets kB1 h3 (by omega); have kR2 := blk_sets kR1 h3 (by omega); have kO2 := blk_sets kO1 h3 (by omega); have kY2 := blk_sets kY1 h3 (by omega); have kX2 := h3.this; clear h3 kB1 kR1 kO1 kX1 kY1 z1) | (with_reducible refine load_vec rfl _ rfl _ rfl _ kB2 ?_) | (go_at_call 11; (with_reducible refine (run_any 64967 b _).mono ?_); rintro e u4 ⟨rfl, hb⟩; have z3 := z2.trans (hb.mono (by have := block_lt kY2; omega)); have kB3 := blk_keep kB2 hb; have kR3 := blk_keep kR2 hb; have kO3 := blk_keep kO2 hb; have kX3 := blk_keep kX2 hb; have kY3 := blk_keep kY2 hb; clear hb kB2 kR2 kO2 kX2 kY2 z2) | (with_reducible refine store_vec rfl _ _ rfl (w.heap.size + 5) _ rfl rfl _ kY3 ?_; intro w5 h5; have z4 := z3.trans (h5.below.mono (by omega)); have kB4 := blk_sets kB3 h5 (by omega); have kR4 := blk_sets kR3 h5 (by omega); have kO4 := blk_sets kO3 h5 (by omega); have kX4 := blk_sets kX3 h5 (by omega); have kY4 := h5.this; clear h5 kB3 kR3 kO3 kX3 kY3 z3))
  refine wp_loop_rounds 3 ?_
  iterate 2 (rw [rounds_succ]; go_wp2_with fail)
  rw [rounds_succ]
  go_wp2_with fail
  clear kB4 hA hB hR hO hX hY hZ
  go_loopw [25] (fun jv wr => ∃ k : Nat, k ≤ 2 ∧ jv = .int .i64 k ∧ St w5 (w.heap.size + 3) (buildOn 0 64 (rmulN 64 ((unW 64967 a).1) ((unW 64967 b).1)) k) wr) (fun jv _ => 2 - (intOf jv).toNat)
  case atStart => exact ⟨0, Nat.zero_le _, rfl, St.start kO4⟩
  case round =>
    obtain ⟨k, hk, rfl, hs⟩ := hrel
    by_cases hlt : k < 2
    · go_wp2_with fail
      refine region_do (St w5 (w.heap.size + 3) (buildOn 0 64 (rmulN 64 ((unW 64967 a).1) ((unW 64967 b).1)) k)) 13 (by kernel_rfl) (by kernel_rfl) hs.drew ?_
      simp only [List.take_succ_cons, List.take_zero, List.drop_succ_cons, List.drop_zero]
      (refine do_load rfl _ rfl _ rfl _ (fun u hS => hS.this) ?_; simp only [Act.put, List.setIfInBounds_toArray, List.set_cons_zero, List.set_cons_succ])
      repeat (refine wpD_pure (v := ?_) rfl (fun u => ?_) ?_; rotate_left; (focus (go_simp; (try with_reducible rfl); done)); simp only [Act.put, List.setIfInBounds_toArray, List.set_cons_zero, List.set_cons_succ])
      (refine do_load rfl _ rfl _ rfl _ (fun u hS => hS.kb.get kX4 (by omega)) ?_; simp only [Act.put, List.setIfInBounds_toArray, List.set_cons_zero, List.set_cons_succ])
      repeat (refine wpD_pure (v := ?_) rfl (fun u => ?_) ?_; rotate_left; (focus (go_simp; (try with_reducible rfl); done)); simp only [Act.put, List.setIfInBounds_toArray, List.set_cons_zero, List.set_cons_succ])
      (refine wpD_call (v := .int .u64 (getN ((unW 64967 a).1) 64 k : Nat)) rfl 28 ?_ (fun u => ?_) (fun u hS => ?_) ?_; rotate_left 1; (focus (go_simp; (try with_reducible rfl); done)); (focus (refine (rget64z _ _ k _ rfl (by omega)).mono ?_; rintro e u2 ⟨rfl, hb⟩; exact ⟨rfl, hS.below hb⟩)); simp only [Act.put, List.setIfInBounds_toArray, List.set_cons_zero, List.set_cons_succ])
      (refine do_load rfl _ rfl _ rfl _ (fun u hS => hS.kb.get kY4 (by omega)) ?_; simp only [Act.put, List.setIfInBounds_toArray, List.set_cons_zero, List.set_cons_succ])
      repeat (refine wpD_pure (v := ?_) rfl (fun u => ?_) ?_; rotate_left; (focus (go_simp; (try with_reducible rfl); done)); simp only [Act.put, List.setIfInBounds_toArray, List.set_cons_zero, List.set_cons_succ])
      (refine wpD_call (v := .int .u64 (getN ((unW 64967 b).1) 64 k : Nat)) rfl 28 ?_ (fun u => ?_) (fun u hS => ?_) ?_; rotate_left 1; (focus (go_simp; (try with_reducible rfl); done)); (focus (refine (rget64z _ _ k _ rfl (by omega)).mono ?_; rintro e u2 ⟨rfl, hb⟩; exact ⟨rfl, hS.below hb⟩)); simp only [Act.put, List.setIfInBounds_toArray, List.set_cons_zero, List.set_cons_succ])
      repeat (refine wpD_pure (v := ?_) rfl (fun u => ?_) ?_; rotate_left; (focus (go_simp; (try with_reducible rfl); done)); simp only [Act.put, List.setIfInBounds_toArray, List.set_cons_zero, List.set_cons_succ])
      (refine wpD_call (v := .agg (cells (setN (buildOn 0 64 (rmulN 64 ((unW 64967 a).1) ((unW 64967 b).1)) k) 64 k (rmulN 64 ((unW 64967 a).1) ((unW 64967 b).1) k)))) rfl 23 ?_ (fun u => ?_) (fun u hS => ?_) ?_; rotate_left 1; (focus (go_simp; (try with_reducible rfl); done)); (focus (refine (rset64z _ _ _ k (rmulN 64 ((unW 64967 a).1) ((unW 64967 b).1) k) _ rfl (wrap_mul _ _) (by omega) (Nat.mod_lt _ (by decide))).mono ?_; rintro e u2 ⟨rfl, hb⟩; exact ⟨rfl, hS.below hb⟩)); simp only [Act.put, List.setIfInBounds_toArray, List.set_cons_zero, List.set_cons_succ])
      refine wpD_nil (fun wr2 hr => ?_)
      go_wp2_with ((with_reducible refine store_vec rfl _ _ rfl (w.heap.size + 3) _ rfl rfl _ hr.this ?_; intro wy hy))
      go_roundw
      case rel => first | exact ⟨k + 1, by omega, by go_num, hr.sets hy⟩ | ((repeat apply Exists.intro); exact ⟨⟨k + 1, by omega, by go_num, hr.sets hy⟩, rfl⟩)
      case measure => (simp [intOf] <;> omega)
    · obtain rfl : k = 2 := by omega
      have hR' := hs.kb.get kR4 (by omega)
      go_wp2_with (first | (with_reducible refine load_vec rfl _ rfl _ rfl _ hs.this ?_) | (with_reducible refine store_vec rfl _ _ rfl (w.heap.size + 2) _ rfl rfl _ hR' ?_; intro wq hq))
      exact bodyPost_ret (results_vec_tmp rfl _ _ (w.heap.size + 2) _ _ rfl rfl hq.this) rfl ⟨rfl, (hs.kb.to_below z4 (by omega)).trans (hq.below.mono (by omega))⟩

end Go.Proofs.Ytnjhojjpajnbhaa
