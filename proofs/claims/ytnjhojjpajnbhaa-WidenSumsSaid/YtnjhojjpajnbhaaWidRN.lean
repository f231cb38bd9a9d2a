/-
  plaitref08.Un: no opcode.
-/
import Derived.Test.YtnjhojjpajnbhaaWidR
set_option linter.unusedSimpArgs false
set_option linter.unusedVariables false
namespace Go.Proofs.Ytnjhojjpajnbhaa
open Go.RowKit Pl


theorem run_none0 (op : Int) (v : Vec) (w : World) (h : op < 64892) :
    Calls Try.prog 11 #[.int .i64 op, .agg (cells v)] w fun e w' => e = .returned (.tuple #[.agg (cells 0), .int .i64 1]) ∧ Below w.heap.size w w' := by
  have h1 := trivial
  go_enter Try.func11, Try.ntmps11
  go_wp2_with fail
  rw [← cells_zero]
  obtain ⟨W, hW⟩ : ∃ W, W = ((w.alloc (.cells (cells v) 23)).alloc (.cells (cells 0) 23)).alloc (.cells (cells 0) 23) := ⟨_, rfl⟩
  have hB : W.heap[w.heap.size]? = some (.cells (cells v) 23 (0, 0)) := hW ▸ heap_alloc3_0 _ _ _ _
  have hR : W.heap[w.heap.size + 1]? = some (.cells (cells 0) 23 (0, 0)) := hW ▸ heap_alloc3_1 _ _ _ _
  have hO : W.heap[w.heap.size + 2]? = some (.cells (cells 0) 23 (0, 0)) := hW ▸ heap_alloc3_2 _ _ _ _
  have hZ : Below w.heap.size w W := hW ▸ below_alloc3 _ _ _ _
  rw [← hW]
  clear hW
  refine wp_loop_rounds 4 ?_
  iterate 4 (rw [rounds_succ]; go_wp2_with fail)
  refine wp_loop_rounds 5 ?_
  iterate 4 (rw [rounds_succ]; go_wp2_with fail)
  rw [rounds_succ]
  go_wp2_with (first | (with_reducible refine load_vec rfl _ rfl _ rfl _ hO ?_) | (with_reducible refine store_vec rfl _ _ rfl (w.heap.size + 1) _ rfl rfl _ hR ?_; intro wq hq))
  exact bodyPost_ret (results_vec_tmp rfl _ _ (w.heap.size + 1) _ _ rfl rfl hq.this) rfl ⟨rfl, hZ.trans (hq.below.mono (by omega))⟩


theorem run_none1 (op : Int) (v : Vec) (w : World) (h : 64896 ≤ op ∧ op < 64903) :
    Calls Try.prog 11 #[.int .i64 op, .agg (cells v)] w fun e w' => e = .returned (.tuple #[.agg (cells 0), .int .i64 1]) ∧ Below w.heap.size w w' := by
  obtain ⟨h, h1⟩ := h
  go_enter Try.func11, Try.ntmps11
  go_wp2_with fail
  rw [← cells_zero]
  obtain ⟨W, hW⟩ : ∃ W, W = ((w.alloc (.cells (cells v) 23)).alloc (.cells (cells 0) 23)).alloc (.cells (cells 0) 23) := ⟨_, rfl⟩
  have hB : W.heap[w.heap.size]? = some (.cells (cells v) 23 (0, 0)) := hW ▸ heap_alloc3_0 _ _ _ _
  have hR : W.heap[w.heap.size + 1]? = some (.cells (cells 0) 23 (0, 0)) := hW ▸ heap_alloc3_1 _ _ _ _
  have hO : W.heap[w.heap.size + 2]? = some (.cells (cells 0) 23 (0, 0)) := hW ▸ heap_alloc3_2 _ _ _ _
  have hZ : Below w.heap.size w W := hW ▸ below_alloc3 _ _ _ _
  rw [← hW]
  clear hW
  refine wp_loop_rounds 4 ?_
  iterate 4 (rw [rounds_succ]; go_wp2_with fail)
  refine wp_loop_rounds 5 ?_
  iterate 4 (rw [rounds_succ]; go_wp2_with fail)
  rw [rounds_succ]
  go_wp2_with (first | (with_reducible refine load_vec rfl _ rfl _ rfl _ hO ?_) | (with_reducible refine store_vec rfl _ _ rfl (w.heap.size + 1) _ rfl rfl _ hR ?_; intro wq hq))
  exact bodyPost_ret (results_vec_tmp rfl _ _ (w.heap.size + 1) _ _ rfl rfl hq.this) rfl ⟨rfl, hZ.trans (hq.below.mono (by omega))⟩


theorem run_none2 (op : Int) (v : Vec) (w : World) (h : 64907 ≤ op ∧ op < 64935) :
    Calls Try.prog 11 #[.int .i64 op, .agg (cells v)] w fun e w' => e = .returned (.tuple #[.agg (cells 0), .int .i64 1]) ∧ Below w.heap.size w w' := by
  obtain ⟨h, h1⟩ := h
  go_enter Try.func11, Try.ntmps11
  go_wp2_with fail
  rw [← cells_zero]
  obtain ⟨W, hW⟩ : ∃ W, W = ((w.alloc (.cells (cells v) 23)).alloc (.cells (cells 0) 23)).alloc (.cells (cells 0) 23) := ⟨_, rfl⟩
  have hB : W.heap[w.heap.size]? = some (.cells (cells v) 23 (0, 0)) := hW ▸ heap_alloc3_0 _ _ _ _
  have hR : W.heap[w.heap.size + 1]? = some (.cells (cells 0) 23 (0, 0)) := hW ▸ heap_alloc3_1 _ _ _ _
  have hO : W.heap[w.heap.size + 2]? = some (.cells (cells 0) 23 (0, 0)) := hW ▸ heap_alloc3_2 _ _ _ _
  have hZ : Below w.heap.size w W := hW ▸ below_alloc3 _ _ _ _
  rw [← hW]
  clear hW
  refine wp_loop_rounds 4 ?_
  iterate 4 (rw [rounds_succ]; go_wp2_with fail)
  refine wp_loop_rounds 5 ?_
  iterate 4 (rw [rounds_succ]; go_wp2_with fail)
  rw [rounds_succ]
  go_wp2_with (first | (with_reducible refine load_vec rfl _ rfl _ rfl _ hO ?_) | (with_reducible refine store_vec rfl _ _ rfl (w.heap.size + 1) _ rfl rfl _ hR ?_; intro wq hq))
  exact bodyPost_ret (results_vec_tmp rfl _ _ (w.heap.size + 1) _ _ rfl rfl hq.this) rfl ⟨rfl, hZ.trans (hq.below.mono (by omega))⟩


theorem run_none3 (op : Int) (v : Vec) (w : World) (h : 64939 ≤ op ∧ op < 64967) :
    Calls Try.prog 11 #[.int .i64 op, .agg (cells v)] w fun e w' => e = .returned (.tuple #[.agg (cells 0), .int .i64 1]) ∧ Below w.heap.size w w' := by
  obtain ⟨h, h1⟩ := h
  go_enter Try.func11, Try.ntmps11
  go_wp2_with fail
  rw [← cells_zero]
  obtain ⟨W, hW⟩ : ∃ W, W = ((w.alloc (.cells (cells v) 23)).alloc (.cells (cells 0) 23)).alloc (.cells (cells 0) 23) := ⟨_, rfl⟩
  have hB : W.heap[w.heap.size]? = some (.cells (cells v) 23 (0, 0)) := hW ▸ heap_alloc3_0 _ _ _ _
  have hR : W.heap[w.heap.size + 1]? = some (.cells (cells 0) 23 (0, 0)) := hW ▸ heap_alloc3_1 _ _ _ _
  have hO : W.heap[w.heap.size + 2]? = some (.cells (cells 0) 23 (0, 0)) := hW ▸ heap_alloc3_2 _ _ _ _
  have hZ : Below w.heap.size w W := hW ▸ below_alloc3 _ _ _ _
  rw [← hW]
  clear hW
  refine wp_loop_rounds 4 ?_
  iterate 4 (rw [rounds_succ]; go_wp2_with fail)
  refine wp_loop_rounds 5 ?_
  iterate 4 (rw [rounds_succ]; go_wp2_with fail)
  rw [rounds_succ]
  go_wp2_with (first | (with_reducible refine load_vec rfl _ rfl _ rfl _ hO ?_) | (with_reducible refine store_vec rfl _ _ rfl (w.heap.size + 1) _ rfl rfl _ hR ?_; intro wq hq))
  exact bodyPost_ret (results_vec_tmp rfl _ _ (w.heap.size + 1) _ _ rfl rfl hq.this) rfl ⟨rfl, hZ.trans (hq.below.mono (by omega))⟩


theorem run_none4 (op : Int) (v : Vec) (w : World) (h : 64971 ≤ op) :
    Calls Try.prog 11 #[.int .i64 op, .agg (cells v)] w fun e w' => e = .returned (.tuple #[.agg (cells 0), .int .i64 1]) ∧ Below w.heap.size w w' := by
  have h1 := trivial
  go_enter Try.func11, Try.ntmps11
  go_wp2_with fail
  rw [← cells_zero]
  obtain ⟨W, hW⟩ : ∃ W, W = ((w.alloc (.cells (cells v) 23)).alloc (.cells (cells 0) 23)).alloc (.cells (cells 0) 23) := ⟨_, rfl⟩
  have hB : W.heap[w.heap.size]? = some (.cells (cells v) 23 (0, 0)) := hW ▸ heap_alloc3_0 _ _ _ _
  have hR : W.heap[w.heap.size + 1]? = some (.cells (cells 0) 23 (0, 0)) := hW ▸ heap_alloc3_1 _ _ _ _
  have hO : W.heap[w.heap.size + 2]? = some (.cells (cells 0) 23 (0, 0)) := hW ▸ heap_alloc3_2 _ _ _ _
  have hZ : Below w.heap.size w W := hW ▸ below_alloc3 _ _ _ _
  rw [← hW]
  clear hW
  refine wp_loop_rounds 4 ?_
  iterate 4 (rw [rounds_succ]; go_wp2_with fail)
  refine wp_loop_rounds 5 ?_
  iterate 4 (rw [rounds_succ]; go_wp2_with fail)
  rw [rounds_succ]
  go_wp2_with (first | (with_reducible refine load_vec rfl _ rfl _ rfl _ hO ?_) | (with_reducible refine store_vec rfl _ _ rfl (w.heap.size + 1) _ rfl rfl _ hR ?_; intro wq hq))
  exact bodyPost_ret (results_vec_tmp rfl _ _ (w.heap.size + 1) _ _ rfl rfl hq.this) rfl ⟨rfl, hZ.trans (hq.below.mono (by omega))⟩


theorem run_none (op : Int) (v : Vec) (w : World) (h : op < 64892 ∨ (64896 ≤ op ∧ op < 64903) ∨ (64907 ≤ op ∧ op < 64935) ∨ (64939 ≤ op ∧ op < 64967) ∨ 64971 ≤ op) :
    Calls Try.prog 11 #[.int .i64 op, .agg (cells v)] w fun e w' => e = .returned (.tuple #[.agg (cells 0), .int .i64 1]) ∧ Below w.heap.size w w' := by
  rcases h with h | h | h | h | h
  · exact run_none0 op v w h
  · exact run_none1 op v w h
  · exact run_none2 op v w h
  · exact run_none3 op v w h
  · exact run_none4 op v w h

end Go.Proofs.Ytnjhojjpajnbhaa
