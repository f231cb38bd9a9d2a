/-
  widen.Bin: the narrowing opcodes.
-/
import Derived.Test.YtcpfabkokgiepaaWidN
set_option linter.unusedSimpArgs false
set_option linter.unusedVariables false
namespace Go.Proofs.Ytcpfabkokgiepaa
open Go.RowKit Pl


theorem bin_narrow101 (a b : Vec) (w : World) :
    Calls Try.prog 22 #[.int .i64 64869, .agg (cells a), .agg (cells b)] w fun e w' => e = .returned (.tuple #[.agg (cells (nbuild 8 8 (holdN (-128) 127 16 a) (holdN (-128) 127 16 b) 8)), .int .i64 0]) ∧ Below w.heap.size w w' := by
  go_enter Try.func22, Try.ntmps22
  go_wp2_with fail
  rw [← cells_zero]
  obtain ⟨W, hW⟩ : ∃ W, W = (((((w.alloc (.cells (cells a) 45)).alloc (.cells (cells b) 45)).alloc (.cells (cells 0) 45)).alloc (.cells (cells 0) 45))) := ⟨_, rfl⟩
  have hA : W.heap[w.heap.size]? = some (.cells (cells a) 45 (0, 0)) := by rw [hW]; exact heap_alloc4_0 _ _ _ _ _
  have hB : W.heap[w.heap.size + 1]? = some (.cells (cells b) 45 (0, 0)) := by rw [hW]; exact heap_alloc4_1 _ _ _ _ _
  have hR : W.heap[w.heap.size + 2]? = some (.cells (cells 0) 45 (0, 0)) := by rw [hW]; exact heap_alloc4_2 _ _ _ _ _
  have hO : W.heap[w.heap.size + 3]? = some (.cells (cells 0) 45 (0, 0)) := by rw [hW]; exact heap_alloc4_3 _ _ _ _ _
  have hZ : Below w.heap.size w W := by rw [hW]; exact below_alloc4 _ _ _ _ _
  rw [← hW]
  clear hW
  refine (group_no _ _ _ (by unfold wrap64; decide) (by unfold wrap64; decide) (by unfold wrap64; decide)).mono ?_
  rintro e w' ⟨rfl, rfl⟩
  go_wp2_with (first | (with_reducible refine load_vec rfl _ rfl _ rfl _ hA ?_) | (with_reducible refine load_vec rfl _ rfl _ rfl _ hB ?_) | (go_at_call 58; refine (narrow101 a b _).mono ?_; rintro e u2 ⟨rfl, hb⟩; have hR2 := (hb.block _ (block_lt hR)).trans hR) | (with_reducible refine store_vec rfl _ _ rfl (w.heap.size + 2) _ rfl rfl _ hR2 ?_; intro wq hq))
  exact bodyPost_ret (results_vec_tmp rfl _ _ (w.heap.size + 2) _ _ rfl rfl hq.this) rfl ⟨rfl, hZ.trans ((hb.mono hZ.size).trans (hq.below.mono (by omega)))⟩


theorem bin_narrow102 (a b : Vec) (w : World) :
    Calls Try.prog 22 #[.int .i64 64870, .agg (cells a), .agg (cells b)] w fun e w' => e = .returned (.tuple #[.agg (cells (nbuild 8 8 (holdN (0) 255 16 a) (holdN (0) 255 16 b) 8)), .int .i64 0]) ∧ Below w.heap.size w w' := by
  go_enter Try.func22, Try.ntmps22
  go_wp2_with fail
  rw [← cells_zero]
  obtain ⟨W, hW⟩ : ∃ W, W = (((((w.alloc (.cells (cells a) 45)).alloc (.cells (cells b) 45)).alloc (.cells (cells 0) 45)).alloc (.cells (cells 0) 45))) := ⟨_, rfl⟩
  have hA : W.heap[w.heap.size]? = some (.cells (cells a) 45 (0, 0)) := by rw [hW]; exact heap_alloc4_0 _ _ _ _ _
  have hB : W.heap[w.heap.size + 1]? = some (.cells (cells b) 45 (0, 0)) := by rw [hW]; exact heap_alloc4_1 _ _ _ _ _
  have hR : W.heap[w.heap.size + 2]? = some (.cells (cells 0) 45 (0, 0)) := by rw [hW]; exact heap_alloc4_2 _ _ _ _ _
  have hO : W.heap[w.heap.size + 3]? = some (.cells (cells 0) 45 (0, 0)) := by rw [hW]; exact heap_alloc4_3 _ _ _ _ _
  have hZ : Below w.heap.size w W := by rw [hW]; exact below_alloc4 _ _ _ _ _
  rw [← hW]
  clear hW
  refine (group_no _ _ _ (by unfold wrap64; decide) (by unfold wrap64; decide) (by unfold wrap64; decide)).mono ?_
  rintro e w' ⟨rfl, rfl⟩
  go_wp2_with (first | (with_reducible refine load_vec rfl _ rfl _ rfl _ hA ?_) | (with_reducible refine load_vec rfl _ rfl _ rfl _ hB ?_) | (go_at_call 58; refine (narrow102 a b _).mono ?_; rintro e u2 ⟨rfl, hb⟩; have hR2 := (hb.block _ (block_lt hR)).trans hR) | (with_reducible refine store_vec rfl _ _ rfl (w.heap.size + 2) _ rfl rfl _ hR2 ?_; intro wq hq))
  exact bodyPost_ret (results_vec_tmp rfl _ _ (w.heap.size + 2) _ _ rfl rfl hq.this) rfl ⟨rfl, hZ.trans ((hb.mono hZ.size).trans (hq.below.mono (by omega)))⟩


theorem bin_narrow133 (a b : Vec) (w : World) :
    Calls Try.prog 22 #[.int .i64 64901, .agg (cells a), .agg (cells b)] w fun e w' => e = .returned (.tuple #[.agg (cells (nbuild 16 4 (holdN (-32768) 32767 32 a) (holdN (-32768) 32767 32 b) 4)), .int .i64 0]) ∧ Below w.heap.size w w' := by
  go_enter Try.func22, Try.ntmps22
  go_wp2_with fail
  rw [← cells_zero]
  obtain ⟨W, hW⟩ : ∃ W, W = (((((w.alloc (.cells (cells a) 45)).alloc (.cells (cells b) 45)).alloc (.cells (cells 0) 45)).alloc (.cells (cells 0) 45))) := ⟨_, rfl⟩
  have hA : W.heap[w.heap.size]? = some (.cells (cells a) 45 (0, 0)) := by rw [hW]; exact heap_alloc4_0 _ _ _ _ _
  have hB : W.heap[w.heap.size + 1]? = some (.cells (cells b) 45 (0, 0)) := by rw [hW]; exact heap_alloc4_1 _ _ _ _ _
  have hR : W.heap[w.heap.size + 2]? = some (.cells (cells 0) 45 (0, 0)) := by rw [hW]; exact heap_alloc4_2 _ _ _ _ _
  have hO : W.heap[w.heap.size + 3]? = some (.cells (cells 0) 45 (0, 0)) := by rw [hW]; exact heap_alloc4_3 _ _ _ _ _
  have hZ : Below w.heap.size w W := by rw [hW]; exact below_alloc4 _ _ _ _ _
  rw [← hW]
  clear hW
  refine (group_no _ _ _ (by unfold wrap64; decide) (by unfold wrap64; decide) (by unfold wrap64; decide)).mono ?_
  rintro e w' ⟨rfl, rfl⟩
  go_wp2_with (first | (with_reducible refine load_vec rfl _ rfl _ rfl _ hA ?_) | (with_reducible refine load_vec rfl _ rfl _ rfl _ hB ?_) | (go_at_call 58; refine (narrow133 a b _).mono ?_; rintro e u2 ⟨rfl, hb⟩; have hR2 := (hb.block _ (block_lt hR)).trans hR) | (with_reducible refine store_vec rfl _ _ rfl (w.heap.size + 2) _ rfl rfl _ hR2 ?_; intro wq hq))
  exact bodyPost_ret (results_vec_tmp rfl _ _ (w.heap.size + 2) _ _ rfl rfl hq.this) rfl ⟨rfl, hZ.trans ((hb.mono hZ.size).trans (hq.below.mono (by omega)))⟩


theorem bin_narrow134 (a b : Vec) (w : World) :
    Calls Try.prog 22 #[.int .i64 64902, .agg (cells a), .agg (cells b)] w fun e w' => e = .returned (.tuple #[.agg (cells (nbuild 16 4 (holdN (0) 65535 32 a) (holdN (0) 65535 32 b) 4)), .int .i64 0]) ∧ Below w.heap.size w w' := by
  go_enter Try.func22, Try.ntmps22
  go_wp2_with fail
  rw [← cells_zero]
  obtain ⟨W, hW⟩ : ∃ W, W = (((((w.alloc (.cells (cells a) 45)).alloc (.cells (cells b) 45)).alloc (.cells (cells 0) 45)).alloc (.cells (cells 0) 45))) := ⟨_, rfl⟩
  have hA : W.heap[w.heap.size]? = some (.cells (cells a) 45 (0, 0)) := by rw [hW]; exact heap_alloc4_0 _ _ _ _ _
  have hB : W.heap[w.heap.size + 1]? = some (.cells (cells b) 45 (0, 0)) := by rw [hW]; exact heap_alloc4_1 _ _ _ _ _
  have hR : W.heap[w.heap.size + 2]? = some (.cells (cells 0) 45 (0, 0)) := by rw [hW]; exact heap_alloc4_2 _ _ _ _ _
  have hO : W.heap[w.heap.size + 3]? = some (.cells (cells 0) 45 (0, 0)) := by rw [hW]; exact heap_alloc4_3 _ _ _ _ _
  have hZ : Below w.heap.size w W := by rw [hW]; exact below_alloc4 _ _ _ _ _
  rw [← hW]
  clear hW
  refine (group_no _ _ _ (by unfold wrap64; decide) (by unfold wrap64; decide) (by unfold wrap64; decide)).mono ?_
  rintro e w' ⟨rfl, rfl⟩
  go_wp2_with (first | (with_reducible refine load_vec rfl _ rfl _ rfl _ hA ?_) | (with_reducible refine load_vec rfl _ rfl _ rfl _ hB ?_) | (go_at_call 58; refine (narrow134 a b _).mono ?_; rintro e u2 ⟨rfl, hb⟩; have hR2 := (hb.block _ (block_lt hR)).trans hR) | (with_reducible refine store_vec rfl _ _ rfl (w.heap.size + 2) _ rfl rfl _ hR2 ?_; intro wq hq))
  exact bodyPost_ret (results_vec_tmp rfl _ _ (w.heap.size + 2) _ _ rfl rfl hq.this) rfl ⟨rfl, hZ.trans ((hb.mono hZ.size).trans (hq.below.mono (by omega)))⟩

end Go.Proofs.Ytcpfabkokgiepaa
