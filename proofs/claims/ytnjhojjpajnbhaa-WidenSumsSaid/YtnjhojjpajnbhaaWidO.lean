/-
  plaitlaw08.un, plaitlaw08.bin.
-/
import Derived.Test.YtnjhojjpajnbhaaWidW
import Derived.Test.YtnjhojjpajnbhaaWidBA
set_option linter.unusedSimpArgs false
set_option linter.unusedVariables false
namespace Go.Proofs.Ytnjhojjpajnbhaa
open Go.RowKit Pl
set_option linter.unusedVariables false

theorem heap_z2 (w : World) (A : Obj) (t : TypeId) : ((w.alloc A).alloc (.cells #[.int .u8 0, .int .u8 0, .int .u8 0, .int .u8 0, .int .u8 0, .int .u8 0, .int .u8 0, .int .u8 0, .int .u8 0, .int .u8 0, .int .u8 0, .int .u8 0, .int .u8 0, .int .u8 0, .int .u8 0, .int .u8 0] t)).heap[w.heap.size + 1]? = some (.cells (cells 0) t (0, 0)) := by
  rw [cells_zero]; exact heap_alloc2_new _ _ _
theorem lun_any (k : Int) (v : Vec) (w : World) (hk : 0 ≤ k ∧ k ≤ 10000) :
    Calls Try.prog 16 #[.int .i64 k, .agg (cells v)] w fun e w' => e = .returned (.agg (cells (unW (64768 + k) v).1)) ∧ Below w.heap.size w w' := by
  have H := Lib.hid (show -9223372036854775808 ≤ 64768 + k ∧ 64768 + k ≤ 9223372036854775807 by omega)
  go_enter Try.func16, Try.ntmps16
  go_wp2_with (with_reducible refine load_vec rfl _ rfl _ rfl _ (heap_alloc2_old _ _ _) ?_)
  refine (un_any (64768 + k) v _ H.out).mono ?_
  rintro e u1 ⟨rfl, hb⟩
  have hX := blk_keep (heap_z2 w _ _) hb
  have hZ := (((Below.refl w.heap.size w).alloc (Nat.le_refl _) (.cells (cells v) 23)).alloc (by simp) _).trans (hb.mono (by simp; omega))
  go_wp2_with (first | (with_reducible refine store_vec rfl _ _ rfl _ _ rfl rfl 0 (heap_new_zero _) ?_; intro wA hA; have hR2 := blk_sets (blk_alloc hX _) hA (Nat.ne_of_lt (block_lt hX)); have hZ2 := below_store hZ (Nat.le_refl _) hA) | (with_reducible refine load_vec rfl _ rfl _ rfl _ hA.this ?_) | (with_reducible refine store_vec rfl _ _ rfl (w.heap.size + 1) _ rfl rfl _ hR2 ?_; intro wq hq))
  exact bodyPost_ret (results_cell_row rfl _ _ (w.heap.size + 1) _ _ _ _ rfl hq.this vunder rfl (vsize _)) rfl ⟨rfl, hZ2.trans (hq.below.mono (by omega))⟩
theorem heap_z3 (w : World) (A B : Obj) (t : TypeId) : (((w.alloc A).alloc B).alloc (.cells #[.int .u8 0, .int .u8 0, .int .u8 0, .int .u8 0, .int .u8 0, .int .u8 0, .int .u8 0, .int .u8 0, .int .u8 0, .int .u8 0, .int .u8 0, .int .u8 0, .int .u8 0, .int .u8 0, .int .u8 0, .int .u8 0] t)).heap[w.heap.size + 2]? = some (.cells (cells 0) t (0, 0)) := by
  rw [cells_zero]; exact heap_alloc3_2 _ _ _ _
theorem lbin_any (k : Int) (a b : Vec) (w : World) (hk : 0 ≤ k ∧ k ≤ 10000) :
    Calls Try.prog 17 #[.int .i64 k, .agg (cells a), .agg (cells b)] w fun e w' => e = .returned (.agg (cells (binW (64768 + k) a b).1)) ∧ Below w.heap.size w w' := by
  have H := Lib.hid (show -9223372036854775808 ≤ 64768 + k ∧ 64768 + k ≤ 9223372036854775807 by omega)
  go_enter Try.func17, Try.ntmps17
  go_wp2_with (first | (with_reducible refine load_vec rfl _ rfl _ rfl _ (heap_alloc3_0 _ _ _ _) ?_) | (with_reducible refine load_vec rfl _ rfl _ rfl _ (heap_alloc3_1 _ _ _ _) ?_))
  refine (bin_any (64768 + k) a b _ H.out).mono ?_
  rintro e u1 ⟨rfl, hb⟩
  have hX := blk_keep (heap_z3 w _ _ _) hb
  have hZ := (below_alloc3 w (.cells (cells a) 23) (.cells (cells b) 23) _).trans (hb.mono (by simp; omega))
  go_wp2_with (first | (with_reducible refine store_vec rfl _ _ rfl _ _ rfl rfl 0 (heap_new_zero _) ?_; intro wA hA; have hR2 := blk_sets (blk_alloc hX _) hA (Nat.ne_of_lt (block_lt hX)); have hZ2 := below_store hZ (Nat.le_refl _) hA) | (with_reducible refine load_vec rfl _ rfl _ rfl _ hA.this ?_) | (with_reducible refine store_vec rfl _ _ rfl (w.heap.size + 2) _ rfl rfl _ hR2 ?_; intro wq hq))
  exact bodyPost_ret (results_cell_row rfl _ _ (w.heap.size + 2) _ _ _ _ rfl hq.this vunder rfl (vsize _)) rfl ⟨rfl, hZ2.trans (hq.below.mono (by omega))⟩

end Go.Proofs.Ytnjhojjpajnbhaa
