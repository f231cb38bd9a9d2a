/-
  plaitref11.Load, Store: where they err.
-/
import Derived.Test.YtlcndenbnokcjaaVmRF
set_option linter.unusedSimpArgs false
set_option linter.unusedVariables false
namespace Go.Proofs.Ytlcndenbnokcjaa
open Go.RowKit Pl

set_option maxRecDepth 100000 in
theorem rload_e (p : Value) (op a b lo hi at_ : Int) (L : Value) (old : Vec) (E : Int) (w : World) (HM : ∀ W, Calls Try.prog 57 #[p, inV op a b lo hi L, .bool false] W fun e w' => e = .returned (.int .i64 E) ∧ Below W.heap.size W w') (hE : (E != 0) = true) :
    Calls Try.prog 38 #[p, inV op a b lo hi L, .int .u32 at_, .agg (cells old)] w fun e w' => e = .returned (.tuple #[.agg (cells 0), .int .i64 E]) ∧ Below w.heap.size w w' := by
  have HM := Lib.hid HM
  go_enter Try.func38, Try.ntmps38
  go_wp2_with fail
  rw [← cells_zero]
  obtain ⟨W, hW⟩ : ∃ W, W = (((w.alloc (.cells #[.int .i64 op, .int .i64 a, .int .i64 b, .int .u64 lo, .int .u64 hi, L] 65)).alloc (.cells (cells old) 61)).alloc (.cells (cells 0) 61)) := ⟨_, rfl⟩
  have hI : W.heap[w.heap.size]? = some (.cells #[.int .i64 op, .int .i64 a, .int .i64 b, .int .u64 lo, .int .u64 hi, L] 65 (0, 0)) := hW ▸ heap_alloc3_0 _ _ _ _
  have hV : W.heap[w.heap.size + 1]? = some (.cells (cells old) 61 (0, 0)) := hW ▸ heap_alloc3_1 _ _ _ _
  have hR : W.heap[w.heap.size + 1 + 1]? = some (.cells (cells 0) 61 (0, 0)) := hW ▸ heap_alloc3_2 _ _ _ _
  have hZ : Below w.heap.size w W := hW ▸ below_alloc3 _ _ _ _
  rw [← hW]
  clear hW
  refine (HM.out _).mono ?_
  rintro e u1 ⟨rfl, hb1⟩
  have hR1 := (hb1.block _ (block_lt hR)).trans hR
  have hZ1 := hZ.trans (hb1.mono hZ.size)
  clear hI hV hR hb1 hZ
  go_wp2_with ((with_reducible refine store_zero rfl _ _ rfl (w.heap.size + 1 + 1) rfl rfl _ hR1 ?_); intro wq hq)
  exact bodyPost_ret (results_vec_tmp rfl _ _ (w.heap.size + 1 + 1) _ _ rfl rfl hq.this) rfl ⟨rfl, hZ1.trans (hq.below.mono (by omega))⟩
set_option maxRecDepth 100000 in
theorem rstore_e (p : Value) (op a b lo hi at_ : Int) (L : Value) (v : Vec) (E : Int) (w : World) (HM : ∀ W, Calls Try.prog 57 #[p, inV op a b lo hi L, .bool true] W fun e w' => e = .returned (.int .i64 E) ∧ Below W.heap.size W w') (hE : (E != 0) = true) :
    Calls Try.prog 39 #[p, inV op a b lo hi L, .int .u32 at_, .agg (cells v)] w fun e w' => e = .returned (.int .i64 E) ∧ Below w.heap.size w w' := by
  have HM := Lib.hid HM
  go_enter Try.func39, Try.ntmps39
  go_wp2_with fail
  obtain ⟨W, hW⟩ : ∃ W, W = ((w.alloc (.cells #[.int .i64 op, .int .i64 a, .int .i64 b, .int .u64 lo, .int .u64 hi, L] 65)).alloc (.cells (cells v) 61)) := ⟨_, rfl⟩
  have hI : W.heap[w.heap.size]? = some (.cells #[.int .i64 op, .int .i64 a, .int .i64 b, .int .u64 lo, .int .u64 hi, L] 65 (0, 0)) := hW ▸ heap_alloc2_old _ _ _
  have hV : W.heap[w.heap.size + 1]? = some (.cells (cells v) 61 (0, 0)) := hW ▸ heap_alloc2_new _ _ _
  have hZ : Below w.heap.size w W := hW ▸ ((Below.refl _ _).alloc (Nat.le_refl _) _).alloc (by simp) _
  rw [← hW]
  clear hW
  refine (HM.out _).mono ?_
  rintro e u1 ⟨rfl, hb1⟩
  have hZ1 := hZ.trans (hb1.mono hZ.size)
  clear hI hV hb1 hZ
  go_wp2_with fail
  go_ret
  exact ⟨rfl, hZ1⟩
end Go.Proofs.Ytlcndenbnokcjaa
