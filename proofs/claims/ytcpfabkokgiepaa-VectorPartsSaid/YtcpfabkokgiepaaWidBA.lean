/-
  widen.Bin: no opcode; the whole contract.
-/
import Derived.Test.YtcpfabkokgiepaaWidBR
import Derived.Test.YtcpfabkokgiepaaWidBQ
import Derived.Test.YtcpfabkokgiepaaWidB
set_option linter.unusedSimpArgs false
set_option linter.unusedVariables false
namespace Go.Proofs.Ytcpfabkokgiepaa
open Go.RowKit Pl


theorem bin_none (op : Int) (a b : Vec) (w : World) (h0 : wrap64 (wrap64 (wrap64 (op - 64768) - 156)) < 0 ∨ 4 ≤ wrap64 (wrap64 (wrap64 (op - 64768) - 156)))
    (h1 : wrap64 (wrap64 (wrap64 (op - 64768) - 156) - 32) < 0 ∨ 4 ≤ wrap64 (wrap64 (wrap64 (op - 64768) - 156) - 32)) (h2 : wrap64 (wrap64 (wrap64 (op - 64768) - 156) - 64) < 0 ∨ 4 ≤ wrap64 (wrap64 (wrap64 (op - 64768) - 156) - 64))
    (h3 : wrap64 (op - 64768) ≠ 101) (h4 : wrap64 (op - 64768) ≠ 102) (h5 : wrap64 (op - 64768) ≠ 133) (h6 : wrap64 (op - 64768) ≠ 134) (h7 : wrap64 (op - 64768) ≠ 130) (h8 : wrap64 (op - 64768) ≠ 186) :
    Calls Try.prog 22 #[.int .i64 op, .agg (cells a), .agg (cells b)] w fun e w' => e = .returned (.tuple #[.agg (cells 0), .int .i64 1]) ∧ Below w.heap.size w w' := by
  have H0 := Lib.hid h0
  have H1 := Lib.hid h1
  have H2 := Lib.hid h2
  clear h0 h1 h2
  go_enter Try.func22, Try.ntmps22
  go_wp2_with fail
  rw [← cells_zero]
  obtain ⟨W, hW⟩ : ∃ W, W = (((((w.alloc (.cells (cells a) 45)).alloc (.cells (cells b) 45)).alloc (.cells (cells 0) 45)).alloc (.cells (cells 0) 45))) := ⟨_, rfl⟩
  have hA : W.heap[w.heap.size]? = some (.cells (cells a) 45 (0, 0)) := by rw [hW]; exact heap_alloc4_0 _ _ _ _ _
  have hB : W.heap[w.heap.size + 1]? = some (.cells (cells b) 45 (0, 0)) := by rw [hW]; exact heap_alloc4_1 _ _ _ _ _
  have hR : W.heap[w.heap.size + 2]? = some (.cells (cells 0) 45 (0, 0)) := by rw [hW]; exact heap_alloc4_2 _ _ _ _ _
  have hO : W.heap[w.heap.size + 3]? = some (.cells (cells 0) 45 (0, 0)) := by rw [hW]; exact heap_alloc4_3 _ _ _ _ _
  have hZ : Below w.heap.size w W := by rw [hW]; exact below_alloc4 _ _ _ _ _
  rw [← hW]
  clear hW
  refine (group_no _ _ _ H0.out H1.out H2.out).mono ?_
  rintro e w' ⟨rfl, rfl⟩
  go_wp2_with (first | (with_reducible refine load_vec rfl _ rfl _ rfl _ hO ?_) | (with_reducible refine store_vec rfl _ _ rfl (w.heap.size + 2) _ rfl rfl _ hR ?_; intro wq hq))
  exact bodyPost_ret (results_vec_tmp rfl _ _ (w.heap.size + 2) _ _ rfl rfl hq.this) rfl ⟨rfl, hZ.trans (hq.below.mono (by omega))⟩


theorem bin_any (op : Int) (a b : Vec) (w : World) (ho : -9223372036854775808 ≤ op ∧ op ≤ 9223372036854775807) :
    Calls Try.prog 22 #[.int .i64 op, .agg (cells a), .agg (cells b)] w fun e w' => e = .returned (.tuple #[.agg (cells (binW op a b).1), .int .i64 (binW op a b).2]) ∧ Below w.heap.size w w' := by
  unfold binW
  split
  · exact bin_row8 op (op - 64924).toNat a b w (by omega) (by omega)
  split
  · exact bin_row16 op (op - 64956).toNat a b w (by omega) (by omega)
  split
  · exact bin_row32 op (op - 64988).toNat a b w (by omega) (by omega)
  split
  · rename_i h; subst h; exact bin_narrow101 a b w
  split
  · rename_i h; subst h; exact bin_narrow102 a b w
  split
  · rename_i h; subst h; exact bin_narrow133 a b w
  split
  · rename_i h; subst h; exact bin_narrow134 a b w
  split
  · rename_i h; subst h; exact bin_q15 a b w
  split
  · rename_i h; subst h; exact bin_dot a b w
  · exact bin_none op a b w (by unfold wrap64; omega) (by unfold wrap64; omega) (by unfold wrap64; omega) (by unfold wrap64; omega) (by unfold wrap64; omega) (by unfold wrap64; omega) (by unfold wrap64; omega) (by unfold wrap64; omega) (by unfold wrap64; omega)

end Go.Proofs.Ytcpfabkokgiepaa
