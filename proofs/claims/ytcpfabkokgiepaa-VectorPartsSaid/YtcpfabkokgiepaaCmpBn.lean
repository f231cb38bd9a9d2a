/-
  Where compare.Bits and plaitref06.Bits refuse.
-/
import Derived.Test.YtcpfabkokgiepaaCmpBo
set_option linter.unusedSimpArgs false
set_option linter.unusedVariables false
namespace Go.Proofs.Ytcpfabkokgiepaa
open Go.RowKit Pl

theorem sub_op (op : Int) (ho : -9223372036854775808 ≤ op ∧ op ≤ 9223372036854775807) : ∃ K : Int, IntKind.i64.wrap (op - 64768) = K ∧ (77 ≤ K ∧ K ≤ 82 → op = 64768 + K) ∧ (-9223372036854775808 ≤ K ∧ K ≤ 9223372036854775807) := by
  refine ⟨_, rfl, fun hb => ?_, ?_⟩
  · rw [IntKind.wrap_i64] at hb ⊢; omega
  · rw [IntKind.wrap_i64]; omega
set_option maxRecDepth 100000 in
set_option maxHeartbeats 2000000 in
theorem bits_no (op : Int) (ad : Option Addr) (m cap : Nat) (w : World) (ho : -9223372036854775808 ≤ op ∧ op ≤ 9223372036854775807) (hm : m ≤ 9223372036854775807)
    (h : ¬ (op = 64845 ∧ m = 1 ∨ 64846 ≤ op ∧ op ≤ 64849 ∧ m = 2 ∨ op = 64850 ∧ m = 3)) :
    Calls Try.prog 19 #[.int .i64 op, .slice ad m cap] w fun e w' => e = .returned (.tuple #[.agg (cells 0), .int .i64 1]) ∧ Below w.heap.size w w' := by
  obtain ⟨K, hK, hw, hKb⟩ := sub_op op ho
  have hx : ∀ x, Below w.heap.size w (w.alloc x) := fun x => (Below.refl _ _).alloc (Nat.le_refl _) x
  by_cases h1 : K < 77
  · have q0 : (K == 77) = false := beq_eq_false_iff_ne.2 (by omega)
    have q1 : (K == 82) = false := beq_eq_false_iff_ne.2 (by omega)
    clear ho hw h
    go_enter Try.func19, Try.ntmps19
    go_wp2_with fail
    rw [← cells_zero]
    refine bodyPost_ret (results_vec_tmp rfl _ _ w.heap.size 0 _ rfl rfl (heap_alloc_new _ _)) rfl ⟨rfl, hx _⟩
  · by_cases h2 : 82 < K
    · have q0 : (K == 77) = false := beq_eq_false_iff_ne.2 (by omega)
      have q1 : (K == 82) = false := beq_eq_false_iff_ne.2 (by omega)
      clear ho hw h
      go_enter Try.func19, Try.ntmps19
      go_wp2_with fail
      rw [← cells_zero]
      refine bodyPost_ret (results_vec_tmp rfl _ _ w.heap.size 0 _ rfl rfl (heap_alloc_new _ _)) rfl ⟨rfl, hx _⟩
    · have hop := hw (by omega)
      clear hw hKb ho
      rcases (show K = 77 ∨ K = 78 ∨ K = 79 ∨ K = 80 ∨ K = 81 ∨ K = 82 by omega) with rfl | rfl | rfl | rfl | rfl | rfl
      · have hq : ((m : Int) != 1) = true := bne_iff_ne.2 (by omega)
        clear h hop
        go_enter Try.func19, Try.ntmps19
        go_wp2_with fail
        rw [← cells_zero]
        refine bodyPost_ret (results_vec_tmp rfl _ _ w.heap.size 0 _ rfl rfl (heap_alloc_new _ _)) rfl ⟨rfl, hx _⟩
      · have hq : ((m : Int) != 2) = true := bne_iff_ne.2 (by omega)
        clear h hop
        go_enter Try.func19, Try.ntmps19
        go_wp2_with fail
        rw [← cells_zero]
        refine bodyPost_ret (results_vec_tmp rfl _ _ w.heap.size 0 _ rfl rfl (heap_alloc_new _ _)) rfl ⟨rfl, hx _⟩
      · have hq : ((m : Int) != 2) = true := bne_iff_ne.2 (by omega)
        clear h hop
        go_enter Try.func19, Try.ntmps19
        go_wp2_with fail
        rw [← cells_zero]
        refine bodyPost_ret (results_vec_tmp rfl _ _ w.heap.size 0 _ rfl rfl (heap_alloc_new _ _)) rfl ⟨rfl, hx _⟩
      · have hq : ((m : Int) != 2) = true := bne_iff_ne.2 (by omega)
        clear h hop
        go_enter Try.func19, Try.ntmps19
        go_wp2_with fail
        rw [← cells_zero]
        refine bodyPost_ret (results_vec_tmp rfl _ _ w.heap.size 0 _ rfl rfl (heap_alloc_new _ _)) rfl ⟨rfl, hx _⟩
      · have hq : ((m : Int) != 2) = true := bne_iff_ne.2 (by omega)
        clear h hop
        go_enter Try.func19, Try.ntmps19
        go_wp2_with fail
        rw [← cells_zero]
        refine bodyPost_ret (results_vec_tmp rfl _ _ w.heap.size 0 _ rfl rfl (heap_alloc_new _ _)) rfl ⟨rfl, hx _⟩
      · have hq : ((m : Int) != 3) = true := bne_iff_ne.2 (by omega)
        clear h hop
        go_enter Try.func19, Try.ntmps19
        go_wp2_with fail
        rw [← cells_zero]
        refine bodyPost_ret (results_vec_tmp rfl _ _ w.heap.size 0 _ rfl rfl (heap_alloc_new _ _)) rfl ⟨rfl, hx _⟩
set_option maxRecDepth 100000 in
set_option maxHeartbeats 2000000 in
theorem rbits_no (op : Int) (ad : Option Addr) (m cap : Nat) (w : World) (ho : -9223372036854775808 ≤ op ∧ op ≤ 9223372036854775807) (hm : m ≤ 9223372036854775807)
    (h : ¬ (op = 64845 ∧ m = 1 ∨ 64846 ≤ op ∧ op ≤ 64849 ∧ m = 2 ∨ op = 64850 ∧ m = 3)) :
    Calls Try.prog 75 #[.int .i64 op, .slice ad m cap] w fun e w' => e = .returned (.tuple #[.agg (cells 0), .int .i64 1]) ∧ Below w.heap.size w w' := by
  obtain ⟨K, hK, hw, hKb⟩ := sub_op op ho
  have hx : ∀ x, Below w.heap.size w (w.alloc x) := fun x => (Below.refl _ _).alloc (Nat.le_refl _) x
  by_cases h1 : K < 77
  · have q0 : (K == 77) = false := beq_eq_false_iff_ne.2 (by omega)
    have q1 : (K == 82) = false := beq_eq_false_iff_ne.2 (by omega)
    clear ho hw h
    go_enter Try.func75, Try.ntmps75
    go_wp2_with fail
    rw [← cells_zero]
    refine bodyPost_ret (results_vec_tmp rfl _ _ w.heap.size 0 _ rfl rfl (heap_alloc_new _ _)) rfl ⟨rfl, hx _⟩
  · by_cases h2 : 82 < K
    · have q0 : (K == 77) = false := beq_eq_false_iff_ne.2 (by omega)
      have q1 : (K == 82) = false := beq_eq_false_iff_ne.2 (by omega)
      clear ho hw h
      go_enter Try.func75, Try.ntmps75
      go_wp2_with fail
      rw [← cells_zero]
      refine bodyPost_ret (results_vec_tmp rfl _ _ w.heap.size 0 _ rfl rfl (heap_alloc_new _ _)) rfl ⟨rfl, hx _⟩
    · have hop := hw (by omega)
      clear hw hKb ho
      rcases (show K = 77 ∨ K = 78 ∨ K = 79 ∨ K = 80 ∨ K = 81 ∨ K = 82 by omega) with rfl | rfl | rfl | rfl | rfl | rfl
      · have hq : ((m : Int) != 1) = true := bne_iff_ne.2 (by omega)
        clear h hop
        go_enter Try.func75, Try.ntmps75
        go_wp2_with fail
        rw [← cells_zero]
        refine bodyPost_ret (results_vec_tmp rfl _ _ w.heap.size 0 _ rfl rfl (heap_alloc_new _ _)) rfl ⟨rfl, hx _⟩
      · have hq : ((m : Int) != 2) = true := bne_iff_ne.2 (by omega)
        clear h hop
        go_enter Try.func75, Try.ntmps75
        go_wp2_with fail
        rw [← cells_zero]
        refine bodyPost_ret (results_vec_tmp rfl _ _ w.heap.size 0 _ rfl rfl (heap_alloc_new _ _)) rfl ⟨rfl, hx _⟩
      · have hq : ((m : Int) != 2) = true := bne_iff_ne.2 (by omega)
        clear h hop
        go_enter Try.func75, Try.ntmps75
        go_wp2_with fail
        rw [← cells_zero]
        refine bodyPost_ret (results_vec_tmp rfl _ _ w.heap.size 0 _ rfl rfl (heap_alloc_new _ _)) rfl ⟨rfl, hx _⟩
      · have hq : ((m : Int) != 2) = true := bne_iff_ne.2 (by omega)
        clear h hop
        go_enter Try.func75, Try.ntmps75
        go_wp2_with fail
        rw [← cells_zero]
        refine bodyPost_ret (results_vec_tmp rfl _ _ w.heap.size 0 _ rfl rfl (heap_alloc_new _ _)) rfl ⟨rfl, hx _⟩
      · have hq : ((m : Int) != 2) = true := bne_iff_ne.2 (by omega)
        clear h hop
        go_enter Try.func75, Try.ntmps75
        go_wp2_with fail
        rw [← cells_zero]
        refine bodyPost_ret (results_vec_tmp rfl _ _ w.heap.size 0 _ rfl rfl (heap_alloc_new _ _)) rfl ⟨rfl, hx _⟩
      · have hq : ((m : Int) != 3) = true := bne_iff_ne.2 (by omega)
        clear h hop
        go_enter Try.func75, Try.ntmps75
        go_wp2_with fail
        rw [← cells_zero]
        refine bodyPost_ret (results_vec_tmp rfl _ _ w.heap.size 0 _ rfl rfl (heap_alloc_new _ _)) rfl ⟨rfl, hx _⟩
end Go.Proofs.Ytcpfabkokgiepaa
