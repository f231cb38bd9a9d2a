/-
  The walk of plaitlaw08.WidenBin.
-/
import Derived.Test.YtnjhojjpajnbhaaWidW
import Derived.Test.YtnjhojjpajnbhaaWidBA
import Derived.Test.YtnjhojjpajnbhaaWidRBA
namespace Go.Proofs.Ytnjhojjpajnbhaa
open Go.RowKit Pl
set_option linter.unusedVariables false

theorem Holds.fst {w0 u : World} {b c : Nat} {v x : Vec} (h : Holds w0.heap.size w0 [(b, v), (c, x)] u) : u.heap[b]? = some (.cells (cells v) 23 (0, 0)) := h.2 (b, v) (by simp)
theorem Holds.snd {w0 u : World} {b c : Nat} {v x : Vec} (h : Holds w0.heap.size w0 [(b, v), (c, x)] u) : u.heap[c]? = some (.cells (cells x) 23 (0, 0)) := h.2 (c, x) (by simp)


set_option maxHeartbeats 1000000 in
set_option maxRecDepth 100000 in
theorem widenBin_walk (op : Int) (a b : Vec) (w : World) (ho : -9223372036854775808 ≤ op ∧ op ≤ 9223372036854775807) :
    Calls Try.prog 4 #[.int .i64 op, .agg (cells a), .agg (cells b)] w fun e w' => e = .returned (.bool true) ∧ Below w.heap.size w w' := by
  have Ho := Lib.hid ho
  clear ho
  go_enter Try.func4, Try.ntmps4
  go_wp2_with fail
  refine (awake_any _).mono ?_
  rintro e w1 ⟨rfl, hb1⟩
  have hS : Holds w.heap.size w [(w.heap.size, a), (w.heap.size + 1, b)] w1 := ⟨((Below.refl _ _).alloc (Nat.le_refl _) _ |>.alloc (by simp) _).trans (hb1.mono (by simp; omega)), by
    intro p hp
    simp only [List.mem_cons, List.not_mem_nil, or_false] at hp
    rcases hp with rfl | rfl
    · exact blk_keep (heap_alloc2_old _ _ _) hb1
    · exact blk_keep (heap_alloc2_new _ _ _) hb1⟩
  clear hb1
  go_wp2_with fail
  go_loopw [7] (fun j wr => ∃ k : Int, 64868 ≤ k ∧ k ≤ 64994 ∧ j = .int .i64 k ∧ Holds w.heap.size w [(w.heap.size, a), (w.heap.size + 1, b)] wr) (fun j _ => (64994 - intOf j).toNat)
  case atStart => exact ⟨64868, by decide, by decide, rfl, hS⟩
  case round =>
    obtain ⟨k, hk0, hk, rfl, hs⟩ := hrel
    clear hS
    rcases (show k < 64993 ∨ k = 64993 ∨ k = 64994 by omega) with hlt | rfl | rfl
    · have hne : (k == 64993) = false := by rw [beq_eq_false_iff_ne]; omega
      have hV := hs.fst
      have hV' := hs.snd
      have hE := equal_vec (binW k a b).1 (binW k a b).1
      simp only [decide_true] at hE
      have hG := @guard_vec
      go_wp2_with (first | (with_reducible refine load_vec rfl _ rfl _ rfl _ hV ?_) | (with_reducible refine load_vec rfl _ rfl _ rfl _ hV' ?_))
      refine (bin_any k a b _ (by omega)).mono ?_
      rintro e u1 ⟨rfl, hb1⟩
      have h1 := hs.below hb1
      clear hs hV hV' hb1
      go_wp2_with (first | (with_reducible refine store_vec rfl _ _ rfl _ _ rfl rfl 0 (heap_new_zero _) ?_; intro wA hA; have h2 := h1.store hA; have hVA := h2.fst; have hVB := h2.snd) | (with_reducible refine load_vec rfl _ rfl _ rfl _ hVA ?_) | (with_reducible refine load_vec rfl _ rfl _ rfl _ hVB ?_))
      refine (rbin_any k a b _ (by omega)).mono ?_
      rintro e u2 ⟨rfl, hb2⟩
      have h3 := h2.below hb2
      have hX2 := blk_keep hA.this hb2
      clear h1 hA h2 hVA hVB hb2
      go_wp2_with (first | (with_reducible refine store_vec rfl _ _ rfl _ _ rfl rfl 0 (heap_new_zero _) ?_; intro wB hB; have h4 := h3.store hB; have hXB := blk_sets (blk_alloc hX2 _) hB (Nat.ne_of_lt (block_lt hX2)); have hYB := hB.this) | (with_reducible refine load_vec rfl _ rfl _ rfl _ hXB ?_) | (with_reducible refine load_vec rfl _ rfl _ rfl _ hYB ?_))
      go_roundw
      case rel => exact ⟨k + 1, by omega, by omega, rfl, h4⟩
      case measure => (simp [intOf] <;> omega)
    · have ho := Ho.out
      have hV := hs.fst
      have hV' := hs.snd
      have hE := equal_vec (binW op a b).1 (binW op a b).1
      simp only [decide_true] at hE
      have hG := @guard_vec
      go_wp2_with (first | (with_reducible refine load_vec rfl _ rfl _ rfl _ hV ?_) | (with_reducible refine load_vec rfl _ rfl _ rfl _ hV' ?_))
      refine (bin_any op a b _ (by omega)).mono ?_
      rintro e u1 ⟨rfl, hb1⟩
      have h1 := hs.below hb1
      clear hs hV hV' hb1
      go_wp2_with (first | (with_reducible refine store_vec rfl _ _ rfl _ _ rfl rfl 0 (heap_new_zero _) ?_; intro wA hA; have h2 := h1.store hA; have hVA := h2.fst; have hVB := h2.snd) | (with_reducible refine load_vec rfl _ rfl _ rfl _ hVA ?_) | (with_reducible refine load_vec rfl _ rfl _ rfl _ hVB ?_))
      refine (rbin_any op a b _ (by omega)).mono ?_
      rintro e u2 ⟨rfl, hb2⟩
      have h3 := h2.below hb2
      have hX2 := blk_keep hA.this hb2
      clear h1 hA h2 hVA hVB hb2
      go_wp2_with (first | (with_reducible refine store_vec rfl _ _ rfl _ _ rfl rfl 0 (heap_new_zero _) ?_; intro wB hB; have h4 := h3.store hB; have hXB := blk_sets (blk_alloc hX2 _) hB (Nat.ne_of_lt (block_lt hX2)); have hYB := hB.this) | (with_reducible refine load_vec rfl _ rfl _ rfl _ hXB ?_) | (with_reducible refine load_vec rfl _ rfl _ rfl _ hYB ?_))
      go_roundw
      case rel => exact ⟨64994, by omega, by omega, rfl, h4⟩
      case measure => (simp [intOf] <;> omega)
    · go_wp2_with fail
      go_ret
      exact ⟨rfl, hs.1⟩

end Go.Proofs.Ytnjhojjpajnbhaa
