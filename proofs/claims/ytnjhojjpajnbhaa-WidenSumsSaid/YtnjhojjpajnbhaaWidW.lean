/-
  The walk of plaitlaw08.WidenUn.
-/
import Derived.Test.YtnjhojjpajnbhaaWidL
set_option linter.unusedSimpArgs false
set_option linter.unusedVariables false
namespace Go.Proofs.Ytnjhojjpajnbhaa
open Go.RowKit Pl


theorem Holds.store {w0 u u1 : World} {l : List (Nat × Vec)} {x : Obj} {v : Vec} (h : Holds w0.heap.size w0 l u) (hs : Sets (u.alloc x) u.heap.size v u1) : Holds w0.heap.size w0 l u1 :=
  ⟨below_store h.1 (Nat.le_refl _) hs, fun p hp => blk_sets (blk_alloc (h.2 p hp) x) hs (Nat.ne_of_lt (block_lt (h.2 p hp)))⟩
theorem Holds.one {w0 u : World} {b : Nat} {v : Vec} {l : List (Nat × Vec)} (h : Holds w0.heap.size w0 ((b, v) :: l) u) : u.heap[b]? = some (.cells (cells v) 23 (0, 0)) := h.2 (b, v) (by simp)


set_option maxHeartbeats 1000000 in
set_option maxRecDepth 100000 in
theorem widenUn_walk (op : Int) (v : Vec) (w : World) (ho : -9223372036854775808 ≤ op ∧ op ≤ 9223372036854775807) :
    Calls Try.prog 3 #[.int .i64 op, .agg (cells v)] w fun e w' => e = .returned (.bool true) ∧ Below w.heap.size w w' := by
  have Ho := Lib.hid ho
  clear ho
  go_enter Try.func3, Try.ntmps3
  go_wp2_with fail
  refine (awake_any _).mono ?_
  rintro e w1 ⟨rfl, hb1⟩
  have hS : Holds w.heap.size w [(w.heap.size, v)] w1 := ⟨below_new (Below.refl _ _) (Nat.le_refl _) _ hb1, by simp only [List.mem_cons, List.not_mem_nil, or_false, forall_eq]; exact blk_keep (heap_alloc_new _ _) hb1⟩
  clear hb1
  go_wp2_with fail
  go_loopw [5] (fun j wr => ∃ k : Int, 64868 ≤ k ∧ k ≤ 64994 ∧ j = .int .i64 k ∧ Holds w.heap.size w [(w.heap.size, v)] wr) (fun j _ => (64994 - intOf j).toNat)
  case atStart => exact ⟨64868, by decide, by decide, rfl, hS⟩
  case round =>
    obtain ⟨k, hk0, hk, rfl, hs⟩ := hrel
    clear hS
    rcases (show k < 64993 ∨ k = 64993 ∨ k = 64994 by omega) with hlt | rfl | rfl
    · have hne : (k == 64993) = false := by rw [beq_eq_false_iff_ne]; omega
      have hV := hs.one
      have hE := equal_vec (unW k v).1 (unW k v).1
      simp only [decide_true] at hE
      have hG := @guard_vec
      go_wp2_with (with_reducible refine load_vec rfl _ rfl _ rfl _ hV ?_)
      refine (un_any k v _ (by omega)).mono ?_
      rintro e u1 ⟨rfl, hb1⟩
      have h1 := hs.below hb1
      clear hs hV hb1
      go_wp2_with (first | (with_reducible refine store_vec rfl _ _ rfl _ _ rfl rfl 0 (heap_new_zero _) ?_; intro wA hA; have h2 := h1.store hA; have hVA := h2.one) | (with_reducible refine load_vec rfl _ rfl _ rfl _ hVA ?_))
      refine (run_any k v _).mono ?_
      rintro e u2 ⟨rfl, hb2⟩
      have h3 := h2.below hb2
      have hX2 := blk_keep hA.this hb2
      clear h1 hA h2 hVA hb2
      go_wp2_with (first | (with_reducible refine store_vec rfl _ _ rfl _ _ rfl rfl 0 (heap_new_zero _) ?_; intro wB hB; have h4 := h3.store hB; have hXB := blk_sets (blk_alloc hX2 _) hB (Nat.ne_of_lt (block_lt hX2)); have hYB := hB.this) | (with_reducible refine load_vec rfl _ rfl _ rfl _ hXB ?_) | (with_reducible refine load_vec rfl _ rfl _ rfl _ hYB ?_))
      go_roundw
      case rel => exact ⟨k + 1, by omega, by omega, rfl, h4⟩
      case measure => (simp [intOf] <;> omega)
    · have ho := Ho.out
      have hV := hs.one
      have hE := equal_vec (unW op v).1 (unW op v).1
      simp only [decide_true] at hE
      have hG := @guard_vec
      go_wp2_with (with_reducible refine load_vec rfl _ rfl _ rfl _ hV ?_)
      refine (un_any op v _ (by omega)).mono ?_
      rintro e u1 ⟨rfl, hb1⟩
      have h1 := hs.below hb1
      clear hs hV hb1
      go_wp2_with (first | (with_reducible refine store_vec rfl _ _ rfl _ _ rfl rfl 0 (heap_new_zero _) ?_; intro wA hA; have h2 := h1.store hA; have hVA := h2.one) | (with_reducible refine load_vec rfl _ rfl _ rfl _ hVA ?_))
      refine (run_any op v _).mono ?_
      rintro e u2 ⟨rfl, hb2⟩
      have h3 := h2.below hb2
      have hX2 := blk_keep hA.this hb2
      clear h1 hA h2 hVA hb2
      go_wp2_with (first | (with_reducible refine store_vec rfl _ _ rfl _ _ rfl rfl 0 (heap_new_zero _) ?_; intro wB hB; have h4 := h3.store hB; have hXB := blk_sets (blk_alloc hX2 _) hB (Nat.ne_of_lt (block_lt hX2)); have hYB := hB.this) | (with_reducible refine load_vec rfl _ rfl _ rfl _ hXB ?_) | (with_reducible refine load_vec rfl _ rfl _ rfl _ hYB ?_))
      go_roundw
      case rel => exact ⟨64994, by omega, by omega, rfl, h4⟩
      case measure => (simp [intOf] <;> omega)
    · go_wp2_with fail
      go_ret
      exact ⟨rfl, hs.1⟩

end Go.Proofs.Ytnjhojjpajnbhaa
