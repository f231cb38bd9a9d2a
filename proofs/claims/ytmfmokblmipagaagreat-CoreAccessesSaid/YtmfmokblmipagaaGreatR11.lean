/-
  Texts TaT.
-/
import Derived.Test.YtmfmokblmipagaaGreatR04
import Derived.Test.YtmfmokblmipagaaGreatR10
import Derived.Deep.Cut
import Derived.Deep.QuietTactic
import Derived.BigQuiet
set_option linter.unusedSimpArgs false
set_option linter.unusedVariables false
set_option maxHeartbeats 8000000
open Pl
namespace Go.Proofs.YtmfmokblmipagaaGreat
open Go.RowKit Pl
def rows19 : List Int := [0, 0, 0, 12, 0, 0, 13, 1, 0, 14, 1, 0, 26, 1, 0, 27, 3, 1, 32, 0, 1, 33, 1, 0, 34, 1, 1, 35, 0, 1, 36, 1, 0, 40, 1, 1, 41, 1, 1, 54, 2, 0, 55, 2, 0, 58, 2, 0, 59, 2, 0, 60, 2, 0, 61, 2, 0, 62, 2, 0, 63, 0, 1, 64, 1, 1, 66, 0, 1, 257, 0, 0]
set_option maxRecDepth 100000 in
theorem table_hit (op t g : Int) (K : Nat) (w : World) (hK : K < 24) (h1 : ∀ j, j < K → rows19.getD (j * 3) 0 ≠ op) (h2 : rows19.getD (K * 3) 0 = op) (h3 : rows19.getD (K * 3 + 1) 0 = t) (h4 : rows19.getD (K * 3 + 2) 0 = g) :
 Calls Tryz.prog 85 #[.int .i64 op] w fun e w' => e = .returned (.tuple #[.int .i64 t, .int .i64 g]) ∧ Below w.heap.size w w' := by
 have H1 := Lib.hid h1
 have H2 := Lib.hid h2
 have H3 := Lib.hid h3
 have H4 := Lib.hid h4
 clear h1 h2 h3 h4
 go_enter Tryz.func85, Tryz.ntmps85
 go_upto_region 2 with (refine store_new rfl 159 _ _ rfl Tryz.zeroCells159 (rows19.map (Value.int .i64)).toArray rfl ?_ (by kernel_rfl) (by kernel_rfl) (by kernel_rfl) ?_; (focus kernel_rfl))
 obtain ⟨W, hW⟩ : ∃ W, W = w.alloc (.cells (rows19.map (Value.int .i64)).toArray 159) := ⟨_, rfl⟩
 have hR : W.heap[w.heap.size]? = some (.cells (rows19.map (Value.int .i64)).toArray 159 (0, 0)) := hW ▸ heap_alloc_new _ _
 have hZ : Below w.heap.size w W := hW ▸ (Below.refl _ _).alloc (Nat.le_refl _) _
 have hcell : ∀ j z, rows19[j]? = some z → W.cell? ⟨w.heap.size, j, none⟩ = some (.int .i64 z) := fun j z hz => by rw [cell_of_row W w.heap.size j _ _ _ hR]; simp [hz]
 have HC := Lib.hid hcell
 rw [← hW]
 clear hW hR hcell
 go_wp2_with fail
 go_loopw [5] (fun iv wr => ∃ i : Nat, i ≤ K ∧ iv = .int .i64 i ∧ wr = W) (fun iv _ => 24 - (intOf iv).toNat)
 case atStart => exact ⟨0, Nat.zero_le _, rfl, rfl⟩
 case round =>
  obtain ⟨i, hi, rfl, rfl⟩ := hrel
  have hl : ∀ j, j < 72 → rows19[j]? = some (rows19.getD j 0) := fun j hj => by rw [List.getD_eq_getElem?_getD, List.getElem?_eq_getElem hj]; rfl
  have c0 := HC.out (i * 3) _ (hl _ (by omega))
  have i24 : i < 24 := by omega
  by_cases hlt : i < K
  ·have t0 : (rows19.getD (i * 3) 0 == op) = false := beq_eq_false_iff_ne.2 (H1.out i hlt)
   generalize rows19.getD (i * 3) 0 = r0 at c0 t0
   clear hl
   go_wp2_with fail
   exact ⟨⟨i + 1, by omega, by first | rfl | simp, by first | rfl | trivial⟩, by simp [intOf]; omega⟩
  ·obtain rfl : i = K := by omega
   have c1 := HC.out (i * 3 + 1) _ (hl _ (by omega))
   have c2 := HC.out (i * 3 + 2) _ (hl _ (by omega))
   rw [H2.out] at c0
   rw [H3.out] at c1
   rw [H4.out] at c2
   clear hl
   go_wp2_with fail
   go_quiet (fail)
   simp only [Exit.then]
   go_at_K
   go_wp2_with fail
   first | go_ret2 | go_ret
   exact ⟨rfl, hZ.trans ⟨rfl, rfl, rfl, Nat.le_refl _, fun _ _ => rfl⟩⟩
set_option maxRecDepth 100000 in
theorem table_ld (op : Int) (w : World) (h1 : ∀ j, j < 24 → rows19.getD (j * 3) 0 ≠ op) (ho : 44 ≤ op ∧ op ≤ 53) :
 Calls Tryz.prog 85 #[.int .i64 op] w fun e w' => e = .returned (.tuple #[.int .i64 1, .int .i64 1]) ∧ Below w.heap.size w w' := by
 have H1 := Lib.hid h1
 clear h1
 go_enter Tryz.func85, Tryz.ntmps85
 go_upto_region 2 with (refine store_new rfl 159 _ _ rfl Tryz.zeroCells159 (rows19.map (Value.int .i64)).toArray rfl ?_ (by kernel_rfl) (by kernel_rfl) (by kernel_rfl) ?_; (focus kernel_rfl))
 obtain ⟨W, hW⟩ : ∃ W, W = w.alloc (.cells (rows19.map (Value.int .i64)).toArray 159) := ⟨_, rfl⟩
 have hR : W.heap[w.heap.size]? = some (.cells (rows19.map (Value.int .i64)).toArray 159 (0, 0)) := hW ▸ heap_alloc_new _ _
 have hZ : Below w.heap.size w W := hW ▸ (Below.refl _ _).alloc (Nat.le_refl _) _
 have hcell : ∀ j z, rows19[j]? = some z → W.cell? ⟨w.heap.size, j, none⟩ = some (.int .i64 z) := fun j z hz => by rw [cell_of_row W w.heap.size j _ _ _ hR]; simp [hz]
 have HC := Lib.hid hcell
 rw [← hW]
 clear hW hR hcell
 go_wp2_with fail
 go_loopw [5] (fun iv wr => ∃ i : Nat, i ≤ 24 ∧ iv = .int .i64 i ∧ wr = W) (fun iv _ => 24 - (intOf iv).toNat)
 case atStart => exact ⟨0, Nat.zero_le _, rfl, rfl⟩
 case round =>
  obtain ⟨i, hi, rfl, rfl⟩ := hrel
  have hl : ∀ j, j < 72 → rows19[j]? = some (rows19.getD j 0) := fun j hj => by rw [List.getD_eq_getElem?_getD, List.getElem?_eq_getElem hj]; rfl
  by_cases hlt : i < 24
  ·have c0 := HC.out (i * 3) _ (hl _ (by omega))
   have t0 : (rows19.getD (i * 3) 0 == op) = false := beq_eq_false_iff_ne.2 (H1.out i hlt)
   generalize rows19.getD (i * 3) 0 = r0 at c0 t0
   clear hl
   go_wp2_with fail
   exact ⟨⟨i + 1, by omega, by first | rfl | simp, by first | rfl | trivial⟩, by simp [intOf]; omega⟩
  ·obtain rfl : i = 24 := by omega
   clear hl
   go_wp2_with fail
   first | go_ret2 | go_ret
   exact ⟨rfl, hZ⟩
set_option maxRecDepth 100000 in
theorem table_bin (op : Int) (w : World) (h1 : ∀ j, j < 24 → rows19.getD (j * 3) 0 ≠ op) (ho : 124 ≤ op ∧ op ≤ 138) :
 Calls Tryz.prog 85 #[.int .i64 op] w fun e w' => e = .returned (.tuple #[.int .i64 2, .int .i64 1]) ∧ Below w.heap.size w w' := by
 have H1 := Lib.hid h1
 have l1 : decide (44 ≤ op) = true := decide_eq_true (by omega)
 have l2 : decide (op ≤ 53) = false := decide_eq_false (by omega)
 have AR : ∀ W, Calls Tryz.prog 102 #[.int .i64 op] W fun e w' => e = .returned (.int .i64 2) ∧ Below W.heap.size W w' := fun W => by have h := rarity_k op W; rw [← (ar_2 (by omega) : 2 = arN op)] at h; exact h
 replace AR := Lib.hid AR
 clear h1 ho
 go_enter Tryz.func85, Tryz.ntmps85
 go_upto_region 2 with (refine store_new rfl 159 _ _ rfl Tryz.zeroCells159 (rows19.map (Value.int .i64)).toArray rfl ?_ (by kernel_rfl) (by kernel_rfl) (by kernel_rfl) ?_; (focus kernel_rfl))
 obtain ⟨W, hW⟩ : ∃ W, W = w.alloc (.cells (rows19.map (Value.int .i64)).toArray 159) := ⟨_, rfl⟩
 have hR : W.heap[w.heap.size]? = some (.cells (rows19.map (Value.int .i64)).toArray 159 (0, 0)) := hW ▸ heap_alloc_new _ _
 have hZ : Below w.heap.size w W := hW ▸ (Below.refl _ _).alloc (Nat.le_refl _) _
 have hcell : ∀ j z, rows19[j]? = some z → W.cell? ⟨w.heap.size, j, none⟩ = some (.int .i64 z) := fun j z hz => by rw [cell_of_row W w.heap.size j _ _ _ hR]; simp [hz]
 have HC := Lib.hid hcell
 rw [← hW]
 clear hW hR hcell
 go_wp2_with fail
 go_loopw [5] (fun iv wr => ∃ i : Nat, i ≤ 24 ∧ iv = .int .i64 i ∧ wr = W) (fun iv _ => 24 - (intOf iv).toNat)
 case atStart => exact ⟨0, Nat.zero_le _, rfl, rfl⟩
 case round =>
  obtain ⟨i, hi, rfl, rfl⟩ := hrel
  have hl : ∀ j, j < 72 → rows19[j]? = some (rows19.getD j 0) := fun j hj => by rw [List.getD_eq_getElem?_getD, List.getElem?_eq_getElem hj]; rfl
  by_cases hlt : i < 24
  ·have c0 := HC.out (i * 3) _ (hl _ (by omega))
   have t0 : (rows19.getD (i * 3) 0 == op) = false := beq_eq_false_iff_ne.2 (H1.out i hlt)
   generalize rows19.getD (i * 3) 0 = r0 at c0 t0
   clear hl
   go_wp2_with fail
   exact ⟨⟨i + 1, by omega, by first | rfl | simp, by first | rfl | trivial⟩, by simp [intOf]; omega⟩
  ·obtain rfl : i = 24 := by omega
   clear hl
   go_wp2_with (go_at_call 102; (with_reducible refine (AR.out _).mono ?_); rintro e u ⟨rfl, hb⟩; have hZ := hZ.trans (hb.mono hZ.size); clear hb)
   first | go_ret2 | go_ret
   exact ⟨rfl, hZ⟩
end Go.Proofs.YtmfmokblmipagaaGreat
