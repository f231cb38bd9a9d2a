/-
  pair.Split and pair.Join.
-/
import Derived.Test.YtcpfabkokgiepaaPair
import Derived.Test.YtcpfabkokgiepaaDo
set_option linter.unusedSimpArgs false
set_option linter.unusedVariables false
namespace Go.Proofs.Ytcpfabkokgiepaa
open Go.RowKit Pl

theorem putAt_comm (v : Vec) (s l x s' l' x' : Nat) (h : s + l ≤ 128) (h' : s' + l' ≤ 128) (hd : s' + l' ≤ s ∨ s + l ≤ s') : putAt (putAt v s l x) s' l' x' = putAt (putAt v s' l' x') s l x := by
  apply vec_ext
  intro j _
  rw [testBit_putAt _ _ _ _ _ h', testBit_putAt _ _ _ _ _ h, testBit_putAt _ _ _ _ _ h, testBit_putAt _ _ _ _ _ h']
  by_cases h1 : s ≤ j ∧ j < s + l
  · rw [if_pos h1, if_pos h1, if_neg (by omega)]
  · rw [if_neg h1, if_neg h1]
theorem join_step (k lo hi : Nat) (hk : k < 8) : putAt (putAt (putAt (putAt 0 0 (8 * k) lo) 64 (8 * k) hi) (8 * k) 8 (lo / 2 ^ (8 * k))) (8 * (8 + k)) 8 (hi / 2 ^ (8 * k)) = putAt (putAt 0 0 (8 * (k + 1)) lo) 64 (8 * (k + 1)) hi := by
  have e := putAt_more 0 0 (8 * k) 8 lo (by omega)
  rw [Nat.zero_add] at e
  rw [putAt_comm _ 64 (8 * k) hi (8 * k) 8 _ (by omega) (by omega) (by omega), e, show 8 * (8 + k) = 64 + 8 * k by omega, putAt_more _ _ _ _ _ (by omega)]
  rfl

set_option maxRecDepth 100000 in
theorem split_k (v : Vec) (w : World) :
    Calls Try.prog 16 #[.agg (cells v)] w fun e w' => e = .returned (.agg #[.int .u64 (getN v 64 0 : Nat), .int .u64 (getN v 64 1 : Nat)]) ∧ Below w.heap.size w w' := by
  go_enter Try.func16, Try.ntmps16
  go_wp2_with fail
  obtain ⟨W, hW⟩ : ∃ W, W = (w.alloc (.cells (cells v) 45)).alloc (.cells #[.int .u64 0, .int .u64 0] 47) := ⟨_, rfl⟩
  have hB : W.heap[w.heap.size]? = some (.cells (cells v) 45 (0, 0)) := hW ▸ heap_alloc2_old _ _ _
  have hO : W.heap[w.heap.size + 1]? = some (.cells #[.int .u64 0, .int .u64 0] 47 (0, 0)) := hW ▸ heap_alloc2_new _ _ _
  have hZ : Below w.heap.size w W := hW ▸ ((Below.refl _ _).alloc (Nat.le_refl _) _).alloc (by simp) _
  rw [← hW]
  clear hW
  have hLt := block_lt hB
  refine region_do (fun u => Below W.heap.size W u) 5 (by kernel_rfl) (by kernel_rfl) (Below.refl _ _).drew ?_
  simp only [List.take_succ_cons, List.take_zero, List.drop_succ_cons, List.drop_zero]
  repeat (first | (refine wpD_pure (v := ?_) rfl (fun u => ?_) ?_; rotate_left; (focus (go_simp; (try with_reducible rfl); done)); simp only [Act.put, List.setIfInBounds_toArray, List.set_cons_zero, List.set_cons_succ]) | (refine wpD_call (v := .int .u64 (bitsAt v (8 * 0) (8 * 8) : Nat)) rfl 48 ?_ (fun u => ?_) (fun u hS => ?_) ?_; rotate_left 1; (focus (go_simp; (try with_reducible rfl); done)); (focus (refine (half_any v _ _ 8 _ u (by omega) (by omega) (hS.block _ hLt |>.trans hB)).mono ?_; rintro e u2 ⟨rfl, rfl⟩; exact ⟨rfl, hS⟩)); simp only [Act.put, List.setIfInBounds_toArray, List.set_cons_zero, List.set_cons_succ]) | (refine wpD_call (v := .int .u64 (bitsAt v (8 * 8) (8 * 8) : Nat)) rfl 48 ?_ (fun u => ?_) (fun u hS => ?_) ?_; rotate_left 1; (focus (go_simp; (try with_reducible rfl); done)); (focus (refine (half_any v _ _ 8 _ u (by omega) (by omega) (hS.block _ hLt |>.trans hB)).mono ?_; rintro e u2 ⟨rfl, rfl⟩; exact ⟨rfl, hS⟩)); simp only [Act.put, List.setIfInBounds_toArray, List.set_cons_zero, List.set_cons_succ]))
  refine wpD_nil fun u hS => ?_
  have hO1 := (hS.block _ (block_lt hO)).trans hO
  have hc0 : u.cell? ⟨w.heap.size + 1, 0, none⟩ = some (.int .u64 0) := by rw [cell_of_row u _ 0 _ _ _ hO1]; rfl
  have hc1 : u.cell? ⟨w.heap.size + 1, 1, none⟩ = some (.int .u64 0) := by rw [cell_of_row u _ 1 _ _ _ hO1]; rfl
  have hf0 := frozen_of_row u (w.heap.size + 1) 0 _ _ hO1
  have hf1 := frozen_of_row u (w.heap.size + 1) 1 _ _ hO1
  go_wp2_with fail
  obtain ⟨fs, hund⟩ : ∃ fs, Try.prog.underlying 47 = some (.struct fs) := ⟨_, rfl⟩
  have hE : ((u.setCell ⟨w.heap.size + 1, 0, none⟩ (.int .u64 (bitsAt v 0 64 : Nat))).setCell ⟨w.heap.size + 1, 1, none⟩ (.int .u64 (bitsAt v 64 64 : Nat))).heap[w.heap.size + 1]? = some (.cells #[.int .u64 (bitsAt v 0 64 : Nat), .int .u64 (bitsAt v 64 64 : Nat)] 47 (0, 0)) := by
    rw [heap_setCell_same _ _ _ _ _ _ (heap_setCell_same _ _ _ _ _ _ hO1)]
    rfl
  refine bodyPost_ret (results_cell_row rfl _ _ (w.heap.size + 1) _ _ _ _ rfl hE hund rfl (by kernel_rfl)) rfl ⟨rfl, ?_⟩
  exact hZ.trans (((hS.mono hZ.size).setCell (by simp) _).setCell (by simp) _)

set_option maxRecDepth 100000 in
theorem join_k (lo hi : Nat) (w : World) :
    Calls Try.prog 62 #[.agg #[.int .u64 (lo : Nat), .int .u64 (hi : Nat)]] w fun e w' => e = .returned (.agg (cells (setN (setN 0 64 0 lo) 64 1 hi))) ∧ Below w.heap.size w w' := by
  go_enter Try.func62, Try.ntmps62
  go_wp2_with fail
  rw [← cells_zero]
  obtain ⟨W, hW⟩ : ∃ W, W = ((w.alloc (.cells #[.int .u64 (lo : Nat), .int .u64 (hi : Nat)] 47)).alloc (.cells (cells 0) 45)).alloc (.cells (cells 0) 45) := ⟨_, rfl⟩
  have hB : W.heap[w.heap.size]? = some (.cells #[.int .u64 (lo : Nat), .int .u64 (hi : Nat)] 47 (0, 0)) := hW ▸ heap_alloc3_0 _ _ _ _
  have hR : W.heap[w.heap.size + 1]? = some (.cells (cells 0) 45 (0, 0)) := hW ▸ heap_alloc3_1 _ _ _ _
  have hO : W.heap[w.heap.size + 1 + 1]? = some (.cells (cells 0) 45 (0, 0)) := hW ▸ heap_alloc3_2 _ _ _ _
  have hZ : Below w.heap.size w W := hW ▸ below_alloc3 _ _ _ _
  rw [← hW]
  clear hW
  go_loopw [5] (fun iv wr => ∃ k : Nat, k ≤ 8 ∧ iv = .int .i64 (k : Int) ∧ Sets W (w.heap.size + 1 + 1) (putAt (putAt 0 0 (8 * k) lo) 64 (8 * k) hi) wr) (fun iv _ => 8 - (intOf iv).toNat)
  case atStart => exact ⟨0, Nat.zero_le _, rfl, by rw [putAt_zero _ _ _ (by omega), putAt_zero _ _ _ (by omega)]; exact Sets.refl hO⟩
  case round =>
    obtain ⟨k, hk, rfl, hs⟩ := hrel
    have hB' := (hs.other _ (show w.heap.size ≠ w.heap.size + 1 + 1 by omega)).trans hB
    have hc0 : wr.cell? ⟨w.heap.size, 0, none⟩ = some (.int .u64 (lo : Nat)) := by rw [cell_of_row wr _ 0 _ _ _ hB']; rfl
    have hc1 : wr.cell? ⟨w.heap.size, 1, none⟩ = some (.int .u64 (hi : Nat)) := by rw [cell_of_row wr _ 1 _ _ _ hB']; rfl
    by_cases hlt : k < 8
    · have hz1 := Lib.hid (show (lo : Int) / 2 ^ (8 * k) % 256 = ((lo / 2 ^ (8 * k) % 256 : Nat) : Int) by simp)
      have hz2 := Lib.hid (show (hi : Int) / 2 ^ (8 * k) % 256 = ((hi / 2 ^ (8 * k) % 256 : Nat) : Int) by simp)
      go_wp2_with (first | ((with_reducible refine store_byte rfl _ _ rfl (w.heap.size + 1 + 1) k _ (lo / 2 ^ (8 * k)) rfl rfl _ hs.this (by omega) hz1.out ?_); intro wp hp; have hBp := (hp.other _ (show w.heap.size ≠ w.heap.size + 1 + 1 by omega)).trans hB'; have hcp : wp.cell? ⟨w.heap.size, 1, none⟩ = some (.int .u64 (hi : Nat)) := (by rw [cell_of_row wp _ 1 _ _ _ hBp]; rfl)) | (with_reducible refine store_byte rfl _ _ rfl (w.heap.size + 1 + 1) (8 + k) _ (hi / 2 ^ (8 * k)) rfl rfl _ hp.this (by omega) hz2.out ?_; intro wq hq))
      go_roundw
      case rel =>
        refine ⟨k + 1, by omega, by go_num, ?_⟩
        have := (hs.trans hp).trans hq
        rw [join_step k lo hi (by omega)] at this
        exact this
      case measure => (simp [intOf] <;> omega)
    · obtain rfl : k = 8 := by omega
      have hR' : wr.heap[w.heap.size + 1]? = some (.cells (cells 0) 45 (0, 0)) := (hs.other _ (by omega)).trans hR
      go_wp2_with (first | (with_reducible refine load_vec rfl _ rfl _ rfl _ hs.this ?_) | (with_reducible refine store_vec rfl _ _ rfl (w.heap.size + 1) _ rfl rfl _ hR' ?_; intro wq hq))
      refine bodyPost_ret (results_cell_row rfl _ _ (w.heap.size + 1) _ _ _ _ rfl hq.this vunder rfl (vsize _)) rfl ⟨rfl, hZ.trans ((hs.below.mono (by omega)).trans (hq.below.mono (by omega)))⟩

end Go.Proofs.Ytcpfabkokgiepaa
