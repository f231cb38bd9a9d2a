/-
  vmem.spread.
-/
import Derived.Test.YtlcndenbnokcjaaVmL
set_option linter.unusedSimpArgs false
set_option linter.unusedVariables false
namespace Go.Proofs.Ytlcndenbnokcjaa
open Go.RowKit Pl

/-- The vector whose first half is x. -/
def lowV (x : Nat) : Vec := buildOn 0 64 (fun i => [x].getD i 0) 1
/-- The numbers of w bits of x, in lanes of twice the width. -/
def spreadV (x w : Nat) (s : Bool) : Vec := buildOn 0 (2 * w) (fun i => if s then u64 (sgn w (getN (lowV x) w i)) else getN (lowV x) w i) (64 / w)

theorem of_one (x : Nat) (c : Nat) (w : World) (b : Nat) (fr : Nat × Nat) (t : TypeId) (hc : 1 ≤ c) (hb : w.heap[b]? = some (.cells #[.int .u64 (x : Nat)] t fr)) :
    Calls Try.prog 30 #[.int .i64 64, .slice (some ⟨b, 0, none⟩) 1 c] w fun e w' => e = .returned (.agg (cells (lowV x))) ∧ Below w.heap.size w w' :=
  of64 [x] 1 c w b fr t (by simp) (by simp) (by simpa using hc) rfl hb

set_option maxRecDepth 100000 in
theorem spread_8_0 (x : Nat) (w : World) (hx : x < 18446744073709551616) :
    Calls Try.prog 53 #[.int .u64 (x : Nat), .int .i64 8, .bool false] w fun e w' => e = .returned (.agg (cells (spreadV x 8 false))) ∧ Below w.heap.size w w' := by
  go_enter Try.func53, Try.ntmps53
  go_wp2_with fail
  rw [← cells_zero]
  obtain ⟨W, hW⟩ : ∃ W, W = w.alloc (.cells (cells 0) 61) := ⟨_, rfl⟩
  have hR : W.heap[w.heap.size]? = some (.cells (cells 0) 61 (0, 0)) := hW ▸ heap_alloc_new _ _
  have hZ : Below w.heap.size w W := hW ▸ (Below.refl _ _).alloc (Nat.le_refl _) _
  have hWs : W.heap.size = w.heap.size + 1 := by rw [hW]; simp
  rw [← hW]
  clear hW
  refine (of_one x 1 _ (w.heap.size + 1) (0, 0) _ (by simp) (by rw [← hWs]; exact heap_alloc_new _ _)).mono ?_
  rintro e u1 ⟨rfl, hb1⟩
  have hZ1 := below_new hZ (Nat.le_refl _) _ hb1
  have hR1 := (hb1.block _ (by simp; omega)).trans (blk_alloc hR _)
  go_wp2_with ((with_reducible refine store_vec rfl _ _ rfl _ (lowV x) rfl rfl 0 (heap_new_zero _) ?_); intro wA hA)
  have hZA := below_store hZ1 (Nat.le_refl _) hA
  have hFA : wA.heap[u1.heap.size]? = some (.cells (cells (lowV x)) 61 (0, 0)) := hA.this
  have hRA := blk_sets (blk_alloc hR1 _) hA (by have := block_lt hR1; omega)
  rw [← cells_zero]
  obtain ⟨W2, hW2⟩ : ∃ W2, W2 = wA.alloc (.cells (cells 0) 61) := ⟨_, rfl⟩
  have hF : W2.heap[u1.heap.size]? = some (.cells (cells (lowV x)) 61 (0, 0)) := hW2 ▸ blk_alloc hFA _
  have hR2 : W2.heap[w.heap.size]? = some (.cells (cells 0) 61 (0, 0)) := hW2 ▸ blk_alloc hRA _
  have hV2 : W2.heap[wA.heap.size]? = some (.cells (cells 0) 61 (0, 0)) := hW2 ▸ heap_alloc_new _ _
  have hZ2 : Below w.heap.size w W2 := hW2 ▸ hZA.alloc hZA.size _
  rw [← hW2]
  have nF := Nat.ne_of_lt (block_lt hFA)
  have nR := Nat.ne_of_lt (block_lt hRA)
  have nA := hZA.size
  clear hW2 hFA hRA hZA hA hR1 hZ1 hb1 hZ hR hWs
  go_wp2_with fail
  go_loopw [16] (fun iv wr => ∃ k : Nat, k ≤ 8 ∧ iv = .int .i64 (k : Int) ∧ St W2 wA.heap.size (buildOn 0 16 (fun i => getN (lowV x) 8 i) k) wr) (fun iv _ => 8 - (intOf iv).toNat)
  case atStart => exact ⟨0, Nat.zero_le _, rfl, St.start hV2⟩
  case round =>
    obtain ⟨k, hk, rfl, hs⟩ := hrel
    have hF1 := hs.kb.get hF nF
    by_cases hlt : k < 8
    · have hlt1 : decide ((k : Int) < 8) = true := decide_eq_true (by omega)
      go_wp2_with (with_reducible refine load_vec rfl _ rfl _ rfl _ hF1 ?_)
      refine (get8z (lowV x) _ k _ rfl (by omega)).mono ?_
      rintro e u2 ⟨rfl, hb2⟩
      replace hs := hs.below hb2
      replace hF1 := blk_keep hF1 hb2
      go_wp2_with (with_reducible refine load_vec rfl _ rfl _ rfl _ hs.this ?_)
      refine (set16z _ _ _ k (getN (lowV x) 8 k) _ rfl (by first | rfl | exact wrap_u64 _ | (unfold u64; omega)) (by omega)).mono ?_
      rintro e u4 ⟨rfl, hb4⟩
      replace hs := hs.below hb4
      go_wp2_with ((with_reducible refine store_vec rfl _ _ rfl wA.heap.size _ rfl rfl _ hs.this ?_); intro wq hq)
      replace hs := hs.sets hq
      go_roundw
      case rel => exact ⟨k + 1, by omega, by go_num, hs⟩
      case measure => (simp [intOf] <;> omega)
    · obtain rfl : k = 8 := by omega
      have hR3 := hs.kb.get hR2 nR
      go_wp2_with (first | (with_reducible refine load_vec rfl _ rfl _ rfl _ hs.this ?_) | ((with_reducible refine store_vec rfl _ _ rfl w.heap.size _ rfl rfl _ hR3 ?_); intro wq hq))
      exact bodyPost_ret (results_cell_row rfl _ _ w.heap.size _ _ _ _ rfl hq.this vunder rfl (vsize _)) rfl ⟨rfl, (hs.kb.to_below hZ2 nA).trans (hq.below.mono (Nat.le_refl _))⟩

set_option maxRecDepth 100000 in
theorem spread_8_1 (x : Nat) (w : World) (hx : x < 18446744073709551616) :
    Calls Try.prog 53 #[.int .u64 (x : Nat), .int .i64 8, .bool true] w fun e w' => e = .returned (.agg (cells (spreadV x 8 true))) ∧ Below w.heap.size w w' := by
  go_enter Try.func53, Try.ntmps53
  go_wp2_with fail
  rw [← cells_zero]
  obtain ⟨W, hW⟩ : ∃ W, W = w.alloc (.cells (cells 0) 61) := ⟨_, rfl⟩
  have hR : W.heap[w.heap.size]? = some (.cells (cells 0) 61 (0, 0)) := hW ▸ heap_alloc_new _ _
  have hZ : Below w.heap.size w W := hW ▸ (Below.refl _ _).alloc (Nat.le_refl _) _
  have hWs : W.heap.size = w.heap.size + 1 := by rw [hW]; simp
  rw [← hW]
  clear hW
  refine (of_one x 1 _ (w.heap.size + 1) (0, 0) _ (by simp) (by rw [← hWs]; exact heap_alloc_new _ _)).mono ?_
  rintro e u1 ⟨rfl, hb1⟩
  have hZ1 := below_new hZ (Nat.le_refl _) _ hb1
  have hR1 := (hb1.block _ (by simp; omega)).trans (blk_alloc hR _)
  go_wp2_with ((with_reducible refine store_vec rfl _ _ rfl _ (lowV x) rfl rfl 0 (heap_new_zero _) ?_); intro wA hA)
  have hZA := below_store hZ1 (Nat.le_refl _) hA
  have hFA : wA.heap[u1.heap.size]? = some (.cells (cells (lowV x)) 61 (0, 0)) := hA.this
  have hRA := blk_sets (blk_alloc hR1 _) hA (by have := block_lt hR1; omega)
  rw [← cells_zero]
  obtain ⟨W2, hW2⟩ : ∃ W2, W2 = wA.alloc (.cells (cells 0) 61) := ⟨_, rfl⟩
  have hF : W2.heap[u1.heap.size]? = some (.cells (cells (lowV x)) 61 (0, 0)) := hW2 ▸ blk_alloc hFA _
  have hR2 : W2.heap[w.heap.size]? = some (.cells (cells 0) 61 (0, 0)) := hW2 ▸ blk_alloc hRA _
  have hV2 : W2.heap[wA.heap.size]? = some (.cells (cells 0) 61 (0, 0)) := hW2 ▸ heap_alloc_new _ _
  have hZ2 : Below w.heap.size w W2 := hW2 ▸ hZA.alloc hZA.size _
  rw [← hW2]
  have nF := Nat.ne_of_lt (block_lt hFA)
  have nR := Nat.ne_of_lt (block_lt hRA)
  have nA := hZA.size
  clear hW2 hFA hRA hZA hA hR1 hZ1 hb1 hZ hR hWs
  go_wp2_with fail
  go_loopw [16] (fun iv wr => ∃ k : Nat, k ≤ 8 ∧ iv = .int .i64 (k : Int) ∧ St W2 wA.heap.size (buildOn 0 16 (fun i => u64 (sgn 8 (getN (lowV x) 8 i))) k) wr) (fun iv _ => 8 - (intOf iv).toNat)
  case atStart => exact ⟨0, Nat.zero_le _, rfl, St.start hV2⟩
  case round =>
    obtain ⟨k, hk, rfl, hs⟩ := hrel
    have hF1 := hs.kb.get hF nF
    by_cases hlt : k < 8
    · have hlt1 : decide ((k : Int) < 8) = true := decide_eq_true (by omega)
      go_wp2_with (with_reducible refine load_vec rfl _ rfl _ rfl _ hF1 ?_)
      refine (get8z (lowV x) _ k _ rfl (by omega)).mono ?_
      rintro e u2 ⟨rfl, hb2⟩
      replace hs := hs.below hb2
      replace hF1 := blk_keep hF1 hb2
      go_wp2_with (with_reducible refine load_vec rfl _ rfl _ rfl _ hF1 ?_)
      refine (signed8z (lowV x) _ k _ rfl (by omega)).mono ?_
      rintro e u3 ⟨rfl, hb3⟩
      replace hs := hs.below hb3
      go_wp2_with (with_reducible refine load_vec rfl _ rfl _ rfl _ hs.this ?_)
      refine (set16z _ _ _ k (u64 (sgn 8 (getN (lowV x) 8 k))) _ rfl (by first | rfl | exact wrap_u64 _ | (unfold u64; omega)) (by omega)).mono ?_
      rintro e u4 ⟨rfl, hb4⟩
      replace hs := hs.below hb4
      go_wp2_with ((with_reducible refine store_vec rfl _ _ rfl wA.heap.size _ rfl rfl _ hs.this ?_); intro wq hq)
      replace hs := hs.sets hq
      go_roundw
      case rel => exact ⟨k + 1, by omega, by go_num, hs⟩
      case measure => (simp [intOf] <;> omega)
    · obtain rfl : k = 8 := by omega
      have hR3 := hs.kb.get hR2 nR
      go_wp2_with (first | (with_reducible refine load_vec rfl _ rfl _ rfl _ hs.this ?_) | ((with_reducible refine store_vec rfl _ _ rfl w.heap.size _ rfl rfl _ hR3 ?_); intro wq hq))
      exact bodyPost_ret (results_cell_row rfl _ _ w.heap.size _ _ _ _ rfl hq.this vunder rfl (vsize _)) rfl ⟨rfl, (hs.kb.to_below hZ2 nA).trans (hq.below.mono (Nat.le_refl _))⟩

set_option maxRecDepth 100000 in
theorem spread_16_0 (x : Nat) (w : World) (hx : x < 18446744073709551616) :
    Calls Try.prog 53 #[.int .u64 (x : Nat), .int .i64 16, .bool false] w fun e w' => e = .returned (.agg (cells (spreadV x 16 false))) ∧ Below w.heap.size w w' := by
  go_enter Try.func53, Try.ntmps53
  go_wp2_with fail
  rw [← cells_zero]
  obtain ⟨W, hW⟩ : ∃ W, W = w.alloc (.cells (cells 0) 61) := ⟨_, rfl⟩
  have hR : W.heap[w.heap.size]? = some (.cells (cells 0) 61 (0, 0)) := hW ▸ heap_alloc_new _ _
  have hZ : Below w.heap.size w W := hW ▸ (Below.refl _ _).alloc (Nat.le_refl _) _
  have hWs : W.heap.size = w.heap.size + 1 := by rw [hW]; simp
  rw [← hW]
  clear hW
  refine (of_one x 1 _ (w.heap.size + 1) (0, 0) _ (by simp) (by rw [← hWs]; exact heap_alloc_new _ _)).mono ?_
  rintro e u1 ⟨rfl, hb1⟩
  have hZ1 := below_new hZ (Nat.le_refl _) _ hb1
  have hR1 := (hb1.block _ (by simp; omega)).trans (blk_alloc hR _)
  go_wp2_with ((with_reducible refine store_vec rfl _ _ rfl _ (lowV x) rfl rfl 0 (heap_new_zero _) ?_); intro wA hA)
  have hZA := below_store hZ1 (Nat.le_refl _) hA
  have hFA : wA.heap[u1.heap.size]? = some (.cells (cells (lowV x)) 61 (0, 0)) := hA.this
  have hRA := blk_sets (blk_alloc hR1 _) hA (by have := block_lt hR1; omega)
  rw [← cells_zero]
  obtain ⟨W2, hW2⟩ : ∃ W2, W2 = wA.alloc (.cells (cells 0) 61) := ⟨_, rfl⟩
  have hF : W2.heap[u1.heap.size]? = some (.cells (cells (lowV x)) 61 (0, 0)) := hW2 ▸ blk_alloc hFA _
  have hR2 : W2.heap[w.heap.size]? = some (.cells (cells 0) 61 (0, 0)) := hW2 ▸ blk_alloc hRA _
  have hV2 : W2.heap[wA.heap.size]? = some (.cells (cells 0) 61 (0, 0)) := hW2 ▸ heap_alloc_new _ _
  have hZ2 : Below w.heap.size w W2 := hW2 ▸ hZA.alloc hZA.size _
  rw [← hW2]
  have nF := Nat.ne_of_lt (block_lt hFA)
  have nR := Nat.ne_of_lt (block_lt hRA)
  have nA := hZA.size
  clear hW2 hFA hRA hZA hA hR1 hZ1 hb1 hZ hR hWs
  go_wp2_with fail
  go_loopw [16] (fun iv wr => ∃ k : Nat, k ≤ 4 ∧ iv = .int .i64 (k : Int) ∧ St W2 wA.heap.size (buildOn 0 32 (fun i => getN (lowV x) 16 i) k) wr) (fun iv _ => 4 - (intOf iv).toNat)
  case atStart => exact ⟨0, Nat.zero_le _, rfl, St.start hV2⟩
  case round =>
    obtain ⟨k, hk, rfl, hs⟩ := hrel
    have hF1 := hs.kb.get hF nF
    by_cases hlt : k < 4
    · have hlt1 : decide ((k : Int) < 4) = true := decide_eq_true (by omega)
      go_wp2_with (with_reducible refine load_vec rfl _ rfl _ rfl _ hF1 ?_)
      refine (get16z (lowV x) _ k _ rfl (by omega)).mono ?_
      rintro e u2 ⟨rfl, hb2⟩
      replace hs := hs.below hb2
      replace hF1 := blk_keep hF1 hb2
      go_wp2_with (with_reducible refine load_vec rfl _ rfl _ rfl _ hs.this ?_)
      refine (set32z _ _ _ k (getN (lowV x) 16 k) _ rfl (by first | rfl | exact wrap_u64 _ | (unfold u64; omega)) (by omega)).mono ?_
      rintro e u4 ⟨rfl, hb4⟩
      replace hs := hs.below hb4
      go_wp2_with ((with_reducible refine store_vec rfl _ _ rfl wA.heap.size _ rfl rfl _ hs.this ?_); intro wq hq)
      replace hs := hs.sets hq
      go_roundw
      case rel => exact ⟨k + 1, by omega, by go_num, hs⟩
      case measure => (simp [intOf] <;> omega)
    · obtain rfl : k = 4 := by omega
      have hR3 := hs.kb.get hR2 nR
      go_wp2_with (first | (with_reducible refine load_vec rfl _ rfl _ rfl _ hs.this ?_) | ((with_reducible refine store_vec rfl _ _ rfl w.heap.size _ rfl rfl _ hR3 ?_); intro wq hq))
      exact bodyPost_ret (results_cell_row rfl _ _ w.heap.size _ _ _ _ rfl hq.this vunder rfl (vsize _)) rfl ⟨rfl, (hs.kb.to_below hZ2 nA).trans (hq.below.mono (Nat.le_refl _))⟩

set_option maxRecDepth 100000 in
theorem spread_16_1 (x : Nat) (w : World) (hx : x < 18446744073709551616) :
    Calls Try.prog 53 #[.int .u64 (x : Nat), .int .i64 16, .bool true] w fun e w' => e = .returned (.agg (cells (spreadV x 16 true))) ∧ Below w.heap.size w w' := by
  go_enter Try.func53, Try.ntmps53
  go_wp2_with fail
  rw [← cells_zero]
  obtain ⟨W, hW⟩ : ∃ W, W = w.alloc (.cells (cells 0) 61) := ⟨_, rfl⟩
  have hR : W.heap[w.heap.size]? = some (.cells (cells 0) 61 (0, 0)) := hW ▸ heap_alloc_new _ _
  have hZ : Below w.heap.size w W := hW ▸ (Below.refl _ _).alloc (Nat.le_refl _) _
  have hWs : W.heap.size = w.heap.size + 1 := by rw [hW]; simp
  rw [← hW]
  clear hW
  refine (of_one x 1 _ (w.heap.size + 1) (0, 0) _ (by simp) (by rw [← hWs]; exact heap_alloc_new _ _)).mono ?_
  rintro e u1 ⟨rfl, hb1⟩
  have hZ1 := below_new hZ (Nat.le_refl _) _ hb1
  have hR1 := (hb1.block _ (by simp; omega)).trans (blk_alloc hR _)
  go_wp2_with ((with_reducible refine store_vec rfl _ _ rfl _ (lowV x) rfl rfl 0 (heap_new_zero _) ?_); intro wA hA)
  have hZA := below_store hZ1 (Nat.le_refl _) hA
  have hFA : wA.heap[u1.heap.size]? = some (.cells (cells (lowV x)) 61 (0, 0)) := hA.this
  have hRA := blk_sets (blk_alloc hR1 _) hA (by have := block_lt hR1; omega)
  rw [← cells_zero]
  obtain ⟨W2, hW2⟩ : ∃ W2, W2 = wA.alloc (.cells (cells 0) 61) := ⟨_, rfl⟩
  have hF : W2.heap[u1.heap.size]? = some (.cells (cells (lowV x)) 61 (0, 0)) := hW2 ▸ blk_alloc hFA _
  have hR2 : W2.heap[w.heap.size]? = some (.cells (cells 0) 61 (0, 0)) := hW2 ▸ blk_alloc hRA _
  have hV2 : W2.heap[wA.heap.size]? = some (.cells (cells 0) 61 (0, 0)) := hW2 ▸ heap_alloc_new _ _
  have hZ2 : Below w.heap.size w W2 := hW2 ▸ hZA.alloc hZA.size _
  rw [← hW2]
  have nF := Nat.ne_of_lt (block_lt hFA)
  have nR := Nat.ne_of_lt (block_lt hRA)
  have nA := hZA.size
  clear hW2 hFA hRA hZA hA hR1 hZ1 hb1 hZ hR hWs
  go_wp2_with fail
  go_loopw [16] (fun iv wr => ∃ k : Nat, k ≤ 4 ∧ iv = .int .i64 (k : Int) ∧ St W2 wA.heap.size (buildOn 0 32 (fun i => u64 (sgn 16 (getN (lowV x) 16 i))) k) wr) (fun iv _ => 4 - (intOf iv).toNat)
  case atStart => exact ⟨0, Nat.zero_le _, rfl, St.start hV2⟩
  case round =>
    obtain ⟨k, hk, rfl, hs⟩ := hrel
    have hF1 := hs.kb.get hF nF
    by_cases hlt : k < 4
    · have hlt1 : decide ((k : Int) < 4) = true := decide_eq_true (by omega)
      go_wp2_with (with_reducible refine load_vec rfl _ rfl _ rfl _ hF1 ?_)
      refine (get16z (lowV x) _ k _ rfl (by omega)).mono ?_
      rintro e u2 ⟨rfl, hb2⟩
      replace hs := hs.below hb2
      replace hF1 := blk_keep hF1 hb2
      go_wp2_with (with_reducible refine load_vec rfl _ rfl _ rfl _ hF1 ?_)
      refine (signed16z (lowV x) _ k _ rfl (by omega)).mono ?_
      rintro e u3 ⟨rfl, hb3⟩
      replace hs := hs.below hb3
      go_wp2_with (with_reducible refine load_vec rfl _ rfl _ rfl _ hs.this ?_)
      refine (set32z _ _ _ k (u64 (sgn 16 (getN (lowV x) 16 k))) _ rfl (by first | rfl | exact wrap_u64 _ | (unfold u64; omega)) (by omega)).mono ?_
      rintro e u4 ⟨rfl, hb4⟩
      replace hs := hs.below hb4
      go_wp2_with ((with_reducible refine store_vec rfl _ _ rfl wA.heap.size _ rfl rfl _ hs.this ?_); intro wq hq)
      replace hs := hs.sets hq
      go_roundw
      case rel => exact ⟨k + 1, by omega, by go_num, hs⟩
      case measure => (simp [intOf] <;> omega)
    · obtain rfl : k = 4 := by omega
      have hR3 := hs.kb.get hR2 nR
      go_wp2_with (first | (with_reducible refine load_vec rfl _ rfl _ rfl _ hs.this ?_) | ((with_reducible refine store_vec rfl _ _ rfl w.heap.size _ rfl rfl _ hR3 ?_); intro wq hq))
      exact bodyPost_ret (results_cell_row rfl _ _ w.heap.size _ _ _ _ rfl hq.this vunder rfl (vsize _)) rfl ⟨rfl, (hs.kb.to_below hZ2 nA).trans (hq.below.mono (Nat.le_refl _))⟩

set_option maxRecDepth 100000 in
theorem spread_32_0 (x : Nat) (w : World) (hx : x < 18446744073709551616) :
    Calls Try.prog 53 #[.int .u64 (x : Nat), .int .i64 32, .bool false] w fun e w' => e = .returned (.agg (cells (spreadV x 32 false))) ∧ Below w.heap.size w w' := by
  go_enter Try.func53, Try.ntmps53
  go_wp2_with fail
  rw [← cells_zero]
  obtain ⟨W, hW⟩ : ∃ W, W = w.alloc (.cells (cells 0) 61) := ⟨_, rfl⟩
  have hR : W.heap[w.heap.size]? = some (.cells (cells 0) 61 (0, 0)) := hW ▸ heap_alloc_new _ _
  have hZ : Below w.heap.size w W := hW ▸ (Below.refl _ _).alloc (Nat.le_refl _) _
  have hWs : W.heap.size = w.heap.size + 1 := by rw [hW]; simp
  rw [← hW]
  clear hW
  refine (of_one x 1 _ (w.heap.size + 1) (0, 0) _ (by simp) (by rw [← hWs]; exact heap_alloc_new _ _)).mono ?_
  rintro e u1 ⟨rfl, hb1⟩
  have hZ1 := below_new hZ (Nat.le_refl _) _ hb1
  have hR1 := (hb1.block _ (by simp; omega)).trans (blk_alloc hR _)
  go_wp2_with ((with_reducible refine store_vec rfl _ _ rfl _ (lowV x) rfl rfl 0 (heap_new_zero _) ?_); intro wA hA)
  have hZA := below_store hZ1 (Nat.le_refl _) hA
  have hFA : wA.heap[u1.heap.size]? = some (.cells (cells (lowV x)) 61 (0, 0)) := hA.this
  have hRA := blk_sets (blk_alloc hR1 _) hA (by have := block_lt hR1; omega)
  rw [← cells_zero]
  obtain ⟨W2, hW2⟩ : ∃ W2, W2 = wA.alloc (.cells (cells 0) 61) := ⟨_, rfl⟩
  have hF : W2.heap[u1.heap.size]? = some (.cells (cells (lowV x)) 61 (0, 0)) := hW2 ▸ blk_alloc hFA _
  have hR2 : W2.heap[w.heap.size]? = some (.cells (cells 0) 61 (0, 0)) := hW2 ▸ blk_alloc hRA _
  have hV2 : W2.heap[wA.heap.size]? = some (.cells (cells 0) 61 (0, 0)) := hW2 ▸ heap_alloc_new _ _
  have hZ2 : Below w.heap.size w W2 := hW2 ▸ hZA.alloc hZA.size _
  rw [← hW2]
  have nF := Nat.ne_of_lt (block_lt hFA)
  have nR := Nat.ne_of_lt (block_lt hRA)
  have nA := hZA.size
  clear hW2 hFA hRA hZA hA hR1 hZ1 hb1 hZ hR hWs
  go_wp2_with fail
  go_loopw [16] (fun iv wr => ∃ k : Nat, k ≤ 2 ∧ iv = .int .i64 (k : Int) ∧ St W2 wA.heap.size (buildOn 0 64 (fun i => getN (lowV x) 32 i) k) wr) (fun iv _ => 2 - (intOf iv).toNat)
  case atStart => exact ⟨0, Nat.zero_le _, rfl, St.start hV2⟩
  case round =>
    obtain ⟨k, hk, rfl, hs⟩ := hrel
    have hF1 := hs.kb.get hF nF
    by_cases hlt : k < 2
    · have hlt1 : decide ((k : Int) < 2) = true := decide_eq_true (by omega)
      go_wp2_with (with_reducible refine load_vec rfl _ rfl _ rfl _ hF1 ?_)
      refine (get32z (lowV x) _ k _ rfl (by omega)).mono ?_
      rintro e u2 ⟨rfl, hb2⟩
      replace hs := hs.below hb2
      replace hF1 := blk_keep hF1 hb2
      go_wp2_with (with_reducible refine load_vec rfl _ rfl _ rfl _ hs.this ?_)
      refine (set64z _ _ _ k (getN (lowV x) 32 k) _ rfl (by first | rfl | exact wrap_u64 _ | (unfold u64; omega)) (by omega)).mono ?_
      rintro e u4 ⟨rfl, hb4⟩
      replace hs := hs.below hb4
      go_wp2_with ((with_reducible refine store_vec rfl _ _ rfl wA.heap.size _ rfl rfl _ hs.this ?_); intro wq hq)
      replace hs := hs.sets hq
      go_roundw
      case rel => exact ⟨k + 1, by omega, by go_num, hs⟩
      case measure => (simp [intOf] <;> omega)
    · obtain rfl : k = 2 := by omega
      have hR3 := hs.kb.get hR2 nR
      go_wp2_with (first | (with_reducible refine load_vec rfl _ rfl _ rfl _ hs.this ?_) | ((with_reducible refine store_vec rfl _ _ rfl w.heap.size _ rfl rfl _ hR3 ?_); intro wq hq))
      exact bodyPost_ret (results_cell_row rfl _ _ w.heap.size _ _ _ _ rfl hq.this vunder rfl (vsize _)) rfl ⟨rfl, (hs.kb.to_below hZ2 nA).trans (hq.below.mono (Nat.le_refl _))⟩

set_option maxRecDepth 100000 in
theorem spread_32_1 (x : Nat) (w : World) (hx : x < 18446744073709551616) :
    Calls Try.prog 53 #[.int .u64 (x : Nat), .int .i64 32, .bool true] w fun e w' => e = .returned (.agg (cells (spreadV x 32 true))) ∧ Below w.heap.size w w' := by
  go_enter Try.func53, Try.ntmps53
  go_wp2_with fail
  rw [← cells_zero]
  obtain ⟨W, hW⟩ : ∃ W, W = w.alloc (.cells (cells 0) 61) := ⟨_, rfl⟩
  have hR : W.heap[w.heap.size]? = some (.cells (cells 0) 61 (0, 0)) := hW ▸ heap_alloc_new _ _
  have hZ : Below w.heap.size w W := hW ▸ (Below.refl _ _).alloc (Nat.le_refl _) _
  have hWs : W.heap.size = w.heap.size + 1 := by rw [hW]; simp
  rw [← hW]
  clear hW
  refine (of_one x 1 _ (w.heap.size + 1) (0, 0) _ (by simp) (by rw [← hWs]; exact heap_alloc_new _ _)).mono ?_
  rintro e u1 ⟨rfl, hb1⟩
  have hZ1 := below_new hZ (Nat.le_refl _) _ hb1
  have hR1 := (hb1.block _ (by simp; omega)).trans (blk_alloc hR _)
  go_wp2_with ((with_reducible refine store_vec rfl _ _ rfl _ (lowV x) rfl rfl 0 (heap_new_zero _) ?_); intro wA hA)
  have hZA := below_store hZ1 (Nat.le_refl _) hA
  have hFA : wA.heap[u1.heap.size]? = some (.cells (cells (lowV x)) 61 (0, 0)) := hA.this
  have hRA := blk_sets (blk_alloc hR1 _) hA (by have := block_lt hR1; omega)
  rw [← cells_zero]
  obtain ⟨W2, hW2⟩ : ∃ W2, W2 = wA.alloc (.cells (cells 0) 61) := ⟨_, rfl⟩
  have hF : W2.heap[u1.heap.size]? = some (.cells (cells (lowV x)) 61 (0, 0)) := hW2 ▸ blk_alloc hFA _
  have hR2 : W2.heap[w.heap.size]? = some (.cells (cells 0) 61 (0, 0)) := hW2 ▸ blk_alloc hRA _
  have hV2 : W2.heap[wA.heap.size]? = some (.cells (cells 0) 61 (0, 0)) := hW2 ▸ heap_alloc_new _ _
  have hZ2 : Below w.heap.size w W2 := hW2 ▸ hZA.alloc hZA.size _
  rw [← hW2]
  have nF := Nat.ne_of_lt (block_lt hFA)
  have nR := Nat.ne_of_lt (block_lt hRA)
  have nA := hZA.size
  clear hW2 hFA hRA hZA hA hR1 hZ1 hb1 hZ hR hWs
  go_wp2_with fail
  go_loopw [16] (fun iv wr => ∃ k : Nat, k ≤ 2 ∧ iv = .int .i64 (k : Int) ∧ St W2 wA.heap.size (buildOn 0 64 (fun i => u64 (sgn 32 (getN (lowV x) 32 i))) k) wr) (fun iv _ => 2 - (intOf iv).toNat)
  case atStart => exact ⟨0, Nat.zero_le _, rfl, St.start hV2⟩
  case round =>
    obtain ⟨k, hk, rfl, hs⟩ := hrel
    have hF1 := hs.kb.get hF nF
    by_cases hlt : k < 2
    · have hlt1 : decide ((k : Int) < 2) = true := decide_eq_true (by omega)
      go_wp2_with (with_reducible refine load_vec rfl _ rfl _ rfl _ hF1 ?_)
      refine (get32z (lowV x) _ k _ rfl (by omega)).mono ?_
      rintro e u2 ⟨rfl, hb2⟩
      replace hs := hs.below hb2
      replace hF1 := blk_keep hF1 hb2
      go_wp2_with (with_reducible refine load_vec rfl _ rfl _ rfl _ hF1 ?_)
      refine (signed32z (lowV x) _ k _ rfl (by omega)).mono ?_
      rintro e u3 ⟨rfl, hb3⟩
      replace hs := hs.below hb3
      go_wp2_with (with_reducible refine load_vec rfl _ rfl _ rfl _ hs.this ?_)
      refine (set64z _ _ _ k (u64 (sgn 32 (getN (lowV x) 32 k))) _ rfl (by first | rfl | exact wrap_u64 _ | (unfold u64; omega)) (by omega)).mono ?_
      rintro e u4 ⟨rfl, hb4⟩
      replace hs := hs.below hb4
      go_wp2_with ((with_reducible refine store_vec rfl _ _ rfl wA.heap.size _ rfl rfl _ hs.this ?_); intro wq hq)
      replace hs := hs.sets hq
      go_roundw
      case rel => exact ⟨k + 1, by omega, by go_num, hs⟩
      case measure => (simp [intOf] <;> omega)
    · obtain rfl : k = 2 := by omega
      have hR3 := hs.kb.get hR2 nR
      go_wp2_with (first | (with_reducible refine load_vec rfl _ rfl _ rfl _ hs.this ?_) | ((with_reducible refine store_vec rfl _ _ rfl w.heap.size _ rfl rfl _ hR3 ?_); intro wq hq))
      exact bodyPost_ret (results_cell_row rfl _ _ w.heap.size _ _ _ _ rfl hq.this vunder rfl (vsize _)) rfl ⟨rfl, (hs.kb.to_below hZ2 nA).trans (hq.below.mono (Nat.le_refl _))⟩

end Go.Proofs.Ytlcndenbnokcjaa
