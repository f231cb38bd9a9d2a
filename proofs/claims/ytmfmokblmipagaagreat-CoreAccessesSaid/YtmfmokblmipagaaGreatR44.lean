/-
  Texts VmRL3.
-/
import Derived.Test.YtmfmokblmipagaaGreatR24
import Derived.Test.YtmfmokblmipagaaGreatR35
import Derived.Test.YtmfmokblmipagaaGreatR40
set_option linter.unusedSimpArgs false
set_option linter.unusedVariables false
set_option maxHeartbeats 8000000
open Pl
namespace Go.Proofs.YtmfmokblmipagaaGreat
open Go.RowKit Pl
set_option maxRecDepth 100000 in
theorem rfload_07 (o : MObj) (old : Vec) (a b : Int) (lo : Int) (h0 : 0 ≤ lo) (hi at_ : Int) (L : Value) (A : Nat) (w : World) (h : MemAt w o) (ha : 0 ≤ at_ ∧ at_ < 4294967296) (hb : 0 ≤ b ∧ b < 4294967296) (hA : (A : Int) = at_ + b)  (hin : A + 1 ≤ o.n) :
 Calls Tryz.prog 19 #[.pointer (some ⟨o.p, 0, none⟩), inV 64775 a b lo hi L, .int .u32 at_, .agg (cells old)] w fun e w' => e = .returned (.tuple #[.agg (cells (buildOn 0 8 (fun _ => loadN o.β A 1) 16)), .int .i64 0]) ∧ Below w.heap.size w w' := by
 have hv : ¬ VBad 64775 b lo false := by
  rintro (c | c | c | c | ⟨d, c⟩)
  ·exact c (by omega)
  ·exact c (by decide)
  ·omega
  ·omega
  ·exact absurd d (by unfold vln; omega)
 have HM := Lib.hid (fun W => rerr_ok ⟨o.p, 0, none⟩ 64775 a b lo hi L false W (by decide) h0 hv)
 have HS : ∀ W, Calls Tryz.prog 5 #[.int .i64 64775] W fun e w' => e = .returned (.int .i64 1) ∧ w' = W := fun W => rsz_any 64775 W (by decide)
 replace HS := Lib.hid HS
 clear hv
 have hz := h.size
 go_enter Tryz.func19, Tryz.ntmps19
 go_wp2_with fail
 rw [← cells_zero]
 obtain ⟨W, hW⟩ : ∃ W, W = (((w.alloc (.cells #[.int .i64 64775, .int .i64 a, .int .i64 b, .int .u64 lo, .int .u64 hi, L] 25)).alloc (.cells (cells old) 28)).alloc (.cells (cells 0) 28)) := ⟨_, rfl⟩
 have hI : W.heap[w.heap.size]? = some (.cells #[.int .i64 64775, .int .i64 a, .int .i64 b, .int .u64 lo, .int .u64 hi, L] 25 (0, 0)) := hW ▸ heap_alloc3_0 _ _ _ _
 have hV : W.heap[w.heap.size + 1]? = some (.cells (cells old) 28 (0, 0)) := hW ▸ heap_alloc3_1 _ _ _ _
 have hR : W.heap[w.heap.size + 1 + 1]? = some (.cells (cells 0) 28 (0, 0)) := hW ▸ heap_alloc3_2 _ _ _ _
 have hZ : Below w.heap.size w W := hW ▸ below_alloc3 _ _ _ _
 rw [← hW]
 clear hW
 refine (HM.out _).mono ?_
 rintro e u1 ⟨rfl, hb1⟩
 have hI1 := (hb1.block _ (block_lt hI)).trans hI
 have hV1 := (hb1.block _ (block_lt hV)).trans hV
 have hR1 := (hb1.block _ (block_lt hR)).trans hR
 have c0 : u1.cell? ⟨w.heap.size, 0, none⟩ = some (.int .i64 64775) := by rw [cell_of_row u1 _ 0 _ _ _ hI1]; rfl
 have c2 : u1.cell? ⟨w.heap.size, 2, none⟩ = some (.int .i64 b) := by rw [cell_of_row u1 _ 2 _ _ _ hI1]; rfl
 have hZ1 := hZ.trans (hb1.mono hZ.size)
 have hm := h.below hZ1
 have m0 := hm.c0
 clear hI hV hR hb1 hZ HM hm
 go_wp2_with (go_at_call 5; ((with_reducible refine (HS.out _).mono ?_); rintro e u ⟨rfl, rfl⟩))
 rw [← cells_zero]
 obtain ⟨W2, hW2⟩ : ∃ W2, W2 = u.alloc (.cells (cells 0) 28) := ⟨_, rfl⟩
 have hI2 := hW2 ▸ blk_alloc hI1 (.cells (cells 0) 28)
 have hR2 : W2.heap[w.heap.size + 1 + 1]? = some (.cells (cells 0) 28 (0, 0)) := hW2 ▸ blk_alloc hR1 _
 have hV2 : W2.heap[w.heap.size + 1]? = some (.cells (cells old) 28 (0, 0)) := hW2 ▸ blk_alloc hV1 _
 have hO2 : W2.heap[u.heap.size]? = some (.cells (cells 0) 28 (0, 0)) := hW2 ▸ heap_alloc_new _ _
 have hZ2 : Below w.heap.size w W2 := hW2 ▸ hZ1.alloc hZ1.size _
 rw [← hW2]
 have nR := Nat.ne_of_lt (block_lt hR1)
 have nV := Nat.ne_of_lt (block_lt hV1)
 have nI := Nat.ne_of_lt (block_lt hI1)
 have nA := hZ1.size
 generalize u.heap.size = B at *
 clear hW2 hR1 hZ1 hV1 hI1 c0 c2 m0
 obtain ⟨X, hX⟩ : ∃ X, X = loadN o.β A 1 := ⟨_, rfl⟩
 have hXb : ∀ k, k < 1 → X / 2 ^ (8 * k) % 256 = o.β (A + k) := fun k hk => hX ▸ loadN_byte o.β A 1 k hk (fun i hi => h.row.lt _ (by omega))
 have HXb := Lib.hid hXb
 have HX := Lib.hid hX
 clear hX
 have hA2 : at_ + b = (A : Int) := hA.symm
 rw [hA2]
 clear hXb hA2 hA
 have hs0 : St W2 B 0 W2 := St.start hO2
 go_loopw [14] (fun iv wr => ∃ k : Nat, k ≤ 1 ∧ iv = .int .i64 (k : Int) ∧ St W2 B (putAt 0 0 (8 * k) X) wr) (fun iv _ => 1 - (intOf iv).toNat)
 case atStart => exact ⟨0, Nat.zero_le _, rfl, by rw [raw_zero]; exact hs0⟩
 case round =>
  clear hs0
  obtain ⟨k, hk, rfl, hs⟩ := hrel
  by_cases hlt : k < 1
  ·have hmk := h.below (hs.kb.to_below hZ2 (by omega))
   obtain ⟨q, hq, hr⟩ := hmk.row.pos (by omega)
   have m0 := hmk.c0
   rw [hq, show headOf (some q) = some ⟨q, 0, none⟩ from rfl] at m0
   have hcap := hr.le
   have hcell := hr.cell (i := A + k) (by omega)
   have hbt := hr.lt (A + k) (by omega)
   have hz : ((o.β (A + k) : Nat) : Int) = ((X / 2 ^ (8 * k) % 256 : Nat) : Int) := by rw [HXb.out k hlt]
   have Hz := Lib.hid hz
   clear hz hmk hq hr
   go_wp2_with ((with_reducible refine store_byte rfl _ _ rfl B k _ (X / 2 ^ (8 * k)) rfl rfl _ hs.this (by omega) Hz.out ?_); intro wq hq)
   go_roundw
   case rel => first | exact ⟨k + 1, by omega, by go_num, by rw [← raw_step X k (by omega)]; exact hs.sets hq⟩ | ((repeat apply Exists.intro); exact ⟨⟨k + 1, by omega, by go_num, by rw [← raw_step X k (by omega)]; exact hs.sets hq⟩, rfl⟩)
   case measure => (simp [intOf] <;> omega)
  ·obtain rfl : k = 1 := by omega
   have hI3 := hs.kb.get hI2 (by omega)
   have hR3 := hs.kb.get hR2 (by omega)
   have hV3 := hs.kb.get hV2 (by omega)
   have hZ3 := hs.kb.to_below hZ2 (by omega)
   have hO3 := hs.this
   have c0 : wr.cell? ⟨w.heap.size, 0, none⟩ = some (.int .i64 64775) := by rw [cell_of_row wr _ 0 _ _ _ hI3]; rfl
   have c3 : wr.cell? ⟨w.heap.size, 3, none⟩ = some (.int .u64 lo) := by rw [cell_of_row wr _ 3 _ _ _ hI3]; rfl
   have nB := block_lt hO3
   go_wp2_with fail
   rw [← cells_zero]
   obtain ⟨W4, hW4⟩ : ∃ W4, W4 = wr.alloc (.cells (cells 0) 28) := ⟨_, rfl⟩
   have hR4 : W4.heap[w.heap.size + 1 + 1]? = some (.cells (cells 0) 28 (0, 0)) := hW4 ▸ blk_alloc hR3 _
   have hO4 : W4.heap[B]? = some (.cells (cells (putAt 0 0 (8 * 1) X)) 28 (0, 0)) := hW4 ▸ blk_alloc hO3 _
   have hC4 : W4.heap[wr.heap.size]? = some (.cells (cells 0) 28 (0, 0)) := hW4 ▸ heap_alloc_new _ _
   have hZ4 : Below w.heap.size w W4 := hW4 ▸ hZ3.alloc hZ3.size _
   have nA3 := hZ3.size
   have nR3 := Nat.ne_of_lt (block_lt hR3)
   rw [← hW4]
   clear hW4 hR3 hZ3 hV3 hI3 hO3 c0 c3 hs hR2 hV2 hI2 hZ2
   generalize wr.heap.size = C at *
   have hs0 : St W4 C 0 W4 := St.start hC4
   go_loopw [22] (fun iv wr => ∃ j : Nat, j ≤ 16 ∧ iv = .int .i64 (j : Int) ∧ St W4 C (buildOn 0 8 (fun i => getN (putAt 0 0 (8 * 1) X) 8 (i % 1)) j) wr) (fun iv _ => 16 - (intOf iv).toNat)
   case atStart => exact ⟨0, Nat.zero_le _, rfl, hs0⟩
   case round =>
    clear hs0
    obtain ⟨j, hj, rfl, ht⟩ := hrel
    by_cases hjt : j < 16
    ·have hOx := ht.kb.get hO4 (by omega)
     obtain ⟨Y, hY⟩ : ∃ Y, Y = getN (putAt 0 0 (8 * 1) X) 8 (j % 1) := ⟨_, rfl⟩
     have hcb : wr.cell? ⟨B, 0, none⟩ = some (.int .u8 (Y : Nat)) := by rw [Nat.mod_one] at hY; rw [cell_of_row wr _ _ _ _ _ hOx, getElem?_cells _ _ (by omega), hY]; rfl
     have hz : ((Y : Nat) : Int) = ((Y % 256 : Nat) : Int) := by rw [hY, Nat.mod_eq_of_lt (getN_lt _ 8 _)]
     have Hz := Lib.hid hz
     have HY := Lib.hid hY
     clear hz hOx hY
     go_wp2_with ((with_reducible refine store_byte rfl _ _ rfl C j _ Y rfl rfl _ ht.this (by omega) Hz.out ?_); intro wq hq)
     rw [HY.out] at hq
     go_roundw
     case rel => first | exact ⟨j + 1, by omega, by go_num, ht.sets hq⟩ | ((repeat apply Exists.intro); exact ⟨⟨j + 1, by omega, by go_num, ht.sets hq⟩, rfl⟩)
     case measure => (simp [intOf] <;> omega)
    ·obtain rfl : j = 16 := by omega
     have hR5 := ht.kb.get hR4 (by omega)
     go_wp2_with (first | (with_reducible refine load_vec rfl _ rfl _ rfl _ ht.this ?_) | ((with_reducible refine store_vec rfl _ _ rfl (w.heap.size + 1 + 1) _ rfl rfl _ hR5 ?_); intro wq hq))
     exact bodyPost_ret (results_vec_tmp rfl _ _ (w.heap.size + 1 + 1) _ _ rfl rfl hq.this) rfl ⟨by rw [raw_splat X 1 (by decide), HX.out]; rfl, (ht.kb.to_below hZ4 (by omega)).trans (hq.below.mono (by omega))⟩
set_option maxRecDepth 100000 in
theorem rfload_08 (o : MObj) (old : Vec) (a b : Int) (lo : Int) (h0 : 0 ≤ lo) (hi at_ : Int) (L : Value) (A : Nat) (w : World) (h : MemAt w o) (ha : 0 ≤ at_ ∧ at_ < 4294967296) (hb : 0 ≤ b ∧ b < 4294967296) (hA : (A : Int) = at_ + b)  (hin : A + 2 ≤ o.n) :
 Calls Tryz.prog 19 #[.pointer (some ⟨o.p, 0, none⟩), inV 64776 a b lo hi L, .int .u32 at_, .agg (cells old)] w fun e w' => e = .returned (.tuple #[.agg (cells (buildOn 0 16 (fun _ => loadN o.β A 2) 8)), .int .i64 0]) ∧ Below w.heap.size w w' := by
 have hv : ¬ VBad 64776 b lo false := by
  rintro (c | c | c | c | ⟨d, c⟩)
  ·exact c (by omega)
  ·exact c (by decide)
  ·omega
  ·omega
  ·exact absurd d (by unfold vln; omega)
 have HM := Lib.hid (fun W => rerr_ok ⟨o.p, 0, none⟩ 64776 a b lo hi L false W (by decide) h0 hv)
 have HS : ∀ W, Calls Tryz.prog 5 #[.int .i64 64776] W fun e w' => e = .returned (.int .i64 2) ∧ w' = W := fun W => rsz_any 64776 W (by decide)
 replace HS := Lib.hid HS
 clear hv
 have hz := h.size
 go_enter Tryz.func19, Tryz.ntmps19
 go_wp2_with fail
 rw [← cells_zero]
 obtain ⟨W, hW⟩ : ∃ W, W = (((w.alloc (.cells #[.int .i64 64776, .int .i64 a, .int .i64 b, .int .u64 lo, .int .u64 hi, L] 25)).alloc (.cells (cells old) 28)).alloc (.cells (cells 0) 28)) := ⟨_, rfl⟩
 have hI : W.heap[w.heap.size]? = some (.cells #[.int .i64 64776, .int .i64 a, .int .i64 b, .int .u64 lo, .int .u64 hi, L] 25 (0, 0)) := hW ▸ heap_alloc3_0 _ _ _ _
 have hV : W.heap[w.heap.size + 1]? = some (.cells (cells old) 28 (0, 0)) := hW ▸ heap_alloc3_1 _ _ _ _
 have hR : W.heap[w.heap.size + 1 + 1]? = some (.cells (cells 0) 28 (0, 0)) := hW ▸ heap_alloc3_2 _ _ _ _
 have hZ : Below w.heap.size w W := hW ▸ below_alloc3 _ _ _ _
 rw [← hW]
 clear hW
 refine (HM.out _).mono ?_
 rintro e u1 ⟨rfl, hb1⟩
 have hI1 := (hb1.block _ (block_lt hI)).trans hI
 have hV1 := (hb1.block _ (block_lt hV)).trans hV
 have hR1 := (hb1.block _ (block_lt hR)).trans hR
 have c0 : u1.cell? ⟨w.heap.size, 0, none⟩ = some (.int .i64 64776) := by rw [cell_of_row u1 _ 0 _ _ _ hI1]; rfl
 have c2 : u1.cell? ⟨w.heap.size, 2, none⟩ = some (.int .i64 b) := by rw [cell_of_row u1 _ 2 _ _ _ hI1]; rfl
 have hZ1 := hZ.trans (hb1.mono hZ.size)
 have hm := h.below hZ1
 have m0 := hm.c0
 clear hI hV hR hb1 hZ HM hm
 go_wp2_with (go_at_call 5; ((with_reducible refine (HS.out _).mono ?_); rintro e u ⟨rfl, rfl⟩))
 rw [← cells_zero]
 obtain ⟨W2, hW2⟩ : ∃ W2, W2 = u.alloc (.cells (cells 0) 28) := ⟨_, rfl⟩
 have hI2 := hW2 ▸ blk_alloc hI1 (.cells (cells 0) 28)
 have hR2 : W2.heap[w.heap.size + 1 + 1]? = some (.cells (cells 0) 28 (0, 0)) := hW2 ▸ blk_alloc hR1 _
 have hV2 : W2.heap[w.heap.size + 1]? = some (.cells (cells old) 28 (0, 0)) := hW2 ▸ blk_alloc hV1 _
 have hO2 : W2.heap[u.heap.size]? = some (.cells (cells 0) 28 (0, 0)) := hW2 ▸ heap_alloc_new _ _
 have hZ2 : Below w.heap.size w W2 := hW2 ▸ hZ1.alloc hZ1.size _
 rw [← hW2]
 have nR := Nat.ne_of_lt (block_lt hR1)
 have nV := Nat.ne_of_lt (block_lt hV1)
 have nI := Nat.ne_of_lt (block_lt hI1)
 have nA := hZ1.size
 generalize u.heap.size = B at *
 clear hW2 hR1 hZ1 hV1 hI1 c0 c2 m0
 obtain ⟨X, hX⟩ : ∃ X, X = loadN o.β A 2 := ⟨_, rfl⟩
 have hXb : ∀ k, k < 2 → X / 2 ^ (8 * k) % 256 = o.β (A + k) := fun k hk => hX ▸ loadN_byte o.β A 2 k hk (fun i hi => h.row.lt _ (by omega))
 have HXb := Lib.hid hXb
 have HX := Lib.hid hX
 clear hX
 have hA2 : at_ + b = (A : Int) := hA.symm
 rw [hA2]
 clear hXb hA2 hA
 have hs0 : St W2 B 0 W2 := St.start hO2
 go_loopw [14] (fun iv wr => ∃ k : Nat, k ≤ 2 ∧ iv = .int .i64 (k : Int) ∧ St W2 B (putAt 0 0 (8 * k) X) wr) (fun iv _ => 2 - (intOf iv).toNat)
 case atStart => exact ⟨0, Nat.zero_le _, rfl, by rw [raw_zero]; exact hs0⟩
 case round =>
  clear hs0
  obtain ⟨k, hk, rfl, hs⟩ := hrel
  by_cases hlt : k < 2
  ·have hmk := h.below (hs.kb.to_below hZ2 (by omega))
   obtain ⟨q, hq, hr⟩ := hmk.row.pos (by omega)
   have m0 := hmk.c0
   rw [hq, show headOf (some q) = some ⟨q, 0, none⟩ from rfl] at m0
   have hcap := hr.le
   have hcell := hr.cell (i := A + k) (by omega)
   have hbt := hr.lt (A + k) (by omega)
   have hz : ((o.β (A + k) : Nat) : Int) = ((X / 2 ^ (8 * k) % 256 : Nat) : Int) := by rw [HXb.out k hlt]
   have Hz := Lib.hid hz
   clear hz hmk hq hr
   go_wp2_with ((with_reducible refine store_byte rfl _ _ rfl B k _ (X / 2 ^ (8 * k)) rfl rfl _ hs.this (by omega) Hz.out ?_); intro wq hq)
   go_roundw
   case rel => first | exact ⟨k + 1, by omega, by go_num, by rw [← raw_step X k (by omega)]; exact hs.sets hq⟩ | ((repeat apply Exists.intro); exact ⟨⟨k + 1, by omega, by go_num, by rw [← raw_step X k (by omega)]; exact hs.sets hq⟩, rfl⟩)
   case measure => (simp [intOf] <;> omega)
  ·obtain rfl : k = 2 := by omega
   have hI3 := hs.kb.get hI2 (by omega)
   have hR3 := hs.kb.get hR2 (by omega)
   have hV3 := hs.kb.get hV2 (by omega)
   have hZ3 := hs.kb.to_below hZ2 (by omega)
   have hO3 := hs.this
   have c0 : wr.cell? ⟨w.heap.size, 0, none⟩ = some (.int .i64 64776) := by rw [cell_of_row wr _ 0 _ _ _ hI3]; rfl
   have c3 : wr.cell? ⟨w.heap.size, 3, none⟩ = some (.int .u64 lo) := by rw [cell_of_row wr _ 3 _ _ _ hI3]; rfl
   have nB := block_lt hO3
   go_wp2_with fail
   rw [← cells_zero]
   obtain ⟨W4, hW4⟩ : ∃ W4, W4 = wr.alloc (.cells (cells 0) 28) := ⟨_, rfl⟩
   have hR4 : W4.heap[w.heap.size + 1 + 1]? = some (.cells (cells 0) 28 (0, 0)) := hW4 ▸ blk_alloc hR3 _
   have hO4 : W4.heap[B]? = some (.cells (cells (putAt 0 0 (8 * 2) X)) 28 (0, 0)) := hW4 ▸ blk_alloc hO3 _
   have hC4 : W4.heap[wr.heap.size]? = some (.cells (cells 0) 28 (0, 0)) := hW4 ▸ heap_alloc_new _ _
   have hZ4 : Below w.heap.size w W4 := hW4 ▸ hZ3.alloc hZ3.size _
   have nA3 := hZ3.size
   have nR3 := Nat.ne_of_lt (block_lt hR3)
   rw [← hW4]
   clear hW4 hR3 hZ3 hV3 hI3 hO3 c0 c3 hs hR2 hV2 hI2 hZ2
   generalize wr.heap.size = C at *
   have hs0 : St W4 C 0 W4 := St.start hC4
   go_loopw [22] (fun iv wr => ∃ j : Nat, j ≤ 16 ∧ iv = .int .i64 (j : Int) ∧ St W4 C (buildOn 0 8 (fun i => getN (putAt 0 0 (8 * 2) X) 8 (i % 2)) j) wr) (fun iv _ => 16 - (intOf iv).toNat)
   case atStart => exact ⟨0, Nat.zero_le _, rfl, hs0⟩
   case round =>
    clear hs0
    obtain ⟨j, hj, rfl, ht⟩ := hrel
    by_cases hjt : j < 16
    ·have hOx := ht.kb.get hO4 (by omega)
     obtain ⟨Y, hY⟩ : ∃ Y, Y = getN (putAt 0 0 (8 * 2) X) 8 (j % 2) := ⟨_, rfl⟩
     have hcb : wr.cell? ⟨B, j % 2, none⟩ = some (.int .u8 (Y : Nat)) := by rw [cell_of_row wr _ _ _ _ _ hOx, getElem?_cells _ _ (by omega), hY]; rfl
     have hz : ((Y : Nat) : Int) = ((Y % 256 : Nat) : Int) := by rw [hY, Nat.mod_eq_of_lt (getN_lt _ 8 _)]
     have Hz := Lib.hid hz
     have HY := Lib.hid hY
     clear hz hOx hY
     go_wp2_with ((with_reducible refine store_byte rfl _ _ rfl C j _ Y rfl rfl _ ht.this (by omega) Hz.out ?_); intro wq hq)
     rw [HY.out] at hq
     go_roundw
     case rel => first | exact ⟨j + 1, by omega, by go_num, ht.sets hq⟩ | ((repeat apply Exists.intro); exact ⟨⟨j + 1, by omega, by go_num, ht.sets hq⟩, rfl⟩)
     case measure => (simp [intOf] <;> omega)
    ·obtain rfl : j = 16 := by omega
     have hR5 := ht.kb.get hR4 (by omega)
     go_wp2_with (first | (with_reducible refine load_vec rfl _ rfl _ rfl _ ht.this ?_) | ((with_reducible refine store_vec rfl _ _ rfl (w.heap.size + 1 + 1) _ rfl rfl _ hR5 ?_); intro wq hq))
     exact bodyPost_ret (results_vec_tmp rfl _ _ (w.heap.size + 1 + 1) _ _ rfl rfl hq.this) rfl ⟨by rw [raw_splat X 2 (by decide), HX.out]; rfl, (ht.kb.to_below hZ4 (by omega)).trans (hq.below.mono (by omega))⟩
set_option maxRecDepth 100000 in
theorem rfload_09 (o : MObj) (old : Vec) (a b : Int) (lo : Int) (h0 : 0 ≤ lo) (hi at_ : Int) (L : Value) (A : Nat) (w : World) (h : MemAt w o) (ha : 0 ≤ at_ ∧ at_ < 4294967296) (hb : 0 ≤ b ∧ b < 4294967296) (hA : (A : Int) = at_ + b)  (hin : A + 4 ≤ o.n) :
 Calls Tryz.prog 19 #[.pointer (some ⟨o.p, 0, none⟩), inV 64777 a b lo hi L, .int .u32 at_, .agg (cells old)] w fun e w' => e = .returned (.tuple #[.agg (cells (buildOn 0 32 (fun _ => loadN o.β A 4) 4)), .int .i64 0]) ∧ Below w.heap.size w w' := by
 have hv : ¬ VBad 64777 b lo false := by
  rintro (c | c | c | c | ⟨d, c⟩)
  ·exact c (by omega)
  ·exact c (by decide)
  ·omega
  ·omega
  ·exact absurd d (by unfold vln; omega)
 have HM := Lib.hid (fun W => rerr_ok ⟨o.p, 0, none⟩ 64777 a b lo hi L false W (by decide) h0 hv)
 have HS : ∀ W, Calls Tryz.prog 5 #[.int .i64 64777] W fun e w' => e = .returned (.int .i64 4) ∧ w' = W := fun W => rsz_any 64777 W (by decide)
 replace HS := Lib.hid HS
 clear hv
 have hz := h.size
 go_enter Tryz.func19, Tryz.ntmps19
 go_wp2_with fail
 rw [← cells_zero]
 obtain ⟨W, hW⟩ : ∃ W, W = (((w.alloc (.cells #[.int .i64 64777, .int .i64 a, .int .i64 b, .int .u64 lo, .int .u64 hi, L] 25)).alloc (.cells (cells old) 28)).alloc (.cells (cells 0) 28)) := ⟨_, rfl⟩
 have hI : W.heap[w.heap.size]? = some (.cells #[.int .i64 64777, .int .i64 a, .int .i64 b, .int .u64 lo, .int .u64 hi, L] 25 (0, 0)) := hW ▸ heap_alloc3_0 _ _ _ _
 have hV : W.heap[w.heap.size + 1]? = some (.cells (cells old) 28 (0, 0)) := hW ▸ heap_alloc3_1 _ _ _ _
 have hR : W.heap[w.heap.size + 1 + 1]? = some (.cells (cells 0) 28 (0, 0)) := hW ▸ heap_alloc3_2 _ _ _ _
 have hZ : Below w.heap.size w W := hW ▸ below_alloc3 _ _ _ _
 rw [← hW]
 clear hW
 refine (HM.out _).mono ?_
 rintro e u1 ⟨rfl, hb1⟩
 have hI1 := (hb1.block _ (block_lt hI)).trans hI
 have hV1 := (hb1.block _ (block_lt hV)).trans hV
 have hR1 := (hb1.block _ (block_lt hR)).trans hR
 have c0 : u1.cell? ⟨w.heap.size, 0, none⟩ = some (.int .i64 64777) := by rw [cell_of_row u1 _ 0 _ _ _ hI1]; rfl
 have c2 : u1.cell? ⟨w.heap.size, 2, none⟩ = some (.int .i64 b) := by rw [cell_of_row u1 _ 2 _ _ _ hI1]; rfl
 have hZ1 := hZ.trans (hb1.mono hZ.size)
 have hm := h.below hZ1
 have m0 := hm.c0
 clear hI hV hR hb1 hZ HM hm
 go_wp2_with (go_at_call 5; ((with_reducible refine (HS.out _).mono ?_); rintro e u ⟨rfl, rfl⟩))
 rw [← cells_zero]
 obtain ⟨W2, hW2⟩ : ∃ W2, W2 = u.alloc (.cells (cells 0) 28) := ⟨_, rfl⟩
 have hI2 := hW2 ▸ blk_alloc hI1 (.cells (cells 0) 28)
 have hR2 : W2.heap[w.heap.size + 1 + 1]? = some (.cells (cells 0) 28 (0, 0)) := hW2 ▸ blk_alloc hR1 _
 have hV2 : W2.heap[w.heap.size + 1]? = some (.cells (cells old) 28 (0, 0)) := hW2 ▸ blk_alloc hV1 _
 have hO2 : W2.heap[u.heap.size]? = some (.cells (cells 0) 28 (0, 0)) := hW2 ▸ heap_alloc_new _ _
 have hZ2 : Below w.heap.size w W2 := hW2 ▸ hZ1.alloc hZ1.size _
 rw [← hW2]
 have nR := Nat.ne_of_lt (block_lt hR1)
 have nV := Nat.ne_of_lt (block_lt hV1)
 have nI := Nat.ne_of_lt (block_lt hI1)
 have nA := hZ1.size
 generalize u.heap.size = B at *
 clear hW2 hR1 hZ1 hV1 hI1 c0 c2 m0
 obtain ⟨X, hX⟩ : ∃ X, X = loadN o.β A 4 := ⟨_, rfl⟩
 have hXb : ∀ k, k < 4 → X / 2 ^ (8 * k) % 256 = o.β (A + k) := fun k hk => hX ▸ loadN_byte o.β A 4 k hk (fun i hi => h.row.lt _ (by omega))
 have HXb := Lib.hid hXb
 have HX := Lib.hid hX
 clear hX
 have hA2 : at_ + b = (A : Int) := hA.symm
 rw [hA2]
 clear hXb hA2 hA
 have hs0 : St W2 B 0 W2 := St.start hO2
 go_loopw [14] (fun iv wr => ∃ k : Nat, k ≤ 4 ∧ iv = .int .i64 (k : Int) ∧ St W2 B (putAt 0 0 (8 * k) X) wr) (fun iv _ => 4 - (intOf iv).toNat)
 case atStart => exact ⟨0, Nat.zero_le _, rfl, by rw [raw_zero]; exact hs0⟩
 case round =>
  clear hs0
  obtain ⟨k, hk, rfl, hs⟩ := hrel
  by_cases hlt : k < 4
  ·have hmk := h.below (hs.kb.to_below hZ2 (by omega))
   obtain ⟨q, hq, hr⟩ := hmk.row.pos (by omega)
   have m0 := hmk.c0
   rw [hq, show headOf (some q) = some ⟨q, 0, none⟩ from rfl] at m0
   have hcap := hr.le
   have hcell := hr.cell (i := A + k) (by omega)
   have hbt := hr.lt (A + k) (by omega)
   have hz : ((o.β (A + k) : Nat) : Int) = ((X / 2 ^ (8 * k) % 256 : Nat) : Int) := by rw [HXb.out k hlt]
   have Hz := Lib.hid hz
   clear hz hmk hq hr
   go_wp2_with ((with_reducible refine store_byte rfl _ _ rfl B k _ (X / 2 ^ (8 * k)) rfl rfl _ hs.this (by omega) Hz.out ?_); intro wq hq)
   go_roundw
   case rel => first | exact ⟨k + 1, by omega, by go_num, by rw [← raw_step X k (by omega)]; exact hs.sets hq⟩ | ((repeat apply Exists.intro); exact ⟨⟨k + 1, by omega, by go_num, by rw [← raw_step X k (by omega)]; exact hs.sets hq⟩, rfl⟩)
   case measure => (simp [intOf] <;> omega)
  ·obtain rfl : k = 4 := by omega
   have hI3 := hs.kb.get hI2 (by omega)
   have hR3 := hs.kb.get hR2 (by omega)
   have hV3 := hs.kb.get hV2 (by omega)
   have hZ3 := hs.kb.to_below hZ2 (by omega)
   have hO3 := hs.this
   have c0 : wr.cell? ⟨w.heap.size, 0, none⟩ = some (.int .i64 64777) := by rw [cell_of_row wr _ 0 _ _ _ hI3]; rfl
   have c3 : wr.cell? ⟨w.heap.size, 3, none⟩ = some (.int .u64 lo) := by rw [cell_of_row wr _ 3 _ _ _ hI3]; rfl
   have nB := block_lt hO3
   go_wp2_with fail
   rw [← cells_zero]
   obtain ⟨W4, hW4⟩ : ∃ W4, W4 = wr.alloc (.cells (cells 0) 28) := ⟨_, rfl⟩
   have hR4 : W4.heap[w.heap.size + 1 + 1]? = some (.cells (cells 0) 28 (0, 0)) := hW4 ▸ blk_alloc hR3 _
   have hO4 : W4.heap[B]? = some (.cells (cells (putAt 0 0 (8 * 4) X)) 28 (0, 0)) := hW4 ▸ blk_alloc hO3 _
   have hC4 : W4.heap[wr.heap.size]? = some (.cells (cells 0) 28 (0, 0)) := hW4 ▸ heap_alloc_new _ _
   have hZ4 : Below w.heap.size w W4 := hW4 ▸ hZ3.alloc hZ3.size _
   have nA3 := hZ3.size
   have nR3 := Nat.ne_of_lt (block_lt hR3)
   rw [← hW4]
   clear hW4 hR3 hZ3 hV3 hI3 hO3 c0 c3 hs hR2 hV2 hI2 hZ2
   generalize wr.heap.size = C at *
   have hs0 : St W4 C 0 W4 := St.start hC4
   go_loopw [22] (fun iv wr => ∃ j : Nat, j ≤ 16 ∧ iv = .int .i64 (j : Int) ∧ St W4 C (buildOn 0 8 (fun i => getN (putAt 0 0 (8 * 4) X) 8 (i % 4)) j) wr) (fun iv _ => 16 - (intOf iv).toNat)
   case atStart => exact ⟨0, Nat.zero_le _, rfl, hs0⟩
   case round =>
    clear hs0
    obtain ⟨j, hj, rfl, ht⟩ := hrel
    by_cases hjt : j < 16
    ·have hOx := ht.kb.get hO4 (by omega)
     obtain ⟨Y, hY⟩ : ∃ Y, Y = getN (putAt 0 0 (8 * 4) X) 8 (j % 4) := ⟨_, rfl⟩
     have hcb : wr.cell? ⟨B, j % 4, none⟩ = some (.int .u8 (Y : Nat)) := by rw [cell_of_row wr _ _ _ _ _ hOx, getElem?_cells _ _ (by omega), hY]; rfl
     have hz : ((Y : Nat) : Int) = ((Y % 256 : Nat) : Int) := by rw [hY, Nat.mod_eq_of_lt (getN_lt _ 8 _)]
     have Hz := Lib.hid hz
     have HY := Lib.hid hY
     clear hz hOx hY
     go_wp2_with ((with_reducible refine store_byte rfl _ _ rfl C j _ Y rfl rfl _ ht.this (by omega) Hz.out ?_); intro wq hq)
     rw [HY.out] at hq
     go_roundw
     case rel => first | exact ⟨j + 1, by omega, by go_num, ht.sets hq⟩ | ((repeat apply Exists.intro); exact ⟨⟨j + 1, by omega, by go_num, ht.sets hq⟩, rfl⟩)
     case measure => (simp [intOf] <;> omega)
    ·obtain rfl : j = 16 := by omega
     have hR5 := ht.kb.get hR4 (by omega)
     go_wp2_with (first | (with_reducible refine load_vec rfl _ rfl _ rfl _ ht.this ?_) | ((with_reducible refine store_vec rfl _ _ rfl (w.heap.size + 1 + 1) _ rfl rfl _ hR5 ?_); intro wq hq))
     exact bodyPost_ret (results_vec_tmp rfl _ _ (w.heap.size + 1 + 1) _ _ rfl rfl hq.this) rfl ⟨by rw [raw_splat X 4 (by decide), HX.out]; rfl, (ht.kb.to_below hZ4 (by omega)).trans (hq.below.mono (by omega))⟩
set_option maxRecDepth 100000 in
theorem rfload_0a (o : MObj) (old : Vec) (a b : Int) (lo : Int) (h0 : 0 ≤ lo) (hi at_ : Int) (L : Value) (A : Nat) (w : World) (h : MemAt w o) (ha : 0 ≤ at_ ∧ at_ < 4294967296) (hb : 0 ≤ b ∧ b < 4294967296) (hA : (A : Int) = at_ + b)  (hin : A + 8 ≤ o.n) :
 Calls Tryz.prog 19 #[.pointer (some ⟨o.p, 0, none⟩), inV 64778 a b lo hi L, .int .u32 at_, .agg (cells old)] w fun e w' => e = .returned (.tuple #[.agg (cells (buildOn 0 64 (fun _ => loadN o.β A 8) 2)), .int .i64 0]) ∧ Below w.heap.size w w' := by
 have hv : ¬ VBad 64778 b lo false := by
  rintro (c | c | c | c | ⟨d, c⟩)
  ·exact c (by omega)
  ·exact c (by decide)
  ·omega
  ·omega
  ·exact absurd d (by unfold vln; omega)
 have HM := Lib.hid (fun W => rerr_ok ⟨o.p, 0, none⟩ 64778 a b lo hi L false W (by decide) h0 hv)
 have HS : ∀ W, Calls Tryz.prog 5 #[.int .i64 64778] W fun e w' => e = .returned (.int .i64 8) ∧ w' = W := fun W => rsz_any 64778 W (by decide)
 replace HS := Lib.hid HS
 clear hv
 have hz := h.size
 go_enter Tryz.func19, Tryz.ntmps19
 go_wp2_with fail
 rw [← cells_zero]
 obtain ⟨W, hW⟩ : ∃ W, W = (((w.alloc (.cells #[.int .i64 64778, .int .i64 a, .int .i64 b, .int .u64 lo, .int .u64 hi, L] 25)).alloc (.cells (cells old) 28)).alloc (.cells (cells 0) 28)) := ⟨_, rfl⟩
 have hI : W.heap[w.heap.size]? = some (.cells #[.int .i64 64778, .int .i64 a, .int .i64 b, .int .u64 lo, .int .u64 hi, L] 25 (0, 0)) := hW ▸ heap_alloc3_0 _ _ _ _
 have hV : W.heap[w.heap.size + 1]? = some (.cells (cells old) 28 (0, 0)) := hW ▸ heap_alloc3_1 _ _ _ _
 have hR : W.heap[w.heap.size + 1 + 1]? = some (.cells (cells 0) 28 (0, 0)) := hW ▸ heap_alloc3_2 _ _ _ _
 have hZ : Below w.heap.size w W := hW ▸ below_alloc3 _ _ _ _
 rw [← hW]
 clear hW
 refine (HM.out _).mono ?_
 rintro e u1 ⟨rfl, hb1⟩
 have hI1 := (hb1.block _ (block_lt hI)).trans hI
 have hV1 := (hb1.block _ (block_lt hV)).trans hV
 have hR1 := (hb1.block _ (block_lt hR)).trans hR
 have c0 : u1.cell? ⟨w.heap.size, 0, none⟩ = some (.int .i64 64778) := by rw [cell_of_row u1 _ 0 _ _ _ hI1]; rfl
 have c2 : u1.cell? ⟨w.heap.size, 2, none⟩ = some (.int .i64 b) := by rw [cell_of_row u1 _ 2 _ _ _ hI1]; rfl
 have hZ1 := hZ.trans (hb1.mono hZ.size)
 have hm := h.below hZ1
 have m0 := hm.c0
 clear hI hV hR hb1 hZ HM hm
 go_wp2_with (go_at_call 5; ((with_reducible refine (HS.out _).mono ?_); rintro e u ⟨rfl, rfl⟩))
 rw [← cells_zero]
 obtain ⟨W2, hW2⟩ : ∃ W2, W2 = u.alloc (.cells (cells 0) 28) := ⟨_, rfl⟩
 have hI2 := hW2 ▸ blk_alloc hI1 (.cells (cells 0) 28)
 have hR2 : W2.heap[w.heap.size + 1 + 1]? = some (.cells (cells 0) 28 (0, 0)) := hW2 ▸ blk_alloc hR1 _
 have hV2 : W2.heap[w.heap.size + 1]? = some (.cells (cells old) 28 (0, 0)) := hW2 ▸ blk_alloc hV1 _
 have hO2 : W2.heap[u.heap.size]? = some (.cells (cells 0) 28 (0, 0)) := hW2 ▸ heap_alloc_new _ _
 have hZ2 : Below w.heap.size w W2 := hW2 ▸ hZ1.alloc hZ1.size _
 rw [← hW2]
 have nR := Nat.ne_of_lt (block_lt hR1)
 have nV := Nat.ne_of_lt (block_lt hV1)
 have nI := Nat.ne_of_lt (block_lt hI1)
 have nA := hZ1.size
 generalize u.heap.size = B at *
 clear hW2 hR1 hZ1 hV1 hI1 c0 c2 m0
 obtain ⟨X, hX⟩ : ∃ X, X = loadN o.β A 8 := ⟨_, rfl⟩
 have hXb : ∀ k, k < 8 → X / 2 ^ (8 * k) % 256 = o.β (A + k) := fun k hk => hX ▸ loadN_byte o.β A 8 k hk (fun i hi => h.row.lt _ (by omega))
 have HXb := Lib.hid hXb
 have HX := Lib.hid hX
 clear hX
 have hA2 : at_ + b = (A : Int) := hA.symm
 rw [hA2]
 clear hXb hA2 hA
 have hs0 : St W2 B 0 W2 := St.start hO2
 go_loopw [14] (fun iv wr => ∃ k : Nat, k ≤ 8 ∧ iv = .int .i64 (k : Int) ∧ St W2 B (putAt 0 0 (8 * k) X) wr) (fun iv _ => 8 - (intOf iv).toNat)
 case atStart => exact ⟨0, Nat.zero_le _, rfl, by rw [raw_zero]; exact hs0⟩
 case round =>
  clear hs0
  obtain ⟨k, hk, rfl, hs⟩ := hrel
  by_cases hlt : k < 8
  ·have hmk := h.below (hs.kb.to_below hZ2 (by omega))
   obtain ⟨q, hq, hr⟩ := hmk.row.pos (by omega)
   have m0 := hmk.c0
   rw [hq, show headOf (some q) = some ⟨q, 0, none⟩ from rfl] at m0
   have hcap := hr.le
   have hcell := hr.cell (i := A + k) (by omega)
   have hbt := hr.lt (A + k) (by omega)
   have hz : ((o.β (A + k) : Nat) : Int) = ((X / 2 ^ (8 * k) % 256 : Nat) : Int) := by rw [HXb.out k hlt]
   have Hz := Lib.hid hz
   clear hz hmk hq hr
   go_wp2_with ((with_reducible refine store_byte rfl _ _ rfl B k _ (X / 2 ^ (8 * k)) rfl rfl _ hs.this (by omega) Hz.out ?_); intro wq hq)
   go_roundw
   case rel => first | exact ⟨k + 1, by omega, by go_num, by rw [← raw_step X k (by omega)]; exact hs.sets hq⟩ | ((repeat apply Exists.intro); exact ⟨⟨k + 1, by omega, by go_num, by rw [← raw_step X k (by omega)]; exact hs.sets hq⟩, rfl⟩)
   case measure => (simp [intOf] <;> omega)
  ·obtain rfl : k = 8 := by omega
   have hI3 := hs.kb.get hI2 (by omega)
   have hR3 := hs.kb.get hR2 (by omega)
   have hV3 := hs.kb.get hV2 (by omega)
   have hZ3 := hs.kb.to_below hZ2 (by omega)
   have hO3 := hs.this
   have c0 : wr.cell? ⟨w.heap.size, 0, none⟩ = some (.int .i64 64778) := by rw [cell_of_row wr _ 0 _ _ _ hI3]; rfl
   have c3 : wr.cell? ⟨w.heap.size, 3, none⟩ = some (.int .u64 lo) := by rw [cell_of_row wr _ 3 _ _ _ hI3]; rfl
   have nB := block_lt hO3
   go_wp2_with fail
   rw [← cells_zero]
   obtain ⟨W4, hW4⟩ : ∃ W4, W4 = wr.alloc (.cells (cells 0) 28) := ⟨_, rfl⟩
   have hR4 : W4.heap[w.heap.size + 1 + 1]? = some (.cells (cells 0) 28 (0, 0)) := hW4 ▸ blk_alloc hR3 _
   have hO4 : W4.heap[B]? = some (.cells (cells (putAt 0 0 (8 * 8) X)) 28 (0, 0)) := hW4 ▸ blk_alloc hO3 _
   have hC4 : W4.heap[wr.heap.size]? = some (.cells (cells 0) 28 (0, 0)) := hW4 ▸ heap_alloc_new _ _
   have hZ4 : Below w.heap.size w W4 := hW4 ▸ hZ3.alloc hZ3.size _
   have nA3 := hZ3.size
   have nR3 := Nat.ne_of_lt (block_lt hR3)
   rw [← hW4]
   clear hW4 hR3 hZ3 hV3 hI3 hO3 c0 c3 hs hR2 hV2 hI2 hZ2
   generalize wr.heap.size = C at *
   have hs0 : St W4 C 0 W4 := St.start hC4
   go_loopw [22] (fun iv wr => ∃ j : Nat, j ≤ 16 ∧ iv = .int .i64 (j : Int) ∧ St W4 C (buildOn 0 8 (fun i => getN (putAt 0 0 (8 * 8) X) 8 (i % 8)) j) wr) (fun iv _ => 16 - (intOf iv).toNat)
   case atStart => exact ⟨0, Nat.zero_le _, rfl, hs0⟩
   case round =>
    clear hs0
    obtain ⟨j, hj, rfl, ht⟩ := hrel
    by_cases hjt : j < 16
    ·have hOx := ht.kb.get hO4 (by omega)
     obtain ⟨Y, hY⟩ : ∃ Y, Y = getN (putAt 0 0 (8 * 8) X) 8 (j % 8) := ⟨_, rfl⟩
     have hcb : wr.cell? ⟨B, j % 8, none⟩ = some (.int .u8 (Y : Nat)) := by rw [cell_of_row wr _ _ _ _ _ hOx, getElem?_cells _ _ (by omega), hY]; rfl
     have hz : ((Y : Nat) : Int) = ((Y % 256 : Nat) : Int) := by rw [hY, Nat.mod_eq_of_lt (getN_lt _ 8 _)]
     have Hz := Lib.hid hz
     have HY := Lib.hid hY
     clear hz hOx hY
     go_wp2_with ((with_reducible refine store_byte rfl _ _ rfl C j _ Y rfl rfl _ ht.this (by omega) Hz.out ?_); intro wq hq)
     rw [HY.out] at hq
     go_roundw
     case rel => first | exact ⟨j + 1, by omega, by go_num, ht.sets hq⟩ | ((repeat apply Exists.intro); exact ⟨⟨j + 1, by omega, by go_num, ht.sets hq⟩, rfl⟩)
     case measure => (simp [intOf] <;> omega)
    ·obtain rfl : j = 16 := by omega
     have hR5 := ht.kb.get hR4 (by omega)
     go_wp2_with (first | (with_reducible refine load_vec rfl _ rfl _ rfl _ ht.this ?_) | ((with_reducible refine store_vec rfl _ _ rfl (w.heap.size + 1 + 1) _ rfl rfl _ hR5 ?_); intro wq hq))
     exact bodyPost_ret (results_vec_tmp rfl _ _ (w.heap.size + 1 + 1) _ _ rfl rfl hq.this) rfl ⟨by rw [raw_splat X 8 (by decide), HX.out]; rfl, (ht.kb.to_below hZ4 (by omega)).trans (hq.below.mono (by omega))⟩
set_option maxRecDepth 100000 in
theorem rfload_56 (o : MObj) (old : Vec) (a b : Int) (lo : Nat) (hi at_ : Int) (L : Value) (A : Nat) (w : World) (h : MemAt w o) (ha : 0 ≤ at_ ∧ at_ < 4294967296) (hb : 0 ≤ b ∧ b < 4294967296) (hA : (A : Int) = at_ + b) (hl : lo < 4) (hin : A + 4 ≤ o.n) :
 Calls Tryz.prog 19 #[.pointer (some ⟨o.p, 0, none⟩), inV 64854 a b (lo : Nat) hi L, .int .u32 at_, .agg (cells old)] w fun e w' => e = .returned (.tuple #[.agg (cells (setN old 32 lo (loadN o.β A 4))), .int .i64 0]) ∧ Below w.heap.size w w' := by
 have hv : ¬ VBad 64854 b ((lo : Nat) : Int) false := by
  rintro (c | c | c | c | ⟨d, c⟩)
  ·exact c (by omega)
  ·exact c (by decide)
  ·omega
  ·omega
  ·rw [show 16 / vszN 64854 = 4 by decide] at c; omega
 have HM := Lib.hid (fun W => rerr_ok ⟨o.p, 0, none⟩ 64854 a b ((lo : Nat) : Int) hi L false W (by decide) (Int.natCast_nonneg _) hv)
 have HS : ∀ W, Calls Tryz.prog 5 #[.int .i64 64854] W fun e w' => e = .returned (.int .i64 4) ∧ w' = W := fun W => rsz_any 64854 W (by decide)
 replace HS := Lib.hid HS
 clear hv
 have hz := h.size
 go_enter Tryz.func19, Tryz.ntmps19
 go_wp2_with fail
 rw [← cells_zero]
 obtain ⟨W, hW⟩ : ∃ W, W = (((w.alloc (.cells #[.int .i64 64854, .int .i64 a, .int .i64 b, .int .u64 (lo : Nat), .int .u64 hi, L] 25)).alloc (.cells (cells old) 28)).alloc (.cells (cells 0) 28)) := ⟨_, rfl⟩
 have hI : W.heap[w.heap.size]? = some (.cells #[.int .i64 64854, .int .i64 a, .int .i64 b, .int .u64 (lo : Nat), .int .u64 hi, L] 25 (0, 0)) := hW ▸ heap_alloc3_0 _ _ _ _
 have hV : W.heap[w.heap.size + 1]? = some (.cells (cells old) 28 (0, 0)) := hW ▸ heap_alloc3_1 _ _ _ _
 have hR : W.heap[w.heap.size + 1 + 1]? = some (.cells (cells 0) 28 (0, 0)) := hW ▸ heap_alloc3_2 _ _ _ _
 have hZ : Below w.heap.size w W := hW ▸ below_alloc3 _ _ _ _
 rw [← hW]
 clear hW
 refine (HM.out _).mono ?_
 rintro e u1 ⟨rfl, hb1⟩
 have hI1 := (hb1.block _ (block_lt hI)).trans hI
 have hV1 := (hb1.block _ (block_lt hV)).trans hV
 have hR1 := (hb1.block _ (block_lt hR)).trans hR
 have c0 : u1.cell? ⟨w.heap.size, 0, none⟩ = some (.int .i64 64854) := by rw [cell_of_row u1 _ 0 _ _ _ hI1]; rfl
 have c2 : u1.cell? ⟨w.heap.size, 2, none⟩ = some (.int .i64 b) := by rw [cell_of_row u1 _ 2 _ _ _ hI1]; rfl
 have hZ1 := hZ.trans (hb1.mono hZ.size)
 have hm := h.below hZ1
 have m0 := hm.c0
 clear hI hV hR hb1 hZ HM hm
 go_wp2_with (go_at_call 5; ((with_reducible refine (HS.out _).mono ?_); rintro e u ⟨rfl, rfl⟩))
 rw [← cells_zero]
 obtain ⟨W2, hW2⟩ : ∃ W2, W2 = u.alloc (.cells (cells 0) 28) := ⟨_, rfl⟩
 have hI2 := hW2 ▸ blk_alloc hI1 (.cells (cells 0) 28)
 have hR2 : W2.heap[w.heap.size + 1 + 1]? = some (.cells (cells 0) 28 (0, 0)) := hW2 ▸ blk_alloc hR1 _
 have hV2 : W2.heap[w.heap.size + 1]? = some (.cells (cells old) 28 (0, 0)) := hW2 ▸ blk_alloc hV1 _
 have hO2 : W2.heap[u.heap.size]? = some (.cells (cells 0) 28 (0, 0)) := hW2 ▸ heap_alloc_new _ _
 have hZ2 : Below w.heap.size w W2 := hW2 ▸ hZ1.alloc hZ1.size _
 rw [← hW2]
 have nR := Nat.ne_of_lt (block_lt hR1)
 have nV := Nat.ne_of_lt (block_lt hV1)
 have nI := Nat.ne_of_lt (block_lt hI1)
 have nA := hZ1.size
 generalize u.heap.size = B at *
 clear hW2 hR1 hZ1 hV1 hI1 c0 c2 m0
 obtain ⟨X, hX⟩ : ∃ X, X = loadN o.β A 4 := ⟨_, rfl⟩
 have hXb : ∀ k, k < 4 → X / 2 ^ (8 * k) % 256 = o.β (A + k) := fun k hk => hX ▸ loadN_byte o.β A 4 k hk (fun i hi => h.row.lt _ (by omega))
 have HXb := Lib.hid hXb
 have HX := Lib.hid hX
 clear hX
 have hA2 : at_ + b = (A : Int) := hA.symm
 rw [hA2]
 clear hXb hA2 hA
 have hs0 : St W2 B 0 W2 := St.start hO2
 go_loopw [14] (fun iv wr => ∃ k : Nat, k ≤ 4 ∧ iv = .int .i64 (k : Int) ∧ St W2 B (putAt 0 0 (8 * k) X) wr) (fun iv _ => 4 - (intOf iv).toNat)
 case atStart => exact ⟨0, Nat.zero_le _, rfl, by rw [raw_zero]; exact hs0⟩
 case round =>
  clear hs0
  obtain ⟨k, hk, rfl, hs⟩ := hrel
  by_cases hlt : k < 4
  ·have hmk := h.below (hs.kb.to_below hZ2 (by omega))
   obtain ⟨q, hq, hr⟩ := hmk.row.pos (by omega)
   have m0 := hmk.c0
   rw [hq, show headOf (some q) = some ⟨q, 0, none⟩ from rfl] at m0
   have hcap := hr.le
   have hcell := hr.cell (i := A + k) (by omega)
   have hbt := hr.lt (A + k) (by omega)
   have hz : ((o.β (A + k) : Nat) : Int) = ((X / 2 ^ (8 * k) % 256 : Nat) : Int) := by rw [HXb.out k hlt]
   have Hz := Lib.hid hz
   clear hz hmk hq hr
   go_wp2_with ((with_reducible refine store_byte rfl _ _ rfl B k _ (X / 2 ^ (8 * k)) rfl rfl _ hs.this (by omega) Hz.out ?_); intro wq hq)
   go_roundw
   case rel => first | exact ⟨k + 1, by omega, by go_num, by rw [← raw_step X k (by omega)]; exact hs.sets hq⟩ | ((repeat apply Exists.intro); exact ⟨⟨k + 1, by omega, by go_num, by rw [← raw_step X k (by omega)]; exact hs.sets hq⟩, rfl⟩)
   case measure => (simp [intOf] <;> omega)
  ·obtain rfl : k = 4 := by omega
   have hI3 := hs.kb.get hI2 (by omega)
   have hR3 := hs.kb.get hR2 (by omega)
   have hV3 := hs.kb.get hV2 (by omega)
   have hZ3 := hs.kb.to_below hZ2 (by omega)
   have hO3 := hs.this
   have c0 : wr.cell? ⟨w.heap.size, 0, none⟩ = some (.int .i64 64854) := by rw [cell_of_row wr _ 0 _ _ _ hI3]; rfl
   have c3 : wr.cell? ⟨w.heap.size, 3, none⟩ = some (.int .u64 (lo : Nat)) := by rw [cell_of_row wr _ 3 _ _ _ hI3]; rfl
   have nB := block_lt hO3
   go_wp2_with (first | (with_reducible refine load_vec rfl _ rfl _ rfl _ (blk_alloc hV3 _) ?_) | ((with_reducible refine store_vec rfl _ _ rfl _ _ rfl rfl 0 (heap_new_zero _) ?_); intro W4 hz0))
   have nA3 := hZ3.size
   have nR3 := Nat.ne_of_lt (block_lt hR3)
   have nV3 := Nat.ne_of_lt (block_lt hV3)
   have nI3 := Nat.ne_of_lt (block_lt hI3)
   have hI4 := blk_sets (blk_alloc hI3 _) hz0 nI3
   have hR4 := blk_sets (blk_alloc hR3 _) hz0 nR3
   have hO4 := blk_sets (blk_alloc hO3 _) hz0 (Nat.ne_of_lt nB)
   have hZ4 : Below w.heap.size w W4 := below_store hZ3 (Nat.le_refl _) hz0
   have hC4 := hz0.this
   clear hR3 hZ3 hV3 hI3 hO3 c0 c3 hs hR2 hV2 hI2 hZ2 hz0
   generalize wr.heap.size = C at *
   have hs0 : St W4 C old W4 := St.start hC4
   go_loopw [23] (fun iv wr => ∃ j : Nat, j ≤ 4 ∧ iv = .int .i64 (j : Int) ∧ St W4 C (putAt old (8 * (4 * lo)) (8 * j) X) wr) (fun iv _ => 4 - (intOf iv).toNat)
   case atStart => exact ⟨0, Nat.zero_le _, rfl, by rw [putAt_zero _ _ _ (by omega)]; exact hs0⟩
   case round =>
    clear hs0
    obtain ⟨j, hj, rfl, ht⟩ := hrel
    by_cases hjt : j < 4
    ·have e0 : IntKind.i64.wrap (lo : Int) = lo := IntWalk.i64_in _ (by omega)
     have e1 : IntKind.i64.wrap ((lo : Int) * 4) = lo * 4 := IntWalk.i64_in _ (by omega)
     have e2 : IntKind.i64.wrap ((lo : Int) * 4 + (j : Int)) = ((lo * 4 + j : Nat) : Int) := by rw [IntWalk.i64_in _ (by omega)]; omega
     have hb16 : lo * 4 + j < 16 := by omega
     have hbj : getN (putAt 0 0 (8 * 4) X) 8 j = X / 2 ^ (8 * j) % 256 := by
      have h1 := lane_byte (putAt 0 0 (8 * 4) X) 4 0 j hjt
      rw [Nat.mul_zero, Nat.zero_add] at h1
      rw [h1, show putAt 0 0 (8 * 4) X = setN 0 (8 * 4) 0 X from rfl, getN_setN _ _ _ _ _ (by decide), if_pos rfl, show X % 2 ^ (8 * 4) = X from Nat.mod_eq_of_lt (HX.out ▸ loadN_lt o.β A 4 (fun i hi => h.row.lt _ (by omega)))]
     have hz : ((getN (putAt 0 0 (8 * 4) X) 8 j : Nat) : Int) = ((X / 2 ^ (8 * j) % 256 : Nat) : Int) := by rw [hbj]
     have Hz := Lib.hid hz
     clear hz hbj
     go_wp2_with fail
     refine region_do (St W4 C (putAt old (8 * (4 * lo)) (8 * j) X)) 11 (by kernel_rfl) (by kernel_rfl) ht.drew ?_
     simp only [zF, zE, zD, zC]
     repeat (first | (refine do_ldu rfl _ rfl _ 3 rfl (.int .u64 (lo : Nat)) (fun u hS => by rw [cell_of_row u _ 3 _ _ _ (hS.kb.get hI4 (by omega))]; rfl) ?_; simp only [Act.put, z5, z6, z7]) | (refine do_ldb rfl _ rfl B j rfl (.int .u8 (getN (putAt 0 0 (8 * 4) X) 8 j : Nat)) (fun u hS => by rw [cell_of_row u _ j _ _ _ (hS.kb.get hO4 (by omega)), getElem?_cells _ _ (by omega)]; rfl) ?_; simp only [Act.put, z5, z6, z7]) | (refine do_ixv rfl _ _ rfl B j rfl _ rfl rfl (by omega) ?_; simp only [Act.put, z5, z6, z7]) | (refine do_ixv rfl _ _ rfl C (4 * lo + j) rfl _ rfl (by omega) (by omega) ?_; simp only [Act.put, z5, z6, z7]) | (refine wpD_pure (v := ?_) rfl (fun u => ?_) ?_; rotate_left; (focus (go_simp; (try with_reducible rfl); done)); simp only [Act.put, z5, z6, z7]))
     refine wpD_nil (fun wq hq => ?_)
     go_wp2_with ((with_reducible refine store_byte rfl _ _ rfl C (4 * lo + j) _ (X / 2 ^ (8 * j)) rfl rfl _ hq.this (by omega) Hz.out ?_); intro wz hz)
     go_roundw
     case rel => first | exact ⟨j + 1, by omega, by go_num, by rw [← lane_step old X lo 4 j hjt (by omega)]; exact hq.sets hz⟩ | ((repeat apply Exists.intro); exact ⟨⟨j + 1, by omega, by go_num, by rw [← lane_step old X lo 4 j hjt (by omega)]; exact hq.sets hz⟩, rfl⟩)
     case measure => (simp [intOf] <;> omega)
    ·obtain rfl : j = 4 := by omega
     have hR5 := ht.kb.get hR4 (by omega)
     go_wp2_with (first | (with_reducible refine load_vec rfl _ rfl _ rfl _ ht.this ?_) | ((with_reducible refine store_vec rfl _ _ rfl (w.heap.size + 1 + 1) _ rfl rfl _ hR5 ?_); intro wq hq))
     exact bodyPost_ret (results_vec_tmp rfl _ _ (w.heap.size + 1 + 1) _ _ rfl rfl hq.this) rfl ⟨by rw [lane_all, HX.out]; rfl, (ht.kb.to_below hZ4 (by omega)).trans (hq.below.mono (by omega))⟩
set_option maxRecDepth 100000 in
theorem rfload_57 (o : MObj) (old : Vec) (a b : Int) (lo : Nat) (hi at_ : Int) (L : Value) (A : Nat) (w : World) (h : MemAt w o) (ha : 0 ≤ at_ ∧ at_ < 4294967296) (hb : 0 ≤ b ∧ b < 4294967296) (hA : (A : Int) = at_ + b) (hl : lo < 2) (hin : A + 8 ≤ o.n) :
 Calls Tryz.prog 19 #[.pointer (some ⟨o.p, 0, none⟩), inV 64855 a b (lo : Nat) hi L, .int .u32 at_, .agg (cells old)] w fun e w' => e = .returned (.tuple #[.agg (cells (setN old 64 lo (loadN o.β A 8))), .int .i64 0]) ∧ Below w.heap.size w w' := by
 have hv : ¬ VBad 64855 b ((lo : Nat) : Int) false := by
  rintro (c | c | c | c | ⟨d, c⟩)
  ·exact c (by omega)
  ·exact c (by decide)
  ·omega
  ·omega
  ·rw [show 16 / vszN 64855 = 2 by decide] at c; omega
 have HM := Lib.hid (fun W => rerr_ok ⟨o.p, 0, none⟩ 64855 a b ((lo : Nat) : Int) hi L false W (by decide) (Int.natCast_nonneg _) hv)
 have HS : ∀ W, Calls Tryz.prog 5 #[.int .i64 64855] W fun e w' => e = .returned (.int .i64 8) ∧ w' = W := fun W => rsz_any 64855 W (by decide)
 replace HS := Lib.hid HS
 clear hv
 have hz := h.size
 go_enter Tryz.func19, Tryz.ntmps19
 go_wp2_with fail
 rw [← cells_zero]
 obtain ⟨W, hW⟩ : ∃ W, W = (((w.alloc (.cells #[.int .i64 64855, .int .i64 a, .int .i64 b, .int .u64 (lo : Nat), .int .u64 hi, L] 25)).alloc (.cells (cells old) 28)).alloc (.cells (cells 0) 28)) := ⟨_, rfl⟩
 have hI : W.heap[w.heap.size]? = some (.cells #[.int .i64 64855, .int .i64 a, .int .i64 b, .int .u64 (lo : Nat), .int .u64 hi, L] 25 (0, 0)) := hW ▸ heap_alloc3_0 _ _ _ _
 have hV : W.heap[w.heap.size + 1]? = some (.cells (cells old) 28 (0, 0)) := hW ▸ heap_alloc3_1 _ _ _ _
 have hR : W.heap[w.heap.size + 1 + 1]? = some (.cells (cells 0) 28 (0, 0)) := hW ▸ heap_alloc3_2 _ _ _ _
 have hZ : Below w.heap.size w W := hW ▸ below_alloc3 _ _ _ _
 rw [← hW]
 clear hW
 refine (HM.out _).mono ?_
 rintro e u1 ⟨rfl, hb1⟩
 have hI1 := (hb1.block _ (block_lt hI)).trans hI
 have hV1 := (hb1.block _ (block_lt hV)).trans hV
 have hR1 := (hb1.block _ (block_lt hR)).trans hR
 have c0 : u1.cell? ⟨w.heap.size, 0, none⟩ = some (.int .i64 64855) := by rw [cell_of_row u1 _ 0 _ _ _ hI1]; rfl
 have c2 : u1.cell? ⟨w.heap.size, 2, none⟩ = some (.int .i64 b) := by rw [cell_of_row u1 _ 2 _ _ _ hI1]; rfl
 have hZ1 := hZ.trans (hb1.mono hZ.size)
 have hm := h.below hZ1
 have m0 := hm.c0
 clear hI hV hR hb1 hZ HM hm
 go_wp2_with (go_at_call 5; ((with_reducible refine (HS.out _).mono ?_); rintro e u ⟨rfl, rfl⟩))
 rw [← cells_zero]
 obtain ⟨W2, hW2⟩ : ∃ W2, W2 = u.alloc (.cells (cells 0) 28) := ⟨_, rfl⟩
 have hI2 := hW2 ▸ blk_alloc hI1 (.cells (cells 0) 28)
 have hR2 : W2.heap[w.heap.size + 1 + 1]? = some (.cells (cells 0) 28 (0, 0)) := hW2 ▸ blk_alloc hR1 _
 have hV2 : W2.heap[w.heap.size + 1]? = some (.cells (cells old) 28 (0, 0)) := hW2 ▸ blk_alloc hV1 _
 have hO2 : W2.heap[u.heap.size]? = some (.cells (cells 0) 28 (0, 0)) := hW2 ▸ heap_alloc_new _ _
 have hZ2 : Below w.heap.size w W2 := hW2 ▸ hZ1.alloc hZ1.size _
 rw [← hW2]
 have nR := Nat.ne_of_lt (block_lt hR1)
 have nV := Nat.ne_of_lt (block_lt hV1)
 have nI := Nat.ne_of_lt (block_lt hI1)
 have nA := hZ1.size
 generalize u.heap.size = B at *
 clear hW2 hR1 hZ1 hV1 hI1 c0 c2 m0
 obtain ⟨X, hX⟩ : ∃ X, X = loadN o.β A 8 := ⟨_, rfl⟩
 have hXb : ∀ k, k < 8 → X / 2 ^ (8 * k) % 256 = o.β (A + k) := fun k hk => hX ▸ loadN_byte o.β A 8 k hk (fun i hi => h.row.lt _ (by omega))
 have HXb := Lib.hid hXb
 have HX := Lib.hid hX
 clear hX
 have hA2 : at_ + b = (A : Int) := hA.symm
 rw [hA2]
 clear hXb hA2 hA
 have hs0 : St W2 B 0 W2 := St.start hO2
 go_loopw [14] (fun iv wr => ∃ k : Nat, k ≤ 8 ∧ iv = .int .i64 (k : Int) ∧ St W2 B (putAt 0 0 (8 * k) X) wr) (fun iv _ => 8 - (intOf iv).toNat)
 case atStart => exact ⟨0, Nat.zero_le _, rfl, by rw [raw_zero]; exact hs0⟩
 case round =>
  clear hs0
  obtain ⟨k, hk, rfl, hs⟩ := hrel
  by_cases hlt : k < 8
  ·have hmk := h.below (hs.kb.to_below hZ2 (by omega))
   obtain ⟨q, hq, hr⟩ := hmk.row.pos (by omega)
   have m0 := hmk.c0
   rw [hq, show headOf (some q) = some ⟨q, 0, none⟩ from rfl] at m0
   have hcap := hr.le
   have hcell := hr.cell (i := A + k) (by omega)
   have hbt := hr.lt (A + k) (by omega)
   have hz : ((o.β (A + k) : Nat) : Int) = ((X / 2 ^ (8 * k) % 256 : Nat) : Int) := by rw [HXb.out k hlt]
   have Hz := Lib.hid hz
   clear hz hmk hq hr
   go_wp2_with ((with_reducible refine store_byte rfl _ _ rfl B k _ (X / 2 ^ (8 * k)) rfl rfl _ hs.this (by omega) Hz.out ?_); intro wq hq)
   go_roundw
   case rel => first | exact ⟨k + 1, by omega, by go_num, by rw [← raw_step X k (by omega)]; exact hs.sets hq⟩ | ((repeat apply Exists.intro); exact ⟨⟨k + 1, by omega, by go_num, by rw [← raw_step X k (by omega)]; exact hs.sets hq⟩, rfl⟩)
   case measure => (simp [intOf] <;> omega)
  ·obtain rfl : k = 8 := by omega
   have hI3 := hs.kb.get hI2 (by omega)
   have hR3 := hs.kb.get hR2 (by omega)
   have hV3 := hs.kb.get hV2 (by omega)
   have hZ3 := hs.kb.to_below hZ2 (by omega)
   have hO3 := hs.this
   have c0 : wr.cell? ⟨w.heap.size, 0, none⟩ = some (.int .i64 64855) := by rw [cell_of_row wr _ 0 _ _ _ hI3]; rfl
   have c3 : wr.cell? ⟨w.heap.size, 3, none⟩ = some (.int .u64 (lo : Nat)) := by rw [cell_of_row wr _ 3 _ _ _ hI3]; rfl
   have nB := block_lt hO3
   go_wp2_with (first | (with_reducible refine load_vec rfl _ rfl _ rfl _ (blk_alloc hV3 _) ?_) | ((with_reducible refine store_vec rfl _ _ rfl _ _ rfl rfl 0 (heap_new_zero _) ?_); intro W4 hz0))
   have nA3 := hZ3.size
   have nR3 := Nat.ne_of_lt (block_lt hR3)
   have nV3 := Nat.ne_of_lt (block_lt hV3)
   have nI3 := Nat.ne_of_lt (block_lt hI3)
   have hI4 := blk_sets (blk_alloc hI3 _) hz0 nI3
   have hR4 := blk_sets (blk_alloc hR3 _) hz0 nR3
   have hO4 := blk_sets (blk_alloc hO3 _) hz0 (Nat.ne_of_lt nB)
   have hZ4 : Below w.heap.size w W4 := below_store hZ3 (Nat.le_refl _) hz0
   have hC4 := hz0.this
   clear hR3 hZ3 hV3 hI3 hO3 c0 c3 hs hR2 hV2 hI2 hZ2 hz0
   generalize wr.heap.size = C at *
   have hs0 : St W4 C old W4 := St.start hC4
   go_loopw [23] (fun iv wr => ∃ j : Nat, j ≤ 8 ∧ iv = .int .i64 (j : Int) ∧ St W4 C (putAt old (8 * (8 * lo)) (8 * j) X) wr) (fun iv _ => 8 - (intOf iv).toNat)
   case atStart => exact ⟨0, Nat.zero_le _, rfl, by rw [putAt_zero _ _ _ (by omega)]; exact hs0⟩
   case round =>
    clear hs0
    obtain ⟨j, hj, rfl, ht⟩ := hrel
    by_cases hjt : j < 8
    ·have e0 : IntKind.i64.wrap (lo : Int) = lo := IntWalk.i64_in _ (by omega)
     have e1 : IntKind.i64.wrap ((lo : Int) * 8) = lo * 8 := IntWalk.i64_in _ (by omega)
     have e2 : IntKind.i64.wrap ((lo : Int) * 8 + (j : Int)) = ((lo * 8 + j : Nat) : Int) := by rw [IntWalk.i64_in _ (by omega)]; omega
     have hb16 : lo * 8 + j < 16 := by omega
     have hbj : getN (putAt 0 0 (8 * 8) X) 8 j = X / 2 ^ (8 * j) % 256 := by
      have h1 := lane_byte (putAt 0 0 (8 * 8) X) 8 0 j hjt
      rw [Nat.mul_zero, Nat.zero_add] at h1
      rw [h1, show putAt 0 0 (8 * 8) X = setN 0 (8 * 8) 0 X from rfl, getN_setN _ _ _ _ _ (by decide), if_pos rfl, show X % 2 ^ (8 * 8) = X from Nat.mod_eq_of_lt (HX.out ▸ loadN_lt o.β A 8 (fun i hi => h.row.lt _ (by omega)))]
     have hz : ((getN (putAt 0 0 (8 * 8) X) 8 j : Nat) : Int) = ((X / 2 ^ (8 * j) % 256 : Nat) : Int) := by rw [hbj]
     have Hz := Lib.hid hz
     clear hz hbj
     go_wp2_with fail
     refine region_do (St W4 C (putAt old (8 * (8 * lo)) (8 * j) X)) 11 (by kernel_rfl) (by kernel_rfl) ht.drew ?_
     simp only [zF, zE, zD, zC]
     repeat (first | (refine do_ldu rfl _ rfl _ 3 rfl (.int .u64 (lo : Nat)) (fun u hS => by rw [cell_of_row u _ 3 _ _ _ (hS.kb.get hI4 (by omega))]; rfl) ?_; simp only [Act.put, z5, z6, z7]) | (refine do_ldb rfl _ rfl B j rfl (.int .u8 (getN (putAt 0 0 (8 * 8) X) 8 j : Nat)) (fun u hS => by rw [cell_of_row u _ j _ _ _ (hS.kb.get hO4 (by omega)), getElem?_cells _ _ (by omega)]; rfl) ?_; simp only [Act.put, z5, z6, z7]) | (refine do_ixv rfl _ _ rfl B j rfl _ rfl rfl (by omega) ?_; simp only [Act.put, z5, z6, z7]) | (refine do_ixv rfl _ _ rfl C (8 * lo + j) rfl _ rfl (by omega) (by omega) ?_; simp only [Act.put, z5, z6, z7]) | (refine wpD_pure (v := ?_) rfl (fun u => ?_) ?_; rotate_left; (focus (go_simp; (try with_reducible rfl); done)); simp only [Act.put, z5, z6, z7]))
     refine wpD_nil (fun wq hq => ?_)
     go_wp2_with ((with_reducible refine store_byte rfl _ _ rfl C (8 * lo + j) _ (X / 2 ^ (8 * j)) rfl rfl _ hq.this (by omega) Hz.out ?_); intro wz hz)
     go_roundw
     case rel => first | exact ⟨j + 1, by omega, by go_num, by rw [← lane_step old X lo 8 j hjt (by omega)]; exact hq.sets hz⟩ | ((repeat apply Exists.intro); exact ⟨⟨j + 1, by omega, by go_num, by rw [← lane_step old X lo 8 j hjt (by omega)]; exact hq.sets hz⟩, rfl⟩)
     case measure => (simp [intOf] <;> omega)
    ·obtain rfl : j = 8 := by omega
     have hR5 := ht.kb.get hR4 (by omega)
     go_wp2_with (first | (with_reducible refine load_vec rfl _ rfl _ rfl _ ht.this ?_) | ((with_reducible refine store_vec rfl _ _ rfl (w.heap.size + 1 + 1) _ rfl rfl _ hR5 ?_); intro wq hq))
     exact bodyPost_ret (results_vec_tmp rfl _ _ (w.heap.size + 1 + 1) _ _ rfl rfl hq.this) rfl ⟨by rw [lane_all, HX.out]; rfl, (ht.kb.to_below hZ4 (by omega)).trans (hq.below.mono (by omega))⟩
end Go.Proofs.YtmfmokblmipagaaGreat
