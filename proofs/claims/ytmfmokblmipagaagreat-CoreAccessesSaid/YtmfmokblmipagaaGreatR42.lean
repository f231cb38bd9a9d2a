/-
  Texts VmRL1.
-/
import Derived.Test.YtmfmokblmipagaaGreatR24
import Derived.Test.YtmfmokblmipagaaGreatR35
import Derived.Test.YtmfmokblmipagaaGreatR40
set_option linter.unusedSimpArgs false
set_option linter.unusedVariables false
set_option maxHeartbeats 8000000
open Pl
namespace Go.Proofs.YtmfmokblmipagaaGreat
open Go.RowKit Pl
set_option maxRecDepth 100000 in
theorem rfload_01 (o : MObj) (old : Vec) (a b : Int) (lo : Int) (h0 : 0 ≤ lo) (hi at_ : Int) (L : Value) (A : Nat) (w : World) (h : MemAt w o) (ha : 0 ≤ at_ ∧ at_ < 4294967296) (hb : 0 ≤ b ∧ b < 4294967296) (hA : (A : Int) = at_ + b)  (hin : A + 8 ≤ o.n) :
 Calls Tryz.prog 19 #[.pointer (some ⟨o.p, 0, none⟩), inV 64769 a b lo hi L, .int .u32 at_, .agg (cells old)] w fun e w' => e = .returned (.tuple #[.agg (cells (spreadV (loadN o.β A 8) 8 true)), .int .i64 0]) ∧ Below w.heap.size w w' := by
 have hv : ¬ VBad 64769 b lo false := by
  rintro (c | c | c | c | ⟨d, c⟩)
  ·exact c (by omega)
  ·exact c (by decide)
  ·omega
  ·omega
  ·exact absurd d (by unfold vln; omega)
 have HM := Lib.hid (fun W => rerr_ok ⟨o.p, 0, none⟩ 64769 a b lo hi L false W (by decide) h0 hv)
 have HS : ∀ W, Calls Tryz.prog 5 #[.int .i64 64769] W fun e w' => e = .returned (.int .i64 8) ∧ w' = W := fun W => rsz_any 64769 W (by decide)
 replace HS := Lib.hid HS
 clear hv
 have hz := h.size
 go_enter Tryz.func19, Tryz.ntmps19
 go_wp2_with fail
 rw [← cells_zero]
 obtain ⟨W, hW⟩ : ∃ W, W = (((w.alloc (.cells #[.int .i64 64769, .int .i64 a, .int .i64 b, .int .u64 lo, .int .u64 hi, L] 25)).alloc (.cells (cells old) 28)).alloc (.cells (cells 0) 28)) := ⟨_, rfl⟩
 have hI : W.heap[w.heap.size]? = some (.cells #[.int .i64 64769, .int .i64 a, .int .i64 b, .int .u64 lo, .int .u64 hi, L] 25 (0, 0)) := hW ▸ heap_alloc3_0 _ _ _ _
 have hV : W.heap[w.heap.size + 1]? = some (.cells (cells old) 28 (0, 0)) := hW ▸ heap_alloc3_1 _ _ _ _
 have hR : W.heap[w.heap.size + 1 + 1]? = some (.cells (cells 0) 28 (0, 0)) := hW ▸ heap_alloc3_2 _ _ _ _
 have hZ : Below w.heap.size w W := hW ▸ below_alloc3 _ _ _ _
 rw [← hW]
 clear hW
 refine (HM.out _).mono ?_
 rintro e u1 ⟨rfl, hb1⟩
 have hI1 := (hb1.block _ (block_lt hI)).trans hI
 have hV1 := (hb1.block _ (block_lt hV)).trans hV
 have hR1 := (hb1.block _ (block_lt hR)).trans hR
 have c0 : u1.cell? ⟨w.heap.size, 0, none⟩ = some (.int .i64 64769) := by rw [cell_of_row u1 _ 0 _ _ _ hI1]; rfl
 have c2 : u1.cell? ⟨w.heap.size, 2, none⟩ = some (.int .i64 b) := by rw [cell_of_row u1 _ 2 _ _ _ hI1]; rfl
 have hZ1 := hZ.trans (hb1.mono hZ.size)
 have hm := h.below hZ1
 have m0 := hm.c0
 clear hI hV hR hb1 hZ HM hm
 go_wp2_with (go_at_call 5; ((with_reducible refine (HS.out _).mono ?_); rintro e u ⟨rfl, rfl⟩))
 rw [← cells_zero]
 obtain ⟨W2, hW2⟩ : ∃ W2, W2 = u.alloc (.cells (cells 0) 28) := ⟨_, rfl⟩
 have hI2 := hW2 ▸ blk_alloc hI1 (.cells (cells 0) 28)
 have hR2 : W2.heap[w.heap.size + 1 + 1]? = some (.cells (cells 0) 28 (0, 0)) := hW2 ▸ blk_alloc hR1 _
 have hV2 : W2.heap[w.heap.size + 1]? = some (.cells (cells old) 28 (0, 0)) := hW2 ▸ blk_alloc hV1 _
 have hO2 : W2.heap[u.heap.size]? = some (.cells (cells 0) 28 (0, 0)) := hW2 ▸ heap_alloc_new _ _
 have hZ2 : Below w.heap.size w W2 := hW2 ▸ hZ1.alloc hZ1.size _
 rw [← hW2]
 have nR := Nat.ne_of_lt (block_lt hR1)
 have nV := Nat.ne_of_lt (block_lt hV1)
 have nI := Nat.ne_of_lt (block_lt hI1)
 have nA := hZ1.size
 generalize u.heap.size = B at *
 clear hW2 hR1 hZ1 hV1 hI1 c0 c2 m0
 obtain ⟨X, hX⟩ : ∃ X, X = loadN o.β A 8 := ⟨_, rfl⟩
 have hXb : ∀ k, k < 8 → X / 2 ^ (8 * k) % 256 = o.β (A + k) := fun k hk => hX ▸ loadN_byte o.β A 8 k hk (fun i hi => h.row.lt _ (by omega))
 have HXb := Lib.hid hXb
 have HX := Lib.hid hX
 clear hX
 have hA2 : at_ + b = (A : Int) := hA.symm
 rw [hA2]
 clear hXb hA2 hA
 have hs0 : St W2 B 0 W2 := St.start hO2
 go_loopw [14] (fun iv wr => ∃ k : Nat, k ≤ 8 ∧ iv = .int .i64 (k : Int) ∧ St W2 B (putAt 0 0 (8 * k) X) wr) (fun iv _ => 8 - (intOf iv).toNat)
 case atStart => exact ⟨0, Nat.zero_le _, rfl, by rw [raw_zero]; exact hs0⟩
 case round =>
  clear hs0
  obtain ⟨k, hk, rfl, hs⟩ := hrel
  by_cases hlt : k < 8
  ·have hmk := h.below (hs.kb.to_below hZ2 (by omega))
   obtain ⟨q, hq, hr⟩ := hmk.row.pos (by omega)
   have m0 := hmk.c0
   rw [hq, show headOf (some q) = some ⟨q, 0, none⟩ from rfl] at m0
   have hcap := hr.le
   have hcell := hr.cell (i := A + k) (by omega)
   have hbt := hr.lt (A + k) (by omega)
   have hz : ((o.β (A + k) : Nat) : Int) = ((X / 2 ^ (8 * k) % 256 : Nat) : Int) := by rw [HXb.out k hlt]
   have Hz := Lib.hid hz
   clear hz hmk hq hr
   go_wp2_with ((with_reducible refine store_byte rfl _ _ rfl B k _ (X / 2 ^ (8 * k)) rfl rfl _ hs.this (by omega) Hz.out ?_); intro wq hq)
   go_roundw
   case rel => first | exact ⟨k + 1, by omega, by go_num, by rw [← raw_step X k (by omega)]; exact hs.sets hq⟩ | ((repeat apply Exists.intro); exact ⟨⟨k + 1, by omega, by go_num, by rw [← raw_step X k (by omega)]; exact hs.sets hq⟩, rfl⟩)
   case measure => (simp [intOf] <;> omega)
  ·obtain rfl : k = 8 := by omega
   have hI3 := hs.kb.get hI2 (by omega)
   have hR3 := hs.kb.get hR2 (by omega)
   have hV3 := hs.kb.get hV2 (by omega)
   have hZ3 := hs.kb.to_below hZ2 (by omega)
   have hO3 := hs.this
   have c0 : wr.cell? ⟨w.heap.size, 0, none⟩ = some (.int .i64 64769) := by rw [cell_of_row wr _ 0 _ _ _ hI3]; rfl
   have c3 : wr.cell? ⟨w.heap.size, 3, none⟩ = some (.int .u64 lo) := by rw [cell_of_row wr _ 3 _ _ _ hI3]; rfl
   have nB := block_lt hO3
   go_wp2_with fail
   rw [← cells_zero]
   obtain ⟨W4, hW4⟩ : ∃ W4, W4 = wr.alloc (.cells (cells 0) 28) := ⟨_, rfl⟩
   have hR4 : W4.heap[w.heap.size + 1 + 1]? = some (.cells (cells 0) 28 (0, 0)) := hW4 ▸ blk_alloc hR3 _
   have hO4 : W4.heap[B]? = some (.cells (cells (putAt 0 0 (8 * 8) X)) 28 (0, 0)) := hW4 ▸ blk_alloc hO3 _
   have hC4 : W4.heap[wr.heap.size]? = some (.cells (cells 0) 28 (0, 0)) := hW4 ▸ heap_alloc_new _ _
   have hZ4 : Below w.heap.size w W4 := hW4 ▸ hZ3.alloc hZ3.size _
   have nA3 := hZ3.size
   have nR3 := Nat.ne_of_lt (block_lt hR3)
   rw [← hW4]
   clear hW4 hR3 hZ3 hV3 hI3 hO3 c0 c3 hs hR2 hV2 hI2 hZ2
   generalize wr.heap.size = C at *
   have hs0 : St W4 C 0 W4 := St.start hC4
   replace hO4 : W4.heap[B]? = some (.cells (cells (lowV X)) 28 (0, 0)) := hO4
   refine wp_loop_rounds 1 ?_
   iterate 1 (rw [rounds_succ]; go_wp2_with fail)
   refine wp_loop_rounds 1 ?_
   iterate 1 (rw [rounds_succ]; go_wp2_with fail)
   go_loopw [20, 21] (fun iv xv wr => ∃ j : Nat, j ≤ 8 ∧ iv = .int .i64 (j : Int) ∧ St W4 C (buildOn 0 16 (fun i => Pl.u64 (sgn 8 (getN (lowV X) 8 i))) j) wr) (fun iv _ _ => 8 - (intOf iv).toNat)
   case atStart => exact ⟨0, Nat.zero_le _, rfl, hs0⟩
   case round =>
    as_aux_lemma =>
     clear hs0
     obtain ⟨j, hj, rfl, ht⟩ := hrel
     by_cases hjt : j < 8
     ·have hOx := ht.kb.get hO4 (by omega)
      go_wp2_with (with_reducible refine load_vec rfl _ rfl _ rfl _ hOx ?_)
      refine (rget8z (lowV X) _ j _ rfl (by omega)).mono ?_
      rintro e u5 ⟨rfl, hb5⟩
      replace ht := ht.below hb5
      have hOx := ht.kb.get hO4 (by omega)
      clear hb5
      as_aux_lemma =>
       go_wp2_with (with_reducible refine load_vec rfl _ rfl _ rfl _ hOx ?_)
       refine (rsigned8z (lowV X) _ j _ rfl (by omega)).mono ?_
       rintro e u6 ⟨rfl, hb6⟩
       replace ht := ht.below hb6
       clear hb6
       go_wp2_with (with_reducible refine load_vec rfl _ rfl _ rfl _ ht.this ?_)
       refine (rset16z (buildOn 0 16 (fun i => Pl.u64 (sgn 8 (getN (lowV X) 8 i))) j) _ _ j (Pl.u64 (sgn 8 (getN (lowV X) 8 j))) _ rfl (by rw [wrap_u64]) (by omega) (u64_lt _)).mono ?_
       rintro e u7 ⟨rfl, hb7⟩
       replace ht := ht.below hb7
       clear hb7
       as_aux_lemma =>
        go_wp2_with ((with_reducible refine store_vec rfl _ _ rfl C _ rfl rfl _ ht.this ?_); intro wz hz)
        go_roundw
        case rel => first | exact ⟨j + 1, by omega, by go_num, ht.sets hz⟩ | ((repeat apply Exists.intro); exact ⟨⟨j + 1, by omega, by go_num, ht.sets hz⟩, rfl⟩)
        case measure => (simp [intOf] <;> omega)
     ·obtain rfl : j = 8 := by omega
      have hR5 := ht.kb.get hR4 (by omega)
      go_wp2_with (first | (with_reducible refine load_vec rfl _ rfl _ rfl _ ht.this ?_) | ((with_reducible refine store_vec rfl _ _ rfl (w.heap.size + 1 + 1) _ rfl rfl _ hR5 ?_); intro wq hq))
      exact bodyPost_ret (results_vec_tmp rfl _ _ (w.heap.size + 1 + 1) _ _ rfl rfl hq.this) rfl ⟨by rw [spread_is_8_1, HX.out]; rfl, (ht.kb.to_below hZ4 (by omega)).trans (hq.below.mono (by omega))⟩
set_option maxRecDepth 100000 in
theorem rfload_02 (o : MObj) (old : Vec) (a b : Int) (lo : Int) (h0 : 0 ≤ lo) (hi at_ : Int) (L : Value) (A : Nat) (w : World) (h : MemAt w o) (ha : 0 ≤ at_ ∧ at_ < 4294967296) (hb : 0 ≤ b ∧ b < 4294967296) (hA : (A : Int) = at_ + b)  (hin : A + 8 ≤ o.n) :
 Calls Tryz.prog 19 #[.pointer (some ⟨o.p, 0, none⟩), inV 64770 a b lo hi L, .int .u32 at_, .agg (cells old)] w fun e w' => e = .returned (.tuple #[.agg (cells (spreadV (loadN o.β A 8) 8 false)), .int .i64 0]) ∧ Below w.heap.size w w' := by
 have hv : ¬ VBad 64770 b lo false := by
  rintro (c | c | c | c | ⟨d, c⟩)
  ·exact c (by omega)
  ·exact c (by decide)
  ·omega
  ·omega
  ·exact absurd d (by unfold vln; omega)
 have HM := Lib.hid (fun W => rerr_ok ⟨o.p, 0, none⟩ 64770 a b lo hi L false W (by decide) h0 hv)
 have HS : ∀ W, Calls Tryz.prog 5 #[.int .i64 64770] W fun e w' => e = .returned (.int .i64 8) ∧ w' = W := fun W => rsz_any 64770 W (by decide)
 replace HS := Lib.hid HS
 clear hv
 have hz := h.size
 go_enter Tryz.func19, Tryz.ntmps19
 go_wp2_with fail
 rw [← cells_zero]
 obtain ⟨W, hW⟩ : ∃ W, W = (((w.alloc (.cells #[.int .i64 64770, .int .i64 a, .int .i64 b, .int .u64 lo, .int .u64 hi, L] 25)).alloc (.cells (cells old) 28)).alloc (.cells (cells 0) 28)) := ⟨_, rfl⟩
 have hI : W.heap[w.heap.size]? = some (.cells #[.int .i64 64770, .int .i64 a, .int .i64 b, .int .u64 lo, .int .u64 hi, L] 25 (0, 0)) := hW ▸ heap_alloc3_0 _ _ _ _
 have hV : W.heap[w.heap.size + 1]? = some (.cells (cells old) 28 (0, 0)) := hW ▸ heap_alloc3_1 _ _ _ _
 have hR : W.heap[w.heap.size + 1 + 1]? = some (.cells (cells 0) 28 (0, 0)) := hW ▸ heap_alloc3_2 _ _ _ _
 have hZ : Below w.heap.size w W := hW ▸ below_alloc3 _ _ _ _
 rw [← hW]
 clear hW
 refine (HM.out _).mono ?_
 rintro e u1 ⟨rfl, hb1⟩
 have hI1 := (hb1.block _ (block_lt hI)).trans hI
 have hV1 := (hb1.block _ (block_lt hV)).trans hV
 have hR1 := (hb1.block _ (block_lt hR)).trans hR
 have c0 : u1.cell? ⟨w.heap.size, 0, none⟩ = some (.int .i64 64770) := by rw [cell_of_row u1 _ 0 _ _ _ hI1]; rfl
 have c2 : u1.cell? ⟨w.heap.size, 2, none⟩ = some (.int .i64 b) := by rw [cell_of_row u1 _ 2 _ _ _ hI1]; rfl
 have hZ1 := hZ.trans (hb1.mono hZ.size)
 have hm := h.below hZ1
 have m0 := hm.c0
 clear hI hV hR hb1 hZ HM hm
 go_wp2_with (go_at_call 5; ((with_reducible refine (HS.out _).mono ?_); rintro e u ⟨rfl, rfl⟩))
 rw [← cells_zero]
 obtain ⟨W2, hW2⟩ : ∃ W2, W2 = u.alloc (.cells (cells 0) 28) := ⟨_, rfl⟩
 have hI2 := hW2 ▸ blk_alloc hI1 (.cells (cells 0) 28)
 have hR2 : W2.heap[w.heap.size + 1 + 1]? = some (.cells (cells 0) 28 (0, 0)) := hW2 ▸ blk_alloc hR1 _
 have hV2 : W2.heap[w.heap.size + 1]? = some (.cells (cells old) 28 (0, 0)) := hW2 ▸ blk_alloc hV1 _
 have hO2 : W2.heap[u.heap.size]? = some (.cells (cells 0) 28 (0, 0)) := hW2 ▸ heap_alloc_new _ _
 have hZ2 : Below w.heap.size w W2 := hW2 ▸ hZ1.alloc hZ1.size _
 rw [← hW2]
 have nR := Nat.ne_of_lt (block_lt hR1)
 have nV := Nat.ne_of_lt (block_lt hV1)
 have nI := Nat.ne_of_lt (block_lt hI1)
 have nA := hZ1.size
 generalize u.heap.size = B at *
 clear hW2 hR1 hZ1 hV1 hI1 c0 c2 m0
 obtain ⟨X, hX⟩ : ∃ X, X = loadN o.β A 8 := ⟨_, rfl⟩
 have hXb : ∀ k, k < 8 → X / 2 ^ (8 * k) % 256 = o.β (A + k) := fun k hk => hX ▸ loadN_byte o.β A 8 k hk (fun i hi => h.row.lt _ (by omega))
 have HXb := Lib.hid hXb
 have HX := Lib.hid hX
 clear hX
 have hA2 : at_ + b = (A : Int) := hA.symm
 rw [hA2]
 clear hXb hA2 hA
 have hs0 : St W2 B 0 W2 := St.start hO2
 go_loopw [14] (fun iv wr => ∃ k : Nat, k ≤ 8 ∧ iv = .int .i64 (k : Int) ∧ St W2 B (putAt 0 0 (8 * k) X) wr) (fun iv _ => 8 - (intOf iv).toNat)
 case atStart => exact ⟨0, Nat.zero_le _, rfl, by rw [raw_zero]; exact hs0⟩
 case round =>
  clear hs0
  obtain ⟨k, hk, rfl, hs⟩ := hrel
  by_cases hlt : k < 8
  ·have hmk := h.below (hs.kb.to_below hZ2 (by omega))
   obtain ⟨q, hq, hr⟩ := hmk.row.pos (by omega)
   have m0 := hmk.c0
   rw [hq, show headOf (some q) = some ⟨q, 0, none⟩ from rfl] at m0
   have hcap := hr.le
   have hcell := hr.cell (i := A + k) (by omega)
   have hbt := hr.lt (A + k) (by omega)
   have hz : ((o.β (A + k) : Nat) : Int) = ((X / 2 ^ (8 * k) % 256 : Nat) : Int) := by rw [HXb.out k hlt]
   have Hz := Lib.hid hz
   clear hz hmk hq hr
   go_wp2_with ((with_reducible refine store_byte rfl _ _ rfl B k _ (X / 2 ^ (8 * k)) rfl rfl _ hs.this (by omega) Hz.out ?_); intro wq hq)
   go_roundw
   case rel => first | exact ⟨k + 1, by omega, by go_num, by rw [← raw_step X k (by omega)]; exact hs.sets hq⟩ | ((repeat apply Exists.intro); exact ⟨⟨k + 1, by omega, by go_num, by rw [← raw_step X k (by omega)]; exact hs.sets hq⟩, rfl⟩)
   case measure => (simp [intOf] <;> omega)
  ·obtain rfl : k = 8 := by omega
   have hI3 := hs.kb.get hI2 (by omega)
   have hR3 := hs.kb.get hR2 (by omega)
   have hV3 := hs.kb.get hV2 (by omega)
   have hZ3 := hs.kb.to_below hZ2 (by omega)
   have hO3 := hs.this
   have c0 : wr.cell? ⟨w.heap.size, 0, none⟩ = some (.int .i64 64770) := by rw [cell_of_row wr _ 0 _ _ _ hI3]; rfl
   have c3 : wr.cell? ⟨w.heap.size, 3, none⟩ = some (.int .u64 lo) := by rw [cell_of_row wr _ 3 _ _ _ hI3]; rfl
   have nB := block_lt hO3
   go_wp2_with fail
   rw [← cells_zero]
   obtain ⟨W4, hW4⟩ : ∃ W4, W4 = wr.alloc (.cells (cells 0) 28) := ⟨_, rfl⟩
   have hR4 : W4.heap[w.heap.size + 1 + 1]? = some (.cells (cells 0) 28 (0, 0)) := hW4 ▸ blk_alloc hR3 _
   have hO4 : W4.heap[B]? = some (.cells (cells (putAt 0 0 (8 * 8) X)) 28 (0, 0)) := hW4 ▸ blk_alloc hO3 _
   have hC4 : W4.heap[wr.heap.size]? = some (.cells (cells 0) 28 (0, 0)) := hW4 ▸ heap_alloc_new _ _
   have hZ4 : Below w.heap.size w W4 := hW4 ▸ hZ3.alloc hZ3.size _
   have nA3 := hZ3.size
   have nR3 := Nat.ne_of_lt (block_lt hR3)
   rw [← hW4]
   clear hW4 hR3 hZ3 hV3 hI3 hO3 c0 c3 hs hR2 hV2 hI2 hZ2
   generalize wr.heap.size = C at *
   have hs0 : St W4 C 0 W4 := St.start hC4
   replace hO4 : W4.heap[B]? = some (.cells (cells (lowV X)) 28 (0, 0)) := hO4
   refine wp_loop_rounds 2 ?_
   iterate 2 (rw [rounds_succ]; go_wp2_with fail)
   go_loopw [20, 21] (fun iv xv wr => ∃ j : Nat, j ≤ 8 ∧ iv = .int .i64 (j : Int) ∧ St W4 C (buildOn 0 16 (fun i => getN (lowV X) 8 i) j) wr) (fun iv _ _ => 8 - (intOf iv).toNat)
   case atStart => exact ⟨0, Nat.zero_le _, rfl, hs0⟩
   case round =>
    as_aux_lemma =>
     clear hs0
     obtain ⟨j, hj, rfl, ht⟩ := hrel
     by_cases hjt : j < 8
     ·have hOx := ht.kb.get hO4 (by omega)
      go_wp2_with (with_reducible refine load_vec rfl _ rfl _ rfl _ hOx ?_)
      refine (rget8z (lowV X) _ j _ rfl (by omega)).mono ?_
      rintro e u5 ⟨rfl, hb5⟩
      replace ht := ht.below hb5
      have hOx := ht.kb.get hO4 (by omega)
      clear hb5
      as_aux_lemma =>
       go_wp2_with (with_reducible refine load_vec rfl _ rfl _ rfl _ ht.this ?_)
       refine (rset16z (buildOn 0 16 (fun i => getN (lowV X) 8 i) j) _ _ j (getN (lowV X) 8 j) _ rfl rfl (by omega) (Nat.lt_of_lt_of_le (getN_lt _ _ _) (by decide))).mono ?_
       rintro e u7 ⟨rfl, hb7⟩
       replace ht := ht.below hb7
       clear hb7
       as_aux_lemma =>
        go_wp2_with ((with_reducible refine store_vec rfl _ _ rfl C _ rfl rfl _ ht.this ?_); intro wz hz)
        go_roundw
        case rel => first | exact ⟨j + 1, by omega, by go_num, ht.sets hz⟩ | ((repeat apply Exists.intro); exact ⟨⟨j + 1, by omega, by go_num, ht.sets hz⟩, rfl⟩)
        case measure => (simp [intOf] <;> omega)
     ·obtain rfl : j = 8 := by omega
      have hR5 := ht.kb.get hR4 (by omega)
      go_wp2_with (first | (with_reducible refine load_vec rfl _ rfl _ rfl _ ht.this ?_) | ((with_reducible refine store_vec rfl _ _ rfl (w.heap.size + 1 + 1) _ rfl rfl _ hR5 ?_); intro wq hq))
      exact bodyPost_ret (results_vec_tmp rfl _ _ (w.heap.size + 1 + 1) _ _ rfl rfl hq.this) rfl ⟨by rw [spread_is_8_0, HX.out]; rfl, (ht.kb.to_below hZ4 (by omega)).trans (hq.below.mono (by omega))⟩
set_option maxRecDepth 100000 in
theorem rfload_03 (o : MObj) (old : Vec) (a b : Int) (lo : Int) (h0 : 0 ≤ lo) (hi at_ : Int) (L : Value) (A : Nat) (w : World) (h : MemAt w o) (ha : 0 ≤ at_ ∧ at_ < 4294967296) (hb : 0 ≤ b ∧ b < 4294967296) (hA : (A : Int) = at_ + b)  (hin : A + 8 ≤ o.n) :
 Calls Tryz.prog 19 #[.pointer (some ⟨o.p, 0, none⟩), inV 64771 a b lo hi L, .int .u32 at_, .agg (cells old)] w fun e w' => e = .returned (.tuple #[.agg (cells (spreadV (loadN o.β A 8) 16 true)), .int .i64 0]) ∧ Below w.heap.size w w' := by
 have hv : ¬ VBad 64771 b lo false := by
  rintro (c | c | c | c | ⟨d, c⟩)
  ·exact c (by omega)
  ·exact c (by decide)
  ·omega
  ·omega
  ·exact absurd d (by unfold vln; omega)
 have HM := Lib.hid (fun W => rerr_ok ⟨o.p, 0, none⟩ 64771 a b lo hi L false W (by decide) h0 hv)
 have HS : ∀ W, Calls Tryz.prog 5 #[.int .i64 64771] W fun e w' => e = .returned (.int .i64 8) ∧ w' = W := fun W => rsz_any 64771 W (by decide)
 replace HS := Lib.hid HS
 clear hv
 have hz := h.size
 go_enter Tryz.func19, Tryz.ntmps19
 go_wp2_with fail
 rw [← cells_zero]
 obtain ⟨W, hW⟩ : ∃ W, W = (((w.alloc (.cells #[.int .i64 64771, .int .i64 a, .int .i64 b, .int .u64 lo, .int .u64 hi, L] 25)).alloc (.cells (cells old) 28)).alloc (.cells (cells 0) 28)) := ⟨_, rfl⟩
 have hI : W.heap[w.heap.size]? = some (.cells #[.int .i64 64771, .int .i64 a, .int .i64 b, .int .u64 lo, .int .u64 hi, L] 25 (0, 0)) := hW ▸ heap_alloc3_0 _ _ _ _
 have hV : W.heap[w.heap.size + 1]? = some (.cells (cells old) 28 (0, 0)) := hW ▸ heap_alloc3_1 _ _ _ _
 have hR : W.heap[w.heap.size + 1 + 1]? = some (.cells (cells 0) 28 (0, 0)) := hW ▸ heap_alloc3_2 _ _ _ _
 have hZ : Below w.heap.size w W := hW ▸ below_alloc3 _ _ _ _
 rw [← hW]
 clear hW
 refine (HM.out _).mono ?_
 rintro e u1 ⟨rfl, hb1⟩
 have hI1 := (hb1.block _ (block_lt hI)).trans hI
 have hV1 := (hb1.block _ (block_lt hV)).trans hV
 have hR1 := (hb1.block _ (block_lt hR)).trans hR
 have c0 : u1.cell? ⟨w.heap.size, 0, none⟩ = some (.int .i64 64771) := by rw [cell_of_row u1 _ 0 _ _ _ hI1]; rfl
 have c2 : u1.cell? ⟨w.heap.size, 2, none⟩ = some (.int .i64 b) := by rw [cell_of_row u1 _ 2 _ _ _ hI1]; rfl
 have hZ1 := hZ.trans (hb1.mono hZ.size)
 have hm := h.below hZ1
 have m0 := hm.c0
 clear hI hV hR hb1 hZ HM hm
 go_wp2_with (go_at_call 5; ((with_reducible refine (HS.out _).mono ?_); rintro e u ⟨rfl, rfl⟩))
 rw [← cells_zero]
 obtain ⟨W2, hW2⟩ : ∃ W2, W2 = u.alloc (.cells (cells 0) 28) := ⟨_, rfl⟩
 have hI2 := hW2 ▸ blk_alloc hI1 (.cells (cells 0) 28)
 have hR2 : W2.heap[w.heap.size + 1 + 1]? = some (.cells (cells 0) 28 (0, 0)) := hW2 ▸ blk_alloc hR1 _
 have hV2 : W2.heap[w.heap.size + 1]? = some (.cells (cells old) 28 (0, 0)) := hW2 ▸ blk_alloc hV1 _
 have hO2 : W2.heap[u.heap.size]? = some (.cells (cells 0) 28 (0, 0)) := hW2 ▸ heap_alloc_new _ _
 have hZ2 : Below w.heap.size w W2 := hW2 ▸ hZ1.alloc hZ1.size _
 rw [← hW2]
 have nR := Nat.ne_of_lt (block_lt hR1)
 have nV := Nat.ne_of_lt (block_lt hV1)
 have nI := Nat.ne_of_lt (block_lt hI1)
 have nA := hZ1.size
 generalize u.heap.size = B at *
 clear hW2 hR1 hZ1 hV1 hI1 c0 c2 m0
 obtain ⟨X, hX⟩ : ∃ X, X = loadN o.β A 8 := ⟨_, rfl⟩
 have hXb : ∀ k, k < 8 → X / 2 ^ (8 * k) % 256 = o.β (A + k) := fun k hk => hX ▸ loadN_byte o.β A 8 k hk (fun i hi => h.row.lt _ (by omega))
 have HXb := Lib.hid hXb
 have HX := Lib.hid hX
 clear hX
 have hA2 : at_ + b = (A : Int) := hA.symm
 rw [hA2]
 clear hXb hA2 hA
 have hs0 : St W2 B 0 W2 := St.start hO2
 go_loopw [14] (fun iv wr => ∃ k : Nat, k ≤ 8 ∧ iv = .int .i64 (k : Int) ∧ St W2 B (putAt 0 0 (8 * k) X) wr) (fun iv _ => 8 - (intOf iv).toNat)
 case atStart => exact ⟨0, Nat.zero_le _, rfl, by rw [raw_zero]; exact hs0⟩
 case round =>
  clear hs0
  obtain ⟨k, hk, rfl, hs⟩ := hrel
  by_cases hlt : k < 8
  ·have hmk := h.below (hs.kb.to_below hZ2 (by omega))
   obtain ⟨q, hq, hr⟩ := hmk.row.pos (by omega)
   have m0 := hmk.c0
   rw [hq, show headOf (some q) = some ⟨q, 0, none⟩ from rfl] at m0
   have hcap := hr.le
   have hcell := hr.cell (i := A + k) (by omega)
   have hbt := hr.lt (A + k) (by omega)
   have hz : ((o.β (A + k) : Nat) : Int) = ((X / 2 ^ (8 * k) % 256 : Nat) : Int) := by rw [HXb.out k hlt]
   have Hz := Lib.hid hz
   clear hz hmk hq hr
   go_wp2_with ((with_reducible refine store_byte rfl _ _ rfl B k _ (X / 2 ^ (8 * k)) rfl rfl _ hs.this (by omega) Hz.out ?_); intro wq hq)
   go_roundw
   case rel => first | exact ⟨k + 1, by omega, by go_num, by rw [← raw_step X k (by omega)]; exact hs.sets hq⟩ | ((repeat apply Exists.intro); exact ⟨⟨k + 1, by omega, by go_num, by rw [← raw_step X k (by omega)]; exact hs.sets hq⟩, rfl⟩)
   case measure => (simp [intOf] <;> omega)
  ·obtain rfl : k = 8 := by omega
   have hI3 := hs.kb.get hI2 (by omega)
   have hR3 := hs.kb.get hR2 (by omega)
   have hV3 := hs.kb.get hV2 (by omega)
   have hZ3 := hs.kb.to_below hZ2 (by omega)
   have hO3 := hs.this
   have c0 : wr.cell? ⟨w.heap.size, 0, none⟩ = some (.int .i64 64771) := by rw [cell_of_row wr _ 0 _ _ _ hI3]; rfl
   have c3 : wr.cell? ⟨w.heap.size, 3, none⟩ = some (.int .u64 lo) := by rw [cell_of_row wr _ 3 _ _ _ hI3]; rfl
   have nB := block_lt hO3
   go_wp2_with fail
   rw [← cells_zero]
   obtain ⟨W4, hW4⟩ : ∃ W4, W4 = wr.alloc (.cells (cells 0) 28) := ⟨_, rfl⟩
   have hR4 : W4.heap[w.heap.size + 1 + 1]? = some (.cells (cells 0) 28 (0, 0)) := hW4 ▸ blk_alloc hR3 _
   have hO4 : W4.heap[B]? = some (.cells (cells (putAt 0 0 (8 * 8) X)) 28 (0, 0)) := hW4 ▸ blk_alloc hO3 _
   have hC4 : W4.heap[wr.heap.size]? = some (.cells (cells 0) 28 (0, 0)) := hW4 ▸ heap_alloc_new _ _
   have hZ4 : Below w.heap.size w W4 := hW4 ▸ hZ3.alloc hZ3.size _
   have nA3 := hZ3.size
   have nR3 := Nat.ne_of_lt (block_lt hR3)
   rw [← hW4]
   clear hW4 hR3 hZ3 hV3 hI3 hO3 c0 c3 hs hR2 hV2 hI2 hZ2
   generalize wr.heap.size = C at *
   have hs0 : St W4 C 0 W4 := St.start hC4
   replace hO4 : W4.heap[B]? = some (.cells (cells (lowV X)) 28 (0, 0)) := hO4
   refine wp_loop_rounds 2 ?_
   iterate 2 (rw [rounds_succ]; go_wp2_with fail)
   refine wp_loop_rounds 2 ?_
   iterate 2 (rw [rounds_succ]; go_wp2_with fail)
   go_loopw [20, 21] (fun iv xv wr => ∃ j : Nat, j ≤ 4 ∧ iv = .int .i64 (j : Int) ∧ St W4 C (buildOn 0 32 (fun i => Pl.u64 (sgn 16 (getN (lowV X) 16 i))) j) wr) (fun iv _ _ => 4 - (intOf iv).toNat)
   case atStart => exact ⟨0, Nat.zero_le _, rfl, hs0⟩
   case round =>
    as_aux_lemma =>
     clear hs0
     obtain ⟨j, hj, rfl, ht⟩ := hrel
     by_cases hjt : j < 4
     ·have hOx := ht.kb.get hO4 (by omega)
      go_wp2_with (with_reducible refine load_vec rfl _ rfl _ rfl _ hOx ?_)
      refine (rget16z (lowV X) _ j _ rfl (by omega)).mono ?_
      rintro e u5 ⟨rfl, hb5⟩
      replace ht := ht.below hb5
      have hOx := ht.kb.get hO4 (by omega)
      clear hb5
      as_aux_lemma =>
       go_wp2_with (with_reducible refine load_vec rfl _ rfl _ rfl _ hOx ?_)
       refine (rsigned16z (lowV X) _ j _ rfl (by omega)).mono ?_
       rintro e u6 ⟨rfl, hb6⟩
       replace ht := ht.below hb6
       clear hb6
       go_wp2_with (with_reducible refine load_vec rfl _ rfl _ rfl _ ht.this ?_)
       refine (rset32z (buildOn 0 32 (fun i => Pl.u64 (sgn 16 (getN (lowV X) 16 i))) j) _ _ j (Pl.u64 (sgn 16 (getN (lowV X) 16 j))) _ rfl (by rw [wrap_u64]) (by omega) (u64_lt _)).mono ?_
       rintro e u7 ⟨rfl, hb7⟩
       replace ht := ht.below hb7
       clear hb7
       as_aux_lemma =>
        go_wp2_with ((with_reducible refine store_vec rfl _ _ rfl C _ rfl rfl _ ht.this ?_); intro wz hz)
        go_roundw
        case rel => first | exact ⟨j + 1, by omega, by go_num, ht.sets hz⟩ | ((repeat apply Exists.intro); exact ⟨⟨j + 1, by omega, by go_num, ht.sets hz⟩, rfl⟩)
        case measure => (simp [intOf] <;> omega)
     ·obtain rfl : j = 4 := by omega
      have hR5 := ht.kb.get hR4 (by omega)
      go_wp2_with (first | (with_reducible refine load_vec rfl _ rfl _ rfl _ ht.this ?_) | ((with_reducible refine store_vec rfl _ _ rfl (w.heap.size + 1 + 1) _ rfl rfl _ hR5 ?_); intro wq hq))
      exact bodyPost_ret (results_vec_tmp rfl _ _ (w.heap.size + 1 + 1) _ _ rfl rfl hq.this) rfl ⟨by rw [spread_is_16_1, HX.out]; rfl, (ht.kb.to_below hZ4 (by omega)).trans (hq.below.mono (by omega))⟩
end Go.Proofs.YtmfmokblmipagaaGreat
