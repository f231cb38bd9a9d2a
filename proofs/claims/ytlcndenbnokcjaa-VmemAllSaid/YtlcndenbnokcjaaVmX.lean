/-
  vmem.Load by opcode: the extending and the splatting loads.
-/
import Derived.Test.YtlcndenbnokcjaaVmL
import Derived.Test.YtlcndenbnokcjaaVmS
set_option linter.unusedSimpArgs false
set_option linter.unusedVariables false
namespace Go.Proofs.Ytlcndenbnokcjaa
open Go.RowKit Pl

set_option maxRecDepth 100000 in
theorem vload_01 (o : MObj) (old : Vec) (a b : Int) (lo : Int) (hi at_ : Int) (L : Value) (A : Nat) (w : World) (h : MemAt w o) (ha : 0 ≤ at_ ∧ at_ < 4294967296) (hb : 0 ≤ b ∧ b < 4294967296) (hA : (A : Int) = at_ + b)  (hin : A + 8 ≤ o.n) :
    Calls Try.prog 29 #[.pointer (some ⟨o.p, 0, none⟩), inV 64769 a b lo hi L, .int .u32 at_, .agg (cells old)] w fun e w' => e = .returned (.tuple #[.agg (cells (spreadV (loadN o.β A 8) 8 true)), .int .i64 0]) ∧ Below w.heap.size w w' := by
  have HM := Lib.hid (fun W => vmay_01 ⟨o.p, 0, none⟩ a b lo hi at_ L W ha hb)
  have HS := Lib.hid (fun W => vsize_01 W)
  go_enter Try.func29, Try.ntmps29
  go_wp2_with fail
  rw [← cells_zero]
  obtain ⟨W, hW⟩ : ∃ W, W = (((w.alloc (.cells #[.int .i64 64769, .int .i64 a, .int .i64 b, .int .u64 lo, .int .u64 hi, L] 65)).alloc (.cells (cells old) 61)).alloc (.cells (cells 0) 61)) := ⟨_, rfl⟩
  have hI : W.heap[w.heap.size]? = some (.cells #[.int .i64 64769, .int .i64 a, .int .i64 b, .int .u64 lo, .int .u64 hi, L] 65 (0, 0)) := hW ▸ heap_alloc3_0 _ _ _ _
  have hV : W.heap[w.heap.size + 1]? = some (.cells (cells old) 61 (0, 0)) := hW ▸ heap_alloc3_1 _ _ _ _
  have hR : W.heap[w.heap.size + 1 + 1]? = some (.cells (cells 0) 61 (0, 0)) := hW ▸ heap_alloc3_2 _ _ _ _
  have hZ : Below w.heap.size w W := hW ▸ below_alloc3 _ _ _ _
  rw [← hW]
  clear hW
  refine (HM.out _).mono ?_
  rintro e u1 ⟨rfl, hb1⟩
  have hI1 := (hb1.block _ (block_lt hI)).trans hI
  have hV1 := (hb1.block _ (block_lt hV)).trans hV
  have hR1 := (hb1.block _ (block_lt hR)).trans hR
  have c0 : u1.cell? ⟨w.heap.size, 0, none⟩ = some (.int .i64 64769) := by rw [cell_of_row u1 _ 0 _ _ _ hI1]; rfl
  have c3 : u1.cell? ⟨w.heap.size, 3, none⟩ = some (.int .u64 lo) := by rw [cell_of_row u1 _ 3 _ _ _ hI1]; rfl
  have hm := h.below (hZ.trans (hb1.mono hZ.size))
  have hZ1 := hZ.trans (hb1.mono hZ.size)
  clear hI hV hR hb1 hZ h hI1
  go_wp2_with (go_at_call 34; ((with_reducible refine (HS.out _).mono ?_); rintro e u ⟨rfl, rfl⟩))
  refine (load_z o _ hm (at_ + b) 8 0 (loadN o.β A 8) (by omega) (by decide) (by unfold mayE; rw [if_pos (by decide), if_pos (by omega)]) (fun _ => by congr 1; omega) (fun h => absurd rfl h)).mono ?_
  rintro e u2 ⟨rfl, rfl⟩
  have hlt := loadN_lt o.β A 8 (fun i hi => hm.row.lt _ (by omega))
  go_wp2_with fail
  refine (spread_8_1 (loadN o.β A 8) _ hlt).mono ?_
  rintro e u4 ⟨rfl, hb4⟩
  replace hR1 := (hb4.block _ (block_lt hR1)).trans hR1
  replace hZ1 := hZ1.trans (hb4.mono hZ1.size)
  go_wp2_with ((with_reducible refine store_vec rfl _ _ rfl (w.heap.size + 1 + 1) _ rfl rfl _ hR1 ?_); intro wq hq)
  exact bodyPost_ret (results_vec_tmp rfl _ _ (w.heap.size + 1 + 1) _ _ rfl rfl hq.this) rfl ⟨rfl, hZ1.trans (hq.below.mono (by omega))⟩

set_option maxRecDepth 100000 in
theorem vload_01_far (o : MObj) (old : Vec) (a b : Int) (lo : Int) (hi at_ : Int) (L : Value) (A : Nat) (w : World) (h : MemAt w o) (ha : 0 ≤ at_ ∧ at_ < 4294967296) (hb : 0 ≤ b ∧ b < 4294967296) (hA : (A : Int) = at_ + b)  (hin : ¬ A + 8 ≤ o.n) :
    Calls Try.prog 29 #[.pointer (some ⟨o.p, 0, none⟩), inV 64769 a b lo hi L, .int .u32 at_, .agg (cells old)] w fun e w' => e = .returned (.tuple #[.agg (cells 0), .int .i64 23]) ∧ Below w.heap.size w w' := by
  have HM := Lib.hid (fun W => vmay_01 ⟨o.p, 0, none⟩ a b lo hi at_ L W ha hb)
  have HS := Lib.hid (fun W => vsize_01 W)
  go_enter Try.func29, Try.ntmps29
  go_wp2_with fail
  rw [← cells_zero]
  obtain ⟨W, hW⟩ : ∃ W, W = (((w.alloc (.cells #[.int .i64 64769, .int .i64 a, .int .i64 b, .int .u64 lo, .int .u64 hi, L] 65)).alloc (.cells (cells old) 61)).alloc (.cells (cells 0) 61)) := ⟨_, rfl⟩
  have hI : W.heap[w.heap.size]? = some (.cells #[.int .i64 64769, .int .i64 a, .int .i64 b, .int .u64 lo, .int .u64 hi, L] 65 (0, 0)) := hW ▸ heap_alloc3_0 _ _ _ _
  have hV : W.heap[w.heap.size + 1]? = some (.cells (cells old) 61 (0, 0)) := hW ▸ heap_alloc3_1 _ _ _ _
  have hR : W.heap[w.heap.size + 1 + 1]? = some (.cells (cells 0) 61 (0, 0)) := hW ▸ heap_alloc3_2 _ _ _ _
  have hZ : Below w.heap.size w W := hW ▸ below_alloc3 _ _ _ _
  rw [← hW]
  clear hW
  refine (HM.out _).mono ?_
  rintro e u1 ⟨rfl, hb1⟩
  have hI1 := (hb1.block _ (block_lt hI)).trans hI
  have hV1 := (hb1.block _ (block_lt hV)).trans hV
  have hR1 := (hb1.block _ (block_lt hR)).trans hR
  have c0 : u1.cell? ⟨w.heap.size, 0, none⟩ = some (.int .i64 64769) := by rw [cell_of_row u1 _ 0 _ _ _ hI1]; rfl
  have c3 : u1.cell? ⟨w.heap.size, 3, none⟩ = some (.int .u64 lo) := by rw [cell_of_row u1 _ 3 _ _ _ hI1]; rfl
  have hm := h.below (hZ.trans (hb1.mono hZ.size))
  have hZ1 := hZ.trans (hb1.mono hZ.size)
  clear hI hV hR hb1 hZ h hI1
  go_wp2_with (go_at_call 34; ((with_reducible refine (HS.out _).mono ?_); rintro e u ⟨rfl, rfl⟩))
  refine (load_z o _ hm (at_ + b) 8 23 0 (by omega) (by decide) (by unfold mayE; rw [if_pos (by decide), if_neg (by omega)]) (fun h => absurd h (by decide)) (fun _ => rfl)).mono ?_
  rintro e u2 ⟨rfl, rfl⟩
  go_wp2_with ((with_reducible refine store_zero rfl _ _ rfl (w.heap.size + 1 + 1) rfl rfl _ hR1 ?_); intro wq hq)
  exact bodyPost_ret (results_vec_tmp rfl _ _ (w.heap.size + 1 + 1) _ _ rfl rfl hq.this) rfl ⟨rfl, hZ1.trans (hq.below.mono (by omega))⟩

set_option maxRecDepth 100000 in
theorem vload_02 (o : MObj) (old : Vec) (a b : Int) (lo : Int) (hi at_ : Int) (L : Value) (A : Nat) (w : World) (h : MemAt w o) (ha : 0 ≤ at_ ∧ at_ < 4294967296) (hb : 0 ≤ b ∧ b < 4294967296) (hA : (A : Int) = at_ + b)  (hin : A + 8 ≤ o.n) :
    Calls Try.prog 29 #[.pointer (some ⟨o.p, 0, none⟩), inV 64770 a b lo hi L, .int .u32 at_, .agg (cells old)] w fun e w' => e = .returned (.tuple #[.agg (cells (spreadV (loadN o.β A 8) 8 false)), .int .i64 0]) ∧ Below w.heap.size w w' := by
  have HM := Lib.hid (fun W => vmay_02 ⟨o.p, 0, none⟩ a b lo hi at_ L W ha hb)
  have HS := Lib.hid (fun W => vsize_02 W)
  go_enter Try.func29, Try.ntmps29
  go_wp2_with fail
  rw [← cells_zero]
  obtain ⟨W, hW⟩ : ∃ W, W = (((w.alloc (.cells #[.int .i64 64770, .int .i64 a, .int .i64 b, .int .u64 lo, .int .u64 hi, L] 65)).alloc (.cells (cells old) 61)).alloc (.cells (cells 0) 61)) := ⟨_, rfl⟩
  have hI : W.heap[w.heap.size]? = some (.cells #[.int .i64 64770, .int .i64 a, .int .i64 b, .int .u64 lo, .int .u64 hi, L] 65 (0, 0)) := hW ▸ heap_alloc3_0 _ _ _ _
  have hV : W.heap[w.heap.size + 1]? = some (.cells (cells old) 61 (0, 0)) := hW ▸ heap_alloc3_1 _ _ _ _
  have hR : W.heap[w.heap.size + 1 + 1]? = some (.cells (cells 0) 61 (0, 0)) := hW ▸ heap_alloc3_2 _ _ _ _
  have hZ : Below w.heap.size w W := hW ▸ below_alloc3 _ _ _ _
  rw [← hW]
  clear hW
  refine (HM.out _).mono ?_
  rintro e u1 ⟨rfl, hb1⟩
  have hI1 := (hb1.block _ (block_lt hI)).trans hI
  have hV1 := (hb1.block _ (block_lt hV)).trans hV
  have hR1 := (hb1.block _ (block_lt hR)).trans hR
  have c0 : u1.cell? ⟨w.heap.size, 0, none⟩ = some (.int .i64 64770) := by rw [cell_of_row u1 _ 0 _ _ _ hI1]; rfl
  have c3 : u1.cell? ⟨w.heap.size, 3, none⟩ = some (.int .u64 lo) := by rw [cell_of_row u1 _ 3 _ _ _ hI1]; rfl
  have hm := h.below (hZ.trans (hb1.mono hZ.size))
  have hZ1 := hZ.trans (hb1.mono hZ.size)
  clear hI hV hR hb1 hZ h hI1
  go_wp2_with (go_at_call 34; ((with_reducible refine (HS.out _).mono ?_); rintro e u ⟨rfl, rfl⟩))
  refine (load_z o _ hm (at_ + b) 8 0 (loadN o.β A 8) (by omega) (by decide) (by unfold mayE; rw [if_pos (by decide), if_pos (by omega)]) (fun _ => by congr 1; omega) (fun h => absurd rfl h)).mono ?_
  rintro e u2 ⟨rfl, rfl⟩
  have hlt := loadN_lt o.β A 8 (fun i hi => hm.row.lt _ (by omega))
  go_wp2_with fail
  refine (spread_8_0 (loadN o.β A 8) _ hlt).mono ?_
  rintro e u4 ⟨rfl, hb4⟩
  replace hR1 := (hb4.block _ (block_lt hR1)).trans hR1
  replace hZ1 := hZ1.trans (hb4.mono hZ1.size)
  go_wp2_with ((with_reducible refine store_vec rfl _ _ rfl (w.heap.size + 1 + 1) _ rfl rfl _ hR1 ?_); intro wq hq)
  exact bodyPost_ret (results_vec_tmp rfl _ _ (w.heap.size + 1 + 1) _ _ rfl rfl hq.this) rfl ⟨rfl, hZ1.trans (hq.below.mono (by omega))⟩

set_option maxRecDepth 100000 in
theorem vload_02_far (o : MObj) (old : Vec) (a b : Int) (lo : Int) (hi at_ : Int) (L : Value) (A : Nat) (w : World) (h : MemAt w o) (ha : 0 ≤ at_ ∧ at_ < 4294967296) (hb : 0 ≤ b ∧ b < 4294967296) (hA : (A : Int) = at_ + b)  (hin : ¬ A + 8 ≤ o.n) :
    Calls Try.prog 29 #[.pointer (some ⟨o.p, 0, none⟩), inV 64770 a b lo hi L, .int .u32 at_, .agg (cells old)] w fun e w' => e = .returned (.tuple #[.agg (cells 0), .int .i64 23]) ∧ Below w.heap.size w w' := by
  have HM := Lib.hid (fun W => vmay_02 ⟨o.p, 0, none⟩ a b lo hi at_ L W ha hb)
  have HS := Lib.hid (fun W => vsize_02 W)
  go_enter Try.func29, Try.ntmps29
  go_wp2_with fail
  rw [← cells_zero]
  obtain ⟨W, hW⟩ : ∃ W, W = (((w.alloc (.cells #[.int .i64 64770, .int .i64 a, .int .i64 b, .int .u64 lo, .int .u64 hi, L] 65)).alloc (.cells (cells old) 61)).alloc (.cells (cells 0) 61)) := ⟨_, rfl⟩
  have hI : W.heap[w.heap.size]? = some (.cells #[.int .i64 64770, .int .i64 a, .int .i64 b, .int .u64 lo, .int .u64 hi, L] 65 (0, 0)) := hW ▸ heap_alloc3_0 _ _ _ _
  have hV : W.heap[w.heap.size + 1]? = some (.cells (cells old) 61 (0, 0)) := hW ▸ heap_alloc3_1 _ _ _ _
  have hR : W.heap[w.heap.size + 1 + 1]? = some (.cells (cells 0) 61 (0, 0)) := hW ▸ heap_alloc3_2 _ _ _ _
  have hZ : Below w.heap.size w W := hW ▸ below_alloc3 _ _ _ _
  rw [← hW]
  clear hW
  refine (HM.out _).mono ?_
  rintro e u1 ⟨rfl, hb1⟩
  have hI1 := (hb1.block _ (block_lt hI)).trans hI
  have hV1 := (hb1.block _ (block_lt hV)).trans hV
  have hR1 := (hb1.block _ (block_lt hR)).trans hR
  have c0 : u1.cell? ⟨w.heap.size, 0, none⟩ = some (.int .i64 64770) := by rw [cell_of_row u1 _ 0 _ _ _ hI1]; rfl
  have c3 : u1.cell? ⟨w.heap.size, 3, none⟩ = some (.int .u64 lo) := by rw [cell_of_row u1 _ 3 _ _ _ hI1]; rfl
  have hm := h.below (hZ.trans (hb1.mono hZ.size))
  have hZ1 := hZ.trans (hb1.mono hZ.size)
  clear hI hV hR hb1 hZ h hI1
  go_wp2_with (go_at_call 34; ((with_reducible refine (HS.out _).mono ?_); rintro e u ⟨rfl, rfl⟩))
  refine (load_z o _ hm (at_ + b) 8 23 0 (by omega) (by decide) (by unfold mayE; rw [if_pos (by decide), if_neg (by omega)]) (fun h => absurd h (by decide)) (fun _ => rfl)).mono ?_
  rintro e u2 ⟨rfl, rfl⟩
  go_wp2_with ((with_reducible refine store_zero rfl _ _ rfl (w.heap.size + 1 + 1) rfl rfl _ hR1 ?_); intro wq hq)
  exact bodyPost_ret (results_vec_tmp rfl _ _ (w.heap.size + 1 + 1) _ _ rfl rfl hq.this) rfl ⟨rfl, hZ1.trans (hq.below.mono (by omega))⟩

set_option maxRecDepth 100000 in
theorem vload_03 (o : MObj) (old : Vec) (a b : Int) (lo : Int) (hi at_ : Int) (L : Value) (A : Nat) (w : World) (h : MemAt w o) (ha : 0 ≤ at_ ∧ at_ < 4294967296) (hb : 0 ≤ b ∧ b < 4294967296) (hA : (A : Int) = at_ + b)  (hin : A + 8 ≤ o.n) :
    Calls Try.prog 29 #[.pointer (some ⟨o.p, 0, none⟩), inV 64771 a b lo hi L, .int .u32 at_, .agg (cells old)] w fun e w' => e = .returned (.tuple #[.agg (cells (spreadV (loadN o.β A 8) 16 true)), .int .i64 0]) ∧ Below w.heap.size w w' := by
  have HM := Lib.hid (fun W => vmay_03 ⟨o.p, 0, none⟩ a b lo hi at_ L W ha hb)
  have HS := Lib.hid (fun W => vsize_03 W)
  go_enter Try.func29, Try.ntmps29
  go_wp2_with fail
  rw [← cells_zero]
  obtain ⟨W, hW⟩ : ∃ W, W = (((w.alloc (.cells #[.int .i64 64771, .int .i64 a, .int .i64 b, .int .u64 lo, .int .u64 hi, L] 65)).alloc (.cells (cells old) 61)).alloc (.cells (cells 0) 61)) := ⟨_, rfl⟩
  have hI : W.heap[w.heap.size]? = some (.cells #[.int .i64 64771, .int .i64 a, .int .i64 b, .int .u64 lo, .int .u64 hi, L] 65 (0, 0)) := hW ▸ heap_alloc3_0 _ _ _ _
  have hV : W.heap[w.heap.size + 1]? = some (.cells (cells old) 61 (0, 0)) := hW ▸ heap_alloc3_1 _ _ _ _
  have hR : W.heap[w.heap.size + 1 + 1]? = some (.cells (cells 0) 61 (0, 0)) := hW ▸ heap_alloc3_2 _ _ _ _
  have hZ : Below w.heap.size w W := hW ▸ below_alloc3 _ _ _ _
  rw [← hW]
  clear hW
  refine (HM.out _).mono ?_
  rintro e u1 ⟨rfl, hb1⟩
  have hI1 := (hb1.block _ (block_lt hI)).trans hI
  have hV1 := (hb1.block _ (block_lt hV)).trans hV
  have hR1 := (hb1.block _ (block_lt hR)).trans hR
  have c0 : u1.cell? ⟨w.heap.size, 0, none⟩ = some (.int .i64 64771) := by rw [cell_of_row u1 _ 0 _ _ _ hI1]; rfl
  have c3 : u1.cell? ⟨w.heap.size, 3, none⟩ = some (.int .u64 lo) := by rw [cell_of_row u1 _ 3 _ _ _ hI1]; rfl
  have hm := h.below (hZ.trans (hb1.mono hZ.size))
  have hZ1 := hZ.trans (hb1.mono hZ.size)
  clear hI hV hR hb1 hZ h hI1
  go_wp2_with (go_at_call 34; ((with_reducible refine (HS.out _).mono ?_); rintro e u ⟨rfl, rfl⟩))
  refine (load_z o _ hm (at_ + b) 8 0 (loadN o.β A 8) (by omega) (by decide) (by unfold mayE; rw [if_pos (by decide), if_pos (by omega)]) (fun _ => by congr 1; omega) (fun h => absurd rfl h)).mono ?_
  rintro e u2 ⟨rfl, rfl⟩
  have hlt := loadN_lt o.β A 8 (fun i hi => hm.row.lt _ (by omega))
  go_wp2_with fail
  refine (spread_16_1 (loadN o.β A 8) _ hlt).mono ?_
  rintro e u4 ⟨rfl, hb4⟩
  replace hR1 := (hb4.block _ (block_lt hR1)).trans hR1
  replace hZ1 := hZ1.trans (hb4.mono hZ1.size)
  go_wp2_with ((with_reducible refine store_vec rfl _ _ rfl (w.heap.size + 1 + 1) _ rfl rfl _ hR1 ?_); intro wq hq)
  exact bodyPost_ret (results_vec_tmp rfl _ _ (w.heap.size + 1 + 1) _ _ rfl rfl hq.this) rfl ⟨rfl, hZ1.trans (hq.below.mono (by omega))⟩

set_option maxRecDepth 100000 in
theorem vload_03_far (o : MObj) (old : Vec) (a b : Int) (lo : Int) (hi at_ : Int) (L : Value) (A : Nat) (w : World) (h : MemAt w o) (ha : 0 ≤ at_ ∧ at_ < 4294967296) (hb : 0 ≤ b ∧ b < 4294967296) (hA : (A : Int) = at_ + b)  (hin : ¬ A + 8 ≤ o.n) :
    Calls Try.prog 29 #[.pointer (some ⟨o.p, 0, none⟩), inV 64771 a b lo hi L, .int .u32 at_, .agg (cells old)] w fun e w' => e = .returned (.tuple #[.agg (cells 0), .int .i64 23]) ∧ Below w.heap.size w w' := by
  have HM := Lib.hid (fun W => vmay_03 ⟨o.p, 0, none⟩ a b lo hi at_ L W ha hb)
  have HS := Lib.hid (fun W => vsize_03 W)
  go_enter Try.func29, Try.ntmps29
  go_wp2_with fail
  rw [← cells_zero]
  obtain ⟨W, hW⟩ : ∃ W, W = (((w.alloc (.cells #[.int .i64 64771, .int .i64 a, .int .i64 b, .int .u64 lo, .int .u64 hi, L] 65)).alloc (.cells (cells old) 61)).alloc (.cells (cells 0) 61)) := ⟨_, rfl⟩
  have hI : W.heap[w.heap.size]? = some (.cells #[.int .i64 64771, .int .i64 a, .int .i64 b, .int .u64 lo, .int .u64 hi, L] 65 (0, 0)) := hW ▸ heap_alloc3_0 _ _ _ _
  have hV : W.heap[w.heap.size + 1]? = some (.cells (cells old) 61 (0, 0)) := hW ▸ heap_alloc3_1 _ _ _ _
  have hR : W.heap[w.heap.size + 1 + 1]? = some (.cells (cells 0) 61 (0, 0)) := hW ▸ heap_alloc3_2 _ _ _ _
  have hZ : Below w.heap.size w W := hW ▸ below_alloc3 _ _ _ _
  rw [← hW]
  clear hW
  refine (HM.out _).mono ?_
  rintro e u1 ⟨rfl, hb1⟩
  have hI1 := (hb1.block _ (block_lt hI)).trans hI
  have hV1 := (hb1.block _ (block_lt hV)).trans hV
  have hR1 := (hb1.block _ (block_lt hR)).trans hR
  have c0 : u1.cell? ⟨w.heap.size, 0, none⟩ = some (.int .i64 64771) := by rw [cell_of_row u1 _ 0 _ _ _ hI1]; rfl
  have c3 : u1.cell? ⟨w.heap.size, 3, none⟩ = some (.int .u64 lo) := by rw [cell_of_row u1 _ 3 _ _ _ hI1]; rfl
  have hm := h.below (hZ.trans (hb1.mono hZ.size))
  have hZ1 := hZ.trans (hb1.mono hZ.size)
  clear hI hV hR hb1 hZ h hI1
  go_wp2_with (go_at_call 34; ((with_reducible refine (HS.out _).mono ?_); rintro e u ⟨rfl, rfl⟩))
  refine (load_z o _ hm (at_ + b) 8 23 0 (by omega) (by decide) (by unfold mayE; rw [if_pos (by decide), if_neg (by omega)]) (fun h => absurd h (by decide)) (fun _ => rfl)).mono ?_
  rintro e u2 ⟨rfl, rfl⟩
  go_wp2_with ((with_reducible refine store_zero rfl _ _ rfl (w.heap.size + 1 + 1) rfl rfl _ hR1 ?_); intro wq hq)
  exact bodyPost_ret (results_vec_tmp rfl _ _ (w.heap.size + 1 + 1) _ _ rfl rfl hq.this) rfl ⟨rfl, hZ1.trans (hq.below.mono (by omega))⟩

set_option maxRecDepth 100000 in
theorem vload_04 (o : MObj) (old : Vec) (a b : Int) (lo : Int) (hi at_ : Int) (L : Value) (A : Nat) (w : World) (h : MemAt w o) (ha : 0 ≤ at_ ∧ at_ < 4294967296) (hb : 0 ≤ b ∧ b < 4294967296) (hA : (A : Int) = at_ + b)  (hin : A + 8 ≤ o.n) :
    Calls Try.prog 29 #[.pointer (some ⟨o.p, 0, none⟩), inV 64772 a b lo hi L, .int .u32 at_, .agg (cells old)] w fun e w' => e = .returned (.tuple #[.agg (cells (spreadV (loadN o.β A 8) 16 false)), .int .i64 0]) ∧ Below w.heap.size w w' := by
  have HM := Lib.hid (fun W => vmay_04 ⟨o.p, 0, none⟩ a b lo hi at_ L W ha hb)
  have HS := Lib.hid (fun W => vsize_04 W)
  go_enter Try.func29, Try.ntmps29
  go_wp2_with fail
  rw [← cells_zero]
  obtain ⟨W, hW⟩ : ∃ W, W = (((w.alloc (.cells #[.int .i64 64772, .int .i64 a, .int .i64 b, .int .u64 lo, .int .u64 hi, L] 65)).alloc (.cells (cells old) 61)).alloc (.cells (cells 0) 61)) := ⟨_, rfl⟩
  have hI : W.heap[w.heap.size]? = some (.cells #[.int .i64 64772, .int .i64 a, .int .i64 b, .int .u64 lo, .int .u64 hi, L] 65 (0, 0)) := hW ▸ heap_alloc3_0 _ _ _ _
  have hV : W.heap[w.heap.size + 1]? = some (.cells (cells old) 61 (0, 0)) := hW ▸ heap_alloc3_1 _ _ _ _
  have hR : W.heap[w.heap.size + 1 + 1]? = some (.cells (cells 0) 61 (0, 0)) := hW ▸ heap_alloc3_2 _ _ _ _
  have hZ : Below w.heap.size w W := hW ▸ below_alloc3 _ _ _ _
  rw [← hW]
  clear hW
  refine (HM.out _).mono ?_
  rintro e u1 ⟨rfl, hb1⟩
  have hI1 := (hb1.block _ (block_lt hI)).trans hI
  have hV1 := (hb1.block _ (block_lt hV)).trans hV
  have hR1 := (hb1.block _ (block_lt hR)).trans hR
  have c0 : u1.cell? ⟨w.heap.size, 0, none⟩ = some (.int .i64 64772) := by rw [cell_of_row u1 _ 0 _ _ _ hI1]; rfl
  have c3 : u1.cell? ⟨w.heap.size, 3, none⟩ = some (.int .u64 lo) := by rw [cell_of_row u1 _ 3 _ _ _ hI1]; rfl
  have hm := h.below (hZ.trans (hb1.mono hZ.size))
  have hZ1 := hZ.trans (hb1.mono hZ.size)
  clear hI hV hR hb1 hZ h hI1
  go_wp2_with (go_at_call 34; ((with_reducible refine (HS.out _).mono ?_); rintro e u ⟨rfl, rfl⟩))
  refine (load_z o _ hm (at_ + b) 8 0 (loadN o.β A 8) (by omega) (by decide) (by unfold mayE; rw [if_pos (by decide), if_pos (by omega)]) (fun _ => by congr 1; omega) (fun h => absurd rfl h)).mono ?_
  rintro e u2 ⟨rfl, rfl⟩
  have hlt := loadN_lt o.β A 8 (fun i hi => hm.row.lt _ (by omega))
  go_wp2_with fail
  refine (spread_16_0 (loadN o.β A 8) _ hlt).mono ?_
  rintro e u4 ⟨rfl, hb4⟩
  replace hR1 := (hb4.block _ (block_lt hR1)).trans hR1
  replace hZ1 := hZ1.trans (hb4.mono hZ1.size)
  go_wp2_with ((with_reducible refine store_vec rfl _ _ rfl (w.heap.size + 1 + 1) _ rfl rfl _ hR1 ?_); intro wq hq)
  exact bodyPost_ret (results_vec_tmp rfl _ _ (w.heap.size + 1 + 1) _ _ rfl rfl hq.this) rfl ⟨rfl, hZ1.trans (hq.below.mono (by omega))⟩

set_option maxRecDepth 100000 in
theorem vload_04_far (o : MObj) (old : Vec) (a b : Int) (lo : Int) (hi at_ : Int) (L : Value) (A : Nat) (w : World) (h : MemAt w o) (ha : 0 ≤ at_ ∧ at_ < 4294967296) (hb : 0 ≤ b ∧ b < 4294967296) (hA : (A : Int) = at_ + b)  (hin : ¬ A + 8 ≤ o.n) :
    Calls Try.prog 29 #[.pointer (some ⟨o.p, 0, none⟩), inV 64772 a b lo hi L, .int .u32 at_, .agg (cells old)] w fun e w' => e = .returned (.tuple #[.agg (cells 0), .int .i64 23]) ∧ Below w.heap.size w w' := by
  have HM := Lib.hid (fun W => vmay_04 ⟨o.p, 0, none⟩ a b lo hi at_ L W ha hb)
  have HS := Lib.hid (fun W => vsize_04 W)
  go_enter Try.func29, Try.ntmps29
  go_wp2_with fail
  rw [← cells_zero]
  obtain ⟨W, hW⟩ : ∃ W, W = (((w.alloc (.cells #[.int .i64 64772, .int .i64 a, .int .i64 b, .int .u64 lo, .int .u64 hi, L] 65)).alloc (.cells (cells old) 61)).alloc (.cells (cells 0) 61)) := ⟨_, rfl⟩
  have hI : W.heap[w.heap.size]? = some (.cells #[.int .i64 64772, .int .i64 a, .int .i64 b, .int .u64 lo, .int .u64 hi, L] 65 (0, 0)) := hW ▸ heap_alloc3_0 _ _ _ _
  have hV : W.heap[w.heap.size + 1]? = some (.cells (cells old) 61 (0, 0)) := hW ▸ heap_alloc3_1 _ _ _ _
  have hR : W.heap[w.heap.size + 1 + 1]? = some (.cells (cells 0) 61 (0, 0)) := hW ▸ heap_alloc3_2 _ _ _ _
  have hZ : Below w.heap.size w W := hW ▸ below_alloc3 _ _ _ _
  rw [← hW]
  clear hW
  refine (HM.out _).mono ?_
  rintro e u1 ⟨rfl, hb1⟩
  have hI1 := (hb1.block _ (block_lt hI)).trans hI
  have hV1 := (hb1.block _ (block_lt hV)).trans hV
  have hR1 := (hb1.block _ (block_lt hR)).trans hR
  have c0 : u1.cell? ⟨w.heap.size, 0, none⟩ = some (.int .i64 64772) := by rw [cell_of_row u1 _ 0 _ _ _ hI1]; rfl
  have c3 : u1.cell? ⟨w.heap.size, 3, none⟩ = some (.int .u64 lo) := by rw [cell_of_row u1 _ 3 _ _ _ hI1]; rfl
  have hm := h.below (hZ.trans (hb1.mono hZ.size))
  have hZ1 := hZ.trans (hb1.mono hZ.size)
  clear hI hV hR hb1 hZ h hI1
  go_wp2_with (go_at_call 34; ((with_reducible refine (HS.out _).mono ?_); rintro e u ⟨rfl, rfl⟩))
  refine (load_z o _ hm (at_ + b) 8 23 0 (by omega) (by decide) (by unfold mayE; rw [if_pos (by decide), if_neg (by omega)]) (fun h => absurd h (by decide)) (fun _ => rfl)).mono ?_
  rintro e u2 ⟨rfl, rfl⟩
  go_wp2_with ((with_reducible refine store_zero rfl _ _ rfl (w.heap.size + 1 + 1) rfl rfl _ hR1 ?_); intro wq hq)
  exact bodyPost_ret (results_vec_tmp rfl _ _ (w.heap.size + 1 + 1) _ _ rfl rfl hq.this) rfl ⟨rfl, hZ1.trans (hq.below.mono (by omega))⟩

set_option maxRecDepth 100000 in
theorem vload_05 (o : MObj) (old : Vec) (a b : Int) (lo : Int) (hi at_ : Int) (L : Value) (A : Nat) (w : World) (h : MemAt w o) (ha : 0 ≤ at_ ∧ at_ < 4294967296) (hb : 0 ≤ b ∧ b < 4294967296) (hA : (A : Int) = at_ + b)  (hin : A + 8 ≤ o.n) :
    Calls Try.prog 29 #[.pointer (some ⟨o.p, 0, none⟩), inV 64773 a b lo hi L, .int .u32 at_, .agg (cells old)] w fun e w' => e = .returned (.tuple #[.agg (cells (spreadV (loadN o.β A 8) 32 true)), .int .i64 0]) ∧ Below w.heap.size w w' := by
  have HM := Lib.hid (fun W => vmay_05 ⟨o.p, 0, none⟩ a b lo hi at_ L W ha hb)
  have HS := Lib.hid (fun W => vsize_05 W)
  go_enter Try.func29, Try.ntmps29
  go_wp2_with fail
  rw [← cells_zero]
  obtain ⟨W, hW⟩ : ∃ W, W = (((w.alloc (.cells #[.int .i64 64773, .int .i64 a, .int .i64 b, .int .u64 lo, .int .u64 hi, L] 65)).alloc (.cells (cells old) 61)).alloc (.cells (cells 0) 61)) := ⟨_, rfl⟩
  have hI : W.heap[w.heap.size]? = some (.cells #[.int .i64 64773, .int .i64 a, .int .i64 b, .int .u64 lo, .int .u64 hi, L] 65 (0, 0)) := hW ▸ heap_alloc3_0 _ _ _ _
  have hV : W.heap[w.heap.size + 1]? = some (.cells (cells old) 61 (0, 0)) := hW ▸ heap_alloc3_1 _ _ _ _
  have hR : W.heap[w.heap.size + 1 + 1]? = some (.cells (cells 0) 61 (0, 0)) := hW ▸ heap_alloc3_2 _ _ _ _
  have hZ : Below w.heap.size w W := hW ▸ below_alloc3 _ _ _ _
  rw [← hW]
  clear hW
  refine (HM.out _).mono ?_
  rintro e u1 ⟨rfl, hb1⟩
  have hI1 := (hb1.block _ (block_lt hI)).trans hI
  have hV1 := (hb1.block _ (block_lt hV)).trans hV
  have hR1 := (hb1.block _ (block_lt hR)).trans hR
  have c0 : u1.cell? ⟨w.heap.size, 0, none⟩ = some (.int .i64 64773) := by rw [cell_of_row u1 _ 0 _ _ _ hI1]; rfl
  have c3 : u1.cell? ⟨w.heap.size, 3, none⟩ = some (.int .u64 lo) := by rw [cell_of_row u1 _ 3 _ _ _ hI1]; rfl
  have hm := h.below (hZ.trans (hb1.mono hZ.size))
  have hZ1 := hZ.trans (hb1.mono hZ.size)
  clear hI hV hR hb1 hZ h hI1
  go_wp2_with (go_at_call 34; ((with_reducible refine (HS.out _).mono ?_); rintro e u ⟨rfl, rfl⟩))
  refine (load_z o _ hm (at_ + b) 8 0 (loadN o.β A 8) (by omega) (by decide) (by unfold mayE; rw [if_pos (by decide), if_pos (by omega)]) (fun _ => by congr 1; omega) (fun h => absurd rfl h)).mono ?_
  rintro e u2 ⟨rfl, rfl⟩
  have hlt := loadN_lt o.β A 8 (fun i hi => hm.row.lt _ (by omega))
  go_wp2_with fail
  refine (spread_32_1 (loadN o.β A 8) _ hlt).mono ?_
  rintro e u4 ⟨rfl, hb4⟩
  replace hR1 := (hb4.block _ (block_lt hR1)).trans hR1
  replace hZ1 := hZ1.trans (hb4.mono hZ1.size)
  go_wp2_with ((with_reducible refine store_vec rfl _ _ rfl (w.heap.size + 1 + 1) _ rfl rfl _ hR1 ?_); intro wq hq)
  exact bodyPost_ret (results_vec_tmp rfl _ _ (w.heap.size + 1 + 1) _ _ rfl rfl hq.this) rfl ⟨rfl, hZ1.trans (hq.below.mono (by omega))⟩

set_option maxRecDepth 100000 in
theorem vload_05_far (o : MObj) (old : Vec) (a b : Int) (lo : Int) (hi at_ : Int) (L : Value) (A : Nat) (w : World) (h : MemAt w o) (ha : 0 ≤ at_ ∧ at_ < 4294967296) (hb : 0 ≤ b ∧ b < 4294967296) (hA : (A : Int) = at_ + b)  (hin : ¬ A + 8 ≤ o.n) :
    Calls Try.prog 29 #[.pointer (some ⟨o.p, 0, none⟩), inV 64773 a b lo hi L, .int .u32 at_, .agg (cells old)] w fun e w' => e = .returned (.tuple #[.agg (cells 0), .int .i64 23]) ∧ Below w.heap.size w w' := by
  have HM := Lib.hid (fun W => vmay_05 ⟨o.p, 0, none⟩ a b lo hi at_ L W ha hb)
  have HS := Lib.hid (fun W => vsize_05 W)
  go_enter Try.func29, Try.ntmps29
  go_wp2_with fail
  rw [← cells_zero]
  obtain ⟨W, hW⟩ : ∃ W, W = (((w.alloc (.cells #[.int .i64 64773, .int .i64 a, .int .i64 b, .int .u64 lo, .int .u64 hi, L] 65)).alloc (.cells (cells old) 61)).alloc (.cells (cells 0) 61)) := ⟨_, rfl⟩
  have hI : W.heap[w.heap.size]? = some (.cells #[.int .i64 64773, .int .i64 a, .int .i64 b, .int .u64 lo, .int .u64 hi, L] 65 (0, 0)) := hW ▸ heap_alloc3_0 _ _ _ _
  have hV : W.heap[w.heap.size + 1]? = some (.cells (cells old) 61 (0, 0)) := hW ▸ heap_alloc3_1 _ _ _ _
  have hR : W.heap[w.heap.size + 1 + 1]? = some (.cells (cells 0) 61 (0, 0)) := hW ▸ heap_alloc3_2 _ _ _ _
  have hZ : Below w.heap.size w W := hW ▸ below_alloc3 _ _ _ _
  rw [← hW]
  clear hW
  refine (HM.out _).mono ?_
  rintro e u1 ⟨rfl, hb1⟩
  have hI1 := (hb1.block _ (block_lt hI)).trans hI
  have hV1 := (hb1.block _ (block_lt hV)).trans hV
  have hR1 := (hb1.block _ (block_lt hR)).trans hR
  have c0 : u1.cell? ⟨w.heap.size, 0, none⟩ = some (.int .i64 64773) := by rw [cell_of_row u1 _ 0 _ _ _ hI1]; rfl
  have c3 : u1.cell? ⟨w.heap.size, 3, none⟩ = some (.int .u64 lo) := by rw [cell_of_row u1 _ 3 _ _ _ hI1]; rfl
  have hm := h.below (hZ.trans (hb1.mono hZ.size))
  have hZ1 := hZ.trans (hb1.mono hZ.size)
  clear hI hV hR hb1 hZ h hI1
  go_wp2_with (go_at_call 34; ((with_reducible refine (HS.out _).mono ?_); rintro e u ⟨rfl, rfl⟩))
  refine (load_z o _ hm (at_ + b) 8 23 0 (by omega) (by decide) (by unfold mayE; rw [if_pos (by decide), if_neg (by omega)]) (fun h => absurd h (by decide)) (fun _ => rfl)).mono ?_
  rintro e u2 ⟨rfl, rfl⟩
  go_wp2_with ((with_reducible refine store_zero rfl _ _ rfl (w.heap.size + 1 + 1) rfl rfl _ hR1 ?_); intro wq hq)
  exact bodyPost_ret (results_vec_tmp rfl _ _ (w.heap.size + 1 + 1) _ _ rfl rfl hq.this) rfl ⟨rfl, hZ1.trans (hq.below.mono (by omega))⟩

set_option maxRecDepth 100000 in
theorem vload_06 (o : MObj) (old : Vec) (a b : Int) (lo : Int) (hi at_ : Int) (L : Value) (A : Nat) (w : World) (h : MemAt w o) (ha : 0 ≤ at_ ∧ at_ < 4294967296) (hb : 0 ≤ b ∧ b < 4294967296) (hA : (A : Int) = at_ + b)  (hin : A + 8 ≤ o.n) :
    Calls Try.prog 29 #[.pointer (some ⟨o.p, 0, none⟩), inV 64774 a b lo hi L, .int .u32 at_, .agg (cells old)] w fun e w' => e = .returned (.tuple #[.agg (cells (spreadV (loadN o.β A 8) 32 false)), .int .i64 0]) ∧ Below w.heap.size w w' := by
  have HM := Lib.hid (fun W => vmay_06 ⟨o.p, 0, none⟩ a b lo hi at_ L W ha hb)
  have HS := Lib.hid (fun W => vsize_06 W)
  go_enter Try.func29, Try.ntmps29
  go_wp2_with fail
  rw [← cells_zero]
  obtain ⟨W, hW⟩ : ∃ W, W = (((w.alloc (.cells #[.int .i64 64774, .int .i64 a, .int .i64 b, .int .u64 lo, .int .u64 hi, L] 65)).alloc (.cells (cells old) 61)).alloc (.cells (cells 0) 61)) := ⟨_, rfl⟩
  have hI : W.heap[w.heap.size]? = some (.cells #[.int .i64 64774, .int .i64 a, .int .i64 b, .int .u64 lo, .int .u64 hi, L] 65 (0, 0)) := hW ▸ heap_alloc3_0 _ _ _ _
  have hV : W.heap[w.heap.size + 1]? = some (.cells (cells old) 61 (0, 0)) := hW ▸ heap_alloc3_1 _ _ _ _
  have hR : W.heap[w.heap.size + 1 + 1]? = some (.cells (cells 0) 61 (0, 0)) := hW ▸ heap_alloc3_2 _ _ _ _
  have hZ : Below w.heap.size w W := hW ▸ below_alloc3 _ _ _ _
  rw [← hW]
  clear hW
  refine (HM.out _).mono ?_
  rintro e u1 ⟨rfl, hb1⟩
  have hI1 := (hb1.block _ (block_lt hI)).trans hI
  have hV1 := (hb1.block _ (block_lt hV)).trans hV
  have hR1 := (hb1.block _ (block_lt hR)).trans hR
  have c0 : u1.cell? ⟨w.heap.size, 0, none⟩ = some (.int .i64 64774) := by rw [cell_of_row u1 _ 0 _ _ _ hI1]; rfl
  have c3 : u1.cell? ⟨w.heap.size, 3, none⟩ = some (.int .u64 lo) := by rw [cell_of_row u1 _ 3 _ _ _ hI1]; rfl
  have hm := h.below (hZ.trans (hb1.mono hZ.size))
  have hZ1 := hZ.trans (hb1.mono hZ.size)
  clear hI hV hR hb1 hZ h hI1
  go_wp2_with (go_at_call 34; ((with_reducible refine (HS.out _).mono ?_); rintro e u ⟨rfl, rfl⟩))
  refine (load_z o _ hm (at_ + b) 8 0 (loadN o.β A 8) (by omega) (by decide) (by unfold mayE; rw [if_pos (by decide), if_pos (by omega)]) (fun _ => by congr 1; omega) (fun h => absurd rfl h)).mono ?_
  rintro e u2 ⟨rfl, rfl⟩
  have hlt := loadN_lt o.β A 8 (fun i hi => hm.row.lt _ (by omega))
  go_wp2_with fail
  refine (spread_32_0 (loadN o.β A 8) _ hlt).mono ?_
  rintro e u4 ⟨rfl, hb4⟩
  replace hR1 := (hb4.block _ (block_lt hR1)).trans hR1
  replace hZ1 := hZ1.trans (hb4.mono hZ1.size)
  go_wp2_with ((with_reducible refine store_vec rfl _ _ rfl (w.heap.size + 1 + 1) _ rfl rfl _ hR1 ?_); intro wq hq)
  exact bodyPost_ret (results_vec_tmp rfl _ _ (w.heap.size + 1 + 1) _ _ rfl rfl hq.this) rfl ⟨rfl, hZ1.trans (hq.below.mono (by omega))⟩

set_option maxRecDepth 100000 in
theorem vload_06_far (o : MObj) (old : Vec) (a b : Int) (lo : Int) (hi at_ : Int) (L : Value) (A : Nat) (w : World) (h : MemAt w o) (ha : 0 ≤ at_ ∧ at_ < 4294967296) (hb : 0 ≤ b ∧ b < 4294967296) (hA : (A : Int) = at_ + b)  (hin : ¬ A + 8 ≤ o.n) :
    Calls Try.prog 29 #[.pointer (some ⟨o.p, 0, none⟩), inV 64774 a b lo hi L, .int .u32 at_, .agg (cells old)] w fun e w' => e = .returned (.tuple #[.agg (cells 0), .int .i64 23]) ∧ Below w.heap.size w w' := by
  have HM := Lib.hid (fun W => vmay_06 ⟨o.p, 0, none⟩ a b lo hi at_ L W ha hb)
  have HS := Lib.hid (fun W => vsize_06 W)
  go_enter Try.func29, Try.ntmps29
  go_wp2_with fail
  rw [← cells_zero]
  obtain ⟨W, hW⟩ : ∃ W, W = (((w.alloc (.cells #[.int .i64 64774, .int .i64 a, .int .i64 b, .int .u64 lo, .int .u64 hi, L] 65)).alloc (.cells (cells old) 61)).alloc (.cells (cells 0) 61)) := ⟨_, rfl⟩
  have hI : W.heap[w.heap.size]? = some (.cells #[.int .i64 64774, .int .i64 a, .int .i64 b, .int .u64 lo, .int .u64 hi, L] 65 (0, 0)) := hW ▸ heap_alloc3_0 _ _ _ _
  have hV : W.heap[w.heap.size + 1]? = some (.cells (cells old) 61 (0, 0)) := hW ▸ heap_alloc3_1 _ _ _ _
  have hR : W.heap[w.heap.size + 1 + 1]? = some (.cells (cells 0) 61 (0, 0)) := hW ▸ heap_alloc3_2 _ _ _ _
  have hZ : Below w.heap.size w W := hW ▸ below_alloc3 _ _ _ _
  rw [← hW]
  clear hW
  refine (HM.out _).mono ?_
  rintro e u1 ⟨rfl, hb1⟩
  have hI1 := (hb1.block _ (block_lt hI)).trans hI
  have hV1 := (hb1.block _ (block_lt hV)).trans hV
  have hR1 := (hb1.block _ (block_lt hR)).trans hR
  have c0 : u1.cell? ⟨w.heap.size, 0, none⟩ = some (.int .i64 64774) := by rw [cell_of_row u1 _ 0 _ _ _ hI1]; rfl
  have c3 : u1.cell? ⟨w.heap.size, 3, none⟩ = some (.int .u64 lo) := by rw [cell_of_row u1 _ 3 _ _ _ hI1]; rfl
  have hm := h.below (hZ.trans (hb1.mono hZ.size))
  have hZ1 := hZ.trans (hb1.mono hZ.size)
  clear hI hV hR hb1 hZ h hI1
  go_wp2_with (go_at_call 34; ((with_reducible refine (HS.out _).mono ?_); rintro e u ⟨rfl, rfl⟩))
  refine (load_z o _ hm (at_ + b) 8 23 0 (by omega) (by decide) (by unfold mayE; rw [if_pos (by decide), if_neg (by omega)]) (fun h => absurd h (by decide)) (fun _ => rfl)).mono ?_
  rintro e u2 ⟨rfl, rfl⟩
  go_wp2_with ((with_reducible refine store_zero rfl _ _ rfl (w.heap.size + 1 + 1) rfl rfl _ hR1 ?_); intro wq hq)
  exact bodyPost_ret (results_vec_tmp rfl _ _ (w.heap.size + 1 + 1) _ _ rfl rfl hq.this) rfl ⟨rfl, hZ1.trans (hq.below.mono (by omega))⟩

set_option maxRecDepth 100000 in
theorem vload_07 (o : MObj) (old : Vec) (a b : Int) (lo : Int) (hi at_ : Int) (L : Value) (A : Nat) (w : World) (h : MemAt w o) (ha : 0 ≤ at_ ∧ at_ < 4294967296) (hb : 0 ≤ b ∧ b < 4294967296) (hA : (A : Int) = at_ + b)  (hin : A + 1 ≤ o.n) :
    Calls Try.prog 29 #[.pointer (some ⟨o.p, 0, none⟩), inV 64775 a b lo hi L, .int .u32 at_, .agg (cells old)] w fun e w' => e = .returned (.tuple #[.agg (cells (buildOn 0 8 (fun _ => loadN o.β A 1) 16)), .int .i64 0]) ∧ Below w.heap.size w w' := by
  have HM := Lib.hid (fun W => vmay_07 ⟨o.p, 0, none⟩ a b lo hi at_ L W ha hb)
  have HS := Lib.hid (fun W => vsize_07 W)
  go_enter Try.func29, Try.ntmps29
  go_wp2_with fail
  rw [← cells_zero]
  obtain ⟨W, hW⟩ : ∃ W, W = (((w.alloc (.cells #[.int .i64 64775, .int .i64 a, .int .i64 b, .int .u64 lo, .int .u64 hi, L] 65)).alloc (.cells (cells old) 61)).alloc (.cells (cells 0) 61)) := ⟨_, rfl⟩
  have hI : W.heap[w.heap.size]? = some (.cells #[.int .i64 64775, .int .i64 a, .int .i64 b, .int .u64 lo, .int .u64 hi, L] 65 (0, 0)) := hW ▸ heap_alloc3_0 _ _ _ _
  have hV : W.heap[w.heap.size + 1]? = some (.cells (cells old) 61 (0, 0)) := hW ▸ heap_alloc3_1 _ _ _ _
  have hR : W.heap[w.heap.size + 1 + 1]? = some (.cells (cells 0) 61 (0, 0)) := hW ▸ heap_alloc3_2 _ _ _ _
  have hZ : Below w.heap.size w W := hW ▸ below_alloc3 _ _ _ _
  rw [← hW]
  clear hW
  refine (HM.out _).mono ?_
  rintro e u1 ⟨rfl, hb1⟩
  have hI1 := (hb1.block _ (block_lt hI)).trans hI
  have hV1 := (hb1.block _ (block_lt hV)).trans hV
  have hR1 := (hb1.block _ (block_lt hR)).trans hR
  have c0 : u1.cell? ⟨w.heap.size, 0, none⟩ = some (.int .i64 64775) := by rw [cell_of_row u1 _ 0 _ _ _ hI1]; rfl
  have c3 : u1.cell? ⟨w.heap.size, 3, none⟩ = some (.int .u64 lo) := by rw [cell_of_row u1 _ 3 _ _ _ hI1]; rfl
  have hm := h.below (hZ.trans (hb1.mono hZ.size))
  have hZ1 := hZ.trans (hb1.mono hZ.size)
  clear hI hV hR hb1 hZ h hI1
  go_wp2_with (go_at_call 34; ((with_reducible refine (HS.out _).mono ?_); rintro e u ⟨rfl, rfl⟩))
  refine (load_z o _ hm (at_ + b) 1 0 (loadN o.β A 1) (by omega) (by decide) (by unfold mayE; rw [if_pos (by decide), if_pos (by omega)]) (fun _ => by congr 1; omega) (fun h => absurd rfl h)).mono ?_
  rintro e u2 ⟨rfl, rfl⟩
  go_wp2_with (go_at_call 54; ((with_reducible refine (lanes8 _).mono ?_); rintro e w' ⟨rfl, rfl⟩))
  rw [← cells_zero]
  obtain ⟨W2, hW2⟩ : ∃ W2, W2 = u2.alloc (.cells (cells 0) 61) := ⟨_, rfl⟩
  have hR2 : W2.heap[w.heap.size + 1 + 1]? = some (.cells (cells 0) 61 (0, 0)) := hW2 ▸ blk_alloc hR1 _
  have hV2 : W2.heap[u2.heap.size]? = some (.cells (cells 0) 61 (0, 0)) := hW2 ▸ heap_alloc_new _ _
  have hZ2 : Below w.heap.size w W2 := hW2 ▸ hZ1.alloc hZ1.size _
  rw [← hW2]
  have nR := Nat.ne_of_lt (block_lt hR1)
  have nA := hZ1.size
  clear hW2 hR1 hZ1 hV1 c0 c3 hm
  go_wp2_with fail
  go_loopw [90] (fun iv wr => ∃ k : Nat, k ≤ 16 ∧ iv = .int .i64 (k : Int) ∧ St W2 u2.heap.size (buildOn 0 8 (fun _ => loadN o.β A 1) k) wr) (fun iv _ => 16 - (intOf iv).toNat)
  case atStart => exact ⟨0, Nat.zero_le _, rfl, St.start hV2⟩
  case round =>
    obtain ⟨k, hk, rfl, hs⟩ := hrel
    by_cases hlt : k < 16
    · have hlt1 : decide ((k : Int) < 16) = true := decide_eq_true (by omega)
      go_wp2_with (with_reducible refine load_vec rfl _ rfl _ rfl _ hs.this ?_)
      refine (set8z _ _ _ k (loadN o.β A 1) _ rfl rfl (by omega)).mono ?_
      rintro e u4 ⟨rfl, hb4⟩
      replace hs := hs.below hb4
      go_wp2_with ((with_reducible refine store_vec rfl _ _ rfl u2.heap.size _ rfl rfl _ hs.this ?_); intro wq hq)
      replace hs := hs.sets hq
      go_roundw
      case rel => exact ⟨k + 1, by omega, by go_num, hs⟩
      case measure => (simp [intOf] <;> omega)
    · obtain rfl : k = 16 := by omega
      have hR3 := hs.kb.get hR2 nR
      go_wp2_with (first | (with_reducible refine load_vec rfl _ rfl _ rfl _ hs.this ?_) | ((with_reducible refine store_vec rfl _ _ rfl (w.heap.size + 1 + 1) _ rfl rfl _ hR3 ?_); intro wq hq))
      exact bodyPost_ret (results_vec_tmp rfl _ _ (w.heap.size + 1 + 1) _ _ rfl rfl hq.this) rfl ⟨rfl, (hs.kb.to_below hZ2 nA).trans (hq.below.mono (by omega))⟩

set_option maxRecDepth 100000 in
theorem vload_07_far (o : MObj) (old : Vec) (a b : Int) (lo : Int) (hi at_ : Int) (L : Value) (A : Nat) (w : World) (h : MemAt w o) (ha : 0 ≤ at_ ∧ at_ < 4294967296) (hb : 0 ≤ b ∧ b < 4294967296) (hA : (A : Int) = at_ + b)  (hin : ¬ A + 1 ≤ o.n) :
    Calls Try.prog 29 #[.pointer (some ⟨o.p, 0, none⟩), inV 64775 a b lo hi L, .int .u32 at_, .agg (cells old)] w fun e w' => e = .returned (.tuple #[.agg (cells 0), .int .i64 23]) ∧ Below w.heap.size w w' := by
  have HM := Lib.hid (fun W => vmay_07 ⟨o.p, 0, none⟩ a b lo hi at_ L W ha hb)
  have HS := Lib.hid (fun W => vsize_07 W)
  go_enter Try.func29, Try.ntmps29
  go_wp2_with fail
  rw [← cells_zero]
  obtain ⟨W, hW⟩ : ∃ W, W = (((w.alloc (.cells #[.int .i64 64775, .int .i64 a, .int .i64 b, .int .u64 lo, .int .u64 hi, L] 65)).alloc (.cells (cells old) 61)).alloc (.cells (cells 0) 61)) := ⟨_, rfl⟩
  have hI : W.heap[w.heap.size]? = some (.cells #[.int .i64 64775, .int .i64 a, .int .i64 b, .int .u64 lo, .int .u64 hi, L] 65 (0, 0)) := hW ▸ heap_alloc3_0 _ _ _ _
  have hV : W.heap[w.heap.size + 1]? = some (.cells (cells old) 61 (0, 0)) := hW ▸ heap_alloc3_1 _ _ _ _
  have hR : W.heap[w.heap.size + 1 + 1]? = some (.cells (cells 0) 61 (0, 0)) := hW ▸ heap_alloc3_2 _ _ _ _
  have hZ : Below w.heap.size w W := hW ▸ below_alloc3 _ _ _ _
  rw [← hW]
  clear hW
  refine (HM.out _).mono ?_
  rintro e u1 ⟨rfl, hb1⟩
  have hI1 := (hb1.block _ (block_lt hI)).trans hI
  have hV1 := (hb1.block _ (block_lt hV)).trans hV
  have hR1 := (hb1.block _ (block_lt hR)).trans hR
  have c0 : u1.cell? ⟨w.heap.size, 0, none⟩ = some (.int .i64 64775) := by rw [cell_of_row u1 _ 0 _ _ _ hI1]; rfl
  have c3 : u1.cell? ⟨w.heap.size, 3, none⟩ = some (.int .u64 lo) := by rw [cell_of_row u1 _ 3 _ _ _ hI1]; rfl
  have hm := h.below (hZ.trans (hb1.mono hZ.size))
  have hZ1 := hZ.trans (hb1.mono hZ.size)
  clear hI hV hR hb1 hZ h hI1
  go_wp2_with (go_at_call 34; ((with_reducible refine (HS.out _).mono ?_); rintro e u ⟨rfl, rfl⟩))
  refine (load_z o _ hm (at_ + b) 1 23 0 (by omega) (by decide) (by unfold mayE; rw [if_pos (by decide), if_neg (by omega)]) (fun h => absurd h (by decide)) (fun _ => rfl)).mono ?_
  rintro e u2 ⟨rfl, rfl⟩
  go_wp2_with ((with_reducible refine store_zero rfl _ _ rfl (w.heap.size + 1 + 1) rfl rfl _ hR1 ?_); intro wq hq)
  exact bodyPost_ret (results_vec_tmp rfl _ _ (w.heap.size + 1 + 1) _ _ rfl rfl hq.this) rfl ⟨rfl, hZ1.trans (hq.below.mono (by omega))⟩

set_option maxRecDepth 100000 in
theorem vload_08 (o : MObj) (old : Vec) (a b : Int) (lo : Int) (hi at_ : Int) (L : Value) (A : Nat) (w : World) (h : MemAt w o) (ha : 0 ≤ at_ ∧ at_ < 4294967296) (hb : 0 ≤ b ∧ b < 4294967296) (hA : (A : Int) = at_ + b)  (hin : A + 2 ≤ o.n) :
    Calls Try.prog 29 #[.pointer (some ⟨o.p, 0, none⟩), inV 64776 a b lo hi L, .int .u32 at_, .agg (cells old)] w fun e w' => e = .returned (.tuple #[.agg (cells (buildOn 0 16 (fun _ => loadN o.β A 2) 8)), .int .i64 0]) ∧ Below w.heap.size w w' := by
  have HM := Lib.hid (fun W => vmay_08 ⟨o.p, 0, none⟩ a b lo hi at_ L W ha hb)
  have HS := Lib.hid (fun W => vsize_08 W)
  go_enter Try.func29, Try.ntmps29
  go_wp2_with fail
  rw [← cells_zero]
  obtain ⟨W, hW⟩ : ∃ W, W = (((w.alloc (.cells #[.int .i64 64776, .int .i64 a, .int .i64 b, .int .u64 lo, .int .u64 hi, L] 65)).alloc (.cells (cells old) 61)).alloc (.cells (cells 0) 61)) := ⟨_, rfl⟩
  have hI : W.heap[w.heap.size]? = some (.cells #[.int .i64 64776, .int .i64 a, .int .i64 b, .int .u64 lo, .int .u64 hi, L] 65 (0, 0)) := hW ▸ heap_alloc3_0 _ _ _ _
  have hV : W.heap[w.heap.size + 1]? = some (.cells (cells old) 61 (0, 0)) := hW ▸ heap_alloc3_1 _ _ _ _
  have hR : W.heap[w.heap.size + 1 + 1]? = some (.cells (cells 0) 61 (0, 0)) := hW ▸ heap_alloc3_2 _ _ _ _
  have hZ : Below w.heap.size w W := hW ▸ below_alloc3 _ _ _ _
  rw [← hW]
  clear hW
  refine (HM.out _).mono ?_
  rintro e u1 ⟨rfl, hb1⟩
  have hI1 := (hb1.block _ (block_lt hI)).trans hI
  have hV1 := (hb1.block _ (block_lt hV)).trans hV
  have hR1 := (hb1.block _ (block_lt hR)).trans hR
  have c0 : u1.cell? ⟨w.heap.size, 0, none⟩ = some (.int .i64 64776) := by rw [cell_of_row u1 _ 0 _ _ _ hI1]; rfl
  have c3 : u1.cell? ⟨w.heap.size, 3, none⟩ = some (.int .u64 lo) := by rw [cell_of_row u1 _ 3 _ _ _ hI1]; rfl
  have hm := h.below (hZ.trans (hb1.mono hZ.size))
  have hZ1 := hZ.trans (hb1.mono hZ.size)
  clear hI hV hR hb1 hZ h hI1
  go_wp2_with (go_at_call 34; ((with_reducible refine (HS.out _).mono ?_); rintro e u ⟨rfl, rfl⟩))
  refine (load_z o _ hm (at_ + b) 2 0 (loadN o.β A 2) (by omega) (by decide) (by unfold mayE; rw [if_pos (by decide), if_pos (by omega)]) (fun _ => by congr 1; omega) (fun h => absurd rfl h)).mono ?_
  rintro e u2 ⟨rfl, rfl⟩
  go_wp2_with (go_at_call 54; ((with_reducible refine (lanes16 _).mono ?_); rintro e w' ⟨rfl, rfl⟩))
  rw [← cells_zero]
  obtain ⟨W2, hW2⟩ : ∃ W2, W2 = u2.alloc (.cells (cells 0) 61) := ⟨_, rfl⟩
  have hR2 : W2.heap[w.heap.size + 1 + 1]? = some (.cells (cells 0) 61 (0, 0)) := hW2 ▸ blk_alloc hR1 _
  have hV2 : W2.heap[u2.heap.size]? = some (.cells (cells 0) 61 (0, 0)) := hW2 ▸ heap_alloc_new _ _
  have hZ2 : Below w.heap.size w W2 := hW2 ▸ hZ1.alloc hZ1.size _
  rw [← hW2]
  have nR := Nat.ne_of_lt (block_lt hR1)
  have nA := hZ1.size
  clear hW2 hR1 hZ1 hV1 c0 c3 hm
  go_wp2_with fail
  go_loopw [90] (fun iv wr => ∃ k : Nat, k ≤ 8 ∧ iv = .int .i64 (k : Int) ∧ St W2 u2.heap.size (buildOn 0 16 (fun _ => loadN o.β A 2) k) wr) (fun iv _ => 8 - (intOf iv).toNat)
  case atStart => exact ⟨0, Nat.zero_le _, rfl, St.start hV2⟩
  case round =>
    obtain ⟨k, hk, rfl, hs⟩ := hrel
    by_cases hlt : k < 8
    · have hlt1 : decide ((k : Int) < 8) = true := decide_eq_true (by omega)
      go_wp2_with (with_reducible refine load_vec rfl _ rfl _ rfl _ hs.this ?_)
      refine (set16z _ _ _ k (loadN o.β A 2) _ rfl rfl (by omega)).mono ?_
      rintro e u4 ⟨rfl, hb4⟩
      replace hs := hs.below hb4
      go_wp2_with ((with_reducible refine store_vec rfl _ _ rfl u2.heap.size _ rfl rfl _ hs.this ?_); intro wq hq)
      replace hs := hs.sets hq
      go_roundw
      case rel => exact ⟨k + 1, by omega, by go_num, hs⟩
      case measure => (simp [intOf] <;> omega)
    · obtain rfl : k = 8 := by omega
      have hR3 := hs.kb.get hR2 nR
      go_wp2_with (first | (with_reducible refine load_vec rfl _ rfl _ rfl _ hs.this ?_) | ((with_reducible refine store_vec rfl _ _ rfl (w.heap.size + 1 + 1) _ rfl rfl _ hR3 ?_); intro wq hq))
      exact bodyPost_ret (results_vec_tmp rfl _ _ (w.heap.size + 1 + 1) _ _ rfl rfl hq.this) rfl ⟨rfl, (hs.kb.to_below hZ2 nA).trans (hq.below.mono (by omega))⟩

set_option maxRecDepth 100000 in
theorem vload_08_far (o : MObj) (old : Vec) (a b : Int) (lo : Int) (hi at_ : Int) (L : Value) (A : Nat) (w : World) (h : MemAt w o) (ha : 0 ≤ at_ ∧ at_ < 4294967296) (hb : 0 ≤ b ∧ b < 4294967296) (hA : (A : Int) = at_ + b)  (hin : ¬ A + 2 ≤ o.n) :
    Calls Try.prog 29 #[.pointer (some ⟨o.p, 0, none⟩), inV 64776 a b lo hi L, .int .u32 at_, .agg (cells old)] w fun e w' => e = .returned (.tuple #[.agg (cells 0), .int .i64 23]) ∧ Below w.heap.size w w' := by
  have HM := Lib.hid (fun W => vmay_08 ⟨o.p, 0, none⟩ a b lo hi at_ L W ha hb)
  have HS := Lib.hid (fun W => vsize_08 W)
  go_enter Try.func29, Try.ntmps29
  go_wp2_with fail
  rw [← cells_zero]
  obtain ⟨W, hW⟩ : ∃ W, W = (((w.alloc (.cells #[.int .i64 64776, .int .i64 a, .int .i64 b, .int .u64 lo, .int .u64 hi, L] 65)).alloc (.cells (cells old) 61)).alloc (.cells (cells 0) 61)) := ⟨_, rfl⟩
  have hI : W.heap[w.heap.size]? = some (.cells #[.int .i64 64776, .int .i64 a, .int .i64 b, .int .u64 lo, .int .u64 hi, L] 65 (0, 0)) := hW ▸ heap_alloc3_0 _ _ _ _
  have hV : W.heap[w.heap.size + 1]? = some (.cells (cells old) 61 (0, 0)) := hW ▸ heap_alloc3_1 _ _ _ _
  have hR : W.heap[w.heap.size + 1 + 1]? = some (.cells (cells 0) 61 (0, 0)) := hW ▸ heap_alloc3_2 _ _ _ _
  have hZ : Below w.heap.size w W := hW ▸ below_alloc3 _ _ _ _
  rw [← hW]
  clear hW
  refine (HM.out _).mono ?_
  rintro e u1 ⟨rfl, hb1⟩
  have hI1 := (hb1.block _ (block_lt hI)).trans hI
  have hV1 := (hb1.block _ (block_lt hV)).trans hV
  have hR1 := (hb1.block _ (block_lt hR)).trans hR
  have c0 : u1.cell? ⟨w.heap.size, 0, none⟩ = some (.int .i64 64776) := by rw [cell_of_row u1 _ 0 _ _ _ hI1]; rfl
  have c3 : u1.cell? ⟨w.heap.size, 3, none⟩ = some (.int .u64 lo) := by rw [cell_of_row u1 _ 3 _ _ _ hI1]; rfl
  have hm := h.below (hZ.trans (hb1.mono hZ.size))
  have hZ1 := hZ.trans (hb1.mono hZ.size)
  clear hI hV hR hb1 hZ h hI1
  go_wp2_with (go_at_call 34; ((with_reducible refine (HS.out _).mono ?_); rintro e u ⟨rfl, rfl⟩))
  refine (load_z o _ hm (at_ + b) 2 23 0 (by omega) (by decide) (by unfold mayE; rw [if_pos (by decide), if_neg (by omega)]) (fun h => absurd h (by decide)) (fun _ => rfl)).mono ?_
  rintro e u2 ⟨rfl, rfl⟩
  go_wp2_with ((with_reducible refine store_zero rfl _ _ rfl (w.heap.size + 1 + 1) rfl rfl _ hR1 ?_); intro wq hq)
  exact bodyPost_ret (results_vec_tmp rfl _ _ (w.heap.size + 1 + 1) _ _ rfl rfl hq.this) rfl ⟨rfl, hZ1.trans (hq.below.mono (by omega))⟩

set_option maxRecDepth 100000 in
theorem vload_09 (o : MObj) (old : Vec) (a b : Int) (lo : Int) (hi at_ : Int) (L : Value) (A : Nat) (w : World) (h : MemAt w o) (ha : 0 ≤ at_ ∧ at_ < 4294967296) (hb : 0 ≤ b ∧ b < 4294967296) (hA : (A : Int) = at_ + b)  (hin : A + 4 ≤ o.n) :
    Calls Try.prog 29 #[.pointer (some ⟨o.p, 0, none⟩), inV 64777 a b lo hi L, .int .u32 at_, .agg (cells old)] w fun e w' => e = .returned (.tuple #[.agg (cells (buildOn 0 32 (fun _ => loadN o.β A 4) 4)), .int .i64 0]) ∧ Below w.heap.size w w' := by
  have HM := Lib.hid (fun W => vmay_09 ⟨o.p, 0, none⟩ a b lo hi at_ L W ha hb)
  have HS := Lib.hid (fun W => vsize_09 W)
  go_enter Try.func29, Try.ntmps29
  go_wp2_with fail
  rw [← cells_zero]
  obtain ⟨W, hW⟩ : ∃ W, W = (((w.alloc (.cells #[.int .i64 64777, .int .i64 a, .int .i64 b, .int .u64 lo, .int .u64 hi, L] 65)).alloc (.cells (cells old) 61)).alloc (.cells (cells 0) 61)) := ⟨_, rfl⟩
  have hI : W.heap[w.heap.size]? = some (.cells #[.int .i64 64777, .int .i64 a, .int .i64 b, .int .u64 lo, .int .u64 hi, L] 65 (0, 0)) := hW ▸ heap_alloc3_0 _ _ _ _
  have hV : W.heap[w.heap.size + 1]? = some (.cells (cells old) 61 (0, 0)) := hW ▸ heap_alloc3_1 _ _ _ _
  have hR : W.heap[w.heap.size + 1 + 1]? = some (.cells (cells 0) 61 (0, 0)) := hW ▸ heap_alloc3_2 _ _ _ _
  have hZ : Below w.heap.size w W := hW ▸ below_alloc3 _ _ _ _
  rw [← hW]
  clear hW
  refine (HM.out _).mono ?_
  rintro e u1 ⟨rfl, hb1⟩
  have hI1 := (hb1.block _ (block_lt hI)).trans hI
  have hV1 := (hb1.block _ (block_lt hV)).trans hV
  have hR1 := (hb1.block _ (block_lt hR)).trans hR
  have c0 : u1.cell? ⟨w.heap.size, 0, none⟩ = some (.int .i64 64777) := by rw [cell_of_row u1 _ 0 _ _ _ hI1]; rfl
  have c3 : u1.cell? ⟨w.heap.size, 3, none⟩ = some (.int .u64 lo) := by rw [cell_of_row u1 _ 3 _ _ _ hI1]; rfl
  have hm := h.below (hZ.trans (hb1.mono hZ.size))
  have hZ1 := hZ.trans (hb1.mono hZ.size)
  clear hI hV hR hb1 hZ h hI1
  go_wp2_with (go_at_call 34; ((with_reducible refine (HS.out _).mono ?_); rintro e u ⟨rfl, rfl⟩))
  refine (load_z o _ hm (at_ + b) 4 0 (loadN o.β A 4) (by omega) (by decide) (by unfold mayE; rw [if_pos (by decide), if_pos (by omega)]) (fun _ => by congr 1; omega) (fun h => absurd rfl h)).mono ?_
  rintro e u2 ⟨rfl, rfl⟩
  go_wp2_with (go_at_call 54; ((with_reducible refine (lanes32 _).mono ?_); rintro e w' ⟨rfl, rfl⟩))
  rw [← cells_zero]
  obtain ⟨W2, hW2⟩ : ∃ W2, W2 = u2.alloc (.cells (cells 0) 61) := ⟨_, rfl⟩
  have hR2 : W2.heap[w.heap.size + 1 + 1]? = some (.cells (cells 0) 61 (0, 0)) := hW2 ▸ blk_alloc hR1 _
  have hV2 : W2.heap[u2.heap.size]? = some (.cells (cells 0) 61 (0, 0)) := hW2 ▸ heap_alloc_new _ _
  have hZ2 : Below w.heap.size w W2 := hW2 ▸ hZ1.alloc hZ1.size _
  rw [← hW2]
  have nR := Nat.ne_of_lt (block_lt hR1)
  have nA := hZ1.size
  clear hW2 hR1 hZ1 hV1 c0 c3 hm
  go_wp2_with fail
  go_loopw [90] (fun iv wr => ∃ k : Nat, k ≤ 4 ∧ iv = .int .i64 (k : Int) ∧ St W2 u2.heap.size (buildOn 0 32 (fun _ => loadN o.β A 4) k) wr) (fun iv _ => 4 - (intOf iv).toNat)
  case atStart => exact ⟨0, Nat.zero_le _, rfl, St.start hV2⟩
  case round =>
    obtain ⟨k, hk, rfl, hs⟩ := hrel
    by_cases hlt : k < 4
    · have hlt1 : decide ((k : Int) < 4) = true := decide_eq_true (by omega)
      go_wp2_with (with_reducible refine load_vec rfl _ rfl _ rfl _ hs.this ?_)
      refine (set32z _ _ _ k (loadN o.β A 4) _ rfl rfl (by omega)).mono ?_
      rintro e u4 ⟨rfl, hb4⟩
      replace hs := hs.below hb4
      go_wp2_with ((with_reducible refine store_vec rfl _ _ rfl u2.heap.size _ rfl rfl _ hs.this ?_); intro wq hq)
      replace hs := hs.sets hq
      go_roundw
      case rel => exact ⟨k + 1, by omega, by go_num, hs⟩
      case measure => (simp [intOf] <;> omega)
    · obtain rfl : k = 4 := by omega
      have hR3 := hs.kb.get hR2 nR
      go_wp2_with (first | (with_reducible refine load_vec rfl _ rfl _ rfl _ hs.this ?_) | ((with_reducible refine store_vec rfl _ _ rfl (w.heap.size + 1 + 1) _ rfl rfl _ hR3 ?_); intro wq hq))
      exact bodyPost_ret (results_vec_tmp rfl _ _ (w.heap.size + 1 + 1) _ _ rfl rfl hq.this) rfl ⟨rfl, (hs.kb.to_below hZ2 nA).trans (hq.below.mono (by omega))⟩

set_option maxRecDepth 100000 in
theorem vload_09_far (o : MObj) (old : Vec) (a b : Int) (lo : Int) (hi at_ : Int) (L : Value) (A : Nat) (w : World) (h : MemAt w o) (ha : 0 ≤ at_ ∧ at_ < 4294967296) (hb : 0 ≤ b ∧ b < 4294967296) (hA : (A : Int) = at_ + b)  (hin : ¬ A + 4 ≤ o.n) :
    Calls Try.prog 29 #[.pointer (some ⟨o.p, 0, none⟩), inV 64777 a b lo hi L, .int .u32 at_, .agg (cells old)] w fun e w' => e = .returned (.tuple #[.agg (cells 0), .int .i64 23]) ∧ Below w.heap.size w w' := by
  have HM := Lib.hid (fun W => vmay_09 ⟨o.p, 0, none⟩ a b lo hi at_ L W ha hb)
  have HS := Lib.hid (fun W => vsize_09 W)
  go_enter Try.func29, Try.ntmps29
  go_wp2_with fail
  rw [← cells_zero]
  obtain ⟨W, hW⟩ : ∃ W, W = (((w.alloc (.cells #[.int .i64 64777, .int .i64 a, .int .i64 b, .int .u64 lo, .int .u64 hi, L] 65)).alloc (.cells (cells old) 61)).alloc (.cells (cells 0) 61)) := ⟨_, rfl⟩
  have hI : W.heap[w.heap.size]? = some (.cells #[.int .i64 64777, .int .i64 a, .int .i64 b, .int .u64 lo, .int .u64 hi, L] 65 (0, 0)) := hW ▸ heap_alloc3_0 _ _ _ _
  have hV : W.heap[w.heap.size + 1]? = some (.cells (cells old) 61 (0, 0)) := hW ▸ heap_alloc3_1 _ _ _ _
  have hR : W.heap[w.heap.size + 1 + 1]? = some (.cells (cells 0) 61 (0, 0)) := hW ▸ heap_alloc3_2 _ _ _ _
  have hZ : Below w.heap.size w W := hW ▸ below_alloc3 _ _ _ _
  rw [← hW]
  clear hW
  refine (HM.out _).mono ?_
  rintro e u1 ⟨rfl, hb1⟩
  have hI1 := (hb1.block _ (block_lt hI)).trans hI
  have hV1 := (hb1.block _ (block_lt hV)).trans hV
  have hR1 := (hb1.block _ (block_lt hR)).trans hR
  have c0 : u1.cell? ⟨w.heap.size, 0, none⟩ = some (.int .i64 64777) := by rw [cell_of_row u1 _ 0 _ _ _ hI1]; rfl
  have c3 : u1.cell? ⟨w.heap.size, 3, none⟩ = some (.int .u64 lo) := by rw [cell_of_row u1 _ 3 _ _ _ hI1]; rfl
  have hm := h.below (hZ.trans (hb1.mono hZ.size))
  have hZ1 := hZ.trans (hb1.mono hZ.size)
  clear hI hV hR hb1 hZ h hI1
  go_wp2_with (go_at_call 34; ((with_reducible refine (HS.out _).mono ?_); rintro e u ⟨rfl, rfl⟩))
  refine (load_z o _ hm (at_ + b) 4 23 0 (by omega) (by decide) (by unfold mayE; rw [if_pos (by decide), if_neg (by omega)]) (fun h => absurd h (by decide)) (fun _ => rfl)).mono ?_
  rintro e u2 ⟨rfl, rfl⟩
  go_wp2_with ((with_reducible refine store_zero rfl _ _ rfl (w.heap.size + 1 + 1) rfl rfl _ hR1 ?_); intro wq hq)
  exact bodyPost_ret (results_vec_tmp rfl _ _ (w.heap.size + 1 + 1) _ _ rfl rfl hq.this) rfl ⟨rfl, hZ1.trans (hq.below.mono (by omega))⟩

set_option maxRecDepth 100000 in
theorem vload_0a (o : MObj) (old : Vec) (a b : Int) (lo : Int) (hi at_ : Int) (L : Value) (A : Nat) (w : World) (h : MemAt w o) (ha : 0 ≤ at_ ∧ at_ < 4294967296) (hb : 0 ≤ b ∧ b < 4294967296) (hA : (A : Int) = at_ + b)  (hin : A + 8 ≤ o.n) :
    Calls Try.prog 29 #[.pointer (some ⟨o.p, 0, none⟩), inV 64778 a b lo hi L, .int .u32 at_, .agg (cells old)] w fun e w' => e = .returned (.tuple #[.agg (cells (buildOn 0 64 (fun _ => loadN o.β A 8) 2)), .int .i64 0]) ∧ Below w.heap.size w w' := by
  have HM := Lib.hid (fun W => vmay_0a ⟨o.p, 0, none⟩ a b lo hi at_ L W ha hb)
  have HS := Lib.hid (fun W => vsize_0a W)
  go_enter Try.func29, Try.ntmps29
  go_wp2_with fail
  rw [← cells_zero]
  obtain ⟨W, hW⟩ : ∃ W, W = (((w.alloc (.cells #[.int .i64 64778, .int .i64 a, .int .i64 b, .int .u64 lo, .int .u64 hi, L] 65)).alloc (.cells (cells old) 61)).alloc (.cells (cells 0) 61)) := ⟨_, rfl⟩
  have hI : W.heap[w.heap.size]? = some (.cells #[.int .i64 64778, .int .i64 a, .int .i64 b, .int .u64 lo, .int .u64 hi, L] 65 (0, 0)) := hW ▸ heap_alloc3_0 _ _ _ _
  have hV : W.heap[w.heap.size + 1]? = some (.cells (cells old) 61 (0, 0)) := hW ▸ heap_alloc3_1 _ _ _ _
  have hR : W.heap[w.heap.size + 1 + 1]? = some (.cells (cells 0) 61 (0, 0)) := hW ▸ heap_alloc3_2 _ _ _ _
  have hZ : Below w.heap.size w W := hW ▸ below_alloc3 _ _ _ _
  rw [← hW]
  clear hW
  refine (HM.out _).mono ?_
  rintro e u1 ⟨rfl, hb1⟩
  have hI1 := (hb1.block _ (block_lt hI)).trans hI
  have hV1 := (hb1.block _ (block_lt hV)).trans hV
  have hR1 := (hb1.block _ (block_lt hR)).trans hR
  have c0 : u1.cell? ⟨w.heap.size, 0, none⟩ = some (.int .i64 64778) := by rw [cell_of_row u1 _ 0 _ _ _ hI1]; rfl
  have c3 : u1.cell? ⟨w.heap.size, 3, none⟩ = some (.int .u64 lo) := by rw [cell_of_row u1 _ 3 _ _ _ hI1]; rfl
  have hm := h.below (hZ.trans (hb1.mono hZ.size))
  have hZ1 := hZ.trans (hb1.mono hZ.size)
  clear hI hV hR hb1 hZ h hI1
  go_wp2_with (go_at_call 34; ((with_reducible refine (HS.out _).mono ?_); rintro e u ⟨rfl, rfl⟩))
  refine (load_z o _ hm (at_ + b) 8 0 (loadN o.β A 8) (by omega) (by decide) (by unfold mayE; rw [if_pos (by decide), if_pos (by omega)]) (fun _ => by congr 1; omega) (fun h => absurd rfl h)).mono ?_
  rintro e u2 ⟨rfl, rfl⟩
  go_wp2_with (go_at_call 54; ((with_reducible refine (lanes64 _).mono ?_); rintro e w' ⟨rfl, rfl⟩))
  rw [← cells_zero]
  obtain ⟨W2, hW2⟩ : ∃ W2, W2 = u2.alloc (.cells (cells 0) 61) := ⟨_, rfl⟩
  have hR2 : W2.heap[w.heap.size + 1 + 1]? = some (.cells (cells 0) 61 (0, 0)) := hW2 ▸ blk_alloc hR1 _
  have hV2 : W2.heap[u2.heap.size]? = some (.cells (cells 0) 61 (0, 0)) := hW2 ▸ heap_alloc_new _ _
  have hZ2 : Below w.heap.size w W2 := hW2 ▸ hZ1.alloc hZ1.size _
  rw [← hW2]
  have nR := Nat.ne_of_lt (block_lt hR1)
  have nA := hZ1.size
  clear hW2 hR1 hZ1 hV1 c0 c3 hm
  go_wp2_with fail
  go_loopw [90] (fun iv wr => ∃ k : Nat, k ≤ 2 ∧ iv = .int .i64 (k : Int) ∧ St W2 u2.heap.size (buildOn 0 64 (fun _ => loadN o.β A 8) k) wr) (fun iv _ => 2 - (intOf iv).toNat)
  case atStart => exact ⟨0, Nat.zero_le _, rfl, St.start hV2⟩
  case round =>
    obtain ⟨k, hk, rfl, hs⟩ := hrel
    by_cases hlt : k < 2
    · have hlt1 : decide ((k : Int) < 2) = true := decide_eq_true (by omega)
      go_wp2_with (with_reducible refine load_vec rfl _ rfl _ rfl _ hs.this ?_)
      refine (set64z _ _ _ k (loadN o.β A 8) _ rfl rfl (by omega)).mono ?_
      rintro e u4 ⟨rfl, hb4⟩
      replace hs := hs.below hb4
      go_wp2_with ((with_reducible refine store_vec rfl _ _ rfl u2.heap.size _ rfl rfl _ hs.this ?_); intro wq hq)
      replace hs := hs.sets hq
      go_roundw
      case rel => exact ⟨k + 1, by omega, by go_num, hs⟩
      case measure => (simp [intOf] <;> omega)
    · obtain rfl : k = 2 := by omega
      have hR3 := hs.kb.get hR2 nR
      go_wp2_with (first | (with_reducible refine load_vec rfl _ rfl _ rfl _ hs.this ?_) | ((with_reducible refine store_vec rfl _ _ rfl (w.heap.size + 1 + 1) _ rfl rfl _ hR3 ?_); intro wq hq))
      exact bodyPost_ret (results_vec_tmp rfl _ _ (w.heap.size + 1 + 1) _ _ rfl rfl hq.this) rfl ⟨rfl, (hs.kb.to_below hZ2 nA).trans (hq.below.mono (by omega))⟩

set_option maxRecDepth 100000 in
theorem vload_0a_far (o : MObj) (old : Vec) (a b : Int) (lo : Int) (hi at_ : Int) (L : Value) (A : Nat) (w : World) (h : MemAt w o) (ha : 0 ≤ at_ ∧ at_ < 4294967296) (hb : 0 ≤ b ∧ b < 4294967296) (hA : (A : Int) = at_ + b)  (hin : ¬ A + 8 ≤ o.n) :
    Calls Try.prog 29 #[.pointer (some ⟨o.p, 0, none⟩), inV 64778 a b lo hi L, .int .u32 at_, .agg (cells old)] w fun e w' => e = .returned (.tuple #[.agg (cells 0), .int .i64 23]) ∧ Below w.heap.size w w' := by
  have HM := Lib.hid (fun W => vmay_0a ⟨o.p, 0, none⟩ a b lo hi at_ L W ha hb)
  have HS := Lib.hid (fun W => vsize_0a W)
  go_enter Try.func29, Try.ntmps29
  go_wp2_with fail
  rw [← cells_zero]
  obtain ⟨W, hW⟩ : ∃ W, W = (((w.alloc (.cells #[.int .i64 64778, .int .i64 a, .int .i64 b, .int .u64 lo, .int .u64 hi, L] 65)).alloc (.cells (cells old) 61)).alloc (.cells (cells 0) 61)) := ⟨_, rfl⟩
  have hI : W.heap[w.heap.size]? = some (.cells #[.int .i64 64778, .int .i64 a, .int .i64 b, .int .u64 lo, .int .u64 hi, L] 65 (0, 0)) := hW ▸ heap_alloc3_0 _ _ _ _
  have hV : W.heap[w.heap.size + 1]? = some (.cells (cells old) 61 (0, 0)) := hW ▸ heap_alloc3_1 _ _ _ _
  have hR : W.heap[w.heap.size + 1 + 1]? = some (.cells (cells 0) 61 (0, 0)) := hW ▸ heap_alloc3_2 _ _ _ _
  have hZ : Below w.heap.size w W := hW ▸ below_alloc3 _ _ _ _
  rw [← hW]
  clear hW
  refine (HM.out _).mono ?_
  rintro e u1 ⟨rfl, hb1⟩
  have hI1 := (hb1.block _ (block_lt hI)).trans hI
  have hV1 := (hb1.block _ (block_lt hV)).trans hV
  have hR1 := (hb1.block _ (block_lt hR)).trans hR
  have c0 : u1.cell? ⟨w.heap.size, 0, none⟩ = some (.int .i64 64778) := by rw [cell_of_row u1 _ 0 _ _ _ hI1]; rfl
  have c3 : u1.cell? ⟨w.heap.size, 3, none⟩ = some (.int .u64 lo) := by rw [cell_of_row u1 _ 3 _ _ _ hI1]; rfl
  have hm := h.below (hZ.trans (hb1.mono hZ.size))
  have hZ1 := hZ.trans (hb1.mono hZ.size)
  clear hI hV hR hb1 hZ h hI1
  go_wp2_with (go_at_call 34; ((with_reducible refine (HS.out _).mono ?_); rintro e u ⟨rfl, rfl⟩))
  refine (load_z o _ hm (at_ + b) 8 23 0 (by omega) (by decide) (by unfold mayE; rw [if_pos (by decide), if_neg (by omega)]) (fun h => absurd h (by decide)) (fun _ => rfl)).mono ?_
  rintro e u2 ⟨rfl, rfl⟩
  go_wp2_with ((with_reducible refine store_zero rfl _ _ rfl (w.heap.size + 1 + 1) rfl rfl _ hR1 ?_); intro wq hq)
  exact bodyPost_ret (results_vec_tmp rfl _ _ (w.heap.size + 1 + 1) _ _ rfl rfl hq.this) rfl ⟨rfl, hZ1.trans (hq.below.mono (by omega))⟩

end Go.Proofs.Ytlcndenbnokcjaa
