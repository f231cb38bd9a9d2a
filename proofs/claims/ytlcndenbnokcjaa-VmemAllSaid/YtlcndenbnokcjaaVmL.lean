/-
  vmem.Load and vmem.Store by opcode.
-/
import Derived.Test.YtlcndenbnokcjaaVm
import Derived.Test.YtlcndenbnokcjaaVmP
import Derived.Test.YtlcndenbnokcjaaWidOf
set_option linter.unusedSimpArgs false
set_option linter.unusedVariables false
namespace Go.Proofs.Ytlcndenbnokcjaa
open Go.RowKit Pl

theorem store_zero {ops : Array Oper} {rest : List Oper} {o : Oper} {a : Act} {w : World} {Q : Exit → Act → World → Prop} (hgd : o.guard = none) (x y : Operand) (ho : o.op = .store 61 x y)
    (g : Nat) (hx : a.eval x = .pointer (some ⟨g, 0, none⟩)) (hy : a.eval y = .agg #[.int .u8 0, .int .u8 0, .int .u8 0, .int .u8 0, .int .u8 0, .int .u8 0, .int .u8 0, .int .u8 0, .int .u8 0, .int .u8 0, .int .u8 0, .int .u8 0, .int .u8 0, .int .u8 0, .int .u8 0, .int .u8 0]) (u : Vec) (hg : w.heap[g]? = some (.cells (cells u) 61 (0, 0)))
    (h : ∀ w', Sets w g 0 w' → wpList Try.prog ops Q rest (a.put o.dst undef) w') : wpList Try.prog ops Q (o :: rest) a w :=
  store_vec hgd x y ho g 0 hx (hy.trans (by rw [cells_zero])) u hg h

set_option maxRecDepth 100000 in
theorem vload_00 (o : MObj) (old : Vec) (a b : Int) (lo : Int) (hi at_ : Int) (L : Value) (A : Nat) (w : World) (h : MemAt w o) (ha : 0 ≤ at_ ∧ at_ < 4294967296) (hb : 0 ≤ b ∧ b < 4294967296) (hA : (A : Int) = at_ + b)  (hin : A + 16 ≤ o.n) :
    Calls Try.prog 29 #[.pointer (some ⟨o.p, 0, none⟩), inV 64768 a b lo hi L, .int .u32 at_, .agg (cells old)] w fun e w' => e = .returned (.tuple #[.agg (cells (setN (setN 0 64 0 (loadN o.β A 8)) 64 1 (loadN o.β (A + 8) 8))), .int .i64 0]) ∧ Below w.heap.size w w' := by
  have HM := Lib.hid (fun W => vmay_00 ⟨o.p, 0, none⟩ a b lo hi at_ L W ha hb)
  have HS := Lib.hid (fun W => vsize_00 W)
  go_enter Try.func29, Try.ntmps29
  go_wp2_with fail
  rw [← cells_zero]
  obtain ⟨W, hW⟩ : ∃ W, W = (((w.alloc (.cells #[.int .i64 64768, .int .i64 a, .int .i64 b, .int .u64 lo, .int .u64 hi, L] 65)).alloc (.cells (cells old) 61)).alloc (.cells (cells 0) 61)) := ⟨_, rfl⟩
  have hI : W.heap[w.heap.size]? = some (.cells #[.int .i64 64768, .int .i64 a, .int .i64 b, .int .u64 lo, .int .u64 hi, L] 65 (0, 0)) := hW ▸ heap_alloc3_0 _ _ _ _
  have hV : W.heap[w.heap.size + 1]? = some (.cells (cells old) 61 (0, 0)) := hW ▸ heap_alloc3_1 _ _ _ _
  have hR : W.heap[w.heap.size + 1 + 1]? = some (.cells (cells 0) 61 (0, 0)) := hW ▸ heap_alloc3_2 _ _ _ _
  have hZ : Below w.heap.size w W := hW ▸ below_alloc3 _ _ _ _
  rw [← hW]
  clear hW
  refine (HM.out _).mono ?_
  rintro e u1 ⟨rfl, hb1⟩
  have hI1 := (hb1.block _ (block_lt hI)).trans hI
  have hV1 := (hb1.block _ (block_lt hV)).trans hV
  have hR1 := (hb1.block _ (block_lt hR)).trans hR
  have c0 : u1.cell? ⟨w.heap.size, 0, none⟩ = some (.int .i64 64768) := by rw [cell_of_row u1 _ 0 _ _ _ hI1]; rfl
  have c3 : u1.cell? ⟨w.heap.size, 3, none⟩ = some (.int .u64 lo) := by rw [cell_of_row u1 _ 3 _ _ _ hI1]; rfl
  have hm := h.below (hZ.trans (hb1.mono hZ.size))
  have hZ1 := hZ.trans (hb1.mono hZ.size)
  clear hI hV hR hb1 hZ h hI1
  go_wp2_with (go_at_call 34; ((with_reducible refine (HS.out _).mono ?_); rintro e u ⟨rfl, rfl⟩))
  refine (load_z o _ hm (at_ + b + 8) 8 0 (loadN o.β (A + 8) 8) (by omega) (by decide) (by unfold mayE; rw [if_pos (by decide), if_pos (by omega)]) (fun _ => by congr 1; omega) (fun h => absurd rfl h)).mono ?_
  rintro e u2 ⟨rfl, rfl⟩
  go_wp2_with fail
  refine (load_z o _ hm (at_ + b) 8 0 (loadN o.β A 8) (by omega) (by decide) (by unfold mayE; rw [if_pos (by decide), if_pos (by omega)]) (fun _ => by congr 1; omega) (fun h => absurd rfl h)).mono ?_
  rintro e u3 ⟨rfl, rfl⟩
  go_wp2_with fail
  refine (join_k _ _ _).mono ?_
  rintro e u4 ⟨rfl, hb4⟩
  replace hR1 := (hb4.block _ (block_lt hR1)).trans hR1
  replace hZ1 := hZ1.trans (hb4.mono hZ1.size)
  go_wp2_with ((with_reducible refine store_vec rfl _ _ rfl (w.heap.size + 1 + 1) _ rfl rfl _ hR1 ?_); intro wq hq)
  exact bodyPost_ret (results_vec_tmp rfl _ _ (w.heap.size + 1 + 1) _ _ rfl rfl hq.this) rfl ⟨rfl, hZ1.trans (hq.below.mono (by omega))⟩

set_option maxRecDepth 100000 in
theorem vload_00_far (o : MObj) (old : Vec) (a b : Int) (lo : Int) (hi at_ : Int) (L : Value) (A : Nat) (w : World) (h : MemAt w o) (ha : 0 ≤ at_ ∧ at_ < 4294967296) (hb : 0 ≤ b ∧ b < 4294967296) (hA : (A : Int) = at_ + b)  (hin : ¬ A + 16 ≤ o.n) :
    Calls Try.prog 29 #[.pointer (some ⟨o.p, 0, none⟩), inV 64768 a b lo hi L, .int .u32 at_, .agg (cells old)] w fun e w' => e = .returned (.tuple #[.agg (cells 0), .int .i64 23]) ∧ Below w.heap.size w w' := by
  have HM := Lib.hid (fun W => vmay_00 ⟨o.p, 0, none⟩ a b lo hi at_ L W ha hb)
  have HS := Lib.hid (fun W => vsize_00 W)
  go_enter Try.func29, Try.ntmps29
  go_wp2_with fail
  rw [← cells_zero]
  obtain ⟨W, hW⟩ : ∃ W, W = (((w.alloc (.cells #[.int .i64 64768, .int .i64 a, .int .i64 b, .int .u64 lo, .int .u64 hi, L] 65)).alloc (.cells (cells old) 61)).alloc (.cells (cells 0) 61)) := ⟨_, rfl⟩
  have hI : W.heap[w.heap.size]? = some (.cells #[.int .i64 64768, .int .i64 a, .int .i64 b, .int .u64 lo, .int .u64 hi, L] 65 (0, 0)) := hW ▸ heap_alloc3_0 _ _ _ _
  have hV : W.heap[w.heap.size + 1]? = some (.cells (cells old) 61 (0, 0)) := hW ▸ heap_alloc3_1 _ _ _ _
  have hR : W.heap[w.heap.size + 1 + 1]? = some (.cells (cells 0) 61 (0, 0)) := hW ▸ heap_alloc3_2 _ _ _ _
  have hZ : Below w.heap.size w W := hW ▸ below_alloc3 _ _ _ _
  rw [← hW]
  clear hW
  refine (HM.out _).mono ?_
  rintro e u1 ⟨rfl, hb1⟩
  have hI1 := (hb1.block _ (block_lt hI)).trans hI
  have hV1 := (hb1.block _ (block_lt hV)).trans hV
  have hR1 := (hb1.block _ (block_lt hR)).trans hR
  have c0 : u1.cell? ⟨w.heap.size, 0, none⟩ = some (.int .i64 64768) := by rw [cell_of_row u1 _ 0 _ _ _ hI1]; rfl
  have c3 : u1.cell? ⟨w.heap.size, 3, none⟩ = some (.int .u64 lo) := by rw [cell_of_row u1 _ 3 _ _ _ hI1]; rfl
  have hm := h.below (hZ.trans (hb1.mono hZ.size))
  have hZ1 := hZ.trans (hb1.mono hZ.size)
  clear hI hV hR hb1 hZ h hI1
  go_wp2_with (go_at_call 34; ((with_reducible refine (HS.out _).mono ?_); rintro e u ⟨rfl, rfl⟩))
  refine (load_z o _ hm (at_ + b + 8) 8 23 0 (by omega) (by decide) (by unfold mayE; rw [if_pos (by decide), if_neg (by omega)]) (fun h => absurd h (by decide)) (fun _ => rfl)).mono ?_
  rintro e u2 ⟨rfl, rfl⟩
  go_wp2_with ((with_reducible refine store_zero rfl _ _ rfl (w.heap.size + 1 + 1) rfl rfl _ hR1 ?_); intro wq hq)
  exact bodyPost_ret (results_vec_tmp rfl _ _ (w.heap.size + 1 + 1) _ _ rfl rfl hq.this) rfl ⟨rfl, hZ1.trans (hq.below.mono (by omega))⟩

set_option maxRecDepth 100000 in
theorem vload_54 (o : MObj) (old : Vec) (a b : Int) (lo : Nat) (hi at_ : Int) (L : Value) (A : Nat) (w : World) (h : MemAt w o) (ha : 0 ≤ at_ ∧ at_ < 4294967296) (hb : 0 ≤ b ∧ b < 4294967296) (hA : (A : Int) = at_ + b) (hl : lo < 16) (hin : A + 1 ≤ o.n) :
    Calls Try.prog 29 #[.pointer (some ⟨o.p, 0, none⟩), inV 64852 a b (lo : Nat) hi L, .int .u32 at_, .agg (cells old)] w fun e w' => e = .returned (.tuple #[.agg (cells (setN old 8 lo (loadN o.β A 1))), .int .i64 0]) ∧ Below w.heap.size w w' := by
  have HM := Lib.hid (fun W => vmay_54 ⟨o.p, 0, none⟩ a b ((lo : Nat) : Int) hi at_ L W ha hb ⟨by omega, by omega⟩)
  have HS := Lib.hid (fun W => vsize_54 W)
  go_enter Try.func29, Try.ntmps29
  go_wp2_with fail
  rw [← cells_zero]
  obtain ⟨W, hW⟩ : ∃ W, W = (((w.alloc (.cells #[.int .i64 64852, .int .i64 a, .int .i64 b, .int .u64 (lo : Nat), .int .u64 hi, L] 65)).alloc (.cells (cells old) 61)).alloc (.cells (cells 0) 61)) := ⟨_, rfl⟩
  have hI : W.heap[w.heap.size]? = some (.cells #[.int .i64 64852, .int .i64 a, .int .i64 b, .int .u64 (lo : Nat), .int .u64 hi, L] 65 (0, 0)) := hW ▸ heap_alloc3_0 _ _ _ _
  have hV : W.heap[w.heap.size + 1]? = some (.cells (cells old) 61 (0, 0)) := hW ▸ heap_alloc3_1 _ _ _ _
  have hR : W.heap[w.heap.size + 1 + 1]? = some (.cells (cells 0) 61 (0, 0)) := hW ▸ heap_alloc3_2 _ _ _ _
  have hZ : Below w.heap.size w W := hW ▸ below_alloc3 _ _ _ _
  rw [← hW]
  clear hW
  refine (HM.out _).mono ?_
  rintro e u1 ⟨rfl, hb1⟩
  have hI1 := (hb1.block _ (block_lt hI)).trans hI
  have hV1 := (hb1.block _ (block_lt hV)).trans hV
  have hR1 := (hb1.block _ (block_lt hR)).trans hR
  have c0 : u1.cell? ⟨w.heap.size, 0, none⟩ = some (.int .i64 64852) := by rw [cell_of_row u1 _ 0 _ _ _ hI1]; rfl
  have c3 : u1.cell? ⟨w.heap.size, 3, none⟩ = some (.int .u64 (lo : Nat)) := by rw [cell_of_row u1 _ 3 _ _ _ hI1]; rfl
  have hm := h.below (hZ.trans (hb1.mono hZ.size))
  have hZ1 := hZ.trans (hb1.mono hZ.size)
  clear hI hV hR hb1 hZ h hI1
  go_wp2_with (go_at_call 34; ((with_reducible refine (HS.out _).mono ?_); rintro e u ⟨rfl, rfl⟩))
  refine (load_z o _ hm (at_ + b) 1 0 (loadN o.β A 1) (by omega) (by decide) (by unfold mayE; rw [if_pos (by decide), if_pos (by omega)]) (fun _ => by congr 1; omega) (fun h => absurd rfl h)).mono ?_
  rintro e u2 ⟨rfl, rfl⟩
  go_wp2_with (with_reducible refine load_vec rfl _ rfl _ rfl _ hV1 ?_)
  refine (set8z old _ _ lo (loadN o.β A 1) _ rfl rfl (by omega)).mono ?_
  rintro e u4 ⟨rfl, hb4⟩
  replace hR1 := (hb4.block _ (block_lt hR1)).trans hR1
  replace hZ1 := hZ1.trans (hb4.mono hZ1.size)
  go_wp2_with ((with_reducible refine store_vec rfl _ _ rfl (w.heap.size + 1 + 1) _ rfl rfl _ hR1 ?_); intro wq hq)
  exact bodyPost_ret (results_vec_tmp rfl _ _ (w.heap.size + 1 + 1) _ _ rfl rfl hq.this) rfl ⟨rfl, hZ1.trans (hq.below.mono (by omega))⟩

set_option maxRecDepth 100000 in
theorem vload_54_far (o : MObj) (old : Vec) (a b : Int) (lo : Nat) (hi at_ : Int) (L : Value) (A : Nat) (w : World) (h : MemAt w o) (ha : 0 ≤ at_ ∧ at_ < 4294967296) (hb : 0 ≤ b ∧ b < 4294967296) (hA : (A : Int) = at_ + b) (hl : lo < 16) (hin : ¬ A + 1 ≤ o.n) :
    Calls Try.prog 29 #[.pointer (some ⟨o.p, 0, none⟩), inV 64852 a b (lo : Nat) hi L, .int .u32 at_, .agg (cells old)] w fun e w' => e = .returned (.tuple #[.agg (cells 0), .int .i64 23]) ∧ Below w.heap.size w w' := by
  have HM := Lib.hid (fun W => vmay_54 ⟨o.p, 0, none⟩ a b ((lo : Nat) : Int) hi at_ L W ha hb ⟨by omega, by omega⟩)
  have HS := Lib.hid (fun W => vsize_54 W)
  go_enter Try.func29, Try.ntmps29
  go_wp2_with fail
  rw [← cells_zero]
  obtain ⟨W, hW⟩ : ∃ W, W = (((w.alloc (.cells #[.int .i64 64852, .int .i64 a, .int .i64 b, .int .u64 (lo : Nat), .int .u64 hi, L] 65)).alloc (.cells (cells old) 61)).alloc (.cells (cells 0) 61)) := ⟨_, rfl⟩
  have hI : W.heap[w.heap.size]? = some (.cells #[.int .i64 64852, .int .i64 a, .int .i64 b, .int .u64 (lo : Nat), .int .u64 hi, L] 65 (0, 0)) := hW ▸ heap_alloc3_0 _ _ _ _
  have hV : W.heap[w.heap.size + 1]? = some (.cells (cells old) 61 (0, 0)) := hW ▸ heap_alloc3_1 _ _ _ _
  have hR : W.heap[w.heap.size + 1 + 1]? = some (.cells (cells 0) 61 (0, 0)) := hW ▸ heap_alloc3_2 _ _ _ _
  have hZ : Below w.heap.size w W := hW ▸ below_alloc3 _ _ _ _
  rw [← hW]
  clear hW
  refine (HM.out _).mono ?_
  rintro e u1 ⟨rfl, hb1⟩
  have hI1 := (hb1.block _ (block_lt hI)).trans hI
  have hV1 := (hb1.block _ (block_lt hV)).trans hV
  have hR1 := (hb1.block _ (block_lt hR)).trans hR
  have c0 : u1.cell? ⟨w.heap.size, 0, none⟩ = some (.int .i64 64852) := by rw [cell_of_row u1 _ 0 _ _ _ hI1]; rfl
  have c3 : u1.cell? ⟨w.heap.size, 3, none⟩ = some (.int .u64 (lo : Nat)) := by rw [cell_of_row u1 _ 3 _ _ _ hI1]; rfl
  have hm := h.below (hZ.trans (hb1.mono hZ.size))
  have hZ1 := hZ.trans (hb1.mono hZ.size)
  clear hI hV hR hb1 hZ h hI1
  go_wp2_with (go_at_call 34; ((with_reducible refine (HS.out _).mono ?_); rintro e u ⟨rfl, rfl⟩))
  refine (load_z o _ hm (at_ + b) 1 23 0 (by omega) (by decide) (by unfold mayE; rw [if_pos (by decide), if_neg (by omega)]) (fun h => absurd h (by decide)) (fun _ => rfl)).mono ?_
  rintro e u2 ⟨rfl, rfl⟩
  go_wp2_with ((with_reducible refine store_zero rfl _ _ rfl (w.heap.size + 1 + 1) rfl rfl _ hR1 ?_); intro wq hq)
  exact bodyPost_ret (results_vec_tmp rfl _ _ (w.heap.size + 1 + 1) _ _ rfl rfl hq.this) rfl ⟨rfl, hZ1.trans (hq.below.mono (by omega))⟩

set_option maxRecDepth 100000 in
theorem vload_55 (o : MObj) (old : Vec) (a b : Int) (lo : Nat) (hi at_ : Int) (L : Value) (A : Nat) (w : World) (h : MemAt w o) (ha : 0 ≤ at_ ∧ at_ < 4294967296) (hb : 0 ≤ b ∧ b < 4294967296) (hA : (A : Int) = at_ + b) (hl : lo < 8) (hin : A + 2 ≤ o.n) :
    Calls Try.prog 29 #[.pointer (some ⟨o.p, 0, none⟩), inV 64853 a b (lo : Nat) hi L, .int .u32 at_, .agg (cells old)] w fun e w' => e = .returned (.tuple #[.agg (cells (setN old 16 lo (loadN o.β A 2))), .int .i64 0]) ∧ Below w.heap.size w w' := by
  have HM := Lib.hid (fun W => vmay_55 ⟨o.p, 0, none⟩ a b ((lo : Nat) : Int) hi at_ L W ha hb ⟨by omega, by omega⟩)
  have HS := Lib.hid (fun W => vsize_55 W)
  go_enter Try.func29, Try.ntmps29
  go_wp2_with fail
  rw [← cells_zero]
  obtain ⟨W, hW⟩ : ∃ W, W = (((w.alloc (.cells #[.int .i64 64853, .int .i64 a, .int .i64 b, .int .u64 (lo : Nat), .int .u64 hi, L] 65)).alloc (.cells (cells old) 61)).alloc (.cells (cells 0) 61)) := ⟨_, rfl⟩
  have hI : W.heap[w.heap.size]? = some (.cells #[.int .i64 64853, .int .i64 a, .int .i64 b, .int .u64 (lo : Nat), .int .u64 hi, L] 65 (0, 0)) := hW ▸ heap_alloc3_0 _ _ _ _
  have hV : W.heap[w.heap.size + 1]? = some (.cells (cells old) 61 (0, 0)) := hW ▸ heap_alloc3_1 _ _ _ _
  have hR : W.heap[w.heap.size + 1 + 1]? = some (.cells (cells 0) 61 (0, 0)) := hW ▸ heap_alloc3_2 _ _ _ _
  have hZ : Below w.heap.size w W := hW ▸ below_alloc3 _ _ _ _
  rw [← hW]
  clear hW
  refine (HM.out _).mono ?_
  rintro e u1 ⟨rfl, hb1⟩
  have hI1 := (hb1.block _ (block_lt hI)).trans hI
  have hV1 := (hb1.block _ (block_lt hV)).trans hV
  have hR1 := (hb1.block _ (block_lt hR)).trans hR
  have c0 : u1.cell? ⟨w.heap.size, 0, none⟩ = some (.int .i64 64853) := by rw [cell_of_row u1 _ 0 _ _ _ hI1]; rfl
  have c3 : u1.cell? ⟨w.heap.size, 3, none⟩ = some (.int .u64 (lo : Nat)) := by rw [cell_of_row u1 _ 3 _ _ _ hI1]; rfl
  have hm := h.below (hZ.trans (hb1.mono hZ.size))
  have hZ1 := hZ.trans (hb1.mono hZ.size)
  clear hI hV hR hb1 hZ h hI1
  go_wp2_with (go_at_call 34; ((with_reducible refine (HS.out _).mono ?_); rintro e u ⟨rfl, rfl⟩))
  refine (load_z o _ hm (at_ + b) 2 0 (loadN o.β A 2) (by omega) (by decide) (by unfold mayE; rw [if_pos (by decide), if_pos (by omega)]) (fun _ => by congr 1; omega) (fun h => absurd rfl h)).mono ?_
  rintro e u2 ⟨rfl, rfl⟩
  go_wp2_with (with_reducible refine load_vec rfl _ rfl _ rfl _ hV1 ?_)
  refine (set16z old _ _ lo (loadN o.β A 2) _ rfl rfl (by omega)).mono ?_
  rintro e u4 ⟨rfl, hb4⟩
  replace hR1 := (hb4.block _ (block_lt hR1)).trans hR1
  replace hZ1 := hZ1.trans (hb4.mono hZ1.size)
  go_wp2_with ((with_reducible refine store_vec rfl _ _ rfl (w.heap.size + 1 + 1) _ rfl rfl _ hR1 ?_); intro wq hq)
  exact bodyPost_ret (results_vec_tmp rfl _ _ (w.heap.size + 1 + 1) _ _ rfl rfl hq.this) rfl ⟨rfl, hZ1.trans (hq.below.mono (by omega))⟩

set_option maxRecDepth 100000 in
theorem vload_55_far (o : MObj) (old : Vec) (a b : Int) (lo : Nat) (hi at_ : Int) (L : Value) (A : Nat) (w : World) (h : MemAt w o) (ha : 0 ≤ at_ ∧ at_ < 4294967296) (hb : 0 ≤ b ∧ b < 4294967296) (hA : (A : Int) = at_ + b) (hl : lo < 8) (hin : ¬ A + 2 ≤ o.n) :
    Calls Try.prog 29 #[.pointer (some ⟨o.p, 0, none⟩), inV 64853 a b (lo : Nat) hi L, .int .u32 at_, .agg (cells old)] w fun e w' => e = .returned (.tuple #[.agg (cells 0), .int .i64 23]) ∧ Below w.heap.size w w' := by
  have HM := Lib.hid (fun W => vmay_55 ⟨o.p, 0, none⟩ a b ((lo : Nat) : Int) hi at_ L W ha hb ⟨by omega, by omega⟩)
  have HS := Lib.hid (fun W => vsize_55 W)
  go_enter Try.func29, Try.ntmps29
  go_wp2_with fail
  rw [← cells_zero]
  obtain ⟨W, hW⟩ : ∃ W, W = (((w.alloc (.cells #[.int .i64 64853, .int .i64 a, .int .i64 b, .int .u64 (lo : Nat), .int .u64 hi, L] 65)).alloc (.cells (cells old) 61)).alloc (.cells (cells 0) 61)) := ⟨_, rfl⟩
  have hI : W.heap[w.heap.size]? = some (.cells #[.int .i64 64853, .int .i64 a, .int .i64 b, .int .u64 (lo : Nat), .int .u64 hi, L] 65 (0, 0)) := hW ▸ heap_alloc3_0 _ _ _ _
  have hV : W.heap[w.heap.size + 1]? = some (.cells (cells old) 61 (0, 0)) := hW ▸ heap_alloc3_1 _ _ _ _
  have hR : W.heap[w.heap.size + 1 + 1]? = some (.cells (cells 0) 61 (0, 0)) := hW ▸ heap_alloc3_2 _ _ _ _
  have hZ : Below w.heap.size w W := hW ▸ below_alloc3 _ _ _ _
  rw [← hW]
  clear hW
  refine (HM.out _).mono ?_
  rintro e u1 ⟨rfl, hb1⟩
  have hI1 := (hb1.block _ (block_lt hI)).trans hI
  have hV1 := (hb1.block _ (block_lt hV)).trans hV
  have hR1 := (hb1.block _ (block_lt hR)).trans hR
  have c0 : u1.cell? ⟨w.heap.size, 0, none⟩ = some (.int .i64 64853) := by rw [cell_of_row u1 _ 0 _ _ _ hI1]; rfl
  have c3 : u1.cell? ⟨w.heap.size, 3, none⟩ = some (.int .u64 (lo : Nat)) := by rw [cell_of_row u1 _ 3 _ _ _ hI1]; rfl
  have hm := h.below (hZ.trans (hb1.mono hZ.size))
  have hZ1 := hZ.trans (hb1.mono hZ.size)
  clear hI hV hR hb1 hZ h hI1
  go_wp2_with (go_at_call 34; ((with_reducible refine (HS.out _).mono ?_); rintro e u ⟨rfl, rfl⟩))
  refine (load_z o _ hm (at_ + b) 2 23 0 (by omega) (by decide) (by unfold mayE; rw [if_pos (by decide), if_neg (by omega)]) (fun h => absurd h (by decide)) (fun _ => rfl)).mono ?_
  rintro e u2 ⟨rfl, rfl⟩
  go_wp2_with ((with_reducible refine store_zero rfl _ _ rfl (w.heap.size + 1 + 1) rfl rfl _ hR1 ?_); intro wq hq)
  exact bodyPost_ret (results_vec_tmp rfl _ _ (w.heap.size + 1 + 1) _ _ rfl rfl hq.this) rfl ⟨rfl, hZ1.trans (hq.below.mono (by omega))⟩

set_option maxRecDepth 100000 in
theorem vload_56 (o : MObj) (old : Vec) (a b : Int) (lo : Nat) (hi at_ : Int) (L : Value) (A : Nat) (w : World) (h : MemAt w o) (ha : 0 ≤ at_ ∧ at_ < 4294967296) (hb : 0 ≤ b ∧ b < 4294967296) (hA : (A : Int) = at_ + b) (hl : lo < 4) (hin : A + 4 ≤ o.n) :
    Calls Try.prog 29 #[.pointer (some ⟨o.p, 0, none⟩), inV 64854 a b (lo : Nat) hi L, .int .u32 at_, .agg (cells old)] w fun e w' => e = .returned (.tuple #[.agg (cells (setN old 32 lo (loadN o.β A 4))), .int .i64 0]) ∧ Below w.heap.size w w' := by
  have HM := Lib.hid (fun W => vmay_56 ⟨o.p, 0, none⟩ a b ((lo : Nat) : Int) hi at_ L W ha hb ⟨by omega, by omega⟩)
  have HS := Lib.hid (fun W => vsize_56 W)
  go_enter Try.func29, Try.ntmps29
  go_wp2_with fail
  rw [← cells_zero]
  obtain ⟨W, hW⟩ : ∃ W, W = (((w.alloc (.cells #[.int .i64 64854, .int .i64 a, .int .i64 b, .int .u64 (lo : Nat), .int .u64 hi, L] 65)).alloc (.cells (cells old) 61)).alloc (.cells (cells 0) 61)) := ⟨_, rfl⟩
  have hI : W.heap[w.heap.size]? = some (.cells #[.int .i64 64854, .int .i64 a, .int .i64 b, .int .u64 (lo : Nat), .int .u64 hi, L] 65 (0, 0)) := hW ▸ heap_alloc3_0 _ _ _ _
  have hV : W.heap[w.heap.size + 1]? = some (.cells (cells old) 61 (0, 0)) := hW ▸ heap_alloc3_1 _ _ _ _
  have hR : W.heap[w.heap.size + 1 + 1]? = some (.cells (cells 0) 61 (0, 0)) := hW ▸ heap_alloc3_2 _ _ _ _
  have hZ : Below w.heap.size w W := hW ▸ below_alloc3 _ _ _ _
  rw [← hW]
  clear hW
  refine (HM.out _).mono ?_
  rintro e u1 ⟨rfl, hb1⟩
  have hI1 := (hb1.block _ (block_lt hI)).trans hI
  have hV1 := (hb1.block _ (block_lt hV)).trans hV
  have hR1 := (hb1.block _ (block_lt hR)).trans hR
  have c0 : u1.cell? ⟨w.heap.size, 0, none⟩ = some (.int .i64 64854) := by rw [cell_of_row u1 _ 0 _ _ _ hI1]; rfl
  have c3 : u1.cell? ⟨w.heap.size, 3, none⟩ = some (.int .u64 (lo : Nat)) := by rw [cell_of_row u1 _ 3 _ _ _ hI1]; rfl
  have hm := h.below (hZ.trans (hb1.mono hZ.size))
  have hZ1 := hZ.trans (hb1.mono hZ.size)
  clear hI hV hR hb1 hZ h hI1
  go_wp2_with (go_at_call 34; ((with_reducible refine (HS.out _).mono ?_); rintro e u ⟨rfl, rfl⟩))
  refine (load_z o _ hm (at_ + b) 4 0 (loadN o.β A 4) (by omega) (by decide) (by unfold mayE; rw [if_pos (by decide), if_pos (by omega)]) (fun _ => by congr 1; omega) (fun h => absurd rfl h)).mono ?_
  rintro e u2 ⟨rfl, rfl⟩
  go_wp2_with (with_reducible refine load_vec rfl _ rfl _ rfl _ hV1 ?_)
  refine (set32z old _ _ lo (loadN o.β A 4) _ rfl rfl (by omega)).mono ?_
  rintro e u4 ⟨rfl, hb4⟩
  replace hR1 := (hb4.block _ (block_lt hR1)).trans hR1
  replace hZ1 := hZ1.trans (hb4.mono hZ1.size)
  go_wp2_with ((with_reducible refine store_vec rfl _ _ rfl (w.heap.size + 1 + 1) _ rfl rfl _ hR1 ?_); intro wq hq)
  exact bodyPost_ret (results_vec_tmp rfl _ _ (w.heap.size + 1 + 1) _ _ rfl rfl hq.this) rfl ⟨rfl, hZ1.trans (hq.below.mono (by omega))⟩

set_option maxRecDepth 100000 in
theorem vload_56_far (o : MObj) (old : Vec) (a b : Int) (lo : Nat) (hi at_ : Int) (L : Value) (A : Nat) (w : World) (h : MemAt w o) (ha : 0 ≤ at_ ∧ at_ < 4294967296) (hb : 0 ≤ b ∧ b < 4294967296) (hA : (A : Int) = at_ + b) (hl : lo < 4) (hin : ¬ A + 4 ≤ o.n) :
    Calls Try.prog 29 #[.pointer (some ⟨o.p, 0, none⟩), inV 64854 a b (lo : Nat) hi L, .int .u32 at_, .agg (cells old)] w fun e w' => e = .returned (.tuple #[.agg (cells 0), .int .i64 23]) ∧ Below w.heap.size w w' := by
  have HM := Lib.hid (fun W => vmay_56 ⟨o.p, 0, none⟩ a b ((lo : Nat) : Int) hi at_ L W ha hb ⟨by omega, by omega⟩)
  have HS := Lib.hid (fun W => vsize_56 W)
  go_enter Try.func29, Try.ntmps29
  go_wp2_with fail
  rw [← cells_zero]
  obtain ⟨W, hW⟩ : ∃ W, W = (((w.alloc (.cells #[.int .i64 64854, .int .i64 a, .int .i64 b, .int .u64 (lo : Nat), .int .u64 hi, L] 65)).alloc (.cells (cells old) 61)).alloc (.cells (cells 0) 61)) := ⟨_, rfl⟩
  have hI : W.heap[w.heap.size]? = some (.cells #[.int .i64 64854, .int .i64 a, .int .i64 b, .int .u64 (lo : Nat), .int .u64 hi, L] 65 (0, 0)) := hW ▸ heap_alloc3_0 _ _ _ _
  have hV : W.heap[w.heap.size + 1]? = some (.cells (cells old) 61 (0, 0)) := hW ▸ heap_alloc3_1 _ _ _ _
  have hR : W.heap[w.heap.size + 1 + 1]? = some (.cells (cells 0) 61 (0, 0)) := hW ▸ heap_alloc3_2 _ _ _ _
  have hZ : Below w.heap.size w W := hW ▸ below_alloc3 _ _ _ _
  rw [← hW]
  clear hW
  refine (HM.out _).mono ?_
  rintro e u1 ⟨rfl, hb1⟩
  have hI1 := (hb1.block _ (block_lt hI)).trans hI
  have hV1 := (hb1.block _ (block_lt hV)).trans hV
  have hR1 := (hb1.block _ (block_lt hR)).trans hR
  have c0 : u1.cell? ⟨w.heap.size, 0, none⟩ = some (.int .i64 64854) := by rw [cell_of_row u1 _ 0 _ _ _ hI1]; rfl
  have c3 : u1.cell? ⟨w.heap.size, 3, none⟩ = some (.int .u64 (lo : Nat)) := by rw [cell_of_row u1 _ 3 _ _ _ hI1]; rfl
  have hm := h.below (hZ.trans (hb1.mono hZ.size))
  have hZ1 := hZ.trans (hb1.mono hZ.size)
  clear hI hV hR hb1 hZ h hI1
  go_wp2_with (go_at_call 34; ((with_reducible refine (HS.out _).mono ?_); rintro e u ⟨rfl, rfl⟩))
  refine (load_z o _ hm (at_ + b) 4 23 0 (by omega) (by decide) (by unfold mayE; rw [if_pos (by decide), if_neg (by omega)]) (fun h => absurd h (by decide)) (fun _ => rfl)).mono ?_
  rintro e u2 ⟨rfl, rfl⟩
  go_wp2_with ((with_reducible refine store_zero rfl _ _ rfl (w.heap.size + 1 + 1) rfl rfl _ hR1 ?_); intro wq hq)
  exact bodyPost_ret (results_vec_tmp rfl _ _ (w.heap.size + 1 + 1) _ _ rfl rfl hq.this) rfl ⟨rfl, hZ1.trans (hq.below.mono (by omega))⟩

set_option maxRecDepth 100000 in
theorem vload_57 (o : MObj) (old : Vec) (a b : Int) (lo : Nat) (hi at_ : Int) (L : Value) (A : Nat) (w : World) (h : MemAt w o) (ha : 0 ≤ at_ ∧ at_ < 4294967296) (hb : 0 ≤ b ∧ b < 4294967296) (hA : (A : Int) = at_ + b) (hl : lo < 2) (hin : A + 8 ≤ o.n) :
    Calls Try.prog 29 #[.pointer (some ⟨o.p, 0, none⟩), inV 64855 a b (lo : Nat) hi L, .int .u32 at_, .agg (cells old)] w fun e w' => e = .returned (.tuple #[.agg (cells (setN old 64 lo (loadN o.β A 8))), .int .i64 0]) ∧ Below w.heap.size w w' := by
  have HM := Lib.hid (fun W => vmay_57 ⟨o.p, 0, none⟩ a b ((lo : Nat) : Int) hi at_ L W ha hb ⟨by omega, by omega⟩)
  have HS := Lib.hid (fun W => vsize_57 W)
  go_enter Try.func29, Try.ntmps29
  go_wp2_with fail
  rw [← cells_zero]
  obtain ⟨W, hW⟩ : ∃ W, W = (((w.alloc (.cells #[.int .i64 64855, .int .i64 a, .int .i64 b, .int .u64 (lo : Nat), .int .u64 hi, L] 65)).alloc (.cells (cells old) 61)).alloc (.cells (cells 0) 61)) := ⟨_, rfl⟩
  have hI : W.heap[w.heap.size]? = some (.cells #[.int .i64 64855, .int .i64 a, .int .i64 b, .int .u64 (lo : Nat), .int .u64 hi, L] 65 (0, 0)) := hW ▸ heap_alloc3_0 _ _ _ _
  have hV : W.heap[w.heap.size + 1]? = some (.cells (cells old) 61 (0, 0)) := hW ▸ heap_alloc3_1 _ _ _ _
  have hR : W.heap[w.heap.size + 1 + 1]? = some (.cells (cells 0) 61 (0, 0)) := hW ▸ heap_alloc3_2 _ _ _ _
  have hZ : Below w.heap.size w W := hW ▸ below_alloc3 _ _ _ _
  rw [← hW]
  clear hW
  refine (HM.out _).mono ?_
  rintro e u1 ⟨rfl, hb1⟩
  have hI1 := (hb1.block _ (block_lt hI)).trans hI
  have hV1 := (hb1.block _ (block_lt hV)).trans hV
  have hR1 := (hb1.block _ (block_lt hR)).trans hR
  have c0 : u1.cell? ⟨w.heap.size, 0, none⟩ = some (.int .i64 64855) := by rw [cell_of_row u1 _ 0 _ _ _ hI1]; rfl
  have c3 : u1.cell? ⟨w.heap.size, 3, none⟩ = some (.int .u64 (lo : Nat)) := by rw [cell_of_row u1 _ 3 _ _ _ hI1]; rfl
  have hm := h.below (hZ.trans (hb1.mono hZ.size))
  have hZ1 := hZ.trans (hb1.mono hZ.size)
  clear hI hV hR hb1 hZ h hI1
  go_wp2_with (go_at_call 34; ((with_reducible refine (HS.out _).mono ?_); rintro e u ⟨rfl, rfl⟩))
  refine (load_z o _ hm (at_ + b) 8 0 (loadN o.β A 8) (by omega) (by decide) (by unfold mayE; rw [if_pos (by decide), if_pos (by omega)]) (fun _ => by congr 1; omega) (fun h => absurd rfl h)).mono ?_
  rintro e u2 ⟨rfl, rfl⟩
  go_wp2_with (with_reducible refine load_vec rfl _ rfl _ rfl _ hV1 ?_)
  refine (set64z old _ _ lo (loadN o.β A 8) _ rfl rfl (by omega)).mono ?_
  rintro e u4 ⟨rfl, hb4⟩
  replace hR1 := (hb4.block _ (block_lt hR1)).trans hR1
  replace hZ1 := hZ1.trans (hb4.mono hZ1.size)
  go_wp2_with ((with_reducible refine store_vec rfl _ _ rfl (w.heap.size + 1 + 1) _ rfl rfl _ hR1 ?_); intro wq hq)
  exact bodyPost_ret (results_vec_tmp rfl _ _ (w.heap.size + 1 + 1) _ _ rfl rfl hq.this) rfl ⟨rfl, hZ1.trans (hq.below.mono (by omega))⟩

set_option maxRecDepth 100000 in
theorem vload_57_far (o : MObj) (old : Vec) (a b : Int) (lo : Nat) (hi at_ : Int) (L : Value) (A : Nat) (w : World) (h : MemAt w o) (ha : 0 ≤ at_ ∧ at_ < 4294967296) (hb : 0 ≤ b ∧ b < 4294967296) (hA : (A : Int) = at_ + b) (hl : lo < 2) (hin : ¬ A + 8 ≤ o.n) :
    Calls Try.prog 29 #[.pointer (some ⟨o.p, 0, none⟩), inV 64855 a b (lo : Nat) hi L, .int .u32 at_, .agg (cells old)] w fun e w' => e = .returned (.tuple #[.agg (cells 0), .int .i64 23]) ∧ Below w.heap.size w w' := by
  have HM := Lib.hid (fun W => vmay_57 ⟨o.p, 0, none⟩ a b ((lo : Nat) : Int) hi at_ L W ha hb ⟨by omega, by omega⟩)
  have HS := Lib.hid (fun W => vsize_57 W)
  go_enter Try.func29, Try.ntmps29
  go_wp2_with fail
  rw [← cells_zero]
  obtain ⟨W, hW⟩ : ∃ W, W = (((w.alloc (.cells #[.int .i64 64855, .int .i64 a, .int .i64 b, .int .u64 (lo : Nat), .int .u64 hi, L] 65)).alloc (.cells (cells old) 61)).alloc (.cells (cells 0) 61)) := ⟨_, rfl⟩
  have hI : W.heap[w.heap.size]? = some (.cells #[.int .i64 64855, .int .i64 a, .int .i64 b, .int .u64 (lo : Nat), .int .u64 hi, L] 65 (0, 0)) := hW ▸ heap_alloc3_0 _ _ _ _
  have hV : W.heap[w.heap.size + 1]? = some (.cells (cells old) 61 (0, 0)) := hW ▸ heap_alloc3_1 _ _ _ _
  have hR : W.heap[w.heap.size + 1 + 1]? = some (.cells (cells 0) 61 (0, 0)) := hW ▸ heap_alloc3_2 _ _ _ _
  have hZ : Below w.heap.size w W := hW ▸ below_alloc3 _ _ _ _
  rw [← hW]
  clear hW
  refine (HM.out _).mono ?_
  rintro e u1 ⟨rfl, hb1⟩
  have hI1 := (hb1.block _ (block_lt hI)).trans hI
  have hV1 := (hb1.block _ (block_lt hV)).trans hV
  have hR1 := (hb1.block _ (block_lt hR)).trans hR
  have c0 : u1.cell? ⟨w.heap.size, 0, none⟩ = some (.int .i64 64855) := by rw [cell_of_row u1 _ 0 _ _ _ hI1]; rfl
  have c3 : u1.cell? ⟨w.heap.size, 3, none⟩ = some (.int .u64 (lo : Nat)) := by rw [cell_of_row u1 _ 3 _ _ _ hI1]; rfl
  have hm := h.below (hZ.trans (hb1.mono hZ.size))
  have hZ1 := hZ.trans (hb1.mono hZ.size)
  clear hI hV hR hb1 hZ h hI1
  go_wp2_with (go_at_call 34; ((with_reducible refine (HS.out _).mono ?_); rintro e u ⟨rfl, rfl⟩))
  refine (load_z o _ hm (at_ + b) 8 23 0 (by omega) (by decide) (by unfold mayE; rw [if_pos (by decide), if_neg (by omega)]) (fun h => absurd h (by decide)) (fun _ => rfl)).mono ?_
  rintro e u2 ⟨rfl, rfl⟩
  go_wp2_with ((with_reducible refine store_zero rfl _ _ rfl (w.heap.size + 1 + 1) rfl rfl _ hR1 ?_); intro wq hq)
  exact bodyPost_ret (results_vec_tmp rfl _ _ (w.heap.size + 1 + 1) _ _ rfl rfl hq.this) rfl ⟨rfl, hZ1.trans (hq.below.mono (by omega))⟩

set_option maxRecDepth 100000 in
theorem vstore_58 (o : MObj) (v : Vec) (a b : Int) (lo : Nat) (hi at_ : Int) (L : Value) (A : Nat) (w : World) (h : MemAt w o) (ha : 0 ≤ at_ ∧ at_ < 4294967296) (hb : 0 ≤ b ∧ b < 4294967296) (hA : (A : Int) = at_ + b) (hl : lo < 16) (hin : A + 1 ≤ o.n) :
    Calls Try.prog 28 #[.pointer (some ⟨o.p, 0, none⟩), inV 64856 a b (lo : Nat) hi L, .int .u32 at_, .agg (cells v)] w fun e w' => e = .returned (.int .i64 0) ∧ MemAt w' (withβ o (storeN o.β A (getN v 8 lo) 1)) ∧ Keep (fun k => o.q = some k) w w' := by
  have HM := Lib.hid (fun W => vmay_58 ⟨o.p, 0, none⟩ a b ((lo : Nat) : Int) hi at_ L W ha hb ⟨by omega, by omega⟩)
  have HS := Lib.hid (fun W => vsize_58 W)
  go_enter Try.func28, Try.ntmps28
  go_wp2_with fail
  obtain ⟨W, hW⟩ : ∃ W, W = ((w.alloc (.cells #[.int .i64 64856, .int .i64 a, .int .i64 b, .int .u64 (lo : Nat), .int .u64 hi, L] 65)).alloc (.cells (cells v) 61)) := ⟨_, rfl⟩
  have hI : W.heap[w.heap.size]? = some (.cells #[.int .i64 64856, .int .i64 a, .int .i64 b, .int .u64 (lo : Nat), .int .u64 hi, L] 65 (0, 0)) := hW ▸ heap_alloc2_old _ _ _
  have hV : W.heap[w.heap.size + 1]? = some (.cells (cells v) 61 (0, 0)) := hW ▸ heap_alloc2_new _ _ _
  have hZ : Below w.heap.size w W := hW ▸ ((Below.refl _ _).alloc (Nat.le_refl _) _).alloc (by simp) _
  rw [← hW]
  clear hW
  refine (HM.out _).mono ?_
  rintro e u1 ⟨rfl, hb1⟩
  have hI1 := (hb1.block _ (block_lt hI)).trans hI
  have hV1 := (hb1.block _ (block_lt hV)).trans hV
  have c0 : u1.cell? ⟨w.heap.size, 0, none⟩ = some (.int .i64 64856) := by rw [cell_of_row u1 _ 0 _ _ _ hI1]; rfl
  have c3 : u1.cell? ⟨w.heap.size, 3, none⟩ = some (.int .u64 (lo : Nat)) := by rw [cell_of_row u1 _ 3 _ _ _ hI1]; rfl
  have hm := h.below (hZ.trans (hb1.mono hZ.size))
  have hZ1 := hZ.trans (hb1.mono hZ.size)
  clear hI hV hb1 hZ h hI1
  go_wp2_with (first | (go_at_call 34; ((with_reducible refine (HS.out _).mono ?_); rintro e u ⟨rfl, rfl⟩)) | (with_reducible refine load_vec rfl _ rfl _ rfl _ hV1 ?_))
  refine (get8z v _ lo _ rfl (by omega)).mono ?_
  rintro e u2 ⟨rfl, hb2⟩
  replace hm := hm.below hb2
  replace hZ1 := hZ1.trans (hb2.mono hZ1.size)
  have hlt := getN_lt v 8 lo
  go_wp2_with fail
  refine (store_z o _ hm (at_ + b) 1 _ 0 (storeN o.β A (getN v 8 lo) 1) (by omega) (by decide) (by omega) (by show mayE o.n _ _ = 0; unfold mayE; rw [if_pos (by decide), if_pos (by omega)]) (by unfold storeB; rw [if_pos (by show mayE o.n _ _ = 0; unfold mayE; rw [if_pos (by decide), if_pos (by omega)])]; congr 1; omega)).mono ?_
  rintro e u3 ⟨rfl, hm3, hk3⟩
  go_wp2_with fail
  go_ret
  exact ⟨rfl, hm3, (Keep.of_below hZ1).trans hk3⟩

set_option maxRecDepth 100000 in
theorem vstore_58_far (o : MObj) (v : Vec) (a b : Int) (lo : Nat) (hi at_ : Int) (L : Value) (A : Nat) (w : World) (h : MemAt w o) (ha : 0 ≤ at_ ∧ at_ < 4294967296) (hb : 0 ≤ b ∧ b < 4294967296) (hA : (A : Int) = at_ + b) (hl : lo < 16) (hin : ¬ A + 1 ≤ o.n) :
    Calls Try.prog 28 #[.pointer (some ⟨o.p, 0, none⟩), inV 64856 a b (lo : Nat) hi L, .int .u32 at_, .agg (cells v)] w fun e w' => e = .returned (.int .i64 23) ∧ Below w.heap.size w w' := by
  have HM := Lib.hid (fun W => vmay_58 ⟨o.p, 0, none⟩ a b ((lo : Nat) : Int) hi at_ L W ha hb ⟨by omega, by omega⟩)
  have HS := Lib.hid (fun W => vsize_58 W)
  go_enter Try.func28, Try.ntmps28
  go_wp2_with fail
  obtain ⟨W, hW⟩ : ∃ W, W = ((w.alloc (.cells #[.int .i64 64856, .int .i64 a, .int .i64 b, .int .u64 (lo : Nat), .int .u64 hi, L] 65)).alloc (.cells (cells v) 61)) := ⟨_, rfl⟩
  have hI : W.heap[w.heap.size]? = some (.cells #[.int .i64 64856, .int .i64 a, .int .i64 b, .int .u64 (lo : Nat), .int .u64 hi, L] 65 (0, 0)) := hW ▸ heap_alloc2_old _ _ _
  have hV : W.heap[w.heap.size + 1]? = some (.cells (cells v) 61 (0, 0)) := hW ▸ heap_alloc2_new _ _ _
  have hZ : Below w.heap.size w W := hW ▸ ((Below.refl _ _).alloc (Nat.le_refl _) _).alloc (by simp) _
  rw [← hW]
  clear hW
  refine (HM.out _).mono ?_
  rintro e u1 ⟨rfl, hb1⟩
  have hI1 := (hb1.block _ (block_lt hI)).trans hI
  have hV1 := (hb1.block _ (block_lt hV)).trans hV
  have c0 : u1.cell? ⟨w.heap.size, 0, none⟩ = some (.int .i64 64856) := by rw [cell_of_row u1 _ 0 _ _ _ hI1]; rfl
  have c3 : u1.cell? ⟨w.heap.size, 3, none⟩ = some (.int .u64 (lo : Nat)) := by rw [cell_of_row u1 _ 3 _ _ _ hI1]; rfl
  have hm := h.below (hZ.trans (hb1.mono hZ.size))
  have hZ1 := hZ.trans (hb1.mono hZ.size)
  clear hI hV hb1 hZ h hI1
  go_wp2_with (first | (go_at_call 34; ((with_reducible refine (HS.out _).mono ?_); rintro e u ⟨rfl, rfl⟩)) | (with_reducible refine load_vec rfl _ rfl _ rfl _ hV1 ?_))
  refine (get8z v _ lo _ rfl (by omega)).mono ?_
  rintro e u2 ⟨rfl, hb2⟩
  replace hm := hm.below hb2
  replace hZ1 := hZ1.trans (hb2.mono hZ1.size)
  have hlt := getN_lt v 8 lo
  go_wp2_with fail
  rw [← hA]
  refine (store_err o _ hm A 1 _ (by omega) (by decide) 23 (by unfold mayE; rw [if_pos (by decide), if_neg (by omega)]) (by decide)).mono ?_
  rintro e u3 ⟨rfl, rfl⟩
  go_wp2_with fail
  go_ret
  exact ⟨rfl, hZ1⟩

set_option maxRecDepth 100000 in
theorem vstore_59 (o : MObj) (v : Vec) (a b : Int) (lo : Nat) (hi at_ : Int) (L : Value) (A : Nat) (w : World) (h : MemAt w o) (ha : 0 ≤ at_ ∧ at_ < 4294967296) (hb : 0 ≤ b ∧ b < 4294967296) (hA : (A : Int) = at_ + b) (hl : lo < 8) (hin : A + 2 ≤ o.n) :
    Calls Try.prog 28 #[.pointer (some ⟨o.p, 0, none⟩), inV 64857 a b (lo : Nat) hi L, .int .u32 at_, .agg (cells v)] w fun e w' => e = .returned (.int .i64 0) ∧ MemAt w' (withβ o (storeN o.β A (getN v 16 lo) 2)) ∧ Keep (fun k => o.q = some k) w w' := by
  have HM := Lib.hid (fun W => vmay_59 ⟨o.p, 0, none⟩ a b ((lo : Nat) : Int) hi at_ L W ha hb ⟨by omega, by omega⟩)
  have HS := Lib.hid (fun W => vsize_59 W)
  go_enter Try.func28, Try.ntmps28
  go_wp2_with fail
  obtain ⟨W, hW⟩ : ∃ W, W = ((w.alloc (.cells #[.int .i64 64857, .int .i64 a, .int .i64 b, .int .u64 (lo : Nat), .int .u64 hi, L] 65)).alloc (.cells (cells v) 61)) := ⟨_, rfl⟩
  have hI : W.heap[w.heap.size]? = some (.cells #[.int .i64 64857, .int .i64 a, .int .i64 b, .int .u64 (lo : Nat), .int .u64 hi, L] 65 (0, 0)) := hW ▸ heap_alloc2_old _ _ _
  have hV : W.heap[w.heap.size + 1]? = some (.cells (cells v) 61 (0, 0)) := hW ▸ heap_alloc2_new _ _ _
  have hZ : Below w.heap.size w W := hW ▸ ((Below.refl _ _).alloc (Nat.le_refl _) _).alloc (by simp) _
  rw [← hW]
  clear hW
  refine (HM.out _).mono ?_
  rintro e u1 ⟨rfl, hb1⟩
  have hI1 := (hb1.block _ (block_lt hI)).trans hI
  have hV1 := (hb1.block _ (block_lt hV)).trans hV
  have c0 : u1.cell? ⟨w.heap.size, 0, none⟩ = some (.int .i64 64857) := by rw [cell_of_row u1 _ 0 _ _ _ hI1]; rfl
  have c3 : u1.cell? ⟨w.heap.size, 3, none⟩ = some (.int .u64 (lo : Nat)) := by rw [cell_of_row u1 _ 3 _ _ _ hI1]; rfl
  have hm := h.below (hZ.trans (hb1.mono hZ.size))
  have hZ1 := hZ.trans (hb1.mono hZ.size)
  clear hI hV hb1 hZ h hI1
  go_wp2_with (first | (go_at_call 34; ((with_reducible refine (HS.out _).mono ?_); rintro e u ⟨rfl, rfl⟩)) | (with_reducible refine load_vec rfl _ rfl _ rfl _ hV1 ?_))
  refine (get16z v _ lo _ rfl (by omega)).mono ?_
  rintro e u2 ⟨rfl, hb2⟩
  replace hm := hm.below hb2
  replace hZ1 := hZ1.trans (hb2.mono hZ1.size)
  have hlt := getN_lt v 16 lo
  go_wp2_with fail
  refine (store_z o _ hm (at_ + b) 2 _ 0 (storeN o.β A (getN v 16 lo) 2) (by omega) (by decide) (by omega) (by show mayE o.n _ _ = 0; unfold mayE; rw [if_pos (by decide), if_pos (by omega)]) (by unfold storeB; rw [if_pos (by show mayE o.n _ _ = 0; unfold mayE; rw [if_pos (by decide), if_pos (by omega)])]; congr 1; omega)).mono ?_
  rintro e u3 ⟨rfl, hm3, hk3⟩
  go_wp2_with fail
  go_ret
  exact ⟨rfl, hm3, (Keep.of_below hZ1).trans hk3⟩

set_option maxRecDepth 100000 in
theorem vstore_59_far (o : MObj) (v : Vec) (a b : Int) (lo : Nat) (hi at_ : Int) (L : Value) (A : Nat) (w : World) (h : MemAt w o) (ha : 0 ≤ at_ ∧ at_ < 4294967296) (hb : 0 ≤ b ∧ b < 4294967296) (hA : (A : Int) = at_ + b) (hl : lo < 8) (hin : ¬ A + 2 ≤ o.n) :
    Calls Try.prog 28 #[.pointer (some ⟨o.p, 0, none⟩), inV 64857 a b (lo : Nat) hi L, .int .u32 at_, .agg (cells v)] w fun e w' => e = .returned (.int .i64 23) ∧ Below w.heap.size w w' := by
  have HM := Lib.hid (fun W => vmay_59 ⟨o.p, 0, none⟩ a b ((lo : Nat) : Int) hi at_ L W ha hb ⟨by omega, by omega⟩)
  have HS := Lib.hid (fun W => vsize_59 W)
  go_enter Try.func28, Try.ntmps28
  go_wp2_with fail
  obtain ⟨W, hW⟩ : ∃ W, W = ((w.alloc (.cells #[.int .i64 64857, .int .i64 a, .int .i64 b, .int .u64 (lo : Nat), .int .u64 hi, L] 65)).alloc (.cells (cells v) 61)) := ⟨_, rfl⟩
  have hI : W.heap[w.heap.size]? = some (.cells #[.int .i64 64857, .int .i64 a, .int .i64 b, .int .u64 (lo : Nat), .int .u64 hi, L] 65 (0, 0)) := hW ▸ heap_alloc2_old _ _ _
  have hV : W.heap[w.heap.size + 1]? = some (.cells (cells v) 61 (0, 0)) := hW ▸ heap_alloc2_new _ _ _
  have hZ : Below w.heap.size w W := hW ▸ ((Below.refl _ _).alloc (Nat.le_refl _) _).alloc (by simp) _
  rw [← hW]
  clear hW
  refine (HM.out _).mono ?_
  rintro e u1 ⟨rfl, hb1⟩
  have hI1 := (hb1.block _ (block_lt hI)).trans hI
  have hV1 := (hb1.block _ (block_lt hV)).trans hV
  have c0 : u1.cell? ⟨w.heap.size, 0, none⟩ = some (.int .i64 64857) := by rw [cell_of_row u1 _ 0 _ _ _ hI1]; rfl
  have c3 : u1.cell? ⟨w.heap.size, 3, none⟩ = some (.int .u64 (lo : Nat)) := by rw [cell_of_row u1 _ 3 _ _ _ hI1]; rfl
  have hm := h.below (hZ.trans (hb1.mono hZ.size))
  have hZ1 := hZ.trans (hb1.mono hZ.size)
  clear hI hV hb1 hZ h hI1
  go_wp2_with (first | (go_at_call 34; ((with_reducible refine (HS.out _).mono ?_); rintro e u ⟨rfl, rfl⟩)) | (with_reducible refine load_vec rfl _ rfl _ rfl _ hV1 ?_))
  refine (get16z v _ lo _ rfl (by omega)).mono ?_
  rintro e u2 ⟨rfl, hb2⟩
  replace hm := hm.below hb2
  replace hZ1 := hZ1.trans (hb2.mono hZ1.size)
  have hlt := getN_lt v 16 lo
  go_wp2_with fail
  rw [← hA]
  refine (store_err o _ hm A 2 _ (by omega) (by decide) 23 (by unfold mayE; rw [if_pos (by decide), if_neg (by omega)]) (by decide)).mono ?_
  rintro e u3 ⟨rfl, rfl⟩
  go_wp2_with fail
  go_ret
  exact ⟨rfl, hZ1⟩

set_option maxRecDepth 100000 in
theorem vstore_5a (o : MObj) (v : Vec) (a b : Int) (lo : Nat) (hi at_ : Int) (L : Value) (A : Nat) (w : World) (h : MemAt w o) (ha : 0 ≤ at_ ∧ at_ < 4294967296) (hb : 0 ≤ b ∧ b < 4294967296) (hA : (A : Int) = at_ + b) (hl : lo < 4) (hin : A + 4 ≤ o.n) :
    Calls Try.prog 28 #[.pointer (some ⟨o.p, 0, none⟩), inV 64858 a b (lo : Nat) hi L, .int .u32 at_, .agg (cells v)] w fun e w' => e = .returned (.int .i64 0) ∧ MemAt w' (withβ o (storeN o.β A (getN v 32 lo) 4)) ∧ Keep (fun k => o.q = some k) w w' := by
  have HM := Lib.hid (fun W => vmay_5a ⟨o.p, 0, none⟩ a b ((lo : Nat) : Int) hi at_ L W ha hb ⟨by omega, by omega⟩)
  have HS := Lib.hid (fun W => vsize_5a W)
  go_enter Try.func28, Try.ntmps28
  go_wp2_with fail
  obtain ⟨W, hW⟩ : ∃ W, W = ((w.alloc (.cells #[.int .i64 64858, .int .i64 a, .int .i64 b, .int .u64 (lo : Nat), .int .u64 hi, L] 65)).alloc (.cells (cells v) 61)) := ⟨_, rfl⟩
  have hI : W.heap[w.heap.size]? = some (.cells #[.int .i64 64858, .int .i64 a, .int .i64 b, .int .u64 (lo : Nat), .int .u64 hi, L] 65 (0, 0)) := hW ▸ heap_alloc2_old _ _ _
  have hV : W.heap[w.heap.size + 1]? = some (.cells (cells v) 61 (0, 0)) := hW ▸ heap_alloc2_new _ _ _
  have hZ : Below w.heap.size w W := hW ▸ ((Below.refl _ _).alloc (Nat.le_refl _) _).alloc (by simp) _
  rw [← hW]
  clear hW
  refine (HM.out _).mono ?_
  rintro e u1 ⟨rfl, hb1⟩
  have hI1 := (hb1.block _ (block_lt hI)).trans hI
  have hV1 := (hb1.block _ (block_lt hV)).trans hV
  have c0 : u1.cell? ⟨w.heap.size, 0, none⟩ = some (.int .i64 64858) := by rw [cell_of_row u1 _ 0 _ _ _ hI1]; rfl
  have c3 : u1.cell? ⟨w.heap.size, 3, none⟩ = some (.int .u64 (lo : Nat)) := by rw [cell_of_row u1 _ 3 _ _ _ hI1]; rfl
  have hm := h.below (hZ.trans (hb1.mono hZ.size))
  have hZ1 := hZ.trans (hb1.mono hZ.size)
  clear hI hV hb1 hZ h hI1
  go_wp2_with (first | (go_at_call 34; ((with_reducible refine (HS.out _).mono ?_); rintro e u ⟨rfl, rfl⟩)) | (with_reducible refine load_vec rfl _ rfl _ rfl _ hV1 ?_))
  refine (get32z v _ lo _ rfl (by omega)).mono ?_
  rintro e u2 ⟨rfl, hb2⟩
  replace hm := hm.below hb2
  replace hZ1 := hZ1.trans (hb2.mono hZ1.size)
  have hlt := getN_lt v 32 lo
  go_wp2_with fail
  refine (store_z o _ hm (at_ + b) 4 _ 0 (storeN o.β A (getN v 32 lo) 4) (by omega) (by decide) (by omega) (by show mayE o.n _ _ = 0; unfold mayE; rw [if_pos (by decide), if_pos (by omega)]) (by unfold storeB; rw [if_pos (by show mayE o.n _ _ = 0; unfold mayE; rw [if_pos (by decide), if_pos (by omega)])]; congr 1; omega)).mono ?_
  rintro e u3 ⟨rfl, hm3, hk3⟩
  go_wp2_with fail
  go_ret
  exact ⟨rfl, hm3, (Keep.of_below hZ1).trans hk3⟩

set_option maxRecDepth 100000 in
theorem vstore_5a_far (o : MObj) (v : Vec) (a b : Int) (lo : Nat) (hi at_ : Int) (L : Value) (A : Nat) (w : World) (h : MemAt w o) (ha : 0 ≤ at_ ∧ at_ < 4294967296) (hb : 0 ≤ b ∧ b < 4294967296) (hA : (A : Int) = at_ + b) (hl : lo < 4) (hin : ¬ A + 4 ≤ o.n) :
    Calls Try.prog 28 #[.pointer (some ⟨o.p, 0, none⟩), inV 64858 a b (lo : Nat) hi L, .int .u32 at_, .agg (cells v)] w fun e w' => e = .returned (.int .i64 23) ∧ Below w.heap.size w w' := by
  have HM := Lib.hid (fun W => vmay_5a ⟨o.p, 0, none⟩ a b ((lo : Nat) : Int) hi at_ L W ha hb ⟨by omega, by omega⟩)
  have HS := Lib.hid (fun W => vsize_5a W)
  go_enter Try.func28, Try.ntmps28
  go_wp2_with fail
  obtain ⟨W, hW⟩ : ∃ W, W = ((w.alloc (.cells #[.int .i64 64858, .int .i64 a, .int .i64 b, .int .u64 (lo : Nat), .int .u64 hi, L] 65)).alloc (.cells (cells v) 61)) := ⟨_, rfl⟩
  have hI : W.heap[w.heap.size]? = some (.cells #[.int .i64 64858, .int .i64 a, .int .i64 b, .int .u64 (lo : Nat), .int .u64 hi, L] 65 (0, 0)) := hW ▸ heap_alloc2_old _ _ _
  have hV : W.heap[w.heap.size + 1]? = some (.cells (cells v) 61 (0, 0)) := hW ▸ heap_alloc2_new _ _ _
  have hZ : Below w.heap.size w W := hW ▸ ((Below.refl _ _).alloc (Nat.le_refl _) _).alloc (by simp) _
  rw [← hW]
  clear hW
  refine (HM.out _).mono ?_
  rintro e u1 ⟨rfl, hb1⟩
  have hI1 := (hb1.block _ (block_lt hI)).trans hI
  have hV1 := (hb1.block _ (block_lt hV)).trans hV
  have c0 : u1.cell? ⟨w.heap.size, 0, none⟩ = some (.int .i64 64858) := by rw [cell_of_row u1 _ 0 _ _ _ hI1]; rfl
  have c3 : u1.cell? ⟨w.heap.size, 3, none⟩ = some (.int .u64 (lo : Nat)) := by rw [cell_of_row u1 _ 3 _ _ _ hI1]; rfl
  have hm := h.below (hZ.trans (hb1.mono hZ.size))
  have hZ1 := hZ.trans (hb1.mono hZ.size)
  clear hI hV hb1 hZ h hI1
  go_wp2_with (first | (go_at_call 34; ((with_reducible refine (HS.out _).mono ?_); rintro e u ⟨rfl, rfl⟩)) | (with_reducible refine load_vec rfl _ rfl _ rfl _ hV1 ?_))
  refine (get32z v _ lo _ rfl (by omega)).mono ?_
  rintro e u2 ⟨rfl, hb2⟩
  replace hm := hm.below hb2
  replace hZ1 := hZ1.trans (hb2.mono hZ1.size)
  have hlt := getN_lt v 32 lo
  go_wp2_with fail
  rw [← hA]
  refine (store_err o _ hm A 4 _ (by omega) (by decide) 23 (by unfold mayE; rw [if_pos (by decide), if_neg (by omega)]) (by decide)).mono ?_
  rintro e u3 ⟨rfl, rfl⟩
  go_wp2_with fail
  go_ret
  exact ⟨rfl, hZ1⟩

set_option maxRecDepth 100000 in
theorem vstore_5b (o : MObj) (v : Vec) (a b : Int) (lo : Nat) (hi at_ : Int) (L : Value) (A : Nat) (w : World) (h : MemAt w o) (ha : 0 ≤ at_ ∧ at_ < 4294967296) (hb : 0 ≤ b ∧ b < 4294967296) (hA : (A : Int) = at_ + b) (hl : lo < 2) (hin : A + 8 ≤ o.n) :
    Calls Try.prog 28 #[.pointer (some ⟨o.p, 0, none⟩), inV 64859 a b (lo : Nat) hi L, .int .u32 at_, .agg (cells v)] w fun e w' => e = .returned (.int .i64 0) ∧ MemAt w' (withβ o (storeN o.β A (getN v 64 lo) 8)) ∧ Keep (fun k => o.q = some k) w w' := by
  have HM := Lib.hid (fun W => vmay_5b ⟨o.p, 0, none⟩ a b ((lo : Nat) : Int) hi at_ L W ha hb ⟨by omega, by omega⟩)
  have HS := Lib.hid (fun W => vsize_5b W)
  go_enter Try.func28, Try.ntmps28
  go_wp2_with fail
  obtain ⟨W, hW⟩ : ∃ W, W = ((w.alloc (.cells #[.int .i64 64859, .int .i64 a, .int .i64 b, .int .u64 (lo : Nat), .int .u64 hi, L] 65)).alloc (.cells (cells v) 61)) := ⟨_, rfl⟩
  have hI : W.heap[w.heap.size]? = some (.cells #[.int .i64 64859, .int .i64 a, .int .i64 b, .int .u64 (lo : Nat), .int .u64 hi, L] 65 (0, 0)) := hW ▸ heap_alloc2_old _ _ _
  have hV : W.heap[w.heap.size + 1]? = some (.cells (cells v) 61 (0, 0)) := hW ▸ heap_alloc2_new _ _ _
  have hZ : Below w.heap.size w W := hW ▸ ((Below.refl _ _).alloc (Nat.le_refl _) _).alloc (by simp) _
  rw [← hW]
  clear hW
  refine (HM.out _).mono ?_
  rintro e u1 ⟨rfl, hb1⟩
  have hI1 := (hb1.block _ (block_lt hI)).trans hI
  have hV1 := (hb1.block _ (block_lt hV)).trans hV
  have c0 : u1.cell? ⟨w.heap.size, 0, none⟩ = some (.int .i64 64859) := by rw [cell_of_row u1 _ 0 _ _ _ hI1]; rfl
  have c3 : u1.cell? ⟨w.heap.size, 3, none⟩ = some (.int .u64 (lo : Nat)) := by rw [cell_of_row u1 _ 3 _ _ _ hI1]; rfl
  have hm := h.below (hZ.trans (hb1.mono hZ.size))
  have hZ1 := hZ.trans (hb1.mono hZ.size)
  clear hI hV hb1 hZ h hI1
  go_wp2_with (first | (go_at_call 34; ((with_reducible refine (HS.out _).mono ?_); rintro e u ⟨rfl, rfl⟩)) | (with_reducible refine load_vec rfl _ rfl _ rfl _ hV1 ?_))
  refine (get64z v _ lo _ rfl (by omega)).mono ?_
  rintro e u2 ⟨rfl, hb2⟩
  replace hm := hm.below hb2
  replace hZ1 := hZ1.trans (hb2.mono hZ1.size)
  have hlt := getN_lt v 64 lo
  go_wp2_with fail
  refine (store_z o _ hm (at_ + b) 8 _ 0 (storeN o.β A (getN v 64 lo) 8) (by omega) (by decide) (by omega) (by show mayE o.n _ _ = 0; unfold mayE; rw [if_pos (by decide), if_pos (by omega)]) (by unfold storeB; rw [if_pos (by show mayE o.n _ _ = 0; unfold mayE; rw [if_pos (by decide), if_pos (by omega)])]; congr 1; omega)).mono ?_
  rintro e u3 ⟨rfl, hm3, hk3⟩
  go_wp2_with fail
  go_ret
  exact ⟨rfl, hm3, (Keep.of_below hZ1).trans hk3⟩

set_option maxRecDepth 100000 in
theorem vstore_5b_far (o : MObj) (v : Vec) (a b : Int) (lo : Nat) (hi at_ : Int) (L : Value) (A : Nat) (w : World) (h : MemAt w o) (ha : 0 ≤ at_ ∧ at_ < 4294967296) (hb : 0 ≤ b ∧ b < 4294967296) (hA : (A : Int) = at_ + b) (hl : lo < 2) (hin : ¬ A + 8 ≤ o.n) :
    Calls Try.prog 28 #[.pointer (some ⟨o.p, 0, none⟩), inV 64859 a b (lo : Nat) hi L, .int .u32 at_, .agg (cells v)] w fun e w' => e = .returned (.int .i64 23) ∧ Below w.heap.size w w' := by
  have HM := Lib.hid (fun W => vmay_5b ⟨o.p, 0, none⟩ a b ((lo : Nat) : Int) hi at_ L W ha hb ⟨by omega, by omega⟩)
  have HS := Lib.hid (fun W => vsize_5b W)
  go_enter Try.func28, Try.ntmps28
  go_wp2_with fail
  obtain ⟨W, hW⟩ : ∃ W, W = ((w.alloc (.cells #[.int .i64 64859, .int .i64 a, .int .i64 b, .int .u64 (lo : Nat), .int .u64 hi, L] 65)).alloc (.cells (cells v) 61)) := ⟨_, rfl⟩
  have hI : W.heap[w.heap.size]? = some (.cells #[.int .i64 64859, .int .i64 a, .int .i64 b, .int .u64 (lo : Nat), .int .u64 hi, L] 65 (0, 0)) := hW ▸ heap_alloc2_old _ _ _
  have hV : W.heap[w.heap.size + 1]? = some (.cells (cells v) 61 (0, 0)) := hW ▸ heap_alloc2_new _ _ _
  have hZ : Below w.heap.size w W := hW ▸ ((Below.refl _ _).alloc (Nat.le_refl _) _).alloc (by simp) _
  rw [← hW]
  clear hW
  refine (HM.out _).mono ?_
  rintro e u1 ⟨rfl, hb1⟩
  have hI1 := (hb1.block _ (block_lt hI)).trans hI
  have hV1 := (hb1.block _ (block_lt hV)).trans hV
  have c0 : u1.cell? ⟨w.heap.size, 0, none⟩ = some (.int .i64 64859) := by rw [cell_of_row u1 _ 0 _ _ _ hI1]; rfl
  have c3 : u1.cell? ⟨w.heap.size, 3, none⟩ = some (.int .u64 (lo : Nat)) := by rw [cell_of_row u1 _ 3 _ _ _ hI1]; rfl
  have hm := h.below (hZ.trans (hb1.mono hZ.size))
  have hZ1 := hZ.trans (hb1.mono hZ.size)
  clear hI hV hb1 hZ h hI1
  go_wp2_with (first | (go_at_call 34; ((with_reducible refine (HS.out _).mono ?_); rintro e u ⟨rfl, rfl⟩)) | (with_reducible refine load_vec rfl _ rfl _ rfl _ hV1 ?_))
  refine (get64z v _ lo _ rfl (by omega)).mono ?_
  rintro e u2 ⟨rfl, hb2⟩
  replace hm := hm.below hb2
  replace hZ1 := hZ1.trans (hb2.mono hZ1.size)
  have hlt := getN_lt v 64 lo
  go_wp2_with fail
  rw [← hA]
  refine (store_err o _ hm A 8 _ (by omega) (by decide) 23 (by unfold mayE; rw [if_pos (by decide), if_neg (by omega)]) (by decide)).mono ?_
  rintro e u3 ⟨rfl, rfl⟩
  go_wp2_with fail
  go_ret
  exact ⟨rfl, hZ1⟩

set_option maxRecDepth 100000 in
theorem vload_5c (o : MObj) (old : Vec) (a b : Int) (lo : Int) (hi at_ : Int) (L : Value) (A : Nat) (w : World) (h : MemAt w o) (ha : 0 ≤ at_ ∧ at_ < 4294967296) (hb : 0 ≤ b ∧ b < 4294967296) (hA : (A : Int) = at_ + b)  (hin : A + 4 ≤ o.n) :
    Calls Try.prog 29 #[.pointer (some ⟨o.p, 0, none⟩), inV 64860 a b lo hi L, .int .u32 at_, .agg (cells old)] w fun e w' => e = .returned (.tuple #[.agg (cells (buildOn 0 64 (fun i => [loadN o.β A 4].getD i 0) 1)), .int .i64 0]) ∧ Below w.heap.size w w' := by
  have HM := Lib.hid (fun W => vmay_5c ⟨o.p, 0, none⟩ a b lo hi at_ L W ha hb)
  have HS := Lib.hid (fun W => vsize_5c W)
  go_enter Try.func29, Try.ntmps29
  go_wp2_with fail
  rw [← cells_zero]
  obtain ⟨W, hW⟩ : ∃ W, W = (((w.alloc (.cells #[.int .i64 64860, .int .i64 a, .int .i64 b, .int .u64 lo, .int .u64 hi, L] 65)).alloc (.cells (cells old) 61)).alloc (.cells (cells 0) 61)) := ⟨_, rfl⟩
  have hI : W.heap[w.heap.size]? = some (.cells #[.int .i64 64860, .int .i64 a, .int .i64 b, .int .u64 lo, .int .u64 hi, L] 65 (0, 0)) := hW ▸ heap_alloc3_0 _ _ _ _
  have hV : W.heap[w.heap.size + 1]? = some (.cells (cells old) 61 (0, 0)) := hW ▸ heap_alloc3_1 _ _ _ _
  have hR : W.heap[w.heap.size + 1 + 1]? = some (.cells (cells 0) 61 (0, 0)) := hW ▸ heap_alloc3_2 _ _ _ _
  have hZ : Below w.heap.size w W := hW ▸ below_alloc3 _ _ _ _
  rw [← hW]
  clear hW
  refine (HM.out _).mono ?_
  rintro e u1 ⟨rfl, hb1⟩
  have hI1 := (hb1.block _ (block_lt hI)).trans hI
  have hV1 := (hb1.block _ (block_lt hV)).trans hV
  have hR1 := (hb1.block _ (block_lt hR)).trans hR
  have c0 : u1.cell? ⟨w.heap.size, 0, none⟩ = some (.int .i64 64860) := by rw [cell_of_row u1 _ 0 _ _ _ hI1]; rfl
  have c3 : u1.cell? ⟨w.heap.size, 3, none⟩ = some (.int .u64 lo) := by rw [cell_of_row u1 _ 3 _ _ _ hI1]; rfl
  have hm := h.below (hZ.trans (hb1.mono hZ.size))
  have hZ1 := hZ.trans (hb1.mono hZ.size)
  clear hI hV hR hb1 hZ h hI1
  go_wp2_with (go_at_call 34; ((with_reducible refine (HS.out _).mono ?_); rintro e u ⟨rfl, rfl⟩))
  refine (load_z o _ hm (at_ + b) 4 0 (loadN o.β A 4) (by omega) (by decide) (by unfold mayE; rw [if_pos (by decide), if_pos (by omega)]) (fun _ => by congr 1; omega) (fun h => absurd rfl h)).mono ?_
  rintro e u2 ⟨rfl, rfl⟩
  go_wp2_with fail
  refine (of64 [loadN o.β A 4] 1 _ _ _ _ _ (by simp) (by simp) (by simp) rfl (heap_alloc_new _ _)).mono ?_
  rintro e u4 ⟨rfl, hb4⟩
  have hbn := (below_new hZ1 (Nat.le_refl _) _ hb4)
  replace hR1 := (hb4.block _ (by have := block_lt hR1; simp; omega)).trans (blk_alloc hR1 _)
  replace hZ1 := hbn
  go_wp2_with ((with_reducible refine store_vec rfl _ _ rfl (w.heap.size + 1 + 1) _ rfl rfl _ hR1 ?_); intro wq hq)
  exact bodyPost_ret (results_vec_tmp rfl _ _ (w.heap.size + 1 + 1) _ _ rfl rfl hq.this) rfl ⟨rfl, hZ1.trans (hq.below.mono (by omega))⟩

set_option maxRecDepth 100000 in
theorem vload_5c_far (o : MObj) (old : Vec) (a b : Int) (lo : Int) (hi at_ : Int) (L : Value) (A : Nat) (w : World) (h : MemAt w o) (ha : 0 ≤ at_ ∧ at_ < 4294967296) (hb : 0 ≤ b ∧ b < 4294967296) (hA : (A : Int) = at_ + b)  (hin : ¬ A + 4 ≤ o.n) :
    Calls Try.prog 29 #[.pointer (some ⟨o.p, 0, none⟩), inV 64860 a b lo hi L, .int .u32 at_, .agg (cells old)] w fun e w' => e = .returned (.tuple #[.agg (cells 0), .int .i64 23]) ∧ Below w.heap.size w w' := by
  have HM := Lib.hid (fun W => vmay_5c ⟨o.p, 0, none⟩ a b lo hi at_ L W ha hb)
  have HS := Lib.hid (fun W => vsize_5c W)
  go_enter Try.func29, Try.ntmps29
  go_wp2_with fail
  rw [← cells_zero]
  obtain ⟨W, hW⟩ : ∃ W, W = (((w.alloc (.cells #[.int .i64 64860, .int .i64 a, .int .i64 b, .int .u64 lo, .int .u64 hi, L] 65)).alloc (.cells (cells old) 61)).alloc (.cells (cells 0) 61)) := ⟨_, rfl⟩
  have hI : W.heap[w.heap.size]? = some (.cells #[.int .i64 64860, .int .i64 a, .int .i64 b, .int .u64 lo, .int .u64 hi, L] 65 (0, 0)) := hW ▸ heap_alloc3_0 _ _ _ _
  have hV : W.heap[w.heap.size + 1]? = some (.cells (cells old) 61 (0, 0)) := hW ▸ heap_alloc3_1 _ _ _ _
  have hR : W.heap[w.heap.size + 1 + 1]? = some (.cells (cells 0) 61 (0, 0)) := hW ▸ heap_alloc3_2 _ _ _ _
  have hZ : Below w.heap.size w W := hW ▸ below_alloc3 _ _ _ _
  rw [← hW]
  clear hW
  refine (HM.out _).mono ?_
  rintro e u1 ⟨rfl, hb1⟩
  have hI1 := (hb1.block _ (block_lt hI)).trans hI
  have hV1 := (hb1.block _ (block_lt hV)).trans hV
  have hR1 := (hb1.block _ (block_lt hR)).trans hR
  have c0 : u1.cell? ⟨w.heap.size, 0, none⟩ = some (.int .i64 64860) := by rw [cell_of_row u1 _ 0 _ _ _ hI1]; rfl
  have c3 : u1.cell? ⟨w.heap.size, 3, none⟩ = some (.int .u64 lo) := by rw [cell_of_row u1 _ 3 _ _ _ hI1]; rfl
  have hm := h.below (hZ.trans (hb1.mono hZ.size))
  have hZ1 := hZ.trans (hb1.mono hZ.size)
  clear hI hV hR hb1 hZ h hI1
  go_wp2_with (go_at_call 34; ((with_reducible refine (HS.out _).mono ?_); rintro e u ⟨rfl, rfl⟩))
  refine (load_z o _ hm (at_ + b) 4 23 0 (by omega) (by decide) (by unfold mayE; rw [if_pos (by decide), if_neg (by omega)]) (fun h => absurd h (by decide)) (fun _ => rfl)).mono ?_
  rintro e u2 ⟨rfl, rfl⟩
  go_wp2_with ((with_reducible refine store_zero rfl _ _ rfl (w.heap.size + 1 + 1) rfl rfl _ hR1 ?_); intro wq hq)
  exact bodyPost_ret (results_vec_tmp rfl _ _ (w.heap.size + 1 + 1) _ _ rfl rfl hq.this) rfl ⟨rfl, hZ1.trans (hq.below.mono (by omega))⟩

set_option maxRecDepth 100000 in
theorem vload_5d (o : MObj) (old : Vec) (a b : Int) (lo : Int) (hi at_ : Int) (L : Value) (A : Nat) (w : World) (h : MemAt w o) (ha : 0 ≤ at_ ∧ at_ < 4294967296) (hb : 0 ≤ b ∧ b < 4294967296) (hA : (A : Int) = at_ + b)  (hin : A + 8 ≤ o.n) :
    Calls Try.prog 29 #[.pointer (some ⟨o.p, 0, none⟩), inV 64861 a b lo hi L, .int .u32 at_, .agg (cells old)] w fun e w' => e = .returned (.tuple #[.agg (cells (buildOn 0 64 (fun i => [loadN o.β A 8].getD i 0) 1)), .int .i64 0]) ∧ Below w.heap.size w w' := by
  have HM := Lib.hid (fun W => vmay_5d ⟨o.p, 0, none⟩ a b lo hi at_ L W ha hb)
  have HS := Lib.hid (fun W => vsize_5d W)
  go_enter Try.func29, Try.ntmps29
  go_wp2_with fail
  rw [← cells_zero]
  obtain ⟨W, hW⟩ : ∃ W, W = (((w.alloc (.cells #[.int .i64 64861, .int .i64 a, .int .i64 b, .int .u64 lo, .int .u64 hi, L] 65)).alloc (.cells (cells old) 61)).alloc (.cells (cells 0) 61)) := ⟨_, rfl⟩
  have hI : W.heap[w.heap.size]? = some (.cells #[.int .i64 64861, .int .i64 a, .int .i64 b, .int .u64 lo, .int .u64 hi, L] 65 (0, 0)) := hW ▸ heap_alloc3_0 _ _ _ _
  have hV : W.heap[w.heap.size + 1]? = some (.cells (cells old) 61 (0, 0)) := hW ▸ heap_alloc3_1 _ _ _ _
  have hR : W.heap[w.heap.size + 1 + 1]? = some (.cells (cells 0) 61 (0, 0)) := hW ▸ heap_alloc3_2 _ _ _ _
  have hZ : Below w.heap.size w W := hW ▸ below_alloc3 _ _ _ _
  rw [← hW]
  clear hW
  refine (HM.out _).mono ?_
  rintro e u1 ⟨rfl, hb1⟩
  have hI1 := (hb1.block _ (block_lt hI)).trans hI
  have hV1 := (hb1.block _ (block_lt hV)).trans hV
  have hR1 := (hb1.block _ (block_lt hR)).trans hR
  have c0 : u1.cell? ⟨w.heap.size, 0, none⟩ = some (.int .i64 64861) := by rw [cell_of_row u1 _ 0 _ _ _ hI1]; rfl
  have c3 : u1.cell? ⟨w.heap.size, 3, none⟩ = some (.int .u64 lo) := by rw [cell_of_row u1 _ 3 _ _ _ hI1]; rfl
  have hm := h.below (hZ.trans (hb1.mono hZ.size))
  have hZ1 := hZ.trans (hb1.mono hZ.size)
  clear hI hV hR hb1 hZ h hI1
  go_wp2_with (go_at_call 34; ((with_reducible refine (HS.out _).mono ?_); rintro e u ⟨rfl, rfl⟩))
  refine (load_z o _ hm (at_ + b) 8 0 (loadN o.β A 8) (by omega) (by decide) (by unfold mayE; rw [if_pos (by decide), if_pos (by omega)]) (fun _ => by congr 1; omega) (fun h => absurd rfl h)).mono ?_
  rintro e u2 ⟨rfl, rfl⟩
  go_wp2_with fail
  refine (of64 [loadN o.β A 8] 1 _ _ _ _ _ (by simp) (by simp) (by simp) rfl (heap_alloc_new _ _)).mono ?_
  rintro e u4 ⟨rfl, hb4⟩
  have hbn := (below_new hZ1 (Nat.le_refl _) _ hb4)
  replace hR1 := (hb4.block _ (by have := block_lt hR1; simp; omega)).trans (blk_alloc hR1 _)
  replace hZ1 := hbn
  go_wp2_with ((with_reducible refine store_vec rfl _ _ rfl (w.heap.size + 1 + 1) _ rfl rfl _ hR1 ?_); intro wq hq)
  exact bodyPost_ret (results_vec_tmp rfl _ _ (w.heap.size + 1 + 1) _ _ rfl rfl hq.this) rfl ⟨rfl, hZ1.trans (hq.below.mono (by omega))⟩

set_option maxRecDepth 100000 in
theorem vload_5d_far (o : MObj) (old : Vec) (a b : Int) (lo : Int) (hi at_ : Int) (L : Value) (A : Nat) (w : World) (h : MemAt w o) (ha : 0 ≤ at_ ∧ at_ < 4294967296) (hb : 0 ≤ b ∧ b < 4294967296) (hA : (A : Int) = at_ + b)  (hin : ¬ A + 8 ≤ o.n) :
    Calls Try.prog 29 #[.pointer (some ⟨o.p, 0, none⟩), inV 64861 a b lo hi L, .int .u32 at_, .agg (cells old)] w fun e w' => e = .returned (.tuple #[.agg (cells 0), .int .i64 23]) ∧ Below w.heap.size w w' := by
  have HM := Lib.hid (fun W => vmay_5d ⟨o.p, 0, none⟩ a b lo hi at_ L W ha hb)
  have HS := Lib.hid (fun W => vsize_5d W)
  go_enter Try.func29, Try.ntmps29
  go_wp2_with fail
  rw [← cells_zero]
  obtain ⟨W, hW⟩ : ∃ W, W = (((w.alloc (.cells #[.int .i64 64861, .int .i64 a, .int .i64 b, .int .u64 lo, .int .u64 hi, L] 65)).alloc (.cells (cells old) 61)).alloc (.cells (cells 0) 61)) := ⟨_, rfl⟩
  have hI : W.heap[w.heap.size]? = some (.cells #[.int .i64 64861, .int .i64 a, .int .i64 b, .int .u64 lo, .int .u64 hi, L] 65 (0, 0)) := hW ▸ heap_alloc3_0 _ _ _ _
  have hV : W.heap[w.heap.size + 1]? = some (.cells (cells old) 61 (0, 0)) := hW ▸ heap_alloc3_1 _ _ _ _
  have hR : W.heap[w.heap.size + 1 + 1]? = some (.cells (cells 0) 61 (0, 0)) := hW ▸ heap_alloc3_2 _ _ _ _
  have hZ : Below w.heap.size w W := hW ▸ below_alloc3 _ _ _ _
  rw [← hW]
  clear hW
  refine (HM.out _).mono ?_
  rintro e u1 ⟨rfl, hb1⟩
  have hI1 := (hb1.block _ (block_lt hI)).trans hI
  have hV1 := (hb1.block _ (block_lt hV)).trans hV
  have hR1 := (hb1.block _ (block_lt hR)).trans hR
  have c0 : u1.cell? ⟨w.heap.size, 0, none⟩ = some (.int .i64 64861) := by rw [cell_of_row u1 _ 0 _ _ _ hI1]; rfl
  have c3 : u1.cell? ⟨w.heap.size, 3, none⟩ = some (.int .u64 lo) := by rw [cell_of_row u1 _ 3 _ _ _ hI1]; rfl
  have hm := h.below (hZ.trans (hb1.mono hZ.size))
  have hZ1 := hZ.trans (hb1.mono hZ.size)
  clear hI hV hR hb1 hZ h hI1
  go_wp2_with (go_at_call 34; ((with_reducible refine (HS.out _).mono ?_); rintro e u ⟨rfl, rfl⟩))
  refine (load_z o _ hm (at_ + b) 8 23 0 (by omega) (by decide) (by unfold mayE; rw [if_pos (by decide), if_neg (by omega)]) (fun h => absurd h (by decide)) (fun _ => rfl)).mono ?_
  rintro e u2 ⟨rfl, rfl⟩
  go_wp2_with ((with_reducible refine store_zero rfl _ _ rfl (w.heap.size + 1 + 1) rfl rfl _ hR1 ?_); intro wq hq)
  exact bodyPost_ret (results_vec_tmp rfl _ _ (w.heap.size + 1 + 1) _ _ rfl rfl hq.this) rfl ⟨rfl, hZ1.trans (hq.below.mono (by omega))⟩

set_option maxRecDepth 100000 in
theorem vstore_0b (o : MObj) (v : Vec) (a b : Int) (lo : Int) (hi at_ : Int) (L : Value) (A : Nat) (w : World) (h : MemAt w o) (ha : 0 ≤ at_ ∧ at_ < 4294967296) (hb : 0 ≤ b ∧ b < 4294967296) (hA : (A : Int) = at_ + b)  (hin : A + 16 ≤ o.n) :
    Calls Try.prog 28 #[.pointer (some ⟨o.p, 0, none⟩), inV 64779 a b lo hi L, .int .u32 at_, .agg (cells v)] w fun e w' => e = .returned (.int .i64 0) ∧ MemAt w' (withβ o (storeN (storeN o.β (A + 8) (getN v 64 1) 8) A (getN v 64 0) 8)) ∧ Keep (fun k => o.q = some k) w w' := by
  have HM := Lib.hid (fun W => vmay_0b ⟨o.p, 0, none⟩ a b lo hi at_ L W ha hb)
  have HS := Lib.hid (fun W => vsize_0b W)
  go_enter Try.func28, Try.ntmps28
  go_wp2_with fail
  obtain ⟨W, hW⟩ : ∃ W, W = ((w.alloc (.cells #[.int .i64 64779, .int .i64 a, .int .i64 b, .int .u64 lo, .int .u64 hi, L] 65)).alloc (.cells (cells v) 61)) := ⟨_, rfl⟩
  have hI : W.heap[w.heap.size]? = some (.cells #[.int .i64 64779, .int .i64 a, .int .i64 b, .int .u64 lo, .int .u64 hi, L] 65 (0, 0)) := hW ▸ heap_alloc2_old _ _ _
  have hV : W.heap[w.heap.size + 1]? = some (.cells (cells v) 61 (0, 0)) := hW ▸ heap_alloc2_new _ _ _
  have hZ : Below w.heap.size w W := hW ▸ ((Below.refl _ _).alloc (Nat.le_refl _) _).alloc (by simp) _
  rw [← hW]
  clear hW
  refine (HM.out _).mono ?_
  rintro e u1 ⟨rfl, hb1⟩
  have hI1 := (hb1.block _ (block_lt hI)).trans hI
  have hV1 := (hb1.block _ (block_lt hV)).trans hV
  have c0 : u1.cell? ⟨w.heap.size, 0, none⟩ = some (.int .i64 64779) := by rw [cell_of_row u1 _ 0 _ _ _ hI1]; rfl
  have c3 : u1.cell? ⟨w.heap.size, 3, none⟩ = some (.int .u64 lo) := by rw [cell_of_row u1 _ 3 _ _ _ hI1]; rfl
  have hm := h.below (hZ.trans (hb1.mono hZ.size))
  have hZ1 := hZ.trans (hb1.mono hZ.size)
  clear hI hV hb1 hZ h hI1
  go_wp2_with (first | (go_at_call 34; ((with_reducible refine (HS.out _).mono ?_); rintro e u ⟨rfl, rfl⟩)) | (with_reducible refine load_vec rfl _ rfl _ rfl _ hV1 ?_))
  refine (split_k v _).mono ?_
  rintro e u2 ⟨rfl, hb2⟩
  replace hm := hm.below hb2
  replace hZ1 := hZ1.trans (hb2.mono hZ1.size)
  go_wp2_with fail
  obtain ⟨U, hU⟩ : ∃ U, U = u2.alloc (.cells #[.int .u64 (getN v 64 0 : Nat), .int .u64 (getN v 64 1 : Nat)] 93) := ⟨_, rfl⟩
  have hH : U.heap[u2.heap.size]? = some (.cells #[.int .u64 (getN v 64 0 : Nat), .int .u64 (getN v 64 1 : Nat)] 93 (0, 0)) := hU ▸ heap_alloc_new _ _
  have hUb : Below u2.heap.size u2 U := hU ▸ (Below.refl _ _).alloc (Nat.le_refl _) _
  rw [← hU]
  clear hU
  have hmU := hm.below hUb
  have hZU := hZ1.trans (hUb.mono hZ1.size)
  have hl0 := getN_lt v 64 0
  have hl1 := getN_lt v 64 1
  refine (store_z o _ hmU (at_ + b + 8) 8 _ 0 (storeN o.β (A + 8) (getN v 64 1) 8) (by omega) (by decide) (by omega) (by show mayE o.n _ _ = 0; unfold mayE; rw [if_pos (by decide), if_pos (by omega)]) (by unfold storeB; rw [if_pos (by show mayE o.n _ _ = 0; unfold mayE; rw [if_pos (by decide), if_pos (by omega)])]; congr 1; omega)).mono ?_
  rintro e u3 ⟨rfl, hm3, hk3⟩
  have hH3 := hk3.get hH (fun e => by have := hm.has_lt (.inr e); omega)
  have c5 : u3.cell? ⟨u2.heap.size, 0, none⟩ = some (.int .u64 (getN v 64 0 : Nat)) := by rw [cell_of_row u3 _ 0 _ _ _ hH3]; rfl
  go_wp2_with fail
  refine (store_z (withβ o (storeN o.β (A + 8) (getN v 64 1) 8)) _ hm3 (at_ + b) 8 _ 0 (storeN (storeN o.β (A + 8) (getN v 64 1) 8) A (getN v 64 0) 8) (by omega) (by decide) (by omega) (by show mayE o.n _ _ = 0; unfold mayE; rw [if_pos (by decide), if_pos (by omega)]) (by unfold storeB; rw [if_pos (by show mayE o.n _ _ = 0; unfold mayE; rw [if_pos (by decide), if_pos (by omega)])]; congr 1; omega)).mono ?_
  rintro e u4 ⟨rfl, hm4, hk4⟩
  go_wp2_with fail
  go_ret
  exact ⟨rfl, hm4, (Keep.of_below hZU).trans (hk3.trans hk4)⟩

set_option maxRecDepth 100000 in
theorem vstore_0b_far (o : MObj) (v : Vec) (a b : Int) (lo : Int) (hi at_ : Int) (L : Value) (A : Nat) (w : World) (h : MemAt w o) (ha : 0 ≤ at_ ∧ at_ < 4294967296) (hb : 0 ≤ b ∧ b < 4294967296) (hA : (A : Int) = at_ + b)  (hin : ¬ A + 16 ≤ o.n) :
    Calls Try.prog 28 #[.pointer (some ⟨o.p, 0, none⟩), inV 64779 a b lo hi L, .int .u32 at_, .agg (cells v)] w fun e w' => e = .returned (.int .i64 23) ∧ Below w.heap.size w w' := by
  have HM := Lib.hid (fun W => vmay_0b ⟨o.p, 0, none⟩ a b lo hi at_ L W ha hb)
  have HS := Lib.hid (fun W => vsize_0b W)
  go_enter Try.func28, Try.ntmps28
  go_wp2_with fail
  obtain ⟨W, hW⟩ : ∃ W, W = ((w.alloc (.cells #[.int .i64 64779, .int .i64 a, .int .i64 b, .int .u64 lo, .int .u64 hi, L] 65)).alloc (.cells (cells v) 61)) := ⟨_, rfl⟩
  have hI : W.heap[w.heap.size]? = some (.cells #[.int .i64 64779, .int .i64 a, .int .i64 b, .int .u64 lo, .int .u64 hi, L] 65 (0, 0)) := hW ▸ heap_alloc2_old _ _ _
  have hV : W.heap[w.heap.size + 1]? = some (.cells (cells v) 61 (0, 0)) := hW ▸ heap_alloc2_new _ _ _
  have hZ : Below w.heap.size w W := hW ▸ ((Below.refl _ _).alloc (Nat.le_refl _) _).alloc (by simp) _
  rw [← hW]
  clear hW
  refine (HM.out _).mono ?_
  rintro e u1 ⟨rfl, hb1⟩
  have hI1 := (hb1.block _ (block_lt hI)).trans hI
  have hV1 := (hb1.block _ (block_lt hV)).trans hV
  have c0 : u1.cell? ⟨w.heap.size, 0, none⟩ = some (.int .i64 64779) := by rw [cell_of_row u1 _ 0 _ _ _ hI1]; rfl
  have c3 : u1.cell? ⟨w.heap.size, 3, none⟩ = some (.int .u64 lo) := by rw [cell_of_row u1 _ 3 _ _ _ hI1]; rfl
  have hm := h.below (hZ.trans (hb1.mono hZ.size))
  have hZ1 := hZ.trans (hb1.mono hZ.size)
  clear hI hV hb1 hZ h hI1
  go_wp2_with (first | (go_at_call 34; ((with_reducible refine (HS.out _).mono ?_); rintro e u ⟨rfl, rfl⟩)) | (with_reducible refine load_vec rfl _ rfl _ rfl _ hV1 ?_))
  refine (split_k v _).mono ?_
  rintro e u2 ⟨rfl, hb2⟩
  replace hm := hm.below hb2
  replace hZ1 := hZ1.trans (hb2.mono hZ1.size)
  go_wp2_with fail
  obtain ⟨U, hU⟩ : ∃ U, U = u2.alloc (.cells #[.int .u64 (getN v 64 0 : Nat), .int .u64 (getN v 64 1 : Nat)] 93) := ⟨_, rfl⟩
  have hH : U.heap[u2.heap.size]? = some (.cells #[.int .u64 (getN v 64 0 : Nat), .int .u64 (getN v 64 1 : Nat)] 93 (0, 0)) := hU ▸ heap_alloc_new _ _
  have hUb : Below u2.heap.size u2 U := hU ▸ (Below.refl _ _).alloc (Nat.le_refl _) _
  rw [← hU]
  clear hU
  have hmU := hm.below hUb
  have hZU := hZ1.trans (hUb.mono hZ1.size)
  have hl0 := getN_lt v 64 0
  have hl1 := getN_lt v 64 1
  rw [show at_ + b + 8 = ((A + 8 : Nat) : Int) by omega]
  refine (store_err o _ hmU (A + 8) 8 _ (by omega) (by decide) 23 (by unfold mayE; rw [if_pos (by decide), if_neg (by omega)]) (by decide)).mono ?_
  rintro e u3 ⟨rfl, rfl⟩
  go_wp2_with fail
  go_ret
  exact ⟨rfl, hZU⟩

end Go.Proofs.Ytlcndenbnokcjaa
