/-
  Texts VmRF, VmRM, VmRSt, Td0, OpenI.
-/
import Derived.Test.YtmfmokblmipagaaGreatR03
import Derived.Test.YtmfmokblmipagaaGreatR24
import Derived.Test.YtmfmokblmipagaaGreatR25
set_option linter.unusedSimpArgs false
set_option linter.unusedVariables false
set_option maxHeartbeats 8000000
open Pl
section
namespace Go.Proofs.YtmfmokblmipagaaGreat
open Go.RowKit Pl
theorem vsz_zero (op : Int) (h : ¬ (64768 ≤ op ∧ op ≤ 64779 ∨ 64852 ≤ op ∧ op ≤ 64861)) : vszN op = 0 := by unfold vszN; rw [if_neg (by omega), if_neg (by omega)]
theorem vsz_ne (op : Int) (h : 64768 ≤ op ∧ op ≤ 64779 ∨ 64852 ≤ op ∧ op ≤ 64861) : vszN op ≠ 0 := by
 rcases vops op h with rfl | rfl | rfl | rfl | rfl | rfl | rfl | rfl | rfl | rfl | rfl | rfl | rfl | rfl | rfl | rfl | rfl | rfl | rfl | rfl | rfl | rfl <;> decide
theorem vsz_lane (op : Int) (h : 64852 ≤ op ∧ op ≤ 64859) : vszN op = 1 ∨ vszN op = 2 ∨ vszN op = 4 ∨ vszN op = 8 := by
 rcases (show op = 64852 ∨ op = 64853 ∨ op = 64854 ∨ op = 64855 ∨ op = 64856 ∨ op = 64857 ∨ op = 64858 ∨ op = 64859 by omega) with rfl | rfl | rfl | rfl | rfl | rfl | rfl | rfl <;> decide
theorem rerr_bad (p : Value) (op a b lo hi : Int) (L : Value) (s : Bool) (w : World) (hr : -9223372036854775808 ≤ op ∧ op ≤ 9223372036854775807) (h0 : 0 ≤ lo) (h : VBad op b lo s) : Calls Tryz.prog 50 #[p, inV op a b lo hi L, .bool s] w fun e w' => e = .returned (.int .i64 1) ∧ Below w.heap.size w w' := by
 by_cases hv : 64768 ≤ op ∧ op ≤ 64779 ∨ 64852 ≤ op ∧ op ≤ 64861
 ·have hn := vsz_ne op hv
  by_cases h2 : vst op = s
  ·by_cases h3 : b < 0
   ·exact rerr_neg p op a b lo hi L s w hr hn h2 h3
   by_cases h4 : 4294967296 ≤ b
   ·exact rerr_big p op a b lo hi L s w hr hn h2 h4
   have h5 : vln op ∧ 16 / vszN op ≤ lo := by
    rcases h with h | h | h | h | h
    ·exact absurd hv h
    ·exact absurd h2 h
    ·exact absurd h h3
    ·exact absurd h h4
    ·exact h
   obtain ⟨h6, h7⟩ := h5
   rcases vsz_lane op h6 with q | q | q | q
   ·rw [q] at h7; exact rerr_lane_1 p op a b lo hi L s w hr q h2 (by omega) h6 h0 (by omega)
   ·rw [q] at h7; exact rerr_lane_2 p op a b lo hi L s w hr q h2 (by omega) h6 h0 (by omega)
   ·rw [q] at h7; exact rerr_lane_4 p op a b lo hi L s w hr q h2 (by omega) h6 h0 (by omega)
   ·rw [q] at h7; exact rerr_lane_8 p op a b lo hi L s w hr q h2 (by omega) h6 h0 (by omega)
  ·exact rerr_not p op a b lo hi L s w hr hn h2
 ·exact rerr_size p op a b lo hi L s w hr (vsz_zero op hv)
theorem rerr_ok (g : Addr) (op a b lo hi : Int) (L : Value) (s : Bool) (w : World) (hr : -9223372036854775808 ≤ op ∧ op ≤ 9223372036854775807) (h0 : 0 ≤ lo) (h : ¬ VBad op b lo s) : Calls Tryz.prog 50 #[.pointer (some g), inV op a b lo hi L, .bool s] w fun e w' => e = .returned (.int .i64 0) ∧ Below w.heap.size w w' := by
 have hv : 64768 ≤ op ∧ op ≤ 64779 ∨ 64852 ≤ op ∧ op ≤ 64861 := Classical.byContradiction fun c => h (.inl c)
 have h2 : vst op = s := Classical.byContradiction fun c => h (.inr (.inl c))
 have h3 : ¬ b < 0 := fun c => h (.inr (.inr (.inl c)))
 have h4 : ¬ 4294967296 ≤ b := fun c => h (.inr (.inr (.inr (.inl c))))
 have h5 : ¬ (vln op ∧ 16 / vszN op ≤ lo) := fun c => h (.inr (.inr (.inr (.inr c))))
 have hn := vsz_ne op hv
 by_cases c1 : op < 64852
 ·exact rerr_low_0 (.bool true) op a b lo hi L s w hr g hn h2 (by omega) c1
 by_cases c2 : 64859 < op
 ·exact rerr_high_0 (.bool true) op a b lo hi L s w hr g hn h2 (by omega) c2
 have h6 : 64852 ≤ op ∧ op ≤ 64859 := by omega
 have h7 : ¬ 16 / vszN op ≤ lo := fun c => h5 ⟨h6, c⟩
 rcases vsz_lane op h6 with q | q | q | q
 ·rw [q] at h7; exact rerr_ok_1 (.bool true) op a b lo hi L s w hr g q h2 (by omega) h6 h0 (by omega)
 ·rw [q] at h7; exact rerr_ok_2 (.bool true) op a b lo hi L s w hr g q h2 (by omega) h6 h0 (by omega)
 ·rw [q] at h7; exact rerr_ok_4 (.bool true) op a b lo hi L s w hr g q h2 (by omega) h6 h0 (by omega)
 ·rw [q] at h7; exact rerr_ok_8 (.bool true) op a b lo hi L s w hr g q h2 (by omega) h6 h0 (by omega)
end Go.Proofs.YtmfmokblmipagaaGreat
end
section
namespace Go.Proofs.YtmfmokblmipagaaGreat
open Go.RowKit Pl
set_option maxRecDepth 100000 in
theorem rload_e (p : Value) (op a b lo hi at_ : Int) (L : Value) (old : Vec) (E : Int) (w : World) (HM : ∀ W, Calls Tryz.prog 50 #[p, inV op a b lo hi L, .bool false] W fun e w' => e = .returned (.int .i64 E) ∧ Below W.heap.size W w') (hE : (E != 0) = true) :
 Calls Tryz.prog 19 #[p, inV op a b lo hi L, .int .u32 at_, .agg (cells old)] w fun e w' => e = .returned (.tuple #[.agg (cells 0), .int .i64 E]) ∧ Below w.heap.size w w' := by
 have HM := Lib.hid HM
 go_enter Tryz.func19, Tryz.ntmps19
 go_wp2_with fail
 rw [← cells_zero]
 obtain ⟨W, hW⟩ : ∃ W, W = (((w.alloc (.cells #[.int .i64 op, .int .i64 a, .int .i64 b, .int .u64 lo, .int .u64 hi, L] 25)).alloc (.cells (cells old) 28)).alloc (.cells (cells 0) 28)) := ⟨_, rfl⟩
 have hI : W.heap[w.heap.size]? = some (.cells #[.int .i64 op, .int .i64 a, .int .i64 b, .int .u64 lo, .int .u64 hi, L] 25 (0, 0)) := hW ▸ heap_alloc3_0 _ _ _ _
 have hV : W.heap[w.heap.size + 1]? = some (.cells (cells old) 28 (0, 0)) := hW ▸ heap_alloc3_1 _ _ _ _
 have hR : W.heap[w.heap.size + 1 + 1]? = some (.cells (cells 0) 28 (0, 0)) := hW ▸ heap_alloc3_2 _ _ _ _
 have hZ : Below w.heap.size w W := hW ▸ below_alloc3 _ _ _ _
 rw [← hW]
 clear hW
 refine (HM.out _).mono ?_
 rintro e u1 ⟨rfl, hb1⟩
 have hR1 := (hb1.block _ (block_lt hR)).trans hR
 have hZ1 := hZ.trans (hb1.mono hZ.size)
 clear hI hV hR hb1 hZ
 go_wp2_with ((with_reducible refine store_zero rfl _ _ rfl (w.heap.size + 1 + 1) rfl rfl _ hR1 ?_); intro wq hq)
 exact bodyPost_ret (results_vec_tmp rfl _ _ (w.heap.size + 1 + 1) _ _ rfl rfl hq.this) rfl ⟨rfl, hZ1.trans (hq.below.mono (by omega))⟩
set_option maxRecDepth 100000 in
theorem rstore_e (p : Value) (op a b lo hi at_ : Int) (L : Value) (v : Vec) (E : Int) (w : World) (HM : ∀ W, Calls Tryz.prog 50 #[p, inV op a b lo hi L, .bool true] W fun e w' => e = .returned (.int .i64 E) ∧ Below W.heap.size W w') (hE : (E != 0) = true) :
 Calls Tryz.prog 18 #[p, inV op a b lo hi L, .int .u32 at_, .agg (cells v)] w fun e w' => e = .returned (.int .i64 E) ∧ Below w.heap.size w w' := by
 have HM := Lib.hid HM
 go_enter Tryz.func18, Tryz.ntmps18
 go_wp2_with fail
 obtain ⟨W, hW⟩ : ∃ W, W = ((w.alloc (.cells #[.int .i64 op, .int .i64 a, .int .i64 b, .int .u64 lo, .int .u64 hi, L] 25)).alloc (.cells (cells v) 28)) := ⟨_, rfl⟩
 have hI : W.heap[w.heap.size]? = some (.cells #[.int .i64 op, .int .i64 a, .int .i64 b, .int .u64 lo, .int .u64 hi, L] 25 (0, 0)) := hW ▸ heap_alloc2_old _ _ _
 have hV : W.heap[w.heap.size + 1]? = some (.cells (cells v) 28 (0, 0)) := hW ▸ heap_alloc2_new _ _ _
 have hZ : Below w.heap.size w W := hW ▸ ((Below.refl _ _).alloc (Nat.le_refl _) _).alloc (by simp) _
 rw [← hW]
 clear hW
 refine (HM.out _).mono ?_
 rintro e u1 ⟨rfl, hb1⟩
 have hZ1 := hZ.trans (hb1.mono hZ.size)
 clear hI hV hb1 hZ
 go_wp2_with fail
 go_ret
 exact ⟨rfl, hZ1⟩
end Go.Proofs.YtmfmokblmipagaaGreat
end
section
namespace Go.Proofs.YtmfmokblmipagaaGreat
open Go.RowKit Pl
set_option maxRecDepth 100000 in
theorem rfstore_0b (o : MObj) (v : Vec) (a b : Int) (lo : Int) (h0 : 0 ≤ lo) (hi at_ : Int) (L : Value) (A : Nat) (w : World) (h : MemAt w o) (ha : 0 ≤ at_ ∧ at_ < 4294967296) (hb : 0 ≤ b ∧ b < 4294967296) (hA : (A : Int) = at_ + b)  (hin : A + 16 ≤ o.n) :
 Calls Tryz.prog 18 #[.pointer (some ⟨o.p, 0, none⟩), inV 64779 a b lo hi L, .int .u32 at_, .agg (cells v)] w fun e w' => e = .returned (.int .i64 0) ∧ MemAt w' (withβ o (storeN o.β A v.toNat 16)) ∧ Keep (fun k => o.q = some k) w w' := by
 have hv : ¬ VBad 64779 b lo true := by
  rintro (c | c | c | c | ⟨d, c⟩)
  ·exact c (by omega)
  ·exact c (by decide)
  ·omega
  ·omega
  ·exact absurd d (by unfold vln; omega)
 have HM := Lib.hid (fun W => rerr_ok ⟨o.p, 0, none⟩ 64779 a b lo hi L true W (by decide) h0 hv)
 have HS : ∀ W, Calls Tryz.prog 5 #[.int .i64 64779] W fun e w' => e = .returned (.int .i64 16) ∧ w' = W := fun W => rsz_any 64779 W (by decide)
 replace HS := Lib.hid HS
 clear hv
 have hz := h.size
 go_enter Tryz.func18, Tryz.ntmps18
 go_wp2_with fail
 obtain ⟨W, hW⟩ : ∃ W, W = ((w.alloc (.cells #[.int .i64 64779, .int .i64 a, .int .i64 b, .int .u64 lo, .int .u64 hi, L] 25)).alloc (.cells (cells v) 28)) := ⟨_, rfl⟩
 have hI : W.heap[w.heap.size]? = some (.cells #[.int .i64 64779, .int .i64 a, .int .i64 b, .int .u64 lo, .int .u64 hi, L] 25 (0, 0)) := hW ▸ heap_alloc2_old _ _ _
 have hV : W.heap[w.heap.size + 1]? = some (.cells (cells v) 28 (0, 0)) := hW ▸ heap_alloc2_new _ _ _
 have hZ : Below w.heap.size w W := hW ▸ ((Below.refl _ _).alloc (Nat.le_refl _) _).alloc (by simp) _
 rw [← hW]
 clear hW
 refine (HM.out _).mono ?_
 rintro e u1 ⟨rfl, hb1⟩
 have hI1 := (hb1.block _ (block_lt hI)).trans hI
 have hV1 := (hb1.block _ (block_lt hV)).trans hV
 have c0 : u1.cell? ⟨w.heap.size, 0, none⟩ = some (.int .i64 64779) := by rw [cell_of_row u1 _ 0 _ _ _ hI1]; rfl
 have c2 : u1.cell? ⟨w.heap.size, 2, none⟩ = some (.int .i64 b) := by rw [cell_of_row u1 _ 2 _ _ _ hI1]; rfl
 have c3 : u1.cell? ⟨w.heap.size, 3, none⟩ = some (.int .u64 lo) := by rw [cell_of_row u1 _ 3 _ _ _ hI1]; rfl
 have hZ1 := hZ.trans (hb1.mono hZ.size)
 have hm := h.below hZ1
 have m0 := hm.c0
 clear hI hV hI1 hb1 hZ HM
 go_wp2_with (go_at_call 5; ((with_reducible refine (HS.out _).mono ?_); rintro e u ⟨rfl, rfl⟩))
 have hA2 : at_ + b = (A : Int) := hA.symm
 rw [hA2]
 obtain ⟨X, hX⟩ : ∃ X, X = v.toNat := ⟨_, rfl⟩
 have hXb : ∀ k, k < 16 → X / 2 ^ (8 * k) % 256 = getN v 8 (k) := fun k hk => hX ▸ rfl
 have HX := Lib.hid hX
 have HXb := Lib.hid hXb
 clear hXb hX hA2 hA HS c0 c2 m0
 have hk0 : Keep (fun k => o.q = some k) w u := Keep.of_below hZ1
 obtain ⟨q, hq, hr0⟩ := h.row.pos (by omega)
 have nq := hr0.block
 clear hr0 h
 go_wp2_with fail
 go_loopw [13] (fun iv wr => ∃ k : Nat, k ≤ 16 ∧ iv = .int .i64 (k : Int) ∧ MemAt wr (withβ o (storeN o.β A X k)) ∧ Keep (fun k => o.q = some k) w wr ∧ wr.heap[w.heap.size + 1]? = some (.cells (cells v) 28 (0, 0))) (fun iv _ => 16 - (intOf iv).toNat)
 case atStart => exact ⟨0, Nat.zero_le _, rfl, hm, hk0, hV1⟩
 case round =>
  clear hm hk0 hV1 c3
  obtain ⟨k, hk, rfl, h, hkk, hV2⟩ := hrel
  by_cases hlt : k < 16
  ·have hr := h.row
   have m0 := h.c0
   obtain ⟨Y, hY⟩ : ∃ Y, Y = X / 2 ^ (8 * k) % 256 := ⟨_, rfl⟩
   have cb : wr.cell? ⟨w.heap.size + 1, k, none⟩ = some (.int .u8 (Y : Nat)) := by rw [cell_of_row wr _ _ _ _ _ hV2, getElem?_cells _ _ (by omega), hY, HXb.out k hlt]; rfl
   have hset : MemAt (wr.setCell ⟨q, A + k, none⟩ (.int .u8 (Y : Nat))).drew (withβ o (storeN o.β A X (k + 1))) := by
    have := h.set hq (i := A + k) (x := Y) (by show _ < o.n; omega) (by omega)
    rw [hY] at this ⊢
    exact this.drew
   have hkset : Keep (fun k => o.q = some k) w (wr.setCell ⟨q, A + k, none⟩ (.int .u8 (Y : Nat))).drew := (hkk.setCell (.inl hq) _).drew
   have hVset : (wr.setCell ⟨q, A + k, none⟩ (.int .u8 (Y : Nat))).drew.heap[w.heap.size + 1]? = some (.cells (cells v) 28 (0, 0)) := (heap_setCell_other _ _ _ _ (by show _ ≠ q; omega)).trans hV2
   simp only [withβ] at m0 hr
   rw [hq] at m0 hr
   rw [show headOf (some q) = some ⟨q, 0, none⟩ from rfl] at m0
   have hcell := BytesAt.cell hr (i := A + k) (by omega)
   have hfz := BytesAt.frozen hr (A + k)
   have hcap := BytesAt.le hr
   have HY := Lib.hid hY
   clear hY
   go_wp2
   go_region
   go_wp2
   exact ⟨⟨k + 1, by omega, by go_num, hset, hkset, hVset⟩, by simp [intOf]; omega⟩
  ·obtain rfl : k = 16 := by omega
   rw [HX.out] at h
   go_wp2
   go_ret
   exact ⟨rfl, h, hkk⟩
set_option maxRecDepth 100000 in
theorem rfstore_58 (o : MObj) (v : Vec) (a b : Int) (lo : Nat) (hi at_ : Int) (L : Value) (A : Nat) (w : World) (h : MemAt w o) (ha : 0 ≤ at_ ∧ at_ < 4294967296) (hb : 0 ≤ b ∧ b < 4294967296) (hA : (A : Int) = at_ + b) (hl : lo < 16) (hin : A + 1 ≤ o.n) :
 Calls Tryz.prog 18 #[.pointer (some ⟨o.p, 0, none⟩), inV 64856 a b (lo : Nat) hi L, .int .u32 at_, .agg (cells v)] w fun e w' => e = .returned (.int .i64 0) ∧ MemAt w' (withβ o (storeN o.β A (getN v 8 lo) 1)) ∧ Keep (fun k => o.q = some k) w w' := by
 have hv : ¬ VBad 64856 b ((lo : Nat) : Int) true := by
  rintro (c | c | c | c | ⟨d, c⟩)
  ·exact c (by omega)
  ·exact c (by decide)
  ·omega
  ·omega
  ·rw [show 16 / vszN 64856 = 16 by decide] at c; omega
 have HM := Lib.hid (fun W => rerr_ok ⟨o.p, 0, none⟩ 64856 a b ((lo : Nat) : Int) hi L true W (by decide) (Int.natCast_nonneg _) hv)
 have HS : ∀ W, Calls Tryz.prog 5 #[.int .i64 64856] W fun e w' => e = .returned (.int .i64 1) ∧ w' = W := fun W => rsz_any 64856 W (by decide)
 replace HS := Lib.hid HS
 clear hv
 have hz := h.size
 go_enter Tryz.func18, Tryz.ntmps18
 go_wp2_with fail
 obtain ⟨W, hW⟩ : ∃ W, W = ((w.alloc (.cells #[.int .i64 64856, .int .i64 a, .int .i64 b, .int .u64 (lo : Nat), .int .u64 hi, L] 25)).alloc (.cells (cells v) 28)) := ⟨_, rfl⟩
 have hI : W.heap[w.heap.size]? = some (.cells #[.int .i64 64856, .int .i64 a, .int .i64 b, .int .u64 (lo : Nat), .int .u64 hi, L] 25 (0, 0)) := hW ▸ heap_alloc2_old _ _ _
 have hV : W.heap[w.heap.size + 1]? = some (.cells (cells v) 28 (0, 0)) := hW ▸ heap_alloc2_new _ _ _
 have hZ : Below w.heap.size w W := hW ▸ ((Below.refl _ _).alloc (Nat.le_refl _) _).alloc (by simp) _
 rw [← hW]
 clear hW
 refine (HM.out _).mono ?_
 rintro e u1 ⟨rfl, hb1⟩
 have hI1 := (hb1.block _ (block_lt hI)).trans hI
 have hV1 := (hb1.block _ (block_lt hV)).trans hV
 have c0 : u1.cell? ⟨w.heap.size, 0, none⟩ = some (.int .i64 64856) := by rw [cell_of_row u1 _ 0 _ _ _ hI1]; rfl
 have c2 : u1.cell? ⟨w.heap.size, 2, none⟩ = some (.int .i64 b) := by rw [cell_of_row u1 _ 2 _ _ _ hI1]; rfl
 have c3 : u1.cell? ⟨w.heap.size, 3, none⟩ = some (.int .u64 (lo : Nat)) := by rw [cell_of_row u1 _ 3 _ _ _ hI1]; rfl
 have hZ1 := hZ.trans (hb1.mono hZ.size)
 have hm := h.below hZ1
 have m0 := hm.c0
 clear hI hV hI1 hb1 hZ HM
 go_wp2_with (go_at_call 5; ((with_reducible refine (HS.out _).mono ?_); rintro e u ⟨rfl, rfl⟩))
 have hA2 : at_ + b = (A : Int) := hA.symm
 rw [hA2]
 obtain ⟨X, hX⟩ : ∃ X, X = (getN v 8 lo) := ⟨_, rfl⟩
 have hXb : ∀ k, k < 1 → X / 2 ^ (8 * k) % 256 = getN v 8 (1 * lo + k) := fun k hk => hX ▸ (lane_byte v 1 lo k hk).symm
 have HX := Lib.hid hX
 have HXb := Lib.hid hXb
 clear hXb hX hA2 hA HS c0 c2 m0
 have hk0 : Keep (fun k => o.q = some k) w u := Keep.of_below hZ1
 obtain ⟨q, hq, hr0⟩ := h.row.pos (by omega)
 have nq := hr0.block
 clear hr0 h
 go_wp2_with fail
 go_loopw [13] (fun iv wr => ∃ k : Nat, k ≤ 1 ∧ iv = .int .i64 (k : Int) ∧ MemAt wr (withβ o (storeN o.β A X k)) ∧ Keep (fun k => o.q = some k) w wr ∧ wr.heap[w.heap.size + 1]? = some (.cells (cells v) 28 (0, 0))) (fun iv _ => 1 - (intOf iv).toNat)
 case atStart => exact ⟨0, Nat.zero_le _, rfl, hm, hk0, hV1⟩
 case round =>
  clear hm hk0 hV1 c3
  obtain ⟨k, hk, rfl, h, hkk, hV2⟩ := hrel
  by_cases hlt : k < 1
  ·have hr := h.row
   have m0 := h.c0
   obtain ⟨Y, hY⟩ : ∃ Y, Y = X / 2 ^ (8 * k) % 256 := ⟨_, rfl⟩
   have cb : wr.cell? ⟨w.heap.size + 1, lo + k, none⟩ = some (.int .u8 (Y : Nat)) := by rw [cell_of_row wr _ _ _ _ _ hV2, getElem?_cells _ _ (by omega), hY, HXb.out k hlt, show lo + k = 1 * lo + k by omega]; rfl
   have hset : MemAt (wr.setCell ⟨q, A + k, none⟩ (.int .u8 (Y : Nat))).drew (withβ o (storeN o.β A X (k + 1))) := by
    have := h.set hq (i := A + k) (x := Y) (by show _ < o.n; omega) (by omega)
    rw [hY] at this ⊢
    exact this.drew
   have hkset : Keep (fun k => o.q = some k) w (wr.setCell ⟨q, A + k, none⟩ (.int .u8 (Y : Nat))).drew := (hkk.setCell (.inl hq) _).drew
   have hVset : (wr.setCell ⟨q, A + k, none⟩ (.int .u8 (Y : Nat))).drew.heap[w.heap.size + 1]? = some (.cells (cells v) 28 (0, 0)) := (heap_setCell_other _ _ _ _ (by show _ ≠ q; omega)).trans hV2
   simp only [withβ] at m0 hr
   rw [hq] at m0 hr
   rw [show headOf (some q) = some ⟨q, 0, none⟩ from rfl] at m0
   have hcell := BytesAt.cell hr (i := A + k) (by omega)
   have hfz := BytesAt.frozen hr (A + k)
   have hcap := BytesAt.le hr
   have HY := Lib.hid hY
   clear hY
   go_wp2
   go_region
   go_wp2
   exact ⟨⟨k + 1, by omega, by go_num, hset, hkset, hVset⟩, by simp [intOf]; omega⟩
  ·obtain rfl : k = 1 := by omega
   rw [HX.out] at h
   go_wp2
   go_ret
   exact ⟨rfl, h, hkk⟩
set_option maxRecDepth 100000 in
theorem rfstore_59 (o : MObj) (v : Vec) (a b : Int) (lo : Nat) (hi at_ : Int) (L : Value) (A : Nat) (w : World) (h : MemAt w o) (ha : 0 ≤ at_ ∧ at_ < 4294967296) (hb : 0 ≤ b ∧ b < 4294967296) (hA : (A : Int) = at_ + b) (hl : lo < 8) (hin : A + 2 ≤ o.n) :
 Calls Tryz.prog 18 #[.pointer (some ⟨o.p, 0, none⟩), inV 64857 a b (lo : Nat) hi L, .int .u32 at_, .agg (cells v)] w fun e w' => e = .returned (.int .i64 0) ∧ MemAt w' (withβ o (storeN o.β A (getN v 16 lo) 2)) ∧ Keep (fun k => o.q = some k) w w' := by
 have hv : ¬ VBad 64857 b ((lo : Nat) : Int) true := by
  rintro (c | c | c | c | ⟨d, c⟩)
  ·exact c (by omega)
  ·exact c (by decide)
  ·omega
  ·omega
  ·rw [show 16 / vszN 64857 = 8 by decide] at c; omega
 have HM := Lib.hid (fun W => rerr_ok ⟨o.p, 0, none⟩ 64857 a b ((lo : Nat) : Int) hi L true W (by decide) (Int.natCast_nonneg _) hv)
 have HS : ∀ W, Calls Tryz.prog 5 #[.int .i64 64857] W fun e w' => e = .returned (.int .i64 2) ∧ w' = W := fun W => rsz_any 64857 W (by decide)
 replace HS := Lib.hid HS
 clear hv
 have hz := h.size
 go_enter Tryz.func18, Tryz.ntmps18
 go_wp2_with fail
 obtain ⟨W, hW⟩ : ∃ W, W = ((w.alloc (.cells #[.int .i64 64857, .int .i64 a, .int .i64 b, .int .u64 (lo : Nat), .int .u64 hi, L] 25)).alloc (.cells (cells v) 28)) := ⟨_, rfl⟩
 have hI : W.heap[w.heap.size]? = some (.cells #[.int .i64 64857, .int .i64 a, .int .i64 b, .int .u64 (lo : Nat), .int .u64 hi, L] 25 (0, 0)) := hW ▸ heap_alloc2_old _ _ _
 have hV : W.heap[w.heap.size + 1]? = some (.cells (cells v) 28 (0, 0)) := hW ▸ heap_alloc2_new _ _ _
 have hZ : Below w.heap.size w W := hW ▸ ((Below.refl _ _).alloc (Nat.le_refl _) _).alloc (by simp) _
 rw [← hW]
 clear hW
 refine (HM.out _).mono ?_
 rintro e u1 ⟨rfl, hb1⟩
 have hI1 := (hb1.block _ (block_lt hI)).trans hI
 have hV1 := (hb1.block _ (block_lt hV)).trans hV
 have c0 : u1.cell? ⟨w.heap.size, 0, none⟩ = some (.int .i64 64857) := by rw [cell_of_row u1 _ 0 _ _ _ hI1]; rfl
 have c2 : u1.cell? ⟨w.heap.size, 2, none⟩ = some (.int .i64 b) := by rw [cell_of_row u1 _ 2 _ _ _ hI1]; rfl
 have c3 : u1.cell? ⟨w.heap.size, 3, none⟩ = some (.int .u64 (lo : Nat)) := by rw [cell_of_row u1 _ 3 _ _ _ hI1]; rfl
 have hZ1 := hZ.trans (hb1.mono hZ.size)
 have hm := h.below hZ1
 have m0 := hm.c0
 clear hI hV hI1 hb1 hZ HM
 go_wp2_with (go_at_call 5; ((with_reducible refine (HS.out _).mono ?_); rintro e u ⟨rfl, rfl⟩))
 have hA2 : at_ + b = (A : Int) := hA.symm
 rw [hA2]
 obtain ⟨X, hX⟩ : ∃ X, X = (getN v 16 lo) := ⟨_, rfl⟩
 have hXb : ∀ k, k < 2 → X / 2 ^ (8 * k) % 256 = getN v 8 (2 * lo + k) := fun k hk => hX ▸ (lane_byte v 2 lo k hk).symm
 have HX := Lib.hid hX
 have HXb := Lib.hid hXb
 clear hXb hX hA2 hA HS c0 c2 m0
 have hk0 : Keep (fun k => o.q = some k) w u := Keep.of_below hZ1
 obtain ⟨q, hq, hr0⟩ := h.row.pos (by omega)
 have nq := hr0.block
 clear hr0 h
 go_wp2_with fail
 go_loopw [13] (fun iv wr => ∃ k : Nat, k ≤ 2 ∧ iv = .int .i64 (k : Int) ∧ MemAt wr (withβ o (storeN o.β A X k)) ∧ Keep (fun k => o.q = some k) w wr ∧ wr.heap[w.heap.size + 1]? = some (.cells (cells v) 28 (0, 0))) (fun iv _ => 2 - (intOf iv).toNat)
 case atStart => exact ⟨0, Nat.zero_le _, rfl, hm, hk0, hV1⟩
 case round =>
  clear hm hk0 hV1 c3
  obtain ⟨k, hk, rfl, h, hkk, hV2⟩ := hrel
  by_cases hlt : k < 2
  ·have hr := h.row
   have m0 := h.c0
   obtain ⟨Y, hY⟩ : ∃ Y, Y = X / 2 ^ (8 * k) % 256 := ⟨_, rfl⟩
   have cb : wr.cell? ⟨w.heap.size + 1, lo * 2 + k, none⟩ = some (.int .u8 (Y : Nat)) := by rw [cell_of_row wr _ _ _ _ _ hV2, getElem?_cells _ _ (by omega), hY, HXb.out k hlt, show lo * 2 + k = 2 * lo + k by omega]; rfl
   have hset : MemAt (wr.setCell ⟨q, A + k, none⟩ (.int .u8 (Y : Nat))).drew (withβ o (storeN o.β A X (k + 1))) := by
    have := h.set hq (i := A + k) (x := Y) (by show _ < o.n; omega) (by omega)
    rw [hY] at this ⊢
    exact this.drew
   have hkset : Keep (fun k => o.q = some k) w (wr.setCell ⟨q, A + k, none⟩ (.int .u8 (Y : Nat))).drew := (hkk.setCell (.inl hq) _).drew
   have hVset : (wr.setCell ⟨q, A + k, none⟩ (.int .u8 (Y : Nat))).drew.heap[w.heap.size + 1]? = some (.cells (cells v) 28 (0, 0)) := (heap_setCell_other _ _ _ _ (by show _ ≠ q; omega)).trans hV2
   simp only [withβ] at m0 hr
   rw [hq] at m0 hr
   rw [show headOf (some q) = some ⟨q, 0, none⟩ from rfl] at m0
   have hcell := BytesAt.cell hr (i := A + k) (by omega)
   have hfz := BytesAt.frozen hr (A + k)
   have hcap := BytesAt.le hr
   have HY := Lib.hid hY
   clear hY
   go_wp2
   go_region
   go_wp2
   exact ⟨⟨k + 1, by omega, by go_num, hset, hkset, hVset⟩, by simp [intOf]; omega⟩
  ·obtain rfl : k = 2 := by omega
   rw [HX.out] at h
   go_wp2
   go_ret
   exact ⟨rfl, h, hkk⟩
set_option maxRecDepth 100000 in
theorem rfstore_5a (o : MObj) (v : Vec) (a b : Int) (lo : Nat) (hi at_ : Int) (L : Value) (A : Nat) (w : World) (h : MemAt w o) (ha : 0 ≤ at_ ∧ at_ < 4294967296) (hb : 0 ≤ b ∧ b < 4294967296) (hA : (A : Int) = at_ + b) (hl : lo < 4) (hin : A + 4 ≤ o.n) :
 Calls Tryz.prog 18 #[.pointer (some ⟨o.p, 0, none⟩), inV 64858 a b (lo : Nat) hi L, .int .u32 at_, .agg (cells v)] w fun e w' => e = .returned (.int .i64 0) ∧ MemAt w' (withβ o (storeN o.β A (getN v 32 lo) 4)) ∧ Keep (fun k => o.q = some k) w w' := by
 have hv : ¬ VBad 64858 b ((lo : Nat) : Int) true := by
  rintro (c | c | c | c | ⟨d, c⟩)
  ·exact c (by omega)
  ·exact c (by decide)
  ·omega
  ·omega
  ·rw [show 16 / vszN 64858 = 4 by decide] at c; omega
 have HM := Lib.hid (fun W => rerr_ok ⟨o.p, 0, none⟩ 64858 a b ((lo : Nat) : Int) hi L true W (by decide) (Int.natCast_nonneg _) hv)
 have HS : ∀ W, Calls Tryz.prog 5 #[.int .i64 64858] W fun e w' => e = .returned (.int .i64 4) ∧ w' = W := fun W => rsz_any 64858 W (by decide)
 replace HS := Lib.hid HS
 clear hv
 have hz := h.size
 go_enter Tryz.func18, Tryz.ntmps18
 go_wp2_with fail
 obtain ⟨W, hW⟩ : ∃ W, W = ((w.alloc (.cells #[.int .i64 64858, .int .i64 a, .int .i64 b, .int .u64 (lo : Nat), .int .u64 hi, L] 25)).alloc (.cells (cells v) 28)) := ⟨_, rfl⟩
 have hI : W.heap[w.heap.size]? = some (.cells #[.int .i64 64858, .int .i64 a, .int .i64 b, .int .u64 (lo : Nat), .int .u64 hi, L] 25 (0, 0)) := hW ▸ heap_alloc2_old _ _ _
 have hV : W.heap[w.heap.size + 1]? = some (.cells (cells v) 28 (0, 0)) := hW ▸ heap_alloc2_new _ _ _
 have hZ : Below w.heap.size w W := hW ▸ ((Below.refl _ _).alloc (Nat.le_refl _) _).alloc (by simp) _
 rw [← hW]
 clear hW
 refine (HM.out _).mono ?_
 rintro e u1 ⟨rfl, hb1⟩
 have hI1 := (hb1.block _ (block_lt hI)).trans hI
 have hV1 := (hb1.block _ (block_lt hV)).trans hV
 have c0 : u1.cell? ⟨w.heap.size, 0, none⟩ = some (.int .i64 64858) := by rw [cell_of_row u1 _ 0 _ _ _ hI1]; rfl
 have c2 : u1.cell? ⟨w.heap.size, 2, none⟩ = some (.int .i64 b) := by rw [cell_of_row u1 _ 2 _ _ _ hI1]; rfl
 have c3 : u1.cell? ⟨w.heap.size, 3, none⟩ = some (.int .u64 (lo : Nat)) := by rw [cell_of_row u1 _ 3 _ _ _ hI1]; rfl
 have hZ1 := hZ.trans (hb1.mono hZ.size)
 have hm := h.below hZ1
 have m0 := hm.c0
 clear hI hV hI1 hb1 hZ HM
 go_wp2_with (go_at_call 5; ((with_reducible refine (HS.out _).mono ?_); rintro e u ⟨rfl, rfl⟩))
 have hA2 : at_ + b = (A : Int) := hA.symm
 rw [hA2]
 obtain ⟨X, hX⟩ : ∃ X, X = (getN v 32 lo) := ⟨_, rfl⟩
 have hXb : ∀ k, k < 4 → X / 2 ^ (8 * k) % 256 = getN v 8 (4 * lo + k) := fun k hk => hX ▸ (lane_byte v 4 lo k hk).symm
 have HX := Lib.hid hX
 have HXb := Lib.hid hXb
 clear hXb hX hA2 hA HS c0 c2 m0
 have hk0 : Keep (fun k => o.q = some k) w u := Keep.of_below hZ1
 obtain ⟨q, hq, hr0⟩ := h.row.pos (by omega)
 have nq := hr0.block
 clear hr0 h
 go_wp2_with fail
 go_loopw [13] (fun iv wr => ∃ k : Nat, k ≤ 4 ∧ iv = .int .i64 (k : Int) ∧ MemAt wr (withβ o (storeN o.β A X k)) ∧ Keep (fun k => o.q = some k) w wr ∧ wr.heap[w.heap.size + 1]? = some (.cells (cells v) 28 (0, 0))) (fun iv _ => 4 - (intOf iv).toNat)
 case atStart => exact ⟨0, Nat.zero_le _, rfl, hm, hk0, hV1⟩
 case round =>
  clear hm hk0 hV1 c3
  obtain ⟨k, hk, rfl, h, hkk, hV2⟩ := hrel
  by_cases hlt : k < 4
  ·have hr := h.row
   have m0 := h.c0
   obtain ⟨Y, hY⟩ : ∃ Y, Y = X / 2 ^ (8 * k) % 256 := ⟨_, rfl⟩
   have cb : wr.cell? ⟨w.heap.size + 1, lo * 4 + k, none⟩ = some (.int .u8 (Y : Nat)) := by rw [cell_of_row wr _ _ _ _ _ hV2, getElem?_cells _ _ (by omega), hY, HXb.out k hlt, show lo * 4 + k = 4 * lo + k by omega]; rfl
   have hset : MemAt (wr.setCell ⟨q, A + k, none⟩ (.int .u8 (Y : Nat))).drew (withβ o (storeN o.β A X (k + 1))) := by
    have := h.set hq (i := A + k) (x := Y) (by show _ < o.n; omega) (by omega)
    rw [hY] at this ⊢
    exact this.drew
   have hkset : Keep (fun k => o.q = some k) w (wr.setCell ⟨q, A + k, none⟩ (.int .u8 (Y : Nat))).drew := (hkk.setCell (.inl hq) _).drew
   have hVset : (wr.setCell ⟨q, A + k, none⟩ (.int .u8 (Y : Nat))).drew.heap[w.heap.size + 1]? = some (.cells (cells v) 28 (0, 0)) := (heap_setCell_other _ _ _ _ (by show _ ≠ q; omega)).trans hV2
   simp only [withβ] at m0 hr
   rw [hq] at m0 hr
   rw [show headOf (some q) = some ⟨q, 0, none⟩ from rfl] at m0
   have hcell := BytesAt.cell hr (i := A + k) (by omega)
   have hfz := BytesAt.frozen hr (A + k)
   have hcap := BytesAt.le hr
   have HY := Lib.hid hY
   clear hY
   go_wp2
   go_region
   go_wp2
   exact ⟨⟨k + 1, by omega, by go_num, hset, hkset, hVset⟩, by simp [intOf]; omega⟩
  ·obtain rfl : k = 4 := by omega
   rw [HX.out] at h
   go_wp2
   go_ret
   exact ⟨rfl, h, hkk⟩
set_option maxRecDepth 100000 in
theorem rfstore_5b (o : MObj) (v : Vec) (a b : Int) (lo : Nat) (hi at_ : Int) (L : Value) (A : Nat) (w : World) (h : MemAt w o) (ha : 0 ≤ at_ ∧ at_ < 4294967296) (hb : 0 ≤ b ∧ b < 4294967296) (hA : (A : Int) = at_ + b) (hl : lo < 2) (hin : A + 8 ≤ o.n) :
 Calls Tryz.prog 18 #[.pointer (some ⟨o.p, 0, none⟩), inV 64859 a b (lo : Nat) hi L, .int .u32 at_, .agg (cells v)] w fun e w' => e = .returned (.int .i64 0) ∧ MemAt w' (withβ o (storeN o.β A (getN v 64 lo) 8)) ∧ Keep (fun k => o.q = some k) w w' := by
 have hv : ¬ VBad 64859 b ((lo : Nat) : Int) true := by
  rintro (c | c | c | c | ⟨d, c⟩)
  ·exact c (by omega)
  ·exact c (by decide)
  ·omega
  ·omega
  ·rw [show 16 / vszN 64859 = 2 by decide] at c; omega
 have HM := Lib.hid (fun W => rerr_ok ⟨o.p, 0, none⟩ 64859 a b ((lo : Nat) : Int) hi L true W (by decide) (Int.natCast_nonneg _) hv)
 have HS : ∀ W, Calls Tryz.prog 5 #[.int .i64 64859] W fun e w' => e = .returned (.int .i64 8) ∧ w' = W := fun W => rsz_any 64859 W (by decide)
 replace HS := Lib.hid HS
 clear hv
 have hz := h.size
 go_enter Tryz.func18, Tryz.ntmps18
 go_wp2_with fail
 obtain ⟨W, hW⟩ : ∃ W, W = ((w.alloc (.cells #[.int .i64 64859, .int .i64 a, .int .i64 b, .int .u64 (lo : Nat), .int .u64 hi, L] 25)).alloc (.cells (cells v) 28)) := ⟨_, rfl⟩
 have hI : W.heap[w.heap.size]? = some (.cells #[.int .i64 64859, .int .i64 a, .int .i64 b, .int .u64 (lo : Nat), .int .u64 hi, L] 25 (0, 0)) := hW ▸ heap_alloc2_old _ _ _
 have hV : W.heap[w.heap.size + 1]? = some (.cells (cells v) 28 (0, 0)) := hW ▸ heap_alloc2_new _ _ _
 have hZ : Below w.heap.size w W := hW ▸ ((Below.refl _ _).alloc (Nat.le_refl _) _).alloc (by simp) _
 rw [← hW]
 clear hW
 refine (HM.out _).mono ?_
 rintro e u1 ⟨rfl, hb1⟩
 have hI1 := (hb1.block _ (block_lt hI)).trans hI
 have hV1 := (hb1.block _ (block_lt hV)).trans hV
 have c0 : u1.cell? ⟨w.heap.size, 0, none⟩ = some (.int .i64 64859) := by rw [cell_of_row u1 _ 0 _ _ _ hI1]; rfl
 have c2 : u1.cell? ⟨w.heap.size, 2, none⟩ = some (.int .i64 b) := by rw [cell_of_row u1 _ 2 _ _ _ hI1]; rfl
 have c3 : u1.cell? ⟨w.heap.size, 3, none⟩ = some (.int .u64 (lo : Nat)) := by rw [cell_of_row u1 _ 3 _ _ _ hI1]; rfl
 have hZ1 := hZ.trans (hb1.mono hZ.size)
 have hm := h.below hZ1
 have m0 := hm.c0
 clear hI hV hI1 hb1 hZ HM
 go_wp2_with (go_at_call 5; ((with_reducible refine (HS.out _).mono ?_); rintro e u ⟨rfl, rfl⟩))
 have hA2 : at_ + b = (A : Int) := hA.symm
 rw [hA2]
 obtain ⟨X, hX⟩ : ∃ X, X = (getN v 64 lo) := ⟨_, rfl⟩
 have hXb : ∀ k, k < 8 → X / 2 ^ (8 * k) % 256 = getN v 8 (8 * lo + k) := fun k hk => hX ▸ (lane_byte v 8 lo k hk).symm
 have HX := Lib.hid hX
 have HXb := Lib.hid hXb
 clear hXb hX hA2 hA HS c0 c2 m0
 have hk0 : Keep (fun k => o.q = some k) w u := Keep.of_below hZ1
 obtain ⟨q, hq, hr0⟩ := h.row.pos (by omega)
 have nq := hr0.block
 clear hr0 h
 go_wp2_with fail
 go_loopw [13] (fun iv wr => ∃ k : Nat, k ≤ 8 ∧ iv = .int .i64 (k : Int) ∧ MemAt wr (withβ o (storeN o.β A X k)) ∧ Keep (fun k => o.q = some k) w wr ∧ wr.heap[w.heap.size + 1]? = some (.cells (cells v) 28 (0, 0))) (fun iv _ => 8 - (intOf iv).toNat)
 case atStart => exact ⟨0, Nat.zero_le _, rfl, hm, hk0, hV1⟩
 case round =>
  clear hm hk0 hV1 c3
  obtain ⟨k, hk, rfl, h, hkk, hV2⟩ := hrel
  by_cases hlt : k < 8
  ·have hr := h.row
   have m0 := h.c0
   obtain ⟨Y, hY⟩ : ∃ Y, Y = X / 2 ^ (8 * k) % 256 := ⟨_, rfl⟩
   have cb : wr.cell? ⟨w.heap.size + 1, lo * 8 + k, none⟩ = some (.int .u8 (Y : Nat)) := by rw [cell_of_row wr _ _ _ _ _ hV2, getElem?_cells _ _ (by omega), hY, HXb.out k hlt, show lo * 8 + k = 8 * lo + k by omega]; rfl
   have hset : MemAt (wr.setCell ⟨q, A + k, none⟩ (.int .u8 (Y : Nat))).drew (withβ o (storeN o.β A X (k + 1))) := by
    have := h.set hq (i := A + k) (x := Y) (by show _ < o.n; omega) (by omega)
    rw [hY] at this ⊢
    exact this.drew
   have hkset : Keep (fun k => o.q = some k) w (wr.setCell ⟨q, A + k, none⟩ (.int .u8 (Y : Nat))).drew := (hkk.setCell (.inl hq) _).drew
   have hVset : (wr.setCell ⟨q, A + k, none⟩ (.int .u8 (Y : Nat))).drew.heap[w.heap.size + 1]? = some (.cells (cells v) 28 (0, 0)) := (heap_setCell_other _ _ _ _ (by show _ ≠ q; omega)).trans hV2
   simp only [withβ] at m0 hr
   rw [hq] at m0 hr
   rw [show headOf (some q) = some ⟨q, 0, none⟩ from rfl] at m0
   have hcell := BytesAt.cell hr (i := A + k) (by omega)
   have hfz := BytesAt.frozen hr (A + k)
   have hcap := BytesAt.le hr
   have HY := Lib.hid hY
   clear hY
   go_wp2
   go_region
   go_wp2
   exact ⟨⟨k + 1, by omega, by go_num, hset, hkset, hVset⟩, by simp [intOf]; omega⟩
  ·obtain rfl : k = 8 := by omega
   rw [HX.out] at h
   go_wp2
   go_ret
   exact ⟨rfl, h, hkk⟩
end Go.Proofs.YtmfmokblmipagaaGreat
end
section
namespace Go.Proofs.YtmfmokblmipagaaGreat
open Go.RowKit Pl
set_option maxRecDepth 100000 in
theorem rfload_farA (op : Int) (n : Nat) (o : MObj) (old : Vec) (a b : Int) (lo : Int) (h0 : 0 ≤ lo) (hr : -9223372036854775808 ≤ op ∧ op ≤ 9223372036854775807) (hn : n ≤ 16) (hsz : vszN op = n) (hv : ¬ VBad op b lo false) (hi at_ : Int) (L : Value) (A : Nat) (w : World) (h : MemAt w o) (ha : 0 ≤ at_ ∧ at_ < 4294967296) (hb : 0 ≤ b ∧ b < 4294967296) (hA : (A : Int) = at_ + b)  (hin : ¬ A + n ≤ o.n) :
 Calls Tryz.prog 19 #[.pointer (some ⟨o.p, 0, none⟩), inV op a b lo hi L, .int .u32 at_, .agg (cells old)] w fun e w' => e = .returned (.tuple #[.agg (cells 0), .int .i64 23]) ∧ Below w.heap.size w w' := by
 have HM := Lib.hid (fun W => rerr_ok ⟨o.p, 0, none⟩ op a b lo hi L false W hr h0 hv)
 have HS : ∀ W, Calls Tryz.prog 5 #[.int .i64 op] W fun e w' => e = .returned (.int .i64 (n : Int)) ∧ w' = W := fun W => by have := rsz_any op W hr; rw [hsz] at this; exact this
 replace HS := Lib.hid HS
 clear hv hsz hr
 have hz := h.size
 go_enter Tryz.func19, Tryz.ntmps19
 go_wp2_with fail
 rw [← cells_zero]
 obtain ⟨W, hW⟩ : ∃ W, W = (((w.alloc (.cells #[.int .i64 op, .int .i64 a, .int .i64 b, .int .u64 lo, .int .u64 hi, L] 25)).alloc (.cells (cells old) 28)).alloc (.cells (cells 0) 28)) := ⟨_, rfl⟩
 have hI : W.heap[w.heap.size]? = some (.cells #[.int .i64 op, .int .i64 a, .int .i64 b, .int .u64 lo, .int .u64 hi, L] 25 (0, 0)) := hW ▸ heap_alloc3_0 _ _ _ _
 have hV : W.heap[w.heap.size + 1]? = some (.cells (cells old) 28 (0, 0)) := hW ▸ heap_alloc3_1 _ _ _ _
 have hR : W.heap[w.heap.size + 1 + 1]? = some (.cells (cells 0) 28 (0, 0)) := hW ▸ heap_alloc3_2 _ _ _ _
 have hZ : Below w.heap.size w W := hW ▸ below_alloc3 _ _ _ _
 rw [← hW]
 clear hW
 refine (HM.out _).mono ?_
 rintro e u1 ⟨rfl, hb1⟩
 have hI1 := (hb1.block _ (block_lt hI)).trans hI
 have hV1 := (hb1.block _ (block_lt hV)).trans hV
 have hR1 := (hb1.block _ (block_lt hR)).trans hR
 have c0 : u1.cell? ⟨w.heap.size, 0, none⟩ = some (.int .i64 op) := by rw [cell_of_row u1 _ 0 _ _ _ hI1]; rfl
 have c2 : u1.cell? ⟨w.heap.size, 2, none⟩ = some (.int .i64 b) := by rw [cell_of_row u1 _ 2 _ _ _ hI1]; rfl
 have hZ1 := hZ.trans (hb1.mono hZ.size)
 have hm := h.below hZ1
 have m0 := hm.c0
 clear hI hV hR hb1 hZ HM hm
 go_wp2_with (first | (go_at_call 5; ((with_reducible refine (HS.out _).mono ?_); rintro e u ⟨rfl, rfl⟩)) | ((with_reducible refine store_zero rfl _ _ rfl (w.heap.size + 1 + 1) rfl rfl _ hR1 ?_); intro wq hq))
 exact bodyPost_ret (results_vec_tmp rfl _ _ (w.heap.size + 1 + 1) _ _ rfl rfl hq.this) rfl ⟨rfl, hZ1.trans (hq.below.mono (by omega))⟩
set_option maxRecDepth 100000 in
theorem rfstore_farA (op : Int) (n : Nat) (o : MObj) (v : Vec) (a b : Int) (lo : Int) (h0 : 0 ≤ lo) (hr : -9223372036854775808 ≤ op ∧ op ≤ 9223372036854775807) (hn : n ≤ 16) (hsz : vszN op = n) (hv : ¬ VBad op b lo true) (hi at_ : Int) (L : Value) (A : Nat) (w : World) (h : MemAt w o) (ha : 0 ≤ at_ ∧ at_ < 4294967296) (hb : 0 ≤ b ∧ b < 4294967296) (hA : (A : Int) = at_ + b)  (hin : ¬ A + n ≤ o.n) :
 Calls Tryz.prog 18 #[.pointer (some ⟨o.p, 0, none⟩), inV op a b lo hi L, .int .u32 at_, .agg (cells v)] w fun e w' => e = .returned (.int .i64 23) ∧ Below w.heap.size w w' := by
 have HM := Lib.hid (fun W => rerr_ok ⟨o.p, 0, none⟩ op a b lo hi L true W hr h0 hv)
 have HS : ∀ W, Calls Tryz.prog 5 #[.int .i64 op] W fun e w' => e = .returned (.int .i64 (n : Int)) ∧ w' = W := fun W => by have := rsz_any op W hr; rw [hsz] at this; exact this
 replace HS := Lib.hid HS
 clear hv hsz hr
 have hz := h.size
 go_enter Tryz.func18, Tryz.ntmps18
 go_wp2_with fail
 obtain ⟨W, hW⟩ : ∃ W, W = ((w.alloc (.cells #[.int .i64 op, .int .i64 a, .int .i64 b, .int .u64 lo, .int .u64 hi, L] 25)).alloc (.cells (cells v) 28)) := ⟨_, rfl⟩
 have hI : W.heap[w.heap.size]? = some (.cells #[.int .i64 op, .int .i64 a, .int .i64 b, .int .u64 lo, .int .u64 hi, L] 25 (0, 0)) := hW ▸ heap_alloc2_old _ _ _
 have hV : W.heap[w.heap.size + 1]? = some (.cells (cells v) 28 (0, 0)) := hW ▸ heap_alloc2_new _ _ _
 have hZ : Below w.heap.size w W := hW ▸ ((Below.refl _ _).alloc (Nat.le_refl _) _).alloc (by simp) _
 rw [← hW]
 clear hW
 refine (HM.out _).mono ?_
 rintro e u1 ⟨rfl, hb1⟩
 have hI1 := (hb1.block _ (block_lt hI)).trans hI
 have hV1 := (hb1.block _ (block_lt hV)).trans hV
 have c0 : u1.cell? ⟨w.heap.size, 0, none⟩ = some (.int .i64 op) := by rw [cell_of_row u1 _ 0 _ _ _ hI1]; rfl
 have c2 : u1.cell? ⟨w.heap.size, 2, none⟩ = some (.int .i64 b) := by rw [cell_of_row u1 _ 2 _ _ _ hI1]; rfl
 have c3 : u1.cell? ⟨w.heap.size, 3, none⟩ = some (.int .u64 lo) := by rw [cell_of_row u1 _ 3 _ _ _ hI1]; rfl
 have hZ1 := hZ.trans (hb1.mono hZ.size)
 have hm := h.below hZ1
 have m0 := hm.c0
 clear hI hV hI1 hb1 hZ HM
 go_wp2_with (go_at_call 5; ((with_reducible refine (HS.out _).mono ?_); rintro e u ⟨rfl, rfl⟩))
 go_ret
 exact ⟨rfl, hZ1⟩
end Go.Proofs.YtmfmokblmipagaaGreat
end
section
namespace Go.Proofs.YtmfmokblmipagaaGreat
open Go.RowKit Go.ChangeShapes Go.WideShapes Go.ChangeAt Pl
set_option maxRecDepth 100000 in
theorem ifields : ∃ f0 f1 f2 f3 f4 f5 : Field, Tryz.prog.underlying 25 = some (.struct #[f0, f1, f2, f3, f4, f5]) ∧ (f0.type = 3 ∧ f0.offset = 0) ∧ (f1.type = 3 ∧ f1.offset = 1) ∧ (f2.type = 3 ∧ f2.offset = 2) ∧ (f3.type = 22 ∧ f3.offset = 3) ∧ (f4.type = 22 ∧ f4.offset = 4) :=
 ⟨_, _, _, _, _, _, rfl, ⟨rfl, rfl⟩, ⟨rfl, rfl⟩, ⟨rfl, rfl⟩, ⟨rfl, rfl⟩, ⟨rfl, rfl⟩⟩
set_option maxRecDepth 100000 in
theorem trod_instr {H : Type} {enc : TypeId × Value → H} {w : World} {spare : Nat → Bool} {held : Bool} {base fuel : Nat} {c0 c1 c2 c3 c4 c5 : Value} {x : DataW H × List MemPlace}
 (h : DataW.trod enc Tryz.prog w base spare held fuel 25 [c0, c1, c2, c3, c4, c5] = some x) :
 ∃ op a b lo hi, c0 = .int .i64 op ∧ c1 = .int .i64 a ∧ c2 = .int .i64 b ∧ c3 = .int .u64 lo ∧ c4 = .int .u64 hi ∧ (Lit.int .i64 op).wf = true ∧ (Lit.int .i64 a).wf = true ∧ (Lit.int .i64 b).wf = true ∧ (Lit.int .u64 lo).wf = true ∧ (Lit.int .u64 hi).wf = true := by
 have hi : Tryz.prog.underlying 3 = some (.int .i64) := by kernel_rfl
 have hu : Tryz.prog.underlying 22 = some (.int .u64) := by kernel_rfl
 have hci : Tryz.prog.cellsOf 3 = 1 := by kernel_rfl
 have hcu : Tryz.prog.cellsOf 22 = 1 := by kernel_rfl
 obtain ⟨f0, f1, f2, f3, f4, f5, hS, ⟨t0, o0⟩, ⟨t1, o1⟩, ⟨t2, o2⟩, ⟨t3, o3⟩, ⟨t4, o4⟩⟩ := ifields
 obtain ⟨xs, n, _, _, _, hl, hx⟩ := DataW.trod_struct hS h
 have hl6 : xs.length = 6 := hl
 have g0 := hx 0 f0 rfl
 have g1 := hx 1 f1 rfl
 have g2 := hx 2 f2 rfl
 have g3 := hx 3 f3 rfl
 have g4 := hx 4 f4 rfl
 rw [List.getElem?_eq_getElem (by omega), t0, o0, hci] at g0
 rw [List.getElem?_eq_getElem (by omega), t1, o1, hci] at g1
 rw [List.getElem?_eq_getElem (by omega), t2, o2, hci] at g2
 rw [List.getElem?_eq_getElem (by omega), t3, o3, hcu] at g3
 rw [List.getElem?_eq_getElem (by omega), t4, o4, hcu] at g4
 obtain ⟨z0, e0, _, w0⟩ := DataW.trod_int hi g0
 obtain ⟨z1, e1, _, w1⟩ := DataW.trod_int hi g1
 obtain ⟨z2, e2, _, w2⟩ := DataW.trod_int hi g2
 obtain ⟨z3, e3, _, w3⟩ := DataW.trod_int hu g3
 obtain ⟨z4, e4, _, w4⟩ := DataW.trod_int hu g4
 simp at e0 e1 e2 e3 e4
 exact ⟨z0, z1, z2, z3, z4, e0, e1, e2, e3, e4, w0, w1, w2, w3, w4⟩
set_option maxRecDepth 100000 in
theorem open_instr {H : Type} {enc : TypeId × Value → H} {w : World} {spare : Nat → Bool} {held : Bool} {base b0 : Nat} {r : Reach} {v : Value} {d : DataW H} {p : List MemPlace}
 (hv : Value.okWide Tryz.prog w r b0 25 v) (h : DataW.Trod enc Tryz.prog w base spare held 25 v d p) :
 ∃ op a b lo hi L, v = inV op a b lo hi L ∧ (Lit.int .i64 op).wf = true ∧ (Lit.int .i64 a).wf = true ∧ (Lit.int .i64 b).wf = true ∧ (Lit.int .u64 lo).wf = true ∧ (Lit.int .u64 hi).wf = true := by
 have hc : Tryz.prog.cellsOf 25 = 6 := by kernel_rfl
 obtain ⟨fs, hS⟩ := iunder2
 unfold Value.okWide at hv
 rw [hS] at hv
 obtain ⟨cs, rfl, hsz, _⟩ := hv
 rw [hc] at hsz
 obtain ⟨fuel, hf⟩ := h
 obtain ⟨l⟩ := cs
 match l, hsz, hf with
 | [c0, c1, c2, c3, c4, c5], _, hf =>
   obtain ⟨op, a, b, lo, hi, rfl, rfl, rfl, rfl, rfl, w0, w1, w2, w3, w4⟩ := trod_instr (x := (d, p)) (by simpa [Value.cells] using hf)
   exact ⟨op, a, b, lo, hi, c5, rfl, w0, w1, w2, w3, w4⟩
end Go.Proofs.YtmfmokblmipagaaGreat
end
