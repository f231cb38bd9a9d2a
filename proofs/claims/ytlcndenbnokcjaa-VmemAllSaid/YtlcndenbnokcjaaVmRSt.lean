/-
  plaitref11.Store by opcode.
-/
import Derived.Test.YtlcndenbnokcjaaVmRL
import Derived.Test.YtlcndenbnokcjaaVmRM
set_option linter.unusedSimpArgs false
set_option linter.unusedVariables false
namespace Go.Proofs.Ytlcndenbnokcjaa
open Go.RowKit Pl

set_option maxRecDepth 100000 in
set_option maxHeartbeats 4000000 in
theorem rfstore_0b_far (o : MObj) (v : Vec) (a b : Int) (lo : Int) (h0 : 0 ≤ lo) (hi at_ : Int) (L : Value) (A : Nat) (w : World) (h : MemAt w o) (ha : 0 ≤ at_ ∧ at_ < 4294967296) (hb : 0 ≤ b ∧ b < 4294967296) (hA : (A : Int) = at_ + b)  (hin : ¬ A + 16 ≤ o.n) :
    Calls Try.prog 39 #[.pointer (some ⟨o.p, 0, none⟩), inV 64779 a b lo hi L, .int .u32 at_, .agg (cells v)] w fun e w' => e = .returned (.int .i64 23) ∧ Below w.heap.size w w' := by
  have hv : ¬ VBad 64779 b lo true := by
    rintro (c | c | c | c | ⟨d, c⟩)
    · exact c (by omega)
    · exact c (by decide)
    · omega
    · omega
    · exact absurd d (by unfold vln; omega)
  have HM := Lib.hid (fun W => rerr_ok ⟨o.p, 0, none⟩ 64779 a b lo hi L true W (by decide) h0 hv)
  have HS : ∀ W, Calls Try.prog 40 #[.int .i64 64779] W fun e w' => e = .returned (.int .i64 16) ∧ w' = W := fun W => rsz_any 64779 W (by decide)
  replace HS := Lib.hid HS
  clear hv
  have hz := h.size
  go_enter Try.func39, Try.ntmps39
  go_wp2_with fail
  obtain ⟨W, hW⟩ : ∃ W, W = ((w.alloc (.cells #[.int .i64 64779, .int .i64 a, .int .i64 b, .int .u64 lo, .int .u64 hi, L] 65)).alloc (.cells (cells v) 61)) := ⟨_, rfl⟩
  have hI : W.heap[w.heap.size]? = some (.cells #[.int .i64 64779, .int .i64 a, .int .i64 b, .int .u64 lo, .int .u64 hi, L] 65 (0, 0)) := hW ▸ heap_alloc2_old _ _ _
  have hV : W.heap[w.heap.size + 1]? = some (.cells (cells v) 61 (0, 0)) := hW ▸ heap_alloc2_new _ _ _
  have hZ : Below w.heap.size w W := hW ▸ ((Below.refl _ _).alloc (Nat.le_refl _) _).alloc (by simp) _
  rw [← hW]
  clear hW
  refine (HM.out _).mono ?_
  rintro e u1 ⟨rfl, hb1⟩
  have hI1 := (hb1.block _ (block_lt hI)).trans hI
  have hV1 := (hb1.block _ (block_lt hV)).trans hV
  have c0 : u1.cell? ⟨w.heap.size, 0, none⟩ = some (.int .i64 64779) := by rw [cell_of_row u1 _ 0 _ _ _ hI1]; rfl
  have c2 : u1.cell? ⟨w.heap.size, 2, none⟩ = some (.int .i64 b) := by rw [cell_of_row u1 _ 2 _ _ _ hI1]; rfl
  have c3 : u1.cell? ⟨w.heap.size, 3, none⟩ = some (.int .u64 lo) := by rw [cell_of_row u1 _ 3 _ _ _ hI1]; rfl
  have hZ1 := hZ.trans (hb1.mono hZ.size)
  have hm := h.below hZ1
  have m0 := hm.c0
  clear hI hV hI1 hb1 hZ HM
  go_wp2_with (go_at_call 40; ((with_reducible refine (HS.out _).mono ?_); rintro e u ⟨rfl, rfl⟩))
  go_ret
  exact ⟨rfl, hZ1⟩

set_option maxRecDepth 100000 in
set_option maxHeartbeats 4000000 in
theorem rfstore_0b (o : MObj) (v : Vec) (a b : Int) (lo : Int) (h0 : 0 ≤ lo) (hi at_ : Int) (L : Value) (A : Nat) (w : World) (h : MemAt w o) (ha : 0 ≤ at_ ∧ at_ < 4294967296) (hb : 0 ≤ b ∧ b < 4294967296) (hA : (A : Int) = at_ + b)  (hin : A + 16 ≤ o.n) :
    Calls Try.prog 39 #[.pointer (some ⟨o.p, 0, none⟩), inV 64779 a b lo hi L, .int .u32 at_, .agg (cells v)] w fun e w' => e = .returned (.int .i64 0) ∧ MemAt w' (withβ o (storeN o.β A v.toNat 16)) ∧ Keep (fun k => o.q = some k) w w' := by
  have hv : ¬ VBad 64779 b lo true := by
    rintro (c | c | c | c | ⟨d, c⟩)
    · exact c (by omega)
    · exact c (by decide)
    · omega
    · omega
    · exact absurd d (by unfold vln; omega)
  have HM := Lib.hid (fun W => rerr_ok ⟨o.p, 0, none⟩ 64779 a b lo hi L true W (by decide) h0 hv)
  have HS : ∀ W, Calls Try.prog 40 #[.int .i64 64779] W fun e w' => e = .returned (.int .i64 16) ∧ w' = W := fun W => rsz_any 64779 W (by decide)
  replace HS := Lib.hid HS
  clear hv
  have hz := h.size
  go_enter Try.func39, Try.ntmps39
  go_wp2_with fail
  obtain ⟨W, hW⟩ : ∃ W, W = ((w.alloc (.cells #[.int .i64 64779, .int .i64 a, .int .i64 b, .int .u64 lo, .int .u64 hi, L] 65)).alloc (.cells (cells v) 61)) := ⟨_, rfl⟩
  have hI : W.heap[w.heap.size]? = some (.cells #[.int .i64 64779, .int .i64 a, .int .i64 b, .int .u64 lo, .int .u64 hi, L] 65 (0, 0)) := hW ▸ heap_alloc2_old _ _ _
  have hV : W.heap[w.heap.size + 1]? = some (.cells (cells v) 61 (0, 0)) := hW ▸ heap_alloc2_new _ _ _
  have hZ : Below w.heap.size w W := hW ▸ ((Below.refl _ _).alloc (Nat.le_refl _) _).alloc (by simp) _
  rw [← hW]
  clear hW
  refine (HM.out _).mono ?_
  rintro e u1 ⟨rfl, hb1⟩
  have hI1 := (hb1.block _ (block_lt hI)).trans hI
  have hV1 := (hb1.block _ (block_lt hV)).trans hV
  have c0 : u1.cell? ⟨w.heap.size, 0, none⟩ = some (.int .i64 64779) := by rw [cell_of_row u1 _ 0 _ _ _ hI1]; rfl
  have c2 : u1.cell? ⟨w.heap.size, 2, none⟩ = some (.int .i64 b) := by rw [cell_of_row u1 _ 2 _ _ _ hI1]; rfl
  have c3 : u1.cell? ⟨w.heap.size, 3, none⟩ = some (.int .u64 lo) := by rw [cell_of_row u1 _ 3 _ _ _ hI1]; rfl
  have hZ1 := hZ.trans (hb1.mono hZ.size)
  have hm := h.below hZ1
  have m0 := hm.c0
  clear hI hV hI1 hb1 hZ HM
  go_wp2_with (go_at_call 40; ((with_reducible refine (HS.out _).mono ?_); rintro e u ⟨rfl, rfl⟩))
  have hA2 : at_ + b = (A : Int) := hA.symm
  rw [hA2]
  obtain ⟨X, hX⟩ : ∃ X, X = v.toNat := ⟨_, rfl⟩
  have hXb : ∀ k, k < 16 → X / 2 ^ (8 * k) % 256 = getN v 8 (k) := fun k hk => hX ▸ rfl
  have HX := Lib.hid hX
  have HXb := Lib.hid hXb
  clear hXb hX hA2 hA HS c0 c2 m0
  have hk0 : Keep (fun k => o.q = some k) w u := Keep.of_below hZ1
  obtain ⟨q, hq, hr0⟩ := h.row.pos (by omega)
  have nq := hr0.block
  clear hr0 h
  go_wp2_with fail
  go_loopw [13] (fun iv wr => ∃ k : Nat, k ≤ 16 ∧ iv = .int .i64 (k : Int) ∧ MemAt wr (withβ o (storeN o.β A X k)) ∧ Keep (fun k => o.q = some k) w wr ∧ wr.heap[w.heap.size + 1]? = some (.cells (cells v) 61 (0, 0))) (fun iv _ => 16 - (intOf iv).toNat)
  case atStart => exact ⟨0, Nat.zero_le _, rfl, hm, hk0, hV1⟩
  case round =>
    clear hm hk0 hV1 c3
    obtain ⟨k, hk, rfl, h, hkk, hV2⟩ := hrel
    by_cases hlt : k < 16
    · have hr := h.row
      have m0 := h.c0
      obtain ⟨Y, hY⟩ : ∃ Y, Y = X / 2 ^ (8 * k) % 256 := ⟨_, rfl⟩
      have cb : wr.cell? ⟨w.heap.size + 1, k, none⟩ = some (.int .u8 (Y : Nat)) := by rw [cell_of_row wr _ _ _ _ _ hV2, getElem?_cells _ _ (by omega), hY, HXb.out k hlt]; rfl
      have hset : MemAt (wr.setCell ⟨q, A + k, none⟩ (.int .u8 (Y : Nat))).drew (withβ o (storeN o.β A X (k + 1))) := by
        have := h.set hq (i := A + k) (x := Y) (by show _ < o.n; omega) (by omega)
        rw [hY] at this ⊢
        exact this.drew
      have hkset : Keep (fun k => o.q = some k) w (wr.setCell ⟨q, A + k, none⟩ (.int .u8 (Y : Nat))).drew := (hkk.setCell (.inl hq) _).drew
      have hVset : (wr.setCell ⟨q, A + k, none⟩ (.int .u8 (Y : Nat))).drew.heap[w.heap.size + 1]? = some (.cells (cells v) 61 (0, 0)) := (heap_setCell_other _ _ _ _ (by show _ ≠ q; omega)).trans hV2
      simp only [withβ] at m0 hr
      rw [hq] at m0 hr
      rw [show headOf (some q) = some ⟨q, 0, none⟩ from rfl] at m0
      have hcell := BytesAt.cell hr (i := A + k) (by omega)
      have hfz := BytesAt.frozen hr (A + k)
      have hcap := BytesAt.le hr
      have HY := Lib.hid hY
      clear hY
      go_wp2
      go_region
      go_wp2
      exact ⟨⟨k + 1, by omega, by go_num, hset, hkset, hVset⟩, by simp [intOf]; omega⟩
    · obtain rfl : k = 16 := by omega
      rw [HX.out] at h
      go_wp2
      go_ret
      exact ⟨rfl, h, hkk⟩

set_option maxRecDepth 100000 in
set_option maxHeartbeats 4000000 in
theorem rfstore_58_far (o : MObj) (v : Vec) (a b : Int) (lo : Nat) (hi at_ : Int) (L : Value) (A : Nat) (w : World) (h : MemAt w o) (ha : 0 ≤ at_ ∧ at_ < 4294967296) (hb : 0 ≤ b ∧ b < 4294967296) (hA : (A : Int) = at_ + b) (hl : lo < 16) (hin : ¬ A + 1 ≤ o.n) :
    Calls Try.prog 39 #[.pointer (some ⟨o.p, 0, none⟩), inV 64856 a b (lo : Nat) hi L, .int .u32 at_, .agg (cells v)] w fun e w' => e = .returned (.int .i64 23) ∧ Below w.heap.size w w' := by
  have hv : ¬ VBad 64856 b ((lo : Nat) : Int) true := by
    rintro (c | c | c | c | ⟨d, c⟩)
    · exact c (by omega)
    · exact c (by decide)
    · omega
    · omega
    · rw [show 16 / vszN 64856 = 16 by decide] at c; omega
  have HM := Lib.hid (fun W => rerr_ok ⟨o.p, 0, none⟩ 64856 a b ((lo : Nat) : Int) hi L true W (by decide) (Int.natCast_nonneg _) hv)
  have HS : ∀ W, Calls Try.prog 40 #[.int .i64 64856] W fun e w' => e = .returned (.int .i64 1) ∧ w' = W := fun W => rsz_any 64856 W (by decide)
  replace HS := Lib.hid HS
  clear hv
  have hz := h.size
  go_enter Try.func39, Try.ntmps39
  go_wp2_with fail
  obtain ⟨W, hW⟩ : ∃ W, W = ((w.alloc (.cells #[.int .i64 64856, .int .i64 a, .int .i64 b, .int .u64 (lo : Nat), .int .u64 hi, L] 65)).alloc (.cells (cells v) 61)) := ⟨_, rfl⟩
  have hI : W.heap[w.heap.size]? = some (.cells #[.int .i64 64856, .int .i64 a, .int .i64 b, .int .u64 (lo : Nat), .int .u64 hi, L] 65 (0, 0)) := hW ▸ heap_alloc2_old _ _ _
  have hV : W.heap[w.heap.size + 1]? = some (.cells (cells v) 61 (0, 0)) := hW ▸ heap_alloc2_new _ _ _
  have hZ : Below w.heap.size w W := hW ▸ ((Below.refl _ _).alloc (Nat.le_refl _) _).alloc (by simp) _
  rw [← hW]
  clear hW
  refine (HM.out _).mono ?_
  rintro e u1 ⟨rfl, hb1⟩
  have hI1 := (hb1.block _ (block_lt hI)).trans hI
  have hV1 := (hb1.block _ (block_lt hV)).trans hV
  have c0 : u1.cell? ⟨w.heap.size, 0, none⟩ = some (.int .i64 64856) := by rw [cell_of_row u1 _ 0 _ _ _ hI1]; rfl
  have c2 : u1.cell? ⟨w.heap.size, 2, none⟩ = some (.int .i64 b) := by rw [cell_of_row u1 _ 2 _ _ _ hI1]; rfl
  have c3 : u1.cell? ⟨w.heap.size, 3, none⟩ = some (.int .u64 (lo : Nat)) := by rw [cell_of_row u1 _ 3 _ _ _ hI1]; rfl
  have hZ1 := hZ.trans (hb1.mono hZ.size)
  have hm := h.below hZ1
  have m0 := hm.c0
  clear hI hV hI1 hb1 hZ HM
  go_wp2_with (go_at_call 40; ((with_reducible refine (HS.out _).mono ?_); rintro e u ⟨rfl, rfl⟩))
  go_ret
  exact ⟨rfl, hZ1⟩

set_option maxRecDepth 100000 in
set_option maxHeartbeats 4000000 in
theorem rfstore_58 (o : MObj) (v : Vec) (a b : Int) (lo : Nat) (hi at_ : Int) (L : Value) (A : Nat) (w : World) (h : MemAt w o) (ha : 0 ≤ at_ ∧ at_ < 4294967296) (hb : 0 ≤ b ∧ b < 4294967296) (hA : (A : Int) = at_ + b) (hl : lo < 16) (hin : A + 1 ≤ o.n) :
    Calls Try.prog 39 #[.pointer (some ⟨o.p, 0, none⟩), inV 64856 a b (lo : Nat) hi L, .int .u32 at_, .agg (cells v)] w fun e w' => e = .returned (.int .i64 0) ∧ MemAt w' (withβ o (storeN o.β A (getN v 8 lo) 1)) ∧ Keep (fun k => o.q = some k) w w' := by
  have hv : ¬ VBad 64856 b ((lo : Nat) : Int) true := by
    rintro (c | c | c | c | ⟨d, c⟩)
    · exact c (by omega)
    · exact c (by decide)
    · omega
    · omega
    · rw [show 16 / vszN 64856 = 16 by decide] at c; omega
  have HM := Lib.hid (fun W => rerr_ok ⟨o.p, 0, none⟩ 64856 a b ((lo : Nat) : Int) hi L true W (by decide) (Int.natCast_nonneg _) hv)
  have HS : ∀ W, Calls Try.prog 40 #[.int .i64 64856] W fun e w' => e = .returned (.int .i64 1) ∧ w' = W := fun W => rsz_any 64856 W (by decide)
  replace HS := Lib.hid HS
  clear hv
  have hz := h.size
  go_enter Try.func39, Try.ntmps39
  go_wp2_with fail
  obtain ⟨W, hW⟩ : ∃ W, W = ((w.alloc (.cells #[.int .i64 64856, .int .i64 a, .int .i64 b, .int .u64 (lo : Nat), .int .u64 hi, L] 65)).alloc (.cells (cells v) 61)) := ⟨_, rfl⟩
  have hI : W.heap[w.heap.size]? = some (.cells #[.int .i64 64856, .int .i64 a, .int .i64 b, .int .u64 (lo : Nat), .int .u64 hi, L] 65 (0, 0)) := hW ▸ heap_alloc2_old _ _ _
  have hV : W.heap[w.heap.size + 1]? = some (.cells (cells v) 61 (0, 0)) := hW ▸ heap_alloc2_new _ _ _
  have hZ : Below w.heap.size w W := hW ▸ ((Below.refl _ _).alloc (Nat.le_refl _) _).alloc (by simp) _
  rw [← hW]
  clear hW
  refine (HM.out _).mono ?_
  rintro e u1 ⟨rfl, hb1⟩
  have hI1 := (hb1.block _ (block_lt hI)).trans hI
  have hV1 := (hb1.block _ (block_lt hV)).trans hV
  have c0 : u1.cell? ⟨w.heap.size, 0, none⟩ = some (.int .i64 64856) := by rw [cell_of_row u1 _ 0 _ _ _ hI1]; rfl
  have c2 : u1.cell? ⟨w.heap.size, 2, none⟩ = some (.int .i64 b) := by rw [cell_of_row u1 _ 2 _ _ _ hI1]; rfl
  have c3 : u1.cell? ⟨w.heap.size, 3, none⟩ = some (.int .u64 (lo : Nat)) := by rw [cell_of_row u1 _ 3 _ _ _ hI1]; rfl
  have hZ1 := hZ.trans (hb1.mono hZ.size)
  have hm := h.below hZ1
  have m0 := hm.c0
  clear hI hV hI1 hb1 hZ HM
  go_wp2_with (go_at_call 40; ((with_reducible refine (HS.out _).mono ?_); rintro e u ⟨rfl, rfl⟩))
  have hA2 : at_ + b = (A : Int) := hA.symm
  rw [hA2]
  obtain ⟨X, hX⟩ : ∃ X, X = (getN v 8 lo) := ⟨_, rfl⟩
  have hXb : ∀ k, k < 1 → X / 2 ^ (8 * k) % 256 = getN v 8 (1 * lo + k) := fun k hk => hX ▸ (lane_byte v 1 lo k hk).symm
  have HX := Lib.hid hX
  have HXb := Lib.hid hXb
  clear hXb hX hA2 hA HS c0 c2 m0
  have hk0 : Keep (fun k => o.q = some k) w u := Keep.of_below hZ1
  obtain ⟨q, hq, hr0⟩ := h.row.pos (by omega)
  have nq := hr0.block
  clear hr0 h
  go_wp2_with fail
  go_loopw [13] (fun iv wr => ∃ k : Nat, k ≤ 1 ∧ iv = .int .i64 (k : Int) ∧ MemAt wr (withβ o (storeN o.β A X k)) ∧ Keep (fun k => o.q = some k) w wr ∧ wr.heap[w.heap.size + 1]? = some (.cells (cells v) 61 (0, 0))) (fun iv _ => 1 - (intOf iv).toNat)
  case atStart => exact ⟨0, Nat.zero_le _, rfl, hm, hk0, hV1⟩
  case round =>
    clear hm hk0 hV1 c3
    obtain ⟨k, hk, rfl, h, hkk, hV2⟩ := hrel
    by_cases hlt : k < 1
    · have hr := h.row
      have m0 := h.c0
      obtain ⟨Y, hY⟩ : ∃ Y, Y = X / 2 ^ (8 * k) % 256 := ⟨_, rfl⟩
      have cb : wr.cell? ⟨w.heap.size + 1, lo + k, none⟩ = some (.int .u8 (Y : Nat)) := by rw [cell_of_row wr _ _ _ _ _ hV2, getElem?_cells _ _ (by omega), hY, HXb.out k hlt, show lo + k = 1 * lo + k by omega]; rfl
      have hset : MemAt (wr.setCell ⟨q, A + k, none⟩ (.int .u8 (Y : Nat))).drew (withβ o (storeN o.β A X (k + 1))) := by
        have := h.set hq (i := A + k) (x := Y) (by show _ < o.n; omega) (by omega)
        rw [hY] at this ⊢
        exact this.drew
      have hkset : Keep (fun k => o.q = some k) w (wr.setCell ⟨q, A + k, none⟩ (.int .u8 (Y : Nat))).drew := (hkk.setCell (.inl hq) _).drew
      have hVset : (wr.setCell ⟨q, A + k, none⟩ (.int .u8 (Y : Nat))).drew.heap[w.heap.size + 1]? = some (.cells (cells v) 61 (0, 0)) := (heap_setCell_other _ _ _ _ (by show _ ≠ q; omega)).trans hV2
      simp only [withβ] at m0 hr
      rw [hq] at m0 hr
      rw [show headOf (some q) = some ⟨q, 0, none⟩ from rfl] at m0
      have hcell := BytesAt.cell hr (i := A + k) (by omega)
      have hfz := BytesAt.frozen hr (A + k)
      have hcap := BytesAt.le hr
      have HY := Lib.hid hY
      clear hY
      go_wp2
      go_region
      go_wp2
      exact ⟨⟨k + 1, by omega, by go_num, hset, hkset, hVset⟩, by simp [intOf]; omega⟩
    · obtain rfl : k = 1 := by omega
      rw [HX.out] at h
      go_wp2
      go_ret
      exact ⟨rfl, h, hkk⟩

set_option maxRecDepth 100000 in
set_option maxHeartbeats 4000000 in
theorem rfstore_59_far (o : MObj) (v : Vec) (a b : Int) (lo : Nat) (hi at_ : Int) (L : Value) (A : Nat) (w : World) (h : MemAt w o) (ha : 0 ≤ at_ ∧ at_ < 4294967296) (hb : 0 ≤ b ∧ b < 4294967296) (hA : (A : Int) = at_ + b) (hl : lo < 8) (hin : ¬ A + 2 ≤ o.n) :
    Calls Try.prog 39 #[.pointer (some ⟨o.p, 0, none⟩), inV 64857 a b (lo : Nat) hi L, .int .u32 at_, .agg (cells v)] w fun e w' => e = .returned (.int .i64 23) ∧ Below w.heap.size w w' := by
  have hv : ¬ VBad 64857 b ((lo : Nat) : Int) true := by
    rintro (c | c | c | c | ⟨d, c⟩)
    · exact c (by omega)
    · exact c (by decide)
    · omega
    · omega
    · rw [show 16 / vszN 64857 = 8 by decide] at c; omega
  have HM := Lib.hid (fun W => rerr_ok ⟨o.p, 0, none⟩ 64857 a b ((lo : Nat) : Int) hi L true W (by decide) (Int.natCast_nonneg _) hv)
  have HS : ∀ W, Calls Try.prog 40 #[.int .i64 64857] W fun e w' => e = .returned (.int .i64 2) ∧ w' = W := fun W => rsz_any 64857 W (by decide)
  replace HS := Lib.hid HS
  clear hv
  have hz := h.size
  go_enter Try.func39, Try.ntmps39
  go_wp2_with fail
  obtain ⟨W, hW⟩ : ∃ W, W = ((w.alloc (.cells #[.int .i64 64857, .int .i64 a, .int .i64 b, .int .u64 (lo : Nat), .int .u64 hi, L] 65)).alloc (.cells (cells v) 61)) := ⟨_, rfl⟩
  have hI : W.heap[w.heap.size]? = some (.cells #[.int .i64 64857, .int .i64 a, .int .i64 b, .int .u64 (lo : Nat), .int .u64 hi, L] 65 (0, 0)) := hW ▸ heap_alloc2_old _ _ _
  have hV : W.heap[w.heap.size + 1]? = some (.cells (cells v) 61 (0, 0)) := hW ▸ heap_alloc2_new _ _ _
  have hZ : Below w.heap.size w W := hW ▸ ((Below.refl _ _).alloc (Nat.le_refl _) _).alloc (by simp) _
  rw [← hW]
  clear hW
  refine (HM.out _).mono ?_
  rintro e u1 ⟨rfl, hb1⟩
  have hI1 := (hb1.block _ (block_lt hI)).trans hI
  have hV1 := (hb1.block _ (block_lt hV)).trans hV
  have c0 : u1.cell? ⟨w.heap.size, 0, none⟩ = some (.int .i64 64857) := by rw [cell_of_row u1 _ 0 _ _ _ hI1]; rfl
  have c2 : u1.cell? ⟨w.heap.size, 2, none⟩ = some (.int .i64 b) := by rw [cell_of_row u1 _ 2 _ _ _ hI1]; rfl
  have c3 : u1.cell? ⟨w.heap.size, 3, none⟩ = some (.int .u64 (lo : Nat)) := by rw [cell_of_row u1 _ 3 _ _ _ hI1]; rfl
  have hZ1 := hZ.trans (hb1.mono hZ.size)
  have hm := h.below hZ1
  have m0 := hm.c0
  clear hI hV hI1 hb1 hZ HM
  go_wp2_with (go_at_call 40; ((with_reducible refine (HS.out _).mono ?_); rintro e u ⟨rfl, rfl⟩))
  go_ret
  exact ⟨rfl, hZ1⟩

set_option maxRecDepth 100000 in
set_option maxHeartbeats 4000000 in
theorem rfstore_59 (o : MObj) (v : Vec) (a b : Int) (lo : Nat) (hi at_ : Int) (L : Value) (A : Nat) (w : World) (h : MemAt w o) (ha : 0 ≤ at_ ∧ at_ < 4294967296) (hb : 0 ≤ b ∧ b < 4294967296) (hA : (A : Int) = at_ + b) (hl : lo < 8) (hin : A + 2 ≤ o.n) :
    Calls Try.prog 39 #[.pointer (some ⟨o.p, 0, none⟩), inV 64857 a b (lo : Nat) hi L, .int .u32 at_, .agg (cells v)] w fun e w' => e = .returned (.int .i64 0) ∧ MemAt w' (withβ o (storeN o.β A (getN v 16 lo) 2)) ∧ Keep (fun k => o.q = some k) w w' := by
  have hv : ¬ VBad 64857 b ((lo : Nat) : Int) true := by
    rintro (c | c | c | c | ⟨d, c⟩)
    · exact c (by omega)
    · exact c (by decide)
    · omega
    · omega
    · rw [show 16 / vszN 64857 = 8 by decide] at c; omega
  have HM := Lib.hid (fun W => rerr_ok ⟨o.p, 0, none⟩ 64857 a b ((lo : Nat) : Int) hi L true W (by decide) (Int.natCast_nonneg _) hv)
  have HS : ∀ W, Calls Try.prog 40 #[.int .i64 64857] W fun e w' => e = .returned (.int .i64 2) ∧ w' = W := fun W => rsz_any 64857 W (by decide)
  replace HS := Lib.hid HS
  clear hv
  have hz := h.size
  go_enter Try.func39, Try.ntmps39
  go_wp2_with fail
  obtain ⟨W, hW⟩ : ∃ W, W = ((w.alloc (.cells #[.int .i64 64857, .int .i64 a, .int .i64 b, .int .u64 (lo : Nat), .int .u64 hi, L] 65)).alloc (.cells (cells v) 61)) := ⟨_, rfl⟩
  have hI : W.heap[w.heap.size]? = some (.cells #[.int .i64 64857, .int .i64 a, .int .i64 b, .int .u64 (lo : Nat), .int .u64 hi, L] 65 (0, 0)) := hW ▸ heap_alloc2_old _ _ _
  have hV : W.heap[w.heap.size + 1]? = some (.cells (cells v) 61 (0, 0)) := hW ▸ heap_alloc2_new _ _ _
  have hZ : Below w.heap.size w W := hW ▸ ((Below.refl _ _).alloc (Nat.le_refl _) _).alloc (by simp) _
  rw [← hW]
  clear hW
  refine (HM.out _).mono ?_
  rintro e u1 ⟨rfl, hb1⟩
  have hI1 := (hb1.block _ (block_lt hI)).trans hI
  have hV1 := (hb1.block _ (block_lt hV)).trans hV
  have c0 : u1.cell? ⟨w.heap.size, 0, none⟩ = some (.int .i64 64857) := by rw [cell_of_row u1 _ 0 _ _ _ hI1]; rfl
  have c2 : u1.cell? ⟨w.heap.size, 2, none⟩ = some (.int .i64 b) := by rw [cell_of_row u1 _ 2 _ _ _ hI1]; rfl
  have c3 : u1.cell? ⟨w.heap.size, 3, none⟩ = some (.int .u64 (lo : Nat)) := by rw [cell_of_row u1 _ 3 _ _ _ hI1]; rfl
  have hZ1 := hZ.trans (hb1.mono hZ.size)
  have hm := h.below hZ1
  have m0 := hm.c0
  clear hI hV hI1 hb1 hZ HM
  go_wp2_with (go_at_call 40; ((with_reducible refine (HS.out _).mono ?_); rintro e u ⟨rfl, rfl⟩))
  have hA2 : at_ + b = (A : Int) := hA.symm
  rw [hA2]
  obtain ⟨X, hX⟩ : ∃ X, X = (getN v 16 lo) := ⟨_, rfl⟩
  have hXb : ∀ k, k < 2 → X / 2 ^ (8 * k) % 256 = getN v 8 (2 * lo + k) := fun k hk => hX ▸ (lane_byte v 2 lo k hk).symm
  have HX := Lib.hid hX
  have HXb := Lib.hid hXb
  clear hXb hX hA2 hA HS c0 c2 m0
  have hk0 : Keep (fun k => o.q = some k) w u := Keep.of_below hZ1
  obtain ⟨q, hq, hr0⟩ := h.row.pos (by omega)
  have nq := hr0.block
  clear hr0 h
  go_wp2_with fail
  go_loopw [13] (fun iv wr => ∃ k : Nat, k ≤ 2 ∧ iv = .int .i64 (k : Int) ∧ MemAt wr (withβ o (storeN o.β A X k)) ∧ Keep (fun k => o.q = some k) w wr ∧ wr.heap[w.heap.size + 1]? = some (.cells (cells v) 61 (0, 0))) (fun iv _ => 2 - (intOf iv).toNat)
  case atStart => exact ⟨0, Nat.zero_le _, rfl, hm, hk0, hV1⟩
  case round =>
    clear hm hk0 hV1 c3
    obtain ⟨k, hk, rfl, h, hkk, hV2⟩ := hrel
    by_cases hlt : k < 2
    · have hr := h.row
      have m0 := h.c0
      obtain ⟨Y, hY⟩ : ∃ Y, Y = X / 2 ^ (8 * k) % 256 := ⟨_, rfl⟩
      have cb : wr.cell? ⟨w.heap.size + 1, lo * 2 + k, none⟩ = some (.int .u8 (Y : Nat)) := by rw [cell_of_row wr _ _ _ _ _ hV2, getElem?_cells _ _ (by omega), hY, HXb.out k hlt, show lo * 2 + k = 2 * lo + k by omega]; rfl
      have hset : MemAt (wr.setCell ⟨q, A + k, none⟩ (.int .u8 (Y : Nat))).drew (withβ o (storeN o.β A X (k + 1))) := by
        have := h.set hq (i := A + k) (x := Y) (by show _ < o.n; omega) (by omega)
        rw [hY] at this ⊢
        exact this.drew
      have hkset : Keep (fun k => o.q = some k) w (wr.setCell ⟨q, A + k, none⟩ (.int .u8 (Y : Nat))).drew := (hkk.setCell (.inl hq) _).drew
      have hVset : (wr.setCell ⟨q, A + k, none⟩ (.int .u8 (Y : Nat))).drew.heap[w.heap.size + 1]? = some (.cells (cells v) 61 (0, 0)) := (heap_setCell_other _ _ _ _ (by show _ ≠ q; omega)).trans hV2
      simp only [withβ] at m0 hr
      rw [hq] at m0 hr
      rw [show headOf (some q) = some ⟨q, 0, none⟩ from rfl] at m0
      have hcell := BytesAt.cell hr (i := A + k) (by omega)
      have hfz := BytesAt.frozen hr (A + k)
      have hcap := BytesAt.le hr
      have HY := Lib.hid hY
      clear hY
      go_wp2
      go_region
      go_wp2
      exact ⟨⟨k + 1, by omega, by go_num, hset, hkset, hVset⟩, by simp [intOf]; omega⟩
    · obtain rfl : k = 2 := by omega
      rw [HX.out] at h
      go_wp2
      go_ret
      exact ⟨rfl, h, hkk⟩

set_option maxRecDepth 100000 in
set_option maxHeartbeats 4000000 in
theorem rfstore_5a_far (o : MObj) (v : Vec) (a b : Int) (lo : Nat) (hi at_ : Int) (L : Value) (A : Nat) (w : World) (h : MemAt w o) (ha : 0 ≤ at_ ∧ at_ < 4294967296) (hb : 0 ≤ b ∧ b < 4294967296) (hA : (A : Int) = at_ + b) (hl : lo < 4) (hin : ¬ A + 4 ≤ o.n) :
    Calls Try.prog 39 #[.pointer (some ⟨o.p, 0, none⟩), inV 64858 a b (lo : Nat) hi L, .int .u32 at_, .agg (cells v)] w fun e w' => e = .returned (.int .i64 23) ∧ Below w.heap.size w w' := by
  have hv : ¬ VBad 64858 b ((lo : Nat) : Int) true := by
    rintro (c | c | c | c | ⟨d, c⟩)
    · exact c (by omega)
    · exact c (by decide)
    · omega
    · omega
    · rw [show 16 / vszN 64858 = 4 by decide] at c; omega
  have HM := Lib.hid (fun W => rerr_ok ⟨o.p, 0, none⟩ 64858 a b ((lo : Nat) : Int) hi L true W (by decide) (Int.natCast_nonneg _) hv)
  have HS : ∀ W, Calls Try.prog 40 #[.int .i64 64858] W fun e w' => e = .returned (.int .i64 4) ∧ w' = W := fun W => rsz_any 64858 W (by decide)
  replace HS := Lib.hid HS
  clear hv
  have hz := h.size
  go_enter Try.func39, Try.ntmps39
  go_wp2_with fail
  obtain ⟨W, hW⟩ : ∃ W, W = ((w.alloc (.cells #[.int .i64 64858, .int .i64 a, .int .i64 b, .int .u64 (lo : Nat), .int .u64 hi, L] 65)).alloc (.cells (cells v) 61)) := ⟨_, rfl⟩
  have hI : W.heap[w.heap.size]? = some (.cells #[.int .i64 64858, .int .i64 a, .int .i64 b, .int .u64 (lo : Nat), .int .u64 hi, L] 65 (0, 0)) := hW ▸ heap_alloc2_old _ _ _
  have hV : W.heap[w.heap.size + 1]? = some (.cells (cells v) 61 (0, 0)) := hW ▸ heap_alloc2_new _ _ _
  have hZ : Below w.heap.size w W := hW ▸ ((Below.refl _ _).alloc (Nat.le_refl _) _).alloc (by simp) _
  rw [← hW]
  clear hW
  refine (HM.out _).mono ?_
  rintro e u1 ⟨rfl, hb1⟩
  have hI1 := (hb1.block _ (block_lt hI)).trans hI
  have hV1 := (hb1.block _ (block_lt hV)).trans hV
  have c0 : u1.cell? ⟨w.heap.size, 0, none⟩ = some (.int .i64 64858) := by rw [cell_of_row u1 _ 0 _ _ _ hI1]; rfl
  have c2 : u1.cell? ⟨w.heap.size, 2, none⟩ = some (.int .i64 b) := by rw [cell_of_row u1 _ 2 _ _ _ hI1]; rfl
  have c3 : u1.cell? ⟨w.heap.size, 3, none⟩ = some (.int .u64 (lo : Nat)) := by rw [cell_of_row u1 _ 3 _ _ _ hI1]; rfl
  have hZ1 := hZ.trans (hb1.mono hZ.size)
  have hm := h.below hZ1
  have m0 := hm.c0
  clear hI hV hI1 hb1 hZ HM
  go_wp2_with (go_at_call 40; ((with_reducible refine (HS.out _).mono ?_); rintro e u ⟨rfl, rfl⟩))
  go_ret
  exact ⟨rfl, hZ1⟩

set_option maxRecDepth 100000 in
set_option maxHeartbeats 4000000 in
theorem rfstore_5a (o : MObj) (v : Vec) (a b : Int) (lo : Nat) (hi at_ : Int) (L : Value) (A : Nat) (w : World) (h : MemAt w o) (ha : 0 ≤ at_ ∧ at_ < 4294967296) (hb : 0 ≤ b ∧ b < 4294967296) (hA : (A : Int) = at_ + b) (hl : lo < 4) (hin : A + 4 ≤ o.n) :
    Calls Try.prog 39 #[.pointer (some ⟨o.p, 0, none⟩), inV 64858 a b (lo : Nat) hi L, .int .u32 at_, .agg (cells v)] w fun e w' => e = .returned (.int .i64 0) ∧ MemAt w' (withβ o (storeN o.β A (getN v 32 lo) 4)) ∧ Keep (fun k => o.q = some k) w w' := by
  have hv : ¬ VBad 64858 b ((lo : Nat) : Int) true := by
    rintro (c | c | c | c | ⟨d, c⟩)
    · exact c (by omega)
    · exact c (by decide)
    · omega
    · omega
    · rw [show 16 / vszN 64858 = 4 by decide] at c; omega
  have HM := Lib.hid (fun W => rerr_ok ⟨o.p, 0, none⟩ 64858 a b ((lo : Nat) : Int) hi L true W (by decide) (Int.natCast_nonneg _) hv)
  have HS : ∀ W, Calls Try.prog 40 #[.int .i64 64858] W fun e w' => e = .returned (.int .i64 4) ∧ w' = W := fun W => rsz_any 64858 W (by decide)
  replace HS := Lib.hid HS
  clear hv
  have hz := h.size
  go_enter Try.func39, Try.ntmps39
  go_wp2_with fail
  obtain ⟨W, hW⟩ : ∃ W, W = ((w.alloc (.cells #[.int .i64 64858, .int .i64 a, .int .i64 b, .int .u64 (lo : Nat), .int .u64 hi, L] 65)).alloc (.cells (cells v) 61)) := ⟨_, rfl⟩
  have hI : W.heap[w.heap.size]? = some (.cells #[.int .i64 64858, .int .i64 a, .int .i64 b, .int .u64 (lo : Nat), .int .u64 hi, L] 65 (0, 0)) := hW ▸ heap_alloc2_old _ _ _
  have hV : W.heap[w.heap.size + 1]? = some (.cells (cells v) 61 (0, 0)) := hW ▸ heap_alloc2_new _ _ _
  have hZ : Below w.heap.size w W := hW ▸ ((Below.refl _ _).alloc (Nat.le_refl _) _).alloc (by simp) _
  rw [← hW]
  clear hW
  refine (HM.out _).mono ?_
  rintro e u1 ⟨rfl, hb1⟩
  have hI1 := (hb1.block _ (block_lt hI)).trans hI
  have hV1 := (hb1.block _ (block_lt hV)).trans hV
  have c0 : u1.cell? ⟨w.heap.size, 0, none⟩ = some (.int .i64 64858) := by rw [cell_of_row u1 _ 0 _ _ _ hI1]; rfl
  have c2 : u1.cell? ⟨w.heap.size, 2, none⟩ = some (.int .i64 b) := by rw [cell_of_row u1 _ 2 _ _ _ hI1]; rfl
  have c3 : u1.cell? ⟨w.heap.size, 3, none⟩ = some (.int .u64 (lo : Nat)) := by rw [cell_of_row u1 _ 3 _ _ _ hI1]; rfl
  have hZ1 := hZ.trans (hb1.mono hZ.size)
  have hm := h.below hZ1
  have m0 := hm.c0
  clear hI hV hI1 hb1 hZ HM
  go_wp2_with (go_at_call 40; ((with_reducible refine (HS.out _).mono ?_); rintro e u ⟨rfl, rfl⟩))
  have hA2 : at_ + b = (A : Int) := hA.symm
  rw [hA2]
  obtain ⟨X, hX⟩ : ∃ X, X = (getN v 32 lo) := ⟨_, rfl⟩
  have hXb : ∀ k, k < 4 → X / 2 ^ (8 * k) % 256 = getN v 8 (4 * lo + k) := fun k hk => hX ▸ (lane_byte v 4 lo k hk).symm
  have HX := Lib.hid hX
  have HXb := Lib.hid hXb
  clear hXb hX hA2 hA HS c0 c2 m0
  have hk0 : Keep (fun k => o.q = some k) w u := Keep.of_below hZ1
  obtain ⟨q, hq, hr0⟩ := h.row.pos (by omega)
  have nq := hr0.block
  clear hr0 h
  go_wp2_with fail
  go_loopw [13] (fun iv wr => ∃ k : Nat, k ≤ 4 ∧ iv = .int .i64 (k : Int) ∧ MemAt wr (withβ o (storeN o.β A X k)) ∧ Keep (fun k => o.q = some k) w wr ∧ wr.heap[w.heap.size + 1]? = some (.cells (cells v) 61 (0, 0))) (fun iv _ => 4 - (intOf iv).toNat)
  case atStart => exact ⟨0, Nat.zero_le _, rfl, hm, hk0, hV1⟩
  case round =>
    clear hm hk0 hV1 c3
    obtain ⟨k, hk, rfl, h, hkk, hV2⟩ := hrel
    by_cases hlt : k < 4
    · have hr := h.row
      have m0 := h.c0
      obtain ⟨Y, hY⟩ : ∃ Y, Y = X / 2 ^ (8 * k) % 256 := ⟨_, rfl⟩
      have cb : wr.cell? ⟨w.heap.size + 1, lo * 4 + k, none⟩ = some (.int .u8 (Y : Nat)) := by rw [cell_of_row wr _ _ _ _ _ hV2, getElem?_cells _ _ (by omega), hY, HXb.out k hlt, show lo * 4 + k = 4 * lo + k by omega]; rfl
      have hset : MemAt (wr.setCell ⟨q, A + k, none⟩ (.int .u8 (Y : Nat))).drew (withβ o (storeN o.β A X (k + 1))) := by
        have := h.set hq (i := A + k) (x := Y) (by show _ < o.n; omega) (by omega)
        rw [hY] at this ⊢
        exact this.drew
      have hkset : Keep (fun k => o.q = some k) w (wr.setCell ⟨q, A + k, none⟩ (.int .u8 (Y : Nat))).drew := (hkk.setCell (.inl hq) _).drew
      have hVset : (wr.setCell ⟨q, A + k, none⟩ (.int .u8 (Y : Nat))).drew.heap[w.heap.size + 1]? = some (.cells (cells v) 61 (0, 0)) := (heap_setCell_other _ _ _ _ (by show _ ≠ q; omega)).trans hV2
      simp only [withβ] at m0 hr
      rw [hq] at m0 hr
      rw [show headOf (some q) = some ⟨q, 0, none⟩ from rfl] at m0
      have hcell := BytesAt.cell hr (i := A + k) (by omega)
      have hfz := BytesAt.frozen hr (A + k)
      have hcap := BytesAt.le hr
      have HY := Lib.hid hY
      clear hY
      go_wp2
      go_region
      go_wp2
      exact ⟨⟨k + 1, by omega, by go_num, hset, hkset, hVset⟩, by simp [intOf]; omega⟩
    · obtain rfl : k = 4 := by omega
      rw [HX.out] at h
      go_wp2
      go_ret
      exact ⟨rfl, h, hkk⟩

set_option maxRecDepth 100000 in
set_option maxHeartbeats 4000000 in
theorem rfstore_5b_far (o : MObj) (v : Vec) (a b : Int) (lo : Nat) (hi at_ : Int) (L : Value) (A : Nat) (w : World) (h : MemAt w o) (ha : 0 ≤ at_ ∧ at_ < 4294967296) (hb : 0 ≤ b ∧ b < 4294967296) (hA : (A : Int) = at_ + b) (hl : lo < 2) (hin : ¬ A + 8 ≤ o.n) :
    Calls Try.prog 39 #[.pointer (some ⟨o.p, 0, none⟩), inV 64859 a b (lo : Nat) hi L, .int .u32 at_, .agg (cells v)] w fun e w' => e = .returned (.int .i64 23) ∧ Below w.heap.size w w' := by
  have hv : ¬ VBad 64859 b ((lo : Nat) : Int) true := by
    rintro (c | c | c | c | ⟨d, c⟩)
    · exact c (by omega)
    · exact c (by decide)
    · omega
    · omega
    · rw [show 16 / vszN 64859 = 2 by decide] at c; omega
  have HM := Lib.hid (fun W => rerr_ok ⟨o.p, 0, none⟩ 64859 a b ((lo : Nat) : Int) hi L true W (by decide) (Int.natCast_nonneg _) hv)
  have HS : ∀ W, Calls Try.prog 40 #[.int .i64 64859] W fun e w' => e = .returned (.int .i64 8) ∧ w' = W := fun W => rsz_any 64859 W (by decide)
  replace HS := Lib.hid HS
  clear hv
  have hz := h.size
  go_enter Try.func39, Try.ntmps39
  go_wp2_with fail
  obtain ⟨W, hW⟩ : ∃ W, W = ((w.alloc (.cells #[.int .i64 64859, .int .i64 a, .int .i64 b, .int .u64 (lo : Nat), .int .u64 hi, L] 65)).alloc (.cells (cells v) 61)) := ⟨_, rfl⟩
  have hI : W.heap[w.heap.size]? = some (.cells #[.int .i64 64859, .int .i64 a, .int .i64 b, .int .u64 (lo : Nat), .int .u64 hi, L] 65 (0, 0)) := hW ▸ heap_alloc2_old _ _ _
  have hV : W.heap[w.heap.size + 1]? = some (.cells (cells v) 61 (0, 0)) := hW ▸ heap_alloc2_new _ _ _
  have hZ : Below w.heap.size w W := hW ▸ ((Below.refl _ _).alloc (Nat.le_refl _) _).alloc (by simp) _
  rw [← hW]
  clear hW
  refine (HM.out _).mono ?_
  rintro e u1 ⟨rfl, hb1⟩
  have hI1 := (hb1.block _ (block_lt hI)).trans hI
  have hV1 := (hb1.block _ (block_lt hV)).trans hV
  have c0 : u1.cell? ⟨w.heap.size, 0, none⟩ = some (.int .i64 64859) := by rw [cell_of_row u1 _ 0 _ _ _ hI1]; rfl
  have c2 : u1.cell? ⟨w.heap.size, 2, none⟩ = some (.int .i64 b) := by rw [cell_of_row u1 _ 2 _ _ _ hI1]; rfl
  have c3 : u1.cell? ⟨w.heap.size, 3, none⟩ = some (.int .u64 (lo : Nat)) := by rw [cell_of_row u1 _ 3 _ _ _ hI1]; rfl
  have hZ1 := hZ.trans (hb1.mono hZ.size)
  have hm := h.below hZ1
  have m0 := hm.c0
  clear hI hV hI1 hb1 hZ HM
  go_wp2_with (go_at_call 40; ((with_reducible refine (HS.out _).mono ?_); rintro e u ⟨rfl, rfl⟩))
  go_ret
  exact ⟨rfl, hZ1⟩

set_option maxRecDepth 100000 in
set_option maxHeartbeats 4000000 in
theorem rfstore_5b (o : MObj) (v : Vec) (a b : Int) (lo : Nat) (hi at_ : Int) (L : Value) (A : Nat) (w : World) (h : MemAt w o) (ha : 0 ≤ at_ ∧ at_ < 4294967296) (hb : 0 ≤ b ∧ b < 4294967296) (hA : (A : Int) = at_ + b) (hl : lo < 2) (hin : A + 8 ≤ o.n) :
    Calls Try.prog 39 #[.pointer (some ⟨o.p, 0, none⟩), inV 64859 a b (lo : Nat) hi L, .int .u32 at_, .agg (cells v)] w fun e w' => e = .returned (.int .i64 0) ∧ MemAt w' (withβ o (storeN o.β A (getN v 64 lo) 8)) ∧ Keep (fun k => o.q = some k) w w' := by
  have hv : ¬ VBad 64859 b ((lo : Nat) : Int) true := by
    rintro (c | c | c | c | ⟨d, c⟩)
    · exact c (by omega)
    · exact c (by decide)
    · omega
    · omega
    · rw [show 16 / vszN 64859 = 2 by decide] at c; omega
  have HM := Lib.hid (fun W => rerr_ok ⟨o.p, 0, none⟩ 64859 a b ((lo : Nat) : Int) hi L true W (by decide) (Int.natCast_nonneg _) hv)
  have HS : ∀ W, Calls Try.prog 40 #[.int .i64 64859] W fun e w' => e = .returned (.int .i64 8) ∧ w' = W := fun W => rsz_any 64859 W (by decide)
  replace HS := Lib.hid HS
  clear hv
  have hz := h.size
  go_enter Try.func39, Try.ntmps39
  go_wp2_with fail
  obtain ⟨W, hW⟩ : ∃ W, W = ((w.alloc (.cells #[.int .i64 64859, .int .i64 a, .int .i64 b, .int .u64 (lo : Nat), .int .u64 hi, L] 65)).alloc (.cells (cells v) 61)) := ⟨_, rfl⟩
  have hI : W.heap[w.heap.size]? = some (.cells #[.int .i64 64859, .int .i64 a, .int .i64 b, .int .u64 (lo : Nat), .int .u64 hi, L] 65 (0, 0)) := hW ▸ heap_alloc2_old _ _ _
  have hV : W.heap[w.heap.size + 1]? = some (.cells (cells v) 61 (0, 0)) := hW ▸ heap_alloc2_new _ _ _
  have hZ : Below w.heap.size w W := hW ▸ ((Below.refl _ _).alloc (Nat.le_refl _) _).alloc (by simp) _
  rw [← hW]
  clear hW
  refine (HM.out _).mono ?_
  rintro e u1 ⟨rfl, hb1⟩
  have hI1 := (hb1.block _ (block_lt hI)).trans hI
  have hV1 := (hb1.block _ (block_lt hV)).trans hV
  have c0 : u1.cell? ⟨w.heap.size, 0, none⟩ = some (.int .i64 64859) := by rw [cell_of_row u1 _ 0 _ _ _ hI1]; rfl
  have c2 : u1.cell? ⟨w.heap.size, 2, none⟩ = some (.int .i64 b) := by rw [cell_of_row u1 _ 2 _ _ _ hI1]; rfl
  have c3 : u1.cell? ⟨w.heap.size, 3, none⟩ = some (.int .u64 (lo : Nat)) := by rw [cell_of_row u1 _ 3 _ _ _ hI1]; rfl
  have hZ1 := hZ.trans (hb1.mono hZ.size)
  have hm := h.below hZ1
  have m0 := hm.c0
  clear hI hV hI1 hb1 hZ HM
  go_wp2_with (go_at_call 40; ((with_reducible refine (HS.out _).mono ?_); rintro e u ⟨rfl, rfl⟩))
  have hA2 : at_ + b = (A : Int) := hA.symm
  rw [hA2]
  obtain ⟨X, hX⟩ : ∃ X, X = (getN v 64 lo) := ⟨_, rfl⟩
  have hXb : ∀ k, k < 8 → X / 2 ^ (8 * k) % 256 = getN v 8 (8 * lo + k) := fun k hk => hX ▸ (lane_byte v 8 lo k hk).symm
  have HX := Lib.hid hX
  have HXb := Lib.hid hXb
  clear hXb hX hA2 hA HS c0 c2 m0
  have hk0 : Keep (fun k => o.q = some k) w u := Keep.of_below hZ1
  obtain ⟨q, hq, hr0⟩ := h.row.pos (by omega)
  have nq := hr0.block
  clear hr0 h
  go_wp2_with fail
  go_loopw [13] (fun iv wr => ∃ k : Nat, k ≤ 8 ∧ iv = .int .i64 (k : Int) ∧ MemAt wr (withβ o (storeN o.β A X k)) ∧ Keep (fun k => o.q = some k) w wr ∧ wr.heap[w.heap.size + 1]? = some (.cells (cells v) 61 (0, 0))) (fun iv _ => 8 - (intOf iv).toNat)
  case atStart => exact ⟨0, Nat.zero_le _, rfl, hm, hk0, hV1⟩
  case round =>
    clear hm hk0 hV1 c3
    obtain ⟨k, hk, rfl, h, hkk, hV2⟩ := hrel
    by_cases hlt : k < 8
    · have hr := h.row
      have m0 := h.c0
      obtain ⟨Y, hY⟩ : ∃ Y, Y = X / 2 ^ (8 * k) % 256 := ⟨_, rfl⟩
      have cb : wr.cell? ⟨w.heap.size + 1, lo * 8 + k, none⟩ = some (.int .u8 (Y : Nat)) := by rw [cell_of_row wr _ _ _ _ _ hV2, getElem?_cells _ _ (by omega), hY, HXb.out k hlt, show lo * 8 + k = 8 * lo + k by omega]; rfl
      have hset : MemAt (wr.setCell ⟨q, A + k, none⟩ (.int .u8 (Y : Nat))).drew (withβ o (storeN o.β A X (k + 1))) := by
        have := h.set hq (i := A + k) (x := Y) (by show _ < o.n; omega) (by omega)
        rw [hY] at this ⊢
        exact this.drew
      have hkset : Keep (fun k => o.q = some k) w (wr.setCell ⟨q, A + k, none⟩ (.int .u8 (Y : Nat))).drew := (hkk.setCell (.inl hq) _).drew
      have hVset : (wr.setCell ⟨q, A + k, none⟩ (.int .u8 (Y : Nat))).drew.heap[w.heap.size + 1]? = some (.cells (cells v) 61 (0, 0)) := (heap_setCell_other _ _ _ _ (by show _ ≠ q; omega)).trans hV2
      simp only [withβ] at m0 hr
      rw [hq] at m0 hr
      rw [show headOf (some q) = some ⟨q, 0, none⟩ from rfl] at m0
      have hcell := BytesAt.cell hr (i := A + k) (by omega)
      have hfz := BytesAt.frozen hr (A + k)
      have hcap := BytesAt.le hr
      have HY := Lib.hid hY
      clear hY
      go_wp2
      go_region
      go_wp2
      exact ⟨⟨k + 1, by omega, by go_num, hset, hkset, hVset⟩, by simp [intOf]; omega⟩
    · obtain rfl : k = 8 := by omega
      rw [HX.out] at h
      go_wp2
      go_ret
      exact ⟨rfl, h, hkk⟩

end Go.Proofs.Ytlcndenbnokcjaa
