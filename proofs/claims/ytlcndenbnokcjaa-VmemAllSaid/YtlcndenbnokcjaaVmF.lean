/-
  vmem.Load and Store: errors; plaitlaw11.sized.
-/
import Derived.Test.YtlcndenbnokcjaaVmE
set_option linter.unusedSimpArgs false
set_option linter.unusedVariables false
namespace Go.Proofs.Ytlcndenbnokcjaa
open Go.RowKit Pl

set_option maxHeartbeats 4000000
theorem vload_e (p : Value) (op a b lo hi at_ : Int) (L : Value) (old : Vec) (E : Int) (w : World) (HM : ∀ W, Calls Try.prog 50 #[p, inV op a b lo hi L, .int .u32 at_, .bool false] W fun e w' => e = .returned (.tuple #[.int .u64 0, .int .i64 E]) ∧ Below W.heap.size W w') (hE : (E != 0) = true) :
    Calls Try.prog 29 #[p, inV op a b lo hi L, .int .u32 at_, .agg (cells old)] w fun e w' => e = .returned (.tuple #[.agg (cells 0), .int .i64 E]) ∧ Below w.heap.size w w' := by
  have HM := Lib.hid HM
  go_enter Try.func29, Try.ntmps29
  go_wp2_with fail
  rw [← cells_zero]
  obtain ⟨W, hW⟩ : ∃ W, W = (((w.alloc (.cells #[.int .i64 op, .int .i64 a, .int .i64 b, .int .u64 lo, .int .u64 hi, L] 65)).alloc (.cells (cells old) 61)).alloc (.cells (cells 0) 61)) := ⟨_, rfl⟩
  have hI : W.heap[w.heap.size]? = some (.cells #[.int .i64 op, .int .i64 a, .int .i64 b, .int .u64 lo, .int .u64 hi, L] 65 (0, 0)) := hW ▸ heap_alloc3_0 _ _ _ _
  have hV : W.heap[w.heap.size + 1]? = some (.cells (cells old) 61 (0, 0)) := hW ▸ heap_alloc3_1 _ _ _ _
  have hR : W.heap[w.heap.size + 1 + 1]? = some (.cells (cells 0) 61 (0, 0)) := hW ▸ heap_alloc3_2 _ _ _ _
  have hZ : Below w.heap.size w W := hW ▸ below_alloc3 _ _ _ _
  rw [← hW]
  clear hW
  refine (HM.out _).mono ?_
  rintro e u1 ⟨rfl, hb1⟩
  have hR1 := (hb1.block _ (block_lt hR)).trans hR
  have hZ1 := hZ.trans (hb1.mono hZ.size)
  clear hI hV hR hb1 hZ
  go_wp2_with ((with_reducible refine store_zero rfl _ _ rfl (w.heap.size + 1 + 1) rfl rfl _ hR1 ?_); intro wq hq)
  exact bodyPost_ret (results_vec_tmp rfl _ _ (w.heap.size + 1 + 1) _ _ rfl rfl hq.this) rfl ⟨rfl, hZ1.trans (hq.below.mono (by omega))⟩
theorem vstore_e (p : Value) (op a b lo hi at_ : Int) (L : Value) (v : Vec) (E : Int) (w : World) (HM : ∀ W, Calls Try.prog 50 #[p, inV op a b lo hi L, .int .u32 at_, .bool true] W fun e w' => e = .returned (.tuple #[.int .u64 0, .int .i64 E]) ∧ Below W.heap.size W w') (hE : (E != 0) = true) :
    Calls Try.prog 28 #[p, inV op a b lo hi L, .int .u32 at_, .agg (cells v)] w fun e w' => e = .returned (.int .i64 E) ∧ Below w.heap.size w w' := by
  have HM := Lib.hid HM
  go_enter Try.func28, Try.ntmps28
  go_wp2_with fail
  obtain ⟨W, hW⟩ : ∃ W, W = ((w.alloc (.cells #[.int .i64 op, .int .i64 a, .int .i64 b, .int .u64 lo, .int .u64 hi, L] 65)).alloc (.cells (cells v) 61)) := ⟨_, rfl⟩
  have hI : W.heap[w.heap.size]? = some (.cells #[.int .i64 op, .int .i64 a, .int .i64 b, .int .u64 lo, .int .u64 hi, L] 65 (0, 0)) := hW ▸ heap_alloc2_old _ _ _
  have hV : W.heap[w.heap.size + 1]? = some (.cells (cells v) 61 (0, 0)) := hW ▸ heap_alloc2_new _ _ _
  have hZ : Below w.heap.size w W := hW ▸ ((Below.refl _ _).alloc (Nat.le_refl _) _).alloc (by simp) _
  rw [← hW]
  clear hW
  refine (HM.out _).mono ?_
  rintro e u1 ⟨rfl, hb1⟩
  have hZ1 := hZ.trans (hb1.mono hZ.size)
  clear hI hV hb1 hZ
  go_wp2_with fail
  go_ret
  exact ⟨rfl, hZ1⟩
def vst (op : Int) : Bool := decide (op = 64779 ∨ 64856 ≤ op ∧ op ≤ 64859)
def vln (op : Int) : Prop := 64852 ≤ op ∧ op ≤ 64859
/-- What is wrong ahead of the memory. -/
def VBad (op b lo : Int) (s : Bool) : Prop := ¬ (64768 ≤ op ∧ op ≤ 64779 ∨ 64852 ≤ op ∧ op ≤ 64861) ∨ vst op ≠ s ∨ b < 0 ∨ 4294967296 ≤ b ∨ (vln op ∧ 16 / vszN op ≤ lo)
theorem vmay_bad (p : Addr) (op a b lo hi at_ : Int) (L : Value) (s : Bool) (w : World) (hr : -9223372036854775808 ≤ op ∧ op ≤ 9223372036854775807) (h : VBad op b lo s) :
    Calls Try.prog 50 #[.pointer (some p), inV op a b lo hi L, .int .u32 at_, .bool s] w fun e w' => e = .returned (.tuple #[.int .u64 0, .int .i64 1]) ∧ Below w.heap.size w w' := by
  by_cases hv : (64768 ≤ op ∧ op ≤ 64779 ∨ 64852 ≤ op ∧ op ≤ 64861)
  · have h := h.resolve_left (fun c => c hv)
    by_cases h1 : b < 0
    · rcases vops op hv with rfl | rfl | rfl | rfl | rfl | rfl | rfl | rfl | rfl | rfl | rfl | rfl | rfl | rfl | rfl | rfl | rfl | rfl | rfl | rfl | rfl | rfl

      · rcases Bool.eq_false_or_eq_true s with rfl | rfl
        · exact vmay_00_not _ a b lo hi at_ L w
        · exact vmay_00_neg _ a b lo hi at_ L w h1
      · rcases Bool.eq_false_or_eq_true s with rfl | rfl
        · exact vmay_01_not _ a b lo hi at_ L w
        · exact vmay_01_neg _ a b lo hi at_ L w h1
      · rcases Bool.eq_false_or_eq_true s with rfl | rfl
        · exact vmay_02_not _ a b lo hi at_ L w
        · exact vmay_02_neg _ a b lo hi at_ L w h1
      · rcases Bool.eq_false_or_eq_true s with rfl | rfl
        · exact vmay_03_not _ a b lo hi at_ L w
        · exact vmay_03_neg _ a b lo hi at_ L w h1
      · rcases Bool.eq_false_or_eq_true s with rfl | rfl
        · exact vmay_04_not _ a b lo hi at_ L w
        · exact vmay_04_neg _ a b lo hi at_ L w h1
      · rcases Bool.eq_false_or_eq_true s with rfl | rfl
        · exact vmay_05_not _ a b lo hi at_ L w
        · exact vmay_05_neg _ a b lo hi at_ L w h1
      · rcases Bool.eq_false_or_eq_true s with rfl | rfl
        · exact vmay_06_not _ a b lo hi at_ L w
        · exact vmay_06_neg _ a b lo hi at_ L w h1
      · rcases Bool.eq_false_or_eq_true s with rfl | rfl
        · exact vmay_07_not _ a b lo hi at_ L w
        · exact vmay_07_neg _ a b lo hi at_ L w h1
      · rcases Bool.eq_false_or_eq_true s with rfl | rfl
        · exact vmay_08_not _ a b lo hi at_ L w
        · exact vmay_08_neg _ a b lo hi at_ L w h1
      · rcases Bool.eq_false_or_eq_true s with rfl | rfl
        · exact vmay_09_not _ a b lo hi at_ L w
        · exact vmay_09_neg _ a b lo hi at_ L w h1
      · rcases Bool.eq_false_or_eq_true s with rfl | rfl
        · exact vmay_0a_not _ a b lo hi at_ L w
        · exact vmay_0a_neg _ a b lo hi at_ L w h1
      · rcases Bool.eq_false_or_eq_true s with rfl | rfl
        · exact vmay_0b_neg _ a b lo hi at_ L w h1
        · exact vmay_0b_not _ a b lo hi at_ L w
      · rcases Bool.eq_false_or_eq_true s with rfl | rfl
        · exact vmay_54_not _ a b lo hi at_ L w
        · exact vmay_54_neg _ a b lo hi at_ L w h1
      · rcases Bool.eq_false_or_eq_true s with rfl | rfl
        · exact vmay_55_not _ a b lo hi at_ L w
        · exact vmay_55_neg _ a b lo hi at_ L w h1
      · rcases Bool.eq_false_or_eq_true s with rfl | rfl
        · exact vmay_56_not _ a b lo hi at_ L w
        · exact vmay_56_neg _ a b lo hi at_ L w h1
      · rcases Bool.eq_false_or_eq_true s with rfl | rfl
        · exact vmay_57_not _ a b lo hi at_ L w
        · exact vmay_57_neg _ a b lo hi at_ L w h1
      · rcases Bool.eq_false_or_eq_true s with rfl | rfl
        · exact vmay_58_neg _ a b lo hi at_ L w h1
        · exact vmay_58_not _ a b lo hi at_ L w
      · rcases Bool.eq_false_or_eq_true s with rfl | rfl
        · exact vmay_59_neg _ a b lo hi at_ L w h1
        · exact vmay_59_not _ a b lo hi at_ L w
      · rcases Bool.eq_false_or_eq_true s with rfl | rfl
        · exact vmay_5a_neg _ a b lo hi at_ L w h1
        · exact vmay_5a_not _ a b lo hi at_ L w
      · rcases Bool.eq_false_or_eq_true s with rfl | rfl
        · exact vmay_5b_neg _ a b lo hi at_ L w h1
        · exact vmay_5b_not _ a b lo hi at_ L w
      · rcases Bool.eq_false_or_eq_true s with rfl | rfl
        · exact vmay_5c_not _ a b lo hi at_ L w
        · exact vmay_5c_neg _ a b lo hi at_ L w h1
      · rcases Bool.eq_false_or_eq_true s with rfl | rfl
        · exact vmay_5d_not _ a b lo hi at_ L w
        · exact vmay_5d_neg _ a b lo hi at_ L w h1
    · by_cases h2 : 4294967296 ≤ b
      · rcases vops op hv with rfl | rfl | rfl | rfl | rfl | rfl | rfl | rfl | rfl | rfl | rfl | rfl | rfl | rfl | rfl | rfl | rfl | rfl | rfl | rfl | rfl | rfl
        · rcases Bool.eq_false_or_eq_true s with rfl | rfl
          · exact vmay_00_not _ a b lo hi at_ L w
          · exact vmay_00_big _ a b lo hi at_ L w h2
        · rcases Bool.eq_false_or_eq_true s with rfl | rfl
          · exact vmay_01_not _ a b lo hi at_ L w
          · exact vmay_01_big _ a b lo hi at_ L w h2
        · rcases Bool.eq_false_or_eq_true s with rfl | rfl
          · exact vmay_02_not _ a b lo hi at_ L w
          · exact vmay_02_big _ a b lo hi at_ L w h2
        · rcases Bool.eq_false_or_eq_true s with rfl | rfl
          · exact vmay_03_not _ a b lo hi at_ L w
          · exact vmay_03_big _ a b lo hi at_ L w h2
        · rcases Bool.eq_false_or_eq_true s with rfl | rfl
          · exact vmay_04_not _ a b lo hi at_ L w
          · exact vmay_04_big _ a b lo hi at_ L w h2
        · rcases Bool.eq_false_or_eq_true s with rfl | rfl
          · exact vmay_05_not _ a b lo hi at_ L w
          · exact vmay_05_big _ a b lo hi at_ L w h2
        · rcases Bool.eq_false_or_eq_true s with rfl | rfl
          · exact vmay_06_not _ a b lo hi at_ L w
          · exact vmay_06_big _ a b lo hi at_ L w h2
        · rcases Bool.eq_false_or_eq_true s with rfl | rfl
          · exact vmay_07_not _ a b lo hi at_ L w
          · exact vmay_07_big _ a b lo hi at_ L w h2
        · rcases Bool.eq_false_or_eq_true s with rfl | rfl
          · exact vmay_08_not _ a b lo hi at_ L w
          · exact vmay_08_big _ a b lo hi at_ L w h2
        · rcases Bool.eq_false_or_eq_true s with rfl | rfl
          · exact vmay_09_not _ a b lo hi at_ L w
          · exact vmay_09_big _ a b lo hi at_ L w h2
        · rcases Bool.eq_false_or_eq_true s with rfl | rfl
          · exact vmay_0a_not _ a b lo hi at_ L w
          · exact vmay_0a_big _ a b lo hi at_ L w h2
        · rcases Bool.eq_false_or_eq_true s with rfl | rfl
          · exact vmay_0b_big _ a b lo hi at_ L w h2
          · exact vmay_0b_not _ a b lo hi at_ L w
        · rcases Bool.eq_false_or_eq_true s with rfl | rfl
          · exact vmay_54_not _ a b lo hi at_ L w
          · exact vmay_54_big _ a b lo hi at_ L w h2
        · rcases Bool.eq_false_or_eq_true s with rfl | rfl
          · exact vmay_55_not _ a b lo hi at_ L w
          · exact vmay_55_big _ a b lo hi at_ L w h2
        · rcases Bool.eq_false_or_eq_true s with rfl | rfl
          · exact vmay_56_not _ a b lo hi at_ L w
          · exact vmay_56_big _ a b lo hi at_ L w h2
        · rcases Bool.eq_false_or_eq_true s with rfl | rfl
          · exact vmay_57_not _ a b lo hi at_ L w
          · exact vmay_57_big _ a b lo hi at_ L w h2
        · rcases Bool.eq_false_or_eq_true s with rfl | rfl
          · exact vmay_58_big _ a b lo hi at_ L w h2
          · exact vmay_58_not _ a b lo hi at_ L w
        · rcases Bool.eq_false_or_eq_true s with rfl | rfl
          · exact vmay_59_big _ a b lo hi at_ L w h2
          · exact vmay_59_not _ a b lo hi at_ L w
        · rcases Bool.eq_false_or_eq_true s with rfl | rfl
          · exact vmay_5a_big _ a b lo hi at_ L w h2
          · exact vmay_5a_not _ a b lo hi at_ L w
        · rcases Bool.eq_false_or_eq_true s with rfl | rfl
          · exact vmay_5b_big _ a b lo hi at_ L w h2
          · exact vmay_5b_not _ a b lo hi at_ L w
        · rcases Bool.eq_false_or_eq_true s with rfl | rfl
          · exact vmay_5c_not _ a b lo hi at_ L w
          · exact vmay_5c_big _ a b lo hi at_ L w h2
        · rcases Bool.eq_false_or_eq_true s with rfl | rfl
          · exact vmay_5d_not _ a b lo hi at_ L w
          · exact vmay_5d_big _ a b lo hi at_ L w h2
      · have hb : 0 ≤ b ∧ b < 4294967296 := by omega
        rcases vops op hv with rfl | rfl | rfl | rfl | rfl | rfl | rfl | rfl | rfl | rfl | rfl | rfl | rfl | rfl | rfl | rfl | rfl | rfl | rfl | rfl | rfl | rfl
        · rcases Bool.eq_false_or_eq_true s with rfl | rfl
          · exact vmay_00_not _ a b lo hi at_ L w
          · exact absurd ((((h.resolve_left (fun c => c rfl)).resolve_left h1).resolve_left h2).1) (by unfold vln; decide)
        · rcases Bool.eq_false_or_eq_true s with rfl | rfl
          · exact vmay_01_not _ a b lo hi at_ L w
          · exact absurd ((((h.resolve_left (fun c => c rfl)).resolve_left h1).resolve_left h2).1) (by unfold vln; decide)
        · rcases Bool.eq_false_or_eq_true s with rfl | rfl
          · exact vmay_02_not _ a b lo hi at_ L w
          · exact absurd ((((h.resolve_left (fun c => c rfl)).resolve_left h1).resolve_left h2).1) (by unfold vln; decide)
        · rcases Bool.eq_false_or_eq_true s with rfl | rfl
          · exact vmay_03_not _ a b lo hi at_ L w
          · exact absurd ((((h.resolve_left (fun c => c rfl)).resolve_left h1).resolve_left h2).1) (by unfold vln; decide)
        · rcases Bool.eq_false_or_eq_true s with rfl | rfl
          · exact vmay_04_not _ a b lo hi at_ L w
          · exact absurd ((((h.resolve_left (fun c => c rfl)).resolve_left h1).resolve_left h2).1) (by unfold vln; decide)
        · rcases Bool.eq_false_or_eq_true s with rfl | rfl
          · exact vmay_05_not _ a b lo hi at_ L w
          · exact absurd ((((h.resolve_left (fun c => c rfl)).resolve_left h1).resolve_left h2).1) (by unfold vln; decide)
        · rcases Bool.eq_false_or_eq_true s with rfl | rfl
          · exact vmay_06_not _ a b lo hi at_ L w
          · exact absurd ((((h.resolve_left (fun c => c rfl)).resolve_left h1).resolve_left h2).1) (by unfold vln; decide)
        · rcases Bool.eq_false_or_eq_true s with rfl | rfl
          · exact vmay_07_not _ a b lo hi at_ L w
          · exact absurd ((((h.resolve_left (fun c => c rfl)).resolve_left h1).resolve_left h2).1) (by unfold vln; decide)
        · rcases Bool.eq_false_or_eq_true s with rfl | rfl
          · exact vmay_08_not _ a b lo hi at_ L w
          · exact absurd ((((h.resolve_left (fun c => c rfl)).resolve_left h1).resolve_left h2).1) (by unfold vln; decide)
        · rcases Bool.eq_false_or_eq_true s with rfl | rfl
          · exact vmay_09_not _ a b lo hi at_ L w
          · exact absurd ((((h.resolve_left (fun c => c rfl)).resolve_left h1).resolve_left h2).1) (by unfold vln; decide)
        · rcases Bool.eq_false_or_eq_true s with rfl | rfl
          · exact vmay_0a_not _ a b lo hi at_ L w
          · exact absurd ((((h.resolve_left (fun c => c rfl)).resolve_left h1).resolve_left h2).1) (by unfold vln; decide)
        · rcases Bool.eq_false_or_eq_true s with rfl | rfl
          · exact absurd ((((h.resolve_left (fun c => c rfl)).resolve_left h1).resolve_left h2).1) (by unfold vln; decide)
          · exact vmay_0b_not _ a b lo hi at_ L w
        · rcases Bool.eq_false_or_eq_true s with rfl | rfl
          · exact vmay_54_not _ a b lo hi at_ L w
          · exact vmay_54_lane _ a b lo hi at_ L w hb (((h.resolve_left (fun c => c rfl)).resolve_left h1).resolve_left h2).2
        · rcases Bool.eq_false_or_eq_true s with rfl | rfl
          · exact vmay_55_not _ a b lo hi at_ L w
          · exact vmay_55_lane _ a b lo hi at_ L w hb (((h.resolve_left (fun c => c rfl)).resolve_left h1).resolve_left h2).2
        · rcases Bool.eq_false_or_eq_true s with rfl | rfl
          · exact vmay_56_not _ a b lo hi at_ L w
          · exact vmay_56_lane _ a b lo hi at_ L w hb (((h.resolve_left (fun c => c rfl)).resolve_left h1).resolve_left h2).2
        · rcases Bool.eq_false_or_eq_true s with rfl | rfl
          · exact vmay_57_not _ a b lo hi at_ L w
          · exact vmay_57_lane _ a b lo hi at_ L w hb (((h.resolve_left (fun c => c rfl)).resolve_left h1).resolve_left h2).2
        · rcases Bool.eq_false_or_eq_true s with rfl | rfl
          · exact vmay_58_lane _ a b lo hi at_ L w hb (((h.resolve_left (fun c => c rfl)).resolve_left h1).resolve_left h2).2
          · exact vmay_58_not _ a b lo hi at_ L w
        · rcases Bool.eq_false_or_eq_true s with rfl | rfl
          · exact vmay_59_lane _ a b lo hi at_ L w hb (((h.resolve_left (fun c => c rfl)).resolve_left h1).resolve_left h2).2
          · exact vmay_59_not _ a b lo hi at_ L w
        · rcases Bool.eq_false_or_eq_true s with rfl | rfl
          · exact vmay_5a_lane _ a b lo hi at_ L w hb (((h.resolve_left (fun c => c rfl)).resolve_left h1).resolve_left h2).2
          · exact vmay_5a_not _ a b lo hi at_ L w
        · rcases Bool.eq_false_or_eq_true s with rfl | rfl
          · exact vmay_5b_lane _ a b lo hi at_ L w hb (((h.resolve_left (fun c => c rfl)).resolve_left h1).resolve_left h2).2
          · exact vmay_5b_not _ a b lo hi at_ L w
        · rcases Bool.eq_false_or_eq_true s with rfl | rfl
          · exact vmay_5c_not _ a b lo hi at_ L w
          · exact absurd ((((h.resolve_left (fun c => c rfl)).resolve_left h1).resolve_left h2).1) (by unfold vln; decide)
        · rcases Bool.eq_false_or_eq_true s with rfl | rfl
          · exact vmay_5d_not _ a b lo hi at_ L w
          · exact absurd ((((h.resolve_left (fun c => c rfl)).resolve_left h1).resolve_left h2).1) (by unfold vln; decide)
  · exact vmay_none _ op a b lo hi at_ L s w hr hv
theorem vmay_nilE (op a b lo hi at_ : Int) (L : Value) (s : Bool) (w : World) (hr : -9223372036854775808 ≤ op ∧ op ≤ 9223372036854775807) (hl : 0 ≤ lo) (h : ¬ VBad op b lo s) :
    Calls Try.prog 50 #[.pointer none, inV op a b lo hi L, .int .u32 at_, .bool s] w fun e w' => e = .returned (.tuple #[.int .u64 0, .int .i64 2]) ∧ Below w.heap.size w w' := by
  unfold VBad at h
  have hv : (64768 ≤ op ∧ op ≤ 64779 ∨ 64852 ≤ op ∧ op ≤ 64861) := Decidable.byContradiction fun c => h (.inl c)
  have hs : vst op = s := Decidable.byContradiction fun c => h (.inr (.inl c))
  have hb : 0 ≤ b ∧ b < 4294967296 := ⟨Int.not_lt.1 fun c => h (.inr (.inr (.inl c))), Int.not_le.1 fun c => h (.inr (.inr (.inr (.inl c))))⟩
  have hn : vln op → lo < 16 / vszN op := fun c => Int.not_le.1 fun d => h (.inr (.inr (.inr (.inr ⟨c, d⟩))))
  subst hs
  clear h
  rcases vops op hv with rfl | rfl | rfl | rfl | rfl | rfl | rfl | rfl | rfl | rfl | rfl | rfl | rfl | rfl | rfl | rfl | rfl | rfl | rfl | rfl | rfl | rfl
  · exact vmay_00_nil a b lo hi at_ L w hb
  · exact vmay_01_nil a b lo hi at_ L w hb
  · exact vmay_02_nil a b lo hi at_ L w hb
  · exact vmay_03_nil a b lo hi at_ L w hb
  · exact vmay_04_nil a b lo hi at_ L w hb
  · exact vmay_05_nil a b lo hi at_ L w hb
  · exact vmay_06_nil a b lo hi at_ L w hb
  · exact vmay_07_nil a b lo hi at_ L w hb
  · exact vmay_08_nil a b lo hi at_ L w hb
  · exact vmay_09_nil a b lo hi at_ L w hb
  · exact vmay_0a_nil a b lo hi at_ L w hb
  · exact vmay_0b_nil a b lo hi at_ L w hb
  · exact vmay_54_nil a b lo hi at_ L w hb ⟨hl, hn (by unfold vln; decide)⟩
  · exact vmay_55_nil a b lo hi at_ L w hb ⟨hl, hn (by unfold vln; decide)⟩
  · exact vmay_56_nil a b lo hi at_ L w hb ⟨hl, hn (by unfold vln; decide)⟩
  · exact vmay_57_nil a b lo hi at_ L w hb ⟨hl, hn (by unfold vln; decide)⟩
  · exact vmay_58_nil a b lo hi at_ L w hb ⟨hl, hn (by unfold vln; decide)⟩
  · exact vmay_59_nil a b lo hi at_ L w hb ⟨hl, hn (by unfold vln; decide)⟩
  · exact vmay_5a_nil a b lo hi at_ L w hb ⟨hl, hn (by unfold vln; decide)⟩
  · exact vmay_5b_nil a b lo hi at_ L w hb ⟨hl, hn (by unfold vln; decide)⟩
  · exact vmay_5c_nil a b lo hi at_ L w hb
  · exact vmay_5d_nil a b lo hi at_ L w hb
theorem vload_bad (p : Addr) (op a b lo hi at_ : Int) (L : Value) (old : Vec) (w : World) (hr : -9223372036854775808 ≤ op ∧ op ≤ 9223372036854775807) (h : VBad op b lo false) :
    Calls Try.prog 29 #[.pointer (some p), inV op a b lo hi L, .int .u32 at_, .agg (cells old)] w fun e w' => e = .returned (.tuple #[.agg (cells 0), .int .i64 1]) ∧ Below w.heap.size w w' :=
  vload_e _ op a b lo hi at_ L old 1 w (fun W => vmay_bad p op a b lo hi at_ L false W hr h) rfl
theorem vstore_bad (p : Addr) (op a b lo hi at_ : Int) (L : Value) (v : Vec) (w : World) (hr : -9223372036854775808 ≤ op ∧ op ≤ 9223372036854775807) (h : VBad op b lo true) :
    Calls Try.prog 28 #[.pointer (some p), inV op a b lo hi L, .int .u32 at_, .agg (cells v)] w fun e w' => e = .returned (.int .i64 1) ∧ Below w.heap.size w w' :=
  vstore_e _ op a b lo hi at_ L v 1 w (fun W => vmay_bad p op a b lo hi at_ L true W hr h) rfl
set_option maxRecDepth 100000 in
theorem sized_any (op : Int) (w : World) (hr : -9223372036854775808 ≤ op ∧ op ≤ 9223372036854775807) : Calls Try.prog 33 #[.int .i64 op] w fun e w' => e = .returned (.int .i64 (vszN op)) ∧ Below w.heap.size w w' := by
  by_cases hv : (64768 ≤ op ∧ op ≤ 64779 ∨ 64852 ≤ op ∧ op ≤ 64861)
  · rcases vops op hv with rfl | rfl | rfl | rfl | rfl | rfl | rfl | rfl | rfl | rfl | rfl | rfl | rfl | rfl | rfl | rfl | rfl | rfl | rfl | rfl | rfl | rfl
    all_goals
      go_enter Try.func33, Try.ntmps33
      go_wp2
      go_ret
      exact ⟨rfl, (Below.refl _ _).alloc (Nat.le_refl _) _⟩
  · rw [show vszN op = 0 by unfold vszN; rw [if_neg (by omega), if_neg (by omega)]]
    obtain ⟨κ, hκ, h1 | ⟨h1, h2⟩ | h1⟩ := kappa op hr hv
    all_goals
      have e1 : (κ == 92) = false := by simp; omega
      have e2 : (κ == 93) = false := by simp; omega
      clear hv hr
      go_enter Try.func33, Try.ntmps33
      go_wp2
      go_ret
      exact ⟨rfl, (Below.refl _ _).alloc (Nat.le_refl _) _⟩

end Go.Proofs.Ytlcndenbnokcjaa
