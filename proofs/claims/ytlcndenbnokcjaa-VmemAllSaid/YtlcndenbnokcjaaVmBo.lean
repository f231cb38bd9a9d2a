/-
  vmem.Load, Store and plaitref11.Load, Store: the same answers.
-/
import Derived.Test.YtlcndenbnokcjaaVmRL0
import Derived.Test.YtlcndenbnokcjaaVmRL1
import Derived.Test.YtlcndenbnokcjaaVmRL2
import Derived.Test.YtlcndenbnokcjaaVmRL3
import Derived.Test.YtlcndenbnokcjaaVmRSt
import Derived.Test.YtlcndenbnokcjaaVmX
set_option linter.unusedSimpArgs false
set_option linter.unusedVariables false
namespace Go.Proofs.Ytlcndenbnokcjaa
open Go.RowKit Pl

set_option maxRecDepth 100000 in
theorem vmay_badp (p : Value) (op a b lo hi at_ : Int) (L : Value) (s : Bool) (w : World) (hr : -9223372036854775808 ≤ op ∧ op ≤ 9223372036854775807) (h : VBad op b lo s) :
    Calls Try.prog 50 #[p, inV op a b lo hi L, .int .u32 at_, .bool s] w fun e w' => e = .returned (.tuple #[.int .u64 0, .int .i64 1]) ∧ Below w.heap.size w w' := by
  by_cases hv : (64768 ≤ op ∧ op ≤ 64779 ∨ 64852 ≤ op ∧ op ≤ 64861)
  · have h := h.resolve_left (fun c => c hv)
    by_cases h1 : b < 0
    · rcases vops op hv with rfl | rfl | rfl | rfl | rfl | rfl | rfl | rfl | rfl | rfl | rfl | rfl | rfl | rfl | rfl | rfl | rfl | rfl | rfl | rfl | rfl | rfl

      · rcases Bool.eq_false_or_eq_true s with rfl | rfl
        · exact vmay_00_not _ a b lo hi at_ L w
        · exact vmay_00_neg _ a b lo hi at_ L w h1
      · rcases Bool.eq_false_or_eq_true s with rfl | rfl
        · exact vmay_01_not _ a b lo hi at_ L w
        · exact vmay_01_neg _ a b lo hi at_ L w h1
      · rcases Bool.eq_false_or_eq_true s with rfl | rfl
        · exact vmay_02_not _ a b lo hi at_ L w
        · exact vmay_02_neg _ a b lo hi at_ L w h1
      · rcases Bool.eq_false_or_eq_true s with rfl | rfl
        · exact vmay_03_not _ a b lo hi at_ L w
        · exact vmay_03_neg _ a b lo hi at_ L w h1
      · rcases Bool.eq_false_or_eq_true s with rfl | rfl
        · exact vmay_04_not _ a b lo hi at_ L w
        · exact vmay_04_neg _ a b lo hi at_ L w h1
      · rcases Bool.eq_false_or_eq_true s with rfl | rfl
        · exact vmay_05_not _ a b lo hi at_ L w
        · exact vmay_05_neg _ a b lo hi at_ L w h1
      · rcases Bool.eq_false_or_eq_true s with rfl | rfl
        · exact vmay_06_not _ a b lo hi at_ L w
        · exact vmay_06_neg _ a b lo hi at_ L w h1
      · rcases Bool.eq_false_or_eq_true s with rfl | rfl
        · exact vmay_07_not _ a b lo hi at_ L w
        · exact vmay_07_neg _ a b lo hi at_ L w h1
      · rcases Bool.eq_false_or_eq_true s with rfl | rfl
        · exact vmay_08_not _ a b lo hi at_ L w
        · exact vmay_08_neg _ a b lo hi at_ L w h1
      · rcases Bool.eq_false_or_eq_true s with rfl | rfl
        · exact vmay_09_not _ a b lo hi at_ L w
        · exact vmay_09_neg _ a b lo hi at_ L w h1
      · rcases Bool.eq_false_or_eq_true s with rfl | rfl
        · exact vmay_0a_not _ a b lo hi at_ L w
        · exact vmay_0a_neg _ a b lo hi at_ L w h1
      · rcases Bool.eq_false_or_eq_true s with rfl | rfl
        · exact vmay_0b_neg _ a b lo hi at_ L w h1
        · exact vmay_0b_not _ a b lo hi at_ L w
      · rcases Bool.eq_false_or_eq_true s with rfl | rfl
        · exact vmay_54_not _ a b lo hi at_ L w
        · exact vmay_54_neg _ a b lo hi at_ L w h1
      · rcases Bool.eq_false_or_eq_true s with rfl | rfl
        · exact vmay_55_not _ a b lo hi at_ L w
        · exact vmay_55_neg _ a b lo hi at_ L w h1
      · rcases Bool.eq_false_or_eq_true s with rfl | rfl
        · exact vmay_56_not _ a b lo hi at_ L w
        · exact vmay_56_neg _ a b lo hi at_ L w h1
      · rcases Bool.eq_false_or_eq_true s with rfl | rfl
        · exact vmay_57_not _ a b lo hi at_ L w
        · exact vmay_57_neg _ a b lo hi at_ L w h1
      · rcases Bool.eq_false_or_eq_true s with rfl | rfl
        · exact vmay_58_neg _ a b lo hi at_ L w h1
        · exact vmay_58_not _ a b lo hi at_ L w
      · rcases Bool.eq_false_or_eq_true s with rfl | rfl
        · exact vmay_59_neg _ a b lo hi at_ L w h1
        · exact vmay_59_not _ a b lo hi at_ L w
      · rcases Bool.eq_false_or_eq_true s with rfl | rfl
        · exact vmay_5a_neg _ a b lo hi at_ L w h1
        · exact vmay_5a_not _ a b lo hi at_ L w
      · rcases Bool.eq_false_or_eq_true s with rfl | rfl
        · exact vmay_5b_neg _ a b lo hi at_ L w h1
        · exact vmay_5b_not _ a b lo hi at_ L w
      · rcases Bool.eq_false_or_eq_true s with rfl | rfl
        · exact vmay_5c_not _ a b lo hi at_ L w
        · exact vmay_5c_neg _ a b lo hi at_ L w h1
      · rcases Bool.eq_false_or_eq_true s with rfl | rfl
        · exact vmay_5d_not _ a b lo hi at_ L w
        · exact vmay_5d_neg _ a b lo hi at_ L w h1
    · by_cases h2 : 4294967296 ≤ b
      · rcases vops op hv with rfl | rfl | rfl | rfl | rfl | rfl | rfl | rfl | rfl | rfl | rfl | rfl | rfl | rfl | rfl | rfl | rfl | rfl | rfl | rfl | rfl | rfl
        · rcases Bool.eq_false_or_eq_true s with rfl | rfl
          · exact vmay_00_not _ a b lo hi at_ L w
          · exact vmay_00_big _ a b lo hi at_ L w h2
        · rcases Bool.eq_false_or_eq_true s with rfl | rfl
          · exact vmay_01_not _ a b lo hi at_ L w
          · exact vmay_01_big _ a b lo hi at_ L w h2
        · rcases Bool.eq_false_or_eq_true s with rfl | rfl
          · exact vmay_02_not _ a b lo hi at_ L w
          · exact vmay_02_big _ a b lo hi at_ L w h2
        · rcases Bool.eq_false_or_eq_true s with rfl | rfl
          · exact vmay_03_not _ a b lo hi at_ L w
          · exact vmay_03_big _ a b lo hi at_ L w h2
        · rcases Bool.eq_false_or_eq_true s with rfl | rfl
          · exact vmay_04_not _ a b lo hi at_ L w
          · exact vmay_04_big _ a b lo hi at_ L w h2
        · rcases Bool.eq_false_or_eq_true s with rfl | rfl
          · exact vmay_05_not _ a b lo hi at_ L w
          · exact vmay_05_big _ a b lo hi at_ L w h2
        · rcases Bool.eq_false_or_eq_true s with rfl | rfl
          · exact vmay_06_not _ a b lo hi at_ L w
          · exact vmay_06_big _ a b lo hi at_ L w h2
        · rcases Bool.eq_false_or_eq_true s with rfl | rfl
          · exact vmay_07_not _ a b lo hi at_ L w
          · exact vmay_07_big _ a b lo hi at_ L w h2
        · rcases Bool.eq_false_or_eq_true s with rfl | rfl
          · exact vmay_08_not _ a b lo hi at_ L w
          · exact vmay_08_big _ a b lo hi at_ L w h2
        · rcases Bool.eq_false_or_eq_true s with rfl | rfl
          · exact vmay_09_not _ a b lo hi at_ L w
          · exact vmay_09_big _ a b lo hi at_ L w h2
        · rcases Bool.eq_false_or_eq_true s with rfl | rfl
          · exact vmay_0a_not _ a b lo hi at_ L w
          · exact vmay_0a_big _ a b lo hi at_ L w h2
        · rcases Bool.eq_false_or_eq_true s with rfl | rfl
          · exact vmay_0b_big _ a b lo hi at_ L w h2
          · exact vmay_0b_not _ a b lo hi at_ L w
        · rcases Bool.eq_false_or_eq_true s with rfl | rfl
          · exact vmay_54_not _ a b lo hi at_ L w
          · exact vmay_54_big _ a b lo hi at_ L w h2
        · rcases Bool.eq_false_or_eq_true s with rfl | rfl
          · exact vmay_55_not _ a b lo hi at_ L w
          · exact vmay_55_big _ a b lo hi at_ L w h2
        · rcases Bool.eq_false_or_eq_true s with rfl | rfl
          · exact vmay_56_not _ a b lo hi at_ L w
          · exact vmay_56_big _ a b lo hi at_ L w h2
        · rcases Bool.eq_false_or_eq_true s with rfl | rfl
          · exact vmay_57_not _ a b lo hi at_ L w
          · exact vmay_57_big _ a b lo hi at_ L w h2
        · rcases Bool.eq_false_or_eq_true s with rfl | rfl
          · exact vmay_58_big _ a b lo hi at_ L w h2
          · exact vmay_58_not _ a b lo hi at_ L w
        · rcases Bool.eq_false_or_eq_true s with rfl | rfl
          · exact vmay_59_big _ a b lo hi at_ L w h2
          · exact vmay_59_not _ a b lo hi at_ L w
        · rcases Bool.eq_false_or_eq_true s with rfl | rfl
          · exact vmay_5a_big _ a b lo hi at_ L w h2
          · exact vmay_5a_not _ a b lo hi at_ L w
        · rcases Bool.eq_false_or_eq_true s with rfl | rfl
          · exact vmay_5b_big _ a b lo hi at_ L w h2
          · exact vmay_5b_not _ a b lo hi at_ L w
        · rcases Bool.eq_false_or_eq_true s with rfl | rfl
          · exact vmay_5c_not _ a b lo hi at_ L w
          · exact vmay_5c_big _ a b lo hi at_ L w h2
        · rcases Bool.eq_false_or_eq_true s with rfl | rfl
          · exact vmay_5d_not _ a b lo hi at_ L w
          · exact vmay_5d_big _ a b lo hi at_ L w h2
      · have hb : 0 ≤ b ∧ b < 4294967296 := by omega
        rcases vops op hv with rfl | rfl | rfl | rfl | rfl | rfl | rfl | rfl | rfl | rfl | rfl | rfl | rfl | rfl | rfl | rfl | rfl | rfl | rfl | rfl | rfl | rfl
        · rcases Bool.eq_false_or_eq_true s with rfl | rfl
          · exact vmay_00_not _ a b lo hi at_ L w
          · exact absurd ((((h.resolve_left (fun c => c rfl)).resolve_left h1).resolve_left h2).1) (by unfold vln; decide)
        · rcases Bool.eq_false_or_eq_true s with rfl | rfl
          · exact vmay_01_not _ a b lo hi at_ L w
          · exact absurd ((((h.resolve_left (fun c => c rfl)).resolve_left h1).resolve_left h2).1) (by unfold vln; decide)
        · rcases Bool.eq_false_or_eq_true s with rfl | rfl
          · exact vmay_02_not _ a b lo hi at_ L w
          · exact absurd ((((h.resolve_left (fun c => c rfl)).resolve_left h1).resolve_left h2).1) (by unfold vln; decide)
        · rcases Bool.eq_false_or_eq_true s with rfl | rfl
          · exact vmay_03_not _ a b lo hi at_ L w
          · exact absurd ((((h.resolve_left (fun c => c rfl)).resolve_left h1).resolve_left h2).1) (by unfold vln; decide)
        · rcases Bool.eq_false_or_eq_true s with rfl | rfl
          · exact vmay_04_not _ a b lo hi at_ L w
          · exact absurd ((((h.resolve_left (fun c => c rfl)).resolve_left h1).resolve_left h2).1) (by unfold vln; decide)
        · rcases Bool.eq_false_or_eq_true s with rfl | rfl
          · exact vmay_05_not _ a b lo hi at_ L w
          · exact absurd ((((h.resolve_left (fun c => c rfl)).resolve_left h1).resolve_left h2).1) (by unfold vln; decide)
        · rcases Bool.eq_false_or_eq_true s with rfl | rfl
          · exact vmay_06_not _ a b lo hi at_ L w
          · exact absurd ((((h.resolve_left (fun c => c rfl)).resolve_left h1).resolve_left h2).1) (by unfold vln; decide)
        · rcases Bool.eq_false_or_eq_true s with rfl | rfl
          · exact vmay_07_not _ a b lo hi at_ L w
          · exact absurd ((((h.resolve_left (fun c => c rfl)).resolve_left h1).resolve_left h2).1) (by unfold vln; decide)
        · rcases Bool.eq_false_or_eq_true s with rfl | rfl
          · exact vmay_08_not _ a b lo hi at_ L w
          · exact absurd ((((h.resolve_left (fun c => c rfl)).resolve_left h1).resolve_left h2).1) (by unfold vln; decide)
        · rcases Bool.eq_false_or_eq_true s with rfl | rfl
          · exact vmay_09_not _ a b lo hi at_ L w
          · exact absurd ((((h.resolve_left (fun c => c rfl)).resolve_left h1).resolve_left h2).1) (by unfold vln; decide)
        · rcases Bool.eq_false_or_eq_true s with rfl | rfl
          · exact vmay_0a_not _ a b lo hi at_ L w
          · exact absurd ((((h.resolve_left (fun c => c rfl)).resolve_left h1).resolve_left h2).1) (by unfold vln; decide)
        · rcases Bool.eq_false_or_eq_true s with rfl | rfl
          · exact absurd ((((h.resolve_left (fun c => c rfl)).resolve_left h1).resolve_left h2).1) (by unfold vln; decide)
          · exact vmay_0b_not _ a b lo hi at_ L w
        · rcases Bool.eq_false_or_eq_true s with rfl | rfl
          · exact vmay_54_not _ a b lo hi at_ L w
          · exact vmay_54_lane _ a b lo hi at_ L w hb (((h.resolve_left (fun c => c rfl)).resolve_left h1).resolve_left h2).2
        · rcases Bool.eq_false_or_eq_true s with rfl | rfl
          · exact vmay_55_not _ a b lo hi at_ L w
          · exact vmay_55_lane _ a b lo hi at_ L w hb (((h.resolve_left (fun c => c rfl)).resolve_left h1).resolve_left h2).2
        · rcases Bool.eq_false_or_eq_true s with rfl | rfl
          · exact vmay_56_not _ a b lo hi at_ L w
          · exact vmay_56_lane _ a b lo hi at_ L w hb (((h.resolve_left (fun c => c rfl)).resolve_left h1).resolve_left h2).2
        · rcases Bool.eq_false_or_eq_true s with rfl | rfl
          · exact vmay_57_not _ a b lo hi at_ L w
          · exact vmay_57_lane _ a b lo hi at_ L w hb (((h.resolve_left (fun c => c rfl)).resolve_left h1).resolve_left h2).2
        · rcases Bool.eq_false_or_eq_true s with rfl | rfl
          · exact vmay_58_lane _ a b lo hi at_ L w hb (((h.resolve_left (fun c => c rfl)).resolve_left h1).resolve_left h2).2
          · exact vmay_58_not _ a b lo hi at_ L w
        · rcases Bool.eq_false_or_eq_true s with rfl | rfl
          · exact vmay_59_lane _ a b lo hi at_ L w hb (((h.resolve_left (fun c => c rfl)).resolve_left h1).resolve_left h2).2
          · exact vmay_59_not _ a b lo hi at_ L w
        · rcases Bool.eq_false_or_eq_true s with rfl | rfl
          · exact vmay_5a_lane _ a b lo hi at_ L w hb (((h.resolve_left (fun c => c rfl)).resolve_left h1).resolve_left h2).2
          · exact vmay_5a_not _ a b lo hi at_ L w
        · rcases Bool.eq_false_or_eq_true s with rfl | rfl
          · exact vmay_5b_lane _ a b lo hi at_ L w hb (((h.resolve_left (fun c => c rfl)).resolve_left h1).resolve_left h2).2
          · exact vmay_5b_not _ a b lo hi at_ L w
        · rcases Bool.eq_false_or_eq_true s with rfl | rfl
          · exact vmay_5c_not _ a b lo hi at_ L w
          · exact absurd ((((h.resolve_left (fun c => c rfl)).resolve_left h1).resolve_left h2).1) (by unfold vln; decide)
        · rcases Bool.eq_false_or_eq_true s with rfl | rfl
          · exact vmay_5d_not _ a b lo hi at_ L w
          · exact absurd ((((h.resolve_left (fun c => c rfl)).resolve_left h1).resolve_left h2).1) (by unfold vln; decide)
  · exact vmay_none _ op a b lo hi at_ L s w hr hv
set_option maxRecDepth 100000 in
theorem load_both (o r : MObj) (op a b lo hi at_ : Int) (L : Value) (old : Vec) (hr : -9223372036854775808 ≤ op ∧ op ≤ 9223372036854775807) (hbr : -9223372036854775808 ≤ b ∧ b ≤ 9223372036854775807) (h0 : 0 ≤ lo) (ha : 0 ≤ at_ ∧ at_ < 4294967296) (hn : r.n = o.n) (hβ : r.β = o.β) :
    ∃ (X : Vec) (E : Int), (∀ W, MemAt W o → Calls Try.prog 29 #[.pointer (some ⟨o.p, 0, none⟩), inV op a b lo hi L, .int .u32 at_, .agg (cells old)] W fun e w' => e = .returned (.tuple #[.agg (cells X), .int .i64 E]) ∧ Below W.heap.size W w') ∧ (∀ W, MemAt W r → Calls Try.prog 38 #[.pointer (some ⟨r.p, 0, none⟩), inV op a b lo hi L, .int .u32 at_, .agg (cells old)] W fun e w' => e = .returned (.tuple #[.agg (cells X), .int .i64 E]) ∧ Below W.heap.size W w') := by
  by_cases h : VBad op b lo false
  · exact ⟨0, 1, fun W _ => vload_bad _ op a b lo hi at_ L old W hr h, fun W _ => rload_e _ op a b lo hi at_ L old 1 W (fun W => rerr_bad _ op a b lo hi L false W hr h0 h) rfl⟩
  · have hnr := hn
    clear hn
    have hv : (64768 ≤ op ∧ op ≤ 64779 ∨ 64852 ≤ op ∧ op ≤ 64861) := Decidable.byContradiction fun c => h (.inl c)
    have hs : vst op = false := Decidable.byContradiction fun c => h (.inr (.inl c))
    have hb : 0 ≤ b ∧ b < 4294967296 := ⟨Int.not_lt.1 fun c => h (.inr (.inr (.inl c))), Int.not_le.1 fun c => h (.inr (.inr (.inr (.inl c))))⟩
    have hn : vln op → lo < 16 / vszN op := fun c => Int.not_le.1 fun d => h (.inr (.inr (.inr (.inr ⟨c, d⟩))))
    obtain ⟨A, hA⟩ := Int.eq_ofNat_of_zero_le (show 0 ≤ at_ + b by omega)
    replace hA := hA.symm
    clear h
    rcases vops op hv with rfl | rfl | rfl | rfl | rfl | rfl | rfl | rfl | rfl | rfl | rfl | rfl | rfl | rfl | rfl | rfl | rfl | rfl | rfl | rfl | rfl | rfl
    · by_cases hin : A + 16 ≤ o.n
      · exact ⟨_, 0, fun W hm => vload_00 o old a b lo hi at_ L A W hm ha hb hA hin, fun W hm => hβ ▸ rfload_00 r old a b lo h0 hi at_ L A W hm ha hb hA (by omega)⟩
      · exact ⟨0, 23, fun W hm => vload_00_far o old a b lo hi at_ L A W hm ha hb hA hin, fun W hm => rfload_00_far r old a b lo h0 hi at_ L A W hm ha hb hA (by omega)⟩
    · by_cases hin : A + 8 ≤ o.n
      · exact ⟨_, 0, fun W hm => vload_01 o old a b lo hi at_ L A W hm ha hb hA hin, fun W hm => hβ ▸ rfload_01 r old a b lo h0 hi at_ L A W hm ha hb hA (by omega)⟩
      · exact ⟨0, 23, fun W hm => vload_01_far o old a b lo hi at_ L A W hm ha hb hA hin, fun W hm => rfload_01_far r old a b lo h0 hi at_ L A W hm ha hb hA (by omega)⟩
    · by_cases hin : A + 8 ≤ o.n
      · exact ⟨_, 0, fun W hm => vload_02 o old a b lo hi at_ L A W hm ha hb hA hin, fun W hm => hβ ▸ rfload_02 r old a b lo h0 hi at_ L A W hm ha hb hA (by omega)⟩
      · exact ⟨0, 23, fun W hm => vload_02_far o old a b lo hi at_ L A W hm ha hb hA hin, fun W hm => rfload_02_far r old a b lo h0 hi at_ L A W hm ha hb hA (by omega)⟩
    · by_cases hin : A + 8 ≤ o.n
      · exact ⟨_, 0, fun W hm => vload_03 o old a b lo hi at_ L A W hm ha hb hA hin, fun W hm => hβ ▸ rfload_03 r old a b lo h0 hi at_ L A W hm ha hb hA (by omega)⟩
      · exact ⟨0, 23, fun W hm => vload_03_far o old a b lo hi at_ L A W hm ha hb hA hin, fun W hm => rfload_03_far r old a b lo h0 hi at_ L A W hm ha hb hA (by omega)⟩
    · by_cases hin : A + 8 ≤ o.n
      · exact ⟨_, 0, fun W hm => vload_04 o old a b lo hi at_ L A W hm ha hb hA hin, fun W hm => hβ ▸ rfload_04 r old a b lo h0 hi at_ L A W hm ha hb hA (by omega)⟩
      · exact ⟨0, 23, fun W hm => vload_04_far o old a b lo hi at_ L A W hm ha hb hA hin, fun W hm => rfload_04_far r old a b lo h0 hi at_ L A W hm ha hb hA (by omega)⟩
    · by_cases hin : A + 8 ≤ o.n
      · exact ⟨_, 0, fun W hm => vload_05 o old a b lo hi at_ L A W hm ha hb hA hin, fun W hm => hβ ▸ rfload_05 r old a b lo h0 hi at_ L A W hm ha hb hA (by omega)⟩
      · exact ⟨0, 23, fun W hm => vload_05_far o old a b lo hi at_ L A W hm ha hb hA hin, fun W hm => rfload_05_far r old a b lo h0 hi at_ L A W hm ha hb hA (by omega)⟩
    · by_cases hin : A + 8 ≤ o.n
      · exact ⟨_, 0, fun W hm => vload_06 o old a b lo hi at_ L A W hm ha hb hA hin, fun W hm => hβ ▸ rfload_06 r old a b lo h0 hi at_ L A W hm ha hb hA (by omega)⟩
      · exact ⟨0, 23, fun W hm => vload_06_far o old a b lo hi at_ L A W hm ha hb hA hin, fun W hm => rfload_06_far r old a b lo h0 hi at_ L A W hm ha hb hA (by omega)⟩
    · by_cases hin : A + 1 ≤ o.n
      · exact ⟨_, 0, fun W hm => vload_07 o old a b lo hi at_ L A W hm ha hb hA hin, fun W hm => hβ ▸ rfload_07 r old a b lo h0 hi at_ L A W hm ha hb hA (by omega)⟩
      · exact ⟨0, 23, fun W hm => vload_07_far o old a b lo hi at_ L A W hm ha hb hA hin, fun W hm => rfload_07_far r old a b lo h0 hi at_ L A W hm ha hb hA (by omega)⟩
    · by_cases hin : A + 2 ≤ o.n
      · exact ⟨_, 0, fun W hm => vload_08 o old a b lo hi at_ L A W hm ha hb hA hin, fun W hm => hβ ▸ rfload_08 r old a b lo h0 hi at_ L A W hm ha hb hA (by omega)⟩
      · exact ⟨0, 23, fun W hm => vload_08_far o old a b lo hi at_ L A W hm ha hb hA hin, fun W hm => rfload_08_far r old a b lo h0 hi at_ L A W hm ha hb hA (by omega)⟩
    · by_cases hin : A + 4 ≤ o.n
      · exact ⟨_, 0, fun W hm => vload_09 o old a b lo hi at_ L A W hm ha hb hA hin, fun W hm => hβ ▸ rfload_09 r old a b lo h0 hi at_ L A W hm ha hb hA (by omega)⟩
      · exact ⟨0, 23, fun W hm => vload_09_far o old a b lo hi at_ L A W hm ha hb hA hin, fun W hm => rfload_09_far r old a b lo h0 hi at_ L A W hm ha hb hA (by omega)⟩
    · by_cases hin : A + 8 ≤ o.n
      · exact ⟨_, 0, fun W hm => vload_0a o old a b lo hi at_ L A W hm ha hb hA hin, fun W hm => hβ ▸ rfload_0a r old a b lo h0 hi at_ L A W hm ha hb hA (by omega)⟩
      · exact ⟨0, 23, fun W hm => vload_0a_far o old a b lo hi at_ L A W hm ha hb hA hin, fun W hm => rfload_0a_far r old a b lo h0 hi at_ L A W hm ha hb hA (by omega)⟩
    · exact absurd hs (by decide)
    · have hl : lo < 16 := hn (by unfold vln; decide)
      obtain ⟨l, rfl⟩ := Int.eq_ofNat_of_zero_le h0
      have hl2 : l < 16 := by omega
      by_cases hin : A + 1 ≤ o.n
      · exact ⟨_, 0, fun W hm => vload_54 o old a b l hi at_ L A W hm ha hb hA hl2 hin, fun W hm => hβ ▸ rfload_54 r old a b l hi at_ L A W hm ha hb hA hl2 (by omega)⟩
      · exact ⟨0, 23, fun W hm => vload_54_far o old a b l hi at_ L A W hm ha hb hA hl2 hin, fun W hm => rfload_54_far r old a b l hi at_ L A W hm ha hb hA hl2 (by omega)⟩
    · have hl : lo < 8 := hn (by unfold vln; decide)
      obtain ⟨l, rfl⟩ := Int.eq_ofNat_of_zero_le h0
      have hl2 : l < 8 := by omega
      by_cases hin : A + 2 ≤ o.n
      · exact ⟨_, 0, fun W hm => vload_55 o old a b l hi at_ L A W hm ha hb hA hl2 hin, fun W hm => hβ ▸ rfload_55 r old a b l hi at_ L A W hm ha hb hA hl2 (by omega)⟩
      · exact ⟨0, 23, fun W hm => vload_55_far o old a b l hi at_ L A W hm ha hb hA hl2 hin, fun W hm => rfload_55_far r old a b l hi at_ L A W hm ha hb hA hl2 (by omega)⟩
    · have hl : lo < 4 := hn (by unfold vln; decide)
      obtain ⟨l, rfl⟩ := Int.eq_ofNat_of_zero_le h0
      have hl2 : l < 4 := by omega
      by_cases hin : A + 4 ≤ o.n
      · exact ⟨_, 0, fun W hm => vload_56 o old a b l hi at_ L A W hm ha hb hA hl2 hin, fun W hm => hβ ▸ rfload_56 r old a b l hi at_ L A W hm ha hb hA hl2 (by omega)⟩
      · exact ⟨0, 23, fun W hm => vload_56_far o old a b l hi at_ L A W hm ha hb hA hl2 hin, fun W hm => rfload_56_far r old a b l hi at_ L A W hm ha hb hA hl2 (by omega)⟩
    · have hl : lo < 2 := hn (by unfold vln; decide)
      obtain ⟨l, rfl⟩ := Int.eq_ofNat_of_zero_le h0
      have hl2 : l < 2 := by omega
      by_cases hin : A + 8 ≤ o.n
      · exact ⟨_, 0, fun W hm => vload_57 o old a b l hi at_ L A W hm ha hb hA hl2 hin, fun W hm => hβ ▸ rfload_57 r old a b l hi at_ L A W hm ha hb hA hl2 (by omega)⟩
      · exact ⟨0, 23, fun W hm => vload_57_far o old a b l hi at_ L A W hm ha hb hA hl2 hin, fun W hm => rfload_57_far r old a b l hi at_ L A W hm ha hb hA hl2 (by omega)⟩
    · exact absurd hs (by decide)
    · exact absurd hs (by decide)
    · exact absurd hs (by decide)
    · exact absurd hs (by decide)
    · by_cases hin : A + 4 ≤ o.n
      · exact ⟨_, 0, fun W hm => vload_5c o old a b lo hi at_ L A W hm ha hb hA hin, fun W hm => hβ ▸ rfload_5c r old a b lo h0 hi at_ L A W hm ha hb hA (by omega)⟩
      · exact ⟨0, 23, fun W hm => vload_5c_far o old a b lo hi at_ L A W hm ha hb hA hin, fun W hm => rfload_5c_far r old a b lo h0 hi at_ L A W hm ha hb hA (by omega)⟩
    · by_cases hin : A + 8 ≤ o.n
      · exact ⟨_, 0, fun W hm => vload_5d o old a b lo hi at_ L A W hm ha hb hA hin, fun W hm => hβ ▸ rfload_5d r old a b lo h0 hi at_ L A W hm ha hb hA (by omega)⟩
      · exact ⟨0, 23, fun W hm => vload_5d_far o old a b lo hi at_ L A W hm ha hb hA hin, fun W hm => rfload_5d_far r old a b lo h0 hi at_ L A W hm ha hb hA (by omega)⟩

set_option maxRecDepth 100000 in
theorem store_both (o r : MObj) (op a b lo hi at_ : Int) (L : Value) (v : Vec) (hr : -9223372036854775808 ≤ op ∧ op ≤ 9223372036854775807) (hbr : -9223372036854775808 ≤ b ∧ b ≤ 9223372036854775807) (h0 : 0 ≤ lo) (ha : 0 ≤ at_ ∧ at_ < 4294967296) (hn : r.n = o.n) (hβ : r.β = o.β) :
    ∃ (E : Int) (γ : Nat → Nat), (∀ W, MemAt W o → Calls Try.prog 28 #[.pointer (some ⟨o.p, 0, none⟩), inV op a b lo hi L, .int .u32 at_, .agg (cells v)] W fun e w' => e = .returned (.int .i64 E) ∧ MemAt w' (withβ o γ) ∧ Keep (fun k => o.q = some k) W w') ∧ (∀ W, MemAt W r → Calls Try.prog 39 #[.pointer (some ⟨r.p, 0, none⟩), inV op a b lo hi L, .int .u32 at_, .agg (cells v)] W fun e w' => e = .returned (.int .i64 E) ∧ MemAt w' (withβ r γ) ∧ Keep (fun k => r.q = some k) W w') := by
  by_cases h : VBad op b lo true
  · exact ⟨1, o.β, fun W hm => (vstore_bad _ op a b lo hi at_ L v W hr h).mono fun e w' ⟨h1, h2⟩ => ⟨h1, hm.below h2, Keep.of_below h2⟩, fun W hm => (rstore_e _ op a b lo hi at_ L v 1 W (fun W => rerr_bad _ op a b lo hi L true W hr h0 h) rfl).mono fun e w' ⟨h1, h2⟩ => ⟨h1, hβ ▸ hm.below h2, Keep.of_below h2⟩⟩
  · have hnr := hn
    clear hn
    have hv : (64768 ≤ op ∧ op ≤ 64779 ∨ 64852 ≤ op ∧ op ≤ 64861) := Decidable.byContradiction fun c => h (.inl c)
    have hs : vst op = true := Decidable.byContradiction fun c => h (.inr (.inl c))
    have hb : 0 ≤ b ∧ b < 4294967296 := ⟨Int.not_lt.1 fun c => h (.inr (.inr (.inl c))), Int.not_le.1 fun c => h (.inr (.inr (.inr (.inl c))))⟩
    have hn : vln op → lo < 16 / vszN op := fun c => Int.not_le.1 fun d => h (.inr (.inr (.inr (.inr ⟨c, d⟩))))
    obtain ⟨A, hA⟩ := Int.eq_ofNat_of_zero_le (show 0 ≤ at_ + b by omega)
    replace hA := hA.symm
    clear h
    rcases vops op hv with rfl | rfl | rfl | rfl | rfl | rfl | rfl | rfl | rfl | rfl | rfl | rfl | rfl | rfl | rfl | rfl | rfl | rfl | rfl | rfl | rfl | rfl
    · exact absurd hs (by decide)
    · exact absurd hs (by decide)
    · exact absurd hs (by decide)
    · exact absurd hs (by decide)
    · exact absurd hs (by decide)
    · exact absurd hs (by decide)
    · exact absurd hs (by decide)
    · exact absurd hs (by decide)
    · exact absurd hs (by decide)
    · exact absurd hs (by decide)
    · exact absurd hs (by decide)
    · by_cases hin : A + 16 ≤ o.n
      · exact ⟨0, _, fun W hm => vstore_0b o v a b lo hi at_ L A W hm ha hb hA hin, fun W hm => (rfstore_0b r v a b lo h0 hi at_ L A W hm ha hb hA (by omega)).mono fun e w' ⟨h1, h2, h3⟩ => ⟨h1, by rw [hβ] at h2; rw [store16]; exact h2, h3⟩⟩
      · exact ⟨23, o.β, fun W hm => (vstore_0b_far o v a b lo hi at_ L A W hm ha hb hA hin).mono fun e w' ⟨h1, h2⟩ => ⟨h1, hm.below h2, Keep.of_below h2⟩, fun W hm => (rfstore_0b_far r v a b lo h0 hi at_ L A W hm ha hb hA (by omega)).mono fun e w' ⟨h1, h2⟩ => ⟨h1, hβ ▸ hm.below h2, Keep.of_below h2⟩⟩
    · exact absurd hs (by decide)
    · exact absurd hs (by decide)
    · exact absurd hs (by decide)
    · exact absurd hs (by decide)
    · have hl : lo < 16 := hn (by unfold vln; decide)
      obtain ⟨l, rfl⟩ := Int.eq_ofNat_of_zero_le h0
      have hl2 : l < 16 := by omega
      by_cases hin : A + 1 ≤ o.n
      · exact ⟨0, _, fun W hm => vstore_58 o v a b l hi at_ L A W hm ha hb hA hl2 hin, fun W hm => (rfstore_58 r v a b l hi at_ L A W hm ha hb hA hl2 (by omega)).mono fun e w' ⟨h1, h2, h3⟩ => ⟨h1, by rw [hβ] at h2; exact h2, h3⟩⟩
      · exact ⟨23, o.β, fun W hm => (vstore_58_far o v a b l hi at_ L A W hm ha hb hA hl2 hin).mono fun e w' ⟨h1, h2⟩ => ⟨h1, hm.below h2, Keep.of_below h2⟩, fun W hm => (rfstore_58_far r v a b l hi at_ L A W hm ha hb hA hl2 (by omega)).mono fun e w' ⟨h1, h2⟩ => ⟨h1, hβ ▸ hm.below h2, Keep.of_below h2⟩⟩
    · have hl : lo < 8 := hn (by unfold vln; decide)
      obtain ⟨l, rfl⟩ := Int.eq_ofNat_of_zero_le h0
      have hl2 : l < 8 := by omega
      by_cases hin : A + 2 ≤ o.n
      · exact ⟨0, _, fun W hm => vstore_59 o v a b l hi at_ L A W hm ha hb hA hl2 hin, fun W hm => (rfstore_59 r v a b l hi at_ L A W hm ha hb hA hl2 (by omega)).mono fun e w' ⟨h1, h2, h3⟩ => ⟨h1, by rw [hβ] at h2; exact h2, h3⟩⟩
      · exact ⟨23, o.β, fun W hm => (vstore_59_far o v a b l hi at_ L A W hm ha hb hA hl2 hin).mono fun e w' ⟨h1, h2⟩ => ⟨h1, hm.below h2, Keep.of_below h2⟩, fun W hm => (rfstore_59_far r v a b l hi at_ L A W hm ha hb hA hl2 (by omega)).mono fun e w' ⟨h1, h2⟩ => ⟨h1, hβ ▸ hm.below h2, Keep.of_below h2⟩⟩
    · have hl : lo < 4 := hn (by unfold vln; decide)
      obtain ⟨l, rfl⟩ := Int.eq_ofNat_of_zero_le h0
      have hl2 : l < 4 := by omega
      by_cases hin : A + 4 ≤ o.n
      · exact ⟨0, _, fun W hm => vstore_5a o v a b l hi at_ L A W hm ha hb hA hl2 hin, fun W hm => (rfstore_5a r v a b l hi at_ L A W hm ha hb hA hl2 (by omega)).mono fun e w' ⟨h1, h2, h3⟩ => ⟨h1, by rw [hβ] at h2; exact h2, h3⟩⟩
      · exact ⟨23, o.β, fun W hm => (vstore_5a_far o v a b l hi at_ L A W hm ha hb hA hl2 hin).mono fun e w' ⟨h1, h2⟩ => ⟨h1, hm.below h2, Keep.of_below h2⟩, fun W hm => (rfstore_5a_far r v a b l hi at_ L A W hm ha hb hA hl2 (by omega)).mono fun e w' ⟨h1, h2⟩ => ⟨h1, hβ ▸ hm.below h2, Keep.of_below h2⟩⟩
    · have hl : lo < 2 := hn (by unfold vln; decide)
      obtain ⟨l, rfl⟩ := Int.eq_ofNat_of_zero_le h0
      have hl2 : l < 2 := by omega
      by_cases hin : A + 8 ≤ o.n
      · exact ⟨0, _, fun W hm => vstore_5b o v a b l hi at_ L A W hm ha hb hA hl2 hin, fun W hm => (rfstore_5b r v a b l hi at_ L A W hm ha hb hA hl2 (by omega)).mono fun e w' ⟨h1, h2, h3⟩ => ⟨h1, by rw [hβ] at h2; exact h2, h3⟩⟩
      · exact ⟨23, o.β, fun W hm => (vstore_5b_far o v a b l hi at_ L A W hm ha hb hA hl2 hin).mono fun e w' ⟨h1, h2⟩ => ⟨h1, hm.below h2, Keep.of_below h2⟩, fun W hm => (rfstore_5b_far r v a b l hi at_ L A W hm ha hb hA hl2 (by omega)).mono fun e w' ⟨h1, h2⟩ => ⟨h1, hβ ▸ hm.below h2, Keep.of_below h2⟩⟩
    · exact absurd hs (by decide)
    · exact absurd hs (by decide)

theorem loadnil_both (op a b lo hi at_ : Int) (L : Value) (old : Vec) (hr : -9223372036854775808 ≤ op ∧ op ≤ 9223372036854775807) (h0 : 0 ≤ lo) :
    ∃ E : Int, (∀ W, Calls Try.prog 29 #[.pointer none, inV op a b lo hi L, .int .u32 at_, .agg (cells old)] W fun e w' => e = .returned (.tuple #[.agg (cells 0), .int .i64 E]) ∧ Below W.heap.size W w') ∧ (∀ W, Calls Try.prog 38 #[.pointer none, inV op a b lo hi L, .int .u32 at_, .agg (cells old)] W fun e w' => e = .returned (.tuple #[.agg (cells 0), .int .i64 E]) ∧ Below W.heap.size W w') := by
  by_cases h : VBad op b lo false
  · exact ⟨1, fun W => vload_e _ op a b lo hi at_ L old 1 W (fun W => vmay_badp _ op a b lo hi at_ L false W hr h) rfl, fun W => rload_e _ op a b lo hi at_ L old 1 W (fun W => rerr_bad _ op a b lo hi L false W hr h0 h) rfl⟩
  · exact ⟨2, fun W => vload_e _ op a b lo hi at_ L old 2 W (fun W => vmay_nilE op a b lo hi at_ L false W hr h0 h) rfl, fun W => rload_e _ op a b lo hi at_ L old 2 W (fun W => rerr_nil op a b lo hi L false W hr h0 h) rfl⟩
theorem storenil_both (op a b lo hi at_ : Int) (L : Value) (v : Vec) (hr : -9223372036854775808 ≤ op ∧ op ≤ 9223372036854775807) (h0 : 0 ≤ lo) :
    ∃ E : Int, (∀ W, Calls Try.prog 28 #[.pointer none, inV op a b lo hi L, .int .u32 at_, .agg (cells v)] W fun e w' => e = .returned (.int .i64 E) ∧ Below W.heap.size W w') ∧ (∀ W, Calls Try.prog 39 #[.pointer none, inV op a b lo hi L, .int .u32 at_, .agg (cells v)] W fun e w' => e = .returned (.int .i64 E) ∧ Below W.heap.size W w') := by
  by_cases h : VBad op b lo true
  · exact ⟨1, fun W => vstore_e _ op a b lo hi at_ L v 1 W (fun W => vmay_badp _ op a b lo hi at_ L true W hr h) rfl, fun W => rstore_e _ op a b lo hi at_ L v 1 W (fun W => rerr_bad _ op a b lo hi L true W hr h0 h) rfl⟩
  · exact ⟨2, fun W => vstore_e _ op a b lo hi at_ L v 2 W (fun W => vmay_nilE op a b lo hi at_ L true W hr h0 h) rfl, fun W => rstore_e _ op a b lo hi at_ L v 2 W (fun W => rerr_nil op a b lo hi L true W hr h0 h) rfl⟩
end Go.Proofs.Ytlcndenbnokcjaa
