/-
  vmem: the numbers of bytes, and the errors ahead of an access.
-/
import Derived.Test.YtlcndenbnokcjaaMemE
set_option linter.unusedSimpArgs false
set_option linter.unusedVariables false
namespace Go.Proofs.Ytlcndenbnokcjaa
open Go.RowKit Pl

/-- An instruction as a value. -/
abbrev inV (op a b lo hi : Int) (L : Value) : Value := .agg #[.int .i64 op, .int .i64 a, .int .i64 b, .int .u64 lo, .int .u64 hi, L]

theorem vsize_00 (w : World) : Calls Try.prog 34 #[.int .i64 64768] w fun e w' => e = .returned (.int .i64 16) ∧ w' = w := by
  go_enter Try.func34, Try.ntmps34
  go_wp2
  go_ret
  exact ⟨rfl, rfl⟩
theorem vmay_00 (p : Addr) (a b lo hi at_ : Int) (L : Value) (w : World) (ha : 0 ≤ at_ ∧ at_ < 4294967296) (hb : 0 ≤ b ∧ b < 4294967296)  :
    Calls Try.prog 50 #[.pointer (some p), inV 64768 a b lo hi L, .int .u32 at_, .bool false] w fun e w' => e = .returned (.tuple #[.int .u64 (at_ + b), .int .i64 0]) ∧ Below w.heap.size w w' := by
  have HS := Lib.hid (fun W => vsize_00 W)
  go_enter Try.func50, Try.ntmps50
  go_wp2_with (go_at_call 34; (with_reducible refine (HS.out _).mono ?_); rintro e u ⟨rfl, rfl⟩)
  go_region
  go_wp2_with fail
  go_ret2
  exact ⟨rfl, ((Below.refl _ _).alloc (Nat.le_refl _) _).drew⟩

theorem vsize_01 (w : World) : Calls Try.prog 34 #[.int .i64 64769] w fun e w' => e = .returned (.int .i64 8) ∧ w' = w := by
  go_enter Try.func34, Try.ntmps34
  go_wp2
  go_ret
  exact ⟨rfl, rfl⟩
theorem vmay_01 (p : Addr) (a b lo hi at_ : Int) (L : Value) (w : World) (ha : 0 ≤ at_ ∧ at_ < 4294967296) (hb : 0 ≤ b ∧ b < 4294967296)  :
    Calls Try.prog 50 #[.pointer (some p), inV 64769 a b lo hi L, .int .u32 at_, .bool false] w fun e w' => e = .returned (.tuple #[.int .u64 (at_ + b), .int .i64 0]) ∧ Below w.heap.size w w' := by
  have HS := Lib.hid (fun W => vsize_01 W)
  go_enter Try.func50, Try.ntmps50
  go_wp2_with (go_at_call 34; (with_reducible refine (HS.out _).mono ?_); rintro e u ⟨rfl, rfl⟩)
  go_region
  go_wp2_with fail
  go_ret2
  exact ⟨rfl, ((Below.refl _ _).alloc (Nat.le_refl _) _).drew⟩

theorem vsize_02 (w : World) : Calls Try.prog 34 #[.int .i64 64770] w fun e w' => e = .returned (.int .i64 8) ∧ w' = w := by
  go_enter Try.func34, Try.ntmps34
  go_wp2
  go_ret
  exact ⟨rfl, rfl⟩
theorem vmay_02 (p : Addr) (a b lo hi at_ : Int) (L : Value) (w : World) (ha : 0 ≤ at_ ∧ at_ < 4294967296) (hb : 0 ≤ b ∧ b < 4294967296)  :
    Calls Try.prog 50 #[.pointer (some p), inV 64770 a b lo hi L, .int .u32 at_, .bool false] w fun e w' => e = .returned (.tuple #[.int .u64 (at_ + b), .int .i64 0]) ∧ Below w.heap.size w w' := by
  have HS := Lib.hid (fun W => vsize_02 W)
  go_enter Try.func50, Try.ntmps50
  go_wp2_with (go_at_call 34; (with_reducible refine (HS.out _).mono ?_); rintro e u ⟨rfl, rfl⟩)
  go_region
  go_wp2_with fail
  go_ret2
  exact ⟨rfl, ((Below.refl _ _).alloc (Nat.le_refl _) _).drew⟩

theorem vsize_03 (w : World) : Calls Try.prog 34 #[.int .i64 64771] w fun e w' => e = .returned (.int .i64 8) ∧ w' = w := by
  go_enter Try.func34, Try.ntmps34
  go_wp2
  go_ret
  exact ⟨rfl, rfl⟩
theorem vmay_03 (p : Addr) (a b lo hi at_ : Int) (L : Value) (w : World) (ha : 0 ≤ at_ ∧ at_ < 4294967296) (hb : 0 ≤ b ∧ b < 4294967296)  :
    Calls Try.prog 50 #[.pointer (some p), inV 64771 a b lo hi L, .int .u32 at_, .bool false] w fun e w' => e = .returned (.tuple #[.int .u64 (at_ + b), .int .i64 0]) ∧ Below w.heap.size w w' := by
  have HS := Lib.hid (fun W => vsize_03 W)
  go_enter Try.func50, Try.ntmps50
  go_wp2_with (go_at_call 34; (with_reducible refine (HS.out _).mono ?_); rintro e u ⟨rfl, rfl⟩)
  go_region
  go_wp2_with fail
  go_ret2
  exact ⟨rfl, ((Below.refl _ _).alloc (Nat.le_refl _) _).drew⟩

theorem vsize_04 (w : World) : Calls Try.prog 34 #[.int .i64 64772] w fun e w' => e = .returned (.int .i64 8) ∧ w' = w := by
  go_enter Try.func34, Try.ntmps34
  go_wp2
  go_ret
  exact ⟨rfl, rfl⟩
theorem vmay_04 (p : Addr) (a b lo hi at_ : Int) (L : Value) (w : World) (ha : 0 ≤ at_ ∧ at_ < 4294967296) (hb : 0 ≤ b ∧ b < 4294967296)  :
    Calls Try.prog 50 #[.pointer (some p), inV 64772 a b lo hi L, .int .u32 at_, .bool false] w fun e w' => e = .returned (.tuple #[.int .u64 (at_ + b), .int .i64 0]) ∧ Below w.heap.size w w' := by
  have HS := Lib.hid (fun W => vsize_04 W)
  go_enter Try.func50, Try.ntmps50
  go_wp2_with (go_at_call 34; (with_reducible refine (HS.out _).mono ?_); rintro e u ⟨rfl, rfl⟩)
  go_region
  go_wp2_with fail
  go_ret2
  exact ⟨rfl, ((Below.refl _ _).alloc (Nat.le_refl _) _).drew⟩

theorem vsize_05 (w : World) : Calls Try.prog 34 #[.int .i64 64773] w fun e w' => e = .returned (.int .i64 8) ∧ w' = w := by
  go_enter Try.func34, Try.ntmps34
  go_wp2
  go_ret
  exact ⟨rfl, rfl⟩
theorem vmay_05 (p : Addr) (a b lo hi at_ : Int) (L : Value) (w : World) (ha : 0 ≤ at_ ∧ at_ < 4294967296) (hb : 0 ≤ b ∧ b < 4294967296)  :
    Calls Try.prog 50 #[.pointer (some p), inV 64773 a b lo hi L, .int .u32 at_, .bool false] w fun e w' => e = .returned (.tuple #[.int .u64 (at_ + b), .int .i64 0]) ∧ Below w.heap.size w w' := by
  have HS := Lib.hid (fun W => vsize_05 W)
  go_enter Try.func50, Try.ntmps50
  go_wp2_with (go_at_call 34; (with_reducible refine (HS.out _).mono ?_); rintro e u ⟨rfl, rfl⟩)
  go_region
  go_wp2_with fail
  go_ret2
  exact ⟨rfl, ((Below.refl _ _).alloc (Nat.le_refl _) _).drew⟩

theorem vsize_06 (w : World) : Calls Try.prog 34 #[.int .i64 64774] w fun e w' => e = .returned (.int .i64 8) ∧ w' = w := by
  go_enter Try.func34, Try.ntmps34
  go_wp2
  go_ret
  exact ⟨rfl, rfl⟩
theorem vmay_06 (p : Addr) (a b lo hi at_ : Int) (L : Value) (w : World) (ha : 0 ≤ at_ ∧ at_ < 4294967296) (hb : 0 ≤ b ∧ b < 4294967296)  :
    Calls Try.prog 50 #[.pointer (some p), inV 64774 a b lo hi L, .int .u32 at_, .bool false] w fun e w' => e = .returned (.tuple #[.int .u64 (at_ + b), .int .i64 0]) ∧ Below w.heap.size w w' := by
  have HS := Lib.hid (fun W => vsize_06 W)
  go_enter Try.func50, Try.ntmps50
  go_wp2_with (go_at_call 34; (with_reducible refine (HS.out _).mono ?_); rintro e u ⟨rfl, rfl⟩)
  go_region
  go_wp2_with fail
  go_ret2
  exact ⟨rfl, ((Below.refl _ _).alloc (Nat.le_refl _) _).drew⟩

theorem vsize_07 (w : World) : Calls Try.prog 34 #[.int .i64 64775] w fun e w' => e = .returned (.int .i64 1) ∧ w' = w := by
  go_enter Try.func34, Try.ntmps34
  go_wp2
  go_ret
  exact ⟨rfl, rfl⟩
theorem vmay_07 (p : Addr) (a b lo hi at_ : Int) (L : Value) (w : World) (ha : 0 ≤ at_ ∧ at_ < 4294967296) (hb : 0 ≤ b ∧ b < 4294967296)  :
    Calls Try.prog 50 #[.pointer (some p), inV 64775 a b lo hi L, .int .u32 at_, .bool false] w fun e w' => e = .returned (.tuple #[.int .u64 (at_ + b), .int .i64 0]) ∧ Below w.heap.size w w' := by
  have HS := Lib.hid (fun W => vsize_07 W)
  go_enter Try.func50, Try.ntmps50
  go_wp2_with (go_at_call 34; (with_reducible refine (HS.out _).mono ?_); rintro e u ⟨rfl, rfl⟩)
  go_region
  go_wp2_with fail
  go_ret2
  exact ⟨rfl, ((Below.refl _ _).alloc (Nat.le_refl _) _).drew⟩

theorem vsize_08 (w : World) : Calls Try.prog 34 #[.int .i64 64776] w fun e w' => e = .returned (.int .i64 2) ∧ w' = w := by
  go_enter Try.func34, Try.ntmps34
  go_wp2
  go_ret
  exact ⟨rfl, rfl⟩
theorem vmay_08 (p : Addr) (a b lo hi at_ : Int) (L : Value) (w : World) (ha : 0 ≤ at_ ∧ at_ < 4294967296) (hb : 0 ≤ b ∧ b < 4294967296)  :
    Calls Try.prog 50 #[.pointer (some p), inV 64776 a b lo hi L, .int .u32 at_, .bool false] w fun e w' => e = .returned (.tuple #[.int .u64 (at_ + b), .int .i64 0]) ∧ Below w.heap.size w w' := by
  have HS := Lib.hid (fun W => vsize_08 W)
  go_enter Try.func50, Try.ntmps50
  go_wp2_with (go_at_call 34; (with_reducible refine (HS.out _).mono ?_); rintro e u ⟨rfl, rfl⟩)
  go_region
  go_wp2_with fail
  go_ret2
  exact ⟨rfl, ((Below.refl _ _).alloc (Nat.le_refl _) _).drew⟩

theorem vsize_09 (w : World) : Calls Try.prog 34 #[.int .i64 64777] w fun e w' => e = .returned (.int .i64 4) ∧ w' = w := by
  go_enter Try.func34, Try.ntmps34
  go_wp2
  go_ret
  exact ⟨rfl, rfl⟩
theorem vmay_09 (p : Addr) (a b lo hi at_ : Int) (L : Value) (w : World) (ha : 0 ≤ at_ ∧ at_ < 4294967296) (hb : 0 ≤ b ∧ b < 4294967296)  :
    Calls Try.prog 50 #[.pointer (some p), inV 64777 a b lo hi L, .int .u32 at_, .bool false] w fun e w' => e = .returned (.tuple #[.int .u64 (at_ + b), .int .i64 0]) ∧ Below w.heap.size w w' := by
  have HS := Lib.hid (fun W => vsize_09 W)
  go_enter Try.func50, Try.ntmps50
  go_wp2_with (go_at_call 34; (with_reducible refine (HS.out _).mono ?_); rintro e u ⟨rfl, rfl⟩)
  go_region
  go_wp2_with fail
  go_ret2
  exact ⟨rfl, ((Below.refl _ _).alloc (Nat.le_refl _) _).drew⟩

theorem vsize_0a (w : World) : Calls Try.prog 34 #[.int .i64 64778] w fun e w' => e = .returned (.int .i64 8) ∧ w' = w := by
  go_enter Try.func34, Try.ntmps34
  go_wp2
  go_ret
  exact ⟨rfl, rfl⟩
theorem vmay_0a (p : Addr) (a b lo hi at_ : Int) (L : Value) (w : World) (ha : 0 ≤ at_ ∧ at_ < 4294967296) (hb : 0 ≤ b ∧ b < 4294967296)  :
    Calls Try.prog 50 #[.pointer (some p), inV 64778 a b lo hi L, .int .u32 at_, .bool false] w fun e w' => e = .returned (.tuple #[.int .u64 (at_ + b), .int .i64 0]) ∧ Below w.heap.size w w' := by
  have HS := Lib.hid (fun W => vsize_0a W)
  go_enter Try.func50, Try.ntmps50
  go_wp2_with (go_at_call 34; (with_reducible refine (HS.out _).mono ?_); rintro e u ⟨rfl, rfl⟩)
  go_region
  go_wp2_with fail
  go_ret2
  exact ⟨rfl, ((Below.refl _ _).alloc (Nat.le_refl _) _).drew⟩

theorem vsize_0b (w : World) : Calls Try.prog 34 #[.int .i64 64779] w fun e w' => e = .returned (.int .i64 16) ∧ w' = w := by
  go_enter Try.func34, Try.ntmps34
  go_wp2
  go_ret
  exact ⟨rfl, rfl⟩
theorem vmay_0b (p : Addr) (a b lo hi at_ : Int) (L : Value) (w : World) (ha : 0 ≤ at_ ∧ at_ < 4294967296) (hb : 0 ≤ b ∧ b < 4294967296)  :
    Calls Try.prog 50 #[.pointer (some p), inV 64779 a b lo hi L, .int .u32 at_, .bool true] w fun e w' => e = .returned (.tuple #[.int .u64 (at_ + b), .int .i64 0]) ∧ Below w.heap.size w w' := by
  have HS := Lib.hid (fun W => vsize_0b W)
  go_enter Try.func50, Try.ntmps50
  go_wp2_with (go_at_call 34; (with_reducible refine (HS.out _).mono ?_); rintro e u ⟨rfl, rfl⟩)
  go_region
  go_wp2_with fail
  go_ret2
  exact ⟨rfl, ((Below.refl _ _).alloc (Nat.le_refl _) _).drew⟩

theorem vsize_54 (w : World) : Calls Try.prog 34 #[.int .i64 64852] w fun e w' => e = .returned (.int .i64 1) ∧ w' = w := by
  go_enter Try.func34, Try.ntmps34
  go_wp2
  go_ret
  exact ⟨rfl, rfl⟩
theorem vmay_54 (p : Addr) (a b lo hi at_ : Int) (L : Value) (w : World) (ha : 0 ≤ at_ ∧ at_ < 4294967296) (hb : 0 ≤ b ∧ b < 4294967296) (hl : 0 ≤ lo ∧ lo < 16) :
    Calls Try.prog 50 #[.pointer (some p), inV 64852 a b lo hi L, .int .u32 at_, .bool false] w fun e w' => e = .returned (.tuple #[.int .u64 (at_ + b), .int .i64 0]) ∧ Below w.heap.size w w' := by
  have HS := Lib.hid (fun W => vsize_54 W)
  go_enter Try.func50, Try.ntmps50
  go_wp2_with (go_at_call 34; (with_reducible refine (HS.out _).mono ?_); rintro e u ⟨rfl, rfl⟩)
  go_region
  go_wp2_with fail
  go_ret2
  exact ⟨rfl, ((Below.refl _ _).alloc (Nat.le_refl _) _).drew⟩

theorem vsize_55 (w : World) : Calls Try.prog 34 #[.int .i64 64853] w fun e w' => e = .returned (.int .i64 2) ∧ w' = w := by
  go_enter Try.func34, Try.ntmps34
  go_wp2
  go_ret
  exact ⟨rfl, rfl⟩
theorem vmay_55 (p : Addr) (a b lo hi at_ : Int) (L : Value) (w : World) (ha : 0 ≤ at_ ∧ at_ < 4294967296) (hb : 0 ≤ b ∧ b < 4294967296) (hl : 0 ≤ lo ∧ lo < 8) :
    Calls Try.prog 50 #[.pointer (some p), inV 64853 a b lo hi L, .int .u32 at_, .bool false] w fun e w' => e = .returned (.tuple #[.int .u64 (at_ + b), .int .i64 0]) ∧ Below w.heap.size w w' := by
  have HS := Lib.hid (fun W => vsize_55 W)
  go_enter Try.func50, Try.ntmps50
  go_wp2_with (go_at_call 34; (with_reducible refine (HS.out _).mono ?_); rintro e u ⟨rfl, rfl⟩)
  go_region
  go_wp2_with fail
  go_ret2
  exact ⟨rfl, ((Below.refl _ _).alloc (Nat.le_refl _) _).drew⟩

theorem vsize_56 (w : World) : Calls Try.prog 34 #[.int .i64 64854] w fun e w' => e = .returned (.int .i64 4) ∧ w' = w := by
  go_enter Try.func34, Try.ntmps34
  go_wp2
  go_ret
  exact ⟨rfl, rfl⟩
theorem vmay_56 (p : Addr) (a b lo hi at_ : Int) (L : Value) (w : World) (ha : 0 ≤ at_ ∧ at_ < 4294967296) (hb : 0 ≤ b ∧ b < 4294967296) (hl : 0 ≤ lo ∧ lo < 4) :
    Calls Try.prog 50 #[.pointer (some p), inV 64854 a b lo hi L, .int .u32 at_, .bool false] w fun e w' => e = .returned (.tuple #[.int .u64 (at_ + b), .int .i64 0]) ∧ Below w.heap.size w w' := by
  have HS := Lib.hid (fun W => vsize_56 W)
  go_enter Try.func50, Try.ntmps50
  go_wp2_with (go_at_call 34; (with_reducible refine (HS.out _).mono ?_); rintro e u ⟨rfl, rfl⟩)
  go_region
  go_wp2_with fail
  go_ret2
  exact ⟨rfl, ((Below.refl _ _).alloc (Nat.le_refl _) _).drew⟩

theorem vsize_57 (w : World) : Calls Try.prog 34 #[.int .i64 64855] w fun e w' => e = .returned (.int .i64 8) ∧ w' = w := by
  go_enter Try.func34, Try.ntmps34
  go_wp2
  go_ret
  exact ⟨rfl, rfl⟩
theorem vmay_57 (p : Addr) (a b lo hi at_ : Int) (L : Value) (w : World) (ha : 0 ≤ at_ ∧ at_ < 4294967296) (hb : 0 ≤ b ∧ b < 4294967296) (hl : 0 ≤ lo ∧ lo < 2) :
    Calls Try.prog 50 #[.pointer (some p), inV 64855 a b lo hi L, .int .u32 at_, .bool false] w fun e w' => e = .returned (.tuple #[.int .u64 (at_ + b), .int .i64 0]) ∧ Below w.heap.size w w' := by
  have HS := Lib.hid (fun W => vsize_57 W)
  go_enter Try.func50, Try.ntmps50
  go_wp2_with (go_at_call 34; (with_reducible refine (HS.out _).mono ?_); rintro e u ⟨rfl, rfl⟩)
  go_region
  go_wp2_with fail
  go_ret2
  exact ⟨rfl, ((Below.refl _ _).alloc (Nat.le_refl _) _).drew⟩

theorem vsize_58 (w : World) : Calls Try.prog 34 #[.int .i64 64856] w fun e w' => e = .returned (.int .i64 1) ∧ w' = w := by
  go_enter Try.func34, Try.ntmps34
  go_wp2
  go_ret
  exact ⟨rfl, rfl⟩
theorem vmay_58 (p : Addr) (a b lo hi at_ : Int) (L : Value) (w : World) (ha : 0 ≤ at_ ∧ at_ < 4294967296) (hb : 0 ≤ b ∧ b < 4294967296) (hl : 0 ≤ lo ∧ lo < 16) :
    Calls Try.prog 50 #[.pointer (some p), inV 64856 a b lo hi L, .int .u32 at_, .bool true] w fun e w' => e = .returned (.tuple #[.int .u64 (at_ + b), .int .i64 0]) ∧ Below w.heap.size w w' := by
  have HS := Lib.hid (fun W => vsize_58 W)
  go_enter Try.func50, Try.ntmps50
  go_wp2_with (go_at_call 34; (with_reducible refine (HS.out _).mono ?_); rintro e u ⟨rfl, rfl⟩)
  go_region
  go_wp2_with fail
  go_ret2
  exact ⟨rfl, ((Below.refl _ _).alloc (Nat.le_refl _) _).drew⟩

theorem vsize_59 (w : World) : Calls Try.prog 34 #[.int .i64 64857] w fun e w' => e = .returned (.int .i64 2) ∧ w' = w := by
  go_enter Try.func34, Try.ntmps34
  go_wp2
  go_ret
  exact ⟨rfl, rfl⟩
theorem vmay_59 (p : Addr) (a b lo hi at_ : Int) (L : Value) (w : World) (ha : 0 ≤ at_ ∧ at_ < 4294967296) (hb : 0 ≤ b ∧ b < 4294967296) (hl : 0 ≤ lo ∧ lo < 8) :
    Calls Try.prog 50 #[.pointer (some p), inV 64857 a b lo hi L, .int .u32 at_, .bool true] w fun e w' => e = .returned (.tuple #[.int .u64 (at_ + b), .int .i64 0]) ∧ Below w.heap.size w w' := by
  have HS := Lib.hid (fun W => vsize_59 W)
  go_enter Try.func50, Try.ntmps50
  go_wp2_with (go_at_call 34; (with_reducible refine (HS.out _).mono ?_); rintro e u ⟨rfl, rfl⟩)
  go_region
  go_wp2_with fail
  go_ret2
  exact ⟨rfl, ((Below.refl _ _).alloc (Nat.le_refl _) _).drew⟩

theorem vsize_5a (w : World) : Calls Try.prog 34 #[.int .i64 64858] w fun e w' => e = .returned (.int .i64 4) ∧ w' = w := by
  go_enter Try.func34, Try.ntmps34
  go_wp2
  go_ret
  exact ⟨rfl, rfl⟩
theorem vmay_5a (p : Addr) (a b lo hi at_ : Int) (L : Value) (w : World) (ha : 0 ≤ at_ ∧ at_ < 4294967296) (hb : 0 ≤ b ∧ b < 4294967296) (hl : 0 ≤ lo ∧ lo < 4) :
    Calls Try.prog 50 #[.pointer (some p), inV 64858 a b lo hi L, .int .u32 at_, .bool true] w fun e w' => e = .returned (.tuple #[.int .u64 (at_ + b), .int .i64 0]) ∧ Below w.heap.size w w' := by
  have HS := Lib.hid (fun W => vsize_5a W)
  go_enter Try.func50, Try.ntmps50
  go_wp2_with (go_at_call 34; (with_reducible refine (HS.out _).mono ?_); rintro e u ⟨rfl, rfl⟩)
  go_region
  go_wp2_with fail
  go_ret2
  exact ⟨rfl, ((Below.refl _ _).alloc (Nat.le_refl _) _).drew⟩

theorem vsize_5b (w : World) : Calls Try.prog 34 #[.int .i64 64859] w fun e w' => e = .returned (.int .i64 8) ∧ w' = w := by
  go_enter Try.func34, Try.ntmps34
  go_wp2
  go_ret
  exact ⟨rfl, rfl⟩
theorem vmay_5b (p : Addr) (a b lo hi at_ : Int) (L : Value) (w : World) (ha : 0 ≤ at_ ∧ at_ < 4294967296) (hb : 0 ≤ b ∧ b < 4294967296) (hl : 0 ≤ lo ∧ lo < 2) :
    Calls Try.prog 50 #[.pointer (some p), inV 64859 a b lo hi L, .int .u32 at_, .bool true] w fun e w' => e = .returned (.tuple #[.int .u64 (at_ + b), .int .i64 0]) ∧ Below w.heap.size w w' := by
  have HS := Lib.hid (fun W => vsize_5b W)
  go_enter Try.func50, Try.ntmps50
  go_wp2_with (go_at_call 34; (with_reducible refine (HS.out _).mono ?_); rintro e u ⟨rfl, rfl⟩)
  go_region
  go_wp2_with fail
  go_ret2
  exact ⟨rfl, ((Below.refl _ _).alloc (Nat.le_refl _) _).drew⟩

theorem vsize_5c (w : World) : Calls Try.prog 34 #[.int .i64 64860] w fun e w' => e = .returned (.int .i64 4) ∧ w' = w := by
  go_enter Try.func34, Try.ntmps34
  go_wp2
  go_ret
  exact ⟨rfl, rfl⟩
theorem vmay_5c (p : Addr) (a b lo hi at_ : Int) (L : Value) (w : World) (ha : 0 ≤ at_ ∧ at_ < 4294967296) (hb : 0 ≤ b ∧ b < 4294967296)  :
    Calls Try.prog 50 #[.pointer (some p), inV 64860 a b lo hi L, .int .u32 at_, .bool false] w fun e w' => e = .returned (.tuple #[.int .u64 (at_ + b), .int .i64 0]) ∧ Below w.heap.size w w' := by
  have HS := Lib.hid (fun W => vsize_5c W)
  go_enter Try.func50, Try.ntmps50
  go_wp2_with (go_at_call 34; (with_reducible refine (HS.out _).mono ?_); rintro e u ⟨rfl, rfl⟩)
  go_region
  go_wp2_with fail
  go_ret2
  exact ⟨rfl, ((Below.refl _ _).alloc (Nat.le_refl _) _).drew⟩

theorem vsize_5d (w : World) : Calls Try.prog 34 #[.int .i64 64861] w fun e w' => e = .returned (.int .i64 8) ∧ w' = w := by
  go_enter Try.func34, Try.ntmps34
  go_wp2
  go_ret
  exact ⟨rfl, rfl⟩
theorem vmay_5d (p : Addr) (a b lo hi at_ : Int) (L : Value) (w : World) (ha : 0 ≤ at_ ∧ at_ < 4294967296) (hb : 0 ≤ b ∧ b < 4294967296)  :
    Calls Try.prog 50 #[.pointer (some p), inV 64861 a b lo hi L, .int .u32 at_, .bool false] w fun e w' => e = .returned (.tuple #[.int .u64 (at_ + b), .int .i64 0]) ∧ Below w.heap.size w w' := by
  have HS := Lib.hid (fun W => vsize_5d W)
  go_enter Try.func50, Try.ntmps50
  go_wp2_with (go_at_call 34; (with_reducible refine (HS.out _).mono ?_); rintro e u ⟨rfl, rfl⟩)
  go_region
  go_wp2_with fail
  go_ret2
  exact ⟨rfl, ((Below.refl _ _).alloc (Nat.le_refl _) _).drew⟩

end Go.Proofs.Ytlcndenbnokcjaa
