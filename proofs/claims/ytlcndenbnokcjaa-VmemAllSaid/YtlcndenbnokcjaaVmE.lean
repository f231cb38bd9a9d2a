/-
  vmem.Size of every opcode; errors of vmem.may, Load and Store.
-/
import Derived.Test.YtlcndenbnokcjaaVmL
set_option linter.unusedSimpArgs false
set_option linter.unusedVariables false
namespace Go.Proofs.Ytlcndenbnokcjaa
open Go.RowKit Pl

theorem kappa (op : Int) (hr : -9223372036854775808 ≤ op ∧ op ≤ 9223372036854775807) (h : ¬ (64768 ≤ op ∧ op ≤ 64779 ∨ 64852 ≤ op ∧ op ≤ 64861)) : ∃ κ, IntKind.i64.wrap (op - 64768) = κ ∧ (κ < 0 ∨ 12 ≤ κ ∧ κ < 84 ∨ 94 ≤ κ) := by
  refine ⟨_, rfl, ?_⟩
  by_cases h1 : -9223372036854775808 ≤ op - 64768
  · rw [IntWalk.i64_in _ (by omega)]
    omega
  · right; right
    have e : IntKind.i64.wrap (op - 64768) = op - 64768 + 18446744073709551616 := by
      simp only [IntKind.wrap, IntKind.bits, IntKind.signed]
      simp
      omega
    rw [e]
    omega
theorem vsize_none (op : Int) (w : World) (hr : -9223372036854775808 ≤ op ∧ op ≤ 9223372036854775807) (h : ¬ (64768 ≤ op ∧ op ≤ 64779 ∨ 64852 ≤ op ∧ op ≤ 64861)) : Calls Try.prog 34 #[.int .i64 op] w fun e w' => e = .returned (.int .i64 0) ∧ w' = w := by
  obtain ⟨κ, hκ, h1 | ⟨h1, h2⟩ | h1⟩ := kappa op hr h
  all_goals
    clear h hr
    go_enter Try.func34, Try.ntmps34
    go_wp2
    go_ret
    exact ⟨rfl, rfl⟩
/-- The number of an access's bytes. -/
def vszN (op : Int) : Int := if 64768 ≤ op ∧ op ≤ 64779 then [16, 8, 8, 8, 8, 8, 8, 1, 2, 4, 8, 16].getD (op - 64768).toNat 0 else if 64852 ≤ op ∧ op ≤ 64861 then [1, 2, 4, 8, 1, 2, 4, 8, 4, 8].getD (op - 64852).toNat 0 else 0
theorem vops (op : Int) (h : 64768 ≤ op ∧ op ≤ 64779 ∨ 64852 ≤ op ∧ op ≤ 64861) : op = 64768 ∨ op = 64769 ∨ op = 64770 ∨ op = 64771 ∨ op = 64772 ∨ op = 64773 ∨ op = 64774 ∨ op = 64775 ∨ op = 64776 ∨ op = 64777 ∨ op = 64778 ∨ op = 64779 ∨ op = 64852 ∨ op = 64853 ∨ op = 64854 ∨ op = 64855 ∨ op = 64856 ∨ op = 64857 ∨ op = 64858 ∨ op = 64859 ∨ op = 64860 ∨ op = 64861 := by omega
theorem vsize_any (op : Int) (w : World) (hr : -9223372036854775808 ≤ op ∧ op ≤ 9223372036854775807) : Calls Try.prog 34 #[.int .i64 op] w fun e w' => e = .returned (.int .i64 (vszN op)) ∧ w' = w := by
  by_cases h : 64768 ≤ op ∧ op ≤ 64779 ∨ 64852 ≤ op ∧ op ≤ 64861
  · rcases vops op h with rfl | rfl | rfl | rfl | rfl | rfl | rfl | rfl | rfl | rfl | rfl | rfl | rfl | rfl | rfl | rfl | rfl | rfl | rfl | rfl | rfl | rfl

    · exact vsize_00 w
    · exact vsize_01 w
    · exact vsize_02 w
    · exact vsize_03 w
    · exact vsize_04 w
    · exact vsize_05 w
    · exact vsize_06 w
    · exact vsize_07 w
    · exact vsize_08 w
    · exact vsize_09 w
    · exact vsize_0a w
    · exact vsize_0b w
    · exact vsize_54 w
    · exact vsize_55 w
    · exact vsize_56 w
    · exact vsize_57 w
    · exact vsize_58 w
    · exact vsize_59 w
    · exact vsize_5a w
    · exact vsize_5b w
    · exact vsize_5c w
    · exact vsize_5d w
  · have := vsize_none op w hr h
    rw [show vszN op = 0 by unfold vszN; rw [if_neg (by omega), if_neg (by omega)]]
    exact this
theorem vmay_none (p : Value) (op a b lo hi at_ : Int) (L : Value) (s : Bool) (w : World) (hr : -9223372036854775808 ≤ op ∧ op ≤ 9223372036854775807) (h : ¬ (64768 ≤ op ∧ op ≤ 64779 ∨ 64852 ≤ op ∧ op ≤ 64861)) :
    Calls Try.prog 50 #[p, inV op a b lo hi L, .int .u32 at_, .bool s] w fun e w' => e = .returned (.tuple #[.int .u64 0, .int .i64 1]) ∧ Below w.heap.size w w' := by
  have HS := Lib.hid (fun W => vsize_none op W hr h)
  obtain ⟨κ, hκ, h1 | ⟨h1, h2⟩ | h1⟩ := kappa op hr h
  all_goals
    clear h hr
    go_enter Try.func50, Try.ntmps50
    go_wp2_with (go_at_call 34; (with_reducible refine (HS.out _).mono ?_); rintro e u ⟨rfl, rfl⟩)
    go_ret2
    exact ⟨rfl, (Below.refl _ _).alloc (Nat.le_refl _) _⟩

theorem vmay_00_not (p : Value) (a b lo hi at_ : Int) (L : Value) (w : World)  :
    Calls Try.prog 50 #[p, inV 64768 a b lo hi L, .int .u32 at_, .bool true] w fun e w' => e = .returned (.tuple #[.int .u64 0, .int .i64 1]) ∧ Below w.heap.size w w' := by
  have HS := Lib.hid (fun W => vsize_00 W)
  go_enter Try.func50, Try.ntmps50
  go_wp2_with (go_at_call 34; (with_reducible refine (HS.out _).mono ?_); rintro e u ⟨rfl, rfl⟩)
  go_ret2
  exact ⟨rfl, (Below.refl _ _).alloc (Nat.le_refl _) _⟩

theorem vmay_00_neg (p : Value) (a b lo hi at_ : Int) (L : Value) (w : World) (h : b < 0) :
    Calls Try.prog 50 #[p, inV 64768 a b lo hi L, .int .u32 at_, .bool false] w fun e w' => e = .returned (.tuple #[.int .u64 0, .int .i64 1]) ∧ Below w.heap.size w w' := by
  have HS := Lib.hid (fun W => vsize_00 W)
  go_enter Try.func50, Try.ntmps50
  go_wp2_with (go_at_call 34; (with_reducible refine (HS.out _).mono ?_); rintro e u ⟨rfl, rfl⟩)
  go_ret2
  exact ⟨rfl, (Below.refl _ _).alloc (Nat.le_refl _) _⟩

theorem vmay_00_big (p : Value) (a b lo hi at_ : Int) (L : Value) (w : World) (h : 4294967296 ≤ b) :
    Calls Try.prog 50 #[p, inV 64768 a b lo hi L, .int .u32 at_, .bool false] w fun e w' => e = .returned (.tuple #[.int .u64 0, .int .i64 1]) ∧ Below w.heap.size w w' := by
  have HS := Lib.hid (fun W => vsize_00 W)
  go_enter Try.func50, Try.ntmps50
  go_wp2_with (go_at_call 34; (with_reducible refine (HS.out _).mono ?_); rintro e u ⟨rfl, rfl⟩)
  go_ret2
  exact ⟨rfl, (Below.refl _ _).alloc (Nat.le_refl _) _⟩

theorem vmay_00_nil (a b lo hi at_ : Int) (L : Value) (w : World) (hb : 0 ≤ b ∧ b < 4294967296)  :
    Calls Try.prog 50 #[.pointer none, inV 64768 a b lo hi L, .int .u32 at_, .bool false] w fun e w' => e = .returned (.tuple #[.int .u64 0, .int .i64 2]) ∧ Below w.heap.size w w' := by
  have HS := Lib.hid (fun W => vsize_00 W)
  go_enter Try.func50, Try.ntmps50
  go_wp2_with (go_at_call 34; (with_reducible refine (HS.out _).mono ?_); rintro e u ⟨rfl, rfl⟩)
  go_region
  go_wp2_with fail
  go_ret2
  exact ⟨rfl, ((Below.refl _ _).alloc (Nat.le_refl _) _).drew⟩

theorem vmay_01_not (p : Value) (a b lo hi at_ : Int) (L : Value) (w : World)  :
    Calls Try.prog 50 #[p, inV 64769 a b lo hi L, .int .u32 at_, .bool true] w fun e w' => e = .returned (.tuple #[.int .u64 0, .int .i64 1]) ∧ Below w.heap.size w w' := by
  have HS := Lib.hid (fun W => vsize_01 W)
  go_enter Try.func50, Try.ntmps50
  go_wp2_with (go_at_call 34; (with_reducible refine (HS.out _).mono ?_); rintro e u ⟨rfl, rfl⟩)
  go_ret2
  exact ⟨rfl, (Below.refl _ _).alloc (Nat.le_refl _) _⟩

theorem vmay_01_neg (p : Value) (a b lo hi at_ : Int) (L : Value) (w : World) (h : b < 0) :
    Calls Try.prog 50 #[p, inV 64769 a b lo hi L, .int .u32 at_, .bool false] w fun e w' => e = .returned (.tuple #[.int .u64 0, .int .i64 1]) ∧ Below w.heap.size w w' := by
  have HS := Lib.hid (fun W => vsize_01 W)
  go_enter Try.func50, Try.ntmps50
  go_wp2_with (go_at_call 34; (with_reducible refine (HS.out _).mono ?_); rintro e u ⟨rfl, rfl⟩)
  go_ret2
  exact ⟨rfl, (Below.refl _ _).alloc (Nat.le_refl _) _⟩

theorem vmay_01_big (p : Value) (a b lo hi at_ : Int) (L : Value) (w : World) (h : 4294967296 ≤ b) :
    Calls Try.prog 50 #[p, inV 64769 a b lo hi L, .int .u32 at_, .bool false] w fun e w' => e = .returned (.tuple #[.int .u64 0, .int .i64 1]) ∧ Below w.heap.size w w' := by
  have HS := Lib.hid (fun W => vsize_01 W)
  go_enter Try.func50, Try.ntmps50
  go_wp2_with (go_at_call 34; (with_reducible refine (HS.out _).mono ?_); rintro e u ⟨rfl, rfl⟩)
  go_ret2
  exact ⟨rfl, (Below.refl _ _).alloc (Nat.le_refl _) _⟩

theorem vmay_01_nil (a b lo hi at_ : Int) (L : Value) (w : World) (hb : 0 ≤ b ∧ b < 4294967296)  :
    Calls Try.prog 50 #[.pointer none, inV 64769 a b lo hi L, .int .u32 at_, .bool false] w fun e w' => e = .returned (.tuple #[.int .u64 0, .int .i64 2]) ∧ Below w.heap.size w w' := by
  have HS := Lib.hid (fun W => vsize_01 W)
  go_enter Try.func50, Try.ntmps50
  go_wp2_with (go_at_call 34; (with_reducible refine (HS.out _).mono ?_); rintro e u ⟨rfl, rfl⟩)
  go_region
  go_wp2_with fail
  go_ret2
  exact ⟨rfl, ((Below.refl _ _).alloc (Nat.le_refl _) _).drew⟩

theorem vmay_02_not (p : Value) (a b lo hi at_ : Int) (L : Value) (w : World)  :
    Calls Try.prog 50 #[p, inV 64770 a b lo hi L, .int .u32 at_, .bool true] w fun e w' => e = .returned (.tuple #[.int .u64 0, .int .i64 1]) ∧ Below w.heap.size w w' := by
  have HS := Lib.hid (fun W => vsize_02 W)
  go_enter Try.func50, Try.ntmps50
  go_wp2_with (go_at_call 34; (with_reducible refine (HS.out _).mono ?_); rintro e u ⟨rfl, rfl⟩)
  go_ret2
  exact ⟨rfl, (Below.refl _ _).alloc (Nat.le_refl _) _⟩

theorem vmay_02_neg (p : Value) (a b lo hi at_ : Int) (L : Value) (w : World) (h : b < 0) :
    Calls Try.prog 50 #[p, inV 64770 a b lo hi L, .int .u32 at_, .bool false] w fun e w' => e = .returned (.tuple #[.int .u64 0, .int .i64 1]) ∧ Below w.heap.size w w' := by
  have HS := Lib.hid (fun W => vsize_02 W)
  go_enter Try.func50, Try.ntmps50
  go_wp2_with (go_at_call 34; (with_reducible refine (HS.out _).mono ?_); rintro e u ⟨rfl, rfl⟩)
  go_ret2
  exact ⟨rfl, (Below.refl _ _).alloc (Nat.le_refl _) _⟩

theorem vmay_02_big (p : Value) (a b lo hi at_ : Int) (L : Value) (w : World) (h : 4294967296 ≤ b) :
    Calls Try.prog 50 #[p, inV 64770 a b lo hi L, .int .u32 at_, .bool false] w fun e w' => e = .returned (.tuple #[.int .u64 0, .int .i64 1]) ∧ Below w.heap.size w w' := by
  have HS := Lib.hid (fun W => vsize_02 W)
  go_enter Try.func50, Try.ntmps50
  go_wp2_with (go_at_call 34; (with_reducible refine (HS.out _).mono ?_); rintro e u ⟨rfl, rfl⟩)
  go_ret2
  exact ⟨rfl, (Below.refl _ _).alloc (Nat.le_refl _) _⟩

theorem vmay_02_nil (a b lo hi at_ : Int) (L : Value) (w : World) (hb : 0 ≤ b ∧ b < 4294967296)  :
    Calls Try.prog 50 #[.pointer none, inV 64770 a b lo hi L, .int .u32 at_, .bool false] w fun e w' => e = .returned (.tuple #[.int .u64 0, .int .i64 2]) ∧ Below w.heap.size w w' := by
  have HS := Lib.hid (fun W => vsize_02 W)
  go_enter Try.func50, Try.ntmps50
  go_wp2_with (go_at_call 34; (with_reducible refine (HS.out _).mono ?_); rintro e u ⟨rfl, rfl⟩)
  go_region
  go_wp2_with fail
  go_ret2
  exact ⟨rfl, ((Below.refl _ _).alloc (Nat.le_refl _) _).drew⟩

theorem vmay_03_not (p : Value) (a b lo hi at_ : Int) (L : Value) (w : World)  :
    Calls Try.prog 50 #[p, inV 64771 a b lo hi L, .int .u32 at_, .bool true] w fun e w' => e = .returned (.tuple #[.int .u64 0, .int .i64 1]) ∧ Below w.heap.size w w' := by
  have HS := Lib.hid (fun W => vsize_03 W)
  go_enter Try.func50, Try.ntmps50
  go_wp2_with (go_at_call 34; (with_reducible refine (HS.out _).mono ?_); rintro e u ⟨rfl, rfl⟩)
  go_ret2
  exact ⟨rfl, (Below.refl _ _).alloc (Nat.le_refl _) _⟩

theorem vmay_03_neg (p : Value) (a b lo hi at_ : Int) (L : Value) (w : World) (h : b < 0) :
    Calls Try.prog 50 #[p, inV 64771 a b lo hi L, .int .u32 at_, .bool false] w fun e w' => e = .returned (.tuple #[.int .u64 0, .int .i64 1]) ∧ Below w.heap.size w w' := by
  have HS := Lib.hid (fun W => vsize_03 W)
  go_enter Try.func50, Try.ntmps50
  go_wp2_with (go_at_call 34; (with_reducible refine (HS.out _).mono ?_); rintro e u ⟨rfl, rfl⟩)
  go_ret2
  exact ⟨rfl, (Below.refl _ _).alloc (Nat.le_refl _) _⟩

theorem vmay_03_big (p : Value) (a b lo hi at_ : Int) (L : Value) (w : World) (h : 4294967296 ≤ b) :
    Calls Try.prog 50 #[p, inV 64771 a b lo hi L, .int .u32 at_, .bool false] w fun e w' => e = .returned (.tuple #[.int .u64 0, .int .i64 1]) ∧ Below w.heap.size w w' := by
  have HS := Lib.hid (fun W => vsize_03 W)
  go_enter Try.func50, Try.ntmps50
  go_wp2_with (go_at_call 34; (with_reducible refine (HS.out _).mono ?_); rintro e u ⟨rfl, rfl⟩)
  go_ret2
  exact ⟨rfl, (Below.refl _ _).alloc (Nat.le_refl _) _⟩

theorem vmay_03_nil (a b lo hi at_ : Int) (L : Value) (w : World) (hb : 0 ≤ b ∧ b < 4294967296)  :
    Calls Try.prog 50 #[.pointer none, inV 64771 a b lo hi L, .int .u32 at_, .bool false] w fun e w' => e = .returned (.tuple #[.int .u64 0, .int .i64 2]) ∧ Below w.heap.size w w' := by
  have HS := Lib.hid (fun W => vsize_03 W)
  go_enter Try.func50, Try.ntmps50
  go_wp2_with (go_at_call 34; (with_reducible refine (HS.out _).mono ?_); rintro e u ⟨rfl, rfl⟩)
  go_region
  go_wp2_with fail
  go_ret2
  exact ⟨rfl, ((Below.refl _ _).alloc (Nat.le_refl _) _).drew⟩

theorem vmay_04_not (p : Value) (a b lo hi at_ : Int) (L : Value) (w : World)  :
    Calls Try.prog 50 #[p, inV 64772 a b lo hi L, .int .u32 at_, .bool true] w fun e w' => e = .returned (.tuple #[.int .u64 0, .int .i64 1]) ∧ Below w.heap.size w w' := by
  have HS := Lib.hid (fun W => vsize_04 W)
  go_enter Try.func50, Try.ntmps50
  go_wp2_with (go_at_call 34; (with_reducible refine (HS.out _).mono ?_); rintro e u ⟨rfl, rfl⟩)
  go_ret2
  exact ⟨rfl, (Below.refl _ _).alloc (Nat.le_refl _) _⟩

theorem vmay_04_neg (p : Value) (a b lo hi at_ : Int) (L : Value) (w : World) (h : b < 0) :
    Calls Try.prog 50 #[p, inV 64772 a b lo hi L, .int .u32 at_, .bool false] w fun e w' => e = .returned (.tuple #[.int .u64 0, .int .i64 1]) ∧ Below w.heap.size w w' := by
  have HS := Lib.hid (fun W => vsize_04 W)
  go_enter Try.func50, Try.ntmps50
  go_wp2_with (go_at_call 34; (with_reducible refine (HS.out _).mono ?_); rintro e u ⟨rfl, rfl⟩)
  go_ret2
  exact ⟨rfl, (Below.refl _ _).alloc (Nat.le_refl _) _⟩

theorem vmay_04_big (p : Value) (a b lo hi at_ : Int) (L : Value) (w : World) (h : 4294967296 ≤ b) :
    Calls Try.prog 50 #[p, inV 64772 a b lo hi L, .int .u32 at_, .bool false] w fun e w' => e = .returned (.tuple #[.int .u64 0, .int .i64 1]) ∧ Below w.heap.size w w' := by
  have HS := Lib.hid (fun W => vsize_04 W)
  go_enter Try.func50, Try.ntmps50
  go_wp2_with (go_at_call 34; (with_reducible refine (HS.out _).mono ?_); rintro e u ⟨rfl, rfl⟩)
  go_ret2
  exact ⟨rfl, (Below.refl _ _).alloc (Nat.le_refl _) _⟩

theorem vmay_04_nil (a b lo hi at_ : Int) (L : Value) (w : World) (hb : 0 ≤ b ∧ b < 4294967296)  :
    Calls Try.prog 50 #[.pointer none, inV 64772 a b lo hi L, .int .u32 at_, .bool false] w fun e w' => e = .returned (.tuple #[.int .u64 0, .int .i64 2]) ∧ Below w.heap.size w w' := by
  have HS := Lib.hid (fun W => vsize_04 W)
  go_enter Try.func50, Try.ntmps50
  go_wp2_with (go_at_call 34; (with_reducible refine (HS.out _).mono ?_); rintro e u ⟨rfl, rfl⟩)
  go_region
  go_wp2_with fail
  go_ret2
  exact ⟨rfl, ((Below.refl _ _).alloc (Nat.le_refl _) _).drew⟩

theorem vmay_05_not (p : Value) (a b lo hi at_ : Int) (L : Value) (w : World)  :
    Calls Try.prog 50 #[p, inV 64773 a b lo hi L, .int .u32 at_, .bool true] w fun e w' => e = .returned (.tuple #[.int .u64 0, .int .i64 1]) ∧ Below w.heap.size w w' := by
  have HS := Lib.hid (fun W => vsize_05 W)
  go_enter Try.func50, Try.ntmps50
  go_wp2_with (go_at_call 34; (with_reducible refine (HS.out _).mono ?_); rintro e u ⟨rfl, rfl⟩)
  go_ret2
  exact ⟨rfl, (Below.refl _ _).alloc (Nat.le_refl _) _⟩

theorem vmay_05_neg (p : Value) (a b lo hi at_ : Int) (L : Value) (w : World) (h : b < 0) :
    Calls Try.prog 50 #[p, inV 64773 a b lo hi L, .int .u32 at_, .bool false] w fun e w' => e = .returned (.tuple #[.int .u64 0, .int .i64 1]) ∧ Below w.heap.size w w' := by
  have HS := Lib.hid (fun W => vsize_05 W)
  go_enter Try.func50, Try.ntmps50
  go_wp2_with (go_at_call 34; (with_reducible refine (HS.out _).mono ?_); rintro e u ⟨rfl, rfl⟩)
  go_ret2
  exact ⟨rfl, (Below.refl _ _).alloc (Nat.le_refl _) _⟩

theorem vmay_05_big (p : Value) (a b lo hi at_ : Int) (L : Value) (w : World) (h : 4294967296 ≤ b) :
    Calls Try.prog 50 #[p, inV 64773 a b lo hi L, .int .u32 at_, .bool false] w fun e w' => e = .returned (.tuple #[.int .u64 0, .int .i64 1]) ∧ Below w.heap.size w w' := by
  have HS := Lib.hid (fun W => vsize_05 W)
  go_enter Try.func50, Try.ntmps50
  go_wp2_with (go_at_call 34; (with_reducible refine (HS.out _).mono ?_); rintro e u ⟨rfl, rfl⟩)
  go_ret2
  exact ⟨rfl, (Below.refl _ _).alloc (Nat.le_refl _) _⟩

theorem vmay_05_nil (a b lo hi at_ : Int) (L : Value) (w : World) (hb : 0 ≤ b ∧ b < 4294967296)  :
    Calls Try.prog 50 #[.pointer none, inV 64773 a b lo hi L, .int .u32 at_, .bool false] w fun e w' => e = .returned (.tuple #[.int .u64 0, .int .i64 2]) ∧ Below w.heap.size w w' := by
  have HS := Lib.hid (fun W => vsize_05 W)
  go_enter Try.func50, Try.ntmps50
  go_wp2_with (go_at_call 34; (with_reducible refine (HS.out _).mono ?_); rintro e u ⟨rfl, rfl⟩)
  go_region
  go_wp2_with fail
  go_ret2
  exact ⟨rfl, ((Below.refl _ _).alloc (Nat.le_refl _) _).drew⟩

theorem vmay_06_not (p : Value) (a b lo hi at_ : Int) (L : Value) (w : World)  :
    Calls Try.prog 50 #[p, inV 64774 a b lo hi L, .int .u32 at_, .bool true] w fun e w' => e = .returned (.tuple #[.int .u64 0, .int .i64 1]) ∧ Below w.heap.size w w' := by
  have HS := Lib.hid (fun W => vsize_06 W)
  go_enter Try.func50, Try.ntmps50
  go_wp2_with (go_at_call 34; (with_reducible refine (HS.out _).mono ?_); rintro e u ⟨rfl, rfl⟩)
  go_ret2
  exact ⟨rfl, (Below.refl _ _).alloc (Nat.le_refl _) _⟩

theorem vmay_06_neg (p : Value) (a b lo hi at_ : Int) (L : Value) (w : World) (h : b < 0) :
    Calls Try.prog 50 #[p, inV 64774 a b lo hi L, .int .u32 at_, .bool false] w fun e w' => e = .returned (.tuple #[.int .u64 0, .int .i64 1]) ∧ Below w.heap.size w w' := by
  have HS := Lib.hid (fun W => vsize_06 W)
  go_enter Try.func50, Try.ntmps50
  go_wp2_with (go_at_call 34; (with_reducible refine (HS.out _).mono ?_); rintro e u ⟨rfl, rfl⟩)
  go_ret2
  exact ⟨rfl, (Below.refl _ _).alloc (Nat.le_refl _) _⟩

theorem vmay_06_big (p : Value) (a b lo hi at_ : Int) (L : Value) (w : World) (h : 4294967296 ≤ b) :
    Calls Try.prog 50 #[p, inV 64774 a b lo hi L, .int .u32 at_, .bool false] w fun e w' => e = .returned (.tuple #[.int .u64 0, .int .i64 1]) ∧ Below w.heap.size w w' := by
  have HS := Lib.hid (fun W => vsize_06 W)
  go_enter Try.func50, Try.ntmps50
  go_wp2_with (go_at_call 34; (with_reducible refine (HS.out _).mono ?_); rintro e u ⟨rfl, rfl⟩)
  go_ret2
  exact ⟨rfl, (Below.refl _ _).alloc (Nat.le_refl _) _⟩

theorem vmay_06_nil (a b lo hi at_ : Int) (L : Value) (w : World) (hb : 0 ≤ b ∧ b < 4294967296)  :
    Calls Try.prog 50 #[.pointer none, inV 64774 a b lo hi L, .int .u32 at_, .bool false] w fun e w' => e = .returned (.tuple #[.int .u64 0, .int .i64 2]) ∧ Below w.heap.size w w' := by
  have HS := Lib.hid (fun W => vsize_06 W)
  go_enter Try.func50, Try.ntmps50
  go_wp2_with (go_at_call 34; (with_reducible refine (HS.out _).mono ?_); rintro e u ⟨rfl, rfl⟩)
  go_region
  go_wp2_with fail
  go_ret2
  exact ⟨rfl, ((Below.refl _ _).alloc (Nat.le_refl _) _).drew⟩

theorem vmay_07_not (p : Value) (a b lo hi at_ : Int) (L : Value) (w : World)  :
    Calls Try.prog 50 #[p, inV 64775 a b lo hi L, .int .u32 at_, .bool true] w fun e w' => e = .returned (.tuple #[.int .u64 0, .int .i64 1]) ∧ Below w.heap.size w w' := by
  have HS := Lib.hid (fun W => vsize_07 W)
  go_enter Try.func50, Try.ntmps50
  go_wp2_with (go_at_call 34; (with_reducible refine (HS.out _).mono ?_); rintro e u ⟨rfl, rfl⟩)
  go_ret2
  exact ⟨rfl, (Below.refl _ _).alloc (Nat.le_refl _) _⟩

theorem vmay_07_neg (p : Value) (a b lo hi at_ : Int) (L : Value) (w : World) (h : b < 0) :
    Calls Try.prog 50 #[p, inV 64775 a b lo hi L, .int .u32 at_, .bool false] w fun e w' => e = .returned (.tuple #[.int .u64 0, .int .i64 1]) ∧ Below w.heap.size w w' := by
  have HS := Lib.hid (fun W => vsize_07 W)
  go_enter Try.func50, Try.ntmps50
  go_wp2_with (go_at_call 34; (with_reducible refine (HS.out _).mono ?_); rintro e u ⟨rfl, rfl⟩)
  go_ret2
  exact ⟨rfl, (Below.refl _ _).alloc (Nat.le_refl _) _⟩

theorem vmay_07_big (p : Value) (a b lo hi at_ : Int) (L : Value) (w : World) (h : 4294967296 ≤ b) :
    Calls Try.prog 50 #[p, inV 64775 a b lo hi L, .int .u32 at_, .bool false] w fun e w' => e = .returned (.tuple #[.int .u64 0, .int .i64 1]) ∧ Below w.heap.size w w' := by
  have HS := Lib.hid (fun W => vsize_07 W)
  go_enter Try.func50, Try.ntmps50
  go_wp2_with (go_at_call 34; (with_reducible refine (HS.out _).mono ?_); rintro e u ⟨rfl, rfl⟩)
  go_ret2
  exact ⟨rfl, (Below.refl _ _).alloc (Nat.le_refl _) _⟩

theorem vmay_07_nil (a b lo hi at_ : Int) (L : Value) (w : World) (hb : 0 ≤ b ∧ b < 4294967296)  :
    Calls Try.prog 50 #[.pointer none, inV 64775 a b lo hi L, .int .u32 at_, .bool false] w fun e w' => e = .returned (.tuple #[.int .u64 0, .int .i64 2]) ∧ Below w.heap.size w w' := by
  have HS := Lib.hid (fun W => vsize_07 W)
  go_enter Try.func50, Try.ntmps50
  go_wp2_with (go_at_call 34; (with_reducible refine (HS.out _).mono ?_); rintro e u ⟨rfl, rfl⟩)
  go_region
  go_wp2_with fail
  go_ret2
  exact ⟨rfl, ((Below.refl _ _).alloc (Nat.le_refl _) _).drew⟩

theorem vmay_08_not (p : Value) (a b lo hi at_ : Int) (L : Value) (w : World)  :
    Calls Try.prog 50 #[p, inV 64776 a b lo hi L, .int .u32 at_, .bool true] w fun e w' => e = .returned (.tuple #[.int .u64 0, .int .i64 1]) ∧ Below w.heap.size w w' := by
  have HS := Lib.hid (fun W => vsize_08 W)
  go_enter Try.func50, Try.ntmps50
  go_wp2_with (go_at_call 34; (with_reducible refine (HS.out _).mono ?_); rintro e u ⟨rfl, rfl⟩)
  go_ret2
  exact ⟨rfl, (Below.refl _ _).alloc (Nat.le_refl _) _⟩

theorem vmay_08_neg (p : Value) (a b lo hi at_ : Int) (L : Value) (w : World) (h : b < 0) :
    Calls Try.prog 50 #[p, inV 64776 a b lo hi L, .int .u32 at_, .bool false] w fun e w' => e = .returned (.tuple #[.int .u64 0, .int .i64 1]) ∧ Below w.heap.size w w' := by
  have HS := Lib.hid (fun W => vsize_08 W)
  go_enter Try.func50, Try.ntmps50
  go_wp2_with (go_at_call 34; (with_reducible refine (HS.out _).mono ?_); rintro e u ⟨rfl, rfl⟩)
  go_ret2
  exact ⟨rfl, (Below.refl _ _).alloc (Nat.le_refl _) _⟩

theorem vmay_08_big (p : Value) (a b lo hi at_ : Int) (L : Value) (w : World) (h : 4294967296 ≤ b) :
    Calls Try.prog 50 #[p, inV 64776 a b lo hi L, .int .u32 at_, .bool false] w fun e w' => e = .returned (.tuple #[.int .u64 0, .int .i64 1]) ∧ Below w.heap.size w w' := by
  have HS := Lib.hid (fun W => vsize_08 W)
  go_enter Try.func50, Try.ntmps50
  go_wp2_with (go_at_call 34; (with_reducible refine (HS.out _).mono ?_); rintro e u ⟨rfl, rfl⟩)
  go_ret2
  exact ⟨rfl, (Below.refl _ _).alloc (Nat.le_refl _) _⟩

theorem vmay_08_nil (a b lo hi at_ : Int) (L : Value) (w : World) (hb : 0 ≤ b ∧ b < 4294967296)  :
    Calls Try.prog 50 #[.pointer none, inV 64776 a b lo hi L, .int .u32 at_, .bool false] w fun e w' => e = .returned (.tuple #[.int .u64 0, .int .i64 2]) ∧ Below w.heap.size w w' := by
  have HS := Lib.hid (fun W => vsize_08 W)
  go_enter Try.func50, Try.ntmps50
  go_wp2_with (go_at_call 34; (with_reducible refine (HS.out _).mono ?_); rintro e u ⟨rfl, rfl⟩)
  go_region
  go_wp2_with fail
  go_ret2
  exact ⟨rfl, ((Below.refl _ _).alloc (Nat.le_refl _) _).drew⟩

theorem vmay_09_not (p : Value) (a b lo hi at_ : Int) (L : Value) (w : World)  :
    Calls Try.prog 50 #[p, inV 64777 a b lo hi L, .int .u32 at_, .bool true] w fun e w' => e = .returned (.tuple #[.int .u64 0, .int .i64 1]) ∧ Below w.heap.size w w' := by
  have HS := Lib.hid (fun W => vsize_09 W)
  go_enter Try.func50, Try.ntmps50
  go_wp2_with (go_at_call 34; (with_reducible refine (HS.out _).mono ?_); rintro e u ⟨rfl, rfl⟩)
  go_ret2
  exact ⟨rfl, (Below.refl _ _).alloc (Nat.le_refl _) _⟩

theorem vmay_09_neg (p : Value) (a b lo hi at_ : Int) (L : Value) (w : World) (h : b < 0) :
    Calls Try.prog 50 #[p, inV 64777 a b lo hi L, .int .u32 at_, .bool false] w fun e w' => e = .returned (.tuple #[.int .u64 0, .int .i64 1]) ∧ Below w.heap.size w w' := by
  have HS := Lib.hid (fun W => vsize_09 W)
  go_enter Try.func50, Try.ntmps50
  go_wp2_with (go_at_call 34; (with_reducible refine (HS.out _).mono ?_); rintro e u ⟨rfl, rfl⟩)
  go_ret2
  exact ⟨rfl, (Below.refl _ _).alloc (Nat.le_refl _) _⟩

theorem vmay_09_big (p : Value) (a b lo hi at_ : Int) (L : Value) (w : World) (h : 4294967296 ≤ b) :
    Calls Try.prog 50 #[p, inV 64777 a b lo hi L, .int .u32 at_, .bool false] w fun e w' => e = .returned (.tuple #[.int .u64 0, .int .i64 1]) ∧ Below w.heap.size w w' := by
  have HS := Lib.hid (fun W => vsize_09 W)
  go_enter Try.func50, Try.ntmps50
  go_wp2_with (go_at_call 34; (with_reducible refine (HS.out _).mono ?_); rintro e u ⟨rfl, rfl⟩)
  go_ret2
  exact ⟨rfl, (Below.refl _ _).alloc (Nat.le_refl _) _⟩

theorem vmay_09_nil (a b lo hi at_ : Int) (L : Value) (w : World) (hb : 0 ≤ b ∧ b < 4294967296)  :
    Calls Try.prog 50 #[.pointer none, inV 64777 a b lo hi L, .int .u32 at_, .bool false] w fun e w' => e = .returned (.tuple #[.int .u64 0, .int .i64 2]) ∧ Below w.heap.size w w' := by
  have HS := Lib.hid (fun W => vsize_09 W)
  go_enter Try.func50, Try.ntmps50
  go_wp2_with (go_at_call 34; (with_reducible refine (HS.out _).mono ?_); rintro e u ⟨rfl, rfl⟩)
  go_region
  go_wp2_with fail
  go_ret2
  exact ⟨rfl, ((Below.refl _ _).alloc (Nat.le_refl _) _).drew⟩

theorem vmay_0a_not (p : Value) (a b lo hi at_ : Int) (L : Value) (w : World)  :
    Calls Try.prog 50 #[p, inV 64778 a b lo hi L, .int .u32 at_, .bool true] w fun e w' => e = .returned (.tuple #[.int .u64 0, .int .i64 1]) ∧ Below w.heap.size w w' := by
  have HS := Lib.hid (fun W => vsize_0a W)
  go_enter Try.func50, Try.ntmps50
  go_wp2_with (go_at_call 34; (with_reducible refine (HS.out _).mono ?_); rintro e u ⟨rfl, rfl⟩)
  go_ret2
  exact ⟨rfl, (Below.refl _ _).alloc (Nat.le_refl _) _⟩

theorem vmay_0a_neg (p : Value) (a b lo hi at_ : Int) (L : Value) (w : World) (h : b < 0) :
    Calls Try.prog 50 #[p, inV 64778 a b lo hi L, .int .u32 at_, .bool false] w fun e w' => e = .returned (.tuple #[.int .u64 0, .int .i64 1]) ∧ Below w.heap.size w w' := by
  have HS := Lib.hid (fun W => vsize_0a W)
  go_enter Try.func50, Try.ntmps50
  go_wp2_with (go_at_call 34; (with_reducible refine (HS.out _).mono ?_); rintro e u ⟨rfl, rfl⟩)
  go_ret2
  exact ⟨rfl, (Below.refl _ _).alloc (Nat.le_refl _) _⟩

theorem vmay_0a_big (p : Value) (a b lo hi at_ : Int) (L : Value) (w : World) (h : 4294967296 ≤ b) :
    Calls Try.prog 50 #[p, inV 64778 a b lo hi L, .int .u32 at_, .bool false] w fun e w' => e = .returned (.tuple #[.int .u64 0, .int .i64 1]) ∧ Below w.heap.size w w' := by
  have HS := Lib.hid (fun W => vsize_0a W)
  go_enter Try.func50, Try.ntmps50
  go_wp2_with (go_at_call 34; (with_reducible refine (HS.out _).mono ?_); rintro e u ⟨rfl, rfl⟩)
  go_ret2
  exact ⟨rfl, (Below.refl _ _).alloc (Nat.le_refl _) _⟩

theorem vmay_0a_nil (a b lo hi at_ : Int) (L : Value) (w : World) (hb : 0 ≤ b ∧ b < 4294967296)  :
    Calls Try.prog 50 #[.pointer none, inV 64778 a b lo hi L, .int .u32 at_, .bool false] w fun e w' => e = .returned (.tuple #[.int .u64 0, .int .i64 2]) ∧ Below w.heap.size w w' := by
  have HS := Lib.hid (fun W => vsize_0a W)
  go_enter Try.func50, Try.ntmps50
  go_wp2_with (go_at_call 34; (with_reducible refine (HS.out _).mono ?_); rintro e u ⟨rfl, rfl⟩)
  go_region
  go_wp2_with fail
  go_ret2
  exact ⟨rfl, ((Below.refl _ _).alloc (Nat.le_refl _) _).drew⟩

theorem vmay_0b_not (p : Value) (a b lo hi at_ : Int) (L : Value) (w : World)  :
    Calls Try.prog 50 #[p, inV 64779 a b lo hi L, .int .u32 at_, .bool false] w fun e w' => e = .returned (.tuple #[.int .u64 0, .int .i64 1]) ∧ Below w.heap.size w w' := by
  have HS := Lib.hid (fun W => vsize_0b W)
  go_enter Try.func50, Try.ntmps50
  go_wp2_with (go_at_call 34; (with_reducible refine (HS.out _).mono ?_); rintro e u ⟨rfl, rfl⟩)
  go_ret2
  exact ⟨rfl, (Below.refl _ _).alloc (Nat.le_refl _) _⟩

theorem vmay_0b_neg (p : Value) (a b lo hi at_ : Int) (L : Value) (w : World) (h : b < 0) :
    Calls Try.prog 50 #[p, inV 64779 a b lo hi L, .int .u32 at_, .bool true] w fun e w' => e = .returned (.tuple #[.int .u64 0, .int .i64 1]) ∧ Below w.heap.size w w' := by
  have HS := Lib.hid (fun W => vsize_0b W)
  go_enter Try.func50, Try.ntmps50
  go_wp2_with (go_at_call 34; (with_reducible refine (HS.out _).mono ?_); rintro e u ⟨rfl, rfl⟩)
  go_ret2
  exact ⟨rfl, (Below.refl _ _).alloc (Nat.le_refl _) _⟩

theorem vmay_0b_big (p : Value) (a b lo hi at_ : Int) (L : Value) (w : World) (h : 4294967296 ≤ b) :
    Calls Try.prog 50 #[p, inV 64779 a b lo hi L, .int .u32 at_, .bool true] w fun e w' => e = .returned (.tuple #[.int .u64 0, .int .i64 1]) ∧ Below w.heap.size w w' := by
  have HS := Lib.hid (fun W => vsize_0b W)
  go_enter Try.func50, Try.ntmps50
  go_wp2_with (go_at_call 34; (with_reducible refine (HS.out _).mono ?_); rintro e u ⟨rfl, rfl⟩)
  go_ret2
  exact ⟨rfl, (Below.refl _ _).alloc (Nat.le_refl _) _⟩

theorem vmay_0b_nil (a b lo hi at_ : Int) (L : Value) (w : World) (hb : 0 ≤ b ∧ b < 4294967296)  :
    Calls Try.prog 50 #[.pointer none, inV 64779 a b lo hi L, .int .u32 at_, .bool true] w fun e w' => e = .returned (.tuple #[.int .u64 0, .int .i64 2]) ∧ Below w.heap.size w w' := by
  have HS := Lib.hid (fun W => vsize_0b W)
  go_enter Try.func50, Try.ntmps50
  go_wp2_with (go_at_call 34; (with_reducible refine (HS.out _).mono ?_); rintro e u ⟨rfl, rfl⟩)
  go_region
  go_wp2_with fail
  go_ret2
  exact ⟨rfl, ((Below.refl _ _).alloc (Nat.le_refl _) _).drew⟩

theorem vmay_54_not (p : Value) (a b lo hi at_ : Int) (L : Value) (w : World)  :
    Calls Try.prog 50 #[p, inV 64852 a b lo hi L, .int .u32 at_, .bool true] w fun e w' => e = .returned (.tuple #[.int .u64 0, .int .i64 1]) ∧ Below w.heap.size w w' := by
  have HS := Lib.hid (fun W => vsize_54 W)
  go_enter Try.func50, Try.ntmps50
  go_wp2_with (go_at_call 34; (with_reducible refine (HS.out _).mono ?_); rintro e u ⟨rfl, rfl⟩)
  go_ret2
  exact ⟨rfl, (Below.refl _ _).alloc (Nat.le_refl _) _⟩

theorem vmay_54_neg (p : Value) (a b lo hi at_ : Int) (L : Value) (w : World) (h : b < 0) :
    Calls Try.prog 50 #[p, inV 64852 a b lo hi L, .int .u32 at_, .bool false] w fun e w' => e = .returned (.tuple #[.int .u64 0, .int .i64 1]) ∧ Below w.heap.size w w' := by
  have HS := Lib.hid (fun W => vsize_54 W)
  go_enter Try.func50, Try.ntmps50
  go_wp2_with (go_at_call 34; (with_reducible refine (HS.out _).mono ?_); rintro e u ⟨rfl, rfl⟩)
  go_ret2
  exact ⟨rfl, (Below.refl _ _).alloc (Nat.le_refl _) _⟩

theorem vmay_54_big (p : Value) (a b lo hi at_ : Int) (L : Value) (w : World) (h : 4294967296 ≤ b) :
    Calls Try.prog 50 #[p, inV 64852 a b lo hi L, .int .u32 at_, .bool false] w fun e w' => e = .returned (.tuple #[.int .u64 0, .int .i64 1]) ∧ Below w.heap.size w w' := by
  have HS := Lib.hid (fun W => vsize_54 W)
  go_enter Try.func50, Try.ntmps50
  go_wp2_with (go_at_call 34; (with_reducible refine (HS.out _).mono ?_); rintro e u ⟨rfl, rfl⟩)
  go_ret2
  exact ⟨rfl, (Below.refl _ _).alloc (Nat.le_refl _) _⟩

theorem vmay_54_lane (p : Value) (a b lo hi at_ : Int) (L : Value) (w : World) (hb : 0 ≤ b ∧ b < 4294967296) (h : 16 ≤ lo) :
    Calls Try.prog 50 #[p, inV 64852 a b lo hi L, .int .u32 at_, .bool false] w fun e w' => e = .returned (.tuple #[.int .u64 0, .int .i64 1]) ∧ Below w.heap.size w w' := by
  have HS := Lib.hid (fun W => vsize_54 W)
  go_enter Try.func50, Try.ntmps50
  go_wp2_with (go_at_call 34; (with_reducible refine (HS.out _).mono ?_); rintro e u ⟨rfl, rfl⟩)
  go_region
  go_wp2_with fail
  go_ret2
  exact ⟨rfl, ((Below.refl _ _).alloc (Nat.le_refl _) _).drew⟩

theorem vmay_54_nil (a b lo hi at_ : Int) (L : Value) (w : World) (hb : 0 ≤ b ∧ b < 4294967296) (hl : 0 ≤ lo ∧ lo < 16) :
    Calls Try.prog 50 #[.pointer none, inV 64852 a b lo hi L, .int .u32 at_, .bool false] w fun e w' => e = .returned (.tuple #[.int .u64 0, .int .i64 2]) ∧ Below w.heap.size w w' := by
  have HS := Lib.hid (fun W => vsize_54 W)
  go_enter Try.func50, Try.ntmps50
  go_wp2_with (go_at_call 34; (with_reducible refine (HS.out _).mono ?_); rintro e u ⟨rfl, rfl⟩)
  go_region
  go_wp2_with fail
  go_ret2
  exact ⟨rfl, ((Below.refl _ _).alloc (Nat.le_refl _) _).drew⟩

theorem vmay_55_not (p : Value) (a b lo hi at_ : Int) (L : Value) (w : World)  :
    Calls Try.prog 50 #[p, inV 64853 a b lo hi L, .int .u32 at_, .bool true] w fun e w' => e = .returned (.tuple #[.int .u64 0, .int .i64 1]) ∧ Below w.heap.size w w' := by
  have HS := Lib.hid (fun W => vsize_55 W)
  go_enter Try.func50, Try.ntmps50
  go_wp2_with (go_at_call 34; (with_reducible refine (HS.out _).mono ?_); rintro e u ⟨rfl, rfl⟩)
  go_ret2
  exact ⟨rfl, (Below.refl _ _).alloc (Nat.le_refl _) _⟩

theorem vmay_55_neg (p : Value) (a b lo hi at_ : Int) (L : Value) (w : World) (h : b < 0) :
    Calls Try.prog 50 #[p, inV 64853 a b lo hi L, .int .u32 at_, .bool false] w fun e w' => e = .returned (.tuple #[.int .u64 0, .int .i64 1]) ∧ Below w.heap.size w w' := by
  have HS := Lib.hid (fun W => vsize_55 W)
  go_enter Try.func50, Try.ntmps50
  go_wp2_with (go_at_call 34; (with_reducible refine (HS.out _).mono ?_); rintro e u ⟨rfl, rfl⟩)
  go_ret2
  exact ⟨rfl, (Below.refl _ _).alloc (Nat.le_refl _) _⟩

theorem vmay_55_big (p : Value) (a b lo hi at_ : Int) (L : Value) (w : World) (h : 4294967296 ≤ b) :
    Calls Try.prog 50 #[p, inV 64853 a b lo hi L, .int .u32 at_, .bool false] w fun e w' => e = .returned (.tuple #[.int .u64 0, .int .i64 1]) ∧ Below w.heap.size w w' := by
  have HS := Lib.hid (fun W => vsize_55 W)
  go_enter Try.func50, Try.ntmps50
  go_wp2_with (go_at_call 34; (with_reducible refine (HS.out _).mono ?_); rintro e u ⟨rfl, rfl⟩)
  go_ret2
  exact ⟨rfl, (Below.refl _ _).alloc (Nat.le_refl _) _⟩

theorem vmay_55_lane (p : Value) (a b lo hi at_ : Int) (L : Value) (w : World) (hb : 0 ≤ b ∧ b < 4294967296) (h : 8 ≤ lo) :
    Calls Try.prog 50 #[p, inV 64853 a b lo hi L, .int .u32 at_, .bool false] w fun e w' => e = .returned (.tuple #[.int .u64 0, .int .i64 1]) ∧ Below w.heap.size w w' := by
  have HS := Lib.hid (fun W => vsize_55 W)
  go_enter Try.func50, Try.ntmps50
  go_wp2_with (go_at_call 34; (with_reducible refine (HS.out _).mono ?_); rintro e u ⟨rfl, rfl⟩)
  go_region
  go_wp2_with fail
  go_ret2
  exact ⟨rfl, ((Below.refl _ _).alloc (Nat.le_refl _) _).drew⟩

theorem vmay_55_nil (a b lo hi at_ : Int) (L : Value) (w : World) (hb : 0 ≤ b ∧ b < 4294967296) (hl : 0 ≤ lo ∧ lo < 8) :
    Calls Try.prog 50 #[.pointer none, inV 64853 a b lo hi L, .int .u32 at_, .bool false] w fun e w' => e = .returned (.tuple #[.int .u64 0, .int .i64 2]) ∧ Below w.heap.size w w' := by
  have HS := Lib.hid (fun W => vsize_55 W)
  go_enter Try.func50, Try.ntmps50
  go_wp2_with (go_at_call 34; (with_reducible refine (HS.out _).mono ?_); rintro e u ⟨rfl, rfl⟩)
  go_region
  go_wp2_with fail
  go_ret2
  exact ⟨rfl, ((Below.refl _ _).alloc (Nat.le_refl _) _).drew⟩

theorem vmay_56_not (p : Value) (a b lo hi at_ : Int) (L : Value) (w : World)  :
    Calls Try.prog 50 #[p, inV 64854 a b lo hi L, .int .u32 at_, .bool true] w fun e w' => e = .returned (.tuple #[.int .u64 0, .int .i64 1]) ∧ Below w.heap.size w w' := by
  have HS := Lib.hid (fun W => vsize_56 W)
  go_enter Try.func50, Try.ntmps50
  go_wp2_with (go_at_call 34; (with_reducible refine (HS.out _).mono ?_); rintro e u ⟨rfl, rfl⟩)
  go_ret2
  exact ⟨rfl, (Below.refl _ _).alloc (Nat.le_refl _) _⟩

theorem vmay_56_neg (p : Value) (a b lo hi at_ : Int) (L : Value) (w : World) (h : b < 0) :
    Calls Try.prog 50 #[p, inV 64854 a b lo hi L, .int .u32 at_, .bool false] w fun e w' => e = .returned (.tuple #[.int .u64 0, .int .i64 1]) ∧ Below w.heap.size w w' := by
  have HS := Lib.hid (fun W => vsize_56 W)
  go_enter Try.func50, Try.ntmps50
  go_wp2_with (go_at_call 34; (with_reducible refine (HS.out _).mono ?_); rintro e u ⟨rfl, rfl⟩)
  go_ret2
  exact ⟨rfl, (Below.refl _ _).alloc (Nat.le_refl _) _⟩

theorem vmay_56_big (p : Value) (a b lo hi at_ : Int) (L : Value) (w : World) (h : 4294967296 ≤ b) :
    Calls Try.prog 50 #[p, inV 64854 a b lo hi L, .int .u32 at_, .bool false] w fun e w' => e = .returned (.tuple #[.int .u64 0, .int .i64 1]) ∧ Below w.heap.size w w' := by
  have HS := Lib.hid (fun W => vsize_56 W)
  go_enter Try.func50, Try.ntmps50
  go_wp2_with (go_at_call 34; (with_reducible refine (HS.out _).mono ?_); rintro e u ⟨rfl, rfl⟩)
  go_ret2
  exact ⟨rfl, (Below.refl _ _).alloc (Nat.le_refl _) _⟩

theorem vmay_56_lane (p : Value) (a b lo hi at_ : Int) (L : Value) (w : World) (hb : 0 ≤ b ∧ b < 4294967296) (h : 4 ≤ lo) :
    Calls Try.prog 50 #[p, inV 64854 a b lo hi L, .int .u32 at_, .bool false] w fun e w' => e = .returned (.tuple #[.int .u64 0, .int .i64 1]) ∧ Below w.heap.size w w' := by
  have HS := Lib.hid (fun W => vsize_56 W)
  go_enter Try.func50, Try.ntmps50
  go_wp2_with (go_at_call 34; (with_reducible refine (HS.out _).mono ?_); rintro e u ⟨rfl, rfl⟩)
  go_region
  go_wp2_with fail
  go_ret2
  exact ⟨rfl, ((Below.refl _ _).alloc (Nat.le_refl _) _).drew⟩

theorem vmay_56_nil (a b lo hi at_ : Int) (L : Value) (w : World) (hb : 0 ≤ b ∧ b < 4294967296) (hl : 0 ≤ lo ∧ lo < 4) :
    Calls Try.prog 50 #[.pointer none, inV 64854 a b lo hi L, .int .u32 at_, .bool false] w fun e w' => e = .returned (.tuple #[.int .u64 0, .int .i64 2]) ∧ Below w.heap.size w w' := by
  have HS := Lib.hid (fun W => vsize_56 W)
  go_enter Try.func50, Try.ntmps50
  go_wp2_with (go_at_call 34; (with_reducible refine (HS.out _).mono ?_); rintro e u ⟨rfl, rfl⟩)
  go_region
  go_wp2_with fail
  go_ret2
  exact ⟨rfl, ((Below.refl _ _).alloc (Nat.le_refl _) _).drew⟩

theorem vmay_57_not (p : Value) (a b lo hi at_ : Int) (L : Value) (w : World)  :
    Calls Try.prog 50 #[p, inV 64855 a b lo hi L, .int .u32 at_, .bool true] w fun e w' => e = .returned (.tuple #[.int .u64 0, .int .i64 1]) ∧ Below w.heap.size w w' := by
  have HS := Lib.hid (fun W => vsize_57 W)
  go_enter Try.func50, Try.ntmps50
  go_wp2_with (go_at_call 34; (with_reducible refine (HS.out _).mono ?_); rintro e u ⟨rfl, rfl⟩)
  go_ret2
  exact ⟨rfl, (Below.refl _ _).alloc (Nat.le_refl _) _⟩

theorem vmay_57_neg (p : Value) (a b lo hi at_ : Int) (L : Value) (w : World) (h : b < 0) :
    Calls Try.prog 50 #[p, inV 64855 a b lo hi L, .int .u32 at_, .bool false] w fun e w' => e = .returned (.tuple #[.int .u64 0, .int .i64 1]) ∧ Below w.heap.size w w' := by
  have HS := Lib.hid (fun W => vsize_57 W)
  go_enter Try.func50, Try.ntmps50
  go_wp2_with (go_at_call 34; (with_reducible refine (HS.out _).mono ?_); rintro e u ⟨rfl, rfl⟩)
  go_ret2
  exact ⟨rfl, (Below.refl _ _).alloc (Nat.le_refl _) _⟩

theorem vmay_57_big (p : Value) (a b lo hi at_ : Int) (L : Value) (w : World) (h : 4294967296 ≤ b) :
    Calls Try.prog 50 #[p, inV 64855 a b lo hi L, .int .u32 at_, .bool false] w fun e w' => e = .returned (.tuple #[.int .u64 0, .int .i64 1]) ∧ Below w.heap.size w w' := by
  have HS := Lib.hid (fun W => vsize_57 W)
  go_enter Try.func50, Try.ntmps50
  go_wp2_with (go_at_call 34; (with_reducible refine (HS.out _).mono ?_); rintro e u ⟨rfl, rfl⟩)
  go_ret2
  exact ⟨rfl, (Below.refl _ _).alloc (Nat.le_refl _) _⟩

theorem vmay_57_lane (p : Value) (a b lo hi at_ : Int) (L : Value) (w : World) (hb : 0 ≤ b ∧ b < 4294967296) (h : 2 ≤ lo) :
    Calls Try.prog 50 #[p, inV 64855 a b lo hi L, .int .u32 at_, .bool false] w fun e w' => e = .returned (.tuple #[.int .u64 0, .int .i64 1]) ∧ Below w.heap.size w w' := by
  have HS := Lib.hid (fun W => vsize_57 W)
  go_enter Try.func50, Try.ntmps50
  go_wp2_with (go_at_call 34; (with_reducible refine (HS.out _).mono ?_); rintro e u ⟨rfl, rfl⟩)
  go_region
  go_wp2_with fail
  go_ret2
  exact ⟨rfl, ((Below.refl _ _).alloc (Nat.le_refl _) _).drew⟩

theorem vmay_57_nil (a b lo hi at_ : Int) (L : Value) (w : World) (hb : 0 ≤ b ∧ b < 4294967296) (hl : 0 ≤ lo ∧ lo < 2) :
    Calls Try.prog 50 #[.pointer none, inV 64855 a b lo hi L, .int .u32 at_, .bool false] w fun e w' => e = .returned (.tuple #[.int .u64 0, .int .i64 2]) ∧ Below w.heap.size w w' := by
  have HS := Lib.hid (fun W => vsize_57 W)
  go_enter Try.func50, Try.ntmps50
  go_wp2_with (go_at_call 34; (with_reducible refine (HS.out _).mono ?_); rintro e u ⟨rfl, rfl⟩)
  go_region
  go_wp2_with fail
  go_ret2
  exact ⟨rfl, ((Below.refl _ _).alloc (Nat.le_refl _) _).drew⟩

theorem vmay_58_not (p : Value) (a b lo hi at_ : Int) (L : Value) (w : World)  :
    Calls Try.prog 50 #[p, inV 64856 a b lo hi L, .int .u32 at_, .bool false] w fun e w' => e = .returned (.tuple #[.int .u64 0, .int .i64 1]) ∧ Below w.heap.size w w' := by
  have HS := Lib.hid (fun W => vsize_58 W)
  go_enter Try.func50, Try.ntmps50
  go_wp2_with (go_at_call 34; (with_reducible refine (HS.out _).mono ?_); rintro e u ⟨rfl, rfl⟩)
  go_ret2
  exact ⟨rfl, (Below.refl _ _).alloc (Nat.le_refl _) _⟩

theorem vmay_58_neg (p : Value) (a b lo hi at_ : Int) (L : Value) (w : World) (h : b < 0) :
    Calls Try.prog 50 #[p, inV 64856 a b lo hi L, .int .u32 at_, .bool true] w fun e w' => e = .returned (.tuple #[.int .u64 0, .int .i64 1]) ∧ Below w.heap.size w w' := by
  have HS := Lib.hid (fun W => vsize_58 W)
  go_enter Try.func50, Try.ntmps50
  go_wp2_with (go_at_call 34; (with_reducible refine (HS.out _).mono ?_); rintro e u ⟨rfl, rfl⟩)
  go_ret2
  exact ⟨rfl, (Below.refl _ _).alloc (Nat.le_refl _) _⟩

theorem vmay_58_big (p : Value) (a b lo hi at_ : Int) (L : Value) (w : World) (h : 4294967296 ≤ b) :
    Calls Try.prog 50 #[p, inV 64856 a b lo hi L, .int .u32 at_, .bool true] w fun e w' => e = .returned (.tuple #[.int .u64 0, .int .i64 1]) ∧ Below w.heap.size w w' := by
  have HS := Lib.hid (fun W => vsize_58 W)
  go_enter Try.func50, Try.ntmps50
  go_wp2_with (go_at_call 34; (with_reducible refine (HS.out _).mono ?_); rintro e u ⟨rfl, rfl⟩)
  go_ret2
  exact ⟨rfl, (Below.refl _ _).alloc (Nat.le_refl _) _⟩

theorem vmay_58_lane (p : Value) (a b lo hi at_ : Int) (L : Value) (w : World) (hb : 0 ≤ b ∧ b < 4294967296) (h : 16 ≤ lo) :
    Calls Try.prog 50 #[p, inV 64856 a b lo hi L, .int .u32 at_, .bool true] w fun e w' => e = .returned (.tuple #[.int .u64 0, .int .i64 1]) ∧ Below w.heap.size w w' := by
  have HS := Lib.hid (fun W => vsize_58 W)
  go_enter Try.func50, Try.ntmps50
  go_wp2_with (go_at_call 34; (with_reducible refine (HS.out _).mono ?_); rintro e u ⟨rfl, rfl⟩)
  go_region
  go_wp2_with fail
  go_ret2
  exact ⟨rfl, ((Below.refl _ _).alloc (Nat.le_refl _) _).drew⟩

theorem vmay_58_nil (a b lo hi at_ : Int) (L : Value) (w : World) (hb : 0 ≤ b ∧ b < 4294967296) (hl : 0 ≤ lo ∧ lo < 16) :
    Calls Try.prog 50 #[.pointer none, inV 64856 a b lo hi L, .int .u32 at_, .bool true] w fun e w' => e = .returned (.tuple #[.int .u64 0, .int .i64 2]) ∧ Below w.heap.size w w' := by
  have HS := Lib.hid (fun W => vsize_58 W)
  go_enter Try.func50, Try.ntmps50
  go_wp2_with (go_at_call 34; (with_reducible refine (HS.out _).mono ?_); rintro e u ⟨rfl, rfl⟩)
  go_region
  go_wp2_with fail
  go_ret2
  exact ⟨rfl, ((Below.refl _ _).alloc (Nat.le_refl _) _).drew⟩

theorem vmay_59_not (p : Value) (a b lo hi at_ : Int) (L : Value) (w : World)  :
    Calls Try.prog 50 #[p, inV 64857 a b lo hi L, .int .u32 at_, .bool false] w fun e w' => e = .returned (.tuple #[.int .u64 0, .int .i64 1]) ∧ Below w.heap.size w w' := by
  have HS := Lib.hid (fun W => vsize_59 W)
  go_enter Try.func50, Try.ntmps50
  go_wp2_with (go_at_call 34; (with_reducible refine (HS.out _).mono ?_); rintro e u ⟨rfl, rfl⟩)
  go_ret2
  exact ⟨rfl, (Below.refl _ _).alloc (Nat.le_refl _) _⟩

theorem vmay_59_neg (p : Value) (a b lo hi at_ : Int) (L : Value) (w : World) (h : b < 0) :
    Calls Try.prog 50 #[p, inV 64857 a b lo hi L, .int .u32 at_, .bool true] w fun e w' => e = .returned (.tuple #[.int .u64 0, .int .i64 1]) ∧ Below w.heap.size w w' := by
  have HS := Lib.hid (fun W => vsize_59 W)
  go_enter Try.func50, Try.ntmps50
  go_wp2_with (go_at_call 34; (with_reducible refine (HS.out _).mono ?_); rintro e u ⟨rfl, rfl⟩)
  go_ret2
  exact ⟨rfl, (Below.refl _ _).alloc (Nat.le_refl _) _⟩

theorem vmay_59_big (p : Value) (a b lo hi at_ : Int) (L : Value) (w : World) (h : 4294967296 ≤ b) :
    Calls Try.prog 50 #[p, inV 64857 a b lo hi L, .int .u32 at_, .bool true] w fun e w' => e = .returned (.tuple #[.int .u64 0, .int .i64 1]) ∧ Below w.heap.size w w' := by
  have HS := Lib.hid (fun W => vsize_59 W)
  go_enter Try.func50, Try.ntmps50
  go_wp2_with (go_at_call 34; (with_reducible refine (HS.out _).mono ?_); rintro e u ⟨rfl, rfl⟩)
  go_ret2
  exact ⟨rfl, (Below.refl _ _).alloc (Nat.le_refl _) _⟩

theorem vmay_59_lane (p : Value) (a b lo hi at_ : Int) (L : Value) (w : World) (hb : 0 ≤ b ∧ b < 4294967296) (h : 8 ≤ lo) :
    Calls Try.prog 50 #[p, inV 64857 a b lo hi L, .int .u32 at_, .bool true] w fun e w' => e = .returned (.tuple #[.int .u64 0, .int .i64 1]) ∧ Below w.heap.size w w' := by
  have HS := Lib.hid (fun W => vsize_59 W)
  go_enter Try.func50, Try.ntmps50
  go_wp2_with (go_at_call 34; (with_reducible refine (HS.out _).mono ?_); rintro e u ⟨rfl, rfl⟩)
  go_region
  go_wp2_with fail
  go_ret2
  exact ⟨rfl, ((Below.refl _ _).alloc (Nat.le_refl _) _).drew⟩

theorem vmay_59_nil (a b lo hi at_ : Int) (L : Value) (w : World) (hb : 0 ≤ b ∧ b < 4294967296) (hl : 0 ≤ lo ∧ lo < 8) :
    Calls Try.prog 50 #[.pointer none, inV 64857 a b lo hi L, .int .u32 at_, .bool true] w fun e w' => e = .returned (.tuple #[.int .u64 0, .int .i64 2]) ∧ Below w.heap.size w w' := by
  have HS := Lib.hid (fun W => vsize_59 W)
  go_enter Try.func50, Try.ntmps50
  go_wp2_with (go_at_call 34; (with_reducible refine (HS.out _).mono ?_); rintro e u ⟨rfl, rfl⟩)
  go_region
  go_wp2_with fail
  go_ret2
  exact ⟨rfl, ((Below.refl _ _).alloc (Nat.le_refl _) _).drew⟩

theorem vmay_5a_not (p : Value) (a b lo hi at_ : Int) (L : Value) (w : World)  :
    Calls Try.prog 50 #[p, inV 64858 a b lo hi L, .int .u32 at_, .bool false] w fun e w' => e = .returned (.tuple #[.int .u64 0, .int .i64 1]) ∧ Below w.heap.size w w' := by
  have HS := Lib.hid (fun W => vsize_5a W)
  go_enter Try.func50, Try.ntmps50
  go_wp2_with (go_at_call 34; (with_reducible refine (HS.out _).mono ?_); rintro e u ⟨rfl, rfl⟩)
  go_ret2
  exact ⟨rfl, (Below.refl _ _).alloc (Nat.le_refl _) _⟩

theorem vmay_5a_neg (p : Value) (a b lo hi at_ : Int) (L : Value) (w : World) (h : b < 0) :
    Calls Try.prog 50 #[p, inV 64858 a b lo hi L, .int .u32 at_, .bool true] w fun e w' => e = .returned (.tuple #[.int .u64 0, .int .i64 1]) ∧ Below w.heap.size w w' := by
  have HS := Lib.hid (fun W => vsize_5a W)
  go_enter Try.func50, Try.ntmps50
  go_wp2_with (go_at_call 34; (with_reducible refine (HS.out _).mono ?_); rintro e u ⟨rfl, rfl⟩)
  go_ret2
  exact ⟨rfl, (Below.refl _ _).alloc (Nat.le_refl _) _⟩

theorem vmay_5a_big (p : Value) (a b lo hi at_ : Int) (L : Value) (w : World) (h : 4294967296 ≤ b) :
    Calls Try.prog 50 #[p, inV 64858 a b lo hi L, .int .u32 at_, .bool true] w fun e w' => e = .returned (.tuple #[.int .u64 0, .int .i64 1]) ∧ Below w.heap.size w w' := by
  have HS := Lib.hid (fun W => vsize_5a W)
  go_enter Try.func50, Try.ntmps50
  go_wp2_with (go_at_call 34; (with_reducible refine (HS.out _).mono ?_); rintro e u ⟨rfl, rfl⟩)
  go_ret2
  exact ⟨rfl, (Below.refl _ _).alloc (Nat.le_refl _) _⟩

theorem vmay_5a_lane (p : Value) (a b lo hi at_ : Int) (L : Value) (w : World) (hb : 0 ≤ b ∧ b < 4294967296) (h : 4 ≤ lo) :
    Calls Try.prog 50 #[p, inV 64858 a b lo hi L, .int .u32 at_, .bool true] w fun e w' => e = .returned (.tuple #[.int .u64 0, .int .i64 1]) ∧ Below w.heap.size w w' := by
  have HS := Lib.hid (fun W => vsize_5a W)
  go_enter Try.func50, Try.ntmps50
  go_wp2_with (go_at_call 34; (with_reducible refine (HS.out _).mono ?_); rintro e u ⟨rfl, rfl⟩)
  go_region
  go_wp2_with fail
  go_ret2
  exact ⟨rfl, ((Below.refl _ _).alloc (Nat.le_refl _) _).drew⟩

theorem vmay_5a_nil (a b lo hi at_ : Int) (L : Value) (w : World) (hb : 0 ≤ b ∧ b < 4294967296) (hl : 0 ≤ lo ∧ lo < 4) :
    Calls Try.prog 50 #[.pointer none, inV 64858 a b lo hi L, .int .u32 at_, .bool true] w fun e w' => e = .returned (.tuple #[.int .u64 0, .int .i64 2]) ∧ Below w.heap.size w w' := by
  have HS := Lib.hid (fun W => vsize_5a W)
  go_enter Try.func50, Try.ntmps50
  go_wp2_with (go_at_call 34; (with_reducible refine (HS.out _).mono ?_); rintro e u ⟨rfl, rfl⟩)
  go_region
  go_wp2_with fail
  go_ret2
  exact ⟨rfl, ((Below.refl _ _).alloc (Nat.le_refl _) _).drew⟩

theorem vmay_5b_not (p : Value) (a b lo hi at_ : Int) (L : Value) (w : World)  :
    Calls Try.prog 50 #[p, inV 64859 a b lo hi L, .int .u32 at_, .bool false] w fun e w' => e = .returned (.tuple #[.int .u64 0, .int .i64 1]) ∧ Below w.heap.size w w' := by
  have HS := Lib.hid (fun W => vsize_5b W)
  go_enter Try.func50, Try.ntmps50
  go_wp2_with (go_at_call 34; (with_reducible refine (HS.out _).mono ?_); rintro e u ⟨rfl, rfl⟩)
  go_ret2
  exact ⟨rfl, (Below.refl _ _).alloc (Nat.le_refl _) _⟩

theorem vmay_5b_neg (p : Value) (a b lo hi at_ : Int) (L : Value) (w : World) (h : b < 0) :
    Calls Try.prog 50 #[p, inV 64859 a b lo hi L, .int .u32 at_, .bool true] w fun e w' => e = .returned (.tuple #[.int .u64 0, .int .i64 1]) ∧ Below w.heap.size w w' := by
  have HS := Lib.hid (fun W => vsize_5b W)
  go_enter Try.func50, Try.ntmps50
  go_wp2_with (go_at_call 34; (with_reducible refine (HS.out _).mono ?_); rintro e u ⟨rfl, rfl⟩)
  go_ret2
  exact ⟨rfl, (Below.refl _ _).alloc (Nat.le_refl _) _⟩

theorem vmay_5b_big (p : Value) (a b lo hi at_ : Int) (L : Value) (w : World) (h : 4294967296 ≤ b) :
    Calls Try.prog 50 #[p, inV 64859 a b lo hi L, .int .u32 at_, .bool true] w fun e w' => e = .returned (.tuple #[.int .u64 0, .int .i64 1]) ∧ Below w.heap.size w w' := by
  have HS := Lib.hid (fun W => vsize_5b W)
  go_enter Try.func50, Try.ntmps50
  go_wp2_with (go_at_call 34; (with_reducible refine (HS.out _).mono ?_); rintro e u ⟨rfl, rfl⟩)
  go_ret2
  exact ⟨rfl, (Below.refl _ _).alloc (Nat.le_refl _) _⟩

theorem vmay_5b_lane (p : Value) (a b lo hi at_ : Int) (L : Value) (w : World) (hb : 0 ≤ b ∧ b < 4294967296) (h : 2 ≤ lo) :
    Calls Try.prog 50 #[p, inV 64859 a b lo hi L, .int .u32 at_, .bool true] w fun e w' => e = .returned (.tuple #[.int .u64 0, .int .i64 1]) ∧ Below w.heap.size w w' := by
  have HS := Lib.hid (fun W => vsize_5b W)
  go_enter Try.func50, Try.ntmps50
  go_wp2_with (go_at_call 34; (with_reducible refine (HS.out _).mono ?_); rintro e u ⟨rfl, rfl⟩)
  go_region
  go_wp2_with fail
  go_ret2
  exact ⟨rfl, ((Below.refl _ _).alloc (Nat.le_refl _) _).drew⟩

theorem vmay_5b_nil (a b lo hi at_ : Int) (L : Value) (w : World) (hb : 0 ≤ b ∧ b < 4294967296) (hl : 0 ≤ lo ∧ lo < 2) :
    Calls Try.prog 50 #[.pointer none, inV 64859 a b lo hi L, .int .u32 at_, .bool true] w fun e w' => e = .returned (.tuple #[.int .u64 0, .int .i64 2]) ∧ Below w.heap.size w w' := by
  have HS := Lib.hid (fun W => vsize_5b W)
  go_enter Try.func50, Try.ntmps50
  go_wp2_with (go_at_call 34; (with_reducible refine (HS.out _).mono ?_); rintro e u ⟨rfl, rfl⟩)
  go_region
  go_wp2_with fail
  go_ret2
  exact ⟨rfl, ((Below.refl _ _).alloc (Nat.le_refl _) _).drew⟩

theorem vmay_5c_not (p : Value) (a b lo hi at_ : Int) (L : Value) (w : World)  :
    Calls Try.prog 50 #[p, inV 64860 a b lo hi L, .int .u32 at_, .bool true] w fun e w' => e = .returned (.tuple #[.int .u64 0, .int .i64 1]) ∧ Below w.heap.size w w' := by
  have HS := Lib.hid (fun W => vsize_5c W)
  go_enter Try.func50, Try.ntmps50
  go_wp2_with (go_at_call 34; (with_reducible refine (HS.out _).mono ?_); rintro e u ⟨rfl, rfl⟩)
  go_ret2
  exact ⟨rfl, (Below.refl _ _).alloc (Nat.le_refl _) _⟩

theorem vmay_5c_neg (p : Value) (a b lo hi at_ : Int) (L : Value) (w : World) (h : b < 0) :
    Calls Try.prog 50 #[p, inV 64860 a b lo hi L, .int .u32 at_, .bool false] w fun e w' => e = .returned (.tuple #[.int .u64 0, .int .i64 1]) ∧ Below w.heap.size w w' := by
  have HS := Lib.hid (fun W => vsize_5c W)
  go_enter Try.func50, Try.ntmps50
  go_wp2_with (go_at_call 34; (with_reducible refine (HS.out _).mono ?_); rintro e u ⟨rfl, rfl⟩)
  go_ret2
  exact ⟨rfl, (Below.refl _ _).alloc (Nat.le_refl _) _⟩

theorem vmay_5c_big (p : Value) (a b lo hi at_ : Int) (L : Value) (w : World) (h : 4294967296 ≤ b) :
    Calls Try.prog 50 #[p, inV 64860 a b lo hi L, .int .u32 at_, .bool false] w fun e w' => e = .returned (.tuple #[.int .u64 0, .int .i64 1]) ∧ Below w.heap.size w w' := by
  have HS := Lib.hid (fun W => vsize_5c W)
  go_enter Try.func50, Try.ntmps50
  go_wp2_with (go_at_call 34; (with_reducible refine (HS.out _).mono ?_); rintro e u ⟨rfl, rfl⟩)
  go_ret2
  exact ⟨rfl, (Below.refl _ _).alloc (Nat.le_refl _) _⟩

theorem vmay_5c_nil (a b lo hi at_ : Int) (L : Value) (w : World) (hb : 0 ≤ b ∧ b < 4294967296)  :
    Calls Try.prog 50 #[.pointer none, inV 64860 a b lo hi L, .int .u32 at_, .bool false] w fun e w' => e = .returned (.tuple #[.int .u64 0, .int .i64 2]) ∧ Below w.heap.size w w' := by
  have HS := Lib.hid (fun W => vsize_5c W)
  go_enter Try.func50, Try.ntmps50
  go_wp2_with (go_at_call 34; (with_reducible refine (HS.out _).mono ?_); rintro e u ⟨rfl, rfl⟩)
  go_region
  go_wp2_with fail
  go_ret2
  exact ⟨rfl, ((Below.refl _ _).alloc (Nat.le_refl _) _).drew⟩

theorem vmay_5d_not (p : Value) (a b lo hi at_ : Int) (L : Value) (w : World)  :
    Calls Try.prog 50 #[p, inV 64861 a b lo hi L, .int .u32 at_, .bool true] w fun e w' => e = .returned (.tuple #[.int .u64 0, .int .i64 1]) ∧ Below w.heap.size w w' := by
  have HS := Lib.hid (fun W => vsize_5d W)
  go_enter Try.func50, Try.ntmps50
  go_wp2_with (go_at_call 34; (with_reducible refine (HS.out _).mono ?_); rintro e u ⟨rfl, rfl⟩)
  go_ret2
  exact ⟨rfl, (Below.refl _ _).alloc (Nat.le_refl _) _⟩

theorem vmay_5d_neg (p : Value) (a b lo hi at_ : Int) (L : Value) (w : World) (h : b < 0) :
    Calls Try.prog 50 #[p, inV 64861 a b lo hi L, .int .u32 at_, .bool false] w fun e w' => e = .returned (.tuple #[.int .u64 0, .int .i64 1]) ∧ Below w.heap.size w w' := by
  have HS := Lib.hid (fun W => vsize_5d W)
  go_enter Try.func50, Try.ntmps50
  go_wp2_with (go_at_call 34; (with_reducible refine (HS.out _).mono ?_); rintro e u ⟨rfl, rfl⟩)
  go_ret2
  exact ⟨rfl, (Below.refl _ _).alloc (Nat.le_refl _) _⟩

theorem vmay_5d_big (p : Value) (a b lo hi at_ : Int) (L : Value) (w : World) (h : 4294967296 ≤ b) :
    Calls Try.prog 50 #[p, inV 64861 a b lo hi L, .int .u32 at_, .bool false] w fun e w' => e = .returned (.tuple #[.int .u64 0, .int .i64 1]) ∧ Below w.heap.size w w' := by
  have HS := Lib.hid (fun W => vsize_5d W)
  go_enter Try.func50, Try.ntmps50
  go_wp2_with (go_at_call 34; (with_reducible refine (HS.out _).mono ?_); rintro e u ⟨rfl, rfl⟩)
  go_ret2
  exact ⟨rfl, (Below.refl _ _).alloc (Nat.le_refl _) _⟩

theorem vmay_5d_nil (a b lo hi at_ : Int) (L : Value) (w : World) (hb : 0 ≤ b ∧ b < 4294967296)  :
    Calls Try.prog 50 #[.pointer none, inV 64861 a b lo hi L, .int .u32 at_, .bool false] w fun e w' => e = .returned (.tuple #[.int .u64 0, .int .i64 2]) ∧ Below w.heap.size w w' := by
  have HS := Lib.hid (fun W => vsize_5d W)
  go_enter Try.func50, Try.ntmps50
  go_wp2_with (go_at_call 34; (with_reducible refine (HS.out _).mono ?_); rintro e u ⟨rfl, rfl⟩)
  go_region
  go_wp2_with fail
  go_ret2
  exact ⟨rfl, ((Below.refl _ _).alloc (Nat.le_refl _) _).drew⟩

end Go.Proofs.Ytlcndenbnokcjaa
